/- LedgerArrival: part of the proof: an evaluator of the model's programs on abstract values, and its soundness. No conditions beyond the given statement's own. -/
import Derived.Orders
import Derived.Laws.Cells
import Derived.Laws.Rows
import Derived.Laws.Strings
import Derived.Laws.Append
import Derived.Laws.Slices
open Decidable renaming decide → Qd
open Nat renaming pow_succ → MK, mul_assoc → I9, mul_comm → LD, le_refl → Hq, le_trans → Jo, lt_of_lt_of_le → Ja, add_assoc → JY, zero_add → I7, add_sub_cancel_left → KT, zero_mul → ML, succ_mul → Jn, mul_le_mul_right → Ir
open BitVec renaming ofInt → G5
open Go.Op renaming bytesLess → LK
open List renaming take_succ_cons → M9, drop_succ_cons → Lm, map_cons → Il, getElem?_append_left → HF, getElem?_eq_some_iff → G9, append_assoc → IA, getElem?_append_right → HT, flatten_cons → Ic, mem_of_getElem? → HL, getElem?_take → JI, head?_eq_getElem? → Mz, mem_cons → HB, getElem?_eq_none → Jr, length_cons → HZ, take_append_of_le_length → Kr, drop_append_of_le_length → Ks, drop_append → Kz, take_of_length_le → H3, drop_eq_nil_of_le → MA, length_append → Hv, length_take → IR, length_drop → Ih, replicate → HA
open Array renaming getElem?_toList → H0, getElem?_eq_getElem → HQ, length_toList → IK
open Go.Instr renaming loadAt → Ky, sureAddr → Jk, storeAt → Mm, indexAt → Ln, index → MM
open Bool renaming and_eq_true → G6, false_eq_true → HO
open Go.Value.pointer renaming injEq → LX
open Option.some renaming injEq → G0
open Go.Sem renaming run_pure → HH
open Prod.mk renaming injEq → G4
open Option renaming map_eq_some_iff → Ha
open Go.Builtin renaming firstCells → H4, lenOf → Ii
namespace Go.Vi
open Go
inductive Dp where
 | v (x:Value)
 | sl (es:List (List Dp))
 deriving Inhabited
inductive Ref where
 | ptr (b off:Nat)
 | vec (b e:Nat)
 | vs (b e i n:Nat) (clip:Option Nat)
 | av (b off n sz:Nat)
 | vp (b e i j:Nat)
 | mp (b:Nat)
 | it (b:Nat)
 | yl (b:Nat)
 deriving Inhabited,DecidableEq
inductive D where
 | p (x:Dp)
 | any
 | ref (r:Ref)
 | ep (cs:List Dp)
 | csl (es:List (List Dp))
 | fn (f:Fn) (fi ca:List D)
 | agg (cs:List D)
 | tup (cs:List D)
 | grd (g:Bool) (d:D)
 deriving Inhabited
inductive Blk where
 | var (cs:List D)
 | vec (es:List (List D)) (e sz:Nat)
 | map (kvs:List (D×D×Nat)) (clock:Nat)
 | sit (s:ByteArray) (pos:Nat)
 | mit (m:Option Nat) (since:Nat) (seen:List Nat) (st:Nat)
 | loop (st:LoopState) (pend:Option Code) (fn:FuncId) (tmps:List D) (params:Array Tmp) (asg body:Code)
 | defd
 | gone
 deriving Inhabited
abbrev Loc:=Nat→Option (Nat×Nat)
section rel
variable (w:World) (av:Nat→Prop)
mutual
def RelP:Dp→Value→Prop
 | .v x,y=>y=x
 | .sl es,y=>(es=[]∧∃a cap,y=.slice a 0 cap∧(a=none→cap=0))∨∃blk off cap sz,y=.slice (some ⟨blk,off,none⟩) es.length cap∧es.length≤cap∧RelRows blk sz off es
def RelRows(blk sz:Nat):Nat→List (List Dp)→Prop
 | _,[]=>True
 | off,e::es=>e.length=sz∧RelCells blk off e∧RelRows blk sz (off+sz) es
def RelCells(blk:Nat):Nat→List Dp→Prop
 | _,[]=>True
 | off,d::ds=>(¬av blk∧∃y,w.cell? ⟨blk,off,none⟩=some y∧RelP d y)∧RelCells blk (off+1) ds
end
end rel
def mkP(o c:Nat):Nat:=2 ^ o*(2*c+1)
theorem b6:∀{o c o' c':Nat},mkP o c=mkP o' c'→o=o'∧c=c'
 | 0,c,0,c',h=>by simp[mkP] at h;exact⟨rfl,by omega⟩
 | 0,c,o'+1,c',h=>by
  exfalso
  simp only[mkP,Nat.pow_zero,Nat.one_mul,MK,I9] at h
  have:2 ^ o'*(2*(2*c'+1))=2*(2 ^ o'*(2*c'+1)):=by rw[←I9,LD (2 ^ o') 2,I9]
  omega
 | o+1,c,0,c',h=>by
  exfalso
  simp only[mkP,Nat.pow_zero,Nat.one_mul,MK,I9] at h
  have:2 ^ o*(2*(2*c+1))=2*(2 ^ o*(2*c+1)):=by rw[←I9,LD (2 ^ o) 2,I9]
  omega
 | o+1,c,o'+1,c',h=>by
  have:mkP o c=mkP o' c':=by
   simp only[mkP,MK,I9] at h ⊢
   have e1:2 ^ o*(2*(2*c+1))=2*(2 ^ o*(2*c+1)):=by rw[←I9,LD (2 ^ o) 2,I9]
   have e2:2 ^ o'*(2*(2*c'+1))=2*(2 ^ o'*(2*c'+1)):=by rw[←I9,LD (2 ^ o') 2,I9]
   omega
  obtain⟨h1,h2⟩:=b6 this
  exact⟨by omega,h2⟩
def fg:Option (Nat×Nat)→Nat→Value→Prop
 | none,n,y=>n=0∧y=.slice none 0 0
 | some (blk,cp),n,y=>∃o cap,cp=mkP o cap∧y=.slice (some ⟨blk,o,none⟩) n cap∧n≤cap
def RefRel(loc:Loc)(h:List Blk)(r:Ref)(y:Value):Prop:=y.oneCell'=true ∧
 match r with
 | .ptr b off=>match h[b]? with
  | some (.var _)=>∃blk cp,loc b=some (blk,cp)∧y=.pointer (some ⟨blk,off,none⟩)
  | some .gone=>True
  | _=>False
 | .vec b e=>match h[b]? with
  | some (.vec es e' _)=>e≤e'∧(e'=e→fg (loc b) es.length y)
  | some .gone=>True
  | _=>False
 | .vs b e i n clip=>match h[b]? with
  | some (.vec es e' sz)=>e≤e'∧(e'=e→i+n≤es.length∧∃blk o cap c2,loc b=some (blk,mkP o cap)∧(y=.slice (some ⟨blk,o+i*sz,none⟩) n c2∨(∃a,y=.slice a n c2∧c2=0))∧n≤c2∧i+c2≤cap∧(∀k,clip=some k→c2=k))
  | some .gone=>True
  | _=>False
 | .av b off n _=>match h[b]? with
  | some (.var _)=>∃blk cp c2,loc b=some (blk,cp)∧y=.slice (some ⟨blk,off,none⟩) n c2∧n≤c2
  | some .gone=>True
  | _=>False
 | .vp b e i j=>match h[b]? with
  | some (.vec _ e' sz)=>e≤e'∧(e'=e→∃blk o cap,loc b=some (blk,mkP o cap)∧y=.pointer (some ⟨blk,o+i*sz+j,none⟩))
  | some .gone=>True
  | _=>False
 | .mp b=>match h[b]? with
  | some (.map _ _)=>∃blk cp,loc b=some (blk,cp)∧y=.map (some blk)
  | some .gone=>True
  | _=>False
 | .it b=>match h[b]? with
  | some (.sit _ _)|some (.mit _ _ _ _)=>∃blk cp,loc b=some (blk,cp)∧y=.pointer (some ⟨blk,0,none⟩)
  | some .gone=>True
  | _=>False
 | .yl b=>match h[b]? with
  | some (.loop ..)=>∃blk cp,loc b=some (blk,cp)∧y=.func (.yield blk) #[] #[]
  | some .gone=>True
  | _=>False
def FnV:Fn→Array Value→Array Value→Value→Prop
 | .yield T,a,c,y=>a=#[]∧∃v,c=#[v]∧y=.iface T v
 | f,a,c,y=>y=.func f a c
section rel
variable (w:World) (av:Nat→Prop) (loc:Loc) (h:List Blk)
mutual
def Rel:D→Value→Prop
 | .p x,y=>RelP w av x y
 | .any,_=>True
 | .ref r,y=>RefRel loc h r y
 | .ep cs,y=>∃blk off,y=.pointer (some ⟨blk,off,none⟩)∧RelCells w av blk off cs
 | .csl es,y=>(es=[]∧∃a,y=.slice a 0 0)∨∃blk off sz,y=.slice (some ⟨blk,off,none⟩) es.length es.length∧RelRows w av blk sz off es
 | .fn f fi ca,y=>∃a c,FnV f a c y∧RelL fi a.toList∧RelL ca c.toList
 | .agg cs,y=>∃vs,y=.agg vs∧RelL cs vs.toList
 | .tup cs,y=>∃vs,y=.tuple vs∧RelL cs vs.toList
 | .grd g d,y=>(g=true→Rel d y)∧(g=false→y=undef)
def RelL:List D→List Value→Prop
 | [],[]=>True
 | d::ds,y::ys=>Rel d y∧RelL ds ys
 | _,_=>False
end
end rel
def own(loc:Loc)(h:List Blk)(blk:Nat):Prop:=∃b x cp,h[b]? = some x∧x ≠ .gone∧loc b=some (blk,cp)
def avs(O:Nat→Prop)(loc:Loc)(h:List Blk)(blk:Nat):Prop:=O blk∨own loc h blk
def RelKV(w:World)(av:Nat→Prop)(loc:Loc)(h:List Blk):List (D×D×Nat)→List MapEntry→Prop
 | [],[]=>True
 | (k,d,n)::kvs,e::es=>Rel w av loc h k e.key∧Rel w av loc h d e.val∧e.born=n∧RelKV w av loc h kvs es
 | _,_=>False
def BlkOk(w:World)(av:Nat→Prop)(loc:Loc)(h:List Blk)(b:Nat):Blk→Prop
 | .var cs=>∃blk cp c T,loc b=some (blk,cp)∧w.heap[blk]? = some (.cells c T (0,0))∧RelL w av loc h cs c.toList
 | .vec es _ sz=>match loc b with
  | none=>es=[]
  | some (blk,cp)=>∃(o cap:Nat),cp=mkP o cap∧∃(c:Array Value) (T:TypeId) (fr:Nat×Nat),∃ys:List Value,w.heap[blk]? = some (.cells c T fr)∧o+cap*sz≤c.size∧es.length≤cap ∧
    (∀o,o<c.size→¬(fr.1≤o∧o<fr.2)) ∧
    (∀e∈es,e.length=sz)∧RelL w av loc h es.flatten ys∧(∃pre rest,pre.length=o∧c.toList=pre++ys++rest)
 | .map kvs clock=>∃blk cp es,loc b=some (blk,cp)∧w.heap[blk]? = some (.map es clock)∧RelKV w av loc h kvs es.toList
 | .sit s pos=>∃blk cp,loc b=some (blk,cp)∧w.heap[blk]? = some (.stringIter s pos)
 | .mit m since seen st=>∃blk cp mr,loc b=some (blk,cp)∧w.heap[blk]? = some (.mapIter mr since seen.toArray st) ∧
   match m with
   | none=>mr=none
   | some mb=>RefRel loc h (.mp mb) (.map mr)
 | .loop st pend f tmps params asg body=>∃blk cp ts dr fn,loc b=some (blk,cp)∧w.heap[blk]? = some (.loop {state:=st,pending:=pend,fn,tmps:=ts,params,assign:=asg,body,defers:=dr}) ∧
   RelL w av loc h tmps ts.toList∧(f=0∨fn=f)
 | .defd=>∃blk cp,loc b=some (blk,cp)∧w.heap[blk]? = some (.deferred (some []))
 | .gone=>True
abbrev ae:=Nat→Option (List Dp)
structure Rep (Γ:ae) (O:Nat→Prop) (w:World) (loc:Loc) (h:List Blk):Prop where
 inb:∀blk,own loc h blk→blk<w.heap.size∧¬O blk
 obd:∀blk,O blk→blk<w.heap.size
 inj:∀b b' x x' k c c',h[b]? = some x→x ≠ .gone→h[b']? = some x'→x' ≠ .gone→loc b=some (k,c)→loc b'=some (k,c')→b=b'
 blk:∀b x,h[b]? = some x→BlkOk w (avs O loc h) loc h b x
 glo:∀g cs,Γ g=some cs→RelCells w (avs O loc h) g 0 cs
def Blk.le:Blk→Blk→Prop
 | _,.gone=>True
 | .var _,.var _=>True
 | .vec es e sz,.vec es' e' sz'=>e≤e'∧(e'=e→es'.length=es.length)∧sz'=sz
 | .map _ _,.map _ _=>True
 | .sit _ _,.sit _ _=>True
 | .loop ..,.loop ..=>True
 | .defd,.defd=>True
 | .mit _ _ _ _,.mit _ _ _ _=>True
 | _,_=>False
def Blk.stays:Blk→Blk→Prop
 | _,.gone=>False
 | .vec _ e _,.vec _ e' _=>e'=e
 | _,_=>True
structure Ext (w:World) (loc:Loc) (h:List Blk) (w':World) (loc':Loc) (h':List Blk):Prop where
 size:w.heap.size≤w'.heap.size
 same:∀blk,blk<w.heap.size→¬own loc h blk→w'.heap[blk]? = w.heap[blk]?
 news:∀blk,own loc' h' blk→own loc h blk∨w.heap.size≤blk
 keep:∀b x,h[b]? = some x→∃x',h'[b]? = some x'∧x.le x'∧(x.stays x'→loc' b=loc b)
 tape:w'.tape=w.tape∧w'.os=w.os∧w'.output=w.output∧w.drawn≤w'.drawn
section
variable {w w':World} {av av':Nat→Prop}
mutual
theorem RelP.mono(hc:∀blk off y,¬av blk→w.cell? ⟨blk,off,none⟩=some y→w'.cell? ⟨blk,off,none⟩=some y∧¬av' blk):
  ∀(d:Dp) (y:Value),RelP w av d y→RelP w' av' d y
 | .v x,y,h=>by simpa[RelP] using h
 | .sl es,y,h=>by
  simp only[RelP] at h ⊢
  rcases h with h|⟨blk,off,cap,sz,h1,h0,h2⟩
  ·exact .inl h
  ·exact .inr ⟨blk,off,cap,sz,h1,h0,RelRows.mono hc blk sz off es h2⟩
theorem RelRows.mono(hc:∀blk off y,¬av blk→w.cell? ⟨blk,off,none⟩=some y→w'.cell? ⟨blk,off,none⟩=some y∧¬av' blk)(blk sz:Nat):
  ∀(off:Nat) (es:List (List Dp)),RelRows w av blk sz off es→RelRows w' av' blk sz off es
 | _,[],_=>by simp[RelRows]
 | off,e::es,h=>by
  simp only[RelRows] at h ⊢
  exact⟨h.1,RelCells.mono hc blk off e h.2.1,RelRows.mono hc blk sz (off+sz) es h.2.2⟩
theorem RelCells.mono(hc:∀blk off y,¬av blk→w.cell? ⟨blk,off,none⟩=some y→w'.cell? ⟨blk,off,none⟩=some y∧¬av' blk)(blk:Nat):
  ∀(off:Nat) (ds:List Dp),RelCells w av blk off ds→RelCells w' av' blk off ds
 | _,[],_=>by simp[RelCells]
 | off,d::ds,h=>by
  simp only[RelCells] at h ⊢
  obtain⟨⟨h1,y,h2,h3⟩,h4⟩:=h
  obtain⟨h5,h6⟩:=hc blk off y h1 h2
  exact⟨⟨h6,y,h5,RelP.mono hc d y h3⟩,RelCells.mono hc blk (off+1) ds h4⟩
end
end
section
variable {loc loc':Loc} {h h':List Blk}
theorem RefRel.mono(hk:∀b x,h[b]? = some x→∃x',h'[b]? = some x'∧x.le x'∧(x.stays x'→loc' b=loc b)):
  ∀(r:Ref) (y:Value),RefRel loc h r y→RefRel loc' h' r y:=by
 rintro r y ⟨h1,hr⟩
 refine⟨h1,?_⟩
 have key:∀b,(∀x,h[b]? = some x→∃x',h'[b]? = some x'∧x.le x'∧(x.stays x'→loc' b=loc b)):=hk
 clear hk
 cases r with
 | ptr b off =>
  simp only at hr ⊢
  cases hx:h[b]? with
  | none=>simp[hx] at hr
  | some x =>
   obtain⟨x',hx',hle,hst⟩:=key b x hx
   rw[hx] at hr;rw[hx']
   cases x<;>cases x'<;>simp only[Blk.le,Blk.stays] at hle hst hr ⊢
   rw[hst trivial];exact hr
 | vec b e =>
  simp only at hr ⊢
  cases hx:h[b]? with
  | none=>simp[hx] at hr
  | some x =>
   obtain⟨x',hx',hle,hst⟩:=key b x hx
   rw[hx] at hr;rw[hx']
   cases x<;>cases x'<;>simp only[Blk.le,Blk.stays] at hle hst hr ⊢
   refine⟨by omega,fun he=>?_⟩
   have h2:=hst (by omega)
   rw[h2,hle.2.1 (by omega)];exact hr.2 (by omega)
 | vs b e i n clip =>
  simp only at hr ⊢
  cases hx:h[b]? with
  | none=>simp[hx] at hr
  | some x =>
   obtain⟨x',hx',hle,hst⟩:=key b x hx
   rw[hx] at hr;rw[hx']
   cases x<;>cases x'<;>simp only[Blk.le,Blk.stays] at hle hst hr ⊢
   refine⟨by omega,fun he=>?_⟩
   have h2:=hst (by omega)
   rw[h2,hle.2.1 (by omega),hle.2.2];exact hr.2 (by omega)
 | vp b e i j =>
  simp only at hr ⊢
  cases hx:h[b]? with
  | none=>simp[hx] at hr
  | some x =>
   obtain⟨x',hx',hle,hst⟩:=key b x hx
   rw[hx] at hr;rw[hx']
   cases x<;>cases x'<;>simp only[Blk.le,Blk.stays] at hle hst hr ⊢
   refine⟨by omega,fun he=>?_⟩
   have h2:=hst (by omega)
   rw[h2,hle.2.2];exact hr.2 (by omega)
 | av b off n sz =>
  simp only at hr ⊢
  cases hx:h[b]? with
  | none=>simp[hx] at hr
  | some x =>
   obtain⟨x',hx',hle,hst⟩:=key b x hx
   rw[hx] at hr;rw[hx']
   cases x<;>cases x'<;>simp only[Blk.le,Blk.stays] at hle hst hr ⊢
   rw[hst trivial];exact hr
 | yl b =>
  simp only at hr ⊢
  cases hx:h[b]? with
  | none=>simp[hx] at hr
  | some x =>
   obtain⟨x',hx',hle,hst⟩:=key b x hx
   rw[hx] at hr;rw[hx']
   cases x<;>cases x'<;>simp only[Blk.le,Blk.stays] at hle hst hr ⊢
   rw[hst trivial];exact hr
 | mp b =>
  simp only at hr ⊢
  cases hx:h[b]? with
  | none=>simp[hx] at hr
  | some x =>
   obtain⟨x',hx',hle,hst⟩:=key b x hx
   rw[hx] at hr;rw[hx']
   cases x<;>cases x'<;>simp only[Blk.le,Blk.stays] at hle hst hr ⊢
   rw[hst trivial];exact hr
 | it b =>
  simp only at hr ⊢
  cases hx:h[b]? with
  | none=>simp[hx] at hr
  | some x =>
   obtain⟨x',hx',hle,hst⟩:=key b x hx
   rw[hx] at hr;rw[hx']
   cases x<;>cases x'<;>simp only[Blk.le,Blk.stays] at hle hst hr ⊢ <;> (rw[hst trivial];exact hr)
end
section
variable {w w':World} {av av':Nat→Prop} {loc loc':Loc} {h h':List Blk}
mutual
theorem Rel.mono(hc:∀blk off y,¬av blk→w.cell? ⟨blk,off,none⟩=some y→w'.cell? ⟨blk,off,none⟩=some y∧¬av' blk)
  (hk:∀b x,h[b]? = some x→∃x',h'[b]? = some x'∧x.le x'∧(x.stays x'→loc' b=loc b)) :
  ∀(d:D) (y:Value),Rel w av loc h d y→Rel w' av' loc' h' d y
 | .p x,y,r=>RelP.mono hc x y r
 | .any,_,_=>by simp[Rel]
 | .ref r,y,hr=>RefRel.mono hk r y hr
 | .ep cs,y,r=>by
  simp only[Rel] at r ⊢
  obtain⟨blk,off,h1,h2⟩:=r
  exact⟨blk,off,h1,RelCells.mono hc blk off cs h2⟩
 | .csl es,y,r=>by
  simp only[Rel] at r ⊢
  rcases r with r|⟨blk,off,sz,h1,h2⟩
  ·exact .inl r
  ·exact .inr ⟨blk,off,sz,h1,RelRows.mono hc blk sz off es h2⟩
 | .fn f fi ca,y,r=>by
  simp only[Rel] at r ⊢
  obtain⟨a,c,h1,h2,h3⟩:=r
  exact⟨a,c,h1,RelL.mono hc hk _ _ h2,RelL.mono hc hk _ _ h3⟩
 | .agg cs,y,r=>by
  simp only[Rel] at r ⊢
  obtain⟨vs,h1,h2⟩:=r
  exact⟨vs,h1,RelL.mono hc hk _ _ h2⟩
 | .tup cs,y,r=>by
  simp only[Rel] at r ⊢
  obtain⟨vs,h1,h2⟩:=r
  exact⟨vs,h1,RelL.mono hc hk _ _ h2⟩
 | .grd g d,y,r=>by
  simp only[Rel] at r ⊢
  exact⟨fun hg=>Rel.mono hc hk d y (r.1 hg),r.2⟩
theorem RelL.mono(hc:∀blk off y,¬av blk→w.cell? ⟨blk,off,none⟩=some y→w'.cell? ⟨blk,off,none⟩=some y∧¬av' blk)
  (hk:∀b x,h[b]? = some x→∃x',h'[b]? = some x'∧x.le x'∧(x.stays x'→loc' b=loc b)) :
  ∀(ds:List D) (ys:List Value),RelL w av loc h ds ys→RelL w' av' loc' h' ds ys
 | [],[],_=>by simp[RelL]
 | d::ds,y::ys,r=>by
  simp only[RelL] at r ⊢
  exact⟨Rel.mono hc hk d y r.1,RelL.mono hc hk ds ys r.2⟩
 | [],_::_,r=>by simp[RelL] at r
 | _::_,[],r=>by simp[RelL] at r
end
end
theorem pP{w w':World}{blk:Nat}(h:w'.heap[blk]? = w.heap[blk]?)(off:Nat):w'.cell? ⟨blk,off,none⟩=w.cell? ⟨blk,off,none⟩:=by
 simp only[World.cell?,h]
theorem mW{w:World}{blk off:Nat}{y:Value}(h:w.cell? ⟨blk,off,none⟩=some y):blk<w.heap.size:=block_lt_of_cell h
theorem Blk.le_refl(x:Blk):x.le x:=by cases x<;>simp[Blk.le]
theorem Blk.le_trans{x y z:Blk}(h1:x.le y)(h2:y.le z):x.le z:=by
 cases x<;>cases y<;>simp only[Blk.le] at h1<;>cases z<;>simp only[Blk.le] at h2 ⊢
 obtain⟨a1,a2,a3⟩:=h1
 obtain⟨b1,b2,b3⟩:=h2
 refine⟨by omega,fun he=>?_,by omega⟩
 rw[b2 (by omega),a2 (by omega)]
theorem Blk.stays_of{x y z:Blk}(h1:x.le y)(h2:y.le z)(h:x.stays z):x.stays y∧y.stays z:=by
 cases x<;>cases y<;>simp only[Blk.le] at h1<;>cases z<;>simp only[Blk.le] at h2<;>simp only[Blk.stays,and_self] at h ⊢
 omega
theorem Ext.refl(w:World)(loc:Loc)(h:List Blk):Ext w loc h w loc h :=
 ⟨Hq _,fun _ _ _=>rfl,fun _ h=>.inl h,fun _ x hx=>⟨x,hx,x.le_refl,fun _=>rfl⟩,rfl,rfl,rfl,Hq _⟩
theorem Ext.trans{w w1 w2:World}{l l1 l2:Loc}{h h1 h2:List Blk}(a:Ext w l h w1 l1 h1)(b:Ext w1 l1 h1 w2 l2 h2):Ext w l h w2 l2 h2 where
 size:=Jo a.size b.size
 same:=fun blk hb hn=>by
  rw[b.same blk (Ja hb a.size) (fun ho=>(a.news blk ho).elim hn (fun hh=>absurd hb (by omega))),a.same blk hb hn]
 news:=fun blk ho=>(b.news blk ho).elim (a.news blk) (fun hh=>.inr (Jo a.size hh))
 keep:=fun i x hx=>by
  obtain⟨x1,hx1,le1,st1⟩:=a.keep i x hx
  obtain⟨x2,hx2,le2,st2⟩:=b.keep i x1 hx1
  refine⟨x2,hx2,Blk.le_trans le1 le2,fun hs=>?_⟩
  obtain⟨s1,s2⟩:=Blk.stays_of le1 le2 hs
  rw[st2 s2,st1 s1]
 tape:=⟨b.tape.1.trans a.tape.1,b.tape.2.1.trans a.tape.2.1,b.tape.2.2.1.trans a.tape.2.2.1,Jo a.tape.2.2.2 b.tape.2.2.2⟩
theorem Ext.hc{O:Nat→Prop}{w w':World}{l l':Loc}{h h':List Blk}(a:Ext w l h w' l' h'):
  ∀blk off y,¬avs O l h blk→w.cell? ⟨blk,off,none⟩=some y→w'.cell? ⟨blk,off,none⟩=some y∧¬avs O l' h' blk:=by
 intro blk off y hn hc
 have hlt:=mW hc
 refine⟨?_,fun hv=>?_⟩
 ·rw[pP (a.same blk hlt (fun ho=>hn (.inr ho)))];exact hc
 ·rcases hv with hv|hv
  ·exact hn (.inl hv)
  ·rcases a.news blk hv with h1|h1
   ·exact hn (.inr h1)
   ·omega
theorem Ext.rel{O:Nat→Prop}{w w':World}{l l':Loc}{h h':List Blk}(a:Ext w l h w' l' h'){d:D}{y:Value}
  (r:Rel w (avs O l h) l h d y):Rel w' (avs O l' h') l' h' d y:=Rel.mono a.hc a.keep d y r
theorem Ext.relL{O:Nat→Prop}{w w':World}{l l':Loc}{h h':List Blk}(a:Ext w l h w' l' h'){d:List D}{y:List Value}
  (r:RelL w (avs O l h) l h d y):RelL w' (avs O l' h') l' h' d y:=RelL.mono a.hc a.keep d y r
theorem Ext.relP{O:Nat→Prop}{w w':World}{l l':Loc}{h h':List Blk}(a:Ext w l h w' l' h'){d:Dp}{y:Value}
  (r:RelP w (avs O l h) d y):RelP w' (avs O l' h') d y:=RelP.mono a.hc d y r
theorem Ext.relKV{O:Nat→Prop}{w w':World}{l l':Loc}{h h':List Blk}(a:Ext w l h w' l' h'):∀{d:List (D×D×Nat)} {y:List MapEntry},
  RelKV w (avs O l h) l h d y→RelKV w' (avs O l' h') l' h' d y
 | [],[],_=>by simp[RelKV]
 | (k,d,n)::ds,e::es,r=>by
  simp only[RelKV] at r ⊢
  exact⟨a.rel r.1,a.rel r.2.1,r.2.2.1,a.relKV r.2.2.2⟩
 | [],_::_,r=>by simp[RelKV] at r
 | _::_,[],r=>by simp[RelKV] at r
theorem BlkOk.ext{O:Nat→Prop}{w w':World}{l l':Loc}{h h':List Blk}(a:Ext w l h w' l' h'){b:Nat}{x:Blk}(hl:l' b=l b)
  (hh:∀blk cp,l b=some (blk,cp)→w'.heap[blk]? = w.heap[blk]?) (r:BlkOk w (avs O l h) l h b x):BlkOk w' (avs O l' h') l' h' b x:=by
 cases x with
 | var cs =>
  obtain⟨blk,cp,c,T,h1,h2,h3⟩:=r
  exact⟨blk,cp,c,T,by rw[hl,h1],by rw[hh blk cp h1,h2],a.relL h3⟩
 | vec es e sz =>
  simp only[BlkOk,hl] at r ⊢
  cases hlb:l b with
  | none=>simp only[hlb] at r ⊢;exact r
  | some p =>
   obtain⟨blk,cap⟩:=p
   simp only[hlb] at r ⊢
   obtain⟨oo,cc,rc,c,T,fr,ys,h1,h2,h3,h4,h5,h6,h7⟩:=r
   exact⟨oo,cc,rc,c,T,fr,ys,by rw[hh blk cap hlb,h1],h2,h3,h4,h5,a.relL h6,h7⟩
 | map kvs clock =>
  obtain⟨blk,cp,es,h1,h2,h3⟩:=r
  exact⟨blk,cp,es,by rw[hl,h1],by rw[hh blk cp h1,h2],a.relKV h3⟩
 | sit s pos =>
  obtain⟨blk,cp,h1,h2⟩:=r
  exact⟨blk,cp,by rw[hl,h1],by rw[hh blk cp h1,h2]⟩
 | mit m since seen st =>
  obtain⟨blk,cp,mr,h1,h2,h3⟩:=r
  refine⟨blk,cp,mr,by rw[hl,h1],by rw[hh blk cp h1,h2],?_⟩
  cases m with
  | none=>exact h3
  | some mb=>exact RefRel.mono a.keep _ _ h3
 | loop st pend fn tmps params asg body =>
  obtain⟨blk,cp,ts,dr,fn',h1,h2,h3,h4⟩:=r
  exact⟨blk,cp,ts,dr,fn',by rw[hl,h1],by rw[hh blk cp h1,h2],a.relL h3,h4⟩
 | defd =>
  obtain⟨blk,cp,h1,h2⟩:=r
  exact⟨blk,cp,by rw[hl,h1],by rw[hh blk cp h1,h2]⟩
 | gone=>trivial
theorem Rep.step{Γ:ae}{O:Nat→Prop}{w w':World}{l l':Loc}{h h':List Blk}(R:Rep Γ O w l h)(b0:Nat)(x':Blk)
  (hsz:w.heap.size≤w'.heap.size)
  (ht:w'.tape=w.tape∧w'.os=w.os∧w'.output=w.output∧w.drawn≤w'.drawn)
  (hh:∀b,b ≠ b0→h'[b]? = h[b]?) (hb0:h'[b0]? = some x') (hl:∀b,b ≠ b0→l' b=l b)
  (hle:∀x,h[b0]? = some x→x.le x'∧(x.stays x'→l' b0=l b0))
  (hw:∀blk,blk<w.heap.size→(∀x cp,h[b0]? = some x→x ≠ .gone→l b0 ≠ some (blk,cp))→w'.heap[blk]? = w.heap[blk]?)
  (hn:∀k c,l' b0=some (k,c)→(∃x c',h[b0]? = some x∧x ≠ .gone∧l b0=some (k,c'))∨(w.heap.size≤k∧k<w'.heap.size))
  (hok:Ext w l h w' l' h'→BlkOk w' (avs O l' h') l' h' b0 x'):Rep Γ O w' l' h'∧Ext w l h w' l' h':=by
 have E:Ext w l h w' l' h':=by
  refine⟨hsz,fun blk hb hno=>hw blk hb fun x cp hx hg hlo=>hno ⟨b0,x,cp,hx,hg,hlo⟩,?_,?_,ht⟩
  ·rintro blk ⟨b,x,cp,hx,hg,hlo⟩
   by_cases hb:b=b0
   ·subst hb
    rcases hn blk cp hlo with ⟨y,c',h1,h2,h3⟩|h1
    ·exact .inl ⟨b,y,c',h1,h2,h3⟩
    ·exact .inr h1.1
   ·exact .inl ⟨b,x,cp,by rw[←hh b hb,hx],hg,by rw[←hl b hb,hlo]⟩
  ·intro b x hx
   by_cases hb:b=b0
   ·subst hb;exact⟨x',hb0,hle x hx⟩
   ·exact⟨x,by rw[hh b hb,hx],x.le_refl,fun _=>hl b hb⟩
 refine⟨⟨?_,?_,?_,?_,?_⟩,E⟩
 ·rintro blk ⟨b,x,cp,hx,hg,hlo⟩
  by_cases hb:b=b0
  ·subst hb
   rcases hn blk cp hlo with ⟨y,c',h1,h2,h3⟩|h1
   ·have:=R.inb blk ⟨b,y,c',h1,h2,h3⟩;exact⟨by omega,this.2⟩
   ·exact⟨h1.2,fun ho=>by have:=R.obd blk ho;omega⟩
  ·have:=R.inb blk ⟨b,x,cp,by rw[←hh b hb,hx],hg,by rw[←hl b hb,hlo]⟩
   exact⟨by omega,this.2⟩
 ·exact fun blk ho=>Ja (R.obd blk ho) hsz
 ·intro b b' x y k c c' hx hxg hy hyg hlb hlb'
  by_cases hb:b=b0
  ·by_cases hb':b'=b0
   ·rw[hb,hb']
   ·exfalso
    subst hb
    rw[hh b' hb'] at hy;rw[hl b' hb'] at hlb'
    rcases hn k c hlb with ⟨z,c'',h1,h2,h3⟩|h1
    ·exact hb' (R.inj b b' z y k c'' c' h1 h2 hy hyg h3 hlb').symm
    ·have:=(R.inb k ⟨b',y,c',hy,hyg,hlb'⟩).1;omega
  ·by_cases hb':b'=b0
   ·exfalso
    subst hb'
    rw[hh b hb] at hx;rw[hl b hb] at hlb
    rcases hn k c' hlb' with ⟨z,c'',h1,h2,h3⟩|h1
    ·exact hb (R.inj b b' x z k c c'' hx hxg h1 h2 hlb h3)
    ·have:=(R.inb k ⟨b,x,c,hx,hxg,hlb⟩).1;omega
   ·rw[hh b hb] at hx;rw[hl b hb] at hlb;rw[hh b' hb'] at hy;rw[hl b' hb'] at hlb'
    exact R.inj b b' x y k c c' hx hxg hy hyg hlb hlb'
 ·intro b x hx
  by_cases hb:b=b0
  ·subst hb;rw[hb0] at hx;cases hx;exact hok E
  ·rw[hh b hb] at hx
   by_cases hg:x=.gone
   ·subst hg;trivial
   refine BlkOk.ext E (hl b hb) (fun blk cp hlo=>?_) (R.blk b x hx)
   refine hw blk (R.inb blk ⟨b,x,cp,hx,hg,hlo⟩).1 fun y cp' hy hyg hlo'=>?_
   exact hb (R.inj b b0 x y blk cp cp' hx hg hy hyg hlo hlo')
 ·exact fun g cs hg=>RelCells.mono E.hc g 0 cs (R.glo g cs hg)
theorem Rep.of_heap{Γ:ae}{O:Nat→Prop}{w w':World}{l:Loc}{h:List Blk}(R:Rep Γ O w l h)(hh:w'.heap=w.heap)
  (ht:w'.tape=w.tape∧w'.os=w.os∧w'.output=w.output∧w.drawn≤w'.drawn):Rep Γ O w' l h∧Ext w l h w' l h:=by
 have E:Ext w l h w' l h:=⟨by rw[hh];exact Hq _,fun _ _ _=>by rw[hh],fun _ h=>.inl h,fun b x hx=>⟨x,hx,x.le_refl,fun _=>rfl⟩,ht⟩
 refine⟨⟨fun blk ho=>?_,fun blk ho=>by rw[hh];exact R.obd blk ho,R.inj,fun b x hx=>BlkOk.ext E rfl (fun _ _ _=>by rw[hh]) (R.blk b x hx),
  fun g cs hg=>RelCells.mono E.hc g 0 cs (R.glo g cs hg)⟩,E⟩
 have:=R.inb blk ho
 rw[hh];exact this
abbrev lit(x:Value):D:=.p (.v x)
def mX:Value→D
 | .agg cs=>.agg (cs.toList.map lit)
 | .tuple _=>.any
 | v=>lit v
def evalD(Γ:ae)(t:List D):Operand→D
 | .tmp i=>t.getD i .any
 | .const v=>mX v
 | .global g=>match Γ g with
  | some cs=>.ep cs
  | none=>.any
 | .func f=>lit (.func (.func f) #[] #[])
def D.one:D→Bool
 | .p (.v x)=>x.oneCell'
 | .p (.sl _)=>true
 | .ref _=>true
 | .ep _=>true
 | .csl _=>true
 | .fn _ _ _=>true
 | _=>false
def D.cells:D→Option (List D)
 | .agg cs=>if cs.all D.one then some cs else none
 | d=>if d.one then some [d] else none
def szOf(P:Program)(t:TypeId):Option Nat:=(P.info? t).map (·.size)
def wr(P:Program)(t:TypeId):Option Bool :=
 match P.underlying t with
 | some (.struct _)|some (.array _ _)=>some true
 | some _=>some false
 | none=>none
def cm(P:Program)(t:TypeId)(cs:List D):Option D :=
 match wr P t,szOf P t with
 | some true,some n=>if n≤cs.length then some (.agg (cs.take n)) else none
 | some false,some _=>cs.head?
 | _,_=>none
def fd(P:Program)(t:TypeId):Option Value:=(P.info? t).bind (·.zero)
def cP(P:Program)(t:TypeId):Option (List D):=(fd P t).map fun v=>v.cells.toList.map lit
def aF(cs:List D)(off:Nat)(new:List D):List D:=cs.take off++new++cs.drop (off+new.length)
def pQ(place:Nat→Option (Nat×Nat))(cs:List D):List (Nat×D)→Option (List D)
 | []=>some cs
 | (i,d)::rest =>
  match place i,d.cells with
  | some (off,size),some new=>if new.length=size∧off+size≤cs.length then pQ place (aF cs off new) rest else none
  | _,_=>none
def sX(P:Program)(fields:Array Field):Option (List (Nat×Nat)) :=
 fields.toList.mapM fun f=>(szOf P f.type).map fun n=>(f.offset,n)
def wy(P:Program)(t:TypeId)(parts:List (Nat×D)):Option D :=
 match P.underlying t,cP P t with
 | some (.struct fields),some z =>
  match sX P fields with
  | some pl=>(pQ (pl[·]?) z parts).map .agg
  | none=>none
 | some (.array _ elem),some z =>
  match szOf P elem with
  | some n=>(pQ (fun i=>some (i*n,n)) z parts).map .agg
  | none=>none
 | _,_=>none
def chunk(n:Nat):Nat→List D→List (List D)
 | 0,_=>[]
 | k+1,cs=>cs.take n::chunk n k (cs.drop n)
def cn(P:Program)(t:TypeId):Option TypeId :=
 match P.underlying t with
 | some (.slice e)=>some e
 | _=>none
def aD(P:Program)(h:List Blk)(t:TypeId):D→Option D
 | .ref (.ptr b off)=>match h[b]? with
  | some (.var cs)=>cm P t (cs.drop off)
  | _=>none
 | .ref (.vp b e i j)=>match h[b]? with
  | some (.vec es e' _)=>if e=e' then (match es[i]? with
   | some row=>cm P t (row.drop j)
   | none=>none) else none
  | _=>none
 | .ep cs=>cm P t (cs.map .p)
 | _=>none
def aw(P:Program)(h:List Blk)(t:TypeId)(a x:D):Option (List Blk) :=
 match x.cells,szOf P t with
 | some new,some n=>if new.length=n then (match a with
  | .ref (.ptr b off)=>match h[b]? with
   | some (.var cs)=>if off+n≤cs.length then some (h.set b (.var (aF cs off new))) else none
   | _=>none
  | .ref (.vp b e i j)=>match h[b]? with
   | some (.vec es e' sz)=>if e=e' then (match es[i]? with
    | some row=>if j+n≤sz then some (h.set b (.vec (es.set i (aF row j new)) e sz)) else none
    | none=>none) else none
   | _=>none
  | _=>none) else none
 | _,_=>none
def dV(P:Program)(s:TypeId)(f:Nat):Option Field :=
 match P.underlying s with
 | some (.struct fields)=>fields[f]?
 | _=>none
def mJ(h:List Blk):Ref→Bool
 | .ptr b _=>match h[b]? with
  | some (.var _)=>true
  | _=>false
 | .vp b e _ _=>match h[b]? with
  | some (.vec _ e' _)=>Qd (e'=e)
  | _=>false
 | _=>false
def sY(n:Nat):Ref→Ref
 | .ptr b off=>.ptr b (off+n)
 | .vp b e i j=>.vp b e i (j+n)
 | r=>r
def pR(h:List Blk)(n:Nat):D→Option D
 | .ref r=>if mJ h r then some (.ref (sY n r)) else none
 | .ep cs=>some (.ep (cs.drop n))
 | _=>none
def dW(P:Program)(h:List Blk)(s:TypeId)(f:Nat)(x:D):Option D :=
 match dV P s f with
 | some i=>match szOf P i.type with
  | some (_+1)=>pR h i.offset x
  | _=>none
 | none=>none
def sZ(P:Program)(s:TypeId)(f:Nat):D→Option D
 | .agg cs=>match dV P s f with
  | some i=>cm P i.type (cs.drop i.offset)
  | none=>none
 | _=>none
def intOf?:D→Option (IntKind×Int)
 | .p (.v (.int k n))=>some (k,n)
 | _=>none
def lenD(h:List Blk):D→Option Nat
 | .p (.v (.slice none 0 0))=>some 0
 | .p (.sl es)=>some es.length
 | .csl es=>some es.length
 | .ref (.vec b e)=>match h[b]? with
  | some (.vec es e' _)=>if e=e' then some es.length else none
  | _=>none
 | .ref (.vs b e _ n _)=>match h[b]? with
  | some (.vec _ e' _)=>if e=e' then some n else none
  | _=>none
 | .ref (.av b _ n _)=>match h[b]? with
  | some (.var _)=>some n
  | _=>none
 | _=>none
def inR(i:Int)(n:Nat):Bool:=Qd (0≤i)&&Qd (i.toNat<n)
def aJ(P:Program)(h:List Blk)(t:TypeId)(x ix:D):Option (Bool×D) :=
 match intOf? ix with
 | none=>none
 | some (_,i) =>
  match P.underlying t with
  | some (.slice elem) =>
   match szOf P elem,x with
   | some n,.p (.sl es)=>let row:=es.getD i.toNat [];some (inR i es.length&&Qd (row.length=n),.ep row)
   | some n,.ref (.vec b e)=>match h[b]? with
    | some (.vec es e' sz)=>if e=e'∧sz=n then some (inR i es.length,.ref (.vp b e i.toNat 0)) else none
    | _=>none
   | some n,.ref (.vs b e k m _)=>match h[b]? with
    | some (.vec _ e' sz)=>if e=e'∧sz=n then some (inR i m,.ref (.vp b e (k+i.toNat) 0)) else none
    | _=>none
   | some n,.ref (.av b off m sz)=>match h[b]? with
    | some (.var _)=>if sz=n then some (inR i m,.ref (.ptr b (off+i.toNat*n))) else none
    | _=>none
   | some n,.csl es=>let row:=es.getD i.toNat [];some (inR i es.length&&Qd (row.length=n),.ep row)
   | _,_=>none
  | some (.array len elem) =>
   match szOf P elem with
   | some n=>(pR h (i.toNat*n) x).map fun d=>(inR i len,d)
   | none=>none
  | _=>none
def mY(P:Program)(t:TypeId)(x ix:D):Option (Bool×D) :=
 match intOf? ix with
 | none=>none
 | some (_,i) =>
  match P.underlying t,x with
  | some (.array len elem),.agg cs =>
   match szOf P elem with
   | some n=>(cm P elem (cs.drop (i.toNat*n))).map fun d=>(inR i len,d)
   | none=>none
  | some .string,.p (.v (.string s))=>some (inR i s.size,lit (.int .u8 (s.data.getD i.toNat 0).toNat))
  | _,_=>none
def wz(op:BinOp)(k:IntKind)(x y:Int):Option Int :=
 let a:=G5 k.bits x
 let b:=G5 k.bits y
 match op with
 | .and=>some (k.wrap (a &&& b).toNat)
 | .or=>some (k.wrap (a ||| b).toNat)
 | .xor=>some (k.wrap (a ^^^ b).toNat)
 | .andNot=>some (k.wrap (a &&& ~~~b).toNat)
 | _=>none
def intOp(op:BinOp)(k:IntKind)(a b:Int):Option (Bool×D) :=
 match op with
 | .add=>some (true,lit (.int k (k.wrap (a+b))))
 | .sub=>some (true,lit (.int k (k.wrap (a - b))))
 | .mul=>some (true,lit (.int k (k.wrap (a*b))))
 | .quo=>some (!Qd (b=0),lit (.int k (k.wrap (a.tdiv b))))
 | .rem=>some (!Qd (b=0),lit (.int k (a.tmod b)))
 | .eql=>some (true,lit (.bool (a==b)))
 | .neq=>some (true,lit (.bool (a != b)))
 | .lss=>some (true,lit (.bool (Qd (a<b))))
 | .leq=>some (true,lit (.bool (Qd (a≤b))))
 | .gtr=>some (true,lit (.bool (Qd (a>b))))
 | .geq=>some (true,lit (.bool (Qd (a≥b))))
 | op=>(wz op k a b).map fun n=>(true,lit (.int k n))
def eqS(a b:ByteArray):Bool:=a.data.toList==b.data.toList
def strOp(op:BinOp)(a b:ByteArray):Option (Bool×D) :=
 match op with
 | .add=>some (Qd (a.size+b.size≤9223372036854775807),lit (.string (a++b)))
 | .eql=>some (true,lit (.bool (eqS a b)))
 | .neq=>some (true,lit (.bool (!eqS a b)))
 | .lss=>some (true,lit (.bool (LK a.data.toList b.data.toList)))
 | .leq=>some (true,lit (.bool (LK a.data.toList b.data.toList||eqS a b)))
 | .gtr=>some (true,lit (.bool (!(LK a.data.toList b.data.toList||eqS a b))))
 | .geq=>some (true,lit (.bool (!LK a.data.toList b.data.toList)))
 | _=>none
def binD(op:BinOp)(x y:D):Option (Bool×D) :=
 match x,y with
 | .p (.v (.int k a)),.p (.v (.int k' b)) =>
  match op with
  | .shl=>some (Qd (0≤b),lit (.int k (k.wrap (a*2 ^ (min b.toNat k.bits)))))
  | .shr=>some (Qd (0≤b),lit (.int k (a.fdiv (2 ^ (min b.toNat k.bits)))))
  | op=>if k=k' then intOp op k a b else none
 | .p (.v (.string a)),.p (.v (.string b))=>strOp op a b
 | _,_=>none
def unD(op:UnOp):D→Option D
 | .p (.v (.int k n))=>match op with
  | .neg=>some (lit (.int k (k.wrap (0 - n))))
  | .xor=>(wz .xor k (if k.signed then -1 else k.max) n).map fun m=>lit (.int k m)
  | _=>none
 | .p (.v (.bool b))=>match op with
  | .not=>some (lit (.bool (!b)))
  | _=>none
 | _=>none
def pickD(x a b:D):Option (Bool×D) :=
 match x with
 | .p (.v (.bool c)) =>
  match a,b with
  | .p (.v (.bool p)),.p (.v (.bool q))=>some (true,lit (.bool (cond c p q)))
  | .p (.v (.bool p)),.grd g (.p (.v (.bool q)))=>some (c||g,lit (.bool (cond c p q)))
  | .grd g (.p (.v (.bool p))),.p (.v (.bool q))=>some (!c||g,lit (.bool (cond c p q)))
  | a,b=>some (true,cond c a b)
 | _=>none
section lists
variable {w:World} {av:Nat→Prop} {loc:Loc} {h:List Blk}
theorem RelL.length:∀{ds:List D} {ys:List Value},RelL w av loc h ds ys→ds.length=ys.length
 | [],[],_=>rfl
 | _::ds,_::ys,r=>by simp only[RelL] at r;simp[RelL.length r.2]
 | [],_::_,r=>by simp[RelL] at r
 | _::_,[],r=>by simp[RelL] at r
theorem RelL.get:∀{ds:List D} {ys:List Value} (_:RelL w av loc h ds ys) (i:Nat) {d:D},ds[i]? = some d→∃y,ys[i]? = some y∧Rel w av loc h d y
 | d::_,y::_,r,0,d',hd=>by simp only[RelL] at r;simp at hd;subst hd;exact⟨y,by simp,r.1⟩
 | _::ds,_::ys,r,i+1,d',hd=>by simp only[RelL] at r;simp at hd;simpa using RelL.get r.2 i hd
 | [],_,_,_,_,hd=>by simp at hd
 | _::_,[],r,_,_,_=>by simp[RelL] at r
theorem RelL.take:∀{ds:List D} {ys:List Value} (n:Nat),RelL w av loc h ds ys→RelL w av loc h (ds.take n) (ys.take n)
 | [],[],n,_=>by simp[RelL]
 | d::ds,y::ys,0,_=>by simp[RelL]
 | d::ds,y::ys,n+1,r=>by simp only[RelL,M9] at r ⊢;exact⟨r.1,RelL.take n r.2⟩
 | [],_::_,_,r=>by simp[RelL] at r
 | _::_,[],_,r=>by simp[RelL] at r
theorem RelL.drop:∀{ds:List D} {ys:List Value} (n:Nat),RelL w av loc h ds ys→RelL w av loc h (ds.drop n) (ys.drop n)
 | [],[],n,_=>by simp[RelL]
 | d::ds,y::ys,0,r=>by simpa using r
 | d::ds,y::ys,n+1,r=>by simp only[RelL,Lm] at r ⊢;exact RelL.drop n r.2
 | [],_::_,_,r=>by simp[RelL] at r
 | _::_,[],_,r=>by simp[RelL] at r
theorem RelL.append:∀{ds:List D} {ys:List Value} {ds':List D} {ys':List Value},RelL w av loc h ds ys→RelL w av loc h ds' ys'→RelL w av loc h (ds++ds') (ys++ys')
 | [],[],_,_,_,r'=>by simpa using r'
 | d::ds,y::ys,_,_,r,r'=>by simp only[RelL,List.cons_append] at r ⊢;exact⟨r.1,RelL.append r.2 r'⟩
 | [],_::_,_,_,r,_=>by simp[RelL] at r
 | _::_,[],_,_,r,_=>by simp[RelL] at r
theorem RelL.lits:∀(ys:List Value),RelL w av loc h (ys.map lit) ys
 | []=>by simp[RelL]
 | y::ys=>by simp only[Il,RelL];exact⟨by simp[Rel,RelP],RelL.lits ys⟩
end lists
theorem rel_lit(w:World)(av:Nat→Prop)(loc:Loc)(h:List Blk)(x:Value):Rel w av loc h (lit x) x:=by simp[Rel,RelP]
theorem ja(w:World)(av:Nat→Prop)(loc:Loc)(h:List Blk)(x:Value):Rel w av loc h (mX x) x:=by
 cases x<;>first
  | exact rel_lit w av loc h _
  | (simp only[mX,Rel];exact⟨_,rfl,RelL.lits _⟩)
  | simp[mX,Rel]
theorem aA{Γ:ae}{O:Nat→Prop}{w:World}{loc:Loc}{h:List Blk}(R:Rep Γ O w loc h){t:List D}{a:Act}
  (ht:RelL w (avs O loc h) loc h t a.tmps.toList) (x:Operand):Rel w (avs O loc h) loc h (evalD Γ t x) (a.eval x):=by
 cases x with
 | tmp i =>
  simp only[evalD,Act.eval]
  cases hi:t[i]? with
  | none=>simp[List.getD,hi,Rel]
  | some d =>
   obtain⟨y,hy,r⟩:=ht.get i hi
   have:a.tmps.getD i undef=y:=by
    rw[H0] at hy
    simp[hy]
   rw[this];simpa[List.getD,hi] using r
 | const v=>exact ja _ _ _ _ v
 | global g =>
  simp only[evalD,Act.eval]
  cases hg:Γ g with
  | none=>simp[Rel]
  | some cs=>simp only[Rel];exact⟨g,0,rfl,R.glo g cs hg⟩
 | func f=>exact rel_lit _ _ _ _ _
@[simp] theorem b7 (b o n : Nat) : Addr.add ⟨b, o, none⟩ n = ⟨b, o + n, none⟩ := by
 unfold Addr.add;split
 ·rename_i h;subst h;rfl
 ·rfl
def CellsAt(w:World)(av:Nat→Prop)(loc:Loc)(h:List Blk)(blk off:Nat)(cs:List D):Prop :=
 ∀j d,cs[j]? = some d→∃y,w.cell? ⟨blk,off+j,none⟩=some y∧Rel w av loc h d y
theorem CellsAt.drop{w:World}{av:Nat→Prop}{loc:Loc}{h:List Blk}{blk off:Nat}{cs:List D}(c:CellsAt w av loc h blk off cs)(n:Nat):
  CellsAt w av loc h blk (off+n) (cs.drop n):=fun j d hd=>by
 obtain⟨y,h1,h2⟩:=c (n+j) d (by simpa using hd)
 exact⟨y,by rw[JY];exact h1,h2⟩
theorem CellsAt.of_rel{w:World}{av:Nat→Prop}{loc:Loc}{h:List Blk}{blk:Nat}{cs:List D}{c:Array Value}{T:TypeId}{fr:Nat×Nat}
  (hb:w.heap[blk]? = some (.cells c T fr)) {ys rest:List Value} (hc:c.toList=ys++rest) (r:RelL w av loc h cs ys):CellsAt w av loc h blk 0 cs:=fun j d hd=>by
 obtain⟨y,h1,h2⟩:=r.get j hd
 refine⟨y,?_,h2⟩
 rw[cell_of_row w blk (0+j) c T fr hb,←H0,hc,I7,HF (G9.1 h1).1,h1]
theorem CellsAt.of_relO{w:World}{av:Nat→Prop}{loc:Loc}{h:List Blk}{blk o:Nat}{cs:List D}{c:Array Value}{T:TypeId}{fr:Nat×Nat}
  (hb:w.heap[blk]? = some (.cells c T fr)) {pre ys rest:List Value} (hp:pre.length=o) (hc:c.toList=pre++ys++rest) (r:RelL w av loc h cs ys):CellsAt w av loc h blk o cs:=fun j d hd=>by
 obtain⟨y,h1,h2⟩:=r.get j hd
 refine⟨y,?_,h2⟩
 rw[cell_of_row w blk (o+j) c T fr hb,←H0,hc,IA,HT (by omega),hp,KT,HF (G9.1 h1).1,h1]
theorem CellsAt.of_cells{w:World}{av:Nat→Prop}{loc:Loc}{h:List Blk}{blk:Nat}:∀{off:Nat} {cs:List Dp},RelCells w av blk off cs →
  CellsAt w av loc h blk off (cs.map .p)
 | _,[],_=>fun j d hd=>by simp at hd
 | off,c::cs,r=>by
  simp only[RelCells] at r
  obtain⟨⟨_,y,h1,h2⟩,h3⟩:=r
  intro j d hd
  cases j with
  | zero=>simp at hd;subst hd;exact⟨y,h1,by simpa[Rel] using h2⟩
  | succ j =>
   obtain⟨y,h4,h5⟩:=CellsAt.of_cells (loc:=loc) (h:=h) h3 j d (by simpa using hd)
   exact⟨y,by rw[←h4];congr 2;omega,h5⟩
theorem kS{α:Type}{sz:Nat}:∀{es:List (List α)} (_:∀e∈es,e.length=sz) (i j:Nat) {row:List α},es[i]? = some row→j<sz →
  es.flatten[i*sz+j]? = row[j]?
 | [],_,_,_,_,h,_=>by simp at h
 | e::es,he,0,j,row,h,hj=>by
  simp at h;subst h
  have:=he e (by simp)
  simp only[Ic,ML,I7]
  rw[HF (by omega)]
 | e::es,he,i+1,j,row,h,hj=>by
  have hl:=he e (by simp)
  simp only[Ic]
  rw[HT (by rw[hl,Jn];omega),hl]
  rw[show(i+1)*sz+j - sz=i*sz+j by rw[Jn];omega]
  exact kS (fun e' h'=>he e' (by simp[h'])) i j (by simpa using h) hj
theorem CellsAt.rowO{w:World}{av:Nat→Prop}{loc:Loc}{h:List Blk}{blk sz o:Nat}{es:List (List D)}(c:CellsAt w av loc h blk o es.flatten)
  (he:∀e∈es,e.length=sz) {i:Nat} {row:List D} (hr:es[i]? = some row):CellsAt w av loc h blk (o+i*sz) row:=fun j d hd=>by
 have hl:=he row (HL hr)
 have hj:j<sz:=by rw[←hl];exact(G9.1 hd).1
 obtain⟨y,h1,h2⟩:=c (i*sz+j) d (by rw[kS he i j hr hj];exact hd)
 exact⟨y,by rw[JY];exact h1,h2⟩
theorem CellsAt.list{w:World}{av:Nat→Prop}{loc:Loc}{h:List Blk}{blk:Nat}:∀{cs:List D} {off:Nat},CellsAt w av loc h blk off cs →
  ∃ys:List Value,RelL w av loc h cs ys∧∀j y,ys[j]? = some y→w.cell? ⟨blk,off+j,none⟩=some y
 | [],_,_=>⟨[],by simp[RelL],fun j y hy=>by simp at hy⟩
 | d::cs,off,c=>by
  obtain⟨y,h1,h2⟩:=c 0 d (by simp)
  obtain⟨ys,h3,h4⟩:=CellsAt.list (cs:=cs) (off:=off+1) (fun j d' hd=>by
   obtain⟨z,h5,h6⟩:=c (j+1) d' (by simpa using hd)
   exact⟨z,by rw[←h5];congr 2;omega,h6⟩)
  refine⟨y::ys,by simp only[RelL];exact⟨h2,h3⟩,fun j z hz=>?_⟩
  cases j with
  | zero=>simp at hz;subst hz;exact h1
  | succ j=>rw[show off+(j+1)=off+1+j by omega];exact h4 j z (by simpa using hz)
theorem und_run{P:Program}{t:TypeId}{d:TypeDesc}(h:P.underlying t=some d)(w:World):(underlying t).run P w=.ok d w:=by
 simp[underlying,h]
theorem szOf_run{P:Program}{t:TypeId}{n:Nat}(h:szOf P t=some n)(w:World):(sizeOf t).run P w=.ok n w:=by
 unfold szOf at h
 cases hi:P.info? t with
 | none=>simp[hi] at h
 | some i=>simp[hi] at h;subst h;simp[sizeOf,typeInfo,hi]
theorem ke{P:Program}{t:TypeId}{b:Bool}(h:wr P t=some b)(w:World):(isAgg t).run P w=.ok b w:=by
 unfold wr at h
 cases hu:P.underlying t with
 | none=>simp[hu] at h
 | some d=>cases d<;>simp_all[isAgg,und_run hu w]
theorem em{P:Program}{w:World}{av:Nat→Prop}{loc:Loc}{h:List Blk}{blk off:Nat}{cs:List D}(c:CellsAt w av loc h blk off cs)
  {t:TypeId} {d:D} (ht:cm P t cs=some d):∃v,(loadVar t ⟨blk,off,none⟩).run P w=.ok v w∧Rel w av loc h d v:=by
 unfold cm at ht
 cases ha:wr P t with
 | none=>simp[ha] at ht
 | some b =>
  cases hs:szOf P t with
  | none=>cases b<;>simp[ha,hs] at ht
  | some n =>
   cases b with
   | true =>
    simp only[ha,hs] at ht
    split at ht
    ·rename_i hn
     cases ht
     obtain⟨ys,h1,h2⟩:=CellsAt.list (cs:=cs.take n) (off:=off) (fun j d hd=>c j d (by
      rw[JI] at hd;split at hd<;>simp_all))
     have hl:ys.length=n:=by rw[←h1.length];simp[hn]
     refine⟨.agg ys.toArray,?_,by simp only[Rel];exact⟨_,rfl,by simpa using h1⟩⟩
     have:=run_loadCells_list (P:=P) (w:=w) ⟨blk,off,none⟩ ys (fun j v hv=>by simpa using h2 j v hv)
     simp[loadVar,ke ha w,szOf_run hs w,←hl,this]
    ·simp at ht
   | false =>
    simp only[ha,hs] at ht
    obtain⟨y,h1,h2⟩:=c 0 d (by rw[←Mz];exact ht)
    refine⟨y,?_,h2⟩
    simp at h1
    simp[loadVar,ke ha w,h1]
theorem kT{P:Program}{Γ:ae}{O:Nat→Prop}{w:World}{loc:Loc}{h:List Blk}(R:Rep Γ O w loc h){t:TypeId}{a d:D}{y:Value}
  (ra:Rel w (avs O loc h) loc h a y) (hd:aD P h t a=some d):∃v,(Ky t y).run P w=.ok v w∧Rel w (avs O loc h) loc h d v:=by
 cases a with
 | ref r =>
  obtain⟨h1,hr⟩:=ra
  cases r with
  | ptr b off =>
   simp only[aD] at hd
   cases hb:h[b]? with
   | none=>simp[hb] at hd
   | some x =>
    cases x<;>simp only[hb,reduceCtorEq] at hd hr
    obtain⟨blk,cp,h2,rfl⟩:=hr
    obtain⟨blk',cp',c,T,h3,h4,h5⟩:=R.blk b _ hb
    obtain⟨rfl,rfl⟩:blk=blk'∧cp=cp':=by simpa[h2] using h3
    obtain⟨v,h6,h7⟩:=em (P:=P) ((CellsAt.of_rel h4 (by simp;rfl) h5).drop off) hd
    exact⟨v,by simpa[Ky,Jk] using h6,h7⟩
  | vp b e i j =>
   simp only[aD] at hd
   cases hb:h[b]? with
   | none=>simp[hb] at hd
   | some x =>
    cases x<;>simp only[hb,reduceCtorEq] at hd hr
    rename_i es e' sz
    split at hd
    ·rename_i he
     subst he
     obtain⟨blk,oo,cap,h2,rfl⟩:=hr.2 rfl
     cases hrow:es[i]? with
     | none=>simp[hrow] at hd
     | some row =>
      simp only[hrow] at hd
      have hbk:=R.blk b _ hb
      simp only[BlkOk,h2] at hbk
      obtain⟨o2,cc,rc,c,T,fr,ys,g1,g2,g3,g4,g5,g6,pre,rest,g0,g7⟩:=hbk
      obtain⟨rfl,rfl⟩:=b6 rc
      obtain⟨v,h6,h7⟩:=em (P:=P) (((CellsAt.of_relO g1 g0 g7 g6).rowO g5 hrow).drop j) hd
      exact⟨v,by simpa[Ky,Jk] using h6,h7⟩
    ·simp at hd
  | _=>simp[aD] at hd
 | ep cs =>
  simp only[aD] at hd
  simp only[Rel] at ra
  obtain⟨blk,off,rfl,h2⟩:=ra
  obtain⟨v,h6,h7⟩:=em (P:=P) (CellsAt.of_cells (loc:=loc) (h:=h) h2) hd
  exact⟨v,by simpa[Ky,Jk] using h6,h7⟩
 | _=>simp[aD] at hd
theorem pS{w:World}{av:Nat→Prop}{loc:Loc}{h:List Blk}{d:D}{y:Value}(r:Rel w av loc h d y)(ho:d.one=true):y.oneCell'=true:=by
 cases d with
 | p x =>
  cases x with
  | v x=>simp only[Rel,RelP] at r;subst r;exact ho
  | sl es =>
   simp only[Rel,RelP] at r
   rcases r with ⟨_,_,_,rfl,_⟩|⟨_,_,_,_,rfl,_⟩<;>rfl
 | ref r'=>exact r.1
 | ep cs=>simp only[Rel] at r;obtain⟨_,_,rfl,_⟩:=r;rfl
 | csl es=>simp only[Rel] at r;rcases r with ⟨_,_,rfl⟩|⟨_,_,_,rfl,_⟩<;>rfl
 | fn f a c =>
  simp only[Rel] at r
  obtain⟨_,_,hv,_⟩:=r
  cases f<;>simp only[FnV] at hv
  case yield=>obtain⟨_,v,_,rfl⟩:=hv;rfl
  all_goals subst hv;rfl
 | _=>simp[D.one] at ho
theorem gw{w:World}{av:Nat→Prop}{loc:Loc}{h:List Blk}:∀{cs:List D} {ys:List Value},RelL w av loc h cs ys→cs.all D.one=true→∀y∈ys,y.oneCell'=true
 | [],[],_,_=>by simp
 | d::ds,y::ys,r,ho=>by
  simp only[RelL] at r
  simp only[List.all_cons,G6] at ho
  intro z hz
  rcases HB.1 hz with rfl|hz
  ·exact pS r.1 ho.1
  ·exact gw r.2 ho.2 z hz
 | [],_::_,r,_=>by simp[RelL] at r
 | _::_,[],r,_=>by simp[RelL] at r
theorem pT{y:Value}(h:y.oneCell'=true):y.cells=#[y]:=by cases y<;>simp_all[Value.oneCell',Value.cells]
theorem de{w:World}{av:Nat→Prop}{loc:Loc}{h:List Blk}{d:D}{y:Value}(r:Rel w av loc h d y){cs:List D}(hc:d.cells=some cs):
  RelL w av loc h cs y.cells.toList∧∀v∈y.cells.toList,v.oneCell'=true:=by
 by_cases ha:∃l,d=.agg l
 ·obtain⟨l,rfl⟩:=ha
  simp only[D.cells] at hc
  split at hc
  ·rename_i ho
   cases hc
   simp only[Rel] at r
   obtain⟨vs,rfl,r⟩:=r
   exact⟨r,gw r ho⟩
  ·simp at hc
 ·have hc':(if d.one then some [d] else none)=some cs:=by
   cases d<;>first|exact hc|exact absurd ⟨_,rfl⟩ ha
  split at hc'
  ·rename_i ho
   cases hc'
   have h1:=pS r ho
   rw[pT h1]
   exact⟨by simp only[RelL];exact⟨r,trivial⟩,by simpa using h1⟩
  ·simp at hc'
def Loc.upd(l:Loc)(b:Nat)(p:Option (Nat×Nat)):Loc:=fun i=>if i=b then p else l i
@[simp] theorem Loc.upd_same (l : Loc) (b : Nat) (p : Option (Nat × Nat)) : l.upd b p b = p := by simp [Loc.upd]
theorem Loc.upd_ne(l:Loc)(b:Nat)(p:Option (Nat×Nat)){i:Nat}(h:i ≠ b):l.upd b p i=l i:=by simp[Loc.upd,h]
theorem gV{α:Type}(h:List α)(x:α){b:Nat}(hb:b ≠ h.length):(h++[x])[b]? = h[b]?:=by
 rcases Nat.lt_or_ge b h.length with h1|h1
 ·rw[HF h1]
 ·rw[Jr h1,Jr (by simp;omega)]
theorem b8{Γ:ae}{O:Nat→Prop}{w:World}{l:Loc}{h:List Blk}(R:Rep Γ O w l h)(o:Obj)(x:Blk)(cap:Nat)
  (hok:Ext w l h (w.alloc o) (l.upd h.length (some (w.heap.size,cap))) (h++[x]) →
   BlkOk (w.alloc o) (avs O (l.upd h.length (some (w.heap.size,cap))) (h++[x])) (l.upd h.length (some (w.heap.size,cap))) (h++[x]) h.length x) :
  Rep Γ O (w.alloc o) (l.upd h.length (some (w.heap.size,cap))) (h++[x])∧Ext w l h (w.alloc o) (l.upd h.length (some (w.heap.size,cap))) (h++[x]):=by
 refine R.step h.length x (by simp) ⟨rfl,rfl,rfl,(by first|exact Hq _|exact Nat.le_succ _)⟩ (fun b hb=>gV h x hb) (by simp) (fun b hb=>Loc.upd_ne _ _ _ hb) (fun y hy=>by simp at hy) ?_ ?_ hok
 ·exact fun blk hb _=>heap_alloc_old w o blk hb
 ·intro k c hk
  simp at hk
  exact .inr ⟨by omega,by simp;omega⟩
theorem jH{P:Program}{Γ:ae}{O:Nat→Prop}{w:World}{l:Loc}{h:List Blk}(R:Rep Γ O w l h)(t:TypeId){y:Value}{cs:List D}
  (rc:RelL w (avs O l h) l h cs y.cells.toList) :
  ∃v w' l',(newVar t y).run P w=.ok v w'∧Rep Γ O w' l' (h++[.var cs])∧Ext w l h w' l' (h++[.var cs]) ∧
   Rel w' (avs O l' (h++[.var cs])) l' (h++[.var cs]) (.ref (.ptr h.length 0)) (.pointer (some v)):=by
 obtain⟨R',E⟩:=b8 R (.cells y.cells t) (.var cs) 0 (fun E=>⟨w.heap.size,0,y.cells,t,by simp,heap_alloc_new w _,E.relL rc⟩)
 refine⟨⟨w.heap.size,0,none⟩,_,_,?_,R',E,?_⟩
 ·simp[newVar,newRow]
 ·simp only[Rel,RefRel]
  refine⟨rfl,?_⟩
  simp
def aU(c:List Value)(off:Nat)(new:List Value):List Value:=c.take off++new++c.drop (off+new.length)
theorem u4{w:World}{blk off:Nat}{c:Array Value}{T:TypeId}{fr:Nat×Nat}(v:Value)(hb:w.heap[blk]? = some (.cells c T fr)):
  (w.setCell ⟨blk,off,none⟩ v).heap[blk]? = some (.cells (c.setIfInBounds off v) T fr):=by
 simp[World.setCell,Array.getElem?_modify,hb]
theorem br{P:Program}{blk off:Nat}{T:TypeId}{fr:Nat×Nat}:∀(vs:List Value) (i:Nat) (w:World) (c:Array Value),w.heap[blk]? = some (.cells c T fr) →
  (∀o,o<c.size→¬(fr.1≤o∧o<fr.2))→off+i+vs.length≤c.size→(∀v∈vs,v.oneCell'=true) →
  ∃w' c',(storeCells ⟨blk,off,none⟩ vs i).run P w=.ok () w'∧w'.heap.size=w.heap.size∧(∀k,k ≠ blk→w'.heap[k]? = w.heap[k]?) ∧
   w'.heap[blk]? = some (.cells c' T fr)∧c'.toList=aU c.toList (off+i) vs∧w'.tape=w.tape∧w'.os=w.os∧w'.output=w.output∧w.drawn≤w'.drawn
 | [],i,w,c,hb,_,hl,_=>⟨w,c,by simp[storeCells],rfl,fun _ _=>rfl,hb,by simp[aU],rfl,rfl,rfl,Hq _⟩
 | v::vs,i,w,c,hb,hf,hl,h1=>by
  simp only[HZ] at hl
  have hcell:w.cell? ⟨blk,off+i,none⟩=some c[off+i]:=by
   rw[cell_of_row w blk (off+i) c T fr hb]
   exact HQ (by omega)
  have hfz:w.frozen? ⟨blk,off+i,none⟩=false:=by
   have:=hf (off+i) (by omega)
   obtain⟨lo,hi⟩:=fr
   simp only[World.frozen?,hb]
   simpa using this
  have hb':=u4 (off:=off+i) v hb
  obtain⟨w',c',h2,h3,h4,h5,h6,h7⟩:=br (P:=P) (off:=off) vs (i+1) (w.setCell ⟨blk,off+i,none⟩ v) _ hb' (by simpa using hf) (by simp;omega) (fun u hu=>h1 u (by simp[hu]))
  refine⟨w',c',?_,by rw[h3];simp,fun k hk=>by rw[h4 k hk,heap_setCell_other _ _ _ _ (by simpa using hk)],h5,?_,by rw[h7.1];rfl,by rw[h7.2.1];rfl,by rw[h7.2.2.1];rfl,h7.2.2.2⟩
  ·simp only[storeCells,Sem.run_bind,b7,run_store P w _ v .plain (h1 v (by simp)),hcell,hfz]
   simpa using h2
  ·rw[h6]
   simp only[aU,Array.toList_setIfInBounds,HZ]
   have hlt:off+i<c.toList.length:=by simp;omega
   rw[List.drop_set,if_pos (by omega)]
   have h8:(c.toList.set (off+i) v).take (off+(i+1))=c.toList.take (off+i)++[v]:=by
    rw[show off+(i+1)=(off+i)+1 by omega,List.take_succ_eq_append_getElem (by simpa using hlt),List.take_set,List.set_eq_of_length_le (by simp;omega)]
    simp
   rw[h8,show off+(i+1)+vs.length=off+i+(vs.length+1) by omega]
   simp
theorem RelL.splice{w:World}{av:Nat→Prop}{loc:Loc}{h:List Blk}{cs new:List D}{ys vs:List Value}(off:Nat)(r:RelL w av loc h cs ys)(r':RelL w av loc h new vs):
  RelL w av loc h (aF cs off new) (aU ys off vs):=by
 unfold aF aU
 rw[r'.length]
 exact((r.take off).append r').append (r.drop _)
theorem mZ{α:Type}{sz:Nat}:∀{es:List (List α)} (_:∀e∈es,e.length=sz) (i j:Nat) {row new:List α},es[i]? = some row→j+new.length≤sz →
  es.flatten.take (i*sz+j)++new++es.flatten.drop (i*sz+j+new.length)=(es.set i (row.take j++new++row.drop (j+new.length))).flatten
 | [],_,_,_,_,_,h,_=>by simp at h
 | e::es,he,0,j,row,new,h,hj=>by
  simp at h;subst h
  have:=he e (by simp)
  simp only[Ic,ML,I7,List.set_cons_zero]
  rw[Kr (by omega),Ks (by omega)]
  simp
 | e::es,he,i+1,j,row,new,h,hj=>by
  have hl:=he e (by simp)
  have ih:=mZ (es:=es) (fun e' h'=>he e' (by simp[h'])) i j (row:=row) (new:=new) (by simpa using h) hj
  simp only[Ic,List.set_cons_succ]
  rw[←ih,show(i+1)*sz+j=e.length+(i*sz+j) by rw[Jn,hl];omega]
  rw[List.take_append,Kz]
  simp only[JY,KT]
  rw[H3 (by omega),MA (by omega)]
  simp
theorem ah{α:Type}{sz:Nat}:∀{es:List (List α)},(∀e∈es,e.length=sz)→es.flatten.length=es.length*sz
 | [],_=>by simp
 | e::es,h=>by
  have:=ah (es:=es) (fun e' h'=>h e' (by simp[h']))
  simp only[Ic,Hv,HZ,this,h e (by simp),Jn]
  omega
theorem gl{P:Program}{w:World}{av:Nat→Prop}{loc:Loc}{h:List Blk}{blk off:Nat}{c:Array Value}{T:TypeId}{fr:Nat×Nat}{t:TypeId}{n:Nat}{x:D}{y:Value}{new:List D}
  (hb:w.heap[blk]? = some (.cells c T fr)) (hf:∀o,o<c.size→¬(fr.1≤o∧o<fr.2)) (rx:Rel w av loc h x y) (hx:x.cells=some new) (hn:szOf P t=some n) (hl:new.length=n) (ho:off+n≤c.size) :
  ∃w' c',(storeVar t ⟨blk,off,none⟩ y).run P w=.ok () w'∧w'.heap.size=w.heap.size∧(∀k,k ≠ blk→w'.heap[k]? = w.heap[k]?) ∧
   w'.heap[blk]? = some (.cells c' T fr)∧c'.toList=aU c.toList off y.cells.toList∧w'.tape=w.tape∧w'.os=w.os∧w'.output=w.output∧w.drawn≤w'.drawn:=by
 obtain⟨h1,h2⟩:=de rx hx
 have hs:y.cells.size=n:=by rw[←hl,h1.length];simp
 obtain⟨w',c',h3,h4⟩:=br (P:=P) (off:=off) y.cells.toList 0 w c hb hf (by simp[hs];omega) h2
 refine⟨w',c',?_,h4⟩
 simp[storeVar,szOf_run hn w,hs]
 simpa using h3
theorem bj{α:Type}(h:List α)(x:α){b b0:Nat}(hb:b ≠ b0):(h.set b0 x)[b]? = h[b]?:=by
 rw[List.getElem?_set_ne (Ne.symm hb)]
theorem aP{α:Type}{h:List α}{x y:α}{b0:Nat}(hy:h[b0]? = some y):(h.set b0 x)[b0]? = some x:=by
 rw[List.getElem?_set_self (G9.1 hy).1]
theorem pU{P:Program}{Γ:ae}{O:Nat→Prop}{w:World}{l:Loc}{h h':List Blk}(R:Rep Γ O w l h){t:TypeId}{a x:D}{ya yx:Value}
  (ra:Rel w (avs O l h) l h a ya) (rx:Rel w (avs O l h) l h x yx) (hd:aw P h t a x=some h') :
  ∃w',(Mm t ya yx).run P w=.ok () w'∧Rep Γ O w' l h'∧Ext w l h w' l h':=by
 unfold aw at hd
 cases hx:x.cells with
 | none=>simp[hx] at hd
 | some new =>
  cases hn:szOf P t with
  | none=>simp[hx,hn] at hd
  | some n =>
   simp only[hx,hn] at hd
   split at hd
   case isFalse=>simp at hd
   rename_i hl
   cases a with
   | ref r =>
    obtain⟨g1,hr⟩:=ra
    cases r with
    | ptr b off =>
     simp only at hr
     cases hb:h[b]? with
     | none=>simp[hb] at hd
     | some bx =>
      cases bx<;>simp only[hb,reduceCtorEq] at hd hr
      rename_i cs
      split at hd
      case isFalse=>simp at hd
      rename_i ho
      cases hd
      obtain⟨blk,cp,h2,rfl⟩:=hr
      obtain⟨blk',cp',c,T,h3,h4,h5⟩:=R.blk b _ hb
      obtain⟨rfl,rfl⟩:blk=blk'∧cp=cp':=by simpa[h2] using h3
      have hcl:=h5.length
      obtain⟨w',c',k1,k2,k3,k4,k5,k6⟩:=gl (P:=P) (off:=off) h4 (by simp) rx hx hn hl (by simp at hcl;omega)
      have:=R.step (w':=w') (l':=l) (h':=h.set b (.var (aF cs off new))) b (.var (aF cs off new)) (by omega) k6 (fun i hi=>bj _ _ hi) (aP hb) (fun _ _=>rfl)
       (fun z hz=>by rw[hb] at hz;cases hz;exact⟨trivial,fun _=>rfl⟩)
       (fun k hk hno=>k3 k (fun e=>hno _ cp hb (by simp) (by rw[h2,e])))
       (fun k cc hk=>.inl ⟨_,cc,hb,by simp,hk⟩)
       (fun E=>⟨blk,cp,c',T,h2,k4,by rw[k5];exact(E.relL h5).splice off (E.relL (de rx hx).1)⟩)
      exact⟨w',by simpa[Mm,Jk] using k1,this.1,this.2⟩
    | vp b e i j =>
     simp only at hr
     cases hb:h[b]? with
     | none=>simp[hb] at hd
     | some bx =>
      cases bx<;>simp only[hb,reduceCtorEq] at hd hr
      rename_i es e' sz
      split at hd
      case isFalse=>simp at hd
      rename_i he
      subst he
      cases hrow:es[i]? with
      | none=>simp[hrow] at hd
      | some row =>
       simp only[hrow] at hd
       split at hd
       case isFalse=>simp at hd
       rename_i ho
       cases hd
       obtain⟨blk,oo,cap,h2,rfl⟩:=hr.2 rfl
       have hbk:=R.blk b _ hb
       simp only[BlkOk,h2] at hbk
       obtain⟨o2,cc,rc,c,T,fr,ys,q1,q2,q3,q4,q5,q6,pre,rest,q0,q7⟩:=hbk
       obtain⟨rfl,rfl⟩:=b6 rc
       have hil:i<es.length:=(G9.1 hrow).1
       have hsz:i*sz+sz≤cap*sz:=by
        have:=Ir sz (show i+1≤cap by omega)
        rw[Jn] at this;exact this
       obtain⟨w',c',k1,k2,k3,k4,k5,k6⟩:=gl (P:=P) (off:=oo+i*sz+j) q1 q4 rx hx hn hl (by omega)
       have hrl:=q5 row (HL hrow)
       have hcs:=(de rx hx).1
       have hfl:es.flatten.length=es.length*sz:=ah q5
       have hysl:=q6.length
       have hnl:yx.cells.size=n:=by rw[←hl,hcs.length];simp
       have hij:i*sz+j+n≤es.length*sz:=by
        have:=Ir sz (show i+1≤es.length by omega)
        rw[Jn] at this;omega
       have:=R.step (w':=w') (l':=l) (h':=h.set b (.vec (es.set i (aF row j new)) e sz)) b (.vec (es.set i (aF row j new)) e sz) (by omega) k6 (fun z hz=>bj _ _ hz) (aP hb) (fun _ _=>rfl)
        (fun z hz=>by rw[hb] at hz;cases hz;exact⟨⟨Hq _,fun _=>by simp,rfl⟩,fun _=>rfl⟩)
        (fun k hk hno=>k3 k (fun e=>hno _ (mkP oo cap) hb (by simp) (by rw[h2,e])))
        (fun k cc hk=>.inl ⟨_,cc,hb,by simp,hk⟩)
        (fun E=>by
         simp only[BlkOk,h2]
         refine⟨oo,cap,rfl,c',T,fr,aU ys (i*sz+j) yx.cells.toList,k4,?_,by simpa using q3,?_,?_,?_,pre,rest,q0,?_⟩
         ·have:=congrArg List.length k5
          simp only[aU,Hv,IR,Ih,IK] at this
          omega
         ·have hcz:c'.size=c.size:=by
           have:=congrArg List.length k5
           simp only[aU,Hv,IR,Ih,IK] at this
           omega
          rw[hcz];exact q4
         ·intro e' he'
          rcases List.mem_or_eq_of_mem_set he' with h8|h8
          ·exact q5 e' h8
          ·rw[h8];simp[aF];omega
         ·have:=(E.relL q6).splice (i*sz+j) (E.relL hcs)
          have hsr:=mZ q5 i j (row:=row) (new:=new) hrow (by omega)
          unfold aF at this ⊢
          rwa[hsr] at this
         ·rw[k5,q7]
          unfold aU
          have e1:oo+i*sz+j=pre.length+(i*sz+j):=by omega
          rw[e1,IA pre,JY,List.take_length_add_append,List.drop_length_add_append,Kr (by omega),Ks (by simp;omega)]
          simp)
       exact⟨w',by simpa[Mm,Jk] using k1,this.1,this.2⟩
    | _=>simp at hd
   | _=>simp at hd
section
variable {P:Program} {Γ:ae} {O:Nat→Prop} {w:World} {l:Loc} {h:List Blk}
theorem wA{blk off n:Nat}{r:Ref}(hr:RefRel l h r (.pointer (some ⟨blk,off,none⟩)))(hl:mJ h r=true):RefRel l h (sY n r) (.pointer (some ⟨blk,off+n,none⟩)):=by
 obtain⟨h1,h2⟩:=hr
 refine⟨rfl,?_⟩
 cases r with
 | ptr b o =>
  simp only[mJ,sY] at *
  cases hb:h[b]? with
  | none=>simp[hb] at hl
  | some x =>
   cases x<;>simp only[hb,HO] at hl h2 ⊢
   obtain⟨k,cp,h3,h4⟩:=h2
   simp only[LX,G0,Addr.mk.injEq,and_true] at h4
   obtain⟨rfl,rfl⟩:=h4
   exact⟨_,cp,h3,rfl⟩
 | vp b e i j =>
  simp only[mJ,sY] at *
  cases hb:h[b]? with
  | none=>simp[hb] at hl
  | some x =>
   cases x<;>simp only[hb,HO] at hl h2 ⊢
   obtain⟨h3,h4⟩:=h2
   refine⟨h3,fun he=>?_⟩
   obtain⟨k,oo,cp,h5,h6⟩:=h4 he
   simp only[LX,G0,Addr.mk.injEq,and_true] at h6
   obtain⟨rfl,rfl⟩:=h6
   exact⟨_,oo,cp,h5,by rw[JY]⟩
 | _=>simp[mJ] at hl
theorem s7{r:Ref}{y:Value}(hr:RefRel l h r y)(hl:mJ h r=true):∃blk off,y=.pointer (some ⟨blk,off,none⟩):=by
 obtain⟨h1,h2⟩:=hr
 cases r with
 | ptr b o =>
  simp only[mJ] at *
  cases hb:h[b]? with
  | none=>simp[hb] at hl
  | some x =>
   cases x<;>simp only[hb,HO] at hl h2
   obtain⟨k,cp,h3,h4⟩:=h2
   exact⟨_,_,h4⟩
 | vp b e i j =>
  simp only[mJ] at *
  cases hb:h[b]? with
  | none=>simp[hb] at hl
  | some x =>
   cases x<;>simp only[hb,HO] at hl h2
   obtain⟨k,oo,cp,h5,h6⟩:=h2.2 (of_decide_eq_true hl)
   exact⟨_,_,h6⟩
 | _=>simp[mJ] at hl
theorem RelCells.drop{av:Nat→Prop}{blk:Nat}:∀{cs:List Dp} {off:Nat} (n:Nat),RelCells w av blk off cs→RelCells w av blk (off+n) (cs.drop n)
 | [],_,n,_=>by simp[RelCells]
 | c::cs,off,0,r=>by simpa using r
 | c::cs,off,n+1,r=>by
  simp only[RelCells] at r
  rw[Lm,show off+(n+1)=off+1+n by omega]
  exact RelCells.drop n r.2
theorem kU{n:Nat}{x d:D}{y:Value}(rx:Rel w (avs O l h) l h x y)(hd:pR h n x=some d):
  ∃a:Addr,y=.pointer (some a)∧a.spot=none∧Rel w (avs O l h) l h d (.pointer (some ⟨a.block,a.off+n,none⟩)):=by
 cases x with
 | ref r =>
  simp only[pR] at hd
  split at hd
  ·rename_i hl
   cases hd
   obtain⟨blk,off,rfl⟩:=s7 rx hl
   exact⟨_,rfl,rfl,wA rx hl⟩
  ·simp at hd
 | ep cs =>
  simp only[pR] at hd
  cases hd
  simp only[Rel] at rx ⊢
  obtain⟨blk,off,rfl,h2⟩:=rx
  exact⟨_,rfl,rfl,blk,off+n,rfl,h2.drop n⟩
 | _=>simp[pR] at hd
theorem s8(a:Addr)(h:a.spot=none)(n:Nat):a.add n=⟨a.block,a.off+n,none⟩:=by
 obtain⟨b,o,s⟩:=a;subst h;simp
theorem j2{s:TypeId}{f:Nat}{x d:D}{y:Value}(rx:Rel w (avs O l h) l h x y)(hd:dW P h s f x=some d):
  ∃v,(Instr.fieldAt s y f).run P w=.ok v w∧Rel w (avs O l h) l h d v:=by
 unfold dW at hd
 cases hi:dV P s f with
 | none=>simp[hi] at hd
 | some i =>
  simp only[hi] at hd
  cases hs:szOf P i.type with
  | none=>simp[hs] at hd
  | some n =>
   cases n with
   | zero=>simp[hs] at hd
   | succ n =>
    simp only[hs] at hd
    obtain⟨a,rfl,ha,r⟩:=kU rx hd
    refine⟨_,?_,r⟩
    unfold dV at hi
    cases hu:P.underlying s with
    | none=>simp[hu] at hi
    | some td =>
     cases td<;>simp only[hu,reduceCtorEq] at hi
     simp[Instr.fieldAt,und_run hu w,hi,Jk,fieldPlace,szOf_run hs w,s8 a ha]
theorem db{t:TypeId}{cs:List D}{vs:Array Value}{off:Nat}{d:D}(r:RelL w (avs O l h) l h cs vs.toList)(ht:cm P t (cs.drop off)=some d):
  ∃v,(part t vs off).run P w=.ok v w∧Rel w (avs O l h) l h d v:=by
 unfold cm at ht
 cases ha:wr P t with
 | none=>simp[ha] at ht
 | some b =>
  cases hs:szOf P t with
  | none=>cases b<;>simp[ha,hs] at ht
  | some n =>
   cases b with
   | true =>
    simp only[ha,hs] at ht
    split at ht
    ·rename_i hn
     cases ht
     refine⟨.agg (vs.extract off (off+n)),by simp only[part,Sem.run_bind,ke ha w,Result.andThen_ok,if_true,szOf_run hs w,HH],?_⟩
     simp only[Rel]
     refine⟨_,rfl,?_⟩
     have:=(r.drop off).take n
     rw[Array.toList_extract,List.extract_eq_take_drop]
     rwa[KT]
    ·simp at ht
   | false =>
    simp only[ha,hs] at ht
    rw[Mz,List.getElem?_drop] at ht
    obtain⟨y,h1,h2⟩:=r.get _ ht
    rw[H0] at h1
    refine⟨y,?_,h2⟩
    simp only[Nat.add_zero] at h1
    simp[part,ke ha w,h1]
theorem pV{s:TypeId}{f:Nat}{x d:D}{y:Value}(rx:Rel w (avs O l h) l h x y)(hd:sZ P s f x=some d):
  ∃v,(Instr.field s y f).run P w=.ok v w∧Rel w (avs O l h) l h d v:=by
 cases x with
 | agg cs =>
  simp only[sZ] at hd
  cases hi:dV P s f with
  | none=>simp[hi] at hd
  | some i =>
   simp only[hi] at hd
   simp only[Rel] at rx
   obtain⟨vs,rfl,r⟩:=rx
   obtain⟨v,h1,h2⟩:=db r hd
   refine⟨v,?_,h2⟩
   unfold dV at hi
   cases hu:P.underlying s with
   | none=>simp[hu] at hi
   | some td =>
    cases td<;>simp only[hu,reduceCtorEq] at hi
    simp[Instr.field,und_run hu w,hi,asAgg,h1]
 | _=>simp[sZ] at hd
theorem a6{d:D}{y:Value}{k:IntKind}{n:Int}(r:Rel w (avs O l h) l h d y)(hd:intOf? d=some (k,n)):y=.int k n:=by
 unfold intOf? at hd
 split at hd
 ·cases hd;simpa[Rel,RelP] using r
 ·simp at hd
theorem RelRows.get{av:Nat→Prop}{blk sz:Nat}:∀{es:List (List Dp)} {off:Nat} (_:RelRows w av blk sz off es) (i:Nat) {row:List Dp},es[i]? = some row →
  row.length=sz∧RelCells w av blk (off+i*sz) row
 | [],_,_,_,_,h=>by simp at h
 | e::es,off,r,0,row,h=>by simp at h;subst h;simp only[RelRows] at r;simpa using⟨r.1,r.2.1⟩
 | e::es,off,r,i+1,row,h=>by
  simp only[RelRows] at r
  have:=RelRows.get r.2.2 i (by simpa using h)
  refine⟨this.1,?_⟩
  rw[show off+(i+1)*sz=off+sz+i*sz by rw[Jn];omega]
  exact this.2
theorem cQ{i:Int}{n:Nat}(h:inR i n=true):0≤i∧i<n∧i.toNat<n:=by
 simp only[inR,G6,decide_eq_true_eq] at h
 omega
theorem j3{t:TypeId}{x ix d:D}{y yi:Value}(rx:Rel w (avs O l h) l h x y)(ri:Rel w (avs O l h) l h ix yi)
  (hd:aJ P h t x ix=some (true,d)):∃v,(Ln t y yi).run P w=.ok v w∧Rel w (avs O l h) l h d v:=by
 unfold aJ at hd
 cases hix:intOf? ix with
 | none=>simp[hix] at hd
 | some ki =>
  obtain⟨k,i⟩:=ki
  obtain rfl:=a6 ri hix
  simp only[hix] at hd
  cases hu:P.underlying t with
  | none=>simp[hu] at hd
  | some td =>
   cases td with
   | slice elem =>
    simp only[hu] at hd
    cases hs:szOf P elem with
    | none=>simp[hs] at hd
    | some n =>
     simp only[hs] at hd
     have fin:∀(blk off len cap:Nat),inR i len=true→(Ln t (.slice (some ⟨blk,off,none⟩) len cap) (.int k i)).run P w=.ok (.pointer (some ⟨blk,off+i.toNat*n,none⟩)) w:=by
      intro blk off len cap hr
      obtain⟨h1,h2,h3⟩:=cQ hr
      simp[Ln,asIntOf,und_run hu w,h1,h2,szOf_run hs w]
     cases x with
     | p dp =>
      cases dp with
      | v x=>simp at hd
      | sl es =>
       simp only[G0,G4,G6,decide_eq_true_eq] at hd
       obtain⟨⟨hr,hlen⟩,rfl⟩:=hd
       obtain⟨h1,h2,h3⟩:=cQ hr
       simp only[Rel,RelP] at rx
       rcases rx with ⟨rfl,_,_,rfl,_⟩|⟨blk,off,cap,sz,rfl,_,rr⟩
       ·simp at h3
       ·have hrow:es[i.toNat]? = some (es.getD i.toNat []):=by simp[h3]
        obtain⟨h4,h5⟩:=rr.get _ hrow
        have hn:sz=n:=by rw[←h4,hlen]
        subst hn
        exact⟨_,fin blk off es.length cap hr,by simp only[Rel];exact⟨_,_,rfl,h5⟩⟩
     | ref r =>
      obtain⟨g1,hr⟩:=rx
      cases r with
      | vec b e =>
       simp only at hd hr
       cases hb:h[b]? with
       | none=>simp[hb] at hd
       | some bx =>
        cases bx<;>simp only[hb,reduceCtorEq] at hd hr
        rename_i es e' sz
        split at hd
        case isFalse=>simp at hd
        rename_i he
        obtain⟨rfl,rfl⟩:=he
        simp only[G0,G4] at hd
        obtain⟨hin,rfl⟩:=hd
        have hv:=hr.2 rfl
        cases hlb:l b with
        | none=>simp only[hlb,fg] at hv;have:=cQ hin;omega
        | some pr =>
         obtain⟨blk,cap⟩:=pr
         simp only[hlb,fg] at hv
         obtain⟨oo,cc,rfl,rfl,_⟩:=hv
         refine⟨_,fin blk oo _ cc hin,?_⟩
         simp only[Rel,RefRel,hb,hlb]
         exact⟨rfl,Hq _,fun _=>⟨blk,oo,cc,rfl,by simp⟩⟩
      | vs b e i0 m clip =>
       simp only at hd hr
       cases hb:h[b]? with
       | none=>simp[hb] at hd
       | some bx =>
        cases bx<;>simp only[hb,reduceCtorEq] at hd hr
        rename_i es e' sz
        split at hd
        case isFalse=>simp at hd
        rename_i he
        obtain⟨rfl,rfl⟩:=he
        simp only[G0,G4] at hd
        obtain⟨hin,rfl⟩:=hd
        obtain⟨_,blk,oo,cap,c2,hlb,hy,hnc,_⟩:=hr.2 rfl
        have hpos:=cQ hin
        obtain rfl:_=_:=hy.resolve_right (fun hh=>by obtain⟨_,_,hh⟩:=hh;omega)
        refine⟨_,fin blk _ _ c2 hin,?_⟩
        simp only[Rel,RefRel,hb,hlb]
        exact⟨rfl,Hq _,fun _=>⟨blk,oo,cap,rfl,by simp[Nat.add_mul,JY]⟩⟩
      | av b off m sz =>
       simp only at hd hr
       cases hb:h[b]? with
       | none=>simp[hb] at hd
       | some bx =>
        cases bx<;>simp only[hb,reduceCtorEq] at hd hr
        split at hd
        case isFalse=>simp at hd
        rename_i he
        subst he
        simp only[G0,G4] at hd
        obtain⟨hin,rfl⟩:=hd
        obtain⟨blk,cp,c2,hlb,rfl,_⟩:=hr
        refine⟨_,fin blk _ _ c2 hin,?_⟩
        simp only[Rel,RefRel,hb,hlb]
        exact⟨rfl,blk,cp,rfl,rfl⟩
      | _=>simp at hd
     | csl es =>
      simp only[G0,G4,G6,decide_eq_true_eq] at hd
      obtain⟨⟨hr,hlen⟩,rfl⟩:=hd
      obtain⟨h1,h2,h3⟩:=cQ hr
      simp only[Rel] at rx
      obtain⟨rfl,_,rfl⟩|⟨blk,off,sz,rfl,rr⟩:=rx
      ·simp at h3
      have hrow:es[i.toNat]? = some (es.getD i.toNat []):=by simp[h3]
      obtain⟨h4,h5⟩:=rr.get _ hrow
      have hn:sz=n:=by rw[←h4,hlen]
      subst hn
      exact⟨_,fin blk off es.length _ hr,by simp only[Rel];exact⟨_,_,rfl,h5⟩⟩
     | _=>simp at hd
   | array len elem =>
    simp only[hu] at hd
    cases hs:szOf P elem with
    | none=>simp[hs] at hd
    | some n =>
     simp only[hs,Ha,G4] at hd
     obtain⟨d',hd',hin,rfl⟩:=hd
     obtain⟨a,rfl,ha,r⟩:=kU rx hd'
     obtain⟨h1,h2,h3⟩:=cQ hin
     refine⟨_,?_,r⟩
     simp[Ln,asIntOf,und_run hu w,Jk,h1,h2,szOf_run hs w,s8 a ha]
   | _=>simp[hu] at hd
theorem pW{t:TypeId}{x ix d:D}{y yi:Value}(rx:Rel w (avs O l h) l h x y)(ri:Rel w (avs O l h) l h ix yi)
  (hd:mY P t x ix=some (true,d)):∃v,(MM t y yi).run P w=.ok v w∧Rel w (avs O l h) l h d v:=by
 unfold mY at hd
 cases hix:intOf? ix with
 | none=>simp[hix] at hd
 | some ki =>
  obtain⟨k,i⟩:=ki
  obtain rfl:=a6 ri hix
  simp only[hix] at hd
  cases hu:P.underlying t with
  | none=>simp[hu] at hd
  | some td =>
   cases td with
   | array len elem =>
    cases x with
    | agg cs =>
     simp only[hu] at hd
     cases hs:szOf P elem with
     | none=>simp[hs] at hd
     | some n =>
      simp only[hs,Ha,G4] at hd
      obtain⟨d',hd',hin,rfl⟩:=hd
      simp only[Rel] at rx
      obtain⟨vs,rfl,r⟩:=rx
      obtain⟨v,h4,h5⟩:=db r hd'
      obtain⟨h1,h2,h3⟩:=cQ hin
      exact⟨v,by simp[MM,asIntOf,und_run hu w,h1,h2,szOf_run hs w,h4],h5⟩
    | _=>simp[hu] at hd
   | string =>
    cases x with
    | p dp =>
     cases dp with
     | v x =>
      simp only[Rel,RelP] at rx
      subst rx
      cases y<;>simp[hu] at hd
      rename_i s
      obtain⟨hin,rfl⟩:=hd
      obtain⟨h1,h2,h3⟩:=cQ hin
      refine⟨_,?_,rel_lit _ _ _ _ _⟩
      have h3':i.toNat<s.data.size:=h3
      have:s[i.toNat]? = some (s.data[i.toNat]):=by
       rw[getElem?_pos s i.toNat h3];rfl
      simp[MM,asIntOf,und_run hu w,h1,this]
      rw[HQ h3'];rfl
     | sl es=>simp[hu] at hd
    | _=>simp[hu] at hd
   | _=>simp[hu] at hd
end
def bytesOf(P:Program)(t:TypeId):Option Nat:=(P.info? t).map (·.bytes)
def nilSl:D:=lit (.slice none 0 0)
def rowsD(h:List Blk):D→Option (List (List D))
 | .p (.v (.slice none 0 0))=>some []
 | .p (.v (.string s))=>some (s.data.toList.map fun b=>[lit (.int .u8 b.toNat)])
 | .p (.sl es)=>some (es.map (·.map .p))
 | .csl es=>some (es.map (·.map .p))
 | .ref (.vec b e)=>match h[b]? with
  | some (.vec es e' _)=>if e=e' then some es else none
  | _=>none
 | .ref (.vs b e i n _)=>match h[b]? with
  | some (.vec es e' _)=>if e=e' then some ((es.drop i).take n) else none
  | _=>none
 | .ref (.av b off n sz)=>match h[b]? with
  | some (.var cs)=>some (chunk sz n (cs.drop off))
  | _=>none
 | _=>none
def roomOk(n by':Nat):Bool:=Qd (n*by'≤140737488355328)&&Qd (n≤4611686018427387904)
def isIntT:TypeDesc→Bool
 | .int _=>true
 | _=>false
def rowOk(sz:Nat)(r:List D):Bool:=Qd (r.length=sz)&&r.all D.one
def ow(P:Program)(h:List Blk)(t tx:TypeId)(s x:D):Option (Bool×D×List Blk) :=
 match cn P t,P.underlying tx with
 | some e,some dx =>
  if isIntT dx then none else
  match szOf P e,bytesOf P e,cP P e,rowsD h x with
  | some sz,some by',some z,some rows =>
   if z.length=sz then
    let ok (n:Nat):Bool:=rows.all (rowOk sz)&&roomOk (n+rows.length) by'
    match s with
    | .p (.v (.slice none 0 0))=>some (ok 0,.ref (.vec h.length 0),h++[.vec rows 0 sz])
    | .csl es=>some (ok es.length&&!rows.isEmpty&&es.all (fun r=>Qd (r.length=sz)),.ref (.vec h.length 0),h++[.vec (es.map (·.map .p)++rows) 0 sz])
    | .ref (.vs b e' i n (some k))=>match h[b]? with
     | some (.vec es e2 sz')=>if e'=e2∧sz'=sz then some (ok n&&!rows.isEmpty&&Qd (k=n),.ref (.vec h.length 0),h++[.vec ((es.drop i).take n++rows) 0 sz]) else none
     | _=>none
    | .ref (.vs b e' i n none)=>match h[b]? with
     | some (.vec es e2 sz')=>if e'=e2∧sz'=sz∧i+n=es.length then some (ok n&&!rows.isEmpty,.ref (.vec b (e'+1)),h.set b (.vec (es.drop i++rows) (e'+1) sz)) else none
     | _=>none
    | .ref (.vec b e')=>match h[b]? with
     | some (.vec es e2 sz')=>if e'=e2∧sz'=sz then some (ok es.length,.ref (.vec b (e'+1)),h.set b (.vec (es++rows) (e'+1) sz)) else none
     | _=>none
    | _=>none
   else none
  | _,_,_,_=>none
 | _,_=>none
def dg(P:Program)(h:List Blk)(t:TypeId)(len:Nat)(parts:List (Nat×D)):Option (D×List Blk) :=
 match cn P t with
 | some e=>match szOf P e,cP P e with
  | some sz,some z =>
   if z.length=sz∧len*sz≤16777216 then
    match pQ (fun i=>some (i*sz,sz)) (HA len z).flatten parts with
    | some cs=>some (.ref (.vec h.length 0),h++[.vec (chunk sz len cs) 0 sz])
    | none=>none
   else none
  | _,_=>none
 | none=>none
def u5(P:Program)(h:List Blk)(t:TypeId)(len cap:D):Option (Bool×D×List Blk) :=
 match cn P t,intOf? len,intOf? cap with
 | some e,some (_,n),some (_,c) =>
  match szOf P e,bytesOf P e,cP P e with
  | some sz,some by',some z =>
   if z.length=sz then
    some (Qd (0≤n)&&Qd (n≤c)&&Qd (c*by'≤281474976710656)&&Qd (c≤281474976710656),.ref (.vec h.length 0),h++[.vec (HA n.toNat z) 0 sz])
   else none
  | _,_,_=>none
 | _,_,_=>none
def eo(P:Program)(h:List Blk)(t:TypeId)(len cap:D):Option (Bool×D×List Blk) :=
 match cn P t,intOf? len,intOf? cap with
 | some e,some (_,n),some (_,c) =>
  match szOf P e,bytesOf P e,cP P e with
  | some sz,some by',some z =>
   if z.length=sz then
    some (Qd (0<n)&&Qd (n≤c)&&Qd (c*by'≤281474976710656)&&Qd (c≤281474976710656),.ref (.vs h.length 0 0 n.toNat (some c.toNat)),h++[.vec (HA c.toNat z) 0 sz])
   else none
  | _,_,_=>none
 | _,_,_=>none
def zF:Operand→Operand→Bool
 | .const (.int _ a),.const (.int _ b)=>Qd (a<b)
 | _,_=>false
def a9(d:Option D)(dflt:Int):Option Int :=
 match d with
 | none=>some dflt
 | some d=>(intOf? d).map (·.2)
def co(lo hi:Int)(n:Nat):Bool:=Qd (0≤lo)&&Qd (lo≤hi)&&Qd (hi≤n)
def dQ(hi:Int)(n:Nat):Option Int→Bool
 | none=>true
 | some m=>Qd (hi≤m)&&Qd (m≤n)
def bA(hi:Int):Option Int→Bool
 | none=>false
 | some m=>Qd (m=hi)
def s9:Option D→Option (Option Int)
 | none=>some none
 | some m=>(intOf? m).map fun k=>some k.2
def tb(x:D)(l:Int)(hi:Option D)(mx:Option Int):Option (Bool×D) :=
 match x with
 | .p (.v (.string s))=>match a9 hi s.size,mx with
  | some u,none=>some (co l u s.size,lit (.string (s.extract l.toNat u.toNat)))
  | _,_=>none
 | _=>none
def tc(c:Option Nat)(l u:Int)(mx:Option Int):Option Nat:=match bA u mx with
 | true=>some (u.toNat - l.toNat)
 | false=>match mx with
  | none=>c.map (· - l.toNat)
  | some _=>none
def bT(cl:Bool)(rows:List (List Dp)):D:=if cl then .csl rows else .p (.sl rows)
def sliceRow(h:List Blk)(x:D)(sz n:Nat)(l u:Int)(mx:Option Int):Option (Bool×D) :=
 match x with
 | .p (.v (.slice none 0 0))=>some (true,nilSl)
 | .p (.sl es)=>some (es.all (fun r=>Qd (r.length=sz)),bT (bA u mx) ((es.drop l.toNat).take (u.toNat - l.toNat)))
 | .csl es=>some (es.all (fun r=>Qd (r.length=sz)),bT (bA u mx||(mx.isNone&&Qd (u=n))) ((es.drop l.toNat).take (u.toNat - l.toNat)))
 | .ref (.vec b e')=>match h[b]? with
  | some (.vec es e2 sz')=>if e'=e2∧sz'=sz then
    some (true,if l=0∧u=es.length∧mx=none then .ref (.vec b e')
     else if u=l∧¬(u=es.length∧mx=none) then bT (bA u mx) [] else .ref (.vs b e' l.toNat (u.toNat - l.toNat) (tc none l u mx))) else none
  | _=>none
 | .ref (.vs b e' i m c)=>match h[b]? with
  | some (.vec es e2 sz')=>if e'=e2∧sz'=sz then
    some (true,if u=l∧¬(i+u.toNat=es.length∧mx=none∧c=none) then bT (bA u mx) [] else .ref (.vs b e' (i+l.toNat) (u.toNat - l.toNat) (tc c l u mx))) else none
  | _=>none
 | .ref (.av b off _ sz')=>match h[b]? with
  | some (.var _)=>if sz'=sz then some (true,if u=l then bT (bA u mx) [] else .ref (.av b (off+l.toNat*sz) (u.toNat - l.toNat) sz)) else none
  | _=>none
 | _=>none
def eu(P:Program)(h:List Blk)(len:Nat)(e:TypeId)(x:D)(l:Int)(hi:Option D)(mx:Option Int):Option (Bool×D) :=
 match x with
 | .ref (.ptr b off)=>match szOf P e,a9 hi len,h[b]?,mx with
  | some sz,some u,some (.var _),none=>some (co l u len,if u=l then .p (.sl []) else .ref (.av b (off+l.toNat*sz) (u.toNat - l.toNat) sz))
  | _,_,_,_=>none
 | _=>none
def oy(h:List Blk)(x:D)(sz:Nat)(lo hi mx:Option D):Option (Bool×D) :=
 match x,lo,hi,mx with
 | .ref (.vs b e' i n (some k)),none,some hd,none=>match intOf? hd with
  | some (_,u)=>match Qd ((n:Int)<u∧u≤k) with
   | true=>match h[b]? with
    | some (.vec es e2 sz')=>match Qd (e'=e2∧sz'=sz) with
     | true=>some (Qd (i+u.toNat≤es.length),.ref (.vs b e' i u.toNat (some k)))
     | false=>none
    | _=>none
   | false=>none
  | none=>none
 | _,_,_,_=>none
def cW(P:Program)(h:List Blk)(t:TypeId)(x:D)(lo hi max:Option D):Option (Bool×D) :=
 match a9 lo 0,s9 max with
 | some l,some mx =>
  match P.underlying t with
  | some .string=>tb x l hi mx
  | some (.slice e) =>
   match szOf P e,lenD h x with
   | some sz,some n=>match oy h x sz lo hi max with
    | some r=>some r
    | none=>match a9 hi n with
    | some u=>(sliceRow h x sz n l u mx).map fun r=>(co l u n&&dQ u n mx&&(mx.isNone||hi.isSome)&&r.1,r.2)
    | none=>none
   | _,_=>none
  | some (.array len e)=>eu P h len e x l hi mx
  | some (.pointer arr)=>match P.underlying arr with
   | some (.array len e)=>eu P h len e x l hi mx
   | _=>none
  | _=>none
 | _,_=>none
def jb(P:Program)(h:List Blk)(t:TypeId)(x:D):Option D :=
 match P.underlying t with
 | some .string=>match x with
  | .p (.v (.string s))=>some (lit (.int .i64 s.size))
  | _=>none
 | some (.slice _)=>(lenD h x).map fun (n:Nat)=>lit (.int .i64 (n:Int))
 | some (.map _ _)=>match x with
  | .p (.v (.map none))=>some (lit (.int .i64 0))
  | .ref (.mp b)=>match h[b]? with
   | some (.map kvs _)=>some (lit (.int .i64 kvs.length))
   | _=>none
  | _=>none
 | some (.array n _)=>some (lit (.int .i64 n))
 | _=>none
def jc(mx:Bool)(x:D):List D→Option D
 | []=>some x
 | y::rest=>match intOf? x,intOf? y with
  | some (k,a),some (_,b)=>jc mx (lit (.int k (if mx then (if b>a then b else a) else (if b<a then b else a)))) rest
  | _,_=>none
def CI(P:Program)(src dst:TypeId)(x:D):Option D :=
 match P.underlying src,P.underlying dst,x with
 | some _,some (.int k),.p (.v (.int _ n))=>some (lit (.int k (k.wrap n)))
 | some _,some .string,.p (.v (.string s))=>some (lit (.string s))
 | _,_,_=>none
def bC:D→D→Option Bool
 | .p (.v (.int k a)),.p (.v (.int k' b))=>if k=k' then some (a==b) else none
 | .p (.v (.string a)),.p (.v (.string b))=>some (eqS a b)
 | .p (.v (.bool a)),.p (.v (.bool b))=>some (a==b)
 | _,_=>none
def cV(P:Program)(t:TypeId)(k:D):Bool :=
 match P.underlying t,k with
 | some (.int _),.p (.v (.int _ _))=>true
 | some .string,.p (.v (.string _))=>true
 | some .bool,.p (.v (.bool _))=>true
 | _,_=>false
def b9(k:D):List (D×D×Nat)→Nat→Option (Option (Nat×D))
 | [],_=>some none
 | (k',d,_)::kvs,i=>match bC k k' with
  | some true=>some (some (i,d))
  | some false=>b9 k kvs (i+1)
  | none=>none
def j4(h:List Blk):D→Option (List (D×D×Nat))
 | .p (.v (.map none))=>some []
 | .ref (.mp b)=>match h[b]? with
  | some (.map kvs _)=>some kvs
  | _=>none
 | _=>none
def aX(P:Program)(h:List Blk)(t:TypeId)(x k:D)(commaOk:Bool):Option D :=
 match P.underlying t,j4 h x with
 | some (.map kt et),some kvs =>
  if cV P kt k then
   match b9 k kvs 0,fd P et with
   | some (some (_,d)),some _=>some (if commaOk then .tup [d,lit (.bool true)] else d)
   | some none,some z=>some (if commaOk then .tup [mX z,lit (.bool false)] else mX z)
   | _,_=>none
  else none
 | _,_=>none
def fO(P:Program)(h:List Blk)(t:TypeId)(x k v:D):Option (List Blk) :=
 match P.underlying t,x with
 | some (.map kt _),.ref (.mp b)=>match h[b]? with
  | some (.map kvs clock) =>
   if cV P kt k then
    match b9 k kvs 0 with
    | some (some (i,_))=>match kvs[i]? with
     | some (_,_,n)=>some (h.set b (.map (kvs.set i (k,v,n)) clock))
     | none=>none
    | some none=>some (h.set b (.map (kvs++[(k,v,clock)]) (clock+1)))
    | none=>none
   else none
  | _=>none
 | _,_=>none
def te(P:Program)(h:List Blk)(t:TypeId)(x:D):Option (D×List Blk) :=
 match P.underlying t,x with
 | some .string,.p (.v (.string s))=>some (.ref (.it h.length),h++[.sit s 0])
 | some (.map _ _),.p (.v (.map none))=>some (.ref (.it h.length),h++[.mit none 0 [] 0])
 | some (.map _ _),.ref (.mp b)=>match h[b]? with
  | some (.map _ clock)=>some (.ref (.it h.length),h++[.mit (some b) clock [] clock])
  | _=>none
 | _,_=>none
def zG(h:List Blk)(isString:Bool):D→Option (D×List Blk)
 | .ref (.it b)=>match h[b]?,isString with
  | some (.sit s pos),true =>
   if pos<s.size then
    let r:=Utf8.decode s pos
    some (.tup [lit (.bool true),lit (.int .i64 pos),lit (.int .i32 r.1)],h.set b (.sit s (pos+r.2)))
   else some (.tup [lit (.bool false)],h)
  | some (.mit none _ _ _),false=>some (.tup [lit (.bool false)],h)
  | some (.mit (some mb) since seen st),false=>match h[mb]? with
   | some (.map kvs clock) =>
    match kvs.filter (fun e=>!seen.contains e.2.2) with
    | []=>if seen.isEmpty||kvs.isEmpty||kvs.any (fun e=>Qd (e.2.2<st)) then some (.tup [lit (.bool false)],h) else none
    | [(k,v,n)]=>if (seen.isEmpty||kvs.any (fun e=>Qd (e.2.2<st)))&&Qd (n<since) then some (.tup [lit (.bool true),k,v],h.set b (.mit (some mb) since (seen++[n]) clock)) else none
    | _=>none
   | _=>none
  | _,_=>none
 | _=>none
def m9(h:List Blk):D→Option D
 | .ref (.it b)=>match h[b]? with
  | some (.mit (some mb) _ seen st)=>match h[mb]?,seen.getLast? with
   | some (.map kvs clock),some n=>if clock=st then (kvs.find? (fun e=>e.2.2==n)).map fun e=>.tup [e.1,e.2.1] else none
   | _,_=>none
  | _=>none
 | _=>none
section
variable {P:Program} {Γ:ae} {O:Nat→Prop} {w:World} {l:Loc} {h:List Blk}
theorem ex{t:TypeId}{n:Nat}(hb:bytesOf P t=some n):∃i,P.info? t=some i∧i.bytes=n:=by
 unfold bytesOf at hb
 cases hi:P.info? t with
 | none=>simp[hi] at hb
 | some i=>simp[hi] at hb;exact⟨i,rfl,hb⟩
theorem zeroV_run{t:TypeId}{v:Value}(hz:fd P t=some v)(w:World):(zeroValue t).run P w=.ok v w:=by
 unfold fd at hz
 cases hi:P.info? t with
 | none=>simp[hi] at hz
 | some i=>simp[hi] at hz;simp[zeroValue,typeInfo,hi,hz]
theorem CellsAt.mapP{av:Nat→Prop}{blk sz:Nat}:∀{es:List (List Dp)} {off:Nat},RelRows w av blk sz off es →
  CellsAt w av l h blk off (es.map (·.map .p)).flatten
 | [],_,_=>fun j d hd=>by simp at hd
 | e::es,off,r=>by
  simp only[RelRows] at r
  intro j d hd
  simp only[Il,Ic] at hd
  rcases Nat.lt_or_ge j e.length with hj|hj
  ·rw[HF (by simpa using hj)] at hd
   exact CellsAt.of_cells r.2.1 j d hd
  ·rw[HT (by simpa using hj)] at hd
   obtain⟨y,h1,h2⟩:=CellsAt.mapP (off:=off+sz) r.2.2 (j - e.length) d (by simpa using hd)
   refine⟨y,?_,h2⟩
   rw[←h1];congr 2;rw[←r.1];omega
theorem bu{size n blk off len cap:Nat}{rows:List (List D)}{av:Nat→Prop}(c:CellsAt w av l h blk off rows.flatten)(hr:∀r∈rows,r.length=size)(hn:n=rows.length):
  ∃ys:List Value,(H4 size n (.slice (some ⟨blk,off,none⟩) len cap)).run P w=.ok ys.toArray w∧RelL w av l h rows.flatten ys:=by
 obtain⟨ys,h1,h2⟩:=c.list
 refine⟨ys,?_,h1⟩
 have hl:ys.length=n*size:=by rw[←h1.length,ah hr,hn]
 exact run_firstCells_some w size n ⟨blk,off,none⟩ len cap ys hl (fun j v hv=>by simpa using h2 j v hv)
theorem gW{n:Nat}:∀(k:Nat) (cs:List D),n*k≤cs.length→(chunk n k cs).flatten=cs.take (n*k)∧(∀r∈chunk n k cs,r.length=n)∧(chunk n k cs).length=k
 | 0,cs,_=>by simp[chunk]
 | k+1,cs,hl=>by
  have hl':n*k+n≤cs.length:=by rw[Nat.mul_succ] at hl;exact hl
  obtain⟨h1,h2,h3⟩:=gW (n:=n) k (cs.drop n) (by simp;omega)
  refine⟨?_,?_,by simp[chunk,h3]⟩
  ·simp only[chunk,Ic,h1]
   rw[show n*(k+1)=n+n*k by rw[Nat.mul_succ];omega,List.take_add]
  ·intro r hr
   simp only[chunk,HB] at hr
   rcases hr with rfl|hr
   ·simp;omega
   ·exact h2 r hr
theorem ax{sz:Nat}:∀{es:List (List D)} (_:∀e∈es,e.length=sz) (i n:Nat),i+n≤es.length→((es.drop i).take n).flatten=(es.flatten.drop (i*sz)).take (n*sz)
 | es,he,0,0,_=>by simp
 | [],_,0,n+1,hl=>by simp at hl
 | e::es,he,0,n+1,hl=>by
  have h1:=he e (by simp)
  have ih:=ax (es:=es) (fun e' h'=>he e' (by simp[h'])) 0 n (by simp at hl;omega)
  simp only[List.drop_zero,ML] at ih ⊢
  simp only[M9,Ic,ih]
  rw[List.take_append,h1,Jn,Nat.add_sub_cancel,H3 (l:=e) (by omega)]
 | [],_,i+1,n,hl=>by
  have:n=0:=by simp at hl
  subst this;simp
 | e::es,he,i+1,n,hl=>by
  have h1:=he e (by simp)
  have ih:=ax (es:=es) (fun e' h'=>he e' (by simp[h'])) i n (by simp at hl;omega)
  simp only[Lm,Ic,ih]
  congr 1
  rw[Kz,h1,show(i+1)*sz - sz=i*sz by rw[Jn];omega,MA (as:=e) (by rw[h1,Jn];omega)]
  simp
theorem bE(R:Rep Γ O w l h){x:D}{y:Value}{rows:List (List D)}{size:Nat}(rx:Rel w (avs O l h) l h x y)(hx:rowsD h x=some rows)(hr:∀r∈rows,r.length=size):
  (Ii y).run P w=.ok rows.length w∧∃ys:List Value,(H4 size rows.length y).run P w=.ok ys.toArray w∧RelL w (avs O l h) l h rows.flatten ys:=by
 cases x with
 | p dp =>
  cases dp with
  | v x =>
   simp only[Rel,RelP] at rx
   subst rx
   cases y<;>simp[rowsD] at hx
   case string s =>
    subst hx
    refine⟨by simp[Ii],s.data.toList.map (fun b=>.int .u8 b.toNat),?_,?_⟩
    ·have:s.extract 0 s.data.toList.length=s:=by
      have:s.data.toList.length=s.size:=by simp
      rw[this];exact ByteArray.extract_zero_size
     simp only[H4,List.length_map,this,HH]
     congr 1
     apply Array.ext'
     simp
    ·have:(s.data.toList.map fun b=>[lit (.int .u8 b.toNat)]).flatten=(s.data.toList.map fun b=>(Value.int .u8 b.toNat)).map lit:=by
      rw[List.map_map]
      induction s.data.toList with
      | nil=>rfl
      | cons a t ih=>simp[ih]
     rw[this];exact RelL.lits _
   case slice a n c =>
    cases a<;>cases n<;>cases c<;>simp at hx
    subst hx
    exact⟨by simp[Ii],[],by simp[H4],by simp[RelL]⟩
  | sl es =>
   simp only[rowsD,G0] at hx
   subst hx
   simp only[Rel,RelP] at rx
   rcases rx with ⟨rfl,a,cap,rfl,_⟩|⟨blk,off,cap,sz,rfl,_,rr⟩
   ·exact⟨by simp[Ii],[],by cases a<;>simp[H4,loadCells,loadCellsFrom],by simp[RelL]⟩
   ·obtain⟨ys,h1,h2⟩:=bu (P:=P) (len:=es.length) (cap:=cap) (CellsAt.mapP (l:=l) (h:=h) rr) hr rfl
    exact⟨by simp[Ii],ys,h1,h2⟩
 | csl es =>
  simp only[rowsD,G0] at hx
  subst hx
  simp only[Rel] at rx
  rcases rx with ⟨rfl,a,rfl⟩|⟨blk,off,sz,rfl,rr⟩
  ·exact⟨by simp[Ii],[],by cases a<;>simp[H4,loadCells,loadCellsFrom],by simp[RelL]⟩
  ·obtain⟨ys,h1,h2⟩:=bu (P:=P) (len:=es.length) (cap:=es.length) (CellsAt.mapP (l:=l) (h:=h) rr) hr rfl
   exact⟨by simp[Ii],ys,h1,h2⟩
 | ref r =>
  obtain⟨g1,hrr⟩:=rx
  cases r with
  | vec b e =>
   simp only[rowsD] at hx hrr
   cases hb:h[b]? with
   | none=>simp[hb] at hx
   | some bx =>
    cases bx<;>simp only[hb,reduceCtorEq] at hx hrr
    rename_i es e' sz
    split at hx
    case isFalse=>simp at hx
    rename_i he
    cases hx
    have hv:=hrr.2 he.symm
    have hbk:=R.blk b _ hb
    cases hlb:l b with
    | none =>
     simp only[hlb,fg,BlkOk] at hv hbk
     obtain⟨_,rfl⟩:=hv
     subst hbk
     exact⟨by simp[Ii],[],by simp[H4],by simp[RelL]⟩
    | some pr =>
     obtain⟨blk,cap⟩:=pr
     simp only[hlb,fg,BlkOk] at hv hbk
     obtain⟨oo,cc,rfl,rfl,_⟩:=hv
     obtain⟨o2,c2,rc,c,T,fr,ys,q1,q2,q3,q4,q5,q6,pre,rest,q0,q7⟩:=hbk
     obtain⟨rfl,rfl⟩:=b6 rc
     obtain⟨zs,h1,h2⟩:=bu (P:=P) (len:=rows.length) (cap:=cc) (CellsAt.of_relO q1 q0 q7 q6) hr rfl
     exact⟨by simp[Ii],zs,h1,h2⟩
  | vs b e i n clip =>
   simp only[rowsD] at hx hrr
   cases hb:h[b]? with
   | none=>simp[hb] at hx
   | some bx =>
    cases bx<;>simp only[hb,reduceCtorEq] at hx hrr
    rename_i es e' sz
    split at hx
    case isFalse=>simp at hx
    rename_i he
    cases hx
    obtain⟨hin,blk,oo,cap,c2,hlb,hy,hnc,_⟩:=hrr.2 he.symm
    have hbk:=R.blk b _ hb
    simp only[hlb,BlkOk] at hbk
    obtain⟨o2,cc,rc,c,T,fr,ys,q1,q2,q3,q4,q5,q6,pre,rest,q0,q7⟩:=hbk
    obtain⟨rfl,rfl⟩:=b6 rc
    have hlen:((es.drop i).take n).length=n:=by simp;omega
    rcases hy with rfl|⟨a0,rfl,rfl⟩
    case inr =>
     obtain rfl:n=0:=by omega
     refine⟨by simp[Ii],[],?_,by simp[RelL]⟩
     cases a0<;>simp[H4,loadCells,loadCellsFrom]
    have hca:CellsAt w (avs O l h) l h blk (oo+i*sz) ((es.drop i).take n).flatten:=by
     rw[ax q5 i n hin]
     have:=(CellsAt.of_relO q1 q0 q7 q6).drop (i*sz)
     exact fun j d hd=>this j d (by rw[JI] at hd;split at hd<;>simp_all)
    obtain⟨zs,h1,h2⟩:=bu (P:=P) (len:=n) (cap:=c2) hca hr rfl
    exact⟨by simp only[Ii,hlen,HH],zs,h1,h2⟩
  | av b off n sz =>
   simp only[rowsD] at hx hrr
   cases hb:h[b]? with
   | none=>simp[hb] at hx
   | some bx =>
    cases bx<;>simp only[hb,reduceCtorEq] at hx hrr
    rename_i cs
    cases hx
    obtain⟨blk,cp,c2,hlb,rfl,_⟩:=hrr
    obtain⟨blk',cp',c,T,h3,h4,h5⟩:=R.blk b _ hb
    obtain⟨rfl,rfl⟩:blk=blk'∧cp=cp':=by simpa[hlb] using h3
    have hcl:∀(k:Nat) (cs:List D),(chunk sz k cs).length=k:=by
     intro k;induction k with
     | zero=>simp[chunk]
     | succ k ih=>intro cs;simp[chunk,ih]
    have hfl:∀(k:Nat) (cs:List D),∃m,(chunk sz k cs).flatten=cs.take m:=by
     intro k;induction k with
     | zero=>exact fun cs=>⟨0,by simp[chunk]⟩
     | succ k ih =>
      intro cs
      obtain⟨m,hm⟩:=ih (cs.drop sz)
      exact⟨sz+m,by simp only[chunk,Ic,hm];rw[List.take_add]⟩
    have hca:CellsAt w (avs O l h) l h blk off (chunk sz n (cs.drop off)).flatten:=by
     obtain⟨m,hm⟩:=hfl n (cs.drop off)
     rw[hm]
     have:=(CellsAt.of_rel h4 (by simp;rfl) h5).drop off
     rw[I7] at this
     exact fun j d hd=>this j d (by rw[JI] at hd;split at hd<;>simp_all)
    obtain⟨zs,h1,h2⟩:=bu (P:=P) (len:=n) (cap:=c2) hca hr rfl
    exact⟨by simp[Ii,hcl],zs,h1,h2⟩
  | _=>simp[rowsD] at hx
 | _=>simp[rowsD] at hx
end
end Go.Vi
