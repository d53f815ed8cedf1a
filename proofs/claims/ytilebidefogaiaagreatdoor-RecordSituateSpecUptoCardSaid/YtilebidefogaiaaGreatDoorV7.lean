/- RecordSituateSpecUpto: part of the proof: an evaluator of the model's programs on abstract values, and its soundness. No conditions beyond the given statement's own. -/
import Derived.Test.YtilebidefogaiaaGreatDoorV6
import Derived.Laws.BitsLemmas
import Derived.ChangeArms
import Derived.OpenShut
import Derived.Below
import Derived.Carry
open Decidable renaming decide → Zd
open Go.Vi.D renaming innL → Ig, Om → Jk, mapR → HO, mapRL → It
open Go.CallsIn renaming mono → JQ
open Nat renaming lt_of_lt_of_le → JH, add_mul → J0, mul_le_mul_right → Kk, sub_zero → Km
open Go.Vi.RelCells renaming mono → Lh
open Option.some renaming injEq → Ho, inj → MD
open Prod.mk renaming injEq → Hu
open Bool renaming and_eq_true → Hx, not_eq_true → Kb
open List renaming map_cons → Il, mem_cons → HR, mem_cons_of_mem → Iu, drop_drop → LC, drop_zero → La, drop_append → Lc, getElem?_eq_some_iff → Hs, all_append → Lw, all_eq_true → HU, all_cons → JV, contains_iff_mem → JX, length_map → Ir, getElem?_eq_getElem → HH, mem_map → HQ, mem_of_getElem? → H1, range → Iy, getElem?_map → IQ, append_nil → K6, getElem?_cons_succ → I2, getD → HD, getElem?_append_left → HK, flatten_cons → Iq, drop_eq_nil_of_le → Ln, append_assoc → J2, length_append → ID, length_cons → HY, getElem?_cons_zero → HZ, length_nil → Jj, getD_eq_getElem?_getD → HW, mem_filter → J6
open Go.DataW renaming weightsEach → Nu, trod → KN, weights → K2
open Array renaming getElem?_toList → IH, isEmpty_iff_size_eq_zero → LM
open Go.Vi.Blk renaming mapR → Jp, le → LK, stays → LI
open Go.Vi.Ref renaming bV → LL
open Go.Vi.AllP renaming append → Ll
open Option renaming map_some → H9
open Go.Instr renaming next → Kn
open Go.Sem renaming run_bind → HM
open Go.Result renaming andThen_ok → HE
open Go.Question renaming forced → Kh
open Go.Region renaming wanted → I9
namespace Go.Vi
open Go
section
variable {P:Program} {Γ:aw}
theorem cw{l:Loc}{bV:Nat}:¬own l [] bV:=by
 rintro⟨b,x,cp,h,_⟩
 simp at h
theorem Ev.frame0{f:FuncId}{args:List D}{d:D}(ha:Ig 0 args=true)(he:Ev P Γ f args [] d [])(h:List Blk):Ev P Γ f args h d h:=by
 intro O w l vs R ra
 have Qc:∀l' k,avs (avs O l h) l' [] k ↔ avs O l h k:=fun l' k=>⟨fun ho=>ho.elim id (fun h=>absurd h cw),fun ho=>.inl ho⟩
 have R0:Rep Γ (avs O l h) w l []:=by
  refine⟨fun bV ho=>absurd ho cw,fun bV ho=>?_,fun b b' x x' k c c' hb=>by simp at hb,fun b x hb=>by simp at hb,fun g cs hg=>?_⟩
  ·rcases ho with ho|ho
   ·exact R.P2 bV ho
   ·exact(R.Ov bV ho).1
  ·exact aF (fun k hk=>(Qc l k).1 hk) (R.Qd g cs hg)
 have ra0:RelL w (avs (avs O l h) l []) l [] args vs:=bI (h:=h) (n:=0) (fun k hk=>(Qc l k).1 hk) ha ra
 refine JQ (he (avs O l h) w l vs R0 ra0) ?_
 rintro e w' ⟨v,d2,h2,l',rfl,⟨rfl,rfl⟩,R',E',rd⟩
 have E:Ext w l h w' l h:=⟨E'.size,fun bV hb _=>E'.same bV hb cw,fun bV ho=>.inl ho,fun b x hx=>⟨x,hx,x.le_refl,fun _=>rfl⟩,E'.tape⟩
 refine⟨v,d2,h,l,rfl,⟨rfl,rfl⟩,⟨fun bV ho=>⟨JH (R.Ov bV ho).1 E'.size,(R.Ov bV ho).2⟩,fun bV ho=>JH (R.P2 bV ho) E'.size,R.inj,fun b x hx=>?_,fun g cs hg=>?_⟩,E,?_⟩
 ·by_cases hg:x=.gone
  ·subst hg;trivial
  exact BlkOk.ext E rfl (fun bV cp hl=>E'.same bV (R.Ov bV ⟨b,x,cp,hx,hg,hl⟩).1 cw) (R.bV b x hx)
 ·exact Lh E.hc g 0 cs (R.Qd g cs hg)
 ·exact Rel.mono (fun bV off y hn hc=>⟨hc,fun ho=>hn ((Qc l' bV).2 ho)⟩) (fun b x hb=>by simp at hb) d2 v rd
def out0(r:Option (D×List Blk×List Prop)):Option (D×List Prop):=match r with
 | some (d,_,φ)=>some (d,φ)
 | none=>none
def outF(r:Option (D×List Blk×List Prop)):Option (D×List Blk×List Prop):=match r with
 | some (d,h,φ)=>some (d,h,φ)
 | none=>none
theorem Ev.of_sym'(ok:POk P){f:FuncId}{args:List D}{h h':List Blk}{d:D}{φ:List Prop}(as:List Ans)(hs:C3 P Γ f args h as=some (d,h',φ))(hp:AllP φ):Ev P Γ f args h d h' :=
 Ev.sym ok as (by rw[hs];exact⟨rfl,rfl,hp⟩)
theorem Ev.of_sym(ok:POk P){f:FuncId}{args:List D}{h h':List Blk}{d:D}{φ:List Prop}(as:List Ans)(hs:outF (C3 P Γ f args h as)=some (d,h',φ))(hp:AllP φ):Ev P Γ f args h d h':=by
 refine Ev.of_sym' ok as ?_ hp
 unfold outF at hs
 split at hs
 ·rename_i h1
  rw[h1]
  exact hs
 ·simp at hs
theorem Ev.sym0(ok:POk P){f:FuncId}{args:List D}{d:D}{φ:List Prop}(as:List Ans)(hs:out0 (C3 P Γ f args [] as)=some (d,φ))(hp:AllP φ)(ha:Ig 0 args=true)(hd:Jk 0 d=true)(h:List Blk):Ev P Γ f args h d h:=by
 refine Ev.frame0 ha ?_ h
 unfold out0 at hs
 split at hs
 case h_2=>simp at hs
 rename_i d1 h1 P5 hr
 simp only[Ho,Hu] at hs
 obtain⟨rfl,rfl⟩:=hs
 have:=Ev.trim (h:=[]) hd rfl (Ev.of_sym' ok as hr hp)
 simpa using this
def outT(n:Nat)(r:Option (D×List Blk×List Prop)):Option (D×List Blk×List Prop):=match r with
 | some (d,h,φ)=>match Jk n d&&(h.take n).all (Blk.Om n) with
  | true=>some (d,h.take n,φ)
  | false=>none
 | none=>none
theorem Ev.symT(ok:POk P){f:FuncId}{args:List D}{h h':List Blk}{d:D}{φ:List Prop}(as:List Ans)(hs:outT h.length (C3 P Γ f args h as)=some (d,h',φ))(hp:AllP φ):Ev P Γ f args h d h':=by
 unfold outT at hs
 split at hs
 case h_2=>simp at hs
 rename_i d1 h1 P5 hr
 split at hs
 case h_2=>simp at hs
 rename_i hb
 simp only[Hx] at hb
 simp only[Ho,Hu] at hs
 obtain⟨rfl,rfl,rfl⟩:=hs
 exact Ev.trim hb.1 hb.2 (Ev.of_sym' ok as hr hp)
theorem Iv.of(ok:POk P){x:D}{args:List D}{h h':List Blk}{d:D}{f:FuncId}{fi ca:List D}(hx:ft x=some (f,fi,ca))(hf:mA P f=true)(he:Ev P Γ f (fi++args++ca) h d h'):Iv P Γ x args h d h':=VInv.of_call ok hx hf he
def mkT:Nat→Nat→List (Nat×D)→List D
 | 0,_,_=>[]
 | n+1,i,[]=>.any::mkT n (i+1) []
 | n+1,i,(k,d)::ds=>match i==k with
  | true=>d::mkT n (i+1) ds
  | false=>.any::mkT n (i+1) ((k,d)::ds)
theorem CW.post{h0:List Blk}{rd:Bool}{c:Code}{s s' Sc:AS}{e:Exit}{as as':List Ans}{φ:List Prop}(hq:Vi.pre h0 s' as=some (Sc,as',φ))(hp:AllP φ)(hw:CW P Γ h0 rd c s e s'):CW P Γ h0 rd c s e Sc:=by
 intro X r hn P7 a w hs
 refine wpIn_mono (hw X r hn P7 a w hs) ?_
 rintro e' a' w' ⟨h2,s2,⟨rfl,rfl⟩,h4⟩
 subst hn
 exact⟨h2,_,⟨rfl,rfl⟩,uz _ _ _ _ _ hq hp _ _ h4⟩
def outC(ks:List Nat)(r:Option Res):Option (Exit×AS×List Prop):=match r with
 | some ((e,s,[]),φ)=>some (e,qn ks s,φ)
 | _=>none
theorem CW.mask{h0:List Blk}{rd:Bool}{c:Code}{s s':AS}{e:Exit}(ks:List Nat)(hw:CW P Γ h0 rd c s e s'):CW P Γ h0 rd c s e (qn ks s') :=
 CW.post (as:=[.st (.mask ks)]) (as':=[]) (φ:=[]) rfl trivial hw
theorem CW.sym(ok:POk P){h0:List Blk}{rd:Bool}{c:Code}{s s':AS}{e:Exit}{φ:List Prop}(ks:List Nat)(as:List Ans)(hs:outC ks (symC P Γ h0 rd c s as)=some (e,s',φ))(hp:AllP φ):CW P Γ h0 rd c s e s':=by
 unfold outC at hs
 split at hs
 case h_2=>simp at hs
 rename_i e1 s1 P5 hr
 simp only[Ho,Hu] at hs
 obtain⟨rfl,rfl,rfl⟩:=hs
 exact CW.mask ks (yd ok c _ _ _ _ _ _ hr hp)
def Bi(h0:List Blk)(os:List Ans)(r:Option Res):Option (Exit×AS×List Prop):=match r with
 | some ((e,s,[]),φ)=>match Vi.pre h0 s os with
  | some (s,[],φ')=>some (e,s,φ++φ')
  | _=>none
 | _=>none
theorem CW.symX(ok:POk P){h0:List Blk}{rd:Bool}{c:Code}{s s':AS}{e:Exit}{φ:List Prop}(os as:List Ans)(hs:Bi h0 os (symC P Γ h0 rd c s as)=some (e,s',φ))(hp:AllP φ):CW P Γ h0 rd c s e s':=by
 unfold Bi at hs
 split at hs
 case h_2=>simp at hs
 rename_i e1 s1 P5 hr
 split at hs
 case h_2=>simp at hs
 rename_i s2 φ2 ht
 simp only[Ho,Hu] at hs
 obtain⟨rfl,rfl,rfl⟩:=hs
 obtain⟨p1,p2⟩:=hp.append
 exact CW.post ht p2 (yd ok c _ _ _ _ _ _ hr p1)
theorem CW.loop{h0:List Blk}{rd:Bool}{c:Code}{ι:Type}(st:ι→AS)(fin:ι→Exit×AS)(μ:ι→Nat)
  (round:∀i,(∃j,μ j<μ i∧fin j=fin i∧CW P Γ h0 rd c (st i) .normal (st j))∨((fin i).1 ≠ .normal∧CW P Γ h0 rd c (st i) (fin i).1 (fin i).2)) (i0:ι):CW P Γ h0 rd (.loop c) (st i0) (fin i0).1 (fin i0).2:=by
 intro X r hn P7
 refine VW.loop (fun i s=>s=st i∧fin i=fin i0) μ i0 ⟨rfl,rfl⟩ ?_
 rintro i s ⟨rfl,hi⟩
 rcases round i with ⟨j,h1,h2,h3⟩|⟨h1,h2⟩
 ·refine(h3 X r hn P7).mono ?_
  rintro e s ⟨rfl,rfl⟩
  exact⟨j,⟨rfl,h2.trans hi⟩,h1⟩
 ·refine(h2 X r hn P7).mono ?_
  rintro e s ⟨rfl,rfl⟩
  rw[hi] at h1 ⊢
  generalize (fin i0).1=e at h1
  cases e with
  | normal=>exact absurd rfl h1
  | _=>exact⟨rfl,rfl⟩
theorem CW.loopN{h0:List Blk}{rd:Bool}{c:Code}(n:Nat)(st:Nat→AS){e:Exit}{s':AS}(he:e ≠ .normal)(hs:∀i,i<n→CW P Γ h0 rd c (st i) .normal (st (i+1)))(hl:CW P Γ h0 rd c (st n) e s'):CW P Γ h0 rd (.loop c) (st 0) e s':=by
 refine CW.loop (ι:={i:Nat // i≤n}) (fun i=>st i.1) (fun _=>(e,s')) (fun i=>n - i.1) ?_ ⟨0,Nat.zero_le _⟩
 rintro⟨i,hi⟩
 by_cases h:i<n
 ·exact .inl ⟨⟨i+1,by omega⟩,by simp only;omega,rfl,hs i h⟩
 ·have:i=n:=by omega
  subst this
  exact .inr ⟨he,hl⟩
def xh:Code→List Code
 | .seq a b=>xh a++xh b
 | .cond _ a b=>xh a++xh b
 | .block _ b=>xh b
 | .scope b=>xh b
 | .loop b=>b::xh b
 | .rangeFunc g ps a b=>.rangeFunc g ps a b::(xh a++xh b)
 | _=>[]
def sub(fn:Func)(k:Nat):Code:=match fn.body with
 | some c=>(xh c).getD k .skip
 | none=>.skip
theorem wrap_i64{n:Int}(h1 : -9223372036854775808≤n)(h2:n≤9223372036854775807):IntKind.i64.wrap n=n:=by
 rw[IntKind.wrap_i64]
 omega
end
def Shp(P:Program):Nat→TypeId→List Dp→Prop
 | 0,_,_=>False
 | n+1,t,ds=>match P.underlying t with
  | some .bool=>∃b,ds=[.v (.bool b)]
  | some (.int k)=>∃x,ds=[.v (.int k x)]∧(Lit.int k x).wf=true
  | some .string=>∃s,ds=[.v (.string s)]∧s.size≤reachBytes
  | some (.slice e)=>∃es,ds=[.sl es]∧es.length*P.bytesOf e≤reachBytes∧∀r∈es,Shp P n e r
  | some (.struct fs)=>ds.length=P.cellsOf t∧∀f∈fs.toList,Shp P n f.type ((ds.drop f.offset).take (P.cellsOf f.type))
  | _=>False
def bW(P:Program):List Field→Nat→Nat→Bool
 | [],acc,total=>acc==total
 | f::fs,acc,total=>(f.offset==acc)&&bW P fs (acc+P.cellsOf f.type) total
def qM(P:Program)(ts:List TypeId):Bool:=ts.all fun t=>match P.underlying t with
 | some .bool|some (.int _)|some .string=>true
 | some (.slice e)=>ts.contains e&&Zd (0<P.cellsOf e)
 | some (.struct fs)=>bW P fs.toList 0 (P.cellsOf t)&&fs.toList.all fun f=>ts.contains f.type
 | _=>false
def RelPL(w:World)(av:Nat→Prop):List Dp→List Value→Prop
 | [],[]=>True
 | d::ds,y::ys=>RelP w av d y∧RelPL w av ds ys
 | _,_=>False
section
variable {w:World} {av:Nat→Prop}
theorem RelPL.length:∀{ds:List Dp} {ys:List Value},RelPL w av ds ys→ds.length=ys.length
 | [],[],_=>rfl
 | _::_,_::_,h=>by simp[RelPL.length h.2]
 | [],_::_,h=>h.elim
 | _::_,[],h=>h.elim
theorem RelPL.append:∀{ds ds':List Dp} {ys Sj:List Value},RelPL w av ds ys→RelPL w av ds' Sj→RelPL w av (ds++ds') (ys++Sj)
 | [],_,[],_,_,h=>h
 | _::_,_,_::_,_,h,h'=>⟨h.1,RelPL.append h.2 h'⟩
 | [],_,_::_,_,h,_=>h.elim
 | _::_,_,[],_,h,_=>h.elim
theorem RelPL.relL{l:Loc}{h:List Blk}:∀{ds:List Dp} {ys:List Value},RelPL w av ds ys→RelL w av l h (ds.map .p) ys
 | [],[],_=>by simp[RelL]
 | _::_,_::_,r=>by simp only[Il,RelL,Rel];exact⟨r.1,RelPL.relL r.2⟩
 | [],_::_,h=>h.elim
 | _::_,[],h=>h.elim
theorem ln{P:Program}:∀{fs:List Field} {acc total:Nat},bW P fs acc total=true→acc≤total∧∀f∈fs,acc≤f.offset
 | [],acc,total,h=>by simp only[bW,beq_iff_eq] at h;exact⟨by omega,by simp⟩
 | f::fs,acc,total,h=>by
  simp only[bW,Hx,beq_iff_eq] at h
  obtain⟨h1,h2⟩:=ln h.2
  refine⟨by omega,fun g hg=>?_⟩
  rcases HR.1 hg with rfl|hg
  ·omega
  ·have:=h2 g hg;omega
theorem lp{P:Program}{cs:List Value}{S:TypeId→List Dp→Prop}{total:Nat}(hc:cs.length=total):∀(fs:List Field) (acc:Nat),bW P fs acc total=true →
  (∀f∈fs,∃ds,S f.type ds∧RelPL w av ds ((cs.drop f.offset).take (P.cellsOf f.type))) →
  ∃D,RelPL w av D (cs.drop acc)∧∀f∈fs,S f.type ((D.drop (f.offset - acc)).take (P.cellsOf f.type))
 | [],acc,h,_=>by
  simp only[bW,beq_iff_eq] at h
  refine⟨[],?_,by simp⟩
  rw[List.drop_of_length_le (by omega)]
  trivial
 | f::fs,acc,h,hf=>by
  simp only[bW,Hx,beq_iff_eq] at h
  obtain⟨rfl,h⟩:=h
  obtain⟨ds,hs,hr⟩:=hf f (List.mem_cons_self ..)
  obtain⟨D,hD,hS⟩:=lp hc fs _ h (fun g hg=>hf g (Iu _ hg))
  obtain⟨hle,hoff⟩:=ln h
  have hlen:ds.length=P.cellsOf f.type:=by
   have:=hr.length
   rw[this,List.length_take,List.length_drop]
   omega
  refine⟨ds++D,?_,fun g hg=>?_⟩
  ·have:=hr.append hD
   rw[←LC,List.take_append_drop] at this
   exact this
  ·rcases HR.1 hg with rfl|hg
   ·rw[Nat.sub_self,La,List.take_append_of_le_length (by omega),←hlen,List.take_length]
    exact hs
   ·have h1:=hoff g hg
    have hd:∀k,(ds++D).drop (ds.length+k)=D.drop k:=fun k=>by rw[Lc];simp
    rw[show g.offset - f.offset=ds.length+(g.offset - (f.offset+P.cellsOf f.type)) by omega,hd]
    exact hS g hg
theorem i6{bV c:Nat}:∀(es:List (List Dp)) (off:Nat),(∀i e,es[i]? = some e→e.length=c∧RelCells w av bV (off+i*c) e)→RelRows w av bV c off es
 | [],_,_=>trivial
 | e::es,off,h=>by
  obtain⟨h1,h2⟩:=h 0 e rfl
  refine⟨h1,by simpa using h2,i6 es (off+c) fun i e' he=>?_⟩
  obtain⟨h3,h4⟩:=h (i+1) e' (by simpa using he)
  refine⟨h3,?_⟩
  rw[show off+c+i*c=off+(i+1)*c by rw[J0];omega]
  exact h4
theorem gE(Qc:∀k,¬av k){bV:Nat}:∀(ds:List Dp) (ys:List Value) (off:Nat),RelPL w av ds ys→(∀(j:Nat) (y:Value),ys[j]? = some y→w.cell? ⟨bV,off+j,none⟩=some y)→RelCells w av bV off ds
 | [],_,_,_,_=>trivial
 | d::ds,[],_,r,_=>r.elim
 | d::ds,y::ys,off,r,hc=>by
  refine⟨⟨Qc _,y,by simpa using hc 0 y rfl,r.1⟩,gE Qc ds ys (off+1) r.2 fun j z hz=>?_⟩
  have:=hc (j+1) z (by simpa using hz)
  rwa[show off+(j+1)=off+1+j by omega] at this
theorem kj{a:Addr}{n:Nat}{cs:List Value}(h:w.cells? 0 a n=some cs):cs.length=n∧∀(j:Nat) (y:Value),cs[j]? = some y→w.cell? (a.add j)=some y:=by
 obtain⟨h1,h2,h3⟩:=World.cells?_some h
 refine⟨h2,fun j y hy=>?_⟩
 have hj:j<n:=by rw[←h2];exact(Hs.1 hy).1
 rw[h3 j hj,hy]
theorem eh{H:Type}{P:Program}{e:TypeId}{q:Nat→Bool}:∀{l:List (DataW H)},(DataW.weightsAll P e l).all q=true→∀d∈l,(d.weights P e).all q=true
 | [],_,d,hd=>by simp at hd
 | x::l,h,d,hd=>by
  simp only[DataW.weightsAll,Lw,Hx] at h
  rcases HR.1 hd with rfl|hd
  ·exact h.1
  ·exact eh h.2 d hd
theorem b5{H:Type}{P:Program}{q:Nat→Bool}:∀{ts:List TypeId} {l:List (DataW H)},(Nu P ts l).all q=true→∀(i:Nat) (t:TypeId) (d:DataW H),ts[i]? = some t→l[i]? = some d→(d.weights P t).all q=true
 | [],_,_,i,t,d,ht,_=>by simp at ht
 | _::_,[],_,i,t,d,_,hd=>by simp at hd
 | t0::ts,x::l,h,i,t,d,ht,hd=>by
  simp only[Nu,Lw,Hx] at h
  cases i with
  | zero=>simp at ht hd;subst ht;subst hd;exact h.1
  | succ i=>exact b5 h.2 i t d (by simpa using ht) (by simpa using hd)
end
section
variable {w:World} {av:Nat→Prop} {P:Program}
theorem uB{ts:List TypeId}(hts:qM P ts=true){t:TypeId}(ht:t∈ts):(match P.underlying t with
 | some .bool|some (.int _)|some .string=>true
 | some (.slice e)=>ts.contains e&&Zd (0<P.cellsOf e)
 | some (.struct fs)=>bW P fs.toList 0 (P.cellsOf t)&&fs.toList.all fun f=>ts.contains f.type
 | _=>false)=true:=HU.1 hts t ht
theorem wl{H:Type}{enc:TypeId×Value→H}{spare:Nat→Bool}{ts:List TypeId}(hts:qM P ts=true)(Qc:∀k,¬av k):
  ∀(fuel:Nat) (t:TypeId) (cs:List Value) (d:DataW H) (ps:List MemPlace),t∈ts→KN enc P w 0 spare true fuel t cs=some (d,ps)→(d.weights P t).all (· ≤ reachBytes)=true →
   ∃ds,Shp P fuel t ds∧RelPL w av ds cs:=by
 intro fuel
 induction fuel with
 | zero=>intro t cs d ps _ h;simp[KN] at h
 | succ n ih =>
  intro t cs d ps ht h hw
  have hp:=uB hts ht
  split at hp
  ·rename_i hu
   obtain⟨b,rfl,_⟩:=DataW.trod_bool hu h
   exact⟨[.v (.bool b)],by simp only[Shp,hu];exact⟨b,rfl⟩,by simp[RelPL,RelP]⟩
  ·rename_i k hu
   obtain⟨x,rfl,_,Qz⟩:=DataW.trod_int hu h
   exact⟨[.v (.int k x)],by simp only[Shp,hu];exact⟨x,rfl,Qz⟩,by simp[RelPL,RelP]⟩
  ·rename_i hu
   obtain⟨s,rfl,hx,_⟩:=DataW.trod_string hu h
   simp only[Hu] at hx
   obtain⟨rfl,_⟩:=hx
   have hs:s.size≤reachBytes:=by
    simp only[K2,JV,List.all_nil,Bool.and_true,decide_eq_true_eq,Array.length_toList] at hw
    exact hw
   exact⟨[.v (.string s)],by simp only[Shp,hu];exact⟨s,rfl,hs⟩,by simp[RelPL,RelP]⟩
  ·rename_i e hu
   simp only[Hx,decide_eq_true_eq,JX] at hp
   obtain⟨he,Qh⟩:=hp
   rcases DataW.trod_slice hu h with ⟨rfl,_⟩|⟨a,len,cap,elems,rest,m,hm,rfl,hx,_,hle,_,hlen,hel,_⟩
   ·refine⟨[.sl []],by simp only[Shp,hu];exact⟨[],rfl,by simp,by simp⟩,?_⟩
    simp only[RelPL,RelP,and_true]
    exact .inl ⟨trivial,none,0,rfl,fun _=>rfl⟩
   ·obtain rfl:n=m:=by omega
    simp only[Hu] at hx
    obtain⟨rfl,_⟩:=hx
    simp only[K2,hu,JV,Lw,Hx,decide_eq_true_eq,Ir] at hw
    obtain⟨Qj,hw2,_⟩:=hw
    have key:∀i,i<len→∃ds ys,Shp P n e ds∧RelPL w av ds ys∧w.cells? 0 (a.add (i*P.cellsOf e)) (P.cellsOf e)=some ys:=by
     intro i hi
     have h1:=hel i hi
     have h2:elems[i]? = some elems[i]:=HH (by omega)
     generalize elems[i]=x at h2
     rw[h2] at h1
     obtain⟨ys,h3,h4⟩:=Option.bind_eq_some_iff.1 h1
     obtain⟨dx,px⟩:=x
     obtain⟨ds,h5,h6⟩:=ih e ys dx px he h4 (eh hw2 dx (HQ.2 ⟨(dx,px),H1 h2,rfl⟩))
     exact⟨ds,ys,h5,h6,h3⟩
    obtain⟨f,hf⟩:∃f:Nat→List Dp,∀i,i<len→∃ys,Shp P n e (f i)∧RelPL w av (f i) ys∧w.cells? 0 (a.add (i*P.cellsOf e)) (P.cellsOf e)=some ys:=by
     classical
     refine⟨fun i=>if hi:i<len then Classical.choose (key i hi) else [],fun i hi=>?_⟩
     simp only[dif_pos hi]
     exact Classical.choose_spec (key i hi)
    refine⟨[.sl ((Iy len).map f)],?_,?_⟩
    ·simp only[Shp,hu]
     refine⟨_,rfl,?_,?_⟩
     ·simp only[Ir,List.length_range]
      have:len*P.bytesOf e≤(elems.length+rest.length)*P.bytesOf e:=Kk _ (by omega)
      omega
     ·intro r hr
      obtain⟨i,hi,rfl⟩:=HQ.1 hr
      obtain⟨ys,h1,_⟩:=hf i (by simpa using hi)
      exact h1
    ·simp only[RelPL,RelP,and_true]
     by_cases h0:len=0
     ·subst h0
      exact .inl ⟨by simp,some a,cap,rfl,by simp⟩
     ·have hsp:a.spot=none:=by
       obtain⟨ys,_,_,h3⟩:=hf 0 (by omega)
       obtain⟨h4,h5⟩:=kj h3
       have h6:ys[0]? = some ys[0]:=HH (by omega)
       have h7:=h5 0 _ h6
       simp only[Nat.zero_mul,Addr.add,if_true] at h7
       unfold World.cell? at h7
       split at h7
       ·split at h7
        ·simp at h7
        ·rename_i hns
         cases hs:a.spot with
         | none=>rfl
         | some _=>simp[hs] at hns
       ·simp at h7
      obtain⟨bV,off,sp⟩:=a
      simp only at hsp
      subst hsp
      refine .inr ⟨bV,off,cap,P.cellsOf e,by simp,by simpa using hle,i6 _ _ fun i r hr=>?_⟩
      simp only[IQ,Option.map_eq_some_iff] at hr
      obtain⟨j,hj,rfl⟩:=hr
      rw[Hs] at hj
      obtain⟨hj1,hj2⟩:=hj
      simp only[List.getElem_range] at hj2
      subst hj2
      obtain⟨ys,h1,h2,h3⟩:=hf i (by simpa using hj1)
      obtain⟨h4,h5⟩:=kj h3
      refine⟨by rw[h2.length,h4],gE Qc _ _ _ h2 fun k y hy=>?_⟩
      have:=h5 k y hy
      have e1:(((⟨bV,off,none⟩:Addr).add (i*P.cellsOf e)).add k)=⟨bV,off+i*P.cellsOf e+k,none⟩:=by
       rw[b9,b9]
      rwa[e1] at this
  ·rename_i fs hu
   simp only[Hx,HU,JX] at hp
   obtain⟨hc,hfs⟩:=hp
   obtain⟨xs,m,hm,hx,hlen,Se,hel⟩:=DataW.trod_struct hu h
   obtain rfl:n=m:=by omega
   simp only[Hu] at hx
   obtain⟨rfl,_⟩:=hx
   simp only[K2,hu] at hw
   have key:∀f∈fs.toList,∃ds,Shp P n f.type ds∧RelPL w av ds ((cs.drop f.offset).take (P.cellsOf f.type)):=by
    intro f hf
    obtain⟨i,hi⟩:=List.mem_iff_getElem?.1 hf
    have Qo:fs[i]? = some f:=by rw[←IH];exact hi
    have hil:i<xs.length:=by
     rw[Se]
     have:=(Array.getElem?_eq_some_iff.1 Qo).1
     exact this
    have h1:=hel i f Qo
    have h2:xs[i]? = some xs[i]:=HH hil
    generalize xs[i]=x at h2
    rw[h2] at h1
    obtain⟨dx,px⟩:=x
    exact ih f.type _ dx px (hfs f hf) h1 (b5 hw i f.type dx (by simp[hi]) (by simp[h2]))
   obtain⟨D,hD,hS⟩:=lp hlen fs.toList 0 hc key
   rw[La] at hD
   refine⟨D,?_,hD⟩
   simp only[Shp,hu]
   refine⟨by rw[hD.length,hlen],fun f hf=>?_⟩
   have:=hS f hf
   rwa[Km] at this
  ·simp at hp
end
theorem oV(k:Nat):¬avs (fun _=>False) (fun _=>none) [] k:=fun ho=>ho.elim id (fun h=>absurd h cw)
open Go Go.RowKit Go.ChangeShapes Go.WideShapes
section
variable {H:Type} {enc:TypeId×Value→H} {P:Program}
theorem ik(hl:laidOutB P=true){W W':World}(hb:Below W.heap.size W W'):∀{ts:List TypeId} {vs:List Value} {ds:List (DataW H)} {ps:List MemPlace},
  (ts.all fun t=>P.readableRec t&&Zd (t<P.types.size))=true→DataW.TrodAll enc P W 0 (fun _=>true) true ts vs ds ps→(∀x∈ps,x.block<W.heap.size) →
  DataW.TrodAll enc P W' 0 (fun b=>Zd (b<W.heap.size)) true ts vs ds ps
 | [],vs,ds,ps,_,h,_=>by
  obtain⟨rfl,rfl,rfl⟩:=trodAll_nil h
  rfl
 | t::ts,vs,ds,ps,ht,h,hps=>by
  obtain⟨v,R9,d,ds',p,q,rfl,rfl,rfl,h1,h2⟩:=trodAll_cons h
  simp only[JV,Hx,decide_eq_true_eq] at ht
  refine⟨p,q,Below.trod hl ht.1.1 ht.1.2 h1 hb (fun x hx=>hps x (List.mem_append_left _ hx)),ik hl hb (by simpa using ht.2) h2 (fun x hx=>hps x (List.mem_append_right _ hx)),rfl⟩
theorem ye{f:Func}{s:ChangeSpec}{apart:Bool}{W W':World}{args:Array Value}{ds gs:List (DataW H)}{before:List MemPlace}{b:TypeId}
  (hl:laidOutB P=true) (hp:(f.params.toList.all fun t=>P.readableRec t&&Zd (t<P.types.size))=true) (hv:s.vars=[]) (hr:f.resultTypes=#[b]) (hbt:P.underlying b=some .bool)
  (hW:DataW.Whole enc P f.params.toList s.vars apart W args.toList ds gs before) (hs:s.fn H ds={results:=[.lit (.bool true)],args:=ds}) (hb:Below W.heap.size W W') :
  s.post enc P f apart true false false W args (.bool true) W':=by
 have hW':=hW
 have iF:=hW.lt
 obtain⟨p,q,hA,hV,rfl,_,_⟩:=hW
 rw[hv] at hV
 obtain⟨rfl,rfl⟩:=trodVars_none hV
 refine⟨ds,[],p++[],[],p,[],hW',?_,?_,?_,hb.frame _,fun h=>by cases h⟩
 ·simp only[K6,hs,hr,Value.resultList]
  exact⟨[],[],⟨1,by simp[KN,Value.cells,hbt]⟩,rfl,rfl⟩
 ·simp only[K6,hs]
  exact ik hl hb hp hA (fun x hx=>iF x (by simpa using hx))
 ·simp only[K6,hs,hv]
  rfl
end
end Go.Vi
namespace Go.Vi
open Go
theorem Ev.castH{P:Program}{Γ:aw}{f:FuncId}{args:List D}{h h' h2:List Blk}{d d2:D}(he:Ev P Γ f args h d h')(hd:d=d2)(hh:h'=h2):Ev P Γ f args h d2 h2:=hd▸hh▸he
theorem CW.cast{P:Program}{Γ:aw}{h0:List Blk}{rd:Bool}{c:Code}{s s' s2:AS}{e e2:Exit}(hw:CW P Γ h0 rd c s e s')(he:e=e2)(hs:s'=s2):CW P Γ h0 rd c s e2 s2:=he▸hs▸hw
def forL{α σ ρ:Type}(f:α→σ→σ⊕ρ):List α→σ→σ⊕ρ
 | [],s=>.inl s
 | a::l,s=>match f a s with
  | .inl s'=>forL f l s'
  | .inr r=>.inr r
def a8{σ ρ:Type}(eE:Exit)(sE:σ→AS)(fin:ρ→Exit×AS):σ⊕ρ→Exit×AS
 | .inl s=>(eE,sE s)
 | .inr r=>fin r
def ah{σ ρ:Type}(st:σ→AS)(fin:ρ→Exit×AS):σ⊕ρ→Exit×AS
 | .inl s=>(.normal,st s)
 | .inr r=>fin r
theorem CW.each{P:Program}{Γ:aw}{h0:List Blk}{rd:Bool}{c:Code}{α σ ρ:Type}(l:List α)(f:α→σ→σ⊕ρ)(st:Nat→σ→AS)(eE:Exit)(sE:σ→AS)(fin:ρ→Exit×AS)
  (inv:Nat→σ→Prop) (hE:eE ≠ .normal) (hF:∀r,(fin r).1 ≠ .normal)
  (body:∀i a s,l[i]? = some a→inv i s→(∀s',f a s=.inl s'→inv (i+1) s')∧CW P Γ h0 rd c (st i s) (ah (st (i+1)) fin (f a s)).1 (ah (st (i+1)) fin (f a s)).2)
  (last:∀s,inv l.length s→CW P Γ h0 rd c (st l.length s) eE (sE s)) (s:σ) (h:inv 0 s) :
  CW P Γ h0 rd (.loop c) (st 0 s) (a8 eE sE fin (forL f l s)).1 (a8 eE sE fin (forL f l s)).2:=by
 refine CW.loop (ι:={p:Nat×σ // p.1≤l.length∧inv p.1 p.2}) (fun p=>st p.1.1 p.1.2) (fun p=>a8 eE sE fin (forL f (l.drop p.1.1) p.1.2)) (fun p=>l.length - p.1.1) ?_ ⟨(0,s),Nat.zero_le _,h⟩
 rintro⟨⟨i,s⟩,hi,hv⟩
 simp only at hi hv ⊢
 by_cases iF:i<l.length
 ·have ha:l[i]? = some l[i]:=HH iF
  have hd:l.drop i=l[i]::l.drop (i+1):=List.drop_eq_getElem_cons iF
  obtain⟨b1,b2⟩:=body i _ s ha hv
  rw[hd]
  simp only[forL]
  cases hf:f l[i] s with
  | inl s' =>
   rw[hf] at b2
   exact .inl ⟨⟨(i+1,s'),iF,b1 _ hf⟩,by simp only;omega,rfl,b2⟩
  | inr r =>
   rw[hf] at b2
   exact .inr ⟨hF r,b2⟩
 ·have:i=l.length:=by omega
  subst this
  rw[List.drop_length]
  exact .inr ⟨hE,last s hv⟩
def aH:Code→Code
 | .rangeFunc _ _ a _=>a
 | _=>.skip
def ao:Code→Code
 | .rangeFunc _ _ _ b=>b
 | _=>.skip
theorem Iv.round{P:Program}{Γ:aw}{b:Nat}{args:List D}{h h1 h':List Blk}{Oc:Option Code}{f:FuncId}{ts:List D}{ps:Array Tmp}{asg body:Code}{t1:List D}{p1:Option Code}{f1:FuncId}{ts1:List D}{ps1:Array Tmp}
  {a1 b1:Code} {e2:Exit} {s2:AS} {d:D} (hb:h[b]? = some (.loop .ready Oc f ts ps asg body)) (hlen:args.length=ps.size)
  (hasg:CW P Γ h true asg {t:=ey ts (ps.toList.zip args),h:=h,m:=[]} .normal {t:=t1,h:=h1,m:=[]})
  (hb1:h1[b]? = some (.loop .ready p1 f1 ts1 ps1 a1 b1))
  (Tc:CW P Γ h true body {t:=t1,h:=h1.set b (.loop .busy p1 0 ts1 ps1 a1 b1),m:=[]} e2 s2)
  (Py:oE b e2 s2=some (d,h')):Iv P Γ (.ref (.yl b)) args h d h' :=
 sG hb hlen (fun X r hX=>hasg X r hX (fun h=>by cases h)) hb1 (fun X r hX=>Tc X r hX (fun h=>by cases h)) Py
theorem CW.rangeFunc{P:Program}{Γ:aw}(ok:POk P){h0:List Blk}{s s':AS}{g:Operand}{ps:Array Tmp}{asg body:Code}{f:FuncId}{fi ca:List D}{d:D}{h2:List Blk}{e:Exit}(hg:ft (evalD Γ s.t g)=some (f,fi,ca))(hf:mA P f=true)
  (hc:Ev P Γ f (fi++[.ref (.yl (s.h.length+1))]++ca) (s.h++[.defd]++[.loop .ready none 0 s.t ps asg body]) d h2)
  (he:sD s.h.length s.t s.m h2=some (e,s')):CW P Γ h0 false (.rangeFunc g ps asg body) s e s':=by
 intro X r _ hr
 obtain rfl:=hr rfl
 exact VW.rangeFunc ok hg hf (hc.mono fun _ _ hq=>hq.2) he
def Ref.to(n:Nat):Ref→Ref
 | .ptr _ o=>.ptr n o
 | .vec _ e=>.vec n e
 | .vs _ e i k c=>.vs n e i k c
 | .av _ o k s=>.av n o k s
 | .vp _ e i j=>.vp n e i j
 | .mp _=>.mp n
 | .it _=>.it n
 | .yl _=>.yl n
def idx(x:Nat):Nat→List Nat→Option Nat
 | _,[]=>none
 | k,y::ys=>match x==y with
  | true=>some k
  | false=>idx x (k+1) ys
theorem f4{x:Nat}:∀{ys:List Nat} {k i:Nat},idx x k ys=some i→k≤i∧ys[i - k]? = some x
 | [],k,i,h=>by simp[idx] at h
 | y::ys,k,i,h=>by
  unfold idx at h
  split at h
  ·rename_i e
   simp only[Ho] at h
   subst h
   simp only[beq_iff_eq] at e
   subst e
   simp
  ·obtain⟨h1,h2⟩:=f4 h
   refine⟨by omega,?_⟩
   rw[show i - k=(i - (k+1))+1 by omega,I2]
   exact h2
theorem oW{x:Nat}:∀{ys:List Nat} {k:Nat},idx x k ys=none→x ∉ ys
 | [],k,_=>by simp
 | y::ys,k,h=>by
  unfold idx at h
  split at h
  ·simp at h
  ·rename_i e
   simp only[beq_eq_false_iff_ne,ne_eq] at e
   simp[e,oW h]
theorem uC{x:Nat}{ys:List Nat}{i:Nat}(hn:ys.Nodup)(h:ys[i]? = some x):idx x 0 ys=some i:=by
 cases hi:idx x 0 ys with
 | none=>exact absurd (H1 h) (oW hi)
 | some j =>
  obtain⟨_,h2⟩:=f4 hi
  simp only[Km] at h2
  have hj:=(Hs.1 h2).1
  have Qo:=(Hs.1 h).1
  rw[HH hj] at h2
  rw[HH Qo] at h
  have:ys[j]=ys[i]:=by simp only[Ho] at h h2;rw[h,h2]
  rw[(List.getElem_inj hn).1 this]
def inv(is:List Nat)(r:Ref):D:=match idx r.bV 0 is with
 | some i=>.ref (r.to i)
 | none=>.any
def fwd(is:List Nat)(m:Nat)(r:Ref):D:=match is[r.bV]? with
 | some i=>.ref (r.to i)
 | none=>.ref (r.to (m+(r.bV - is.length)))
def gF:Blk→Bool
 | .mit ..=>true
 | _=>false
section
variable {w:World} {av av':Nat→Prop} {l l':Loc} {h h':List Blk} {f:Ref→D}
mutual
theorem eC(ha:∀k,av' k→av k)(hf:∀r y,RefRel l h r y→Rel w av' l' h' (f r) y):∀{d:D} {y:Value},Rel w av l h d y→Rel w av' l' h' (HO f d) y
 | .p _,_,r=>by simp only[Rel,HO] at r ⊢;exact ex ha r
 | .any,_,_=>by simp[Rel,HO]
 | .ref r,y,rr=>by simp only[HO];exact hf r y (by simpa only [Rel] using rr)
 | .ep _,_,r=>by
  simp only[Rel,HO] at r ⊢
  obtain⟨bV,off,r1,r2⟩:=r
  exact⟨bV,off,r1,aF ha r2⟩
 | .csl _,_,r=>by
  simp only[Rel,HO] at r ⊢
  rcases r with r|⟨bV,off,sz,r1,r2⟩
  ·exact .inl r
  ·exact .inr ⟨bV,off,sz,r1,ci ha r2⟩
 | .fn _ _ _,_,r=>by
  simp only[Rel,HO] at r ⊢
  obtain⟨a,c,r1,r2,r3⟩:=r
  exact⟨a,c,r1,bm ha hf r2,bm ha hf r3⟩
 | .agg _,_,r=>by
  simp only[Rel,HO] at r ⊢
  obtain⟨vs,r1,r2⟩:=r
  exact⟨vs,r1,bm ha hf r2⟩
 | .tup _,_,r=>by
  simp only[Rel,HO] at r ⊢
  obtain⟨vs,r1,r2⟩:=r
  exact⟨vs,r1,bm ha hf r2⟩
 | .grd _ _,_,r=>by
  simp only[Rel,HO] at r ⊢
  exact⟨fun hg=>eC ha hf (r.1 hg),r.2⟩
theorem bm(ha:∀k,av' k→av k)(hf:∀r y,RefRel l h r y→Rel w av' l' h' (f r) y):∀{ds:List D} {ys:List Value},RelL w av l h ds ys→RelL w av' l' h' (It f ds) ys
 | [],[],_=>by simp[RelL,It]
 | [],_::_,r=>by simp[RelL] at r
 | _::_,[],r=>by simp[RelL] at r
 | _::_,_::_,r=>by
  simp only[RelL,It] at r ⊢
  exact⟨eC ha hf r.1,bm ha hf r.2⟩
end
theorem lq(ha:∀k,av' k→av k)(hf:∀r y,RefRel l h r y→Rel w av' l' h' (f r) y):∀{kvs:List (D×D×Nat)} {es:List MapEntry},RelKV w av l h kvs es →
  RelKV w av' l' h' (kvs.map fun e=>(HO f e.1,HO f e.2.1,e.2.2)) es
 | [],[],_=>by simp[RelKV]
 | [],_::_,r=>by simp[RelKV] at r
 | _::_,[],r=>by simp[RelKV] at r
 | (k,d,m)::kvs,e::es,r=>by
  simp only[RelKV,Il] at r ⊢
  exact⟨eC ha hf r.1,eC ha hf r.2.1,r.2.2.1,lq ha hf r.2.2.2⟩
theorem eV(ha:∀k,av' k→av k)(hf:∀r y,RefRel l h r y→Rel w av' l' h' (f r) y){b b':Nat}(hl:l' b'=l b){x:Blk}(hm:gF x=false)(r:BlkOk w av l h b x):BlkOk w av' l' h' b' (x.mapR f):=by
 cases x with
 | var cs =>
  obtain⟨bV,cp,c,T,r1,r2,r3⟩:=r
  exact⟨bV,cp,c,T,hl.trans r1,r2,bm ha hf r3⟩
 | vec es e sz =>
  unfold BlkOk at r ⊢
  simp only[Jp,hl] at r ⊢
  split
  ·rename_i h0;rw[h0] at r;simp only at r;rw[r];rfl
  ·rename_i bV cap h0
   rw[h0] at r
   obtain⟨c,T,fr,ys,r1,r2,r3,r4,r5,r6,r7⟩:=r
   refine⟨c,T,fr,ys,r1,r2,by simpa using r3,r4,?_,?_,r7⟩
   ·intro e he
    obtain⟨e0,he0,rfl⟩:=HQ.1 he
    rw[fC];exact r5 e0 he0
   ·rw[←eR];exact bm ha hf r6
 | map kvs clock =>
  obtain⟨bV,cp,es,r1,r2,r3⟩:=r
  exact⟨bV,cp,es,hl.trans r1,r2,lq ha hf r3⟩
 | sit s pos =>
  obtain⟨bV,cp,r1,r2⟩:=r
  exact⟨bV,cp,hl.trans r1,r2⟩
 | mit m since seen st=>simp[gF] at hm
 | loop st Oc fn tmps params asg body =>
  obtain⟨bV,cp,ts,dr,R5,r1,r2,r3⟩:=r
  exact⟨bV,cp,ts,dr,R5,hl.trans r1,r2,bm ha hf r3⟩
 | defd =>
  obtain⟨bV,cp,r1,r2⟩:=r
  exact⟨bV,cp,hl.trans r1,r2⟩
 | gone=>trivial
end
theorem ng{f:Ref→D}(x:Blk):gF (x.mapR f)=gF x:=by cases x<;>rfl
theorem uD{f g:Ref→D}{x y:Blk}(h:(x.mapR f).le y):x.le (y.mapR g)∧(x.stays (y.mapR g)→(x.mapR f).stays y):=by
 cases x<;>cases y<;>simp only[LK,Jp] at h<;>simp_all[LK,Jp,LI]
theorem Bj{g:Ref→D}{x y:Blk}(h:x.le y):x.le (y.mapR g)∧(x.stays (y.mapR g)→x.stays y):=by
 cases x<;>cases y<;>simp only[LK] at h<;>simp_all[LK,Jp,LI]
theorem lr{l l':Loc}{h h':List Blk}{f:Ref→D}{r:Ref}{n:Nat}{x:Blk}{y:Value}(hx:h[r.bV]? = some x)(Pc:h'[n]? = some (x.mapR f))(hl:l' n=l r.bV)(rr:RefRel l h r y):RefRel l' h' (r.to n) y:=by
 unfold RefRel at rr ⊢
 refine⟨rr.1,?_⟩
 have rr:=rr.2
 cases r<;>simp only[LL] at hx hl<;>simp only[hx] at rr<;>simp only[Ref.to,Pc,hl]<;>cases x<;>simp[Jp] at rr ⊢ <;> exact rr
theorem eW{l:Loc}{h:List Blk}{r:Ref}{y:Value}(rr:RefRel l h r y):∃x,h[r.bV]? = some x:=by
 unfold RefRel at rr
 have rr:=rr.2
 cases hx:h[r.bV]? with
 | some x=>exact⟨x,rfl⟩
 | none=>cases r<;>simp only[LL] at hx<;>simp only[hx] at rr
def pick(is:List Nat)(H:List Blk):List Blk:=is.map fun i=>(H.getD i .gone).mapR (inv is)
theorem kl{is:List Nat}{H:List Blk}{b:Nat}{x:Blk}(h:(pick is H)[b]? = some x):∃i,is[b]? = some i∧x=(H.getD i .gone).mapR (inv is):=by
 unfold pick at h
 rw[IQ] at h
 cases hi:is[b]? with
 | none=>rw[hi] at h;simp at h
 | some i=>rw[hi] at h;exact⟨i,rfl,by simpa using h.symm⟩
section
variable {Γ:aw} {O:Nat→Prop} {w:World} {l:Loc} {H:List Blk} {is:List Nat}
def mm(is:List Nat)(l:Loc):Loc:=fun b=>match is[b]? with
 | some i=>l i
 | none=>none
theorem uE{k:Nat}(ho:own (mm is l) (pick is H) k):∃(b i cp:Nat) (x:Blk),is[b]? = some i∧H[i]? = some x∧x ≠ .gone∧l i=some (k,cp):=by
 obtain⟨b,x,cp,h1,h2,h3⟩:=ho
 obtain⟨i,hi,rfl⟩:=kl h1
 unfold mm at h3
 rw[hi] at h3
 have hg:H.getD i .gone ≠ .gone:=fun e=>h2 (by rw[e];rfl)
 refine⟨b,i,cp,H.getD i .gone,hi,?_,hg,h3⟩
 cases hx:H[i]? with
 | none=>simp[HD,hx] at hg
 | some x=>simp[HD,hx]
theorem bu{k:Nat}(ho:own (mm is l) (pick is H) k):own l H k:=by
 obtain⟨b,i,cp,x,_,h2,h3,h4⟩:=uE ho
 exact⟨i,x,cp,h2,h3,h4⟩
theorem i7(hn:is.Nodup){r:Ref}{y:Value}(rr:RefRel l H r y){av:Nat→Prop}:Rel w av (mm is l) (pick is H) (inv is r) y:=by
 unfold inv
 cases hi:idx r.bV 0 is with
 | none=>simp[Rel]
 | some i =>
  obtain⟨_,h2⟩:=f4 hi
  simp only[Km] at h2
  obtain⟨x,hx⟩:=eW rr
  simp only[Rel]
  refine lr (f:=inv is) hx ?_ ?_ rr
  ·unfold pick
   rw[IQ,h2]
   simp[HD,hx]
  ·unfold mm
   rw[h2]
theorem Rep.pick(R:Rep Γ O w l H)(hn:is.Nodup)(hm:(pick is H).all (fun x=>!gF x)=true){O':Nat→Prop}(hO:∀k,avs O' (mm is l) (Vi.pick is H) k→avs O l H k)(hO2:∀k,O' k→avs O l H k∧¬own (mm is l) (Vi.pick is H) k):
  Rep Γ O' w (mm is l) (Vi.pick is H) where
 Ov k ho:=⟨(R.Ov k (bu ho)).1,fun h'=>(hO2 k h').2 ho⟩
 P2 k ho:=by
  rcases(hO2 k ho).1 with h'|h'
  ·exact R.P2 k h'
  ·exact(R.Ov k h').1
 inj b b' x x' k c c' h1 h2 h3 h4 h5 h6:=by
  obtain⟨i,hi,rfl⟩:=kl h1
  obtain⟨i',Qo,rfl⟩:=kl h3
  unfold mm at h5 h6
  rw[hi] at h5;rw[Qo] at h6
  have g1:H.getD i .gone ≠ .gone:=fun e=>h2 (by rw[e];rfl)
  have g2:H.getD i' .gone ≠ .gone:=fun e=>h4 (by rw[e];rfl)
  have e1:H[i]? = some (H.getD i .gone):=by
   cases hx:H[i]? with
   | none=>simp[HD,hx] at g1
   | some x=>simp[HD,hx]
  have e2:H[i']? = some (H.getD i' .gone):=by
   cases hx:H[i']? with
   | none=>simp[HD,hx] at g2
   | some x=>simp[HD,hx]
  have:=R.inj i i' _ _ k c c' e1 g1 e2 g2 h5 h6
  subst this
  have a1:=uC hn hi
  have a2:=uC hn Qo
  rw[a1] at a2
  exact MD a2
 bV b x h1:=by
  obtain⟨i,hi,rfl⟩:=kl h1
  cases hx:H[i]? with
  | none=>simp[HD,hx,Jp,BlkOk]
  | some x =>
   have hg:H.getD i .gone=x:=by simp[HD,hx]
   rw[hg] at h1 ⊢
   refine eV hO (fun r y rr=>i7 hn rr) (b:=i) ?_ ?_ (R.bV i x hx)
   ·unfold mm;rw[hi]
   ·have:=HU.1 hm _ (H1 h1)
    rw[ng] at this
    simpa using this
 Qd g cs hg:=aF hO (R.Qd g cs hg)
end
def ff(is:List Nat)(m:Nat)(h':List Blk):Nat→List Blk→List Blk
 | _,[]=>[]
 | b,x::xs=>(match idx b 0 is with
  | some i=>(h'.getD i .gone).mapR (fwd is m)
  | none=>x)::ff is m h' (b+1) xs
def nh(is:List Nat)(h':List Blk)(H:List Blk):List Blk:=ff is H.length h' 0 H++(h'.drop is.length).map (Jp (fwd is H.length))
theorem cx{is:List Nat}{m:Nat}{h':List Blk}:∀(b:Nat) (xs:List Blk),(ff is m h' b xs).length=xs.length
 | _,[]=>rfl
 | b,x::xs=>by simp[ff,cx (b+1) xs]
theorem i8{is:List Nat}{m:Nat}{h':List Blk}:∀(b:Nat) (xs:List Blk) (j:Nat),(ff is m h' b xs)[j]? = (xs[j]?).map fun x=>match idx (b+j) 0 is with|some i=>(h'.getD i .gone).mapR (fwd is m)|none=>x
 | b,[],j=>by simp[ff]
 | b,x::xs,0=>by simp[ff]
 | b,x::xs,j+1=>by
  simp only[ff,I2]
  rw[i8 (b+1) xs j,show b+1+j=b+(j+1) by omega]
section
variable {is:List Nat} {h' H:List Blk}
theorem uF{b:Nat}{x:Blk}(hx:H[b]? = some x)(hi:idx b 0 is=none):(nh is h' H)[b]? = some x:=by
 have iF:=(Hs.1 hx).1
 unfold nh
 rw[HK (by rw[cx];exact iF),i8,hx]
 simp[hi]
theorem sR{b i:Nat}{x:Blk}(hx:H[b]? = some x)(hi:idx b 0 is=some i):(nh is h' H)[b]? = some ((h'.getD i .gone).mapR (fwd is H.length)):=by
 have iF:=(Hs.1 hx).1
 unfold nh
 rw[HK (by rw[cx];exact iF),i8,hx]
 simp[hi]
theorem uG{j:Nat}:(nh is h' H)[H.length+j]? = (h'[is.length+j]?).map (Jp (fwd is H.length)):=by
 unfold nh
 rw[List.getElem?_append_right (by rw[cx];omega),cx,IQ,List.getElem?_drop]
 simp
theorem putB_cases{b:Nat}{x:Blk}(h:(nh is h' H)[b]? = some x):
  (idx b 0 is=none∧H[b]? = some x)∨(∃i,b<H.length∧idx b 0 is=some i∧x=(h'.getD i .gone).mapR (fwd is H.length))∨∃j y,b=H.length+j∧h'[is.length+j]? = some y∧x=y.mapR (fwd is H.length):=by
 by_cases hb:b<H.length
 ·have hx:H[b]? = some H[b]:=HH hb
  cases hi:idx b 0 is with
  | none=>rw[uF hx hi] at h;cases h;exact .inl ⟨rfl,hx⟩
  | some i=>rw[sR hx hi] at h;cases h;exact .inr (.inl ⟨i,hb,rfl,rfl⟩)
 ·obtain⟨j,rfl⟩:∃j,b=H.length+j:=⟨b - H.length,by omega⟩
  rw[uG] at h
  cases hy:h'[is.length+j]? with
  | none=>rw[hy] at h;simp at h
  | some y=>rw[hy] at h;exact .inr (.inr ⟨j,y,rfl,hy,by simpa using h.symm⟩)
end
def uH(is:List Nat)(m:Nat)(l l0:Loc):Loc:=fun b=>match idx b 0 is with
 | some i=>l0 i
 | none=>match Zd (b<m) with
  | true=>l b
  | false=>l0 (is.length+(b - m))
theorem Ev.frame{P:Program}{Γ:aw}{f:FuncId}{Q3 args:List D}{h0 Q6 H:List Blk}{d0:D}(is:List Nat)(he:Ev P Γ f Q3 h0 d0 Q6)(hn:is.Nodup)(hb:∀i∈is,i<H.length)
  (ha:It (inv is) args=Q3) (hh:pick is H=h0) (hm:(h0.all (fun x=>!gF x)&&Q6.all (fun x=>!gF x))=true) :
  Ev P Γ f args H (d0.mapR (fwd is H.length)) (nh is Q6 H):=by
 simp only[Hx] at hm
 subst hh ha
 intro O w l vs R ra
 let O':Nat→Prop:=fun k=>avs O l H k∧¬own (mm is l) (pick is H) k
 have hO1:∀k,avs O' (mm is l) (pick is H) k→avs O l H k:=fun k ho=>ho.elim (·.1) (fun h=>.inr (bu h))
 have hO2:∀k,avs O l H k→avs O' (mm is l) (pick is H) k:=fun k ho=>by
  by_cases h:own (mm is l) (pick is H) k
  ·exact .inr h
  ·exact .inl ⟨ho,h⟩
 have R0:Rep Γ O' w (mm is l) (pick is H):=R.pick hn hm.1 hO1 (fun k h=>h)
 have ra0:RelL w (avs O' (mm is l) (pick is H)) (mm is l) (pick is H) (It (inv is) args) vs:=bm hO1 (fun r y rr=>i7 hn rr) ra
 refine JQ (he O' w (mm is l) vs R0 ra0) ?_
 rintro e w' ⟨v,d2,h2,l',rfl,⟨rfl,rfl⟩,R',E',rd⟩
 have hlen:is.length≤h2.length:=by
  rcases Nat.lt_or_ge h2.length is.length with iF|hge
  ·exfalso
   have hp:(pick is H)[h2.length]? ≠ none:=by
    unfold pick;rw[IQ];simp[iF]
   cases hx:(pick is H)[h2.length]? with
   | none=>exact hp hx
   | some x =>
    obtain⟨x',h1,_⟩:=E'.N0 _ x hx
    simp at h1
  ·exact hge
 have hisP:∀{b i:Nat},is[b]? = some i→∃x,H[i]? = some x∧(pick is H)[b]? = some (x.mapR (inv is)):=fun {b i} hi=>by
  have iF:=hb i (H1 hi)
  refine⟨H[i],HH iF,?_⟩
  unfold pick
  rw[IQ,hi]
  simp[HD,HH iF]
 have L1:∀{i b:Nat},is[i]? = some b→uH is H.length l l' b=l' i:=fun {i b} hi=>by
  unfold uH;rw[uC hn hi]
 have L2:∀{b:Nat},idx b 0 is=none→b<H.length→uH is H.length l l' b=l b:=fun {b} h1 h2=>by
  unfold uH;rw[h1];simp[h2]
 have L3:∀{j:Nat},uH is H.length l l' (H.length+j)=l' (is.length+j):=fun {j}=>by
  unfold uH
  have:idx (H.length+j) 0 is=none:=by
   cases hi:idx (H.length+j) 0 is with
   | none=>rfl
   | some i =>
    obtain⟨_,h2⟩:=f4 hi
    have:=hb _ (H1 h2)
    omega
  rw[this]
  have:Zd (H.length+j<H.length)=false:=by simp
  simp only[this,show is.length+(H.length+j - H.length)=is.length+j by omega]
 have back:∀{b:Nat} {x:Blk},(nh is h2 H)[b]? = some x→(idx b 0 is=none∧H[b]? = some x)∨∃i y,h2[i]? = some y∧x=y.mapR (fwd is H.length)∧uH is H.length l l' b=l' i∧(∀b' x',(nh is h2 H)[b']? = some x'→(idx b' 0 is=none∧H[b']? = some x')∨∃i' y',h2[i']? = some y'∧x'=y'.mapR (fwd is H.length)∧uH is H.length l l' b'=l' i'∧(i=i'→b=b')):=by
  have one:∀{b:Nat} {x:Blk},(nh is h2 H)[b]? = some x→(idx b 0 is=none∧H[b]? = some x)∨∃i y,h2[i]? = some y∧x=y.mapR (fwd is H.length)∧uH is H.length l l' b=l' i∧((i<is.length∧is[i]? = some b)∨(is.length≤i∧b=H.length+(i - is.length))):=by
   intro b x hx
   rcases putB_cases hx with h|⟨i,h1,h3,rfl⟩|⟨j,y,rfl,h3,rfl⟩
   ·exact .inl h
   ·obtain⟨_,h4⟩:=f4 h3
    simp only[Km] at h4
    have hi:=(Hs.1 h4).1
    have:h2[i]? = some (h2.getD i .gone):=by
     rw[HD,HH (by omega)];rfl
    exact .inr ⟨i,_,this,rfl,L1 h4,.inl ⟨hi,h4⟩⟩
   ·exact .inr ⟨_,y,h3,rfl,L3,.inr ⟨by omega,by omega⟩⟩
  intro b x hx
  rcases one hx with h|⟨i,y,h1,h3,h4,h5⟩
  ·exact .inl h
  ·refine .inr ⟨i,y,h1,h3,h4,fun b' x' Pc=>?_⟩
   rcases one Pc with h|⟨i',y',g1,g3,g4,g5⟩
   ·exact .inl h
   ·refine .inr ⟨i',y',g1,g3,g4,fun e=>?_⟩
    subst e
    rcases h5 with ⟨a1,a2⟩|⟨a1,a2⟩<;>rcases g5 with ⟨c1,c2⟩|⟨c1,c2⟩
    ·rw[a2] at c2;exact MD c2
    ·omega
    ·omega
    ·omega
 have Q5:∀{y:Blk},y.mapR (fwd is H.length) ≠ .gone→y ≠ .gone:=fun {y} h e=>h (by rw[e];rfl)
 have oldO:∀{b:Nat} {x:Blk} {k c:Nat},idx b 0 is=none→H[b]? = some x→x ≠ .gone→l b=some (k,c)→O' k:=fun {b x k c} hi hx hg hl=>by
  refine⟨.inr ⟨b,x,c,hx,hg,hl⟩,fun ho=>?_⟩
  obtain⟨b',i,cp,x',q1,q2,q3,q4⟩:=uE ho
  have:=R.inj b i x x' k c cp hx hg q2 q3 hl q4
  subst this
  exact oW hi (H1 q1)
 have ownL:∀{k:Nat},own (uH is H.length l l') (nh is h2 H) k→own l' h2 k∨(own l H k∧O' k):=fun {k} ⟨b,x,cp,g1,g2,g3⟩=>by
  rcases back g1 with ⟨a1,a2⟩|⟨i,y,a1,a2,a3,_⟩
  ·have iF:=(Hs.1 a2).1
   rw[L2 a1 iF] at g3
   exact .inr ⟨⟨b,x,cp,a2,g2,g3⟩,oldO a1 a2 g2 g3⟩
  ·rw[a3] at g3
   exact .inl ⟨i,y,cp,a1,Q5 (a2▸g2),g3⟩
 have avL:∀k,avs O (uH is H.length l l') (nh is h2 H) k→avs O' l' h2 k:=fun k ho=>by
  rcases ho with ho|ho
  ·refine .inl ⟨.inl ho,fun h=>(R.Ov k (bu h)).2 ho⟩
  ·rcases ownL ho with h|h
   ·exact .inr h
   ·exact .inl h.2
 have hf:∀(r:Ref) (y:Value),RefRel l' h2 r y→Rel w' (avs O (uH is H.length l l') (nh is h2 H)) (uH is H.length l l') (nh is h2 H) (fwd is H.length r) y:=fun r y rr=>by
  obtain⟨x,hx⟩:=eW rr
  unfold fwd
  cases hi:is[r.bV]? with
  | some b =>
   simp only[Rel]
   obtain⟨x0,q1,_⟩:=hisP hi
   refine lr hx ?_ (L1 hi) rr (f:=fwd is H.length)
   rw[sR q1 (uC hn hi)]
   simp[HD,hx]
  | none =>
   simp only[Rel]
   have hge:is.length≤r.bV:=by simpa using hi
   refine lr hx ?_ ?_ rr (f:=fwd is H.length)
   ·rw[uG,show is.length+(r.bV - is.length)=r.bV by omega,hx];rfl
   ·rw[L3,show is.length+(r.bV - is.length)=r.bV by omega]
 have E:Ext w l H w' (uH is H.length l l') (nh is h2 H):=by
  refine⟨E'.size,fun bV iF O3=>E'.same bV iF (fun ho=>O3 (bu ho)),fun bV ho=>?_,fun b x hx=>?_,E'.tape⟩
  ·rcases ownL ho with h|h
   ·rcases E'.news bV h with h|h
    ·exact .inl (bu h)
    ·exact .inr h
   ·exact .inl h.1
  ·have iF:=(Hs.1 hx).1
   cases hi:idx b 0 is with
   | none=>exact⟨x,uF hx hi,x.le_refl,fun _=>L2 hi iF⟩
   | some i =>
    obtain⟨_,h4⟩:=f4 hi
    simp only[Km] at h4
    obtain⟨x0,q1,q2⟩:=hisP h4
    rw[hx] at q1;cases q1
    obtain⟨x',k1,k2,k3⟩:=E'.N0 i _ q2
    have Sl:h2.getD i .gone=x':=by simp[HD,k1]
    refine⟨_,sR hx hi,?_,fun hs=>?_⟩
    ·rw[Sl];exact(uD k2).1
    ·rw[Sl] at hs
     rw[L1 h4,k3 ((uD k2).2 hs)]
     unfold mm;rw[h4]
 refine⟨v,_,_,_,rfl,⟨rfl,rfl⟩,⟨fun k ho=>?_,fun k ho=>JH (R.P2 k ho) E'.size,?_,fun b x hx=>?_,fun g cs hg=>?_⟩,E,?_⟩
 ·rcases ownL ho with h|h
  ·obtain⟨p1,p2⟩:=R'.Ov k h
   refine⟨p1,fun hk=>p2 ⟨.inl hk,fun N9=>(R.Ov k (bu N9)).2 hk⟩⟩
  ·obtain⟨p1,p2⟩:=R.Ov k h.1
   exact⟨JH p1 E'.size,p2⟩
 ·intro b b' x x' k c c' g1 g2 g3 g4 g5 g6
  rcases back g1 with ⟨a1,a2⟩|⟨i,y,a1,a2,a3,a4⟩
  ·have iF:=(Hs.1 a2).1
   rw[L2 a1 iF] at g5
   rcases back g3 with ⟨d1,d2⟩|⟨i',y',d1,d2,d3,_⟩
   ·have hlt':=(Hs.1 d2).1
    rw[L2 d1 hlt'] at g6
    exact R.inj b b' x x' k c c' a2 g2 d2 g4 g5 g6
   ·rw[d3] at g6
    exact absurd (oldO a1 a2 g2 g5) (R'.Ov k ⟨i',y',c',d1,Q5 (d2▸g4),g6⟩).2
  ·rw[a3] at g5
   rcases a4 b' x' g3 with ⟨d1,d2⟩|⟨i',y',d1,d2,d3,d4⟩
   ·have hlt':=(Hs.1 d2).1
    rw[L2 d1 hlt'] at g6
    exact absurd (oldO d1 d2 g4 g6) (R'.Ov k ⟨i,y,c,a1,Q5 (a2▸g2),g5⟩).2
   ·rw[d3] at g6
    exact d4 (R'.inj i i' y y' k c c' a1 (Q5 (a2▸g2)) d1 (Q5 (d2▸g4)) g5 g6)
 ·rcases back hx with ⟨a1,a2⟩|⟨i,y,a1,rfl,a3,_⟩
  ·have iF:=(Hs.1 a2).1
   by_cases hg:x=.gone
   ·subst hg;trivial
   refine BlkOk.ext E (L2 a1 iF) (fun bV cp hl=>?_) (R.bV b x a2)
   exact E'.same bV (R.Ov bV ⟨b,x,cp,a2,hg,hl⟩).1 (oldO a1 a2 hg hl).2
  ·refine eV avL hf a3 ?_ (R'.bV i y a1)
   have:=HU.1 hm.2 y (H1 a1)
   simpa using this
 ·exact Lh E.hc g 0 cs (R.Qd g cs hg)
 ·exact eC avL hf rd
def qN:List Nat→Bool
 | []=>true
 | x::xs=>!xO x xs&&qN xs
theorem i9:∀{xs:List Nat},qN xs=true→xs.Nodup
 | [],_=>List.nodup_nil
 | x::xs,h=>by
  simp only[qN,Hx,Bool.not_eq_true'] at h
  refine List.nodup_cons.2 ⟨fun hm=>?_,i9 h.2⟩
  rw[eT.2 hm] at h
  simp at h
def sS(is:List Nat)(H:List Blk):List Nat→List Blk
 | []=>[]
 | i::js=>keepX (inv is) (H.getD i .gone)::sS is H js
def Bk(is:List Nat)(H:List Blk):List Nat→List Prop
 | []=>[]
 | i::js=>kU (inv is) (H.getD i .gone)++Bk is H js
theorem oX{is:List Nat}{H:List Blk}:∀{js:List Nat},AllP (Bk is H js)→sS is H js=js.map fun i=>(H.getD i .gone).mapR (inv is)
 | [],_=>rfl
 | i::js,h=>by
  obtain⟨h1,h2⟩:=Ll (ps:=kU (inv is) (H.getD i .gone)) h
  simp only[sS,Il,hJ h1,oX h2]
def oY(is:List Nat)(m:Nat)(h':List Blk):Nat→List Blk→List Blk
 | _,[]=>[]
 | b,x::xs=>(match idx b 0 is with
  | some i=>keepX (fwd is m) (h'.getD i .gone)
  | none=>x)::oY is m h' (b+1) xs
def mapX(f:Ref→D):List Blk→List Blk
 | []=>[]
 | x::xs=>keepX f x::mapX f xs
def mapP(f:Ref→D):List Blk→List Prop
 | []=>[]
 | x::xs=>kU f x++mapP f xs
theorem yf{f:Ref→D}:∀{h:List Blk},AllP (mapP f h)→mapX f h=h.map (Jp f)
 | [],_=>rfl
 | x::xs,h=>by
  obtain⟨h1,h2⟩:=Ll (ps:=kU f x) h
  simp only[mapX,Il,hJ h1,yf h2]
theorem uI{f:Ref→D}:∀{h:List Blk} (i:Nat),AllP (mapP f h)→AllP (kU f (h.getD i .gone))
 | [],i,_=>by simp[kU,AllP]
 | x::xs,i,h=>by
  obtain⟨h1,h2⟩:=Ll (ps:=kU f x) h
  cases i with
  | zero=>exact h1
  | succ i=>simpa using uI i h2
theorem qO{f:Ref→D}:∀{h:List Blk} (i:Nat),AllP (mapP f h)→AllP (mapP f (h.drop i))
 | [],i,_=>by simp[mapP,AllP]
 | x::xs,i,h=>by
  cases i with
  | zero=>exact h
  | succ i =>
   obtain⟨h1,h2⟩:=Ll (ps:=kU f x) h
   exact qO i h2
theorem nj{is:List Nat}{m:Nat}{h':List Blk}(hp:AllP (mapP (fwd is m) h')):∀(b:Nat) (xs:List Blk),oY is m h' b xs=ff is m h' b xs
 | _,[]=>rfl
 | b,x::xs=>by
  simp only[oY,ff,nj hp (b+1) xs]
  cases idx b 0 is with
  | none=>rfl
  | some i=>simp only[hJ (uI i hp)]
def putX(is:List Nat)(h':List Blk)(H:List Blk):List Blk:=oY is H.length h' 0 H++mapX (fwd is H.length) (h'.drop is.length)
theorem Eb{is:List Nat}{h' H:List Blk}(hp:AllP (mapP (fwd is H.length) h')):putX is h' H=nh is h' H:=by
 unfold putX nh
 rw[nj hp,yf (qO _ hp)]
def yg(is:List Nat)(h0 Q6 H:List Blk):Bool:=qN is&&is.all (fun i=>Zd (i<H.length))&&(h0.all (fun x=>!gF x)&&Q6.all (fun x=>!gF x))
theorem Ev.frameX{P:Program}{Γ:aw}{f:FuncId}{Q3 args:List D}{h0 Q6 H:List Blk}{d0:D}(is:List Nat)(he:Ev P Γ f Q3 h0 d0 Q6)(hk:yg is h0 Q6 H=true)
  (ha:It (inv is) args=Q3) (hh:sS is H is=h0) (p1:AllP (Bk is H is)) (p2:AllP (mapP (fwd is H.length) Q6)):Ev P Γ f args H (d0.mapR (fwd is H.length)) (putX is Q6 H):=by
 simp only[yg,Hx] at hk
 rw[Eb p2]
 refine Ev.frame is he (i9 hk.1.1) (fun i hi=>?_) ha ?_ (by rw[hk.2.1,hk.2.2];rfl)
 ·have:=HU.1 hk.1.2 i hi
  simpa using this
 ·rw[←hh,oX p1];rfl
def fwd0(m:Nat)(r:Ref):D:=.ref (r.to (m+r.bV))
theorem yh(m:Nat):fwd [] m=fwd0 m:=by
 funext r;simp[fwd,fwd0]
theorem Ev.frameN{P:Program}{Γ:aw}{f:FuncId}{args:List D}{Q6:List Blk}{d0:D}(he:Ev P Γ f args [] d0 Q6)(hm:Q6.all (fun x=>!gF x)=true)
  (ha:Ig 0 args=true) (h:List Blk):Ev P Γ f args h (d0.mapR (fwd0 h.length)) (h++Q6.map (Jp (fwd0 h.length))):=by
 have hr:∀(f:Ref→D),(∀d,Jk 0 d=true→HO f d=d)∧∀ds,Ig 0 ds=true→It f ds=ds:=fun f=>by
  refine⟨?_,?_⟩
  ·intro d
   refine D.rec (motive_1:=fun d=>Jk 0 d=true→HO f d=d) (motive_2:=fun ds=>Ig 0 ds=true→It f ds=ds) ?_ ?_ ?_ ?_ ?_ ?_ ?_ ?_ ?_ ?_ ?_ d
   ·intros;rfl
   ·intros;rfl
   ·intro r h;cases r<;>simp[Jk] at h
   ·intros;rfl
   ·intros;rfl
   ·intro g a b ih1 ih2 h;simp only[Jk,Hx] at h;simp only[HO,ih1 h.1,ih2 h.2]
   ·intro cs ih h;simp only[Jk] at h;simp only[HO,ih h]
   ·intro cs ih h;simp only[Jk] at h;simp only[HO,ih h]
   ·intro g d ih h;simp only[Jk] at h;simp only[HO,ih h]
   ·intros;rfl
   ·intro d ds ih1 ih2 h;simp only[Ig,Hx] at h;simp only[It,ih1 h.1,ih2 h.2]
  ·intro ds
   refine D.rec_1 (motive_1:=fun d=>Jk 0 d=true→HO f d=d) (motive_2:=fun ds=>Ig 0 ds=true→It f ds=ds) ?_ ?_ ?_ ?_ ?_ ?_ ?_ ?_ ?_ ?_ ?_ ds
   ·intros;rfl
   ·intros;rfl
   ·intro r h;cases r<;>simp[Jk] at h
   ·intros;rfl
   ·intros;rfl
   ·intro g a b ih1 ih2 h;simp only[Jk,Hx] at h;simp only[HO,ih1 h.1,ih2 h.2]
   ·intro cs ih h;simp only[Jk] at h;simp only[HO,ih h]
   ·intro cs ih h;simp only[Jk] at h;simp only[HO,ih h]
   ·intro g d ih h;simp only[Jk] at h;simp only[HO,ih h]
   ·intros;rfl
   ·intro d ds ih1 ih2 h;simp only[Ig,Hx] at h;simp only[It,ih1 h.1,ih2 h.2]
 have:=Ev.frame (H:=h) [] he List.nodup_nil (by simp) ((hr _).2 args ha) rfl (by simpa using hm)
 rw[yh] at this
 have e:nh [] Q6 h=h++Q6.map (Jp (fwd0 h.length)):=by
  unfold nh
  have:∀(b:Nat) (xs:List Blk),ff [] h.length Q6 b xs=xs:=by
   intro b xs
   induction xs generalizing b with
   | nil=>rfl
   | cons x xs ih=>simp[ff,idx,ih]
  rw[this,yh]
  simp
 rw[e] at this
 exact this
section
variable {Γ:aw} {P:Program}
theorem Ev.keepB{f:FuncId}{args:List D}{h h':List Blk}{d:D}(he:Ev P Γ f args h d h')(ks:List Nat)(hk:(qN (Iy h.length++ks)&&(sS (Iy h.length++ks) h' (Iy h.length++ks)).all (fun x=>!gF x))=true)
  (hp:AllP (Bk (Iy h.length++ks) h' (Iy h.length++ks))):Ev P Γ f args h (d.mapR (inv (Iy h.length++ks))) (sS (Iy h.length++ks) h' (Iy h.length++ks)):=by
 simp only[Hx] at hk
 intro O w l vs R ra
 refine JQ (he O w l vs R ra) ?_
 rintro e w' ⟨v,d2,h2,l',rfl,⟨rfl,rfl⟩,R',E',rd⟩
 have hn:=i9 hk.1
 have hpk:sS (Iy h.length++ks) h2 (Iy h.length++ks)=pick (Iy h.length++ks) h2:=by rw[oX hp];rfl
 rw[hpk] at hk ⊢
 have Ps:∀{b:Nat},b<h.length→(Iy h.length++ks)[b]? = some b:=fun {b} hb=>by
  rw[HK (by simpa using hb)];simp[hb]
 generalize Iy h.length++ks=is at hn hk Ps
 have hO:∀k,avs O (mm is l') (pick is h2) k→avs O l' h2 k:=fun k ho=>ho.imp id bu
 refine⟨v,_,_,mm is l',rfl,⟨rfl,rfl⟩,R'.pick hn hk.2 hO (fun k ho=>⟨.inl ho,fun h=>(R'.Ov k (bu h)).2 ho⟩),
  ⟨E'.size,E'.same,fun bV ho=>E'.news bV (bu ho),fun b x hx=>?_,E'.tape⟩,bm hO (fun r y rr=>i7 hn rr) (ds:=[d2]) (ys:=[v]) ⟨rd,trivial⟩ |>.1⟩
 have iF:=(Hs.1 hx).1
 obtain⟨x',h1,h2',h3⟩:=E'.N0 b x hx
 obtain⟨g1,g2⟩:=Bj (g:=inv is) h2'
 refine⟨_,?_,g1,fun hs=>?_⟩
 ·unfold pick
  rw[IQ,Ps iF]
  simp[HD,h1]
 ·unfold mm
  rw[Ps iF]
  exact h3 (g2 hs)
end
def GLe(Γ Γ':aw):Prop:=∀g cs,Γ g=some cs→Γ' g=some cs
theorem GLe.none(Γ':aw):GLe (fun _=>Option.none) Γ':=fun _ _ h=>by simp at h
theorem Rep.less{Γ Γ':aw}{O:Nat→Prop}{w:World}{l:Loc}{h:List Blk}(hg:GLe Γ Γ')(R:Rep Γ' O w l h):Rep Γ O w l h :=
 ⟨R.Ov,R.P2,R.inj,R.bV,fun g cs h=>R.Qd g cs (hg g cs h)⟩
theorem Rep.more{Γ Γ':aw}{O:Nat→Prop}{w w':World}{l l':Loc}{h h':List Blk}(R:Rep Γ' O w l h)(E:Ext w l h w' l' h')(R':Rep Γ O w' l' h'):Rep Γ' O w' l' h' :=
 ⟨R'.Ov,R'.P2,R'.inj,R'.bV,fun g cs hg=>Lh E.hc g 0 cs (R.Qd g cs hg)⟩
theorem Ev.glob{P:Program}{Γ Γ':aw}(hg:GLe Γ Γ'){f:FuncId}{args:List D}{h h':List Blk}{d:D}(he:Ev P Γ f args h d h'):Ev P Γ' f args h d h':=by
 intro O w l vs R ra
 refine JQ (he O w l vs (R.less hg) ra) ?_
 rintro e w' ⟨v,d2,h2,l',rfl,hq,R',E',rd⟩
 exact⟨v,d2,h2,l',rfl,hq,R.more E' R',E',rd⟩
theorem Ev.glob0{P:Program}{Γ':aw}{f:FuncId}{args:List D}{h h':List Blk}{d:D}(he:Ev P (fun _=>none) f args h d h'):Ev P Γ' f args h d h':=he.glob (GLe.none Γ')
mutual
def D.nilW:D→D
 | .p (.v (.slice none 0 0))=>.p (.sl [])
 | .agg cs=>.agg (D.nilWL cs)
 | .tup cs=>.tup (D.nilWL cs)
 | d=>d
def D.nilWL:List D→List D
 | []=>[]
 | d::ds=>D.nilW d::D.nilWL ds
end
mutual
theorem uJ{w:World}{av:Nat→Prop}{l:Loc}{h:List Blk}:∀(d:D) (y:Value),Rel w av l h d y→Rel w av l h (D.nilW d) y
 | .p x,y,r=>by
  unfold D.nilW
  split
  ·rename_i hx
   simp only[D.p.injEq] at hx
   subst hx
   simp only[Rel,RelP] at r ⊢
   exact .inl ⟨trivial,none,0,r,fun _=>rfl⟩
  ·rename_i hx;cases hx
  ·rename_i hx;cases hx
  ·exact r
 | .agg cs,y,r=>by
  simp only[D.nilW,Rel] at r ⊢
  obtain⟨vs,r1,r2⟩:=r
  exact⟨vs,r1,lu cs vs.toList r2⟩
 | .tup cs,y,r=>by
  simp only[D.nilW,Rel] at r ⊢
  obtain⟨vs,r1,r2⟩:=r
  exact⟨vs,r1,lu cs vs.toList r2⟩
 | .any,_,r=>r
 | .ref _,_,r=>r
 | .ep _,_,r=>r
 | .csl _,_,r=>r
 | .fn _ _ _,_,r=>r
 | .grd _ _,_,r=>r
theorem lu{w:World}{av:Nat→Prop}{l:Loc}{h:List Blk}:∀(ds:List D) (ys:List Value),RelL w av l h ds ys→RelL w av l h (D.nilWL ds) ys
 | [],[],_=>trivial
 | [],_::_,r=>by simp[RelL] at r
 | _::_,[],r=>by simp[RelL] at r
 | d::ds,y::ys,r=>by
  simp only[RelL,D.nilWL] at r ⊢
  exact⟨uJ d y r.1,lu ds ys r.2⟩
end
theorem Ev.nilW{P:Program}{Γ:aw}{f:FuncId}{args:List D}{h h':List Blk}{d:D}(he:Ev P Γ f args h d h'):Ev P Γ f args h d.nilW h':=by
 intro O w l vs R ra
 refine JQ (he O w l vs R ra) ?_
 rintro e w' ⟨v,d2,h2,l',rfl,⟨rfl,rfl⟩,R',E',rd⟩
 exact⟨v,_,_,l',rfl,⟨rfl,rfl⟩,R',E',uJ _ _ rd⟩
theorem lv{sz:Nat}:∀(es:List (List D)) (n:Nat) (row:List D),(∀r∈es,r.length=sz)→es[n]? = some row→∃rest,es.flatten.drop (n*sz)=row++rest
 | [],n,row,_,h=>by simp at h
 | e::es,0,row,hs,h=>by
  simp at h;subst h
  exact⟨es.flatten,by simp⟩
 | e::es,n+1,row,hs,h=>by
  simp only[I2] at h
  obtain⟨rest,hr⟩:=lv es n row (fun r hr=>hs r (by simp[hr])) h
  refine⟨rest,?_⟩
  have he:e.length=sz:=hs e (by simp)
  rw[Iq,List.drop_append_of_le_length' e es.flatten n sz he,hr]
where
 List.drop_append_of_le_length' (e t:List D) (n sz:Nat) (he:e.length=sz):(e++t).drop ((n+1)*sz)=t.drop (n*sz):=by
  rw[show(n+1)*sz=e.length+n*sz by rw[he,J0];omega,Lc]
  simp
theorem lw{sz:Nat}:∀(es:List (List D)) (n:Nat) (new:List D),(∀r∈es,r.length=sz)→new.length=sz→n<es.length→bU es.flatten (n*sz) new=(es.set n new).flatten
 | [],n,new,_,_,h=>by simp at h
 | e::es,0,new,hs,hn,_=>by
  have he:e.length=sz:=hs e (by simp)
  simp[bU,hn,←he]
 | e::es,n+1,new,hs,hn,h=>by
  have he:e.length=sz:=hs e (by simp)
  have ih:=lw es n new (fun r hr=>hs r (by simp[hr])) hn (by simpa using h)
  simp only[List.set_cons_succ,Iq,←ih]
  unfold bU
  have e1:(n+1)*sz=e.length+n*sz:=by rw[he,J0];omega
  rw[e1,List.take_append,Lc]
  have h1:List.take (e.length+n*sz) e=e:=List.take_of_length_le (by omega)
  have h2:List.drop (e.length+n*sz+new.length) e=[]:=Ln (by omega)
  rw[h1,h2]
  have h3:e.length+n*sz - e.length=n*sz:=by omega
  have h4:e.length+n*sz+new.length - e.length=n*sz+new.length:=by omega
  rw[h3,h4]
  simp[J2]
theorem eX{sz:Nat}:∀(es:List (List D)),(∀r∈es,r.length=sz)→es.flatten.length=es.length*sz
 | [],_=>by simp
 | e::es,hs=>by
  rw[Iq,ID,eX es (fun r hr=>hs r (by simp[hr])),hs e (by simp),HY,J0];omega
section
variable {P:Program} {h:List Blk} {b sz:Nat} {es:List (List D)}
theorem Bl{ty:TypeId}(ha:CX P ty=some true)(hz:szOf P ty=some sz)(hb:h[b]? = some (.var es.flatten))(hs:∀r∈es,r.length=sz){n:Nat}{row:List D}(hn:es[n]? = some row):bg P h ty (.ref (.ptr b (n*sz)))=some (.agg row):=by
 obtain⟨rest,hr⟩:=lv es n row hs hn
 have hl:row.length=sz:=hs row (H1 hn)
 unfold bg
 simp only[hb,hr,bT,ha,hz]
 rw[if_pos (by simp;omega),←hl]
 simp
theorem lx{ty:TypeId}(ha:CX P ty=some false)(hz:szOf P ty=some 1)(hb:h[b]? = some (.var es.flatten))(hs:∀r∈es,r.length=sz){n j:Nat}{row:List D}{d:D}(hn:es[n]? = some row)(hj:row[j]? = some d):bg P h ty (.ref (.ptr b (n*sz+j)))=some d:=by
 obtain⟨rest,hr⟩:=lv es n row hs hn
 unfold bg
 have:es.flatten.drop (n*sz+j)=(row++rest).drop j:=by rw[←hr,LC]
 simp only[hb,this,bT,ha,hz]
 rw[List.head?_drop]
 have iF:=(Hs.1 hj).1
 rw[HK iF,hj]
theorem Bm{ty:TypeId}(ha:CX P ty=some true){cs:List D}(hz:szOf P ty=some cs.length)(hb:h[b]? = some (.var cs)):bg P h ty (.ref (.ptr b 0))=some (.agg cs):=by
 unfold bg
 simp only[hb,La,bT,ha,hz]
 simp
theorem ly{ty:TypeId}{x:D}{new:List D}(hx:x.cells=some new)(hz:szOf P ty=some sz)(hl:new.length=sz)(hb:h[b]? = some (.var es.flatten))(hs:∀r∈es,r.length=sz){n:Nat}(hn:n<es.length):bG P h ty (.ref (.ptr b (n*sz))) x=some (h.set b (.var (es.set n new).flatten)):=by
 unfold bG
 simp only[hx,hz,hl,hb]
 have:(n+1)*sz≤es.length*sz:=Kk _ hn
 rw[J0] at this
 rw[if_pos trivial,if_pos (by rw[eX es hs];omega),lw es n new hs hl hn]
theorem qP{ty:TypeId}{x:D}{new cs:List D}(hx:x.cells=some new)(hz:szOf P ty=some new.length)(hl:cs.length=new.length)(hb:h[b]? = some (.var cs)):bG P h ty (.ref (.ptr b 0)) x=some (h.set b (.var new)):=by
 unfold bG
 simp only[hx,hz,hb]
 rw[if_pos trivial,if_pos (by omega)]
 have:List.drop new.length cs=[]:=Ln (by omega)
 simp[bU,this]
end
def ja(fn:Func):Code:=match fn.body with
 | some c=>c
 | none=>.skip
theorem Ev.of_cw{P:Program}{Γ:aw}{f:FuncId}{args:List D}{h h':List Blk}{fn:Func}{d:D}{e:Exit}{s:AS}(hf:P.funcs[f]? = some fn)(hb:fn.body.isSome=true)
  (hw:CW P Γ h false (ja fn) {t:=mT fn args,h:=h,m:=[]} e s) (hs:finF P h fn (some ((e,s,[]),[]))=some (d,h',[],[])):Ev P Γ f args h d h':=by
 cases hc:fn.body with
 | none=>rw[hc] at hb;simp at hb
 | some c =>
  unfold ja at hw
  rw[hc] at hw
  refine yc (r:=some ((e,s,[]),[])) (φ:=[]) hf hc ?_ hs trivial
  intro e1 s1 Sd P5 h1 _
  simp only[Ho,Hu] at h1
  obtain⟨⟨rfl,rfl,_⟩,_⟩:=h1
  exact hw
def Ref.up(k:Nat):Ref→Ref
 | .vec b e=>.vec b (e+k)
 | .vs b e i n c=>.vs b (e+k) i n c
 | .vp b e i j=>.vp b (e+k) i j
 | r=>r
def Ref.dn(k:Nat):Ref→D
 | .vec b e=>match Zd (k≤e) with
  | true=>.ref (.vec b (e - k))
  | false=>.any
 | .vs b e i n c=>match Zd (k≤e) with
  | true=>.ref (.vs b (e - k) i n c)
  | false=>.any
 | .vp b e i j=>match Zd (k≤e) with
  | true=>.ref (.vp b (e - k) i j)
  | false=>.any
 | r=>.ref r
def upR(ks:List Nat)(r:Ref):D:=.ref (r.up (ks.getD r.bV 0))
def dnR(ks:List Nat)(r:Ref):D:=r.dn (ks.getD r.bV 0)
theorem Ref.up_blk(k:Nat)(r:Ref):(r.up k).bV=r.bV:=by cases r<;>rfl
theorem dn_up(ks:List Nat)(r:Ref):HO (dnR ks) (upR ks r)=.ref r:=by
 simp only[upR,HO,dnR,Ref.up_blk]
 cases r<;>simp[Ref.up,Ref.dn]
def Blk.up(k:Nat):Blk→Blk
 | .vec es e sz=>.vec es (e+k) sz
 | x=>x
def sg(ks:List Nat):Nat→List Blk→List Blk
 | _,[]=>[]
 | i,x::xs=>(x.mapR (upR ks)).up (ks.getD i 0)::sg ks (i+1) xs
theorem bO(ks:List Nat):∀(i:Nat) (h:List Blk) (j:Nat),(sg ks i h)[j]? = (h[j]?).map fun x=>(x.mapR (upR ks)).up (ks.getD (i+j) 0)
 | i,[],j=>by simp[sg]
 | i,x::xs,0=>by simp[sg]
 | i,x::xs,j+1=>by
  simp only[sg,I2]
  rw[bO ks (i+1) xs j,show i+1+j=i+(j+1) by omega]
mutual
theorem oZ{f g:Ref→D}(h:∀r,HO g (f r)=.ref r):∀d:D,HO g (HO f d)=d
 | .p _=>rfl
 | .any=>rfl
 | .ref r=>by simp only[HO];exact h r
 | .ep _=>rfl
 | .csl _=>rfl
 | .fn _ a b=>by simp only[HO];rw[cy h a,cy h b]
 | .agg cs=>by simp only[HO];rw[cy h cs]
 | .tup cs=>by simp only[HO];rw[cy h cs]
 | .grd _ d=>by simp only[HO];rw[oZ h d]
theorem cy{f g:Ref→D}(h:∀r,HO g (f r)=.ref r):∀ds:List D,It g (It f ds)=ds
 | []=>rfl
 | d::ds=>by simp only[It];rw[oZ h d,cy h ds]
end
theorem Ec{f g:Ref→D}(h:∀r,HO g (f r)=.ref r)(x:Blk):(x.mapR f).mapR g=x:=by
 cases x<;>simp only[Jp]
 ·rw[cy h]
 ·rename_i es e sz
  congr 1
  rw[List.map_map]
  have:(It g ∘ It f)=id:=by funext ds;exact cy h ds
  rw[this,List.map_id]
 ·rename_i kvs clock
  congr 1
  rw[List.map_map]
  have:((fun e:D×D×Nat=>(HO g e.1,HO g e.2.1,e.2.2)) ∘ fun e=>(HO f e.1,HO f e.2.1,e.2.2))=id:=by
   funext e;simp only[Function.comp,oZ h,id]
  rw[this,List.map_id]
 ·rw[cy h]
theorem jb{k:Nat}{f:Ref→D}{x:Blk}:(x.mapR f).up k=.gone ↔ x=.gone:=by cases x<;>simp[Jp,Blk.up]
theorem uK{w:World}{av:Nat→Prop}{l:Loc}{h:List Blk}{b k:Nat}{x:Blk}:BlkOk w av l h b (x.up k) ↔ BlkOk w av l h b x:=by cases x<;>rfl
section
variable {l:Loc} {h:List Blk} {ks:List Nat} {w:World} {av:Nat→Prop} {y:Value}
theorem nk{k:Nat}:own l (sg ks 0 h) k ↔ own l h k:=by
 constructor
 ·rintro⟨b,x,cp,h1,h2,h3⟩
  rw[bO] at h1
  cases hx:h[b]? with
  | none=>rw[hx] at h1;simp at h1
  | some z =>
   rw[hx] at h1
   simp only[H9,Ho] at h1
   subst h1
   exact⟨b,z,cp,hx,fun e=>h2 (jb.2 e),h3⟩
 ·rintro⟨b,x,cp,h1,h2,h3⟩
  exact⟨b,(x.mapR (upR ks)).up (ks.getD (0+b) 0),cp,by rw[bO,h1];rfl,fun e=>h2 (jb.1 e),h3⟩
theorem lz{O:Nat→Prop}{k:Nat}:avs O l (sg ks 0 h) k ↔ avs O l h k:=or_congr Iff.rfl nk
theorem C4{r:Ref}(rr:RefRel l (sg ks 0 h) r y):Rel w av l h (dnR ks r) y:=by
 obtain⟨x,hx⟩:=eW rr
 rw[bO] at hx
 cases hz:h[r.bV]? with
 | none=>rw[hz] at hx;simp at hx
 | some z =>
  have key:(sg ks 0 h)[r.bV]? = some ((z.mapR (upR ks)).up (ks.getD r.bV 0)):=by rw[bO,hz];simp
  unfold RefRel at rr
  obtain⟨h1,rr⟩:=rr
  unfold dnR
  generalize ks.getD r.bV 0=k at key ⊢
  cases r with
  | vec b e =>
   simp only[LL] at hz key
   simp only[key] at rr
   simp only[Ref.dn]
   cases z<;>simp only[Jp,Blk.up] at rr
   ·split
    ·rename_i hk
     simp only[decide_eq_true_eq] at hk
     simp only[Rel]
     unfold RefRel
     simp only[hz]
     exact⟨h1,by omega,fun e=>by simpa using rr.2 (by omega)⟩
    ·simp[Rel]
   ·split
    ·simp only[Rel]
     unfold RefRel
     simp only[hz]
     exact⟨h1,trivial⟩
    ·simp[Rel]
  | vs b e i n c =>
   simp only[LL] at hz key
   simp only[key] at rr
   simp only[Ref.dn]
   cases z<;>simp only[Jp,Blk.up] at rr
   ·split
    ·rename_i hk
     simp only[decide_eq_true_eq] at hk
     simp only[Rel]
     unfold RefRel
     simp only[hz]
     exact⟨h1,by omega,fun e=>by simpa using rr.2 (by omega)⟩
    ·simp[Rel]
   ·split
    ·simp only[Rel]
     unfold RefRel
     simp only[hz]
     exact⟨h1,trivial⟩
    ·simp[Rel]
  | vp b e i j =>
   simp only[LL] at hz key
   simp only[key] at rr
   simp only[Ref.dn]
   cases z<;>simp only[Jp,Blk.up] at rr
   ·split
    ·rename_i hk
     simp only[decide_eq_true_eq] at hk
     simp only[Rel]
     unfold RefRel
     simp only[hz]
     exact⟨h1,by omega,fun e=>by simpa using rr.2 (by omega)⟩
    ·simp[Rel]
   ·split
    ·simp only[Rel]
     unfold RefRel
     simp only[hz]
     exact⟨h1,trivial⟩
    ·simp[Rel]
  | _ =>
   simp only[LL] at hz key
   simp only[key] at rr
   simp only[Ref.dn,Rel]
   unfold RefRel
   simp only[hz]
   refine⟨h1,?_⟩
   cases z<;>simp only[Jp,Blk.up] at rr<;>exact rr
theorem C5{r:Ref}(rr:RefRel l h r y):Rel w av l (sg ks 0 h) (upR ks r) y:=by
 obtain⟨z,hz⟩:=eW rr
 have key:(sg ks 0 h)[r.bV]? = some ((z.mapR (upR ks)).up (ks.getD r.bV 0)):=by rw[bO,hz];simp
 unfold RefRel at rr
 obtain⟨h1,rr⟩:=rr
 unfold upR
 simp only[Rel]
 generalize ks.getD r.bV 0=k at key ⊢
 unfold RefRel
 refine⟨h1,?_⟩
 cases r<;>simp only[LL] at hz key<;>simp only[hz] at rr<;>simp only[Ref.up,key]<;>cases z<;>simp only[Jp,Blk.up]<;>simp only at rr <;>
  first
  | exact rr
  | exact⟨by omega,fun e=>by simpa using rr.2 (by omega)⟩
end
theorem le_up{f g:Ref→D}{k:Nat}{x y:Blk}(h:x.le y):((x.mapR f).up k).le ((y.mapR g).up k)∧(((x.mapR f).up k).stays ((y.mapR g).up k)→x.stays y):=by
 cases x<;>cases y<;>simp only[LK] at h<;>simp_all[LK,Jp,LI,Blk.up]
theorem Ev.up{P:Program}{Γ:aw}{f:FuncId}{args:List D}{h h':List Blk}{d:D}(ks:List Nat)(he:Ev P Γ f args h d h')(hm:(h.all (fun x=>!gF x)&&h'.all (fun x=>!gF x))=true):
  Ev P Γ f (It (upR ks) args) (sg ks 0 h) (d.mapR (upR ks)) (sg ks 0 h'):=by
 simp only[Hx] at hm
 intro O w l vs R ra
 have hO:∀k,avs O l h k→avs O l (sg ks 0 h) k:=fun k=>lz.2
 have R0:Rep Γ O w l h:=by
  refine⟨fun k ho=>R.Ov k (nk.2 ho),R.P2,fun b b' x x' k c c' h1 h2 h3 h4 h5 h6=>?_,fun b x hx=>?_,fun g cs hg=>aF (fun k hk=>lz.2 hk) (R.Qd g cs hg)⟩
  ·exact R.inj b b' _ _ k c c' (by rw[bO,h1];rfl) (fun e=>h2 (jb.1 e)) (by rw[bO,h3];rfl) (fun e=>h4 (jb.1 e)) h5 h6
  ·have hb:=uK.1 (R.bV b ((x.mapR (upR ks)).up (ks.getD (0+b) 0)) (by rw[bO,hx];rfl))
   have:=eV (l':=l) (h':=h) (b':=b) (f:=dnR ks) (fun k hk=>lz.2 hk) (fun r y rr=>C4 rr) rfl (by
    have:=HU.1 hm.1 x (H1 hx)
    rw[ng];simpa using this) hb
   rw[Ec (dn_up ks)] at this
   exact this
 have ra0:RelL w (avs O l h) l h args vs:=by
  have:=bm (av':=avs O l h) (l':=l) (h':=h) (f:=dnR ks) (fun k hk=>lz.2 hk) (fun r y rr=>C4 rr) ra
  rw[cy (dn_up ks)] at this
  exact this
 refine JQ (he O w l vs R0 ra0) ?_
 rintro e w' ⟨v,d2,h2,l',rfl,⟨rfl,rfl⟩,R',E',rd⟩
 refine⟨v,_,_,l',rfl,⟨rfl,rfl⟩,⟨fun k ho=>R'.Ov k (nk.1 ho),R'.P2,fun b b' x x' k c c' h1 h2' h3 h4 h5 h6=>?_,fun b x hx=>?_,fun g cs hg=>aF (fun k hk=>lz.1 hk) (R'.Qd g cs hg)⟩,
  ⟨E'.size,fun bV iF O3=>E'.same bV iF (fun ho=>O3 (nk.2 ho)),fun bV ho=>(E'.news bV (nk.1 ho)).imp nk.2 id,fun b x hx=>?_,E'.tape⟩,?_⟩
 ·rw[bO] at h1 h3
  cases hx:h2[b]? with
  | none=>rw[hx] at h1;simp at h1
  | some z =>
   cases Pc:h2[b']? with
   | none=>rw[Pc] at h3;simp at h3
   | some z' =>
    rw[hx] at h1;rw[Pc] at h3
    simp only[H9,Ho] at h1 h3
    subst h1;subst h3
    exact R'.inj b b' z z' k c c' hx (fun e=>h2' (jb.2 e)) Pc (fun e=>h4 (jb.2 e)) h5 h6
 ·rw[bO] at hx
  cases hz:h2[b]? with
  | none=>rw[hz] at hx;simp at hx
  | some z =>
   rw[hz] at hx
   simp only[H9,Ho] at hx
   subst hx
   refine uK.2 (eV (l':=l') (b':=b) (fun k hk=>lz.1 hk) (fun r y rr=>C5 rr) rfl ?_ (R'.bV b z hz))
   have:=HU.1 hm.2 z (H1 hz)
   simpa using this
 ·rw[bO] at hx
  cases hz:h[b]? with
  | none=>rw[hz] at hx;simp at hx
  | some z =>
   rw[hz] at hx
   simp only[H9,Ho] at hx
   subst hx
   obtain⟨x',k1,k2,k3⟩:=E'.N0 b z hz
   obtain⟨g1,g2⟩:=le_up (f:=upR ks) (g:=upR ks) (k:=ks.getD (0+b) 0) k2
   exact⟨_,by rw[bO,k1];rfl,g1,fun hs=>k3 (g2 hs)⟩
 ·exact eC (fun k hk=>lz.1 hk) (fun r y rr=>C5 rr) rd
def upHX(ks:List Nat):Nat→List Blk→List Blk
 | _,[]=>[]
 | i,x::xs=>(keepX (upR ks) x).up (ks.getD i 0)::upHX ks (i+1) xs
theorem sT{ks:List Nat}:∀{i:Nat} {h:List Blk},AllP (mapP (upR ks) h)→upHX ks i h=sg ks i h
 | _,[],_=>rfl
 | i,x::xs,hp=>by
  obtain⟨h1,h2⟩:=Ll (ps:=kU (upR ks) x) hp
  simp only[upHX,sg,hJ h1,sT h2]
theorem Ev.upX{P:Program}{Γ:aw}{f:FuncId}{args:List D}{h h':List Blk}{d:D}(ks:List Nat)(he:Ev P Γ f args h d h')(hm:(h.all (fun x=>!gF x)&&h'.all (fun x=>!gF x))=true)(p1:AllP (mapP (upR ks) h))(p2:AllP (mapP (upR ks) h')):
  Ev P Γ f (It (upR ks) args) (upHX ks 0 h) (d.mapR (upR ks)) (upHX ks 0 h'):=by
 rw[sT p1,sT p2];exact Ev.up ks he hm
open Go Go.RowKit
theorem wm{Γ:aw}{w:World}(hg:∀g cs,Γ g=some cs→RelCells w (avs (fun _=>False) (fun _=>none) []) g 0 cs):Rep Γ (fun _=>False) w (fun _=>none) [] :=
 ⟨fun bV ho=>absurd ho cw,fun bV ho=>ho.elim,fun b b' x x' k c c' hb=>by simp at hb,fun b x hb=>by simp at hb,hg⟩
theorem yj{P:Program}{Γ:aw}{f:FuncId}{args:List D}{d:D}{W:World}{vs:List Value}(hg:∀g cs,Γ g=some cs→RelCells W (avs (fun _=>False) (fun _=>none) []) g 0 cs)(he:Ev P Γ f args [] d [])(hr:RelL W (avs (fun _=>False) (fun _=>none) []) (fun _=>none) [] args vs):
  Calls P f vs.toArray W fun e W'=>∃v,e=.returned v∧Rel W' (fun _=>False) (fun _=>none) [] d v∧Go.RowKit.Below W.heap.size W W':=by
 have h1:=he (fun _=>False) W (fun _=>none) vs (wm hg) hr
 refine(callsIn_wide (n:=0)).1 (JQ (h1:CallsIn (FW none) 0 P f _ W _) ?_)
 rintro e W' ⟨v,d2,h2,l',rfl,⟨rfl,rfl⟩,R',E',rd⟩
 refine⟨v,rfl,Rel.mono (fun bV off y hn hc=>⟨hc,fun h=>h.elim⟩) (fun b x hb=>by simp at hb) d2 v rd,?_⟩
 exact⟨E'.tape.2.1,E'.tape.1,E'.tape.2.2.1,E'.size,fun k hk=>E'.same k hk cw⟩
end Go.Vi
namespace Go.Vi
open Go
section
variable {P:Program} {Γ:aw} {O:Nat→Prop} {w:World} {l:Loc} {h:List Blk}
theorem o8:∀{kvs:List (D×D×Nat)} {es:List MapEntry},RelKV w (avs O l h) l h kvs es→∀{i:Nat} {e:MapEntry},es[i]? = some e →
  ∃k d,(k,d,e.born)∈kvs∧Rel w (avs O l h) l h k e.key∧Rel w (avs O l h) l h d e.val
 | [],[],_,_,_,he=>by simp at he
 | (k,d,n)::kvs,e0::es,r,i,e,he=>by
  simp only[RelKV] at r
  cases i with
  | zero =>
   simp only[HZ,Ho] at he
   subst he
   exact⟨k,d,by simp[r.2.2.1],r.1,r.2.1⟩
  | succ i =>
   obtain⟨k',d',h1,h2⟩:=o8 r.2.2.2 (by simpa using he)
   exact⟨k',d',Iu _ h1,h2⟩
 | [],_::_,r,_,_,_=>by simp[RelKV] at r
 | _::_,[],r,_,_,_=>by simp[RelKV] at r
theorem Bn(R:Rep Γ O w l h){b mb clock:Nat}{seen:List Nat}{kvs:List (D×D×Nat)}{y:Value}{t:TypeId}(rx:Rel w (avs O l h) l h (.ref (.it b)) y)
  (hb:h[b]? = some (.mit (some mb) clock seen clock)) (Rf:h[mb]? = some (.map kvs clock)) (N6:∀e∈kvs,e.2.2<clock) :
  ∃v w' h' d,(Kn y false t).run P w=.ok v w'∧Rep Γ O w' l h'∧Ext w l h w' l h'∧Rel w' (avs O l h') l h' d v ∧
   ((kvs.filter (fun e=>!seen.contains e.2.2)=[]∧d=.tup [lit (.bool false)]∧h'=h) ∨
    ∃e∈kvs.filter (fun e=>!seen.contains e.2.2),d=.tup [lit (.bool true),e.1,e.2.1]∧h'=h.set b (.mit (some mb) clock (seen++[e.2.2]) clock)):=by
 obtain⟨bV,cp,N4,rfl⟩:=pZ R rx hb (by simp)
 obtain⟨Oh,Pm,mr,h1,h2,h3⟩:=R.bV b _ hb
 obtain⟨rfl,rfl⟩:bV=Oh∧cp=Pm:=by simpa[N4] using h1
 have h3':=h3
 obtain⟨_,hr⟩:=h3
 simp only[Rf] at hr
 obtain⟨Qf,mcp,Qm,hmr⟩:=hr
 simp only[Value.map.injEq] at hmr
 subst hmr
 obtain⟨Q1,S5,es,g1,g2,g3⟩:=R.bV mb _ Rf
 obtain⟨rfl,rfl⟩:Qf=Q1∧mcp=S5:=by simpa[Qm] using g1
 have Qb:=bh (P:=P) h2 (by simp)
 have hgm:=bh (P:=P) g2 (by simp)
 have O7:RelKV w (avs O l h) l h (kvs.filter fun e=>!seen.contains e.2.2) (es.filter fun e=>!seen.toArray.contains e.born).toList:=by
  rw[Array.toList_filter]
  simpa using fp (f:=fun n=>!seen.contains n) g3
 have hborn:∀e∈es,e.born<clock:=by
  intro e he
  obtain⟨i,hi,rfl⟩:=List.getElem_of_mem (Array.mem_toList_iff.2 he)
  obtain⟨k,d,h4,_⟩:=o8 g3 (HH hi)
  exact N6 _ h4
 have Ow:(!seen.toArray.isEmpty&&!es.isEmpty&&es.all (fun e=>Zd (e.born≥clock)))=false:=by
  by_cases he:es.isEmpty
  ·simp[he]
  ·have:es.all (fun e=>Zd (e.born≥clock))=false:=by
    rw[←Kb,Array.all_eq_true]
    intro hh
    have hp:0<es.size:=by
     rw[LM] at he;omega
    have h5:=hh 0 hp
    have h6:=hborn es[0] (Array.getElem_mem hp)
    simp at h5
    omega
   simp[this]
 generalize hleft:es.filter (fun e=>!seen.toArray.contains e.born)=left at O7
 have hlb2:∀e∈left,e.born<clock:=fun e he=>hborn e (by rw[←hleft] at he;exact(Array.mem_filter.1 he).1)
 have hold:left.filter (fun e=>Zd (e.born<clock))=left:=by
  rw[Array.filter_eq_self]
  intro e he
  simpa using hlb2 e he
 have Rx:left.filter (fun e=>Zd (e.born≥clock))=#[]:=by
  rw[Array.filter_eq_empty_iff]
  intro e he
  have:=hlb2 e he
  simp;omega
 by_cases hz:left=#[]
 ·subst hz
  have hk:kvs.filter (fun e=>!seen.contains e.2.2)=[]:=by
   cases hq:kvs.filter (fun e=>!seen.contains e.2.2) with
   | nil=>rfl
   | cons a t=>rw[hq] at O7;simp[RelKV] at O7
  refine⟨.tuple #[.bool false],w,h,.tup [lit (.bool false)],?_,R,Ext.refl _ _ _,by simp only[Rel];exact⟨_,rfl,rel_lit _ _ _ _ _,trivial⟩,.inl ⟨hk,rfl,rfl⟩⟩
  simp only[Kn,HM,Qb,hgm,HE,Ow,hleft]
  simp[Kh]
 ·have Qh:0<left.size:=by
   rw[Nat.pos_iff_ne_zero]
   intro hh
   exact hz (Array.eq_empty_of_size_eq_zero hh)
  have hie:left.isEmpty=false:=by
   rw[←Kb,LM];omega
  have pick:∃i w2,(choose (.mapNext left.size)).run P w=.ok i w2∧i<left.size∧Rep Γ O w2 l h∧Ext w l h w2 l h∧w2.heap=w.heap:=by
   by_cases hf:left.size≤1
   ·exact⟨0,w,by simp[run_choose,Kh,hf],Qh,R,Ext.refl _ _ _,rfl⟩
   ·obtain⟨R1,E1⟩:=R.of_heap (w':=w.drew) rfl ⟨rfl,rfl,rfl,Nat.le_succ _⟩
    exact⟨_,w.drew,by simp[run_choose,Kh,hf];rfl,Nat.mod_lt _ Qh,R1,E1,rfl⟩
  obtain⟨i,w2,p1,p2,R2,E2,p3⟩:=pick
  have Tg:((if left.isEmpty=true then #[none] else #[])++Array.map some (left++#[]))[i]? = some (some left[i]):=by
   simp[hie,p2]
  obtain⟨k,d,m1,m2,m3⟩:=o8 O7 (i:=i) (e:=left[i]) (by rw[IH];exact Array.getElem?_eq_getElem p2)
  have h2':w2.heap[bV]? = some (.mapIter (some Qf) clock seen.toArray clock):=by rw[p3];exact h2
  have:=gT R2 (x':=.mit (some mb) clock (seen++[left[i].born]) clock) hb (by simp) N4 (o':=.mapIter (some Qf) clock (seen.toArray.push left[i].born) clock) h2' trivial
   (fun E=>⟨bV,cp,some Qf,N4,by rw[co h2'];simp,(E.rel (O:=O) (d:=.ref (.mp mb)) (E2.rel h3'))⟩)
  refine⟨.tuple #[.bool true,left[i].key,left[i].val],_,_,_,?_,this.1,E2.trans this.2,?_,.inr ⟨_,m1,rfl,rfl⟩⟩
  ·have Qv:(if left.isEmpty=true then #[none] else #[]:Array (Option MapEntry)).size+(left.size+0)=left.size:=by simp[hie]
   simp only[Kn,HM,Qb,hgm,HE,Ow,hleft,hold,Rx]
   simp only[Bool.false_eq_true,if_false,Sem.run_pure,HE,Array.size_append,Array.size_map,Array.size_empty,Qv,p1,Tg,HM]
   simp[bN (P:=P) h2']
  ·simp only[Rel];exact⟨_,rfl,rel_lit _ _ _ _ _,this.2.rel (E2.rel m2),this.2.rel (E2.rel m3),trivial⟩
variable {X:Ctx} {r:Option Nat}
theorem Ed{o:Oper}{x b mb clock:Nat}{it:Operand}{seen:List Nat}{kvs:List (D×D×Nat)}{s:AS}{K:Act→World→Prop}{Q':Exit→Act→World→Prop}(ho:o.op=.next it false)(hd:o.dst=some x)
  (hit:evalD Γ s.t it=.ref (.it b)) (hb:s.h[b]? = some (.mit (some mb) clock seen clock)) (Rf:s.h[mb]? = some (.map kvs clock)) (N6:∀e∈kvs,e.2.2<clock)
  (hm:aA s.h s.m=true) (hm':∀n,aA (s.h.set b (.mit (some mb) clock (seen++[n]) clock)) s.m=true)
  (h0:kvs.filter (fun e=>!seen.contains e.2.2)=[]→∀a' w',St Γ X {t:=s.t.set x (.tup [lit (.bool false)]),h:=s.h,m:=s.m} a' w'→K a' w')
  (h1:∀e∈kvs.filter (fun e=>!seen.contains e.2.2),∀a' w',St Γ X {t:=s.t.set x (.tup [lit (.bool true),e.1,e.2.1]),h:=s.h.set b (.mit (some mb) clock (seen++[e.2.2]) clock),m:=s.m} a' w'→K a' w')
  {a:Act} {w:World} (hs:St Γ X s a w):o.wpIn (FW r) 0 P a w K Q':=by
 obtain⟨l,R,E,rt,rd⟩:=hs
 have rx:=bq R rt it
 rw[hit] at rx
 obtain⟨v,w',h',d,g1,g2,g3,g4,g5⟩:=Bn (P:=P) (t:=o.type) R rx hb Rf N6
 refine⟨fun _ _=>trivial,?_⟩
 rw[Oper.semAt_eq _ _ _ (by intro c hc;rw[hc] at ho;simp at ho)]
 have he:(execOp a.eval o).run P w=.ok (.value v) w':=by
  obtain⟨dst,op,type,pos,after,guard⟩:=o
  simp only at ho g1
  subst ho
  simp[execOp,g1]
 rw[he]
 rcases g5 with ⟨k1,rfl,rfl⟩|⟨e,k1,rfl,rfl⟩
 ·have key:=St.put (Γ:=Γ) (X:=X) (s:=s) (a:=a) o.dst rt rd E g2 g3 g4 hm
  exact h0 k1 (a.put o.dst v) w' (by have hp:putD s.t o.dst (.tup [lit (.bool false)])=s.t.set x (.tup [lit (.bool false)]):=(by rw[hd];rfl);rw[hp] at key;exact key)
 ·have key:=St.put (Γ:=Γ) (X:=X) (s:=s) (a:=a) o.dst rt rd E g2 g3 g4 (hm' _)
  exact h1 e k1 (a.put o.dst v) w' (by have hp:putD s.t o.dst (.tup [lit (.bool true),e.1,e.2.1])=s.t.set x (.tup [lit (.bool true),e.1,e.2.1]):=(by rw[hd];rfl);rw[hp] at key;exact key)
theorem VW.nextRegion{id:Nat}{o1 o2:Oper}{x1 x2 b mb clock:Nat}{it:Operand}{seen:List Nat}{kvs:List (D×D×Nat)}{s:AS}{Q:Exit→AS→Prop}
  (O0:o1.op=.next it false) (hd1:o1.dst=some x1) (hg1:o1.guard=none) (O1:o2.op=.extract (.tmp x1) 0) (Oo:o2.dst=some x2) (hg2:o2.guard=none)
  (hx1:x1<s.t.length) (hit:evalD Γ s.t it=.ref (.it b)) (hb:s.h[b]? = some (.mit (some mb) clock seen clock)) (Rf:s.h[mb]? = some (.map kvs clock)) (N6:∀e∈kvs,e.2.2<clock)
  (hm:aA s.h s.m=true) (hm':∀n,aA (s.h.set b (.mit (some mb) clock (seen++[n]) clock)) s.m=true)
  (h0:kvs.filter (fun e=>!seen.contains e.2.2)=[]→Q .normal {t:=(s.t.set x1 (.tup [lit (.bool false)])).set x2 (lit (.bool false)),h:=s.h,m:=s.m})
  (h1:∀e∈kvs.filter (fun e=>!seen.contains e.2.2),Q .normal {t:=(s.t.set x1 (.tup [lit (.bool true),e.1,e.2.1])).set x2 (lit (.bool true)),h:=s.h.set b (.mit (some mb) clock (seen++[e.2.2]) clock),m:=s.m}) :
  VW P Γ X r (.region id #[o1,o2] false) Q s:=fun a w hs=>wpIn_region (by
 have w1:I9 o1 (yielded #[o1,o2] a.tmps)=true:=by simp[I9,hg1]
 simp only[List.size_toArray,HY,Jj,List.range_succ_eq_map,List.range_zero,Il,List.map_nil,wpOpsIn,List.getElem?_toArray,HZ,I2]
 rw[if_pos w1]
 have step2:∀(d0:D) (ds:List D) (h2:List Blk) (a':Act) (w':World),aA h2 s.m=true→Q .normal {t:=(s.t.set x1 (.tup (d0::ds))).set x2 d0,h:=h2,m:=s.m}→St Γ X {t:=s.t.set x1 (.tup (d0::ds)),h:=h2,m:=s.m} a' w' →
   if I9 o2 (yielded #[o1,o2] a'.tmps)=true then o2.wpIn (FW r) 0 P a' w' (j1 Γ X Q .normal) (j1 Γ X Q) else (∀f,o2.about P w' a'.eval=some f→(FW r).fn f)∧j1 Γ X Q .normal (a'.put o2.dst undef) w':=by
  intro d0 ds h2 a' w' hmk hq Ot
  have w2:I9 o2 (yielded #[o1,o2] a'.tmps)=true:=by simp[I9,hg2]
  rw[if_pos w2]
  refine op_wp (s:={t:=s.t.set x1 (.tup (d0::ds)),h:=h2,m:=s.m}) (d:=d0) (h':=h2) ?_ hmk ?_ Ot
  ·rw[O1]
   have:evalD Γ (s.t.set x1 (.tup (d0::ds))) (.tmp x1)=.tup (d0::ds):=by simp[evalD,HW,hx1]
   simp only[opSem,this]
   rfl
  ·intro a2 w2 Si
   rw[Oo] at Si
   exact⟨by simp,_,hq,Si⟩
 refine Ed (s:=s) O0 hd1 hit hb Rf N6 hm hm' ?_ ?_ hs
 ·intro hz a' w' Ot
  exact step2 _ _ _ a' w' hm (h0 hz) Ot
 ·intro e he a' w' Ot
  exact step2 _ _ _ a' w' (hm' _) (h1 e he) Ot)
abbrev bo(l:List (D×D×Nat)):List Nat:=l.map fun e=>e.2.2
theorem VW.mapLoop{id j:Nat}{o1 o2:Oper}{x1 x2 b mb clock:Nat}{it:Operand}{kvs:List (D×D×Nat)}{rest:Code}{Q:Exit→AS→Prop}(S:List (D×D×Nat)→AS)
  (O0:o1.op=.next it false) (hd1:o1.dst=some x1) (hg1:o1.guard=none) (O1:o2.op=.extract (.tmp x1) 0) (Oo:o2.dst=some x2) (hg2:o2.guard=none)
  (hS:∀pre,x1<(S pre).t.length∧x2<(S pre).t.length∧evalD Γ (S pre).t it=.ref (.it b)∧(S pre).h[b]? = some (.mit (some mb) clock (bo pre) clock)∧(S pre).h[mb]? = some (.map kvs clock) ∧
   aA (S pre).h (S pre).m=true∧∀n,aA ((S pre).h.set b (.mit (some mb) clock (bo pre++[n]) clock)) (S pre).m=true)
  (N6:∀e∈kvs,e.2.2<clock) (hnd:(bo kvs).Nodup)
  (body:∀pre e post,(pre++e::post).Perm kvs →
   VW P Γ X r rest (fun e' s'=>e'=.normal∧s'=S (pre++[e])) {t:=((S pre).t.set x1 (.tup [lit (.bool true),e.1,e.2.1])).set x2 (lit (.bool true)),h:=(S pre).h.set b (.mit (some mb) clock (bo (pre++[e])) clock),m:=(S pre).m})
  (last:∀pre,pre.Perm kvs→Q (.exit j) {t:=((S pre).t.set x1 (.tup [lit (.bool false)])).set x2 (lit (.bool false)),h:=(S pre).h,m:=(S pre).m}) :
  VW P Γ X r (.loop (.seq (.region id #[o1,o2] false) (.seq (.cond (.tmp x2) .skip (.exit j)) rest))) Q (S []):=by
 refine VW.loop (ι:={pre:List (D×D×Nat) // ∃post,(pre++post).Perm kvs}) (fun pre s=>s=S pre.1) (fun pre=>kvs.length - pre.1.length) ⟨[],kvs,by simp⟩ rfl ?_
 rintro⟨pre,post,hp⟩ s rfl
 obtain⟨k1,k2,k3,k4,k5,k6,k7⟩:=hS pre
 have hnp:(bo (pre++post)).Nodup:=(hp.map _).nodup_iff.2 hnd
 have hdis:∀e∈post,(bo pre).contains e.2.2=false:=by
  intro e he
  rw[←Kb,JX]
  intro hm
  rw[bo,List.map_append,List.nodup_append] at hnp
  exact hnp.2.2 _ hm _ (HQ.2 ⟨e,he,rfl⟩) rfl
 have P1:∀e∈kvs,(bo pre).contains e.2.2=false→e∈post:=by
  intro e he hc
  rcases List.mem_append.1 (hp.mem_iff.2 he) with h|h
  ·rw[←Kb,JX] at hc
   exact absurd (HQ.2 ⟨e,h,rfl⟩) hc
  ·exact h
 refine VW.seq (VW.nextRegion O0 hd1 hg1 O1 Oo hg2 k1 k3 k4 k5 N6 k6 k7 ?_ ?_)
 ·intro hz
  have Sz:post=[]:=by
   cases post with
   | nil=>rfl
   | cons e post =>
    have h1:=hdis e (by simp)
    have h2:e∈kvs.filter (fun e=>!(bo pre).contains e.2.2):=J6.2 ⟨hp.mem_iff.1 (by simp),by simp only[h1];rfl⟩
    rw[hz] at h2
    simp at h2
  subst Sz
  rw[K6] at hp
  refine VW.seq (VW.cond (b:=false) ?_ (fun h=>by simp at h) (fun _=>?_))
  ·simp[evalD,HW,k2,lit]
  ·exact VW.exit (last pre hp)
 ·intro e he
  obtain⟨h1,h2⟩:=J6.1 he
  have h3:=P1 e h1 (by simpa using h2)
  obtain⟨s1,s2,rfl⟩:=List.append_of_mem h3
  have Ry:(pre++e::(s1++s2)).Perm kvs:=by
   refine List.Perm.trans (List.Perm.append_left _ ?_) hp
   exact(List.perm_middle (l₁:=s1) (l₂:=s2) (a:=e)).symm
  refine VW.seq (VW.cond (b:=true) ?_ (fun _=>?_) (fun h=>by simp at h))
  ·simp[evalD,HW,k2,lit]
  ·refine VW.skip ?_
   have hbt:bo (pre++[e])=bo pre++[e.2.2]:=by simp[bo]
   have hb:=body pre e (s1++s2) Ry
   rw[hbt] at hb
   refine hb.mono ?_
   rintro e' s' ⟨rfl,rfl⟩
   refine⟨⟨pre++[e],s1++s2,by rw[J2];exact Ry⟩,rfl,?_⟩
   have hl:=Ry.length_eq
   simp only[ID,HY] at hl ⊢
   simp only[Jj]
   omega
def sU:Code→Nat→Code
 | .seq a b,n=>bif Nat.blt n (xh a).length then .seq a b else sU b (n - (xh a).length)
 | c,_=>c
def qQ(c:Code)(n:Nat):Code:=match sU c n with
 | .seq _ b=>b
 | _=>.skip
end
def cT:List D→Option (List Dp)
 | []=>some []
 | .p x::ds=>match cT ds with
  | some xs=>some (x::xs)
  | none=>none
 | _=>none
def eY:List (List D)→Option (List (List Dp))
 | []=>some []
 | r::rs=>match cT r,eY rs with
  | some x,some xs=>some (x::xs)
  | _,_=>none
def C6(d:D)(e:Nat):Option Blk→D
 | some (.vec es e' _)=>match Nat.beq e' e,eY es with
  | true,some rows=>.p (.sl rows)
  | _,_=>d
 | _=>d
mutual
def lA(h:List Blk):D→D
 | .ref (.vec b e)=>C6 (.ref (.vec b e)) e h[b]?
 | .agg cs=>.agg (wn h cs)
 | d=>d
def wn(h:List Blk):List D→List D
 | []=>[]
 | d::ds=>lA h d::wn h ds
end
mutual
def j5:D→Bool
 | .p (.v _)=>true
 | .agg cs=>yk cs
 | .tup cs=>yk cs
 | _=>false
def yk:List D→Bool
 | []=>true
 | d::ds=>j5 d&&yk ds
end
theorem nl:∀{ds:List D} {xs:List Dp},cT ds=some xs→ds=xs.map .p
 | [],xs,h=>by simp only[cT,Ho] at h;subst h;rfl
 | .p x::ds,xs,h=>by
  simp only[cT] at h
  split at h
  ·rename_i ys h1
   simp only[Ho] at h
   subst h
   rw[nl h1];rfl
  ·simp at h
 | .any::_,_,h=>by simp[cT] at h
 | .ref _::_,_,h=>by simp[cT] at h
 | .ep _::_,_,h=>by simp[cT] at h
 | .csl _::_,_,h=>by simp[cT] at h
 | .fn _ _ _::_,_,h=>by simp[cT] at h
 | .agg _::_,_,h=>by simp[cT] at h
 | .tup _::_,_,h=>by simp[cT] at h
 | .grd _ _::_,_,h=>by simp[cT] at h
theorem lB:∀{es:List (List D)} {xs:List (List Dp)},eY es=some xs→es=xs.map (·.map .p)
 | [],xs,h=>by simp only[eY,Ho] at h;subst h;rfl
 | e::es,xs,h=>by
  simp only[eY] at h
  split at h
  ·rename_i y ys h1 h2
   simp only[Ho] at h
   subst h
   rw[nl h1,lB h2];rfl
  ·simp at h
section
variable {P:Program} {Γ:aw} {O:Nat→Prop} {w:World} {l:Loc} {h:List Blk}
def sV(l:Loc)(h:List Blk)(k:Nat):Prop:=∃(b:Nat) (rows:List (List Dp)) (e sz cap:Nat),h[b]? = some (.vec (rows.map (·.map D.p)) e sz)∧l b=some (k,cap)
theorem Bo(R:Rep Γ O w l h){b e:Nat}{y:Value}{rows:List (List Dp)}{sz:Nat}(hb:h[b]? = some (.vec (rows.map (·.map .p)) e sz))(rr:RefRel l h (.vec b e) y){av':Nat→Prop}(ha:∀k,av' k→avs O l h k∧¬sV l h k):
  RelP w av' (.sl rows) y:=by
 have hk:=R.bV _ _ hb
 unfold RefRel at rr
 simp only[hb] at rr
 have hv:=rr.2.2 trivial
 unfold BlkOk at hk
 simp only at hk
 simp only[RelP]
 cases hl:l b with
 | none =>
  rw[hl] at hv hk
  simp only[ml] at hv hk
  exact .inl ⟨by simpa using hk,none,0,hv.2,fun _=>rfl⟩
 | some p =>
  obtain⟨bV,cap⟩:=p
  rw[hl] at hv hk
  simp only[ml] at hv hk
  obtain⟨c,T,fr,ys,q1,q2,q3,q4,q5,q6,rest,q7⟩:=hk
  refine .inr ⟨bV,0,cap,sz,by simpa using hv.1,by simpa using hv.2,?_⟩
  have P4:¬av' bV:=fun ho=>(ha bV ho).2 ⟨b,rows,e,sz,cap,hb,hl⟩
  refine iT rows 0 fun i e1 he1=>?_
  have hlen:e1.length=sz:=by
   have:=q5 (e1.map .p) (HQ.2 ⟨e1,H1 he1,rfl⟩)
   simpa using this
  refine⟨hlen,gC (l:=l) (h:=h) (av:=avs O l h) (av':=av') (fun _ ho=>(ha _ ho).1) P4 e1 _ ?_⟩
  rw[Nat.zero_add]
  exact(CellsAt.of_rel (loc:=l) (h:=h) q1 q7 q6).row q5 (by rw[IQ,he1];rfl)
mutual
theorem Bp(R:Rep Γ O w l h){av':Nat→Prop}(ha:∀k,av' k→avs O l h k∧¬sV l h k):∀{d:D} {y:Value},Jk 0 (lA h d)=true→Rel w (avs O l h) l h d y→Rel w av' l [] (lA h d) y
 | .p _,_,_,r=>by simp only[lA,Rel] at r ⊢;exact ex (fun k hk=>(ha k hk).1) r
 | .any,_,_,_=>by simp[lA,Rel]
 | .ep _,_,_,r=>by
  simp only[lA,Rel] at r ⊢
  obtain⟨bV,off,r1,r2⟩:=r
  exact⟨bV,off,r1,aF (fun k hk=>(ha k hk).1) r2⟩
 | .csl _,_,_,r=>by
  simp only[lA,Rel] at r ⊢
  rcases r with r|⟨bV,off,sz,r1,r2⟩
  ·exact .inl r
  ·exact .inr ⟨bV,off,sz,r1,ci (fun k hk=>(ha k hk).1) r2⟩
 | .agg cs,_,hi,r=>by
  simp only[lA,Jk] at hi
  simp only[lA,Rel] at r ⊢
  obtain⟨vs,r1,r2⟩:=r
  exact⟨vs,r1,o9 R ha hi r2⟩
 | .ref (.vec b e),y,hi,r=>by
  simp only[lA] at hi ⊢
  unfold C6 at hi ⊢
  split at hi
  ·rename_i es e' sz hb
   split at hi
   ·rename_i rows h1 h2
    have he:=Nat.eq_of_beq_eq_true h1
    subst he
    rw[lB h2] at hb
    simp only[Rel]
    exact Bo R hb (by simpa only [Rel] using r) ha
   ·simp[Jk] at hi
  ·simp[Jk] at hi
 | .ref (.ptr _ _),_,hi,_=>by simp[lA,Jk] at hi
 | .ref (.vs _ _ _ _ _),_,hi,_=>by simp[lA,Jk] at hi
 | .ref (.av _ _ _ _),_,hi,_=>by simp[lA,Jk] at hi
 | .ref (.vp _ _ _ _),_,hi,_=>by simp[lA,Jk] at hi
 | .ref (.mp _),_,hi,_=>by simp[lA,Jk] at hi
 | .ref (.it _),_,hi,_=>by simp[lA,Jk] at hi
 | .ref (.yl _),_,hi,_=>by simp[lA,Jk] at hi
 | .fn f a b,_,hi,r=>by
  have:=dX (l:=l) (h:=h) (n:=0) (fun k hk=>(ha k hk).1) (by simpa[lA] using hi) r
  simpa[lA] using this
 | .tup a,_,hi,r=>by
  have:=dX (l:=l) (h:=h) (n:=0) (fun k hk=>(ha k hk).1) (by simpa[lA] using hi) r
  simpa[lA] using this
 | .grd g a,_,hi,r=>by
  have:=dX (l:=l) (h:=h) (n:=0) (fun k hk=>(ha k hk).1) (by simpa[lA] using hi) r
  simpa[lA] using this
theorem o9(R:Rep Γ O w l h){av':Nat→Prop}(ha:∀k,av' k→avs O l h k∧¬sV l h k):∀{ds:List D} {ys:List Value},Ig 0 (wn h ds)=true→RelL w (avs O l h) l h ds ys→RelL w av' l [] (wn h ds) ys
 | [],[],_,_=>by simp[wn,RelL]
 | [],_::_,_,r=>by simp[RelL] at r
 | _::_,[],_,r=>by simp[RelL] at r
 | _::_,_::_,hi,r=>by
  simp only[wn,Ig,Hx] at hi
  simp only[wn,RelL] at r ⊢
  exact⟨Bp R ha hi.1 r.1,o9 R ha hi.2 r.2⟩
end
mutual
theorem uL{w':World}{av av':Nat→Prop}{l':Loc}{h':List Blk}:∀{d:D} {y:Value},j5 d=true→Rel w av l h d y→Rel w' av' l' h' d y
 | .p (.v _),_,_,r=>by simpa[Rel,RelP] using r
 | .agg cs,_,hf,r=>by
  simp only[j5] at hf
  simp only[Rel] at r ⊢
  obtain⟨vs,r1,r2⟩:=r
  exact⟨vs,r1,lC hf r2⟩
 | .tup cs,_,hf,r=>by
  simp only[j5] at hf
  simp only[Rel] at r ⊢
  obtain⟨vs,r1,r2⟩:=r
  exact⟨vs,r1,lC hf r2⟩
 | .p (.sl _),_,hf,_=>by simp[j5] at hf
 | .any,_,hf,_=>by simp[j5] at hf
 | .ref _,_,hf,_=>by simp[j5] at hf
 | .ep _,_,hf,_=>by simp[j5] at hf
 | .csl _,_,hf,_=>by simp[j5] at hf
 | .fn _ _ _,_,hf,_=>by simp[j5] at hf
 | .grd _ _,_,hf,_=>by simp[j5] at hf
theorem lC{w':World}{av av':Nat→Prop}{l':Loc}{h':List Blk}:∀{ds:List D} {ys:List Value},yk ds=true→RelL w av l h ds ys→RelL w' av' l' h' ds ys
 | [],[],_,_=>by simp[RelL]
 | [],_::_,_,r=>by simp[RelL] at r
 | _::_,[],_,r=>by simp[RelL] at r
 | _::_,_::_,hf,r=>by
  simp only[yk,Hx] at hf
  simp only[RelL] at r ⊢
  exact⟨uL hf.1 r.1,lC hf.2 r.2⟩
end
theorem Ev.frzArgs{f:FuncId}{args:List D}{d:D}(hi:Ig 0 (wn h args)=true)(hd:j5 d=true)(he:Ev P Γ f (wn h args) [] d []):Ev P Γ f args h d h:=by
 intro O w l vs R ra
 have Qc:∀l' k,avs (fun k=>avs O l h k∧¬sV l h k) l' [] k→avs O l h k∧¬sV l h k:=fun l' k ho=>ho.elim id (fun h=>absurd h cw)
 have R0:Rep Γ (fun k=>avs O l h k∧¬sV l h k) w l []:=by
  refine⟨fun bV ho=>absurd ho cw,fun bV ho=>?_,fun b b' x x' k c c' hb=>by simp at hb,fun b x hb=>by simp at hb,fun g cs hg=>?_⟩
  ·rcases ho.1 with ho|ho
   ·exact R.P2 bV ho
   ·exact(R.Ov bV ho).1
  ·exact aF (fun k hk=>(Qc l k hk).1) (R.Qd g cs hg)
 have ra0:=o9 (av':=avs (fun k=>avs O l h k∧¬sV l h k) l []) R (fun k hk=>Qc l k hk) hi ra
 refine JQ (he _ w l vs R0 ra0) ?_
 rintro e w' ⟨v,d2,h2,l',rfl,⟨rfl,rfl⟩,R',E',rd⟩
 have E:Ext w l h w' l h:=⟨E'.size,fun bV hb _=>E'.same bV hb cw,fun bV ho=>.inl ho,fun b x hx=>⟨x,hx,x.le_refl,fun _=>rfl⟩,E'.tape⟩
 refine⟨v,d2,h,l,rfl,⟨rfl,rfl⟩,⟨fun bV ho=>⟨JH (R.Ov bV ho).1 E'.size,(R.Ov bV ho).2⟩,fun bV ho=>JH (R.P2 bV ho) E'.size,R.inj,fun b x hx=>?_,fun g cs hg=>?_⟩,E,uL hd rd⟩
 ·by_cases hg:x=.gone
  ·subst hg;trivial
  exact BlkOk.ext E rfl (fun bV cp hl=>E'.same bV (R.Ov bV ⟨b,x,cp,hx,hg,hl⟩).1 cw) (R.bV b x hx)
 ·exact Lh E.hc g 0 cs (R.Qd g cs hg)
end
end Go.Vi
