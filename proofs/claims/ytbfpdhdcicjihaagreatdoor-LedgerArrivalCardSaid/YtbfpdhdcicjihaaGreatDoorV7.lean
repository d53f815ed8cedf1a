/- LedgerArrival: part of the proof: an evaluator of the model's programs on abstract values, and its soundness. No conditions beyond the given statement's own. -/
import Derived.Test.YtbfpdhdcicjihaaGreatDoorV6
open Decidable renaming decide → Qd
open List renaming all_cons → JR, getElem?_eq_some_iff → G9, getElem?_append_left → HF, getElem?_eq_none → Jr, getElem?_set_ne → KH, all_eq_true → Hs, mem_map → HS, mem_filter → J7, mk_mem_zipIdx_iff_getElem? → ID, range → H7, mem_cons → HB, filter_eq_nil_iff → JJ, mem_append → HN
open Bool renaming and_eq_true → G6, false_eq_true → HO, not_eq_true' → IB, eq_false_iff → Js
open Go.Vi.Blk renaming inn → Ho, mapR → Jc, vec → J1
open Go.Vi.D renaming mapRL → HP
open Option renaming map_some → HD, map_eq_some_iff → Ha, getD_some → Ij
open Nat renaming le_refl → Hq, le_succ → I5
open Option.some renaming injEq → G0
open Prod.mk renaming injEq → G4
open Go.Vi.DefOk renaming mono → KY
open Go.Region renaming binds → H6, ready → I3, wanted → HX
open Array renaming getD_eq_getD_getElem? → HM, getElem?_eq_getElem → HQ, all_eq_true_iff_forall_mem → IY, replicate → II
open Classical renaming byContradiction → H2
open Go.Vi.St renaming unfix → Np
namespace Go.Vi
open Go
inductive SOp where
 | mask (ks:List Nat)
 | trim (k:Nat)
 | trimV (k:Nat)
 | frz (b:Nat) (rows:List (List Dp))
 | ren (b k:Nat)
 | nilT (i sz:Nat)
 | nilC (b off sz:Nat)
def AllP:List Prop→Prop
 | []=>True
 | p::ps=>p∧AllP ps
theorem AllP.n:AllP []:=trivial
theorem AllP.c{p:Prop}{ps:List Prop}(h:p)(hs:AllP ps):AllP (p::ps):=⟨h,hs⟩
theorem AllP.e{ps:List Prop}(d:D)(hs:AllP ps):AllP ((d=d)::ps):=⟨rfl,hs⟩
theorem AllP.f{ps:List Prop}(hs:AllP ps):AllP (((false==true)=false)::ps):=⟨rfl,hs⟩
theorem AllP.er{α:Type}{ps:List Prop}(x:α)(hs:AllP ps):AllP ((x=x)::ps):=⟨rfl,hs⟩
theorem AllP.append{ps qs:List Prop}(h:AllP (ps++qs)):AllP ps∧AllP qs:=by
 induction ps with
 | nil=>exact⟨trivial,h⟩
 | cons p ps ih=>exact⟨⟨h.1,(ih h.2).1⟩,(ih h.2).2⟩
def xh(x:Nat):List Nat→Bool
 | []=>false
 | y::ys=>x==y||xh x ys
theorem eL{x:Nat}:∀{ys:List Nat},xh x ys=true ↔ x∈ys
 | []=>by simp[xh]
 | y::ys=>by simp[xh,eL (ys:=ys)]
def sk(ks:List Nat):Nat→List D→List D
 | _,[]=>[]
 | i,d::ds=>(match xh i ks with|true=>d|false=>.any)::sk ks (i+1) ds
theorem oW(ks:List Nat):∀(i:Nat) (t:List D),(sk ks i t).length=t.length∧∀x,Wk (t.getD x .any) ((sk ks i t).getD x .any)
 | _,[]=>⟨rfl,fun x=>Wk.refl _⟩
 | i,d::ds=>by
  obtain⟨h1,h2⟩:=oW ks (i+1) ds
  refine⟨by simp[sk,h1],fun x=>?_⟩
  cases x with
  | zero =>
   simp only[sk,List.getD_cons_zero]
   split
   ·exact Wk.refl _
   ·exact fun _ _ _ _ _ _=>by simp[Rel]
  | succ x=>simpa[sk] using h2 x
def xi(ks:List Nat)(s:AS):AS:={t:=sk ks 0 s.t,h:=s.h,m:=s.m}
theorem DefOk.take{D0:List Deferred}{l:Loc}{h:List Blk}{k:Nat}:∀{bs:List Nat} {ds:List Deferred},(bs.all fun b=>Qd (b<k))=true→DefOk D0 l h bs ds→DefOk D0 l (h.take k) bs ds
 | [],_,_,r=>r
 | b::bs,d::ds,hb,r=>by
  simp only[DefOk,JR,G6,decide_eq_true_eq] at r hb ⊢
  obtain⟨⟨blk,cp,h1,h2,h3⟩,h4⟩:=r
  exact⟨⟨blk,cp,by rw[take_get hb.1];exact h1,h2,h3⟩,DefOk.take (by simpa using hb.2) h4⟩
 | _::_,[],_,r=>by simp[DefOk] at r
theorem Ext.takeN{w0 w:World}{l0 l:Loc}{h0 h:List Blk}{k:Nat}(hk:h0.length≤k)(E:Ext w0 l0 h0 w l h):Ext w0 l0 h0 w l (h.take k) where
 size:=E.size
 same:=E.same
 news blk ho:=E.news blk (kj ho)
 keep b x hb:=by
  have:b<h0.length:=by
   rw[G9] at hb
   exact hb.1
  rw[take_get (by omega)]
  exact E.keep b x hb
 tape:=E.tape
def Blk.innC(k:Nat):Blk→Bool
 | .vec _ _ _=>true
 | .map _ _=>true
 | x=>Ho k x
def Blk.innP(k:Nat):Blk→List Prop
 | .vec es _ _=>[es.all (D.innL k)=true]
 | .map kvs _=>[(kvs.all fun e=>D.inn k e.1&&D.inn k e.2.1)=true]
 | _=>[]
def lB(k:Nat):List Blk→List Prop
 | []=>[]
 | x::xs=>Blk.innP k x++lB k xs
theorem xj{k:Nat}{x:Blk}(h1:Blk.innC k x=true)(h2:AllP (Blk.innP k x)):Ho k x=true:=by
 cases x<;>first|exact h1|exact h2.1
theorem tB{k:Nat}:∀{h:List Blk},h.all (Blk.innC k)=true→AllP (lB k h)→h.all (Ho k)=true
 | [],_,_=>rfl
 | x::xs,h1,h2=>by
  simp only[JR,G6] at h1 ⊢
  simp only[lB] at h2
  obtain⟨p1,p2⟩:=h2.append
  exact⟨xj h1.1 p1,tB h1.2 p2⟩
def trimC(k:Nat)(s:AS):Option AS:=match D.innL k s.t&&(s.h.take k).all (Blk.innC k)&&s.m.all (fun b=>Qd (b<k)) with
 | true=>some {t:=s.t,h:=s.h.take k,m:=s.m}
 | false=>none
def lC(f:Ref→D):Blk→List Prop
 | .vec es _ _=>[es.map (HP f)=es]
 | .map kvs _=>[kvs.map (fun e=>(D.mapR f e.1,D.mapR f e.2.1,e.2.2))=kvs]
 | _=>[]
def keepX(f:Ref→D):Blk→Blk
 | .vec es e sz=>.vec es e sz
 | .map kvs c=>.map kvs c
 | x=>x.mapR f
theorem im{f:Ref→D}{x:Blk}(h:AllP (lC f x)):keepX f x=x.mapR f:=by
 cases x<;>simp only[keepX,Jc]
 ·rw[h.1]
 ·rw[h.1]
def qE(f:Ref→D)(b:Nat)(xb:Blk):Nat→List Blk→List Blk
 | _,[]=>[]
 | i,x::xs=>(match i==b with|true=>xb|false=>keepX f x)::qE f b xb (i+1) xs
def vu(f:Ref→D)(b:Nat):Nat→List Blk→List Prop
 | _,[]=>[]
 | i,x::xs=>(match i==b with|true=>[]|false=>lC f x)++vu f b (i+1) xs
theorem qF{f:Ref→D}{b:Nat}{xb:Blk}:∀(i:Nat) (h:List Blk),AllP (vu f b i h)→∀j,(qE f b xb i h)[j]? = if i+j=b then (h[j]?).map (fun _=>xb) else (h[j]?).map (Jc f)
 | i,[],_,j=>by simp[qE]
 | i,x::xs,hp,j=>by
  simp only[vu] at hp
  obtain⟨p1,p2⟩:=hp.append
  cases j with
  | zero =>
   simp only[qE,List.getElem?_cons_zero,Nat.add_zero,HD]
   by_cases hi:i=b
   ·simp[hi]
   ·have:(i==b)=false:=by simpa using hi
    rw[this] at p1 ⊢
    simp[hi,im p1]
  | succ j =>
   simp only[qE,List.getElem?_cons_succ]
   rw[qF (i+1) xs p2 j]
   rw[show i+1+j=i+(j+1) by omega]
theorem tC{f:Ref→D}{b:Nat}{xb x0:Blk}{h:List Blk}(hb:h[b]? = some x0)(hp:AllP (vu f b 0 h)):qE f b xb 0 h=mapH f b xb h:=by
 apply List.ext_getElem?
 intro j
 rw[qF 0 h hp j]
 by_cases hj:j=b
 ·subst hj;rw[lA hb,hb];simp
 ·rw[fA hj,if_neg (by omega)]
def CZ(k:Nat):List Blk→List Prop
 | []=>[]
 | x::xs=>(Ho k x=true)::CZ k xs
theorem tD{k:Nat}:∀{h:List Blk},AllP (CZ k h)→h.all (Ho k)=true
 | [],_=>rfl
 | x::xs,h=>by
  simp only[JR,G6]
  exact⟨h.1,tD h.2⟩
def B8(k:Nat)(s:AS):Option AS:=match D.innL k s.t&&s.m.all (fun b=>Qd (b<k)) with
 | true=>some {t:=s.t,h:=s.h.take k,m:=s.m}
 | false=>none
def renOk(h0:List Blk)(b k:Nat):Bool:=match h0[b]? with
 | some (.vec _ e0 _)=>Qd (e0<k)
 | some _=>false
 | none=>true
def isNil:D→Bool
 | .p (.v (.slice none 0 0))=>true
 | _=>false
def SOp.app(h0:List Blk):SOp→AS→Option (AS×List Prop)
 | .mask ks,s=>some (xi ks s,[])
 | .trim k,s=>match Qd (h0.length≤k) with
  | true=>match trimC k s with
   | some s'=>some (s',lB k (s.h.take k))
   | none=>none
  | false=>none
 | .trimV k,s=>match Qd (h0.length≤k) with
  | true=>match B8 k s with
   | some s'=>some (s',CZ k (s.h.take k))
   | none=>none
  | false=>none
 | .frz b rows,s=>match s.h[b]? with
  | some (.vec es e _)=>some ({t:=HP (qD b e rows) s.t,h:=qE (qD b e rows) b .gone 0 s.h,m:=s.m},(es=rows.map (·.map .p))::vu (qD b e rows) b 0 s.h)
  | _=>none
 | .ren b k,s=>match s.h[b]? with
  | some (.vec es e sz)=>match renOk h0 b k with
   | true=>some ({t:=HP (cX b e k) s.t,h:=qE (cX b e k) b (.vec es k sz) 0 s.h,m:=s.m},(es.map (HP (cX b e k))=es)::vu (cX b e k) b 0 s.h)
   | false=>none
  | _=>none
 | .nilT i sz,s=>match isNil (s.t.getD i .any)&&marksOk (s.h++[J1 [] 0 sz]) s.m with
  | true=>some ({t:=s.t.set i (.ref (.vec s.h.length 0)),h:=s.h++[J1 [] 0 sz],m:=s.m},[])
  | false=>none
 | .nilC b off sz,s=>match s.h[b]? with
  | some (.var cs)=>match isNil (cs.getD off .any)&&(marksOk (s.h++[J1 [] 0 sz]) s.m&&marksOk ((s.h++[J1 [] 0 sz]).set b (.var (cs.set off (.ref (.vec s.h.length 0))))) s.m) with
   | true=>some ({t:=s.t,h:=(s.h++[J1 [] 0 sz]).set b (.var (cs.set off (.ref (.vec s.h.length 0)))),m:=s.m},[])
   | false=>none
  | _=>none
section
variable {Γ:ae} {X:Ctx} {s s':AS} {a:Act} {w:World}
theorem DefOk.mapH{D0:List Deferred}{l:Loc}{h:List Blk}{f:Ref→D}{b:Nat}{xb x0:Blk}(hb:h[b]? = some x0)(hd:x0 ≠ .defd):∀{bs:List Nat} {ds:List Deferred},DefOk D0 l h bs ds→DefOk D0 l (mapH f b xb h) bs ds
 | [],_,r=>r
 | i::bs,d::ds,r=>by
  simp only[DefOk] at r ⊢
  obtain⟨⟨blk,cp,h1,h2,h3⟩,h4⟩:=r
  refine⟨⟨blk,cp,?_,h2,h3⟩,DefOk.mapH hb hd h4⟩
  by_cases hi:i=b
  ·subst hi;rw[hb] at h1;cases h1;exact absurd rfl hd
  ·rw[fA hi,h1];rfl
 | _::_,[],r=>by simp[DefOk] at r
theorem lD{w:World}{av:Nat→Prop}{l:Loc}{h:List Blk}{d:D}:∀{t:List D} {ys:List Value} (i:Nat),RelL w av l h t ys→(∀y,Rel w av l h (t.getD i .any) y→Rel w av l h d y)→RelL w av l h (t.set i d) ys
 | [],[],_,_,_=>by simp[RelL]
 | [],_::_,_,r,_=>by simp[RelL] at r
 | _::_,[],_,r,_=>by simp[RelL] at r
 | x::xs,y::ys,0,r,hd=>by
  simp only[RelL,List.set_cons_zero] at r ⊢
  exact⟨hd y r.1,r.2⟩
 | x::xs,y::ys,i+1,r,hd=>by
  simp only[RelL,List.set_cons_succ] at r ⊢
  exact⟨r.1,lD i r.2 (by simpa using hd)⟩
theorem tE{w0:World}{l0 l:Loc}{h0 h:List Blk}{O:Nat→Prop}(sz:Nat)(R:Rep Γ O w l h)(E:Ext w0 l0 h0 w l h):
  ∃l',Rep Γ O w l' (h++[J1 [] 0 sz])∧Ext w0 l0 h0 w l' (h++[J1 [] 0 sz])∧Ext w l h w l' (h++[J1 [] 0 sz])∧l' h.length=none:=by
 obtain⟨R',E'⟩:=Rep.step (l':=fun k=>if k=h.length then none else l k) (h':=h++[J1 [] 0 sz]) R h.length (.vec [] 0 sz) (Hq _) ⟨rfl,rfl,rfl,(by first|exact Hq _|exact I5 _)⟩
  (fun b hb=>by
   by_cases hlt:b<h.length
   ·rw[HF hlt]
   ·rw[Jr (by simp;omega),Jr (by omega)])
  (by simp) (fun b hb=>by simp[hb]) (fun x hx=>by simp at hx) (fun _ _ _=>rfl) (fun k c hk=>by simp at hk) (fun _=>by simp[BlkOk])
 exact⟨_,R',E.trans E',E',by simp⟩
theorem qG{w:World}{av:Nat→Prop}{l:Loc}{h:List Blk}{d:D}{y:Value}(hd:isNil d=true)(r:Rel w av l h d y):y=.slice none 0 0:=by
 unfold isNil at hd
 split at hd
 ·simpa[Rel,RelP] using r
 ·simp at hd
theorem xk{w:World}{av:Nat→Prop}{l:Loc}{h:List Blk}{b sz:Nat}(hb:h[b]? = some (.vec [] 0 sz))(hl:l b=none):Rel w av l h (.ref (.vec b 0)) (.slice none 0 0):=by
 simp only[Rel]
 unfold RefRel
 simp only[hb]
 refine⟨by simp[Value.oneCell'],Hq _,fun _=>?_⟩
 rw[hl]
 exact⟨rfl,rfl⟩
theorem SOp.sound{o:SOp}{φ:List Prop}(ha:o.app X.h s=some (s',φ))(hp:AllP φ)(hs:St Γ X s a w):St Γ X s' a w:=by
 cases o with
 | mask ks =>
  simp only[SOp.app,G0,G4] at ha
  obtain⟨rfl,_⟩:=ha
  obtain⟨k1,k2⟩:=oW ks 0 s.t
  exact hs.wk k1 k2
 | trim k =>
  simp only[SOp.app] at ha
  split at ha
  case h_2=>simp at ha
  rename_i hk
  split at ha
  case h_2=>simp at ha
  rename_i s1 ht
  simp only[G0,G4] at ha
  obtain⟨rfl,rfl⟩:=ha
  unfold trimC at ht
  split at ht
  case h_2=>simp at ht
  rename_i hb
  simp only[G6] at hb
  cases ht
  obtain⟨l,R,E,rt,rd⟩:=hs
  exact⟨l,R.take (tB hb.1.2 hp),E.takeN (by simpa using hk),bG (fun _=>fS) hb.1.1 rt,rd.take hb.2⟩
 | trimV k =>
  simp only[SOp.app] at ha
  split at ha
  case h_2=>simp at ha
  rename_i hk
  split at ha
  case h_2=>simp at ha
  rename_i s1 ht
  simp only[G0,G4] at ha
  obtain⟨rfl,rfl⟩:=ha
  unfold B8 at ht
  split at ht
  case h_2=>simp at ht
  rename_i hb
  simp only[G6] at hb
  cases ht
  obtain⟨l,R,E,rt,rd⟩:=hs
  exact⟨l,R.take (tD hp),E.takeN (by simpa using hk),bG (fun _=>fS) hb.1 rt,rd.take hb.2⟩
 | frz b rows =>
  simp only[SOp.app] at ha
  split at ha
  case h_2=>simp at ha
  rename_i es e sz hb
  simp only[G0,G4] at ha
  obtain⟨rfl,rfl⟩:=ha
  obtain⟨rfl,hp⟩:=hp
  obtain⟨l,R,E,rt,rd⟩:=hs
  refine⟨l,?_⟩
  simp only[tC hb hp]
  have hf:=fun (r:Ref) (y:Value) (rr:RefRel l s.h r y)=>CX R hb rr (f:=qD b e rows)
  refine⟨R.mapH hb (by simp) hf (by simp[BlkOk]) (fun y hr=>?_),E.mapH hb (by simp) (fun x _ _=>⟨by cases x<;>simp[Blk.le],fun h=>by cases x<;>simp[Blk.stays] at h⟩),
   bQ (fun _ ho=>il hb (by simp) ho) hf rt,rd.mapH hb (by simp)⟩
  unfold RefRel at hr
  simp[hb] at hr
 | ren b k =>
  simp only[SOp.app] at ha
  split at ha
  case h_2=>simp at ha
  rename_i es e sz hb
  split at ha
  case h_2=>simp at ha
  rename_i hk
  simp only[G0,G4] at ha
  obtain⟨rfl,rfl⟩:=ha
  obtain⟨he,hp⟩:=hp
  obtain⟨l,R,E,rt,rd⟩:=hs
  refine⟨l,?_⟩
  simp only[tC hb hp]
  have hm:∀y,¬RefRel l s.h (.mp b) y:=fun y hr=>by
   unfold RefRel at hr
   simp[hb] at hr
  have ha':∀k',avs X.O l (mapH (cX b e k) b (.vec es k sz) s.h) k'→avs X.O l s.h k':=fun _ ho=>il hb (by simp) ho
  have hf:∀(r:Ref) (y:Value),RefRel l s.h r y→Rel w (avs X.O l (mapH (cX b e k) b (.vec es k sz) s.h)) l (mapH (cX b e k) b (.vec es k sz) s.h) (cX b e k r) y :=
   fun r y rr=>CY rfl hb rr
  have hbk:=nz ha' hf (fun c y hr=>by
    by_cases hc:c=b
    ·subst hc;exact absurd hr (hm y)
    ·exact eK (by simpa[Ref.blk] using hc) hr) (R.blk b _ hb)
  simp only[Jc,he] at hbk
  refine⟨R.mapH hb (by simp) hf (by unfold BlkOk at hbk ⊢;exact hbk) hm,E.mapH hb (by simp) (fun x hx hle=>?_),bQ ha' hf rt,rd.mapH hb (by simp)⟩
  unfold renOk at hk
  rw[hx] at hk
  cases x with
  | vec es0 e0 sz0 =>
   simp only[decide_eq_true_eq] at hk
   simp only[Blk.le] at hle ⊢
   simp only[Blk.stays]
   exact⟨⟨by omega,fun h=>by omega,hle.2.2⟩,fun h=>by omega⟩
  | _=>simp at hk
 | nilT i sz =>
  simp only[SOp.app] at ha
  split at ha
  case h_2=>simp at ha
  rename_i hn
  simp only[G6] at hn
  simp only[G0,G4] at ha
  obtain⟨rfl,_⟩:=ha
  obtain⟨l,R,E,rt,rd⟩:=hs
  obtain⟨l',R',E',E2,hl⟩:=tE sz R E
  refine⟨l',R',E',?_,KY E2.keep hn.2 rd⟩
  have rt':=E2.relL rt
  refine lD i rt' fun y hy=>?_
  obtain rfl:=qG hn.1 hy
  exact xk (sz:=sz) (by simp) hl
 | nilC b off sz =>
  simp only[SOp.app] at ha
  split at ha
  case h_2=>simp at ha
  rename_i cs hb
  split at ha
  case h_2=>simp at ha
  rename_i hn
  simp only[G6] at hn
  simp only[G0,G4] at ha
  obtain⟨rfl,_⟩:=ha
  obtain⟨l,R,E,rt,rd⟩:=hs
  obtain⟨l',R',E',E2,hl⟩:=tE sz R E
  have hlt:=(G9.1 hb).1
  have hb':(s.h++[J1 [] 0 sz])[b]? = some (.var cs):=by rw[HF hlt];exact hb
  obtain⟨R3,E3⟩:=Rep.step (w':=w) (l':=l') (h':=(s.h++[J1 [] 0 sz]).set b (.var (cs.set off (.ref (.vec s.h.length 0))))) R' b (.var (cs.set off (.ref (.vec s.h.length 0)))) (Hq _) ⟨rfl,rfl,rfl,(by first|exact Hq _|exact I5 _)⟩
   (fun i hi=>by rw[KH (Ne.symm hi)]) (by rw[List.getElem?_set_self (by simp;omega)]) (fun _ _=>rfl) (fun x hx=>by rw[hb'] at hx;cases hx;simp[Blk.le])
   (fun _ _ _=>rfl) (fun k c hk=>.inl ⟨_,c,hb',by simp,hk⟩) (fun E3=>by
    obtain⟨blk,cp,c,T,q1,q2,q3⟩:=R'.blk b _ hb'
    refine⟨blk,cp,c,T,q1,q2,lD off (E3.relL q3) fun y hy=>?_⟩
    obtain rfl:=qG hn.1 hy
    refine xk (sz:=sz) ?_ hl
    rw[KH (by omega)]
    simp)
  exact⟨l',R3,E'.trans E3,E3.relL (E2.relL rt),KY E3.keep hn.2.2 (KY E2.keep hn.2.1 rd)⟩
end
def notRef:D→Bool
  | .ref _=>false
  | _=>true
def heapless:Op→Bool
  | .move _ | .assign _ | .pick .. | .build .. | .binOp .. | .unOp .. | .convert .. | .makeFunc .. | .field .. | .index .. | .extract .. | .makeInterface .. | .typeAssert ..=>true
  | .call {callee:=.builtin b,.. }=>match b with
    | .max | .min=>true
    | _=>false
  | _=>false
section
variable {P:Program} {Γ:ae} {t:List D} {h:List Blk}
theorem bR{o:Op}(ho:heapless o=true){ok:Bool}{d:D}{h':List Blk}(hs:opSem P Γ t h o=some (ok,d,h'))(g:List Blk):∃g',opSem P Γ t g o=some (ok,d,g'):=by
  cases o<;>simp only[heapless,HO] at ho<;>simp only[opSem,Ha,keep,keepB,G4,G0] at hs ⊢
  case call c =>
    obtain⟨callee,args,ats⟩:=c
    cases callee with
    | builtin b =>
      cases b<;>simp only[HO] at ho<;>simp only[] at hs ⊢ <;> unfold builtinD at hs ⊢ <;> split at hs<;>simp_all[keep]<;>(obtain⟨a,h1,h2,h3,_⟩:=hs;exact⟨g,a,h1,h2,h3,rfl⟩)
    | _=>simp[] at ho
  case binOp op ty x y yt =>
    split at hs
    · simp only[G0,G4] at hs ⊢
      exact⟨g,hs.1,hs.2.1,rfl⟩
    · split at hs
      · simp only[G0,G4] at hs ⊢
        exact⟨g,hs.1,hs.2.1,rfl⟩
      · simp only[Ha,keep,G4] at hs ⊢
        obtain⟨a,h1,h2,h3,_⟩:=hs
        exact⟨g,a,h1,h2,h3,rfl⟩
  case extract x i =>
    split at hs
    · simp only[Ha,keep,G4] at hs ⊢
      obtain⟨a,h1,h2,h3,_⟩:=hs
      exact⟨g,a,h1,h2,h3,rfl⟩
    · simp at hs
  all_goals first
    | (obtain⟨h1,h2,_⟩:=hs;exact⟨g,h1,h2,rfl⟩)
    | (obtain⟨a,h1,h2,h3,_⟩:=hs;exact⟨g,a,h1,h2,h3,rfl⟩)
theorem qH{ty:TypeId}{x:D}(hx:notRef x=true)(g:List Blk):aD P g ty x=aD P h ty x:=by
  cases x<;>first|rfl|simp[notRef] at hx
theorem lE{x:D}(hx:notRef x=true)(g:List Blk):lenD g x=lenD h x:=by
  cases x with
  | p y =>
    unfold lenD
    split<;>first|rfl|simp_all
  | fn f a c=>cases f<;>rfl
  | ref r=>simp[notRef] at hx
  | _=>rfl
theorem jQ{n:Nat}{x:D}(hx:notRef x=true)(g:List Blk):pR g n x=pR h n x:=by
  cases x<;>first|rfl|simp[notRef] at hx
theorem j7{x:D}(hx:notRef x=true)(g:List Blk):cS g x=cS h x:=by
  cases x with
  | p y =>
    unfold cS
    split<;>first|rfl|simp_all
  | fn f a c=>cases f<;>rfl
  | ref r=>simp[notRef] at hx
  | _=>rfl
theorem qI{x:D}(hx:notRef x=true)(g:List Blk):j4 g x=j4 h x:=by
  cases x with
  | p y =>
    unfold j4
    split<;>first|rfl|simp_all
  | fn f a c=>cases f<;>rfl
  | ref r=>simp[notRef] at hx
  | _=>rfl
theorem oX{x:D}(hx:notRef x=true)(g:List Blk):m9 g x=m9 h x:=by
  cases x<;>first|rfl|simp[notRef] at hx
theorem lG{x:D}{sz n:Nat}{l u:Int}{mx:Option Int}(hx:notRef x=true)(g:List Blk):sliceRow g x sz n l u mx=sliceRow h x sz n l u mx:=by
  cases x with
  | p y =>
    unfold sliceRow
    split<;>first|rfl|simp_all
  | fn f a c=>cases f<;>rfl
  | ref r=>simp[notRef] at hx
  | _=>rfl
theorem qJ{x:D}{sz:Nat}{lo hi mx:Option D}(hx:notRef x=true)(g:List Blk):oy g x sz lo hi mx=none:=by
  cases x<;>first|rfl|simp[notRef] at hx
theorem lH{x:D}{len:Nat}{e:TypeId}{l:Int}{hi:Option D}{mx:Option Int}(hx:notRef x=true)(g:List Blk):eu P g len e x l hi mx=eu P h len e x l hi mx:=by
  cases x<;>first|rfl|simp[notRef] at hx
theorem qK{ty:TypeId}{x:D}(hx:notRef x=true)(g:List Blk):jb P g ty x=jb P h ty x:=by
  unfold jb
  simp only[lE (h:=h) hx g]
  cases P.underlying ty with
  | none=>rfl
  | some ud =>
    cases ud<;>first
      | rfl
      | (dsimp only
         cases x with
         | p y =>
           split<;>first|rfl|simp_all
         | ref r=>simp[notRef] at hx
         | _=>rfl)
def headOf:Op→Option Operand
  | .load _ a=>some a
  | .nilCheck x=>some x
  | .slice _ x _ _ _=>some x
  | .fieldAddr _ x _=>some x
  | .indexAddr _ x _=>some x
  | .lookup _ x _ _=>some x
  | .entry x=>some x
  | .call {callee:=.builtin .len,args,.. }=>match args.toList with
    | [x]=>some x
    | _=>none
  | _=>none
theorem cT{o:Op}(hq:quietOp o=true){x:Operand}(hx:headOf o=some x)(hn:notRef (evalD Γ t x)=true){ok:Bool}{d:D}{h':List Blk}(hs:opSem P Γ t h o=some (ok,d,h'))(g:List Blk):∃g',opSem P Γ t g o=some (ok,d,g'):=by
  cases o<;>simp only[headOf,G0,reduceCtorEq] at hx
  case load ty a =>
    subst hx
    simp only[opSem,Ha,keep,G4] at hs ⊢
    obtain⟨a,h1,h2,h3,_⟩:=hs
    exact⟨g,a,by rw[qH (h:=h) hn];exact h1,h2,h3,rfl⟩
  case nilCheck a =>
    subst hx
    simp only[opSem,Ha,keep,G4] at hs ⊢
    obtain⟨a,h1,h2,h3,_⟩:=hs
    exact⟨g,a,by rw[j7 (h:=h) hn];exact h1,h2,h3,rfl⟩
  case slice ty a lo hi mx =>
    subst hx
    simp only[opSem,Ha,keepB,G4] at hs ⊢
    obtain⟨a,h1,h2,h3,_⟩:=hs
    refine⟨g,a,?_,h2,h3,rfl⟩
    unfold cW at h1 ⊢
    simp only[lE (h:=h) hn g,lG (h:=h) hn g,lH (h:=h) hn g,qJ hn] at h1 ⊢
    exact h1
  case fieldAddr s a f =>
    subst hx
    simp only[opSem,Ha,keep,G4] at hs ⊢
    obtain⟨a,h1,h2,h3,_⟩:=hs
    refine⟨g,a,?_,h2,h3,rfl⟩
    unfold dW at h1 ⊢
    simp only[jQ (h:=h) hn g]
    exact h1
  case indexAddr ty a i =>
    subst hx
    simp only[opSem,Ha,keepB,G4] at hs ⊢
    obtain⟨r,h1,h2,h3,_⟩:=hs
    refine⟨g,r,?_,h2,h3,rfl⟩
    rw[←h1]
    generalize evalD Γ t a=y at hn
    unfold aJ
    simp only[jQ (h:=h) hn g]
    cases intOf? (evalD Γ t i) with
    | none=>rfl
    | some ki =>
      cases P.underlying ty with
      | none=>rfl
      | some ud =>
        cases ud<;>first
          | rfl
          | (rename_i e
             dsimp only
             cases szOf P e<;>cases y with
               | p z=>cases z<;>rfl
               | ref r=>simp[notRef] at hn
               | _=>rfl)
  case lookup ty a k ok' =>
    subst hx
    simp only[opSem,Ha,keep,G4] at hs ⊢
    obtain⟨a,h1,h2,h3,_⟩:=hs
    refine⟨g,a,?_,h2,h3,rfl⟩
    unfold aX at h1 ⊢
    simp only[qI (h:=h) hn g]
    exact h1
  case entry a =>
    subst hx
    simp only[opSem,Ha,keep,G4] at hs ⊢
    obtain⟨a,h1,h2,h3,_⟩:=hs
    exact⟨g,a,by rw[oX (h:=h) hn];exact h1,h2,h3,rfl⟩
  case call c =>
    obtain⟨callee,args,ats⟩:=c
    cases callee with
    | builtin b =>
      cases b<;>simp only[reduceCtorEq] at hx
      split at hx
      · rename_i y hy
        cases hx
        simp only[opSem,hy,List.map_cons,List.map_nil] at hs ⊢
        unfold builtinD at hs ⊢
        split at hs
        all_goals first
          | (simp only[Ha] at hs ⊢
             obtain⟨a,h1,h2⟩:=hs
             simp only[keep,G4] at h2 ⊢
             obtain⟨h2,h3,_⟩:=h2
             exact⟨g,a,by rw[qK (h:=h) (by simp_all)];exact h1,h2,h3,rfl⟩)
          | simp_all
      · simp at hx
    | _=>simp[] at hx
end
def B9(x:Nat):List Nat→Bool
 | []=>false
 | y::ys=>x==y||B9 x ys
def cg(F:List Nat)(i:Nat)(o:Oper):Bool:=quietOp o.op||B9 i F
structure DrawOkF (F:List Nat) (L:List Oper) (B:List Nat):Prop where
 self:∀(i:Nat) (o:Oper),L[i]? = some o→(B.getD i 0).testBit i=false
 edge:∀(i:Nat) (o:Oper),L[i]? = some o→∀e∈o.after.toList,H6 .any e=true→e.on<i
 uniq:∀(i k:Nat) (o o':Oper) (x:Tmp),L[i]? = some o→L[k]? = some o'→o.dst=some x→o'.dst=some x→i=k
 oper:∀(i:Nat) (o:Oper) (x:Tmp),L[i]? = some o→x∈bP L o→∀(k:Nat) (o':Oper),L[k]? = some o'→o'.dst=some x→(B.getD i 0).testBit k=true∨(B.getD k 0).testBit i=true
 chain:∀(i k:Nat) (o o':Oper),L[i]? = some o→L[k]? = some o'→i<k→cg F i o=false→cg F k o'=false→(B.getD k 0).testBit i=true
def tG(F:List Nat)(L:List Oper)(B:List Nat):Bool :=
 L.zipIdx.all fun p=>!(B.getD p.2 0).testBit p.2&&(
  (p.1.after.toList.all fun e=>!H6 .any e||Qd (e.on<p.2)) &&
  (L.zipIdx.all fun q=>(p.2==q.2||p.1.dst.isNone||!(p.1.dst==q.1.dst)) &&
   (!Qd (q.2<p.2)||cg F q.2 q.1||cg F p.2 p.1||(B.getD p.2 0).testBit q.2)) &&
  ((bP L p.1).all fun x=>L.zipIdx.all fun q=>!(q.1.dst==some x)||(B.getD p.2 0).testBit q.2||(B.getD q.2 0).testBit p.2))
theorem vv{F:List Nat}{L:List Oper}{B:List Nat}(h:tG F L B=true):DrawOkF F L B where
 self i o ho:=by
  have:=aQ h ho
  simp only[G6] at this
  simpa using this.1
 edge i o ho e he hb:=by
  have:=aQ h ho
  simp only[G6] at this
  have:=Hs.1 this.2.1.1 e he
  simpa[hb] using this
 uniq i k o o' x ho ho' hd hd':=by
  have:=aQ h ho
  simp only[G6] at this
  have:=aQ this.2.1.2 ho'
  simp only[G6] at this
  have:=this.1
  simpa[hd,hd'] using this
 oper i o x ho hx k o' ho' hd:=by
  have:=aQ h ho
  simp only[G6] at this
  have:=Hs.1 this.2.2 x hx
  have:=aQ this ho'
  simpa[hd,Bool.or_assoc] using this
 chain i k o o' ho ho' hik hq hq':=by
  have:=aQ h ho'
  simp only[G6] at this
  have:=aQ this.2.1.2 ho
  simp only[G6] at this
  have:=this.2
  simpa[hik,hq,hq'] using this
def fB(F:List Nat)(L:List Oper):List Nat:=(L.zipIdx.filter fun p=>!cg F p.2 p.1).map (·.2)
def gJ(F:List Nat)(L:List Oper)(B:List Nat)(i k:Nat):Bool:=(fB F L).all fun c=>if c<k then !(B.getD c 0).testBit i else !(B.getD i 0).testBit c
def eY(F:List Nat)(L:List Oper):List Nat:=0::(fB F L).map (· + 1)
theorem sm{F:List Nat}{L:List Oper}{c:Nat}{o:Oper}(ho:L[c]? = some o)(hq:cg F c o=false):c∈fB F L:=by
 unfold fB
 rw[HS]
 exact⟨(o,c),by rw[J7,ID];exact⟨ho,by simp[hq]⟩,rfl⟩
theorem dS{F:List Nat}{L:List Oper}{c:Nat}(h:c∈fB F L):∃o,L[c]? = some o∧cg F c o=false:=by
 unfold fB at h
 rw[HS] at h
 obtain⟨⟨o,i⟩,h1,rfl⟩:=h
 rw[J7,ID] at h1
 exact⟨o,h1.1,by simpa using h1.2⟩
def tH(P:Program)(Γ:ae)(F:List Nat)(L:List Oper)(B:List Nat)(tF:List D)(hs:List (List Blk))(ts:List (List D)):Prop :=
 ∀(i:Nat) (o:Oper),L[i]? = some o→cg F i o=true→(∃f,FixOk f∧aI L ((ts.getD i []).map f) o.guard=some true)→∀k∈eY F L,gJ F L B i k=true →
  ∃f d,FixOk f∧OpOk P Γ ((ts.getD i []).map f) (hs.getD k []) o.op d (hs.getD k [])∧∀x,o.dst=some x→Wk d (tF.getD x .any)
section
variable {P:Program} {Γ:ae} {X:Ctx} {r:Option Nat} {call:CallF} {ops:Array Oper} {m:List Nat} {t0 tF:List D} {hs:List (List Blk)} {ts:List (List D)} {Q:Exit→AS→Prop} {F:List Nat}
structure InvF (F:List Nat) (Γ:ae) (X:Ctx) (L:List Oper) (m:List Nat) (t0 tF:List D) (hs:List (List Blk)) (k:Nat) (S:Array Bool) (a:Act) (w:World):Prop where
 size:S.size=L.length
 closed:ft L (Lst S)
 st:St Γ X {t:=c8 L S t0 tF,h:=hs.getD k [],m:=m} a w
 cand:k∈eY F L
 chain:∀c o,L[c]? = some o→cg F c o=false→(Lst S c ↔ c<k)
theorem lI(hD:DrawOkF F ops.toList (bp ops.toList []))(hr:runR P Γ m ops.toList Wk FixOk ops.toList t0 (hs.getD 0 []) tF hs ts)
  (hq:tH P Γ F ops.toList (bp ops.toList []) tF hs ts) (hF:∀j o,ops.toList[j]? = some o→B9 j F=true→hs.getD (j+1) []=hs.getD j []) (hQ:Q .normal {t:=tF,h:=hs.getD ops.size [],m:=m}) :
  ∀(fuel:Nat) (k:Nat) (S:Array Bool) (a:Act) (w:World),InvF F Γ X ops.toList m t0 tF hs k S a w→(H7 ops.size).countP (fun j=>!S.getD j false)≤fuel →
   wpAnyIn (FW r) 0 P .any ops (fm Γ X Q) fuel S a w:=by
 obtain⟨hlen0,_,_,_,hat⟩:=eD _ _ _ _ _ _ hr
 have hn:ops.toList.length=ops.size:=by simp
 have hconst1:∀j o,ops.toList[j]? = some o→cg F j o=true→hs.getD (j+1) []=hs.getD j []:=by
  intro j o ho hqo
  unfold cg at hqo
  rw[Bool.or_eq_true] at hqo
  rcases hqo with hqo|hqo
  case inr=>exact hF j o ho hqo
  obtain⟨call,hc,f,d',d,⟨_,h1,_⟩,_⟩:=hat j o ho
  exact gD hqo h1
 have hconst:∀(n k:Nat),(∀c o,ops.toList[c]? = some o→cg F c o=false→¬(k≤c∧c<k+n))→k+n≤ops.size→hs.getD (k+n) []=hs.getD k []:=by
  intro n
  induction n with
  | zero=>intro k _ _;rfl
  | succ n ih =>
   intro k h1 h2
   have hlt:k+n<ops.toList.length:=by omega
   have ho:=List.getElem?_eq_getElem hlt
   have hqo:cg F (k+n) (ops.toList[k+n])=true:=by
    rw[←Bool.not_eq_false]
    exact fun hf=>h1 _ _ ho hf (by omega)
   rw[←Nat.add_assoc,hconst1 _ _ ho hqo]
   exact ih k (fun c o hc1 hc2=>fun hx=>h1 c o hc1 hc2 (by omega)) (by omega)
 have bound:∀i j o,ops.toList[i]? = some o→((bp ops.toList []).getD i 0).testBit j=true→j<i:=by
  intro i j o ho hb
  have hcl:ft ops.toList (fun x=>x≤i):=fun k o' hk ho' e he hbe=>by
   have:=hD.edge k o' ho' e he hbe
   show e.on≤i
   omega
  have h1:j≤i:=bn hcl (k:=i) (Hq i) j hb
  have h2:=hD.self i o ho
  rcases Nat.lt_or_eq_of_le h1 with h|h
  ·exact h
  ·subst h;rw[h2] at hb;cases hb
 have fin:∀(k:Nat) (S:Array Bool) (a:Act) (w:World),InvF F Γ X ops.toList m t0 tF hs k S a w→(∀j,j<ops.size→Lst S j)→fm Γ X Q .normal a w:=by
  intro k S a w I hall
  refine⟨by simp,_,hQ,?_⟩
  have e1:c8 ops.toList S t0 tF=tF:=by
   refine aS (aj ..) fun x hx=>?_
   rw[aj] at hx
   refine bH fun c o hc1 _=>hall c ?_
   have:=(G9.1 hc1).1
   omega
  have hk:k≤ops.size:=by
   have:=I.cand
   simp only[eY,HB,HS] at this
   rcases this with rfl|⟨c,hc1,rfl⟩
   ·omega
   ·obtain⟨o,ho,_⟩:=dS hc1
    have:=(G9.1 ho).1
    omega
  have e2:hs.getD ops.size []=hs.getD k []:=by
   have:=hconst (ops.size - k) k (fun c o hc1 hc2 hx=>by
    have h1:=(I.chain c o hc1 hc2).1 (hall c (by omega))
    omega) (by omega)
   rwa[show k+(ops.size - k)=ops.size by omega] at this
  rw[e2]
  have:=I.st
  rw[e1] at this
  exact this
 intro fuel
 induction fuel with
 | zero =>
  intro k S a w I hcnt
  have hall:∀j,j<ops.size→Lst S j:=by
   intro j hj
   have h0:(H7 ops.size).countP (fun j=>!S.getD j false)=0:=by omega
   rw[List.countP_eq_zero] at h0
   have:=h0 j (by simpa using hj)
   simpa[Lst] using this
  refine⟨?_,fin k S a w I hall⟩
  unfold I3
  rw[JJ]
  intro j hj
  have hj':j<ops.size:=by simpa using hj
  have:=hall j hj'
  have hs2:j<S.size:=by rw[I.size,hn];exact hj'
  unfold Lst at this
  have h3:S.getD j true=true:=by
   simp only[HM,HQ hs2,Ij] at this ⊢
   exact this
  simp[h3]
 | succ fuel ih =>
  intro k S a w I hcnt
  refine⟨fun hnone=>?_,fun i hi=>?_⟩
  ·-- nothing is ready: all is done
   refine fin k S a w I ?_
   have key:∀n,∀j,j<n→j<ops.size→Lst S j:=by
    intro n
    induction n with
    | zero=>intro j hj;omega
    | succ n ihn =>
     intro j hj hjs
     by_cases hjn:j<n
     ·exact ihn j hjn hjs
     have:j=n:=by omega
     subst this
     apply H2
     intro hno
     unfold I3 at hnone
     rw[JJ] at hnone
     have h1:=hnone j (by simpa using hjs)
     apply h1
     have hs2:j<S.size:=by rw[I.size,hn];exact hjs
     have ho:ops[j]? = some ops[j]:=HQ hjs
     have h3:S.getD j true=false:=by
      unfold Lst at hno
      simp only[HM,HQ hs2,Ij] at hno ⊢
      simpa using hno
     have h4:(ops[j].after.all fun e=>!H6 .any e||S.getD e.on false)=true:=by
      rw[IY]
      intro e he
      cases hb:H6 .any e
      ·rfl
      ·have hlt:=hD.edge j ops[j] (by simp) e (by simpa using he) hb
       have:=ihn e.on hlt (by omega)
       simpa[Lst] using this
     rw[h3,ho]
     simpa using h4
   exact fun j hj=>key (j+1) j (by omega) hj
  ·-- an operation that is ready
   unfold I3 at hi
   rw[J7] at hi
   obtain⟨hi1,hi2⟩:=hi
   have his:i<ops.size:=by simpa using hi1
   have hiS:i<S.size:=by rw[I.size,hn];exact his
   have ho:ops[i]? = some ops[i]:=HQ his
   generalize ho0:ops[i]=o at ho
   have hoL:ops.toList[i]? = some o:=by simpa using ho
   simp only[ho,HD,Ij,G6,IB] at hi2
   obtain⟨hi3,hi4⟩:=hi2
   have hnotS:¬Lst S i:=by
    unfold Lst
    simp only[HM,HQ hiS,Ij] at hi3 ⊢
    simp[hi3]
   have hpre:∀e∈o.after.toList,H6 .any e=true→Lst S e.on:=by
    intro e he hb
    rw[IY] at hi4
    have:=hi4 e (by simpa using he)
    simpa[hb,Lst] using this
   have hsetS:∀j,Lst (S.setIfInBounds i true) j ↔ j=i∨Lst S j:=fun j=>ls hiS
   have hclosed':ft ops.toList (Lst (S.setIfInBounds i true)):=by
    intro k' o' hk' ho' e he hb
    rw[hsetS] at hk' ⊢
    rcases hk' with rfl|hk'
    ·rw[hoL] at ho'
     cases ho'
     exact .inr (hpre e he hb)
    ·exact .inr (I.closed k' o' hk' ho' e he hb)
   have hbits:∀j,((bp ops.toList []).getD i 0).testBit j=true→j<i∧Lst S j:=by
    intro j hj
    have h1:=bound i j o hoL hj
    have h2:=bn hclosed' (k:=i) ((hsetS i).2 (.inl rfl)) j hj
    rw[hsetS] at h2
    exact⟨h1,h2.resolve_left (by omega)⟩
   obtain⟨call,hc,f,dw,d,⟨hfx,hst,hwk⟩,htF,ht0,hdF⟩:=hat i o hoL
   have hseen:∀x∈bP ops.toList o,(c8 ops.toList S t0 tF).getD x .any=(ts.getD i []).getD x .any:=by
    intro x hx
    by_cases hwr:∃(k':Nat) (o':Oper),ops.toList[k']? = some o'∧o'.dst=some x
    ·obtain⟨k',o',hk',hd'⟩:=hwr
     have huq:∀(j:Nat) (o2:Oper),ops.toList[j]? = some o2→o2.dst=some x→j=k':=fun j o2 hj hd2=>hD.uniq j k' o2 o' x hj hk' hd2 hd'
     rcases hD.oper i o x hoL hx k' o' hk' hd' with hb|hb
     ·obtain⟨hlt,hSk⟩:=hbits k' hb
      rw[bH (fun k2 o2 hk2 hd2=>by rw[huq k2 o2 hk2 hd2];exact hSk)]
      exact htF x fun j o2 hj ho2 hd2=>by
       have:=huq j o2 ho2 hd2
       omega
     ·have hlt:=bound k' i o' hk' hb
      have hnk:¬Lst S k':=fun hSk=>hnotS (bn I.closed hSk i hb)
      rw[oT hlen0 hk' hd' (by unfold Lst at hnk;simpa using hnk)]
      exact(ht0 x fun j o2 hj ho2 hd2=>by
       have:=huq j o2 ho2 hd2
       omega).symm
    ·rw[bH (fun k2 o2 hk2 hd2=>absurd ⟨k2,o2,hk2,hd2⟩ hwr)]
     exact htF x fun j o2 hj ho2 hd2=>hwr ⟨j,o2,ho2,hd2⟩
   have hseenF:∀x∈bP ops.toList o,(ts.getD i []).getD x .any=(c8 ops.toList S t0 tF).getD x .any:=fun x hx=>(hseen x hx).symm
   have hst':ce P Γ call m ops.toList ((c8 ops.toList S t0 tF).map f) (hs.getD i []) o=some (dw,hs.getD (i+1) []):=by
    rw[gC (t':=(ts.getD i []).map f) (fun x hx=>by rw[aN hfx.any,aN hfx.any,hseen x hx])];exact hst
   have hfixed:∀{a:Act} {w:World},InvF F Γ X ops.toList m t0 tF hs k S a w→St Γ X {t:=(c8 ops.toList S t0 tF).map f,h:=hs.getD k [],m:=m} a w:=fun I=>I.st.fix hfx
   have hput:putD (c8 ops.toList S t0 tF) o.dst d=c8 ops.toList (S.setIfInBounds i true) t0 tF:=by
    refine kl hoL hiS (fun k' o' hk' x hx hx'=>hD.uniq k' i o' o x hk' hoL hx' hx) fun x hx hlt=>hdF x hx (fun j o' hj ho' hd'=>?_) ?_
    ·have:=hD.uniq j i o' o x ho' hoL hd' hx
     omega
    ·rw[←hlen0];exact hlt
   have hcnt':(H7 ops.size).countP (fun j=>!(S.setIfInBounds i true).getD j false)≤fuel:=by
    have:(H7 ops.size).countP (fun j=>!(S.setIfInBounds i true).getD j false)<(H7 ops.size).countP (fun j=>!S.getD j false):=by
     refine ig (fun x hx=>?_) i (by simpa using his) ?_ ?_
     ·have h1:¬Lst (S.setIfInBounds i true) x:=by unfold Lst;simpa using hx
      rw[hsetS] at h1
      have:¬Lst S x:=fun h=>h1 (.inr h)
      unfold Lst at this
      simpa using this
     ·unfold Lst at hnotS;simpa using hnotS
     ·have:Lst (S.setIfInBounds i true) i:=(hsetS i).2 (.inl rfl)
      unfold Lst at this
      simpa using this
    omega
   have hk_le:cg F i o=false→k≤i:=by
    intro hqo
    have:=I.cand
    simp only[eY,HB,HS] at this
    rcases this with rfl|⟨c,hc1,rfl⟩
    ·omega
    ·obtain⟨o',ho',hq'⟩:=dS hc1
     have hcS:Lst S c:=(I.chain c o' ho' hq').2 (by omega)
     apply H2
     intro hlt
     by_cases hci:c=i
     ·exact hnotS (hci▸hcS)
     ·exact hnotS (bn I.closed hcS i (hD.chain i c o o' hoL ho' (by omega) hqo hq'))
   have hheap:cg F i o=false→hs.getD i []=hs.getD k []:=by
    intro hqo
    have hk:=hk_le hqo
    have:=hconst (i - k) k (fun c o' hc1 hc2 hx=>by
     have h1:=hbits c (hD.chain c i o' o hc1 hoL (by omega) hc2 hqo)
     have:=(I.chain c o' hc1 hc2).1 h1.2
     omega) (by omega)
    rwa[show k+(i - k)=i by omega] at this
   unfold wpOpIn
   simp only[ho]
   cases hqo:cg F i o
   ·-- it may change the heap
    have hInv:∀a' w',St Γ X {t:=putD (c8 ops.toList S t0 tF) o.dst d,h:=hs.getD (i+1) [],m:=m} a' w'→InvF F Γ X ops.toList m t0 tF hs (i+1) (S.setIfInBounds i true) a' w':=by
     intro a' w' hst2
     refine⟨by simpa using I.size,hclosed',by rw[←hput];exact hst2,?_,?_⟩
     ·simp only[eY,HB,HS]
      exact .inr ⟨i,sm hoL hqo,rfl⟩
     ·intro c o' ho' hq'
      rw[hsetS,I.chain c o' ho' hq']
      have hk:=hk_le hqo
      constructor
      ·rintro (rfl|h)<;>omega
      ·intro h
       by_cases hci:c=i
       ·exact .inl hci
       ·have h1:=hbits c (hD.chain c i o' o ho' hoL (by omega) hq' hqo)
        exact .inr ((I.chain c o' ho' hq').1 h1.2)
    rw[hheap hqo] at hst'
    unfold ce at hst'
    split at hst'
    ·rename_i hg
     split at hst'
     ·rename_i d1 h1 hop
      split at hst'
      ·rename_i hm
       simp only[G0,G4] at hst'
       obtain⟨rfl,rfl⟩:=hst'
       have hw:HX o (yielded ops a.tmps)=true:=by
        obtain⟨l,R,E,rt,rd⟩:=hfixed I
        exact ak rt hg
       rw[if_pos hw]
       exact hZ (s:={t:=(c8 ops.toList S t0 tF).map f,h:=hs.getD k [],m:=m}) hc hop hm (fun a' w' hs'=>ih (i+1) _ a' w' (hInv a' w' (Np hfx hwk hs')) hcnt') (hfixed I)
      ·simp at hst'
     ·simp at hst'
    ·rename_i hg
     simp only[G0,G4] at hst'
     obtain⟨rfl,hh⟩:=hst'
     have hw:HX o (yielded ops a.tmps)=false:=by
      obtain⟨l,R,E,rt,rd⟩:=hfixed I
      exact ak rt hg
     rw[if_neg (by simp[hw])]
     refine⟨fun _ _=>trivial,ih (i+1) _ _ w (hInv _ w (Np hfx hwk ?_)) hcnt'⟩
     rw[←hh]
     exact St.skip o.dst (hfixed I)
    ·simp at hst'
   ·-- it leaves the heap alone
    have hInv:∀a' w',St Γ X {t:=putD (c8 ops.toList S t0 tF) o.dst d,h:=hs.getD k [],m:=m} a' w'→InvF F Γ X ops.toList m t0 tF hs k (S.setIfInBounds i true) a' w':=by
     intro a' w' hst2
     refine⟨by simpa using I.size,hclosed',by rw[←hput];exact hst2,I.cand,?_⟩
     intro c o' ho' hq'
     rw[hsetS,←I.chain c o' ho' hq']
     constructor
     ·rintro (rfl|h)
      ·rw[hoL] at ho';cases ho';rw[hqo] at hq';cases hq'
      ·exact h
     ·exact .inr
    have hgF:∀f:D→D,f .any=.any→aI ops.toList ((ts.getD i []).map f) o.guard=aI ops.toList ((c8 ops.toList S t0 tF).map f) o.guard:=fun f hf =>
     dG fun x hx=>by rw[aN hf,aN hf,hseenF x (by unfold bP;simp only[HN,Option.mem_toList];exact .inr hx)]
    unfold ce at hst'
    split at hst'
    ·rename_i hg
     have hw:HX o (yielded ops a.tmps)=true:=by
      obtain⟨l,R,E,rt,rd⟩:=hfixed I
      exact ak rt hg
     rw[if_pos hw]
     have hcomp:gJ F ops.toList (bp ops.toList []) i k=true:=by
      unfold gJ
      rw[Hs]
      intro c hc1
      obtain⟨o',ho',hq'⟩:=dS hc1
      split
      ·rename_i hlt
       have hcS:=(I.chain c o' ho' hq').2 hlt
       rw[IB,Js]
       exact fun hb=>hnotS (bn I.closed hcS i hb)
      ·rename_i hlt
       rw[IB,Js]
       exact fun hb=>hlt ((I.chain c o' ho' hq').1 (hbits c hb).2)
     obtain⟨f2,d2,hfx2,hopk,hd2⟩:=hq i o hoL hqo ⟨f,hfx,by rw[hgF f hfx.any];exact hg⟩ k I.cand hcomp
     obtain⟨call2,hc2,hop⟩:=OpOk.congr (t':=(c8 ops.toList S t0 tF).map f2) (fun x hx=>eC fun j hj=>by
      rw[aN hfx2.any,aN hfx2.any,hseenF j (by
      unfold bP;simp only[HN,List.mem_filterMap];exact .inl ⟨x,by simpa using hx,hj⟩)]) hopk
     refine hZ (s:={t:=(c8 ops.toList S t0 tF).map f2,h:=hs.getD k [],m:=m}) hc2 hop I.st.marks (fun a' w' hs'=>ih k _ a' w' ⟨by simpa using I.size,hclosed',?_,I.cand,?_⟩ hcnt') (I.st.fix hfx2)
     ·rw[←hput]
      refine St.put_wk (fun x hx hlt=>?_) (Np hfx2 (Wk.refl d2) hs')
      have h3:=hdF x hx (fun j o' hj ho' hd'=>by
       have:=hD.uniq j i o' o x ho' hoL hd' hx
       omega) (by rw[aj] at hlt;rw[←hlen0];exact hlt)
      rw[←h3]
      exact hd2 x hx
     ·intro c o' ho' hq'
      rw[hsetS,←I.chain c o' ho' hq']
      constructor
      ·rintro (rfl|h)
       ·rw[hoL] at ho';cases ho';rw[hqo] at hq';cases hq'
       ·exact h
      ·exact .inr
    ·rename_i hg
     simp only[G0,G4] at hst'
     obtain⟨rfl,hh⟩:=hst'
     have hw:HX o (yielded ops a.tmps)=false:=by
      obtain⟨l,R,E,rt,rd⟩:=hfixed I
      exact ak rt hg
     rw[if_neg (by simp[hw])]
     exact⟨fun _ _=>trivial,ih k _ _ w (hInv _ w (Np hfx hwk (St.skip (s:={t:=(c8 ops.toList S t0 tF).map f,h:=hs.getD k [],m:=m}) o.dst (hfixed I)))) hcnt'⟩
    ·simp at hst'
theorem VW.drawF{s:AS}(ok:POk P){id:Nat}(hD:DrawOkF F ops.toList (bp ops.toList []))(hr:runR P Γ s.m ops.toList Wk FixOk ops.toList s.t s.h tF hs ts)
  (hq:tH P Γ F ops.toList (bp ops.toList []) tF hs ts) (hF:∀j o,ops.toList[j]? = some o→B9 j F=true→hs.getD (j+1) []=hs.getD j []) (hQ:Q .normal {t:=tF,h:=hs.getD ops.size [],m:=s.m}):VW P Γ X r (.region id ops true) Q s:=by
 obtain⟨g1,g2,g3,g4,_⟩:=eD _ _ _ _ _ _ hr
 have h0:hs.getD 0 []=s.h:=by simp[List.getD_eq_getElem?_getD,g3]
 intro a w hst
 refine wpIn_region_any ok.mixed ?_
 rw[←h0] at hr
 refine lI (t0:=s.t) (hs:=hs) hD hr hq hF hQ ops.size 0 _ a _ ?_ ?_
 ·have hrep:∀j,(II ops.size false).getD j false=false:=by
   intro j
   simp only[HM,Array.getElem?_replicate]
   split<;>rfl
  refine⟨by simp,fun k o hk _ _ _ _=>?_,?_,by simp[eY],fun c o _ _=>?_⟩
  ·unfold Lst at hk;rw[hrep] at hk;cases hk
  ·have e1:c8 ops.toList (II ops.size false) s.t tF=s.t:=by
    refine aS (by rw[aj,g1]) fun x hx=>?_
    rw[aj] at hx
    rw[dH hx]
    split
    ·rfl
    ·rename_i hp
     refine g2 x fun o ho hd=>hp ?_
     obtain⟨k,hk⟩:=List.mem_iff_getElem?.1 ho
     exact b4.2 ⟨k,o,hk,hd,hrep k⟩
   rw[e1,h0]
   obtain⟨l,R,E,rt,rd⟩:=hst
   obtain⟨R',E'⟩:=R.of_heap (w':={w with drawn:=w.drawn+1}) rfl ⟨rfl,rfl,rfl,(by first|exact Hq _|exact I5 _)⟩
   exact⟨l,R',E.trans E',E'.relL rt,rd⟩
  ·unfold Lst
   rw[hrep]
   simp
 ·refine Nat.le_trans List.countP_le_length (by simp)
end
theorem cB(i:Nat)(o:Oper):cg [] i o=quietOp o.op:=by simp[cg,B9]
theorem lJ(L:List Oper):fB [] L=fu L:=by unfold fB fu;simp only[cB]
theorem VW.drawE{P:Program}{Γ:ae}{X:Ctx}{r:Option Nat}{ops:Array Oper}{tF:List D}{hs:List (List Blk)}{ts:List (List D)}{Q:Exit→AS→Prop}{s:AS}(ok:POk P){id:Nat}(hD:DrawOk ops.toList (bp ops.toList []))(hr:runR P Γ s.m ops.toList Wk FixOk ops.toList s.t s.h tF hs ts)
  (hq:jl P Γ ops.toList (bp ops.toList []) tF hs ts) (hQ:Q .normal {t:=tF,h:=hs.getD ops.size [],m:=s.m}):VW P Γ X r (.region id ops true) Q s:=by
 refine VW.drawF (F:=[]) ok ⟨hD.self,hD.edge,hD.uniq,hD.oper,fun i k o o' h1 h2 h3 h4 h5=>hD.chain i k o o' h1 h2 h3 (by rw[cB] at h4;exact h4) (by rw[cB] at h5;exact h5)⟩ hr ?_ (fun _ _ _ h=>by cases h) hQ
 intro i o ho hqo hg k hk hc
 rw[cB] at hqo
 unfold eY at hk
 unfold gJ at hc
 rw[lJ] at hk hc
 obtain⟨f,d,h',h1,h2,h3⟩:=hq i o ho hqo hg k hk hc
 have:=be hqo h2
 subst this
 exact⟨f,d,h1,OpOk.sem h2,h3⟩
section
variable {P:Program} {Γ:ae} {X:Ctx} {r:Option Nat} {Q:Exit→AS→Prop} {t:List D} {h:List Blk} {m:List Nat}
theorem VW.drawW(ok:POk P){id:Nat}{ops:Array Oper}(hD:gB ops.toList (bp ops.toList [])=true)(hx:ops.toList.all (fun o=>match o.dst with|some x=>Qd (x<t.length)|none=>true)=true)
  (hr:RW P Γ m ops.toList true ops.toList t h (fun t' h'=>Q .normal {t:=t',h:=h',m:=m})):VW P Γ X r (.region id ops true) Q {t:=t,h:=h,m:=m}:=by
 obtain⟨tF,hs,ts,g1,g2,g3⟩:=RW.runR _ _ _ hr
 have hD':=ie hD
 have hx':=hx
 clear hx
 refine VW.drawE (hs:=hs) (ts:=ts) ok hD' g1 ?_ ?_
 ·intro i o ho hq ⟨f0,hf0,hg0⟩ k hk hcomp
  obtain⟨g5,g6,g7,g8,hat⟩:=eD _ _ _ _ _ _ g1
  obtain⟨call,hc,f,dw,d,⟨hfx,h1,hwk⟩,h2,h3,h4⟩:=hat i o ho
  have hi:i≤ops.toList.length:=by
   have:=(G9.1 ho).1
   omega
  have hk':k≤ops.toList.length:=by
   simp only[lr,HB,HS] at hk
   rcases hk with rfl|⟨c,hc1,rfl⟩
   ·omega
   ·obtain⟨o',ho',_⟩:=bM hc1
    have:=(G9.1 ho').1
    omega
  rw[g3 i hi] at h1
  rw[g3 k hk']
  have hwx:∀x,o.dst=some x→Wk dw (tF.getD x .any):=fun x hx=>by
   have hxl:x<t.length:=by
    have:=Hs.1 hx' o (List.mem_of_getElem? ho)
    simpa[hx] using this
   rw[h4 x hx (fun j o' hj ho' hd=>by have:=hD'.uniq i j o o' x ho ho' hx hd;omega) hxl]
   exact hwk
  unfold ce at h1
  split at h1
  ·rename_i hg
   split at h1
   ·rename_i d1 h1' hop
    split at h1
    ·simp only[G0,G4] at h1
     obtain⟨rfl,_⟩:=h1
     unfold eB at hop
     split at hop
     ·rename_i ho2
      rw[ho2] at hq
      simp[quietOp] at hq
     ·split at hop
      ·rename_i hsem
       cases hop
       exact⟨f,_,_,hfx,hsem,hwx⟩
      ·simp at hop
    ·simp at h1
   ·simp at h1
  ·rename_i hg
   exact absurd (eI X.w hfx hf0 hg hg0) (by simp)
  ·simp at h1
 ·have:=g3 ops.toList.length (Hq _)
  rw[show ops.size=ops.toList.length by simp,this]
  exact g2
end
end Go.Vi
