/- LedgerArrival: part of the proof: an evaluator of the model's programs on abstract values, and its soundness. No conditions beyond the given statement's own. -/
import Derived.Test.YtbfpdhdcicjihaaGreatDoorV4
open Decidable renaming decide → Qd
open Bool renaming and_eq_true → G6, not_eq_true' → IB, eq_false_iff → Js, false_eq_true → HO, not_true → JW, false_or → It
open Array renaming getD_eq_getD_getElem? → HM, getElem?_eq_getElem → HQ, all_eq_true_iff_forall_mem → IY, replicate → II, getElem?_replicate → Mo, toList_setIfInBounds → KF
open Option.some renaming injEq → G0
open Prod.mk renaming injEq → G4
open Go.Vi.Wk renaming refl → KX
open List renaming set_eq_of_length_le → KI, getD_eq_getElem?_getD → HI, getElem?_map → IJ, range → H7, getElem?_eq_getElem → HE, getElem?_eq_some_iff → G9, mem_cons → HB, mem_map → HS, countP_eq_zero → Nc, filter_eq_nil_iff → JJ, mem_filter → J7, mem_append → HN, all_eq_true → Hs, mem_filterMap → Nn, mem_iff_getElem? → JV, countP_le_length → MS, getElem?_append_right → HT, getElem?_cons_zero → Hu, getElem?_append_left → HF, pairwise_append → M4, mem_cons_self → Ix, pairwise_cons → Ib, getElem?_set_ne → KH, mem_cons_of_mem → Jl, map_cons → Il
open Nat renaming le_of_not_lt → LV, add_assoc → JY, le_refl → Hq, le_trans → Jo, sub_self → KM
open Go.Region renaming ready → I3, binds → H6, wanted → HX
open Option renaming getD_some → Ij, map_some → HD, mem_toList → LG, map_eq_some_iff → Ha
open Classical renaming byContradiction → H2
open Go.Vi.Blk renaming inn → Ho
open Go.Oper renaming semAt_eq → Kb
open ByteArray.mk renaming injEq → K1
namespace Go.Vi
open Go
theorem cK{D0:List Deferred}{l:Loc}{h:List Blk}:∀{bs:List Nat} {ds:List Deferred},DefOk D0 l h bs ds→marksOk h bs=true
 | [],_,_=>rfl
 | b::bs,[],r=>by simp[DefOk] at r
 | b::bs,d::ds,r=>by
  simp only[DefOk] at r
  obtain⟨⟨blk,cp,h1,_⟩,h2⟩:=r
  have:=cK h2
  simp only[marksOk,List.all_cons,G6]
  exact⟨by rw[h1],this⟩
theorem St.marks{Γ:ae}{X:Ctx}{s:AS}{a:Act}{w:World}(hs:St Γ X s a w):marksOk s.h s.m=true:=by
 obtain⟨l,_,_,_,rd⟩:=hs
 exact cK rd
section
variable {P:Program} {Γ:ae} {X:Ctx} {r:Option Nat} {call:CallF} {ops:Array Oper} {m:List Nat} {t0 tF:List D} {hs:List (List Blk)} {ts:List (List D)} {Q:Exit→AS→Prop}
def Lst(S:Array Bool)(j:Nat):Prop:=S.getD j false=true
structure Inv (Γ:ae) (X:Ctx) (L:List Oper) (m:List Nat) (t0 tF:List D) (hs:List (List Blk)) (k:Nat) (S:Array Bool) (a:Act) (w:World):Prop where
 size:S.size=L.length
 closed:ft L (Lst S)
 st:St Γ X {t:=c8 L S t0 tF,h:=hs.getD k [],m:=m} a w
 cand:k∈lr L
 chain:∀c o,L[c]? = some o→quietOp o.op=false→(Lst S c ↔ c<k)
theorem ls{S:Array Bool}{i j:Nat}(hi:i<S.size):Lst (S.setIfInBounds i true) j ↔ j=i∨Lst S j:=by
 unfold Lst
 by_cases hk:j=i
 ·subst hk
  simp[HM,hi]
 ·simp[HM,hk,Ne.symm hk]
theorem gD{t:List D}{h h':List Blk}{L:List Oper}{o:Oper}{d:D}(hq:quietOp o.op=true)(hst:ce P Γ call m L t h o=some (d,h')):h'=h:=by
 unfold ce at hst
 split at hst
 ·split at hst
  ·rename_i d1 h1 hop
   split at hst
   ·simp only[G0,G4] at hst
    obtain⟨rfl,rfl⟩:=hst
    unfold eB at hop
    split at hop
    ·rename_i hc;rw[hc] at hq;simp[quietOp] at hq
    ·split at hop
     ·rename_i hx
      simp only[G0,G4] at hop
      obtain⟨rfl,rfl⟩:=hop
      exact be hq hx
     ·simp at hop
   ·simp at hst
  ·simp at hst
 ·simp only[G0,G4] at hst
  exact hst.2.symm
 ·simp at hst
theorem wU{w:World}{av:Nat→Prop}{l:Loc}{h:List Blk}:∀{t t':List D} {ys:List Value},t'.length=t.length→(∀x,Wk (t.getD x .any) (t'.getD x .any))→RelL w av l h t ys→RelL w av l h t' ys
 | [],[],ys,_,_,r=>r
 | [],_::_,_,hl,_,_=>by simp at hl
 | _::_,[],_,hl,_,_=>by simp at hl
 | a::t,b::t',ys,hl,hw,r=>by
  cases ys with
  | nil=>simp[RelL] at r
  | cons y ys =>
   simp only[RelL] at r ⊢
   exact⟨hw 0 _ _ _ _ _ r.1,wU (by simpa using hl) (fun x=>by simpa using hw (x+1)) r.2⟩
theorem St.wk{s:AS}{t':List D}(hl:t'.length=s.t.length)(hw:∀x,Wk (s.t.getD x .any) (t'.getD x .any)){a:Act}{w:World}(hs:St Γ X s a w):St Γ X {t:=t',h:=s.h,m:=s.m} a w:=by
 obtain⟨l,R,E,rt,rd⟩:=hs
 exact⟨l,R,E,wU hl hw rt,rd⟩
theorem CN{t:List D}{dst:Option Tmp}{d d':D}(hw:∀x,dst=some x→x<t.length→Wk d d')(x:Nat):Wk ((putD t dst d).getD x .any) ((putD t dst d').getD x .any):=by
 cases dst with
 | none=>exact KX _
 | some y =>
  by_cases hy:y<t.length
  ·by_cases hx:y=x
   ·subst hx
    rw[dq hy,dq hy]
    exact hw y rfl hy
   ·rw[cf (by simpa using hx),cf (by simpa using hx)]
    exact KX _
  ·have:∀e,t.set y e=t:=fun e=>KI (LV hy)
   simp only[putD,this]
   exact KX _
theorem St.put_wk{t:List D}{h:List Blk}{dst:Option Tmp}{d d':D}(hw:∀x,dst=some x→x<t.length→Wk d d'){a:Act}{w:World}(hs:St Γ X {t:=putD t dst d,h:=h,m:=m} a w):St Γ X {t:=putD t dst d',h:=h,m:=m} a w :=
 hs.wk (by simp[a7]) (CN hw)
theorem aN{f:D→D}(hf:f .any=.any)(t:List D)(x:Nat):(t.map f).getD x .any=f (t.getD x .any):=by
 simp only[HI,IJ]
 cases t[x]? with
 | none=>simp[hf]
 | some d=>rfl
theorem St.fix{s:AS}{f:D→D}(hf:FixOk f){a:Act}{w:World}(hs:St Γ X s a w):St Γ X {t:=s.t.map f,h:=s.h,m:=s.m} a w :=
 hs.wk (by simp) fun x=>by rw[aN hf.any];exact(hf.both _).1
theorem St.unfix{t:List D}{h:List Blk}{f:D→D}(hf:FixOk f){dst:Option Tmp}{d d':D}(hw:Wk d d'){a:Act}{w:World}(hs:St Γ X {t:=putD (t.map f) dst d,h:=h,m:=m} a w):St Γ X {t:=putD t dst d',h:=h,m:=m} a w:=by
 have h1:=St.put_wk (dst:=dst) (d:=d) (d':=d') (fun _ _ _=>hw) hs
 refine h1.wk (by simp[a7]) fun x=>?_
 show Wk ((putD (t.map f) dst d').getD x .any) _
 cases dst with
 | none =>
  simp only[putD]
  rw[aN hf.any]
  exact(hf.both _).2
 | some y =>
  by_cases hx:y=x
  ·subst hx
   by_cases hy:y<t.length
   ·rw[dq hy,dq (by simpa using hy)]
    exact KX _
   ·simp only[putD]
    rw[KI (by simpa using LV hy),KI (LV hy),aN hf.any]
    exact(hf.both _).2
  ·rw[cf (by simpa using hx),cf (by simpa using hx),aN hf.any]
   exact(hf.both _).2
theorem vn(hD:DrawOk ops.toList (bp ops.toList []))(hr:runR P Γ m ops.toList Wk FixOk ops.toList t0 (hs.getD 0 []) tF hs ts)
  (hq:jl P Γ ops.toList (bp ops.toList []) tF hs ts) (hQ:Q .normal {t:=tF,h:=hs.getD ops.size [],m:=m}) :
  ∀(fuel:Nat) (k:Nat) (S:Array Bool) (a:Act) (w:World),Inv Γ X ops.toList m t0 tF hs k S a w→(H7 ops.size).countP (fun j=>!S.getD j false)≤fuel →
   wpAnyIn (FW r) 0 P .any ops (fm Γ X Q) fuel S a w:=by
 obtain⟨hlen0,_,_,_,hat⟩:=eD _ _ _ _ _ _ hr
 have hn:ops.toList.length=ops.size:=by simp
 have hconst1:∀j o,ops.toList[j]? = some o→quietOp o.op=true→hs.getD (j+1) []=hs.getD j []:=by
  intro j o ho hqo
  obtain⟨call,hc,f,d',d,⟨_,h1,_⟩,_⟩:=hat j o ho
  exact gD hqo h1
 have hconst:∀(n k:Nat),(∀c o,ops.toList[c]? = some o→quietOp o.op=false→¬(k≤c∧c<k+n))→k+n≤ops.size→hs.getD (k+n) []=hs.getD k []:=by
  intro n
  induction n with
  | zero=>intro k _ _;rfl
  | succ n ih =>
   intro k h1 h2
   have hlt:k+n<ops.toList.length:=by omega
   have ho:=HE hlt
   have hqo:quietOp (ops.toList[k+n]).op=true:=by
    rw[←Bool.not_eq_false]
    exact fun hf=>h1 _ _ ho hf (by omega)
   rw[←JY,hconst1 _ _ ho hqo]
   exact ih k (fun c o hc1 hc2=>fun hx=>h1 c o hc1 hc2 (by omega)) (by omega)
 have bound:∀i j o,ops.toList[i]? = some o→((bp ops.toList []).getD i 0).testBit j=true→j<i:=by
  intro i j o ho hb
  have hcl:ft ops.toList (fun x=>x≤i):=fun k o' hk ho' e he hbe=>by
   have:=hD.edge k o' ho' e he hbe
   show e.on≤i
   omega
  have h1:j≤i:=bn hcl (k:=i) (Hq i) j hb
  have h2:=hD.self i o ho
  rcases Nat.lt_or_eq_of_le h1 with h|h
  ·exact h
  ·subst h;rw[h2] at hb;cases hb
 have fin:∀(k:Nat) (S:Array Bool) (a:Act) (w:World),Inv Γ X ops.toList m t0 tF hs k S a w→(∀j,j<ops.size→Lst S j)→fm Γ X Q .normal a w:=by
  intro k S a w I hall
  refine⟨by simp,_,hQ,?_⟩
  have e1:c8 ops.toList S t0 tF=tF:=by
   refine aS (aj ..) fun x hx=>?_
   rw[aj] at hx
   refine bH fun c o hc1 _=>hall c ?_
   have:=(G9.1 hc1).1
   omega
  have hk:k≤ops.size:=by
   have:=I.cand
   simp only[lr,HB,HS] at this
   rcases this with rfl|⟨c,hc1,rfl⟩
   ·omega
   ·obtain⟨o,ho,_⟩:=bM hc1
    have:=(G9.1 ho).1
    omega
  have e2:hs.getD ops.size []=hs.getD k []:=by
   have:=hconst (ops.size - k) k (fun c o hc1 hc2 hx=>by
    have h1:=(I.chain c o hc1 hc2).1 (hall c (by omega))
    omega) (by omega)
   rwa[show k+(ops.size - k)=ops.size by omega] at this
  rw[e2]
  have:=I.st
  rw[e1] at this
  exact this
 intro fuel
 induction fuel with
 | zero =>
  intro k S a w I hcnt
  have hall:∀j,j<ops.size→Lst S j:=by
   intro j hj
   have h0:(H7 ops.size).countP (fun j=>!S.getD j false)=0:=by omega
   rw[Nc] at h0
   have:=h0 j (by simpa using hj)
   simpa[Lst] using this
  refine⟨?_,fin k S a w I hall⟩
  unfold I3
  rw[JJ]
  intro j hj
  have hj':j<ops.size:=by simpa using hj
  have:=hall j hj'
  have hs2:j<S.size:=by rw[I.size,hn];exact hj'
  unfold Lst at this
  have h3:S.getD j true=true:=by
   simp only[HM,HQ hs2,Ij] at this ⊢
   exact this
  simp[h3]
 | succ fuel ih =>
  intro k S a w I hcnt
  refine⟨fun hnone=>?_,fun i hi=>?_⟩
  ·-- nothing is ready: all is done
   refine fin k S a w I ?_
   have key:∀n,∀j,j<n→j<ops.size→Lst S j:=by
    intro n
    induction n with
    | zero=>intro j hj;omega
    | succ n ihn =>
     intro j hj hjs
     by_cases hjn:j<n
     ·exact ihn j hjn hjs
     have:j=n:=by omega
     subst this
     apply H2
     intro hno
     unfold I3 at hnone
     rw[JJ] at hnone
     have h1:=hnone j (by simpa using hjs)
     apply h1
     have hs2:j<S.size:=by rw[I.size,hn];exact hjs
     have ho:ops[j]? = some ops[j]:=HQ hjs
     have h3:S.getD j true=false:=by
      unfold Lst at hno
      simp only[HM,HQ hs2,Ij] at hno ⊢
      simpa using hno
     have h4:(ops[j].after.all fun e=>!H6 .any e||S.getD e.on false)=true:=by
      rw[IY]
      intro e he
      cases hb:H6 .any e
      ·rfl
      ·have hlt:=hD.edge j ops[j] (by simp) e (by simpa using he) hb
       have:=ihn e.on hlt (by omega)
       simpa[Lst] using this
     rw[h3,ho]
     simpa using h4
   exact fun j hj=>key (j+1) j (by omega) hj
  ·-- an operation that is ready
   unfold I3 at hi
   rw[J7] at hi
   obtain⟨hi1,hi2⟩:=hi
   have his:i<ops.size:=by simpa using hi1
   have hiS:i<S.size:=by rw[I.size,hn];exact his
   have ho:ops[i]? = some ops[i]:=HQ his
   generalize ho0:ops[i]=o at ho
   have hoL:ops.toList[i]? = some o:=by simpa using ho
   simp only[ho,HD,Ij,G6,IB] at hi2
   obtain⟨hi3,hi4⟩:=hi2
   have hnotS:¬Lst S i:=by
    unfold Lst
    simp only[HM,HQ hiS,Ij] at hi3 ⊢
    simp[hi3]
   have hpre:∀e∈o.after.toList,H6 .any e=true→Lst S e.on:=by
    intro e he hb
    rw[IY] at hi4
    have:=hi4 e (by simpa using he)
    simpa[hb,Lst] using this
   have hsetS:∀j,Lst (S.setIfInBounds i true) j ↔ j=i∨Lst S j:=fun j=>ls hiS
   have hclosed':ft ops.toList (Lst (S.setIfInBounds i true)):=by
    intro k' o' hk' ho' e he hb
    rw[hsetS] at hk' ⊢
    rcases hk' with rfl|hk'
    ·rw[hoL] at ho'
     cases ho'
     exact .inr (hpre e he hb)
    ·exact .inr (I.closed k' o' hk' ho' e he hb)
   have hbits:∀j,((bp ops.toList []).getD i 0).testBit j=true→j<i∧Lst S j:=by
    intro j hj
    have h1:=bound i j o hoL hj
    have h2:=bn hclosed' (k:=i) ((hsetS i).2 (.inl rfl)) j hj
    rw[hsetS] at h2
    exact⟨h1,h2.resolve_left (by omega)⟩
   obtain⟨call,hc,f,dw,d,⟨hfx,hst,hwk⟩,htF,ht0,hdF⟩:=hat i o hoL
   have hseen:∀x∈bP ops.toList o,(c8 ops.toList S t0 tF).getD x .any=(ts.getD i []).getD x .any:=by
    intro x hx
    by_cases hwr:∃(k':Nat) (o':Oper),ops.toList[k']? = some o'∧o'.dst=some x
    ·obtain⟨k',o',hk',hd'⟩:=hwr
     have huq:∀(j:Nat) (o2:Oper),ops.toList[j]? = some o2→o2.dst=some x→j=k':=fun j o2 hj hd2=>hD.uniq j k' o2 o' x hj hk' hd2 hd'
     rcases hD.oper i o x hoL hx k' o' hk' hd' with hb|hb
     ·obtain⟨hlt,hSk⟩:=hbits k' hb
      rw[bH (fun k2 o2 hk2 hd2=>by rw[huq k2 o2 hk2 hd2];exact hSk)]
      exact htF x fun j o2 hj ho2 hd2=>by
       have:=huq j o2 ho2 hd2
       omega
     ·have hlt:=bound k' i o' hk' hb
      have hnk:¬Lst S k':=fun hSk=>hnotS (bn I.closed hSk i hb)
      rw[oT hlen0 hk' hd' (by unfold Lst at hnk;simpa using hnk)]
      exact(ht0 x fun j o2 hj ho2 hd2=>by
       have:=huq j o2 ho2 hd2
       omega).symm
    ·rw[bH (fun k2 o2 hk2 hd2=>absurd ⟨k2,o2,hk2,hd2⟩ hwr)]
     exact htF x fun j o2 hj ho2 hd2=>hwr ⟨j,o2,ho2,hd2⟩
   have hseenF:∀x∈bP ops.toList o,(ts.getD i []).getD x .any=(c8 ops.toList S t0 tF).getD x .any:=fun x hx=>(hseen x hx).symm
   have hst':ce P Γ call m ops.toList ((c8 ops.toList S t0 tF).map f) (hs.getD i []) o=some (dw,hs.getD (i+1) []):=by
    rw[gC (t':=(ts.getD i []).map f) (fun x hx=>by rw[aN hfx.any,aN hfx.any,hseen x hx])];exact hst
   have hfixed:∀{a:Act} {w:World},Inv Γ X ops.toList m t0 tF hs k S a w→St Γ X {t:=(c8 ops.toList S t0 tF).map f,h:=hs.getD k [],m:=m} a w:=fun I=>I.st.fix hfx
   have hput:putD (c8 ops.toList S t0 tF) o.dst d=c8 ops.toList (S.setIfInBounds i true) t0 tF:=by
    refine kl hoL hiS (fun k' o' hk' x hx hx'=>hD.uniq k' i o' o x hk' hoL hx' hx) fun x hx hlt=>hdF x hx (fun j o' hj ho' hd'=>?_) ?_
    ·have:=hD.uniq j i o' o x ho' hoL hd' hx
     omega
    ·rw[←hlen0];exact hlt
   have hcnt':(H7 ops.size).countP (fun j=>!(S.setIfInBounds i true).getD j false)≤fuel:=by
    have:(H7 ops.size).countP (fun j=>!(S.setIfInBounds i true).getD j false)<(H7 ops.size).countP (fun j=>!S.getD j false):=by
     refine ig (fun x hx=>?_) i (by simpa using his) ?_ ?_
     ·have h1:¬Lst (S.setIfInBounds i true) x:=by unfold Lst;simpa using hx
      rw[hsetS] at h1
      have:¬Lst S x:=fun h=>h1 (.inr h)
      unfold Lst at this
      simpa using this
     ·unfold Lst at hnotS;simpa using hnotS
     ·have:Lst (S.setIfInBounds i true) i:=(hsetS i).2 (.inl rfl)
      unfold Lst at this
      simpa using this
    omega
   have hk_le:quietOp o.op=false→k≤i:=by
    intro hqo
    have:=I.cand
    simp only[lr,HB,HS] at this
    rcases this with rfl|⟨c,hc1,rfl⟩
    ·omega
    ·obtain⟨o',ho',hq'⟩:=bM hc1
     have hcS:Lst S c:=(I.chain c o' ho' hq').2 (by omega)
     apply H2
     intro hlt
     by_cases hci:c=i
     ·exact hnotS (hci▸hcS)
     ·exact hnotS (bn I.closed hcS i (hD.chain i c o o' hoL ho' (by omega) hqo hq'))
   have hheap:quietOp o.op=false→hs.getD i []=hs.getD k []:=by
    intro hqo
    have hk:=hk_le hqo
    have:=hconst (i - k) k (fun c o' hc1 hc2 hx=>by
     have h1:=hbits c (hD.chain c i o' o hc1 hoL (by omega) hc2 hqo)
     have:=(I.chain c o' hc1 hc2).1 h1.2
     omega) (by omega)
    rwa[show k+(i - k)=i by omega] at this
   unfold wpOpIn
   simp only[ho]
   cases hqo:quietOp o.op
   ·-- it may change the heap
    have hInv:∀a' w',St Γ X {t:=putD (c8 ops.toList S t0 tF) o.dst d,h:=hs.getD (i+1) [],m:=m} a' w'→Inv Γ X ops.toList m t0 tF hs (i+1) (S.setIfInBounds i true) a' w':=by
     intro a' w' hst2
     refine⟨by simpa using I.size,hclosed',by rw[←hput];exact hst2,?_,?_⟩
     ·simp only[lr,HB,HS]
      exact .inr ⟨i,ni hoL hqo,rfl⟩
     ·intro c o' ho' hq'
      rw[hsetS,I.chain c o' ho' hq']
      have hk:=hk_le hqo
      constructor
      ·rintro (rfl|h)<;>omega
      ·intro h
       by_cases hci:c=i
       ·exact .inl hci
       ·have h1:=hbits c (hD.chain c i o' o ho' hoL (by omega) hq' hqo)
        exact .inr ((I.chain c o' ho' hq').1 h1.2)
    rw[hheap hqo] at hst'
    unfold ce at hst'
    split at hst'
    ·rename_i hg
     split at hst'
     ·rename_i d1 h1 hop
      split at hst'
      ·rename_i hm
       simp only[G0,G4] at hst'
       obtain⟨rfl,rfl⟩:=hst'
       have hw:HX o (yielded ops a.tmps)=true:=by
        obtain⟨l,R,E,rt,rd⟩:=hfixed I
        exact ak rt hg
       rw[if_pos hw]
       exact hZ (s:={t:=(c8 ops.toList S t0 tF).map f,h:=hs.getD k [],m:=m}) hc hop hm (fun a' w' hs'=>ih (i+1) _ a' w' (hInv a' w' (St.unfix hfx hwk hs')) hcnt') (hfixed I)
      ·simp at hst'
     ·simp at hst'
    ·rename_i hg
     simp only[G0,G4] at hst'
     obtain⟨rfl,hh⟩:=hst'
     have hw:HX o (yielded ops a.tmps)=false:=by
      obtain⟨l,R,E,rt,rd⟩:=hfixed I
      exact ak rt hg
     rw[if_neg (by simp[hw])]
     refine⟨fun _ _=>trivial,ih (i+1) _ _ w (hInv _ w (St.unfix hfx hwk ?_)) hcnt'⟩
     rw[←hh]
     exact St.skip o.dst (hfixed I)
    ·simp at hst'
   ·-- it leaves the heap alone
    have hInv:∀a' w',St Γ X {t:=putD (c8 ops.toList S t0 tF) o.dst d,h:=hs.getD k [],m:=m} a' w'→Inv Γ X ops.toList m t0 tF hs k (S.setIfInBounds i true) a' w':=by
     intro a' w' hst2
     refine⟨by simpa using I.size,hclosed',by rw[←hput];exact hst2,I.cand,?_⟩
     intro c o' ho' hq'
     rw[hsetS,←I.chain c o' ho' hq']
     constructor
     ·rintro (rfl|h)
      ·rw[hoL] at ho';cases ho';rw[hqo] at hq';cases hq'
      ·exact h
     ·exact .inr
    have hgF:∀f:D→D,f .any=.any→aI ops.toList ((ts.getD i []).map f) o.guard=aI ops.toList ((c8 ops.toList S t0 tF).map f) o.guard:=fun f hf =>
     dG fun x hx=>by rw[aN hf,aN hf,hseenF x (by unfold bP;simp only[HN,LG];exact .inr hx)]
    unfold ce at hst'
    split at hst'
    ·rename_i hg
     have hw:HX o (yielded ops a.tmps)=true:=by
      obtain⟨l,R,E,rt,rd⟩:=hfixed I
      exact ak rt hg
     rw[if_pos hw]
     have hcomp:jk ops.toList (bp ops.toList []) i k=true:=by
      unfold jk
      rw[Hs]
      intro c hc1
      obtain⟨o',ho',hq'⟩:=bM hc1
      split
      ·rename_i hlt
       have hcS:=(I.chain c o' ho' hq').2 hlt
       rw[IB,Js]
       exact fun hb=>hnotS (bn I.closed hcS i hb)
      ·rename_i hlt
       rw[IB,Js]
       exact fun hb=>hlt ((I.chain c o' ho' hq').1 (hbits c hb).2)
     obtain⟨f2,d2,h2,hfx2,hop,hd2⟩:=hq i o hoL hqo ⟨f,hfx,by rw[hgF f hfx.any];exact hg⟩ k I.cand hcomp
     have hh:=be hqo hop
     subst hh
     rw[cz (t':=(c8 ops.toList S t0 tF).map f2) o.op (fun x hx=>eC fun j hj=>by
      rw[aN hfx2.any,aN hfx2.any,hseenF j (by
      unfold bP;simp only[HN,Nn];exact .inl ⟨x,by simpa using hx,hj⟩)])] at hop
     refine CM (s:={t:=(c8 ops.toList S t0 tF).map f2,h:=hs.getD k [],m:=m}) hop I.st.marks (fun a' w' hs'=>ih k _ a' w' ⟨by simpa using I.size,hclosed',?_,I.cand,?_⟩ hcnt') (I.st.fix hfx2)
     ·rw[←hput]
      refine St.put_wk (fun x hx hlt=>?_) (St.unfix hfx2 (KX d2) hs')
      have h3:=hdF x hx (fun j o' hj ho' hd'=>by
       have:=hD.uniq j i o' o x ho' hoL hd' hx
       omega) (by rw[aj] at hlt;rw[←hlen0];exact hlt)
      rw[←h3]
      exact hd2 x hx
     ·intro c o' ho' hq'
      rw[hsetS,←I.chain c o' ho' hq']
      constructor
      ·rintro (rfl|h)
       ·rw[hoL] at ho';cases ho';rw[hqo] at hq';cases hq'
       ·exact h
      ·exact .inr
    ·rename_i hg
     simp only[G0,G4] at hst'
     obtain⟨rfl,hh⟩:=hst'
     have hw:HX o (yielded ops a.tmps)=false:=by
      obtain⟨l,R,E,rt,rd⟩:=hfixed I
      exact ak rt hg
     rw[if_neg (by simp[hw])]
     exact⟨fun _ _=>trivial,ih k _ _ w (hInv _ w (St.unfix hfx hwk (St.skip (s:={t:=(c8 ops.toList S t0 tF).map f,h:=hs.getD k [],m:=m}) o.dst (hfixed I)))) hcnt'⟩
    ·simp at hst'
theorem VW.draw{s:AS}(ok:POk P){id:Nat}(hD:DrawOk ops.toList (bp ops.toList []))(hr:runR P Γ s.m ops.toList Wk FixOk ops.toList s.t s.h tF hs ts)
  (hq:jl P Γ ops.toList (bp ops.toList []) tF hs ts) (hQ:Q .normal {t:=tF,h:=hs.getD ops.size [],m:=s.m}):VW P Γ X r (.region id ops true) Q s:=by
 obtain⟨g1,g2,g3,g4,_⟩:=eD _ _ _ _ _ _ hr
 have h0:hs.getD 0 []=s.h:=by simp[HI,g3]
 intro a w hst
 refine wpIn_region_any ok.mixed ?_
 rw[←h0] at hr
 refine vn (t0:=s.t) (hs:=hs) hD hr hq hQ ops.size 0 _ a _ ?_ ?_
 ·have hrep:∀j,(II ops.size false).getD j false=false:=by
   intro j
   simp only[HM,Mo]
   split<;>rfl
  refine⟨by simp,fun k o hk _ _ _ _=>?_,?_,by simp[lr],fun c o _ _=>?_⟩
  ·unfold Lst at hk;rw[hrep] at hk;cases hk
  ·have e1:c8 ops.toList (II ops.size false) s.t tF=s.t:=by
    refine aS (by rw[aj,g1]) fun x hx=>?_
    rw[aj] at hx
    rw[dH hx]
    split
    ·rfl
    ·rename_i hp
     refine g2 x fun o ho hd=>hp ?_
     obtain⟨k,hk⟩:=JV.1 ho
     exact b4.2 ⟨k,o,hk,hd,hrep k⟩
   rw[e1,h0]
   obtain⟨l,R,E,rt,rd⟩:=hst
   obtain⟨R',E'⟩:=R.of_heap (w':={w with drawn:=w.drawn+1}) rfl ⟨rfl,rfl,rfl,(by first|exact Hq _|exact Nat.le_succ _)⟩
   exact⟨l,R',E.trans E',E'.relL rt,rd⟩
  ·unfold Lst
   rw[hrep]
   simp
 ·refine Jo MS (by simp)
end
def ii(x:Blk)(n:Nat):Ref:=match x with
 | .vec _ e _=>.vec n e
 | _=>.ptr n 0
def VR(x:Blk)(p:Option (Nat×Nat))(v:Value):Prop:=v.oneCell'=true∧match x with
 | .var _=>∃blk cp,p=some (blk,cp)∧v=.pointer (some ⟨blk,0,none⟩)
 | .vec es _ _=>fg p es.length v
 | _=>False
def freeOp:Op→Bool
 | .alloc _ | .buildSlice ..=>true
 | .makeSlice _ n c=>!zF n c
 | _=>false
section
variable {P:Program} {Γ:ae} {O:Nat→Prop} {w w':World} {l l':Loc} {h h':List Blk} {x:Blk}
theorem qx{p:Option (Nat×Nat)}{v:Value}(hv:VR x p v):RefRel (l.upd h.length p) (h++[x]) (ii x h.length) v:=by
 obtain⟨h1,h2⟩:=hv
 have hs:(l.upd h.length p) h.length=p:=by simp[Loc.upd]
 refine⟨h1,?_⟩
 cases x<;>simp only at h2
 ·simp only[ii,HT (Hq _),KM,Hu,hs]
  exact h2
 ·simp only[ii,HT (Hq _),KM,Hu,hs]
  exact⟨Hq _,fun _=>h2⟩
theorem qy{v:Value}(hp:x.plain=true)(hv:RefRel l (h++[x]) (ii x h.length) v):VR x (l h.length) v:=by
 obtain⟨h1,h2⟩:=hv
 refine⟨h1,?_⟩
 cases x<;>simp only[Blk.plain,HO] at hp
 ·simpa only [ii,HT (Hq _),KM,Hu] using h2
 ·simp only[ii,HT (Hq _),KM,Hu] at h2
  simpa using h2
theorem zR{t:List D}{o:Op}{d:D}{h1:List Blk}(hf:freeOp o=true)(hd:opSem P Γ t h o=some (true,d,h1)):
  ∃x,x.plain=true∧true=true∧d=.ref (ii x h.length)∧h1=h++[x]∧∀h',opSem P Γ t h' o=some (true,.ref (ii x h'.length),h'++[x]):=by
 cases o<;>simp only[freeOp,HO] at hf
 ·rename_i e
  simp only[opSem,Ha,eW,G4] at hd
  obtain⟨cs,h2,_,rfl,rfl⟩:=hd
  exact⟨.var cs,rfl,rfl,rfl,rfl,fun h'=>by simp[opSem,h2,eW,ii]⟩
 ·rename_i ty n ps
  simp only[opSem,Ha,G4] at hd
  obtain⟨⟨d',h2⟩,hb,_,rfl,rfl⟩:=hd
  unfold dg at hb
  split at hb
  ·rename_i e he
   split at hb
   ·rename_i sz z hsz hz
    split at hb
    ·rename_i hc
     split at hb
     ·rename_i cs hcs
      simp only[G0,G4] at hb
      obtain⟨rfl,rfl⟩:=hb
      exact⟨.vec (chunk sz n cs) 0 sz,rfl,rfl,rfl,rfl,fun h'=>by simp[opSem,dg,he,hsz,hz,hc,hcs,ii]⟩
     ·simp at hb
    ·simp at hb
   ·simp at hb
  ·simp at hb
 ·rename_i ty n c
  have hro:zF n c=false:=by simpa[freeOp] using hf
  simp only[opSem,hro,u5] at hd
  split at hd
  ·rename_i e k1 n1 k2 c1 he hn hc
   split at hd
   ·rename_i sz by' z hsz hby hz
    split at hd
    ·rename_i hl
     simp only[G0,G4] at hd
     obtain⟨hb,rfl,rfl⟩:=hd
     exact⟨.vec (List.replicate n1.toNat z) 0 sz,rfl,rfl,rfl,rfl,fun h'=>by simp only[opSem,hro,u5,he,hn,hc,hsz,hby,hz,hl,if_true,hb,ii]⟩
    ·simp at hd
   ·simp at hd
  ·simp at hd
theorem wV(R:Rep Γ O w l h){t:List D}{a:Act}(ht:RelL w (avs O l h) l h t a.tmps.toList){o:Oper}(hp:x.plain=true)
  (hd:opSem P Γ t h o.op=some (true,.ref (ii x h.length),h++[x])) (hi:h.all (Ho h.length)=true) (hx:x.inn h.length=true) :
  ∃v w' l' p,(execOp a.eval o).run P w=.ok (.value v) w'∧Rep Γ (pN O p) w' l' h∧Ext w l h w' l' h∧Pd w' (avs (pN O p) l' h) l' h x p∧VR x p v ∧
   (∀k c,p=some (k,c)→w.heap.size≤k∧¬O k):=by
 obtain⟨nx,v,w',l',h1,h2,R',E',rd⟩:=gy R ht hd
 obtain⟨R2,hP⟩:=R'.hide hp hi hx
 have E2:=E'.take
 rw[show(h++[x]).take h.length=h by simp] at E2
 have hv:VR x (l' h.length) v:=qy hp (by simpa[Rel] using rd)
 have hnx:nx=.value v:=by
  rcases h2 with h2|⟨_,h2⟩
  ·exact h2
  ·exfalso
   obtain⟨hv1,hv2⟩:=hv
   rw[h2] at hv2
   cases x<;>simp only[Blk.plain,HO] at hp
   ·obtain⟨_,_,_,h3⟩:=hv2
    simp[undef] at h3
   ·simp only at hv2
    unfold fg at hv2
    split at hv2<;>simp[undef] at hv2
 rw[hnx] at h1
 refine⟨v,w',l',l' h.length,h1,R2,E2,hP,hv,fun k c hk=>?_⟩
 have hown:own l' (h++[x]) k:=ia.2 (.inr ⟨ib hp,c,hk⟩)
 refine⟨?_,(R'.inb k hown).2⟩
 rcases E'.news k hown with ⟨b,y,c',g1,g2,g3⟩|h3
 ·exfalso
  have hlt:=(G9.1 g1).1
  obtain⟨x',k1,k2,k3⟩:=E'.keep b y g1
  rw[HF hlt,g1] at k1
  cases k1
  have hs:y.stays y:=by cases y<;>simp_all[Blk.stays]
  have:=R'.inj b h.length y x k c' c (by rw[HF hlt,g1]) g2 (by simp) (ib hp) (by rw[k3 hs,g3]) hk
  omega
 ·exact h3
end
section
variable {w:World} {av:Nat→Prop} {l:Loc} {h:List Blk}
theorem jm:∀{t:List D} {ys:List Value},t.length=ys.length→(∀x y,ys[x]? = some y→Rel w av l h (t.getD x .any) y)→RelL w av l h t ys
 | [],[],_,_=>by simp[RelL]
 | [],_::_,hl,_=>by simp at hl
 | _::_,[],hl,_=>by simp at hl
 | d::t,y::ys,hl,hp=>by
  simp only[RelL]
  refine⟨by simpa using hp 0 y (by simp),jm (by simpa using hl) fun x z hz=>?_⟩
  simpa using hp (x+1) z (by simpa using hz)
theorem wW{t:List D}{ys:List Value}(r:RelL w av l h t ys){x:Nat}{y:Value}(hy:ys[x]? = some y):Rel w av l h (t.getD x .any) y:=by
 rcases relL_get x t ys r with ⟨z,h1,h2⟩|⟨h1,_⟩
 ·rw[hy] at h1;cases h1;exact h2
 ·rw[hy] at h1;cases h1
end
def wt(L:List Oper)(pl:List Nat)(x:Tmp):Bool:=pl.any fun i=>(match L[i]? with|some o=>o.dst==some x|none=>false)
def j6(L:List Oper)(S:Array Bool)(pl:List Nat)(t0 tF:List D):List D:=(H7 tF.length).map fun x=>if wt L pl x then .any else (c8 L S t0 tF).getD x .any
theorem dt{L:List Oper}{pl:List Nat}{x:Tmp}:wt L pl x=true ↔ ∃i o,i∈pl∧L[i]? = some o∧o.dst=some x:=by
 unfold wt
 rw[List.any_eq_true]
 constructor
 ·rintro⟨i,h1,h2⟩
  split at h2
  ·rename_i o ho
   exact⟨i,o,h1,ho,by simpa using h2⟩
  ·simp at h2
 ·rintro⟨i,o,h1,h2,h3⟩
  exact⟨i,h1,by rw[h2];simpa using h3⟩
section
variable {L:List Oper} {S:Array Bool} {pl:List Nat} {t0 tF:List D}
theorem bf:(j6 L S pl t0 tF).length=tF.length:=by simp[j6]
theorem fU{x:Nat}(hx:x<tF.length):(j6 L S pl t0 tF).getD x .any=if wt L pl x then .any else (c8 L S t0 tF).getD x .any:=by
 simp[j6,HI,hx]
theorem tn{t:List D}{x:Nat}(h:t.length≤x):t.getD x .any=.any:=by
 rw[HI,List.getElem?_eq_none h];rfl
theorem kn{x:Nat}(hx:wt L pl x=false):(j6 L S pl t0 tF).getD x .any=(c8 L S t0 tF).getD x .any:=by
 by_cases hlt:x<tF.length
 ·rw[fU hlt,hx];rfl
 ·rw[tn (by rw[bf];omega),tn (by rw[aj];omega)]
theorem tp:j6 L S [] t0 tF=c8 L S t0 tF:=by
 refine aS (by rw[bf,aj]) fun x hx=>kn (by simp[wt])
end
structure Pe where
 i:Nat
 p:Option (Nat×Nat)
 v:Value
 x:Blk
def hid(pl:List Pe)(O:Nat→Prop):Nat→Prop:=fun k=>O k∨∃e∈pl,∃c,e.p=some (k,c)
structure Inv5 (Γ:ae) (X:Ctx) (L:List Oper) (pos:Nat→Nat) (late:Nat→Bool) (m:List Nat) (t0 tF:List D) (hs:List (List Blk)) (k:Nat) (S:Array Bool) (pl:List Pe) (a:Act) (w:World):Prop where
 size:S.size=L.length
 closed:ft L (Lst S)
 st:∃l,Rep Γ (hid pl X.O) w l (hs.getD k [])∧Ext X.w X.l X.h w l (hs.getD k [])∧RelL w (avs (hid pl X.O) l (hs.getD k [])) l (hs.getD k []) (j6 L S (pl.map (·.i)) t0 tF) a.tmps.toList ∧
  DefOk X.D l (hs.getD k []) m a.defers∧∀e∈pl,Pd w (avs (hid pl X.O) l (hs.getD k [])) l (hs.getD k []) e.x e.p
 pe:∀e∈pl,VR e.x e.p e.v∧late e.i=true∧Lst S e.i∧k≤pos e.i∧hs.getD (pos e.i+1) []=hs.getD (pos e.i) []++[e.x] ∧
  ∃o,L[e.i]? = some o∧∀y,o.dst=some y→(∀z,a.tmps.toList[y]? = some z→z=e.v)∧(y<tF.length→tF.getD y .any=.ref (ii e.x (hs.getD (pos e.i) []).length))
 dis:pl.Pairwise fun e f=>e.i ≠ f.i∧∀k c c',e.p=some (k,c)→f.p ≠ some (k,c')
 fresh:∀e∈pl,∀k c,e.p=some (k,c)→X.w.heap.size≤k∧¬X.O k
 chain:∀c o,L[c]? = some o→quietOp o.op=false→(pos c<k ↔ Lst S c∧c ∉ pl.map (·.i))
 cand:k=0∨∃(c:Nat) (o:Oper),L[c]? = some o∧quietOp o.op=false∧k=pos c+1
theorem nj{p:Nat→Prop}(h0:p 0):∀n,∃q,q≤n∧p q∧∀q',q'≤n→p q'→q'≤q
 | 0=>⟨0,Hq _,h0,fun q' h _=>h⟩
 | n+1=>by
  by_cases h:p (n+1)
  ·exact⟨n+1,Hq _,h,fun q' h' _=>h'⟩
  ·obtain⟨q,h1,h2,h3⟩:=nj h0 n
   refine⟨q,by omega,h2,fun q' h' hp=>?_⟩
   by_cases hq:q'=n+1
   ·exact absurd (hq▸hp) h
   ·exact h3 q' (by omega) hp
section
variable {Γ:ae} {X:Ctx} {L:List Oper} {pos:Nat→Nat} {late:Nat→Bool} {m:List Nat} {t0 tF:List D} {hs:List (List Blk)} {S:Array Bool} {a:Act} {w:World}
theorem wX{O:Nat→Prop}{l:Loc}{h:List Blk}{x:Blk}{p:Option (Nat×Nat)}(hx:x ≠ .gone)(k:Nat):avs O (l.upd h.length p) (h++[x]) k ↔ avs (pN O p) l h k:=by
 rw[oP hx,show(l.upd h.length p) h.length=p by simp[Loc.upd]]
 unfold avs
 rw[oQ]
theorem Inv5.tell{k:Nat}{pl1 pl2:List Pe}{e:Pe}(I:Inv5 Γ X L pos late m t0 tF hs k S (pl1++e::pl2) a w)(hH:hs.getD (pos e.i) []=hs.getD k [])
  (hpos:∀c o,L[c]? = some o→quietOp o.op=false→c ≠ e.i→(pos c<k ↔ pos c<pos e.i+1))
  (hdst:∀(i j:Nat) (o o':Oper) (x:Tmp),L[i]? = some o→L[j]? = some o'→o.dst=some x→o'.dst=some x→i=j) (hk2:∀f∈pl1++pl2,pos e.i+1≤pos f.i) (hlq:∀(i:Nat) (o:Oper),L[i]? = some o→late i=true→quietOp o.op=false) :
  Inv5 Γ X L pos late m t0 tF hs (pos e.i+1) S (pl1++pl2) a w:=by
 obtain⟨l,R,E,rt,rd,hpd⟩:=I.st
 have hmem:e∈pl1++e::pl2:=by simp
 have hsub:∀f,f∈pl1++pl2→f∈pl1++e::pl2:=by
  intro f hf
  simp only[HN,HB] at hf ⊢
  rcases hf with h|h
  ·exact .inl h
  ·exact .inr (.inr h)
 have hsplit:∀f,f∈pl1++e::pl2→f=e∨f∈pl1++pl2:=by
  intro f hf
  simp only[HN,HB] at hf ⊢
  rcases hf with h|h|h
  ·exact .inr (.inl h)
  ·exact .inl h
  ·exact .inr (.inr h)
 have hdis:∀f∈pl1++pl2,f.i ≠ e.i∧∀k c c',e.p=some (k,c)→f.p ≠ some (k,c'):=by
  intro f hf
  have hd:=I.dis
  rw[M4] at hd
  simp only[HN] at hf
  rcases hf with hf|hf
  ·have:=hd.2.2 f hf e (Ix ..)
   exact⟨this.1,fun k c c' h1 h2=>this.2 k c' c h2 h1⟩
  ·have:=(Ib.1 hd.2.1).1 f hf
   exact⟨fun h=>this.1 h.symm,this.2⟩
 have hhid:hid (pl1++e::pl2) X.O=pN (hid (pl1++pl2) X.O) e.p:=by
  funext k'
  apply propext
  constructor
  ·rintro (h|⟨f,hf,c,h⟩)
   ·exact .inl (.inl h)
   ·rcases hsplit f hf with rfl|hf
    ·exact .inr ⟨c,h⟩
    ·exact .inl (.inr ⟨f,hf,c,h⟩)
  ·rintro ((h|⟨f,hf,c,h⟩)|⟨c,h⟩)
   ·exact .inl h
   ·exact .inr ⟨f,hsub f hf,c,h⟩
   ·exact .inr ⟨e,hmem,c,h⟩
 rw[hhid] at R rt hpd
 obtain⟨hvr,hlate,hlst,hkpos,hhs,o,ho,hod⟩:=I.pe e hmem
 have hPd:=hpd e hmem
 have hne:=ib hPd.1
 have R2:=R.merge hPd (fun k' c hk hh=>by
  rcases hh with hh|⟨f,hf,c',hh⟩
  ·exact(I.fresh e hmem k' c hk).2 hh
  ·exact(hdis f hf).2 k' c c' hk hh)
 have E2:=E.merge (x:=e.x) (p:=e.p) fun k' c hk=>(I.fresh e hmem k' c hk).1
 have hc:∀blk off y,¬avs (pN (hid (pl1++pl2) X.O) e.p) l (hs.getD k []) blk→w.cell? ⟨blk,off,none⟩=some y →
   w.cell? ⟨blk,off,none⟩=some y∧¬avs (hid (pl1++pl2) X.O) (l.upd (hs.getD k []).length e.p) (hs.getD k []++[e.x]) blk :=
  fun blk off y hn hy=>⟨hy,fun ha=>hn ((wX hne blk).1 ha)⟩
 have hH2:hs.getD (pos e.i+1) []=hs.getD k []++[e.x]:=by rw[hhs,hH]
 have hlenT:=dm _ _ rt
 rw[bf] at hlenT
 have hpe:∀f∈pl1++pl2,f.i ≠ e.i:=fun f hf=>(hdis f hf).1
 refine⟨I.size,I.closed,⟨l.upd (hs.getD k []).length e.p,?_⟩,fun f hf=>?_,?_,fun f hf=>I.fresh f (hsub f hf),?_,.inr ⟨e.i,o,ho,hlq e.i o ho hlate,rfl⟩⟩
 ·rw[hH2]
  refine⟨R2,E2,jm (by rw[bf];exact hlenT) fun x y hy=>?_,?_,fun f hf=>?_⟩
  ·have hlt:x<tF.length:=by
    have:=(G9.1 hy).1
    omega
   cases hb:wt L ((pl1++pl2).map (·.i)) x
   ·rw[kn hb]
    cases hb2:wt L ((pl1++e::pl2).map (·.i)) x
    ·have:=wW rt hy
     rw[kn hb2] at this
     exact Rel.mono hc ic _ _ this
    ·obtain⟨i',o',h1,h2,h3⟩:=dt.1 hb2
     have hie:i'=e.i:=by
      apply H2
      intro hno
      rw[HS] at h1
      obtain⟨f,hf,rfl⟩:=h1
      rcases hsplit f hf with rfl|hf
      ·exact hno rfl
      ·rw[Js] at hb
       exact hb (dt.2 ⟨f.i,o',HS.2 ⟨f,hf,rfl⟩,h2,h3⟩)
     subst hie
     rw[ho] at h2
     cases h2
     rw[bH (fun k' o' hk' hd'=>by
      rw[hdst k' e.i o' o x hk' ho hd' h3];exact hlst)]
     rw[(hod x h3).2 hlt,hH,(hod x h3).1 y hy]
     simp only[Rel]
     exact qx hvr
   ·rw[fU hlt,if_pos hb]
    simp[Rel]
  ·exact DefOk.mono ic (cJ (cK rd)) rd
  ·exact Pd.mono hc ic (by simp) (fun _ _ _=>rfl) (hpd f (hsub f hf))
 ·obtain⟨g1,g2,g3,_,g5,g6⟩:=I.pe f (hsub f hf)
  exact⟨g1,g2,g3,hk2 f hf,g5,g6⟩
 ·exact I.dis.sublist (List.Sublist.append (List.Sublist.refl _) (List.sublist_cons_self e pl2))
 ·intro c o' hc' hq
  by_cases hce:c=e.i
  ·subst hce
   refine⟨fun _=>⟨hlst,fun hm=>?_⟩,fun _=>Nat.lt_succ_self _⟩
   rw[HS] at hm
   obtain⟨f,hf,hfe⟩:=hm
   exact hpe f hf hfe
  ·rw[←hpos c o' hc' hq hce,I.chain c o' hc' hq]
   refine⟨fun⟨h1,h2⟩=>⟨h1,fun hm=>h2 ?_⟩,fun⟨h1,h2⟩=>⟨h1,fun hm=>h2 ?_⟩⟩
   ·rw[HS] at hm ⊢
    obtain⟨f,hf,hfe⟩:=hm
    exact⟨f,hsub f hf,hfe⟩
   ·rw[HS] at hm ⊢
    obtain⟨f,hf,hfe⟩:=hm
    rcases hsplit f hf with rfl|hf
    ·exact absurd hfe.symm hce
    ·exact⟨f,hf,hfe⟩
end
section
variable {Γ:ae} {X:Ctx} {L:List Oper} {pos:Nat→Nat} {late:Nat→Bool} {m:List Nat} {t0 tF:List D} {hs:List (List Blk)} {S:Array Bool} {a:Act} {w:World}
theorem Inv5.upto(hconst:∀n k,(∀c o,L[c]? = some o→quietOp o.op=false→¬(k≤pos c∧pos c<k+n))→k+n≤L.length→hs.getD (k+n) []=hs.getD k [])
  (hinj:∀(i j:Nat) (o o':Oper),L[i]? = some o→L[j]? = some o'→pos i=pos j→i=j)
  (hdst:∀(i j:Nat) (o o':Oper) (x:Tmp),L[i]? = some o→L[j]? = some o'→o.dst=some x→o'.dst=some x→i=j) (hlq:∀(i:Nat) (o:Oper),L[i]? = some o→late i=true→quietOp o.op=false) :
  ∀q,q≤L.length→(∀c o,L[c]? = some o→quietOp o.op=false→pos c<q→Lst S c)→∀k pl,Inv5 Γ X L pos late m t0 tF hs k S pl a w →
   ∃k' pl',Inv5 Γ X L pos late m t0 tF hs k' S pl' a w∧∀e∈pl',e∈pl∧q≤pos e.i:=by
 intro q
 induction q with
 | zero=>exact fun _ _ k pl I=>⟨k,pl,I,fun e he=>⟨he,Nat.zero_le _⟩⟩
 | succ q ih =>
  intro hq hl k pl I
  obtain⟨k1,pl1,I1,h1⟩:=ih (by omega) (fun c o hc ho hp=>hl c o hc ho (by omega)) k pl I
  by_cases hex:∃e∈pl1,pos e.i=q
  ·obtain⟨e,he,hpe⟩:=hex
   obtain⟨a1,a2,rfl⟩:=List.append_of_mem he
   obtain⟨_,_,_,hk1,_,o,ho,_⟩:=I1.pe e he
   have hnone:∀c o',L[c]? = some o'→quietOp o'.op=false→pos c<q→pos c<k1:=by
    intro c o' hc hqo hp
    rw[I1.chain c o' hc hqo]
    refine⟨hl c o' hc hqo (by omega),fun hm=>?_⟩
    rw[HS] at hm
    obtain⟨f,hf,rfl⟩:=hm
    have:=(h1 f hf).2
    omega
   have hsub:∀f,f∈a1++a2→f∈a1++e::a2:=by
    intro f hf
    simp only[HN,HB] at hf ⊢
    rcases hf with h|h
    ·exact .inl h
    ·exact .inr (.inr h)
   have hfe:∀f,f∈a1++a2→f.i ≠ e.i:=by
    intro f hf
    have hd:=I1.dis
    rw[M4] at hd
    simp only[HN] at hf
    rcases hf with hf|hf
    ·exact(hd.2.2 f hf e (Ix ..)).1
    ·exact fun h=>((Ib.1 hd.2.1).1 f hf).1 h.symm
   have hge:∀f,f∈a1++a2→q+1≤pos f.i:=by
    intro f hf
    have h2:=(h1 f (hsub f hf)).2
    obtain⟨_,_,_,_,_,o',ho',_⟩:=I1.pe f (hsub f hf)
    have:pos f.i ≠ q:=fun hh=>hfe f hf (hinj _ _ _ _ ho' ho (by rw[hh,hpe]))
    omega
   refine⟨_,_,I1.tell ?_ ?_ hdst (fun f hf=>by rw[hpe];exact hge f hf) hlq,fun f hf=>⟨(h1 f (hsub f hf)).1,hge f hf⟩⟩
   ·have:=hconst (q - k1) k1 (fun c o' hc hqo hx=>by
     have:=hnone c o' hc hqo (by omega)
     omega) (by omega)
    rw[hpe,←this]
    congr 1
    omega
   ·intro c o' hc hqo hce
    rw[hpe]
    constructor
    ·intro h;omega
    ·intro h
     have:pos c ≠ q:=fun hh=>hce (hinj _ _ _ _ hc ho (by rw[hh,hpe]))
     exact hnone c o' hc hqo (by omega)
  ·refine⟨k1,pl1,I1,fun e he=>⟨(h1 e he).1,?_⟩⟩
   have h2:=(h1 e he).2
   have:pos e.i ≠ q:=fun hh=>hex ⟨e,he,hh⟩
   omega
end
def Cand(L:List Oper)(pos:Nat→Nat)(k:Nat):Prop:=k=0∨∃(c:Nat) (o:Oper),L[c]? = some o∧quietOp o.op=false∧k=pos c+1
structure Fx (P:Program) (Γ:ae) (L:List Oper) (B:List Nat) (pos:Nat→Nat) (late:Nat→Bool) (m:List Nat) (t0 tF:List D) (hs:List (List Blk)) (ts:List (List D)):Prop where
 edge:∀(i:Nat) (o:Oper),L[i]? = some o→∀e∈o.after.toList,H6 .any e=true→e.on<i
 posB:∀(i:Nat) (o:Oper) (j:Nat),L[i]? = some o→(B.getD i 0).testBit j=true→pos j<pos i
 uniq:∀(i j:Nat) (o o':Oper) (x:Tmp),L[i]? = some o→L[j]? = some o'→o.dst=some x→o'.dst=some x→i=j
 inj:∀(i j:Nat) (o o':Oper),L[i]? = some o→L[j]? = some o'→pos i=pos j→i=j
 lt:∀(i:Nat) (o:Oper),L[i]? = some o→pos i<L.length
 oper:∀(i:Nat) (o:Oper) (x:Tmp),L[i]? = some o→x∈bP L o→∀(k:Nat) (o':Oper),L[k]? = some o'→o'.dst=some x→(B.getD i 0).testBit k=true∨(B.getD k 0).testBit i=true
 chain:∀(c c':Nat) (o o':Oper),L[c]? = some o→L[c']? = some o'→quietOp o.op=false→quietOp o'.op=false→late c=false→pos c'<pos c→(B.getD c 0).testBit c'=true
 lateOk:∀(i:Nat) (o:Oper),L[i]? = some o→late i=true→freeOp o.op=true∧quietOp o.op=false∧o.guard=none
 seen:∀(i j:Nat) (o o':Oper) (x:Tmp),L[i]? = some o→x∈bP L o→L[j]? = some o'→o'.dst=some x→late j=true→(B.getD i 0).testBit j=true →
  ∀(c:Nat) (o2:Oper),L[c]? = some o2→quietOp o2.op=false→pos c<pos j→(B.getD i 0).testBit c=true
 hat:∀(i:Nat) (o:Oper),L[i]? = some o→∃call,CallF.Ok P Γ call∧∃d,ce P Γ call m L (ts.getD (pos i) []) (hs.getD (pos i) []) o=some (d,hs.getD (pos i+1) []) ∧
  (∀x,(∀(j:Nat) (o':Oper),L[j]? = some o'→pos i≤pos j→o'.dst ≠ some x)→tF.getD x .any=(ts.getD (pos i) []).getD x .any) ∧
  (∀x,(∀(j:Nat) (o':Oper),L[j]? = some o'→pos j<pos i→o'.dst ≠ some x)→(ts.getD (pos i) []).getD x .any=t0.getD x .any) ∧
  (∀x,o.dst=some x→x<tF.length→tF.getD x .any=d)
 len:tF.length=t0.length
 const:∀n k,(∀c o,L[c]? = some o→quietOp o.op=false→¬(k≤pos c∧pos c<k+n))→k+n≤L.length→hs.getD (k+n) []=hs.getD k []
 inn:∀(i:Nat) (o:Oper) (k:Nat) (x:Blk),L[i]? = some o→late i=true→Cand L pos k→hs.getD (pos i+1) []=hs.getD (pos i) []++[x] →
  (hs.getD k []).all (Ho (hs.getD k []).length)=true∧x.inn (hs.getD k []).length=true
 quiet:∀(i:Nat) (o:Oper),L[i]? = some o→quietOp o.op=true→aI L (ts.getD (pos i) []) o.guard=some true→∀k,Cand L pos k →
  (∀(c:Nat) (o':Oper),L[c]? = some o'→quietOp o'.op=false→(pos c<k→(B.getD c 0).testBit i=false)∧(k≤pos c→(B.getD i 0).testBit c=true→late c=true)) →
  ∃d h',opSem P Γ (ts.getD (pos i) []) (hs.getD k []) o.op=some (true,d,h')∧∀x,o.dst=some x→tF.getD x .any=d
section
variable {P:Program} {Γ:ae} {X:Ctx} {r:Option Nat} {call:CallF} {ops:Array Oper} {pos:Nat→Nat} {late:Nat→Bool} {m:List Nat} {t0 tF:List D} {hs:List (List Blk)} {ts:List (List D)} {Q:Exit→AS→Prop}
theorem told(F:Fx P Γ ops.toList (bp ops.toList []) pos late m t0 tF hs ts){k:Nat}{S:Array Bool}{pl:List Pe}{a:Act}{w:World}(I:Inv5 Γ X ops.toList pos late m t0 tF hs k S pl a w):
  ∃k' pl',Inv5 Γ X ops.toList pos late m t0 tF hs k' S pl' a w ∧
   ∀e∈pl',∃c o,ops.toList[c]? = some o∧quietOp o.op=false∧pos c<pos e.i∧¬Lst S c:=by
 obtain⟨q,h1,h2,h3⟩:=nj (p:=fun q=>∀c o,ops.toList[c]? = some o→quietOp o.op=false→pos c<q→Lst S c) (fun c o _ _ h=>by omega) ops.toList.length
 obtain⟨k',pl',I',h4⟩:=Inv5.upto F.const F.inj F.uniq (fun i o hi hl=>(F.lateOk i o hi hl).2.1) q h1 h2 k pl I
 refine⟨k',pl',I',fun e he=>?_⟩
 obtain⟨_,h5⟩:=h4 e he
 obtain⟨_,hl,hS,_,_,o,ho,_⟩:=I'.pe e he
 apply H2
 intro hno
 have:=h3 (pos e.i+1) (F.lt _ _ ho) (fun c o' hc hq hp=>by
  by_cases hce:pos c=pos e.i
  ·rw[F.inj c e.i o' o hc ho hce];exact hS
  ·apply H2
   intro hnl
   exact hno ⟨c,o',hc,hq,by omega,hnl⟩)
 omega
end
section
variable {P:Program} {Γ:ae} {X:Ctx} {r:Option Nat} {call:CallF} {ops:Array Oper} {pos:Nat→Nat} {late:Nat→Bool} {m:List Nat} {t0 tF:List D} {hs:List (List Blk)} {ts:List (List D)} {Q:Exit→AS→Prop}
theorem Inv5.here{k:Nat}{S:Array Bool}{pl:List Pe}{a:Act}{w:World}(I:Inv5 Γ X ops.toList pos late m t0 tF hs k S pl a w):
  ∃l,St Γ {O:=hid pl X.O,w:=w,l:=l,h:=hs.getD k [],D:=X.D} {t:=j6 ops.toList S (pl.map (·.i)) t0 tF,h:=hs.getD k [],m:=m} a w∧Ext X.w X.l X.h w l (hs.getD k []) ∧
   Rep Γ (hid pl X.O) w l (hs.getD k [])∧∀e∈pl,Pd w (avs (hid pl X.O) l (hs.getD k [])) l (hs.getD k []) e.x e.p:=by
 obtain⟨l,R,E,rt,rd,hp⟩:=I.st
 exact⟨l,⟨l,R,Ext.refl _ _ _,rt,rd⟩,E,R,hp⟩
theorem Pd.ext{O:Nat→Prop}{w w':World}{l l':Loc}{h h':List Blk}{x:Blk}{p:Option (Nat×Nat)}(E:Ext w l h w' l' h')(R:Rep Γ O w l h)(hO:∀k c,p=some (k,c)→O k)
  (hp:Pd w (avs O l h) l h x p):Pd w' (avs O l' h') l' h' x p:=by
 refine hp.mono E.hc E.keep ?_ fun blk c hk=>?_
 ·apply H2
  intro hlt
  have hb:h[h'.length]? = some h[h'.length]:=HE (by omega)
  obtain⟨x',h1,_⟩:=E.keep _ _ hb
  simp at h1
 ·exact E.same blk (R.obd blk (hO blk c hk)) fun ho=>(R.inb blk ho).2 (hO blk c hk)
theorem Inv5.after{k k' i:Nat}{S:Array Bool}{pl:List Pe}{a a':Act}{w w':World}{l:Loc}{o:Oper}{d:D}{_v:Value}(F:Fx P Γ ops.toList (bp ops.toList []) pos late m t0 tF hs ts)
  (I:Inv5 Γ X ops.toList pos late m t0 tF hs k S pl a w) (ho:ops.toList[i]? = some o) (hiS:¬Lst S i) (hpre:∀e∈o.after.toList,H6 .any e=true→Lst S e.on)
  (E:Ext X.w X.l X.h w l (hs.getD k [])) (R:Rep Γ (hid pl X.O) w l (hs.getD k [])) (hp:∀e∈pl,Pd w (avs (hid pl X.O) l (hs.getD k [])) l (hs.getD k []) e.x e.p)
  (hst:St Γ {O:=hid pl X.O,w:=w,l:=l,h:=hs.getD k [],D:=X.D} {t:=putD (j6 ops.toList S (pl.map (·.i)) t0 tF) o.dst d,h:=hs.getD k' [],m:=m} a' w') (ha:∃v,a'.tmps=(a.put o.dst v).tmps)
  (hd:∀x,o.dst=some x→x<tF.length→tF.getD x .any=d) (hk:∀e∈pl,k'≤pos e.i) (hcand:Cand ops.toList pos k')
  (hchain:∀c o',ops.toList[c]? = some o'→quietOp o'.op=false→(pos c<k' ↔ (c=i∨Lst S c)∧c ∉ pl.map (·.i))) :
  Inv5 Γ X ops.toList pos late m t0 tF hs k' (S.setIfInBounds i true) pl a' w':=by
 have hi:i<S.size:=by rw[I.size];exact(G9.1 ho).1
 have hsetS:∀j,Lst (S.setIfInBounds i true) j ↔ j=i∨Lst S j:=fun j=>ls hi
 have hne:∀e∈pl,e.i ≠ i:=fun e he hei=>hiS (hei▸(I.pe e he).2.2.1)
 have hput:putD (j6 ops.toList S (pl.map (·.i)) t0 tF) o.dst d=j6 ops.toList (S.setIfInBounds i true) (pl.map (·.i)) t0 tF:=by
  have hput0:putD (c8 ops.toList S t0 tF) o.dst d=c8 ops.toList (S.setIfInBounds i true) t0 tF :=
   kl ho hi (fun k o' hk x hx hx'=>F.uniq k i o' o x hk ho hx' hx) hd
  refine aS (by rw[a7,bf,bf]) fun x hx=>?_
  rw[a7,bf] at hx
  rw[fU hx,←hput0]
  by_cases hdx:o.dst=some x
  ·have hh:wt ops.toList (pl.map (·.i)) x=false:=by
    rw[Js]
    intro hh
    obtain⟨j,o',h1,h2,h3⟩:=dt.1 hh
    rw[HS] at h1
    obtain⟨e,he,rfl⟩:=h1
    exact hne e he (F.uniq _ _ _ _ x h2 ho h3 hdx)
   rw[hdx,dq (by rw[bf];exact hx),hh,if_neg (by simp),dq (by rw[aj];exact hx)]
  ·rw[cf hdx,cf hdx,fU hx]
 obtain⟨l',R',E',rt',rd'⟩:=hst
 refine⟨by simpa using I.size,?_,⟨l',R',E.trans E',by rw[←hput];exact rt',rd',fun e he=>(hp e he).ext E' R fun k c hk=>.inr ⟨e,he,c,hk⟩⟩,fun e he=>?_,I.dis,I.fresh,?_,hcand⟩
 ·intro k2 o2 hk2 ho2 e he hb
  rw[hsetS] at hk2 ⊢
  rcases hk2 with rfl|hk2
  ·rw[ho] at ho2
   cases ho2
   exact .inr (hpre e he hb)
  ·exact .inr (I.closed k2 o2 hk2 ho2 e he hb)
 ·obtain⟨g1,g2,g3,_,g5,o2,g6,g7⟩:=I.pe e he
  refine⟨g1,g2,(hsetS _).2 (.inr g3),hk e he,g5,o2,g6,fun y hy=>⟨fun z hz=>?_,(g7 y hy).2⟩⟩
  obtain⟨v,ha⟩:=ha
  rw[ha] at hz
  have hdy:o.dst ≠ some y:=fun hdy=>hne e he (F.uniq _ _ _ _ y g6 ho hy hdy)
  refine(g7 y hy).1 z ?_
  cases hd2:o.dst with
  | none=>rw[hd2] at hz;exact hz
  | some x =>
   rw[hd2] at hz
   have hxy:x ≠ y:=fun h=>hdy (by rw[hd2,h])
   simp only[Act.put,KF] at hz
   rwa[KH hxy] at hz
 ·intro c o' hc hq
  rw[hsetS]
  exact hchain c o' hc hq
end
section
variable {P:Program} {Γ:ae} {X:Ctx} {r:Option Nat} {s:AS}
theorem BZ{o:Oper}{d:D}{h':List Blk}{K:Act→World→Prop}{Q':Exit→Act→World→Prop}{a:Act}{w:World}(hop:opSem P Γ s.t s.h o.op=some (true,d,h'))(hm:marksOk h' s.m=true)
  (hK:∀v w',St Γ X {t:=putD s.t o.dst d,h:=h',m:=s.m} (a.put o.dst v) w'→K (a.put o.dst v) w') (hs:St Γ X s a w):o.wpIn (FW r) 0 P a w K Q':=by
 obtain⟨l,R,E,rt,rd⟩:=hs
 obtain⟨nx,v,w',l',h1,h2,h3,h4,h5⟩:=gy R rt hop
 refine⟨fun _ _=>trivial,?_⟩
 rw[Kb _ _ _ (by intro c hc;rw[hc] at hop;simp[opSem] at hop),h1]
 have key:=St.put (Γ:=Γ) (X:=X) (s:=s) (a:=a) o.dst rt rd E h3 h4 h5 hm
 rcases h2 with rfl|⟨rfl,rfl⟩
 ·exact hK _ _ key
 ·exact hK _ _ key
theorem zS{o:Oper}{fv:Operand}{args:Array Operand}{ats:Array TypeId}{K:Act→World→Prop}{Q':Exit→Act→World→Prop}{a:Act}{w:World}
  (ho:o.op=.call {callee:=.value fv,args,argTypes:=ats})
  (hcall:VInv P Γ (evalD Γ s.t fv) (args.toList.map (evalD Γ s.t)) s.h fun d h'=>marksOk h' s.m=true ∧
   ∀v w',St Γ X {t:=putD s.t o.dst d,h:=h',m:=s.m} (a.put o.dst v) w'→K (a.put o.dst v) w') (hs:St Γ X s a w):o.wpIn (FW r) 0 P a w K Q':=by
 obtain⟨l,R,E,rt,rd⟩:=hs
 refine⟨fun _ _=>trivial,?_⟩
 rw[Kb _ _ _ (by intro c hc;rw[ho] at hc;simp at hc)]
 have e1:(execOp a.eval o).run P w=(do let d ←Deferred.ofValue (a.eval fv) (args.toList.map a.eval).toArray;invoke d.target d.args:Sem Next).run P w:=by
  unfold execOp
  rw[ho]
  simp only[resolve]
  congr 3
  rw[←Array.toList_map]
 rw[e1]
 exact hcall X.O w l _ _ R (aA R rt fv) (cH R rt args.toList) r o a K Q' fun v d h' l' w' ⟨g1,g2⟩ g3 g4 g5 =>
  g2 _ _ (St.put (Γ:=Γ) (X:=X) (s:=s) (a:=a) o.dst rt rd E g3 g4 g5 g1)
theorem wY{call:CallF}(hc:call.Ok P Γ){o:Oper}{d:D}{h':List Blk}{K:Act→World→Prop}{Q':Exit→Act→World→Prop}{a:Act}{w:World}
  (hop:eB P Γ call s.t s.h o.op=some (d,h')) (hm:marksOk h' s.m=true)
  (hK:∀v w',St Γ X {t:=putD s.t o.dst d,h:=h',m:=s.m} (a.put o.dst v) w'→K (a.put o.dst v) w') (hs:St Γ X s a w):o.wpIn (FW r) 0 P a w K Q':=by
 unfold eB at hop
 split at hop
 ·rename_i ho
  exact zS ho ((hc _ _ _ _ _ hop).mono fun d2 h2 ⟨e1,e2⟩=>by subst e1;subst e2;exact⟨hm,hK⟩) hs
 ·split at hop
  ·rename_i h1
   cases hop
   exact BZ h1 hm hK hs
  ·simp at hop
theorem CO{o:Oper}{x:Blk}{K:Act→World→Prop}{Q':Exit→Act→World→Prop}{a:Act}{w:World}{l:Loc}(R:Rep Γ X.O w l s.h)(rt:RelL w (avs X.O l s.h) l s.h s.t a.tmps.toList)
  (hp:x.plain=true) (hop:opSem P Γ s.t s.h o.op=some (true,.ref (ii x s.h.length),s.h++[x])) (hi:s.h.all (Ho s.h.length)=true) (hx:x.inn s.h.length=true)
  (hK:∀v w' l' p,Rep Γ (pN X.O p) w' l' s.h→Ext w l s.h w' l' s.h→Pd w' (avs (pN X.O p) l' s.h) l' s.h x p→VR x p v→(∀k c,p=some (k,c)→w.heap.size≤k∧¬X.O k)→K (a.put o.dst v) w') :
  o.wpIn (FW r) 0 P a w K Q':=by
 obtain⟨v,w',l',p,h1,h2,h3,h4,h5,h6⟩:=wV (P:=P) R rt hp hop hi hx
 refine⟨fun _ _=>trivial,?_⟩
 rw[Kb _ _ _ (by intro c hc;rw[hc] at hop;simp[opSem] at hop),h1]
 exact hK v w' l' p h2 h3 h4 h5 h6
end
section
variable {P:Program} {Γ:ae} {X:Ctx} {r:Option Nat} {call:CallF} {ops:Array Oper} {pos:Nat→Nat} {late:Nat→Bool} {m:List Nat} {t0 tF:List D} {hs:List (List Blk)} {ts:List (List D)} {Q:Exit→AS→Prop}
theorem CP(F:Fx P Γ ops.toList (bp ops.toList []) pos late m t0 tF hs ts){k:Nat}(hk:Cand ops.toList pos k):k≤ops.toList.length:=by
 rcases hk with rfl|⟨c,o,ho,_,rfl⟩
 ·omega
 ·exact F.lt c o ho
theorem qz(F:Fx P Γ ops.toList (bp ops.toList []) pos late m t0 tF hs ts)(hQ:Q .normal {t:=tF,h:=hs.getD ops.size [],m:=m})
  {k:Nat} {S:Array Bool} {pl:List Pe} {a:Act} {w:World} (I0:Inv5 Γ X ops.toList pos late m t0 tF hs k S pl a w) (hall:∀j,j<ops.size→Lst S j):fm Γ X Q .normal a w:=by
 have hn:ops.toList.length=ops.size:=by simp
 obtain⟨k,pl,I,hpl⟩:=told F I0
 have hnil:pl=[]:=by
  cases pl with
  | nil=>rfl
  | cons e pl =>
   obtain⟨c,o,hc,_,_,h⟩:=hpl e (Ix ..)
   exact absurd (hall c (by have:=(G9.1 hc).1;omega)) h
 subst hnil
 refine⟨by simp,_,hQ,?_⟩
 have e1:j6 ops.toList S [] t0 tF=tF:=by
  rw[tp]
  refine aS (aj ..) fun x hx=>?_
  exact bH fun c o hc1 _=>hall c (by have:=(G9.1 hc1).1;omega)
 have hk:=CP F I.cand
 have e2:hs.getD ops.size []=hs.getD k []:=by
  have:=F.const (ops.size - k) k (fun c o hc1 hc2 hx=>by
   have h1:=(I.chain c o hc1 hc2).2 ⟨hall c (by have:=(G9.1 hc1).1;omega),by simp⟩
   omega) (by omega)
  rwa[show k+(ops.size - k)=ops.size by omega] at this
 obtain⟨l,R,E,rt,rd,_⟩:=I.st
 have hh:hid [] X.O=X.O:=by
  funext k'
  apply propext
  simp[hid]
 rw[hh] at R rt
 simp only[List.map_nil,e1] at rt
 rw[e2]
 exact⟨l,R,E,rt,rd⟩
end
section
variable {P:Program} {Γ:ae} {X:Ctx} {r:Option Nat} {call:CallF} {ops:Array Oper} {pos:Nat→Nat} {late:Nat→Bool} {m:List Nat} {t0 tF:List D} {hs:List (List Blk)} {ts:List (List D)} {Q:Exit→AS→Prop}
theorem vo(F:Fx P Γ ops.toList (bp ops.toList []) pos late m t0 tF hs ts){k0 i:Nat}{S:Array Bool}{pl0:List Pe}{a:Act}{w:World}{o:Oper}{K:Act→World→Prop}{Q':Exit→Act→World→Prop}
  (I0:Inv5 Γ X ops.toList pos late m t0 tF hs k0 S pl0 a w) (hoL:ops.toList[i]? = some o) (hnotS:¬Lst S i) (hpre:∀e∈o.after.toList,H6 .any e=true→Lst S e.on)
  (hK:∀k pl a' w',Inv5 Γ X ops.toList pos late m t0 tF hs k (S.setIfInBounds i true) pl a' w'→K a' w') :
  if HX o (yielded ops a.tmps) then o.wpIn (FW r) 0 P a w K Q' else (∀f,o.about P w a.eval=some f→(FW r).fn f)∧K (a.put o.dst undef) w:=by
 obtain⟨k,pl,I,hpl⟩:=told F I0
 have hiS:i<S.size:=by rw[I.size];exact(G9.1 hoL).1
 have hsetS:∀j,Lst (S.setIfInBounds i true) j ↔ j=i∨Lst S j:=fun j=>ls hiS
 have hclosed':ft ops.toList (Lst (S.setIfInBounds i true)):=by
  intro k' o' hk' ho' e he hb
  rw[hsetS] at hk' ⊢
  rcases hk' with rfl|hk'
  ·rw[hoL] at ho'
   cases ho'
   exact .inr (hpre e he hb)
  ·exact .inr (I.closed k' o' hk' ho' e he hb)
 have hbits:∀j,((bp ops.toList []).getD i 0).testBit j=true→pos j<pos i∧Lst S j:=by
  intro j hj
  have h1:=F.posB i o j hoL hj
  have h2:=bn hclosed' (k:=i) ((hsetS i).2 (.inl rfl)) j hj
  rw[hsetS] at h2
  exact⟨h1,h2.resolve_left (fun h=>by rw[h] at h1;omega)⟩
 obtain⟨call,hc,d,hst,htF,ht0,hdF⟩:=F.hat i o hoL
 have hne:∀e∈pl,e.i ≠ i:=fun e he hei=>hnotS (hei▸(I.pe e he).2.2.1)
 have hnm:i ∉ pl.map (·.i):=fun hm=>by
  rw[HS] at hm
  obtain⟨e,he,hei⟩:=hm
  exact hne e he hei
 have hseen:∀x∈bP ops.toList o,(j6 ops.toList S (pl.map (·.i)) t0 tF).getD x .any=(ts.getD (pos i) []).getD x .any:=by
  intro x hx
  have hh:wt ops.toList (pl.map (·.i)) x=false:=by
   rw[Js]
   intro hh
   obtain⟨j,o',h1,h2,h3⟩:=dt.1 hh
   rw[HS] at h1
   obtain⟨e,he,rfl⟩:=h1
   obtain⟨_,hl,hS,_⟩:=I.pe e he
   rcases F.oper i o x hoL hx e.i o' h2 h3 with hb|hb
   ·obtain⟨c,o2,g1,g2,g3,g4⟩:=hpl e he
    exact g4 (hbits c (F.seen i e.i o o' x hoL hx h2 h3 hl hb c o2 g1 g2 g3)).2
   ·exact hnotS (bn I.closed hS i hb)
  rw[kn hh]
  by_cases hwr:∃(k':Nat) (o':Oper),ops.toList[k']? = some o'∧o'.dst=some x
  ·obtain⟨k',o',hk',hd'⟩:=hwr
   have huq:∀(j:Nat) (o2:Oper),ops.toList[j]? = some o2→o2.dst=some x→j=k':=fun j o2 hj hd2=>F.uniq j k' o2 o' x hj hk' hd2 hd'
   rcases F.oper i o x hoL hx k' o' hk' hd' with hb|hb
   ·obtain⟨hlt,hSk⟩:=hbits k' hb
    rw[bH (fun k2 o2 hk2 hd2=>by rw[huq k2 o2 hk2 hd2];exact hSk)]
    exact htF x fun j o2 hj hle hd2=>by
     have:=huq j o2 hj hd2
     subst this
     omega
   ·have hlt:=F.posB k' o' i hk' hb
    have hnk:¬Lst S k':=fun hSk=>hnotS (bn I.closed hSk i hb)
    rw[oT F.len hk' hd' (by unfold Lst at hnk;simpa using hnk)]
    exact(ht0 x fun j o2 hj hle hd2=>by
     have:=huq j o2 hj hd2
     subst this
     omega).symm
  ·rw[bH (fun k2 o2 hk2 hd2=>absurd ⟨k2,o2,hk2,hd2⟩ hwr)]
   exact htF x fun j o2 hj _ hd2=>hwr ⟨j,o2,hj,hd2⟩
 have hst':ce P Γ call m ops.toList (j6 ops.toList S (pl.map (·.i)) t0 tF) (hs.getD (pos i) []) o=some (d,hs.getD (pos i+1) []):=by rw[gC hseen];exact hst
 obtain⟨l,hSt,E,R,hpd⟩:=I.here
 obtain⟨l0,R0,E0,rt0,rd0⟩:=hSt
 have hSt:St Γ {O:=hid pl X.O,w:=w,l:=l,h:=hs.getD k [],D:=X.D} {t:=j6 ops.toList S (pl.map (·.i)) t0 tF,h:=hs.getD k [],m:=m} a w:=⟨l0,R0,E0,rt0,rd0⟩
 have hki:quietOp o.op=false→k≤pos i:=fun hq=>by
  apply H2
  intro hlt
  exact hnotS ((I.chain i o hoL hq).1 (by omega)).1
 cases hqo:quietOp o.op
 ·cases hlate:late i
  ·-- it may change the heap, and is no late one
   have hall:∀c o',ops.toList[c]? = some o'→quietOp o'.op=false→pos c<pos i→Lst S c:=fun c o' hc' hq' hp=>(hbits c (F.chain i c o o' hoL hc' hqo hq' hlate hp)).2
   have hple:∀e∈pl,pos i+1≤pos e.i:=by
    intro e he
    obtain⟨c,o2,g1,g2,g3,g4⟩:=hpl e he
    obtain⟨_,_,_,_,_,o3,g5,_⟩:=I.pe e he
    have:¬pos c<pos i:=fun h=>g4 (hall c o2 g1 g2 h)
    omega
   have hH:hs.getD (pos i) []=hs.getD k []:=by
    have hk:=hki hqo
    have:=F.const (pos i - k) k (fun c o' hc1 hc2 hx=>by
     have h1:=hall c o' hc1 hc2 (by omega)
     have:=(I.chain c o' hc1 hc2).2 ⟨h1,fun hm=>by
      rw[HS] at hm
      obtain⟨e,he,rfl⟩:=hm
      have:=hple e he
      omega⟩
     omega) (by have:=F.lt i o hoL;omega)
    rwa[show k+(pos i - k)=pos i by omega] at this
   have hfin:∀a' w',(∃v,a'.tmps=(a.put o.dst v).tmps)→St Γ {O:=hid pl X.O,w:=w,l:=l,h:=hs.getD k [],D:=X.D} {t:=putD (j6 ops.toList S (pl.map (·.i)) t0 tF) o.dst d,h:=hs.getD (pos i+1) [],m:=m} a' w' →
     Inv5 Γ X ops.toList pos late m t0 tF hs (pos i+1) (S.setIfInBounds i true) pl a' w':=by
    intro a' w' ha hst2
    refine I.after (_v:=undef) F hoL hnotS hpre E R hpd hst2 ha hdF hple (.inr ⟨i,o,hoL,hqo,rfl⟩) fun c o' hc1 hc2=>?_
    constructor
    ·intro hp
     by_cases hci:pos c=pos i
     ·have:=F.inj c i o' o hc1 hoL hci
      subst this
      exact⟨.inl rfl,hnm⟩
     ·have h1:=hall c o' hc1 hc2 (by omega)
      refine⟨.inr h1,fun hm=>?_⟩
      rw[HS] at hm
      obtain⟨e,he,rfl⟩:=hm
      have:=hple e he
      omega
    ·rintro⟨rfl|h1,h2⟩
     ·omega
     ·have:=(I.chain c o' hc1 hc2).2 ⟨h1,h2⟩
      have:=hki hqo
      omega
   rw[hH] at hst'
   unfold ce at hst'
   split at hst'
   ·rename_i hg
    split at hst'
    ·rename_i d1 h1 hop
     split at hst'
     ·rename_i hm
      simp only[G0,G4] at hst'
      obtain⟨rfl,rfl⟩:=hst'
      rw[if_pos (ak rt0 hg)]
      exact wY (s:={t:=j6 ops.toList S (pl.map (·.i)) t0 tF,h:=hs.getD k [],m:=m}) hc hop hm (fun v w' hs'=>hK _ _ _ _ (hfin _ _ ⟨v,rfl⟩ hs')) hSt
     ·simp at hst'
    ·simp at hst'
   ·rename_i hg
    simp only[G0,G4] at hst'
    obtain⟨rfl,hh⟩:=hst'
    rw[if_neg (by rw[ak rt0 hg];simp)]
    refine⟨fun _ _=>trivial,hK _ _ _ _ (hfin _ w ⟨undef,rfl⟩ ?_)⟩
    rw[←hh]
    exact St.skip (s:={t:=j6 ops.toList S (pl.map (·.i)) t0 tF,h:=hs.getD k [],m:=m}) o.dst hSt
   ·simp at hst'
  ·-- an allocation that is done and not told of
   obtain⟨hfo,_,hgn⟩:=F.lateOk i o hoL hlate
   unfold ce at hst'
   rw[hgn] at hst'
   simp only[aI] at hst'
   split at hst'
   case h_2=>simp at hst'
   rename_i d1 h1 hop
   split at hst'
   case isFalse=>simp at hst'
   simp only[G0,G4] at hst'
   obtain⟨rfl,rfl⟩:=hst'
   unfold eB at hop
   split at hop
   ·rename_i hcl;rw[hcl] at hfo;simp[freeOp] at hfo
   split at hop
   case h_2=>simp at hop
   rename_i d2 h2 hop2
   simp only[G0,G4] at hop
   obtain⟨rfl,hh1⟩:=hop
   obtain⟨x,hxp,_,hd,hh2,hall⟩:=zR hfo hop2
   have hhs:hs.getD (pos i+1) []=hs.getD (pos i) []++[x]:=by rw[←hh1,hh2]
   obtain⟨hi1,hi2⟩:=F.inn i o k x hoL hlate I.cand hhs
   have hw:HX o (yielded ops a.tmps)=true:=ak (b:=true) rt0 (by rw[hgn];rfl)
   rw[if_pos hw]
   obtain⟨l',R',E',rt',rd',hpd'⟩:=I.st
   refine CO (X:={O:=hid pl X.O,w:=w,l:=l',h:=hs.getD k []}) (s:={t:=j6 ops.toList S (pl.map (·.i)) t0 tF,h:=hs.getD k [],m:=m}) R' rt' hxp (hall _) hi1 hi2 ?_
   intro v w' l2 p R2 E2 hPd hVR hfr
   simp only at R2 E2 hPd hfr
   refine hK k ({i:=i,p:=p,v:=v,x:=x}::pl) _ _ ?_
   have hhid:hid ({i:=i,p:=p,v:=v,x:=x}::pl) X.O=pN (hid pl X.O) p:=by
    funext k'
    apply propext
    constructor
    ·rintro (h|⟨f,hf,c,h⟩)
     ·exact .inl (.inl h)
     ·rcases HB.1 hf with rfl|hf
      ·exact .inr ⟨c,h⟩
      ·exact .inl (.inr ⟨f,hf,c,h⟩)
    ·rintro ((h|⟨f,hf,c,h⟩)|⟨c,h⟩)
     ·exact .inl h
     ·exact .inr ⟨f,Jl _ hf,c,h⟩
     ·exact .inr ⟨_,Ix ..,c,h⟩
   have hc:∀blk off y,¬avs (hid pl X.O) l' (hs.getD k []) blk→w.cell? ⟨blk,off,none⟩=some y→w'.cell? ⟨blk,off,none⟩=some y∧¬avs (pN (hid pl X.O) p) l2 (hs.getD k []) blk:=by
    intro blk off y hn hy
    obtain⟨g1,g2⟩:=E2.hc (O:=hid pl X.O) blk off y hn hy
    refine⟨g1,?_⟩
    rintro ((h|⟨c,h⟩)|h)
    ·exact g2 (.inl h)
    ·have:=(hfr blk c h).1
     have:=mW hy
     omega
    ·exact g2 (.inr h)
   have hput0:putD (c8 ops.toList S t0 tF) o.dst d2=c8 ops.toList (S.setIfInBounds i true) t0 tF :=
    kl hoL hiS (fun k o' hk x hx hx'=>F.uniq k i o' o x hk hoL hx' hx) hdF
   have hlenT:=dm _ _ rt'
   rw[bf] at hlenT
   have hat:∀y z,(a.put o.dst v).tmps.toList[y]? = some z→(o.dst=some y∧z=v)∨(o.dst ≠ some y∧a.tmps.toList[y]? = some z):=by
    intro y z hz
    cases hd2:o.dst with
    | none=>rw[hd2] at hz;exact .inr ⟨by simp,hz⟩
    | some x0 =>
     rw[hd2] at hz
     simp only[Act.put,KF] at hz
     by_cases hxy:x0=y
     ·subst hxy
      have hlt:=(G9.1 hz).1
      simp only[List.length_set] at hlt
      rw[List.getElem?_set_self hlt] at hz
      exact .inl ⟨rfl,by simpa using hz.symm⟩
     ·rw[KH hxy] at hz
      exact .inr ⟨by simpa using hxy,hz⟩
   refine⟨by simpa using I.size,hclosed',⟨l2,by rw[hhid];exact R2,E'.trans E2,?_,?_,?_⟩,?_,?_,?_,?_,I.cand⟩
   ·rw[hhid]
    refine jm ?_ fun y z hz=>?_
    ·rw[bf,hlenT]
     cases o.dst<;>simp[Act.put]
    ·rcases hat y z hz with ⟨h3,rfl⟩|⟨h3,h4⟩
     ·have hlt:y<tF.length:=by
       have:=(G9.1 hz).1
       cases hd2:o.dst<;>rw[hd2] at this<;>simp[Act.put] at this<;>simp at hlenT<;>omega
      rw[fU hlt,if_pos (dt.2 ⟨i,o,by simp,hoL,h3⟩)]
      simp[Rel]
     ·have base:=Rel.mono hc E2.keep _ _ (wW rt' h4)
      have hlt:y<tF.length:=by
       have:=(G9.1 h4).1
       omega
      rw[fU hlt] at base ⊢
      have e1:wt ops.toList (({i:=i,p:=p,v:=v,x:=x}::pl).map (·.i)) y=wt ops.toList (pl.map (·.i)) y:=by
       rw[Bool.eq_iff_iff,dt,dt]
       constructor
       ·rintro⟨j,o',g1,g2,g3⟩
        simp only[Il,HB] at g1
        rcases g1 with rfl|g1
        ·rw[hoL] at g2;cases g2;exact absurd g3 h3
        ·exact⟨j,o',g1,g2,g3⟩
       ·rintro⟨j,o',g1,g2,g3⟩
        exact⟨j,o',by simp only[Il,HB];exact .inr g1,g2,g3⟩
      rw[e1,←hput0,cf h3]
      exact base
   ·have:(a.put o.dst v).defers=a.defers:=by cases o.dst<;>rfl
    rw[this]
    exact DefOk.mono E2.keep (cK rd') rd'
   ·intro e he
    rw[hhid]
    rcases HB.1 he with rfl|he
    ·exact hPd
    ·refine(hpd' e he).mono hc E2.keep (Hq _) fun blk c hk=>?_
     have hO:hid pl X.O blk:=.inr ⟨e,he,c,hk⟩
     exact E2.same blk (R'.obd blk hO) fun ho=>(R'.inb blk ho).2 hO
   ·intro e he
    rcases HB.1 he with rfl|he
    ·refine⟨hVR,hlate,(hsetS _).2 (.inl rfl),hki hqo,hhs,o,hoL,fun y hy=>⟨fun z hz=>?_,fun hlt=>?_⟩⟩
     ·rcases hat y z hz with ⟨_,h4⟩|⟨h3,_⟩
      ·exact h4
      ·exact absurd hy h3
     ·rw[hdF y hy hlt,hd]
    ·obtain⟨g1,g2,g3,g4,g5,o2,g6,g7⟩:=I.pe e he
     refine⟨g1,g2,(hsetS _).2 (.inr g3),g4,g5,o2,g6,fun y hy=>⟨fun z hz=>?_,(g7 y hy).2⟩⟩
     rcases hat y z hz with ⟨h3,_⟩|⟨_,h4⟩
     ·exact absurd (F.uniq _ _ _ _ y g6 hoL hy h3) (hne e he)
     ·exact(g7 y hy).1 z h4
   ·refine Ib.2 ⟨fun e he=>⟨fun h=>hne e he h.symm,fun k c c' h3 h4=>(hfr k c h3).2 (.inr ⟨e,he,c',h4⟩)⟩,I.dis⟩
   ·intro e he k' c hk
    rcases HB.1 he with rfl|he
    ·obtain⟨h3,h4⟩:=hfr k' c hk
     exact⟨Jo E'.size h3,fun h=>h4 (.inl h)⟩
    ·exact I.fresh e he k' c hk
   ·intro c o' hc1 hc2
    rw[hsetS,I.chain c o' hc1 hc2]
    simp only[Il,HB,not_or]
    constructor
    ·rintro⟨h3,h4⟩
     exact⟨.inr h3,fun h=>hnotS (h▸h3),h4⟩
    ·rintro⟨h3|h3,h4,h5⟩
     ·exact absurd h3 h4
     ·exact⟨h3,h5⟩
 ·-- it leaves the heap alone
  have hchain:∀c o',ops.toList[c]? = some o'→quietOp o'.op=false→(pos c<k ↔ (c=i∨Lst S c)∧c ∉ pl.map (·.i)):=by
   intro c o' hc1 hc2
   rw[I.chain c o' hc1 hc2]
   constructor
   ·exact fun h=>⟨.inr h.1,h.2⟩
   ·rintro⟨rfl|h1,h2⟩
    ·rw[hoL] at hc1;cases hc1;rw[hqo] at hc2;cases hc2
    ·exact⟨h1,h2⟩
  have hfin:∀d',(∀x,o.dst=some x→x<tF.length→tF.getD x .any=d')→∀a' w',(∃v,a'.tmps=(a.put o.dst v).tmps) →
    St Γ {O:=hid pl X.O,w:=w,l:=l,h:=hs.getD k [],D:=X.D} {t:=putD (j6 ops.toList S (pl.map (·.i)) t0 tF) o.dst d',h:=hs.getD k [],m:=m} a' w' →
    Inv5 Γ X ops.toList pos late m t0 tF hs k (S.setIfInBounds i true) pl a' w':=fun d' hd' a' w' ha hst2 =>
   I.after (_v:=undef) F hoL hnotS hpre E R hpd hst2 ha hd' (fun e he=>(I.pe e he).2.2.2.1) I.cand hchain
  have hgF:aI ops.toList (ts.getD (pos i) []) o.guard=aI ops.toList (j6 ops.toList S (pl.map (·.i)) t0 tF) o.guard :=
   dG fun x hx=>(hseen x (by unfold bP;simp only[HN,LG];exact .inr hx)).symm
  unfold ce at hst'
  split at hst'
  ·rename_i hg
   rw[if_pos (ak rt0 hg)]
   obtain⟨d2,h2,hop,hd2⟩:=F.quiet i o hoL hqo (by rw[hgF];exact hg) k I.cand fun c o' hc1 hc2=>by
    refine⟨fun hp=>?_,fun hp hb=>?_⟩
    ·rw[Js]
     exact fun hb=>hnotS (bn I.closed ((I.chain c o' hc1 hc2).1 hp).1 i hb)
    ·have h1:=(hbits c hb).2
     apply H2
     intro hl
     have:=(I.chain c o' hc1 hc2).2 ⟨h1,fun hm=>by
      rw[HS] at hm
      obtain⟨e,he,rfl⟩:=hm
      exact hl (I.pe e he).2.1⟩
     omega
   have hh:=be hqo hop
   subst hh
   rw[cz (t':=j6 ops.toList S (pl.map (·.i)) t0 tF) o.op (fun x hx=>eC fun j hj=>(hseen j (by
    unfold bP;simp only[HN,Nn];exact .inl ⟨x,by simpa using hx,hj⟩)).symm)] at hop
   exact BZ (s:={t:=j6 ops.toList S (pl.map (·.i)) t0 tF,h:=hs.getD k [],m:=m}) hop hSt.marks (fun v w' hs'=>hK _ _ _ _ (hfin d2 (fun x hx _=>hd2 x hx) _ _ ⟨v,rfl⟩ hs')) hSt
  ·rename_i hg
   simp only[G0,G4] at hst'
   obtain⟨rfl,_⟩:=hst'
   rw[if_neg (by rw[ak rt0 hg];simp)]
   exact⟨fun _ _=>trivial,hK _ _ _ _ (hfin _ hdF _ w ⟨undef,rfl⟩ (St.skip (s:={t:=j6 ops.toList S (pl.map (·.i)) t0 tF,h:=hs.getD k [],m:=m}) o.dst hSt))⟩
  ·simp at hst'
end
section
variable {P:Program} {Γ:ae} {X:Ctx} {r:Option Nat} {call:CallF} {ops:Array Oper} {pos:Nat→Nat} {late:Nat→Bool} {m:List Nat} {t0 tF:List D} {hs:List (List Blk)} {ts:List (List D)} {Q:Exit→AS→Prop}
theorem sh(F:Fx P Γ ops.toList (bp ops.toList []) pos late m t0 tF hs ts)(hQ:Q .normal {t:=tF,h:=hs.getD ops.size [],m:=m}):
  ∀(fuel:Nat) (k:Nat) (S:Array Bool) (pl:List Pe) (a:Act) (w:World),Inv5 Γ X ops.toList pos late m t0 tF hs k S pl a w→(H7 ops.size).countP (fun j=>!S.getD j false)≤fuel →
   wpAnyIn (FW r) 0 P .any ops (fm Γ X Q) fuel S a w:=by
 have hn:ops.toList.length=ops.size:=by simp
 intro fuel
 induction fuel with
 | zero =>
  intro k S pl a w I hcnt
  have hall:∀j,j<ops.size→Lst S j:=by
   intro j hj
   have h0:(H7 ops.size).countP (fun j=>!S.getD j false)=0:=by omega
   rw[Nc] at h0
   have:=h0 j (by simpa using hj)
   simpa[Lst] using this
  refine⟨?_,qz F hQ I hall⟩
  unfold I3
  rw[JJ]
  intro j hj
  have hj':j<ops.size:=by simpa using hj
  have:=hall j hj'
  have hs2:j<S.size:=by rw[I.size,hn];exact hj'
  unfold Lst at this
  have h3:S.getD j true=true:=by
   simp only[HM,HQ hs2,Ij] at this ⊢
   exact this
  simp[h3]
 | succ fuel ih =>
  intro k S pl a w I hcnt
  refine⟨fun hnone=>?_,fun i hi=>?_⟩
  ·refine qz F hQ I ?_
   have key:∀n,∀j,j<n→j<ops.size→Lst S j:=by
    intro n
    induction n with
    | zero=>intro j hj;omega
    | succ n ihn =>
     intro j hj hjs
     by_cases hjn:j<n
     ·exact ihn j hjn hjs
     have:j=n:=by omega
     subst this
     apply H2
     intro hno
     unfold I3 at hnone
     rw[JJ] at hnone
     have h1:=hnone j (by simpa using hjs)
     apply h1
     have hs2:j<S.size:=by rw[I.size,hn];exact hjs
     have ho:ops[j]? = some ops[j]:=HQ hjs
     have h3:S.getD j true=false:=by
      unfold Lst at hno
      simp only[HM,HQ hs2,Ij] at hno ⊢
      simpa using hno
     have h4:(ops[j].after.all fun e=>!H6 .any e||S.getD e.on false)=true:=by
      rw[IY]
      intro e he
      cases hb:H6 .any e
      ·rfl
      ·have hlt:=F.edge j ops[j] (by simp) e (by simpa using he) hb
       have:=ihn e.on hlt (by omega)
       simpa[Lst] using this
     rw[h3,ho]
     simpa using h4
   exact fun j hj=>key (j+1) j (by omega) hj
  ·unfold I3 at hi
   rw[J7] at hi
   obtain⟨hi1,hi2⟩:=hi
   have his:i<ops.size:=by simpa using hi1
   have hiS:i<S.size:=by rw[I.size,hn];exact his
   have ho:ops[i]? = some ops[i]:=HQ his
   generalize ho0:ops[i]=o at ho
   have hoL:ops.toList[i]? = some o:=by simpa using ho
   simp only[ho,HD,Ij,G6,IB] at hi2
   obtain⟨hi3,hi4⟩:=hi2
   have hnotS:¬Lst S i:=by
    unfold Lst
    simp only[HM,HQ hiS,Ij] at hi3 ⊢
    simp[hi3]
   have hpre:∀e∈o.after.toList,H6 .any e=true→Lst S e.on:=by
    intro e he hb
    rw[IY] at hi4
    have:=hi4 e (by simpa using he)
    simpa[hb,Lst] using this
   have hsetS:∀j,Lst (S.setIfInBounds i true) j ↔ j=i∨Lst S j:=fun j=>ls hiS
   have hcnt':(H7 ops.size).countP (fun j=>!(S.setIfInBounds i true).getD j false)≤fuel:=by
    have:(H7 ops.size).countP (fun j=>!(S.setIfInBounds i true).getD j false)<(H7 ops.size).countP (fun j=>!S.getD j false):=by
     refine ig (fun x hx=>?_) i (by simpa using his) ?_ ?_
     ·have h1:¬Lst (S.setIfInBounds i true) x:=by unfold Lst;simpa using hx
      rw[hsetS] at h1
      have:¬Lst S x:=fun h=>h1 (.inr h)
      unfold Lst at this
      simpa using this
     ·unfold Lst at hnotS;simpa using hnotS
     ·have:Lst (S.setIfInBounds i true) i:=(hsetS i).2 (.inl rfl)
      unfold Lst at this
      simpa using this
    omega
   have:=vo (r:=r) (K:=wpAnyIn (FW r) 0 P .any ops (fm Γ X Q) fuel (S.setIfInBounds i true)) (Q':=fm Γ X Q) F I hoL hnotS hpre (fun k' pl' a' w' I'=>ih k' _ pl' a' w' I' hcnt')
   unfold wpOpIn
   simp only[ho]
   exact this
end
section
variable {P:Program} {Γ:ae} {X:Ctx} {r:Option Nat} {call:CallF} {ops:Array Oper} {pos:Nat→Nat} {late:Nat→Bool} {s:AS} {tF:List D} {hs:List (List Blk)} {ts:List (List D)} {Q:Exit→AS→Prop}
theorem VW.draw5(ok:POk P){id:Nat}(F:Fx P Γ ops.toList (bp ops.toList []) pos late s.m s.t tF hs ts)(h0:hs.getD 0 []=s.h)
  (hun:∀x,(∀o∈ops.toList,o.dst ≠ some x)→tF.getD x .any=s.t.getD x .any) (hQ:Q .normal {t:=tF,h:=hs.getD ops.size [],m:=s.m}):VW P Γ X r (.region id ops true) Q s:=by
 intro a w hst
 refine wpIn_region_any ok.mixed ?_
 have hrep:∀j,(II ops.size false).getD j false=false:=by
  intro j
  simp only[HM,Mo]
  split<;>rfl
 refine sh (t0:=s.t) (hs:=hs) F hQ ops.size 0 _ [] a _ ⟨by simp,fun k o hk _ _ _ _=>?_,?_,fun e he=>by simp at he,List.Pairwise.nil,fun e he=>by simp at he,fun c o _ _=>?_,.inl rfl⟩ ?_
 ·unfold Lst at hk;rw[hrep] at hk;cases hk
 ·have e1:j6 ops.toList (II ops.size false) [] s.t tF=s.t:=by
   rw[tp]
   refine aS (by rw[aj,F.len]) fun x hx=>?_
   rw[aj] at hx
   rw[dH hx]
   split
   ·rfl
   ·rename_i hp
    refine hun x fun o ho hd=>hp ?_
    obtain⟨k,hk⟩:=JV.1 ho
    exact b4.2 ⟨k,o,hk,hd,hrep k⟩
  have hh:hid [] X.O=X.O:=by
   funext k'
   apply propext
   simp[hid]
  obtain⟨l,R,E,rt,rd⟩:=hst
  obtain⟨R',E'⟩:=R.of_heap (w':={w with drawn:=w.drawn+1}) rfl ⟨rfl,rfl,rfl,(by first|exact Hq _|exact Nat.le_succ _)⟩
  refine⟨l,?_,?_,?_,?_,fun e he=>by simp at he⟩
  ·rw[h0,hh];exact R'
  ·rw[h0];exact E.trans E'
  ·rw[h0,hh,List.map_nil,e1];exact E'.relL rt
  ·rw[h0];exact rd
 ·unfold Lst
  rw[hrep]
  simp
 ·refine Jo MS (by simp)
end
def vq(B:List Nat)(i j:Nat):Bool:=!(B.getD i 0).testBit j&&!(B.getD j 0).testBit i
def lu(L:List Oper)(B:List Nat):List Nat :=
 (L.zipIdx.filter fun p=>freeOp p.1.op&&p.1.guard.isNone&&(fu L).any fun c=>c != p.2&&vq B p.2 c).map (·.2)
def CQ(B:List Nat)(lt:List Nat):List Nat→List Nat→List Nat
 | [],pend=>pend
 | j::js,pend =>
  if lt.contains j then CQ B lt js (pend++[j])
  else (pend.filter fun i=>(B.getD j 0).testBit i)++j::CQ B lt js (pend.filter fun i=>!(B.getD j 0).testBit i)
def zT(L:List Oper)(B:List Nat)(lt:List Nat):List Nat:=CQ B lt (H7 L.length) []
def aW(ord:List Nat)(i:Nat):Nat:=ord.idxOf i
def c9(L:List Oper)(B:List Nat)(ord:List Nat)(lt:List Nat):Bool :=
 (Qd (ord.length=L.length)&&(ord.zipIdx.all fun p=>aW ord p.1==p.2&&Qd (p.1<L.length))) &&
 L.zipIdx.all fun p =>
  (Qd (aW ord p.2<L.length) &&
  (ord[aW ord p.2]? == some p.2)) &&
  ((p.1.after.toList.all fun e=>!H6 .any e||Qd (e.on<p.2)) &&
  ((H7 (p.2+1)).all fun j=>!(B.getD p.2 0).testBit j||Qd (aW ord j<aW ord p.2))) &&
  ((L.zipIdx.all fun q=>(p.2==q.2||p.1.dst.isNone||!(p.1.dst==q.1.dst)) &&
   (quietOp p.1.op||quietOp q.1.op||lt.contains p.2||!Qd (aW ord q.2<aW ord p.2)||(B.getD p.2 0).testBit q.2)) &&
  ((bP L p.1).all fun x=>L.zipIdx.all fun q=>!(q.1.dst==some x) ||
   ((B.getD p.2 0).testBit q.2&&(!lt.contains q.2||L.zipIdx.all fun s=>quietOp s.1.op||!Qd (aW ord s.2<aW ord q.2)||(B.getD p.2 0).testBit s.2)) ||
   (!(B.getD p.2 0).testBit q.2&&(B.getD q.2 0).testBit p.2))) &&
  (!lt.contains p.2||(freeOp p.1.op&&p.1.guard.isNone&&!quietOp p.1.op))
def nk(f:Value→Value→Bool):List Value→List Value→Bool
 | [],[]=>true
 | a::as,b::bs=>f a b&&nk f as bs
 | _,_=>false
theorem qA{f:Value→Value→Bool}(hf:∀a b,f a b=true→a=b):∀{a b:List Value},nk f a b=true→a=b
 | [],[],_=>rfl
 | a::as,b::bs,h=>by simp only[nk,G6] at h;rw[hf _ _ h.1,qA hf h.2]
 | [],_::_,h=>by simp[nk] at h
 | _::_,[],h=>by simp[nk] at h
def wZ:Nat→Value→Value→Bool
 | _,.bool a,.bool b=>a==b
 | _,.int k a,.int k' b=>Qd (k=k')&&Qd (a=b)
 | _,.string a,.string b=>eqS a b
 | _,.slice none a b,.slice none c d=>a==c&&b==d
 | n+1,.agg ⟨a⟩,.agg ⟨b⟩=>nk (wZ n) a b
 | _,_,_=>false
theorem zU:∀(n:Nat) (a b:Value),wZ n a b=true→a=b:=by
 intro n
 induction n with
 | zero =>
  intro a b h
  unfold wZ at h
  split at h<;>simp_all[eqS]
  ·rename_i x y
   cases x;cases y
   simp only[K1]
   exact h
 | succ n ih =>
  intro a b h
  unfold wZ at h
  split at h<;>simp_all[eqS]
  ·rename_i x y
   cases x;cases y
   simp only[K1]
   exact h
  ·exact qA ih h
def CS:Value→Value→Bool
 | .bool a,.bool b=>a==b
 | .int k a,.int k' b=>Qd (k=k')&&Qd (a=b)
 | .string a,.string b=>eqS a b
 | .pointer none,.pointer none=>true
 | .nilFunc,.nilFunc=>true
 | .map none,.map none=>true
 | .slice none a b,.slice none c d=>a==c&&b==d
 | .tuple ⟨[]⟩,.tuple ⟨[]⟩=>true
 | .nilIface,.nilIface=>true
 | .iface t a,.iface u b=>t==u&&wZ 3 a b
 | .func (.func f) ⟨[]⟩ ⟨[]⟩,.func (.func g) ⟨[]⟩ ⟨[]⟩=>f==g
 | _,_=>false
theorem zV{a b:Value}(h:CS a b=true):a=b:=by
 unfold CS at h
 split at h<;>simp_all[eqS]
 ·rename_i x y
  cases x;cases y
  simp only[K1]
  exact h
 ·exact zU _ _ _ h.2
mutual
def lv:Dp→Dp→Bool
 | .v a,.v b=>CS a b
 | .sl a,.sl b=>eG a b
 | _,_=>false
def eG:List (List Dp)→List (List Dp)→Bool
 | [],[]=>true
 | a::as,b::bs=>du a b&&eG as bs
 | _,_=>false
def du:List Dp→List Dp→Bool
 | [],[]=>true
 | a::as,b::bs=>lv a b&&du as bs
 | _,_=>false
end
mutual
theorem sameDp_eq:∀{a b:Dp},lv a b=true→a=b
 | .v a,.v b,h=>by simp only[lv] at h;rw[zV h]
 | .sl a,.sl b,h=>by simp only[lv] at h;rw[sameRows_eq h]
 | .v _,.sl _,h=>by simp[lv] at h
 | .sl _,.v _,h=>by simp[lv] at h
theorem sameRows_eq:∀{a b:List (List Dp)},eG a b=true→a=b
 | [],[],_=>rfl
 | a::as,b::bs,h=>by simp only[eG,G6] at h;rw[sameCells_eq h.1,sameRows_eq h.2]
 | [],_::_,h=>by simp[eG] at h
 | _::_,[],h=>by simp[eG] at h
theorem sameCells_eq:∀{a b:List Dp},du a b=true→a=b
 | [],[],_=>rfl
 | a::as,b::bs,h=>by simp only[du,G6] at h;rw[sameDp_eq h.1,sameCells_eq h.2]
 | [],_::_,h=>by simp[du] at h
 | _::_,[],h=>by simp[du] at h
end
mutual
def sameD:D→D→Bool
 | .p a,.p b=>lv a b
 | .any,.any=>true
 | .ref a,.ref b=>Qd (a=b)
 | .ep a,.ep b=>du a b
 | .csl a,.csl b=>eG a b
 | .fn (.func f) a c,.fn (.func g) b d=>f==g&&ij a b&&ij c d
 | .fn (.yield f) a c,.fn (.yield g) b d=>f==g&&ij a b&&ij c d
 | .agg a,.agg b=>ij a b
 | .tup a,.tup b=>ij a b
 | _,_=>false
def ij:List D→List D→Bool
 | [],[]=>true
 | a::as,b::bs=>sameD a b&&ij as bs
 | _,_=>false
end
mutual
theorem fV:∀{a b:D},sameD a b=true→a=b
 | .p a,b,h=>by cases b<;>simp only[sameD,HO] at h;rw[sameDp_eq h]
 | .any,b,h=>by cases b<;>simp only[sameD,HO] at h;rfl
 | .ref a,b,h=>by cases b<;>simp only[sameD,HO,decide_eq_true_eq] at h;rw[h]
 | .ep a,b,h=>by cases b<;>simp only[sameD,HO] at h;rw[sameCells_eq h]
 | .csl a,b,h=>by cases b<;>simp only[sameD,HO] at h;rw[sameRows_eq h]
 | .fn f a c,b,h=>by
  cases b<;>try (cases f<;>simp[sameD] at h;done)
  rename_i g b d
  cases f<;>try (simp[sameD] at h;done)
  all_goals
   cases g<;>try (simp[sameD] at h;done)
   simp only[sameD,G6,beq_iff_eq] at h
   rw[h.1.1,sameL_eq h.1.2,sameL_eq h.2]
 | .agg a,b,h=>by cases b<;>simp only[sameD,HO] at h;rw[sameL_eq h]
 | .tup a,b,h=>by cases b<;>simp only[sameD,HO] at h;rw[sameL_eq h]
 | .grd _ _,b,h=>by cases b<;>simp[sameD] at h
theorem sameL_eq:∀{a b:List D},ij a b=true→a=b
 | [],[],_=>rfl
 | a::as,b::bs,h=>by simp only[ij,G6] at h;rw[fV h.1,sameL_eq h.2]
 | [],_::_,h=>by simp[ij] at h
 | _::_,[],h=>by simp[ij] at h
end
def B1(P:Program)(Γ:ae)(L:List Oper)(B:List Nat)(tF:List D)(hs:List (List Blk))(ts:List (List D)):Bool :=
 L.zipIdx.all fun p=>!quietOp p.1.op||(match aI L (ts.getD p.2 []) p.1.guard with
  | some true=>(lr L).all fun k=>!jk L B p.2 k||(match opSem P Γ (ts.getD p.2 []) (hs.getD k []) p.1.op with
   | some (true,d,_)=>(match p.1.dst with|some x=>sameD (tF.getD x .any) d|none=>true)
   | _=>false)
  | some false=>true
  | none=>false)
theorem nl{f:D→D}(hf:FixOk f){L:List Oper}{t:List D}{g:Option (Nat×Bool)}{b:Bool}(h:aI L t g=some b):aI L (t.map f) g=some b:=by
 unfold aI at h ⊢
 split at h
 ·exact h
 ·split at h
  ·rename_i x hx
   simp only[HI,IJ] at h ⊢
   cases ht:t[x]? with
   | none=>simp[ht,guardV] at h
   | some d =>
    simp only[ht,Ij,HD] at h ⊢
    have h0:=h
    unfold guardV at h
    split at h
    ·rw[hf.pure];exact h0
    ·rw[hf.gd];exact h0
    ·simp at h
  ·exact h
theorem vt{P:Program}{Γ:ae}{L:List Oper}{B:List Nat}{tF:List D}{hs:List (List Blk)}{ts:List (List D)}(h:B1 P Γ L B tF hs ts=true):jl P Γ L B tF hs ts:=by
 intro i o ho hq ⟨f,hf,hg⟩ k hk hc
 have:=aQ h ho
 simp only[hq,JW,It] at this
 split at this
 ·have:=Hs.1 this k hk
  simp only[hc,JW,It] at this
  split at this
  ·rename_i d h' hop
   refine⟨id,d,h',FixOk.id,by rw[List.map_id];exact hop,fun x hx=>?_⟩
   rw[hx] at this
   rw[fV this]
   exact KX _
  ·simp at this
 ·rename_i hg'
  rw[nl hf hg'] at hg
  cases hg
 ·cases this
def ik(L:List Oper)(ord:List Nat):List Oper:=ord.map fun i=>L.getD i default
def eH(L:List Oper)(ord:List Nat):List Nat:=0::(fu L).map fun c=>aW ord c+1
def GM(L:List Oper)(ord lt:List Nat)(hs:List (List Blk)):Bool :=
 lt.all fun i=>(eH L ord).all fun k=>(hs.getD k []).all (Ho (hs.getD k []).length) &&
  ((hs.getD (aW ord i+1) []).drop (hs.getD (aW ord i) []).length).all (Ho (hs.getD k []).length)
def jn(L:List Oper)(B ord lt:List Nat)(i k:Nat):Bool :=
 (fu L).all fun c=>if aW ord c<k then !(B.getD c 0).testBit i else (!(B.getD i 0).testBit c||lt.contains c)
def w4(P:Program)(Γ:ae)(L:List Oper)(B ord lt:List Nat)(tF:List D)(hs:List (List Blk))(ts:List (List D)):Bool :=
 L.zipIdx.all fun p=>!quietOp p.1.op||(match aI L (ts.getD (aW ord p.2) []) p.1.guard with
  | some true=>(eH L ord).all fun k=>!jn L B ord lt p.2 k||(match opSem P Γ (ts.getD (aW ord p.2) []) (hs.getD k []) p.1.op with
   | some (true,d,_)=>(match p.1.dst with|some x=>sameD (tF.getD x .any) d|none=>true)
   | _=>false)
  | _=>true)
section
variable {P:Program} {Γ:ae} {call:CallF} {m:List Nat} {L:List Oper} {B ord lt:List Nat} {t0 tF:List D} {hs:List (List Blk)} {ts:List (List D)}
structure Ord (L:List Oper) (ord:List Nat):Prop where
 len:ord.length=L.length
 at':∀(i:Nat) (o:Oper),L[i]? = some o→aW ord i<L.length∧ord[aW ord i]? = some i
 back:∀(q i:Nat),ord[q]? = some i→aW ord i=q∧i<L.length
theorem w5(hO:Ord L ord){i:Nat}{o:Oper}(h:L[i]? = some o):(ik L ord)[aW ord i]? = some o:=by
 unfold ik
 rw[IJ,(hO.at' i o h).2]
 simp[HI,h]
theorem jo(hO:Ord L ord){q:Nat}{o:Oper}(h:(ik L ord)[q]? = some o):∃i,L[i]? = some o∧aW ord i=q:=by
 unfold ik at h
 rw[IJ,Ha] at h
 obtain⟨i,h1,h2⟩:=h
 obtain⟨h3,h4⟩:=hO.back q i h1
 refine⟨i,?_,h3⟩
 rw[←h2,HI,HE h4]
 rfl
end
section
variable {P:Program} {Γ:ae} {call:CallF} {m:List Nat} {L:List Oper} {ord lt:List Nat} {t0 tF:List D} {h0:List Blk} {hs:List (List Blk)} {ts:List (List D)}
theorem B2(h:c9 L (bp L []) ord lt=true):Ord L ord:=by
 unfold c9 at h
 simp only[G6,decide_eq_true_eq] at h
 obtain⟨⟨h1,h2⟩,h3⟩:=h
 refine⟨h1,fun i o ho=>?_,fun q i hq=>?_⟩
 ·have:=aQ h3 ho
  simp only[G6,decide_eq_true_eq,beq_iff_eq] at this
  exact this.1.1.1
 ·have:=Hs.1 h2 (i,q) (by rw[List.mk_mem_zipIdx_iff_getElem?];exact hq)
  simpa using this
theorem tq(_hO:Ord L ord){k:Nat}(hk:Cand L (aW ord) k):k∈eH L ord:=by
 unfold eH
 rcases hk with rfl|⟨c,o,ho,hq,rfl⟩
 ·exact Ix ..
 ·exact Jl _ (HS.2 ⟨c,ni ho hq,rfl⟩)
theorem B3(hs0:c9 L (bp L []) ord lt=true)(hr:runR P Γ m L Eq (· = id) (ik L ord) t0 h0 tF hs ts)(hi:GM L ord lt hs=true) (hq:∀(i:Nat) (o:Oper),L[i]? = some o→quietOp o.op=true→aI L (ts.getD (aW ord i) []) o.guard=some true→∀k∈eH L ord,jn L (bp L []) ord lt i k=true →
   ∃d h',opSem P Γ (ts.getD (aW ord i) []) (hs.getD k []) o.op=some (true,d,h')∧∀x,o.dst=some x→tF.getD x .any=d) :
  Fx P Γ L (bp L []) (aW ord) (fun i=>lt.contains i) m t0 tF hs ts∧hs.getD 0 []=h0∧∀x,(∀o∈L,o.dst ≠ some x)→tF.getD x .any=t0.getD x .any:=by
 have hO:=B2 hs0
 have hst:=hs0
 unfold c9 at hst
 simp only[G6] at hst
 have hall:=hst.2
 have fact:=fun {i:Nat} {o:Oper} (ho:L[i]? = some o)=>aQ hall ho
 simp only[G6] at fact
 have edge:∀(i:Nat) (o:Oper),L[i]? = some o→∀e∈o.after.toList,H6 .any e=true→e.on<i:=by
  intro i o ho e he hb
  have:=Hs.1 (fact ho).1.1.2.1 e he
  simpa[hb] using this
 have uniq:∀(i j:Nat) (o o':Oper) (x:Tmp),L[i]? = some o→L[j]? = some o'→o.dst=some x→o'.dst=some x→i=j:=by
  intro i j o o' x ho ho' hd hd'
  have:=aQ (fact ho).1.2.1 ho'
  simp only[G6] at this
  have:=this.1
  simpa[hd,hd'] using this
 obtain⟨g1,g2,g3,g4,g5⟩:=eD _ _ _ _ _ _ hr
 have inj:∀(i j:Nat) (o o':Oper),L[i]? = some o→L[j]? = some o'→aW ord i=aW ord j→i=j:=by
  intro i j o o' hi' hj he
  have h1:=(hO.at' i o hi').2
  have h2:=(hO.at' j o' hj).2
  rw[he,h2] at h1
  simpa using h1.symm
 have posB:∀(i:Nat) (o:Oper) (j:Nat),L[i]? = some o→((bp L []).getD i 0).testBit j=true→aW ord j<aW ord i:=by
  intro i o j ho hb
  have hcl:ft L (fun x=>x≤i):=fun k o' hk ho' e he hbe=>by
   have:=edge k o' ho' e he hbe
   show e.on≤i
   omega
  have h1:j≤i:=bn hcl (k:=i) (Hq i) j hb
  have:=Hs.1 (fact ho).1.1.2.2 j (by simp;omega)
  rw[hb] at this
  simpa using this
 have hlen:(ik L ord).length=L.length:=by unfold ik;rw[List.length_map,hO.len]
 have hatP:∀(i:Nat) (o:Oper),L[i]? = some o→∃call,CallF.Ok P Γ call∧∃d,ce P Γ call m L (ts.getD (aW ord i) []) (hs.getD (aW ord i) []) o=some (d,hs.getD (aW ord i+1) []) ∧
   (∀x,(∀(j:Nat) (o':Oper),L[j]? = some o'→aW ord i≤aW ord j→o'.dst ≠ some x)→tF.getD x .any=(ts.getD (aW ord i) []).getD x .any) ∧
   (∀x,(∀(j:Nat) (o':Oper),L[j]? = some o'→aW ord j<aW ord i→o'.dst ≠ some x)→(ts.getD (aW ord i) []).getD x .any=t0.getD x .any) ∧
   (∀x,o.dst=some x→x<tF.length→tF.getD x .any=d):=by
  intro i o ho
  obtain⟨call,hco,f,d',d,⟨hf,k1,rfl⟩,k2,k3,k4⟩:=g5 (aW ord i) o (w5 hO ho)
  rw[hf,List.map_id] at k1
  refine⟨call,hco,d',k1,fun x hx=>k2 x fun q o' hle hq'=>?_,fun x hx=>k3 x fun q o' hle hq'=>?_,fun x hx hlt=>k4 x hx (fun q o' hlt' hq'=>?_) (by rw[←g1];exact hlt)⟩
  ·obtain⟨j,hj,rfl⟩:=jo hO hq'
   exact hx j o' hj hle
  ·obtain⟨j,hj,rfl⟩:=jo hO hq'
   exact hx j o' hj hle
  ·obtain⟨j,hj,rfl⟩:=jo hO hq'
   intro hd
   have:=uniq j i o' o x hj ho hd hx
   subst this
   omega
 have const1:∀q o,(ik L ord)[q]? = some o→quietOp o.op=true→hs.getD (q+1) []=hs.getD q []:=by
  intro q o ho hqo
  obtain⟨call,hco,f,d',d,⟨_,k1,_⟩,_⟩:=g5 q o ho
  exact gD hqo k1
 have const:∀n k,(∀c o,L[c]? = some o→quietOp o.op=false→¬(k≤aW ord c∧aW ord c<k+n))→k+n≤L.length→hs.getD (k+n) []=hs.getD k []:=by
  intro n
  induction n with
  | zero=>intro k _ _;rfl
  | succ n ih =>
   intro k h1 h2
   have hlt:k+n<(ik L ord).length:=by omega
   have ho:=HE hlt
   obtain⟨j,hj,hpj⟩:=jo hO ho
   have hqo:quietOp ((ik L ord)[k+n]).op=true:=by
    rw[←Bool.not_eq_false]
    exact fun hf=>h1 j _ hj hf (by omega)
   rw[←JY,const1 _ _ ho hqo]
   exact ih k (fun c o hc1 hc2=>fun hx=>h1 c o hc1 hc2 (by omega)) (by omega)
 refine⟨⟨edge,posB,uniq,inj,fun i o ho=>(hO.at' i o ho).1,?_,?_,?_,?_,hatP,g1,const,?_,?_⟩,?_,?_⟩
 ·intro i o x ho hx k o' hk hd
  have:=Hs.1 (fact ho).1.2.2 x hx
  have:=aQ this hk
  simp only[hd,beq_self_eq_true,JW,It,Bool.or_eq_true,G6] at this
  rcases this with h|h
  ·exact .inl h.1
  ·exact .inr h.2
 ·intro c c' o o' hc hc' hq1 hq2 hl hp
  have:=aQ (fact hc).1.2.1 hc'
  simp only[G6] at this
  have:=this.2
  rw[hq1,hq2,hl] at this
  simpa[hp] using this
 ·intro i o ho hl
  have:=(fact ho).2
  simp only[hl,JW,It,G6,IB,Option.isNone_iff_eq_none] at this
  exact⟨this.1.1,this.2,this.1.2⟩
 ·intro i j o o' x ho hx hj hd hl hb c o2 hc hq2 hp
  have:=Hs.1 (fact ho).1.2.2 x hx
  have:=aQ this hj
  simp only[hd,beq_self_eq_true,JW,It,hb,Bool.true_and,hl,Bool.false_and,Bool.or_false] at this
  have:=aQ this hc
  simpa[hq2,hp] using this
 ·intro i o k x ho hl hk hx
  have h1:=Hs.1 hi i (by simpa using hl)
  have h2:=Hs.1 h1 k (tq hO hk)
  simp only[G6] at h2
  refine⟨h2.1,?_⟩
  have:=h2.2
  rw[hx] at this
  simpa using this
 ·intro i o ho hqo hg k hk hcomp
  have hc:jn L (bp L []) ord lt i k=true:=by
   unfold jn
   rw[Hs]
   intro c hc1
   obtain⟨o',ho',hq'⟩:=bM hc1
   obtain⟨k1,k2⟩:=hcomp c o' ho' hq'
   split
   ·rename_i hlt
    rw[k1 hlt];rfl
   ·rename_i hlt
    cases hb:((bp L []).getD i 0).testBit c
    ·rfl
    ·simpa using k2 (by omega) hb
  exact hq i o ho hqo hg k (tq hO hk) hc
 ·simp[HI,g3]
 ·intro x hx
  refine g2 x fun o ho=>?_
  obtain⟨q,hq'⟩:=JV.1 ho
  obtain⟨j,hj,_⟩:=jo hO hq'
  exact hx o (List.mem_of_getElem? hj)
theorem fx_of(hs0:c9 L (bp L []) ord lt=true)(hr:runR P Γ m L Eq (· = id) (ik L ord) t0 h0 tF hs ts)(hi:GM L ord lt hs=true)(hq:w4 P Γ L (bp L []) ord lt tF hs ts=true):
  Fx P Γ L (bp L []) (aW ord) (fun i=>lt.contains i) m t0 tF hs ts∧hs.getD 0 []=h0∧∀x,(∀o∈L,o.dst ≠ some x)→tF.getD x .any=t0.getD x .any:=by
 refine B3 hs0 hr hi fun i o ho hqo hg k hk hc=>?_
 have h1:=aQ hq ho
 simp only[hqo,JW,It,hg] at h1
 have h2:=Hs.1 h1 k hk
 simp only[hc,JW,It] at h2
 split at h2
 ·rename_i d h' hop
  refine⟨d,h',hop,fun x hx=>?_⟩
  rw[hx] at h2
  exact fV h2
 ·simp at h2
end
def runLate(P:Program)(Γ:ae)(call:CallF)(m:List Nat)(ops:List Oper)(B ord lt:List Nat)(t:List D)(h:List Blk):Option (List D×List Blk) :=
 match c9 ops B ord lt with
 | true=>match GL P Γ call m ops (ik ops ord) t h with
  | some (tF,hs,ts)=>match GM ops ord lt hs with
   | true=>match w4 P Γ ops B ord lt tF hs ts with
    | true=>some (tF,hs.getD ops.length [])
    | false=>none
   | false=>none
  | none=>none
 | false=>none
def lw(P:Program)(Γ:ae)(call:CallF)(m:List Nat)(ops:List Oper)(draw:Bool)(t:List D)(h:List Blk):Option (List D×List Blk) :=
 match draw with
 | false=>ln P Γ call m ops ops t h
 | true=>match gB ops (bp ops []) with
  | true=>match GL P Γ call m ops ops t h with
   | some (tF,hs,ts)=>match B1 P Γ ops (bp ops []) tF hs ts with
    | true=>some (tF,hs.getD ops.length [])
    | false=>none
   | none=>none
  | false=>runLate P Γ call m ops (bp ops []) (zT ops (bp ops []) (lu ops (bp ops []))) (lu ops (bp ops [])) t h
theorem VW.runLate{P:Program}{Γ:ae}{X:Ctx}{r:Option Nat}{call:CallF}{s:AS}{Q:Exit→AS→Prop}(ok:POk P)(hc:call.Ok P Γ){id:Nat}{ops:Array Oper}{ord lt:List Nat}{t':List D}{h':List Blk}
  (hr:runLate P Γ call s.m ops.toList (bp ops.toList []) ord lt s.t s.h=some (t',h')) (hQ:Q .normal {t:=t',h:=h',m:=s.m}):VW P Γ X r (.region id ops true) Q s:=by
 unfold Vi.runLate at hr
 split at hr
 ·rename_i hs0
  split at hr
  ·rename_i tF hs ts hrun
   split at hr
   ·rename_i hi
    split at hr
    ·rename_i hq
     simp only[G0,G4] at hr
     obtain⟨rfl,rfl⟩:=hr
     obtain⟨F,h0,hun⟩:=fx_of hs0 (jM (wk:=Eq) (fx:=(· = _root_.id)) (fun _=>rfl) rfl hc _ _ _ _ _ _ hrun) hi hq
     exact VW.draw5 ok F h0 hun (by simpa using hQ)
    ·simp at hr
   ·simp at hr
  ·simp at hr
 ·simp at hr
theorem VW.run{P:Program}{Γ:ae}{X:Ctx}{r:Option Nat}{call:CallF}{s:AS}{Q:Exit→AS→Prop}(ok:POk P)(hc:call.Ok P Γ){id:Nat}{ops:Array Oper}{draw:Bool}{t':List D}{h':List Blk}
  (hr:lw P Γ call s.m ops.toList draw s.t s.h=some (t',h')) (hQ:Q .normal {t:=t',h:=h',m:=s.m}):VW P Γ X r (.region id ops draw) Q s:=by
 unfold lw at hr
 cases draw with
 | false=>exact VW.region hc hr hQ
 | true =>
  simp only at hr
  split at hr
  ·rename_i hD
   split at hr
   ·rename_i tF hs ts hrun
    split at hr
    ·rename_i hqb
     simp only[G0,G4] at hr
     obtain⟨rfl,rfl⟩:=hr
     exact VW.draw ok (ie hD) (jM KX Vi.FixOk.id hc _ _ _ _ _ _ hrun) (vt hqb) (by simpa using hQ)
    ·simp at hr
   ·simp at hr
  ·exact VW.runLate ok hc hr hQ
end Go.Vi
