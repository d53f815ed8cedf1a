/- A part of the proof; no conditions of its own. -/
import Derived.Test.YtelhocjibmofiaaGreatDoorV4
open Decidable renaming decide -> Zd
open Bool renaming and_eq_true -> MT, not_eq_true' -> OC, eq_false_iff -> Px, false_eq_true -> NC, not_true -> PS, false_or -> PT
open Array renaming getD_eq_getD_getElem? -> NI, getElem?_eq_getElem -> NL, all_eq_true_iff_forall_mem -> Pa, replicate -> QG, getElem?_replicate -> SH, toList_setIfInBounds -> Sz
open Option.some renaming injEq -> MM
open Prod.mk renaming injEq -> MP
open Go.Vi.Wk renaming refl -> Rf
open List renaming set_eq_of_length_le -> Q1, getD_eq_getElem?_getD -> Nx, getElem?_map -> Om, range -> N9, getElem?_eq_getElem -> Nd, getElem?_eq_some_iff -> MR, mem_cons -> NF, mem_map -> Nt, countP_eq_zero -> TH, filter_eq_nil_iff -> PL, mem_filter -> Q5, mem_append -> NY, all_eq_true -> Ni, mem_filterMap -> TV, mem_iff_getElem? -> P7, countP_le_length -> Tf, getElem?_append_right -> Nm, getElem?_cons_zero -> Np, getElem?_append_left -> M4, pairwise_append -> Tr, mem_cons_self -> OI, pairwise_cons -> R8, getElem?_set_ne -> Nu, mem_cons_of_mem -> O2, map_cons -> NW
open Nat renaming le_of_not_lt -> PG, add_assoc -> Qb, le_refl -> M5, le_trans -> OP, sub_self -> Q3
open Go.Region renaming ready -> P2, binds -> Ol, wanted -> N5
open Option renaming getD_some -> OA, map_some -> Nr, mem_toList -> Sd, map_eq_some_iff -> MV
open Classical renaming byContradiction -> Od
open Go.Vi.Uc renaming inn -> MY
open Go.Oper renaming semAt_eq -> Qm
open ByteArray.mk renaming injEq -> Rh
namespace Go.Vi
open Go
theorem dK{D0:List Deferred}{l:Loc}{h:aT}:∀{bs:iS} {ds:List Deferred},UP D0 l h bs ds->aF h bs=true
 | [],_,_=>rfl
 | b::bs,[],r=>by simp[UP] at r
 | b::bs,d::ds,r=>by
  simp only[UP] at r
  obtain⟨⟨T8,cp,h1,_⟩,h2⟩:=r
  have:=dK h2
  simp only[aF,List.all_cons,MT]
  exact⟨by rw[h1],this⟩
theorem St.marks{Γ:aq}{X:Ctx}{s:AS}{a:Act}{w:World}(hs:St Γ X s a w):aF s.h s.m=true:=by
 obtain⟨l,_,_,_,rd⟩:=hs
 exact dK rd
section
variable {P:Program} {Γ:aq} {X:Ctx} {r:Do} {call:XH} {ops:Is} {m:iS} {t0 tF:bY} {hs:List (aT)} {ts:List (bY)} {Q:Exit->AS->Prop}
def XV(S:IS)(j:Nat):Prop:=S.getD j false=true
structure Inv (Γ:aq) (X:Ctx) (L:oR) (m:iS) (t0 tF:bY) (hs:List (aT)) (k:Nat) (S:IS) (a:Act) (w:World):Prop where
 size:S.size=L.length
 closed:ie L (XV S)
 st:St Γ X {t:=ey L S t0 tF,h:=hs.getD k [],m:=m} a w
 zfP:k∈qc L
 chain:∀c o,L[c]? = some o->Ud o.op=false->(XV S c ↔ c<k)
theorem od{S:IS}{i j:Nat}(hi:i<S.size):XV (S.setIfInBounds i true) j ↔ j=i\/XV S j:=by
 unfold XV
 by_cases hk:j=i
 ·subst hk
  simp[NI,hi]
 ·simp[NI,hk,Ne.symm hk]
theorem ju{t:bY}{h h':aT}{L:oR}{o:Oper}{d:D}(hq:Ud o.op=true)(ω:dA P Γ call m L t h o=some (d,h')):h'=h:=by
 unfold dA at ω
 split at ω
 ·split at ω
  ·rename_i d1 h1 WW
   split at ω
   ·simp only[MM,MP] at ω
    obtain⟨rfl,rfl⟩:=ω
    unfold gW at WW
    split at WW
    ·rename_i hc;rw[hc] at hq;simp[Ud] at hq
    ·split at WW
     ·rename_i hx
      simp only[MM,MP] at WW
      obtain⟨rfl,rfl⟩:=WW
      exact b9 hq hx
     ·simp at WW
   ·simp at ω
  ·simp at ω
 ·simp only[MM,MP] at ω
  exact ω.2.symm
 ·simp at ω
theorem Bi{w:World}{av:Nat->Prop}{l:Loc}{h:aT}:∀{t t':bY} {ys:At},t'.length=t.length->(∀x,Wk (t.getD x .any) (t'.getD x .any))->U1 w av l h t ys->U1 w av l h t' ys
 | [],[],ys,_,_,r=>r
 | [],_::_,_,hl,_,_=>by simp at hl
 | _::_,[],_,hl,_,_=>by simp at hl
 | a::t,b::t',ys,hl,hw,r=>by
  cases ys with
  | nil=>simp[U1] at r
  | cons y ys =>
   simp only[U1] at r ⊢
   exact⟨hw 0 _ _ _ _ _ r.1,Bi (by simpa using hl) (λx=>by simpa using hw (x+1)) r.2⟩
theorem St.wk{s:AS}{t':bY}(hl:t'.length=s.t.length)(hw:∀x,Wk (s.t.getD x .any) (t'.getD x .any)){a:Act}{w:World}(hs:St Γ X s a w):St Γ X {t:=t',h:=s.h,m:=s.m} a w:=by
 obtain⟨l,R,E,rt,rd⟩:=hs
 exact⟨l,R,E,Bi hl hw rt,rd⟩
theorem IB{t:bY}{dst:Option Tmp}{d d':D}(hw:∀x,dst=some x->x<t.length->Wk d d')(x:Nat):Wk ((UQ t dst d).getD x .any) ((UQ t dst d').getD x .any):=by
 cases dst with
 | none=>exact Rf _
 | some y =>
  by_cases hy:y<t.length
  ·by_cases hx:y=x
   ·subst hx
    rw[eT hy,eT hy]
    exact hw y rfl hy
   ·rw[dg (by simpa using hx),dg (by simpa using hx)]
    exact Rf _
  ·have:∀e,t.set y e=t:=λe=>Q1 (PG hy)
   simp only[UQ,this]
   exact Rf _
theorem St.zjN{t:bY}{h:aT}{dst:Option Tmp}{d d':D}(hw:∀x,dst=some x->x<t.length->Wk d d'){a:Act}{w:World}(hs:St Γ X {t:=UQ t dst d,h:=h,m:=m} a w):St Γ X {t:=UQ t dst d',h:=h,m:=m} a w :=
 hs.wk (by simp[bC]) (IB hw)
theorem bc{f:D->D}(hf:f .any=.any)(t:bY)(x:Nat):(t.map f).getD x .any=f (t.getD x .any):=by
 simp only[Nx,Om]
 cases t[x]? with
 | none=>simp[hf]
 | some d=>rfl
theorem St.fix{s:AS}{f:D->D}(hf:γ f){a:Act}{w:World}(hs:St Γ X s a w):St Γ X {t:=s.t.map f,h:=s.h,m:=s.m} a w :=
 hs.wk (by simp) λx=>by rw[bc hf.any];exact(hf.both _).1
theorem St.zhl{t:bY}{h:aT}{f:D->D}(hf:γ f){dst:Option Tmp}{d d':D}(hw:Wk d d'){a:Act}{w:World}(hs:St Γ X {t:=UQ (t.map f) dst d,h:=h,m:=m} a w):St Γ X {t:=UQ t dst d',h:=h,m:=m} a w:=by
 have h1:=St.zjN (dst:=dst) (d:=d) (d':=d') (λ_ _ _=>hw) hs
 refine h1.wk (by simp[bC]) λx=>?_
 show Wk ((UQ (t.map f) dst d').getD x .any) _
 cases dst with
 | none =>
  simp only[UQ]
  rw[bc hf.any]
  exact(hf.both _).2
 | some y =>
  by_cases hx:y=x
  ·subst hx
   by_cases hy:y<t.length
   ·rw[eT hy,eT (by simpa using hy)]
    exact Rf _
   ·simp only[UQ]
    rw[Q1 (by simpa using PG hy),Q1 (PG hy),bc hf.any]
    exact(hf.both _).2
  ·rw[dg (by simpa using hx),dg (by simpa using hx),bc hf.any]
   exact(hf.both _).2
theorem zy(hD:zhK ops.toList (cD ops.toList []))(hr:zfy P Γ m ops.toList Wk γ ops.toList t0 (hs.getD 0 []) tF hs ts)
  (hq:oc P Γ ops.toList (cD ops.toList []) tF hs ts) (hQ:Q .normal {t:=tF,h:=hs.getD ops.size [],m:=m}) :
  ∀(fuel:Nat) (k:Nat) (S:IS) (a:Act) (w:World),Inv Γ X ops.toList m t0 tF hs k S a w->(N9 ops.size).countP (λj=>!S.getD j false)<=fuel ->
   wpAnyIn (FW r) 0 P .any ops (i9 Γ X Q) fuel S a w:=by
 obtain⟨zhA,_,_,_,hat⟩:=jt _ _ _ _ _ _ hr
 have hn:ops.toList.length=ops.size:=by simp
 have ziB:∀j o,ops.toList[j]? = some o->Ud o.op=true->hs.getD (j+1) []=hs.getD j []:=by
  intro j o ho ξ
  obtain⟨call,hc,f,d',d,⟨_,h1,_⟩,_⟩:=hat j o ho
  exact ju ξ h1
 have hconst:∀(n k:Nat),(∀c o,ops.toList[c]? = some o->Ud o.op=false->¬(k<=c/\c<k+n))->k+n<=ops.size->hs.getD (k+n) []=hs.getD k []:=by
  intro n
  induction n with
  | zero=>intro k _ _;rfl
  | succ n ih =>
   intro k h1 h2
   have U8:k+n<ops.toList.length:=by omega
   have ho:=Nd U8
   have ξ:Ud (ops.toList[k+n]).op=true:=by
    rw[<-Bool.not_eq_false]
    exact λhf=>h1 _ _ ho hf (by omega)
   rw[<-Qb,ziB _ _ ho ξ]
   exact ih k (λc o Uy Δ=>λhx=>h1 c o Uy Δ (by omega)) (by omega)
 have bound:∀i j o,ops.toList[i]? = some o->((cD ops.toList []).getD i 0).testBit j=true->j<i:=by
  intro i j o ho hb
  have hcl:ie ops.toList (λx=>x<=i):=λk o' hk XW e he hbe=>by
   have:=hD.zgP k o' XW e he hbe
   show e.on<=i
   omega
  have h1:j<=i:=cb hcl (k:=i) (M5 i) j hb
  have h2:=hD.self i o ho
  rcases Nat.lt_or_eq_of_le h1 with h|h
  ·exact h
  ·subst h;rw[h2] at hb;cases hb
 have fin:∀(k:Nat) (S:IS) (a:Act) (w:World),Inv Γ X ops.toList m t0 tF hs k S a w->(∀j,j<ops.size->XV S j)->i9 Γ X Q .normal a w:=by
  intro k S a w I τ
  refine⟨by simp,_,hQ,?_⟩
  have e1:ey ops.toList S t0 tF=tF:=by
   refine bu (aH ..) λx hx=>?_
   rw[aH] at hx
   refine cv λc o Uy _=>τ c ?_
   have:=(MR.1 Uy).1
   omega
  have hk:k<=ops.size:=by
   have:=I.zfP
   simp only[qc,NF,Nt] at this
   rcases this with rfl|⟨c,Uy,rfl⟩
   ·omega
   ·obtain⟨o,ho,_⟩:=dh Uy
    have:=(MR.1 ho).1
    omega
  have e2:hs.getD ops.size []=hs.getD k []:=by
   have:=hconst (ops.size-k) k (λc o Uy Δ hx=>by
    have h1:=(I.chain c o Uy Δ).1 (τ c (by omega))
    omega) (by omega)
   rwa[show k+(ops.size-k)=ops.size by omega] at this
  rw[e2]
  have:=I.st
  rw[e1] at this
  exact this
 intro fuel
 induction fuel with
 | zero =>
  intro k S a w I ziC
  have τ:∀j,j<ops.size->XV S j:=by
   intro j hj
   have h0:(N9 ops.size).countP (λj=>!S.getD j false)=0:=by omega
   rw[TH] at h0
   have:=h0 j (by simpa using hj)
   simpa[XV] using this
  refine⟨?_,fin k S a w I τ⟩
  unfold P2
  rw[PL]
  intro j hj
  have hj':j<ops.size:=by simpa using hj
  have:=τ j hj'
  have hs2:j<S.size:=by rw[I.size,hn];exact hj'
  unfold XV at this
  have h3:S.getD j true=true:=by
   simp only[NI,NL hs2,OA] at this ⊢
   exact this
  simp[h3]
 | succ fuel ih =>
  intro k S a w I ziC
  refine⟨λzeV=>?_,λi hi=>?_⟩
  ·-- nothing is ready: all is done
   refine fin k S a w I ?_
   have key:∀n,∀j,j<n->j<ops.size->XV S j:=by
    intro n
    induction n with
    | zero=>intro j hj;omega
    | succ n ihn =>
     intro j hj hjs
     by_cases hjn:j<n
     ·exact ihn j hjn hjs
     have:j=n:=by omega
     subst this
     apply Od
     intro hno
     unfold P2 at zeV
     rw[PL] at zeV
     have h1:=zeV j (by simpa using hjs)
     apply h1
     have hs2:j<S.size:=by rw[I.size,hn];exact hjs
     have ho:ops[j]? = some ops[j]:=NL hjs
     have h3:S.getD j true=false:=by
      unfold XV at hno
      simp only[NI,NL hs2,OA] at hno ⊢
      simpa using hno
     have h4:(ops[j].after.all λe=>!Ol .any e||S.getD e.on false)=true:=by
      rw[Pa]
      intro e he
      cases hb:Ol .any e
      ·rfl
      ·have U8:=hD.zgP j ops[j] (by simp) e (by simpa using he) hb
       have:=ihn e.on U8 (by omega)
       simpa[XV] using this
     rw[h3,ho]
     simpa using h4
   exact λj hj=>key (j+1) j (by omega) hj
  ·-- an operation that is ready
   unfold P2 at hi
   rw[Q5] at hi
   obtain⟨hi1,hi2⟩:=hi
   have his:i<ops.size:=by simpa using hi1
   have hiS:i<S.size:=by rw[I.size,hn];exact his
   have ho:ops[i]? = some ops[i]:=NL his
   generalize ho0:ops[i]=o at ho
   have hoL:ops.toList[i]? = some o:=by simpa using ho
   simp only[ho,Nr,OA,MT,OC] at hi2
   obtain⟨hi3,hi4⟩:=hi2
   have χ:¬XV S i:=by
    unfold XV
    simp only[NI,NL hiS,OA] at hi3 ⊢
    simp[hi3]
   have zfs:∀e∈o.after.toList,Ol .any e=true->XV S e.on:=by
    intro e he hb
    rw[Pa] at hi4
    have:=hi4 e (by simpa using he)
    simpa[hb,XV] using this
   have ε:∀j,XV (S.setIfInBounds i true) j ↔ j=i\/XV S j:=λj=>od hiS
   have Β:ie ops.toList (XV (S.setIfInBounds i true)):=by
    intro k' o' hk' XW e he hb
    rw[ε] at hk' ⊢
    rcases hk' with rfl|hk'
    ·rw[hoL] at XW
     cases XW
     exact .inr (zfs e he hb)
    ·exact .inr (I.closed k' o' hk' XW e he hb)
   have zeW:∀j,((cD ops.toList []).getD i 0).testBit j=true->j<i/\XV S j:=by
    intro j hj
    have h1:=bound i j o hoL hj
    have h2:=cb Β (k:=i) ((ε i).2 (.inl rfl)) j hj
    rw[ε] at h2
    exact⟨h1,h2.resolve_left (by omega)⟩
   obtain⟨call,hc,f,dw,d,⟨hfx,ω,hwk⟩,htF,ht0,hdF⟩:=hat i o hoL
   have zff:∀x∈cN ops.toList o,(ey ops.toList S t0 tF).getD x .any=(ts.getD i []).getD x .any:=by
    intro x hx
    by_cases hwr:∃(k':Nat) (o':Oper),ops.toList[k']? = some o'/\o'.dst=some x
    ·obtain⟨k',o',hk',hd'⟩:=hwr
     have huq:∀(j:Nat) (o2:Oper),ops.toList[j]? = some o2->o2.dst=some x->j=k':=λj o2 hj hd2=>hD.uniq j k' o2 o' x hj hk' hd2 hd'
     rcases hD.oper i o x hoL hx k' o' hk' hd' with hb|hb
     ·obtain⟨U8,hSk⟩:=zeW k' hb
      rw[cv (λk2 o2 hk2 hd2=>by rw[huq k2 o2 hk2 hd2];exact hSk)]
      exact htF x λj o2 hj ho2 hd2=>by
       have:=huq j o2 ho2 hd2
       omega
     ·have U8:=bound k' i o' hk' hb
      have hnk:¬XV S k':=λhSk=>χ (cb I.closed hSk i hb)
      rw[sa zhA hk' hd' (by unfold XV at hnk;simpa using hnk)]
      exact(ht0 x λj o2 hj ho2 hd2=>by
       have:=huq j o2 ho2 hd2
       omega).symm
    ·rw[cv (λk2 o2 hk2 hd2=>absurd ⟨k2,o2,hk2,hd2⟩ hwr)]
     exact htF x λj o2 hj ho2 hd2=>hwr ⟨j,o2,ho2,hd2⟩
   have zhw:∀x∈cN ops.toList o,(ts.getD i []).getD x .any=(ey ops.toList S t0 tF).getD x .any:=λx hx=>(zff x hx).symm
   have UT:dA P Γ call m ops.toList ((ey ops.toList S t0 tF).map f) (hs.getD i []) o=some (dw,hs.getD (i+1) []):=by
    rw[jr (t':=(ts.getD i []).map f) (λx hx=>by rw[bc hfx.any,bc hfx.any,zff x hx])];exact ω
   have zaQ:∀{a:Act} {w:World},Inv Γ X ops.toList m t0 tF hs k S a w->St Γ X {t:=(ey ops.toList S t0 tF).map f,h:=hs.getD k [],m:=m} a w:=λI=>I.st.fix hfx
   have zgZ:UQ (ey ops.toList S t0 tF) o.dst d=ey ops.toList (S.setIfInBounds i true) t0 tF:=by
    refine mX hoL hiS (λk' o' hk' x hx hx'=>hD.uniq k' i o' o x hk' hoL hx' hx) λx hx U8=>hdF x hx (λj o' hj XW hd'=>?_) ?_
    ·have:=hD.uniq j i o' o x XW hoL hd' hx
     omega
    ·rw[<-zhA];exact U8
   have zfK:(N9 ops.size).countP (λj=>!(S.setIfInBounds i true).getD j false)<=fuel:=by
    have:(N9 ops.size).countP (λj=>!(S.setIfInBounds i true).getD j false)<(N9 ops.size).countP (λj=>!S.getD j false):=by
     refine jY (λx hx=>?_) i (by simpa using his) ?_ ?_
     ·have h1:¬XV (S.setIfInBounds i true) x:=by unfold XV;simpa using hx
      rw[ε] at h1
      have:¬XV S x:=λh=>h1 (.inr h)
      unfold XV at this
      simpa using this
     ·unfold XV at χ;simpa using χ
     ·have:XV (S.setIfInBounds i true) i:=(ε i).2 (.inl rfl)
      unfold XV at this
      simpa using this
    omega
   have zjh:Ud o.op=false->k<=i:=by
    intro ξ
    have:=I.zfP
    simp only[qc,NF,Nt] at this
    rcases this with rfl|⟨c,Uy,rfl⟩
    ·omega
    ·obtain⟨o',XW,hq'⟩:=dh Uy
     have hcS:XV S c:=(I.chain c o' XW hq').2 (by omega)
     apply Od
     intro U8
     by_cases hci:c=i
     ·exact χ (hci▸hcS)
     ·exact χ (cb I.closed hcS i (hD.chain i c o o' hoL XW (by omega) ξ hq'))
   have zmz:Ud o.op=false->hs.getD i []=hs.getD k []:=by
    intro ξ
    have hk:=zjh ξ
    have:=hconst (i-k) k (λc o' Uy Δ hx=>by
     have h1:=zeW c (hD.chain c i o' o Uy hoL (by omega) Δ ξ)
     have:=(I.chain c o' Uy Δ).1 h1.2
     omega) (by omega)
    rwa[show k+(i-k)=i by omega] at this
   unfold wpOpIn
   simp only[ho]
   cases ξ:Ud o.op
   ·-- it may change the heap
    have ziE:∀a' w',St Γ X {t:=UQ (ey ops.toList S t0 tF) o.dst d,h:=hs.getD (i+1) [],m:=m} a' w'->Inv Γ X ops.toList m t0 tF hs (i+1) (S.setIfInBounds i true) a' w':=by
     intro a' w' zhv
     refine⟨by simpa using I.size,Β,by rw[<-zgZ];exact zhv,?_,?_⟩
     ·simp only[qc,NF,Nt]
      exact .inr ⟨i,qv hoL ξ,rfl⟩
     ·intro c o' XW hq'
      rw[ε,I.chain c o' XW hq']
      have hk:=zjh ξ
      constructor
      ·rintro (rfl|h)<;>omega
      ·intro h
       by_cases hci:c=i
       ·exact .inl hci
       ·have h1:=zeW c (hD.chain c i o' o XW hoL (by omega) hq' ξ)
        exact .inr ((I.chain c o' XW hq').1 h1.2)
    rw[zmz ξ] at UT
    unfold dA at UT
    split at UT
    ·rename_i hg
     split at UT
     ·rename_i d1 h1 WW
      split at UT
      ·rename_i hm
       simp only[MM,MP] at UT
       obtain⟨rfl,rfl⟩:=UT
       have hw:N5 o (yielded ops a.tmps)=true:=by
        obtain⟨l,R,E,rt,rd⟩:=zaQ I
        exact aG rt hg
       rw[if_pos hw]
       exact jV (s:={t:=(ey ops.toList S t0 tF).map f,h:=hs.getD k [],m:=m}) hc WW hm (λa' w' hs'=>ih (i+1) _ a' w' (ziE a' w' (St.zhl hfx hwk hs')) zfK) (zaQ I)
      ·simp at UT
     ·simp at UT
    ·rename_i hg
     simp only[MM,MP] at UT
     obtain⟨rfl,hh⟩:=UT
     have hw:N5 o (yielded ops a.tmps)=false:=by
      obtain⟨l,R,E,rt,rd⟩:=zaQ I
      exact aG rt hg
     rw[if_neg (by simp[hw])]
     refine⟨λ_ _=>trivial,ih (i+1) _ _ w (ziE _ w (St.zhl hfx hwk ?_)) zfK⟩
     rw[<-hh]
     exact St.skip o.dst (zaQ I)
    ·simp at UT
   ·-- it leaves the heap alone
    have ziE:∀a' w',St Γ X {t:=UQ (ey ops.toList S t0 tF) o.dst d,h:=hs.getD k [],m:=m} a' w'->Inv Γ X ops.toList m t0 tF hs k (S.setIfInBounds i true) a' w':=by
     intro a' w' zhv
     refine⟨by simpa using I.size,Β,by rw[<-zgZ];exact zhv,I.zfP,?_⟩
     intro c o' XW hq'
     rw[ε,<-I.chain c o' XW hq']
     constructor
     ·rintro (rfl|h)
      ·rw[hoL] at XW;cases XW;rw[ξ] at hq';cases hq'
      ·exact h
     ·exact .inr
    have hgF:∀f:D->D,f .any=.any->aZ ops.toList ((ts.getD i []).map f) o.guard=aZ ops.toList ((ey ops.toList S t0 tF).map f) o.guard:=λf hf =>
     fp λx hx=>by rw[bc hf,bc hf,zhw x (by unfold cN;simp only[NY,Sd];exact .inr hx)]
    unfold dA at UT
    split at UT
    ·rename_i hg
     have hw:N5 o (yielded ops a.tmps)=true:=by
      obtain⟨l,R,E,rt,rd⟩:=zaQ I
      exact aG rt hg
     rw[if_pos hw]
     have zge:lm ops.toList (cD ops.toList []) i k=true:=by
      unfold lm
      rw[Ni]
      intro c Uy
      obtain⟨o',XW,hq'⟩:=dh Uy
      split
      ·rename_i U8
       have hcS:=(I.chain c o' XW hq').2 U8
       rw[OC,Px]
       exact λhb=>χ (cb I.closed hcS i hb)
      ·rename_i U8
       rw[OC,Px]
       exact λhb=>U8 ((I.chain c o' XW hq').1 (zeW c hb).2)
     obtain⟨f2,d2,h2,ziz,WW,hd2⟩:=hq i o hoL ξ ⟨f,hfx,by rw[hgF f hfx.any];exact hg⟩ k I.zfP zge
     have hh:=b9 ξ WW
     subst hh
     rw[dF (t':=(ey ops.toList S t0 tF).map f2) o.op (λx hx=>gp λj hj=>by
      rw[bc ziz.any,bc ziz.any,zhw j (by
      unfold cN;simp only[NY,TV];exact .inl ⟨x,by simpa using hx,hj⟩)])] at WW
     refine IA (s:={t:=(ey ops.toList S t0 tF).map f2,h:=hs.getD k [],m:=m}) WW I.st.marks (λa' w' hs'=>ih k _ a' w' ⟨by simpa using I.size,Β,?_,I.zfP,?_⟩ zfK) (I.st.fix ziz)
     ·rw[<-zgZ]
      refine St.zjN (λx hx U8=>?_) (St.zhl ziz (Rf d2) hs')
      have h3:=hdF x hx (λj o' hj XW hd'=>by
       have:=hD.uniq j i o' o x XW hoL hd' hx
       omega) (by rw[aH] at U8;rw[<-zhA];exact U8)
      rw[<-h3]
      exact hd2 x hx
     ·intro c o' XW hq'
      rw[ε,<-I.chain c o' XW hq']
      constructor
      ·rintro (rfl|h)
       ·rw[hoL] at XW;cases XW;rw[ξ] at hq';cases hq'
       ·exact h
      ·exact .inr
    ·rename_i hg
     simp only[MM,MP] at UT
     obtain⟨rfl,hh⟩:=UT
     have hw:N5 o (yielded ops a.tmps)=false:=by
      obtain⟨l,R,E,rt,rd⟩:=zaQ I
      exact aG rt hg
     rw[if_neg (by simp[hw])]
     exact⟨λ_ _=>trivial,ih k _ _ w (ziE _ w (St.zhl hfx hwk (St.skip (s:={t:=(ey ops.toList S t0 tF).map f,h:=hs.getD k [],m:=m}) o.dst (zaQ I)))) zfK⟩
    ·simp at UT
theorem VW.draw{s:AS}(ok:POk P){id:Nat}(hD:zhK ops.toList (cD ops.toList []))(hr:zfy P Γ s.m ops.toList Wk γ ops.toList s.t s.h tF hs ts)
  (hq:oc P Γ ops.toList (cD ops.toList []) tF hs ts) (hQ:Q .normal {t:=tF,h:=hs.getD ops.size [],m:=s.m}):VW P Γ X r (.region id ops true) Q s:=by
 obtain⟨g1,g2,g3,g4,_⟩:=jt _ _ _ _ _ _ hr
 have h0:hs.getD 0 []=s.h:=by simp[Nx,g3]
 intro a w ω
 refine wpIn_region_any ok.mixed ?_
 rw[<-h0] at hr
 refine zy (t0:=s.t) (hs:=hs) hD hr hq hQ ops.size 0 _ a _ ?_ ?_
 ·have zgl:∀j,(QG ops.size false).getD j false=false:=by
   intro j
   simp only[NI,SH]
   split<;>rfl
  refine⟨by simp,λk o hk _ _ _ _=>?_,?_,by simp[qc],λc o _ _=>?_⟩
  ·unfold XV at hk;rw[zgl] at hk;cases hk
  ·have e1:ey ops.toList (QG ops.size false) s.t tF=s.t:=by
    refine bu (by rw[aH,g1]) λx hx=>?_
    rw[aH] at hx
    rw[gq hx]
    split
    ·rfl
    ·rename_i hp
     refine g2 x λo ho hd=>hp ?_
     obtain⟨k,hk⟩:=P7.1 ho
     exact dG.2 ⟨k,o,hk,hd,zgl k⟩
   rw[e1,h0]
   obtain⟨l,R,E,rt,rd⟩:=ω
   obtain⟨R',E'⟩:=R.of_heap (w':={w with drawn:=w.drawn+1}) rfl ⟨rfl,rfl,rfl,(by first|exact M5 _|exact Nat.le_succ _)⟩
   exact⟨l,R',E.trans E',E'.π rt,rd⟩
  ·unfold XV
   rw[zgl]
   simp
 ·refine OP Tf (by simp)
end
def jZ(x:Uc)(n:Nat):Ref:=match x with
 | .T7 _ e _=>.T7 n e
 | _=>.ptr n 0
def VR(x:Uc)(p:Option (Nat×Nat))(v:Value):Prop:=v.oneCell'=true/\match x with
 | .var _=>∃T8 cp,p=some (T8,cp)/\v=.pointer (some ⟨T8,0,none⟩)
 | .T7 es _ _=>gV p es.length v
 | _=>False
def zgq:Op->Bool
 | .alloc _ | .buildSlice ..=>true
 | .makeSlice _ n c=>!Em n c
 | _=>false
section
variable {P:Program} {Γ:aq} {O:Nat->Prop} {w w':World} {l l':Loc} {h h':aT} {x:Uc}
theorem ua{p:Option (Nat×Nat)}{v:Value}(hv:VR x p v):Ua (l.upd h.length p) (h++[x]) (jZ x h.length) v:=by
 obtain⟨h1,h2⟩:=hv
 have hs:(l.upd h.length p) h.length=p:=by simp[Loc.upd]
 refine⟨h1,?_⟩
 cases x<;>simp only at h2
 ·simp only[jZ,Nm (M5 _),Q3,Np,hs]
  exact h2
 ·simp only[jZ,Nm (M5 _),Q3,Np,hs]
  exact⟨M5 _,λ_=>h2⟩
theorem ub{v:Value}(hp:x.plain=true)(hv:Ua l (h++[x]) (jZ x h.length) v):VR x (l h.length) v:=by
 obtain⟨h1,h2⟩:=hv
 refine⟨h1,?_⟩
 cases x<;>simp only[Uc.plain,NC] at hp
 ·simpa only [jZ,Nm (M5 _),Q3,Np] using h2
 ·simp only[jZ,Nm (M5 _),Q3,Np] at h2
  simpa using h2
theorem EB{t:bY}{o:Op}{d:D}{h1:aT}(hf:zgq o=true)(hd:U6 P Γ t h o=some (true,d,h1)):
  ∃x,x.plain=true/\true=true/\d=.ref (jZ x h.length)/\h1=h++[x]/\∀h',U6 P Γ t h' o=some (true,.ref (jZ x h'.length),h'++[x]):=by
 cases o<;>simp only[zgq,NC] at hf
 ·rename_i e
  simp only[U6,MV,nW,MP] at hd
  obtain⟨cs,h2,_,rfl,rfl⟩:=hd
  exact⟨.var cs,rfl,rfl,rfl,rfl,λh'=>by simp[U6,h2,nW,jZ]⟩
 ·rename_i ty n ps
  simp only[U6,MV,MP] at hd
  obtain⟨⟨d',h2⟩,hb,_,rfl,rfl⟩:=hd
  unfold eL at hb
  split at hb
  ·rename_i e he
   split at hb
   ·rename_i sz z hsz hz
    split at hb
    ·rename_i hc
     split at hb
     ·rename_i cs hcs
      simp only[MM,MP] at hb
      obtain⟨rfl,rfl⟩:=hb
      exact⟨.T7 (chunk sz n cs) 0 sz,rfl,rfl,rfl,rfl,λh'=>by simp[U6,eL,he,hsz,hz,hc,hcs,jZ]⟩
     ·simp at hb
    ·simp at hb
   ·simp at hb
  ·simp at hb
 ·rename_i ty n c
  have hro:Em n c=false:=by simpa[zgq] using hf
  simp only[U6,hro,rK] at hd
  split at hd
  ·rename_i e k1 n1 k2 c1 he hn hc
   split at hd
   ·rename_i sz by' z hsz hby hz
    split at hd
    ·rename_i hl
     simp only[MM,MP] at hd
     obtain⟨hb,rfl,rfl⟩:=hd
     exact⟨.T7 (List.replicate n1.toNat z) 0 sz,rfl,rfl,rfl,rfl,λh'=>by simp only[U6,hro,rK,he,hn,hc,hsz,hby,hz,hl,if_true,hb,jZ]⟩
    ·simp at hd
   ·simp at hd
  ·simp at hd
theorem Bj(R:UJ Γ O w l h){t:bY}{a:Act}(ht:U1 w (Ub O l h) l h t a.tmps.toList){o:Oper}(hp:x.plain=true)
  (hd:U6 P Γ t h o.op=some (true,.ref (jZ x h.length),h++[x])) (hi:h.all (MY h.length)=true) (hx:x.inn h.length=true) :
  ∃v w' l' p,(execOp a.eval o).run P w=.ok (.value v) w'/\UJ Γ (mN O p) w' l' h/\Ext w l h w' l' h/\Pd w' (Ub (mN O p) l' h) l' h x p/\VR x p v /\
   (∀k c,p=some (k,c)->w.heap.size<=k/\¬O k):=by
 obtain⟨nx,v,w',l',h1,h2,R',E',rd⟩:=jp R ht hd
 obtain⟨R2,hP⟩:=R'.hide hp hi hx
 have E2:=E'.take
 rw[show(h++[x]).take h.length=h by simp] at E2
 have hv:VR x (l' h.length) v:=ub hp (by simpa[Rel] using rd)
 have hnx:nx=.value v:=by
  rcases h2 with h2|⟨_,h2⟩
  ·exact h2
  ·exfalso
   obtain⟨hv1,hv2⟩:=hv
   rw[h2] at hv2
   cases x<;>simp only[Uc.plain,NC] at hp
   ·obtain⟨_,_,_,h3⟩:=hv2
    simp[undef] at h3
   ·simp only at hv2
    unfold gV at hv2
    split at hv2<;>simp[undef] at hv2
 rw[hnx] at h1
 refine⟨v,w',l',l' h.length,h1,R2,E2,hP,hv,λk c hk=>?_⟩
 have zfG:own l' (h++[x]) k:=iP.2 (.inr ⟨jX hp,c,hk⟩)
 refine⟨?_,(R'.inb k zfG).2⟩
 rcases E'.news k zfG with ⟨b,y,c',g1,g2,g3⟩|h3
 ·exfalso
  have U8:=(MR.1 g1).1
  obtain⟨x',k1,k2,k3⟩:=E'.keep b y g1
  rw[M4 U8,g1] at k1
  cases k1
  have hs:y.stays y:=by cases y<;>simp_all[Uc.stays]
  have:=R'.inj b h.length y x k c' c (by rw[M4 U8,g1]) g2 (by simp) (jX hp) (by rw[k3 hs,g3]) hk
  omega
 ·exact h3
end
section
variable {w:World} {av:Nat->Prop} {l:Loc} {h:aT}
theorem ln:∀{t:bY} {ys:At},t.length=ys.length->(∀x y,ys[x]? = some y->Rel w av l h (t.getD x .any) y)->U1 w av l h t ys
 | [],[],_,_=>by simp[U1]
 | [],_::_,hl,_=>by simp at hl
 | _::_,[],hl,_=>by simp at hl
 | d::t,y::ys,hl,hp=>by
  simp only[U1]
  refine⟨by simpa using hp 0 y (by simp),ln (by simpa using hl) λx z hz=>?_⟩
  simpa using hp (x+1) z (by simpa using hz)
theorem Bk{t:bY}{ys:At}(r:U1 w av l h t ys){x:Nat}{y:Value}(hy:ys[x]? = some y):Rel w av l h (t.getD x .any) y:=by
 rcases zfF x t ys r with ⟨z,h1,h2⟩|⟨h1,_⟩
 ·rw[hy] at h1;cases h1;exact h2
 ·rw[hy] at h1;cases h1
end
def AK(L:oR)(pl:iS)(x:Tmp):Bool:=pl.any λi=>(match L[i]? with|some o=>o.dst==some x|none=>false)
def mO(L:oR)(S:IS)(pl:iS)(t0 tF:bY):bY:=(N9 tF.length).map λx=>if AK L pl x then .any else (ey L S t0 tF).getD x .any
theorem eU{L:oR}{pl:iS}{x:Tmp}:AK L pl x=true ↔ ∃i o,i∈pl/\L[i]? = some o/\o.dst=some x:=by
 unfold AK
 rw[List.any_eq_true]
 constructor
 ·rintro⟨i,h1,h2⟩
  split at h2
  ·rename_i o ho
   exact⟨i,o,h1,ho,by simpa using h2⟩
  ·simp at h2
 ·rintro⟨i,o,h1,h2,h3⟩
  exact⟨i,h1,by rw[h2];simpa using h3⟩
section
variable {L:oR} {S:IS} {pl:iS} {t0 tF:bY}
theorem bN:(mO L S pl t0 tF).length=tF.length:=by simp[mO]
theorem iQ{x:Nat}(hx:x<tF.length):(mO L S pl t0 tF).getD x .any=if AK L pl x then .any else (ey L S t0 tF).getD x .any:=by
 simp[mO,Nx,hx]
theorem xM{t:bY}{x:Nat}(h:t.length<=x):t.getD x .any=.any:=by
 rw[Nx,List.getElem?_eq_none h];rfl
theorem mY{x:Nat}(hx:AK L pl x=false):(mO L S pl t0 tF).getD x .any=(ey L S t0 tF).getD x .any:=by
 by_cases U8:x<tF.length
 ·rw[iQ U8,hx];rfl
 ·rw[xM (by rw[bN];omega),xM (by rw[aH];omega)]
theorem xN:mO L S [] t0 tF=ey L S t0 tF:=by
 refine bu (by rw[bN,aH]) λx hx=>mY (by simp[AK])
end
structure Pe where
 i:Nat
 p:Option (Nat×Nat)
 v:Value
 x:Uc
def hid(pl:List Pe)(O:Nat->Prop):Nat->Prop:=λk=>O k\/∃e∈pl,∃c,e.p=some (k,c)
structure zfj (Γ:aq) (X:Ctx) (L:oR) (pos:Nat->Nat) (late:Nat->Bool) (m:iS) (t0 tF:bY) (hs:List (aT)) (k:Nat) (S:IS) (pl:List Pe) (a:Act) (w:World):Prop where
 size:S.size=L.length
 closed:ie L (XV S)
 st:∃l,UJ Γ (hid pl X.O) w l (hs.getD k [])/\Ext X.w X.l X.h w l (hs.getD k [])/\U1 w (Ub (hid pl X.O) l (hs.getD k [])) l (hs.getD k []) (mO L S (pl.map (·.i)) t0 tF) a.tmps.toList /\
  UP X.D l (hs.getD k []) m a.defers/\∀e∈pl,Pd w (Ub (hid pl X.O) l (hs.getD k [])) l (hs.getD k []) e.x e.p
 pe:∀e∈pl,VR e.x e.p e.v/\late e.i=true/\XV S e.i/\k<=pos e.i/\hs.getD (pos e.i+1) []=hs.getD (pos e.i) []++[e.x] /\
  ∃o,L[e.i]? = some o/\∀y,o.dst=some y->(∀z,a.tmps.toList[y]? = some z->z=e.v)/\(y<tF.length->tF.getD y .any=.ref (jZ e.x (hs.getD (pos e.i) []).length))
 dis:pl.Pairwise λe f=>e.i≠f.i/\∀k c c',e.p=some (k,c)->f.p≠some (k,c')
 fresh:∀e∈pl,∀k c,e.p=some (k,c)->X.w.heap.size<=k/\¬X.O k
 chain:∀c o,L[c]? = some o->Ud o.op=false->(pos c<k ↔ XV S c/\c ∉ pl.map (·.i))
 zfP:k=0\/∃(c:Nat) (o:Oper),L[c]? = some o/\Ud o.op=false/\k=pos c+1
theorem qw{p:Nat->Prop}(h0:p 0):∀n,∃q,q<=n/\p q/\∀q',q'<=n->p q'->q'<=q
 | 0=>⟨0,M5 _,h0,λq' h _=>h⟩
 | n+1=>by
  by_cases h:p (n+1)
  ·exact⟨n+1,M5 _,h,λq' h' _=>h'⟩
  ·obtain⟨q,h1,h2,h3⟩:=qw h0 n
   refine⟨q,by omega,h2,λq' h' hp=>?_⟩
   by_cases hq:q'=n+1
   ·exact absurd (hq▸hp) h
   ·exact h3 q' (by omega) hp
section
variable {Γ:aq} {X:Ctx} {L:oR} {pos:Nat->Nat} {late:Nat->Bool} {m:iS} {t0 tF:bY} {hs:List (aT)} {S:IS} {a:Act} {w:World}
theorem Bl{O:Nat->Prop}{l:Loc}{h:aT}{x:Uc}{p:Option (Nat×Nat)}(hx:x≠.U7)(k:Nat):Ub O (l.upd h.length p) (h++[x]) k ↔ Ub (mN O p) l h k:=by
 rw[jW hx,show(l.upd h.length p) h.length=p by simp[Loc.upd]]
 unfold Ub
 rw[lk]
theorem zfj.tell{k:Nat}{pl1 pl2:List Pe}{e:Pe}(I:zfj Γ X L pos late m t0 tF hs k S (pl1++e::pl2) a w)(hH:hs.getD (pos e.i) []=hs.getD k [])
  (zfV:∀c o,L[c]? = some o->Ud o.op=false->c≠e.i->(pos c<k ↔ pos c<pos e.i+1))
  (zfI:∀(i j:Nat) (o o':Oper) (x:Tmp),L[i]? = some o->L[j]? = some o'->o.dst=some x->o'.dst=some x->i=j) (hk2:∀f∈pl1++pl2,pos e.i+1<=pos f.i) (hlq:∀(i:Nat) (o:Oper),L[i]? = some o->late i=true->Ud o.op=false) :
  zfj Γ X L pos late m t0 tF hs (pos e.i+1) S (pl1++pl2) a w:=by
 obtain⟨l,R,E,rt,rd,hpd⟩:=I.st
 have zhz:e∈pl1++e::pl2:=by simp
 have zgM:∀f,f∈pl1++pl2->f∈pl1++e::pl2:=by
  intro f hf
  simp only[NY,NF] at hf ⊢
  rcases hf with h|h
  ·exact .inl h
  ·exact .inr (.inr h)
 have zjU:∀f,f∈pl1++e::pl2->f=e\/f∈pl1++pl2:=by
  intro f hf
  simp only[NY,NF] at hf ⊢
  rcases hf with h|h|h
  ·exact .inr (.inl h)
  ·exact .inl h
  ·exact .inr (.inr h)
 have hdis:∀f∈pl1++pl2,f.i≠e.i/\∀k c c',e.p=some (k,c)->f.p≠some (k,c'):=by
  intro f hf
  have hd:=I.dis
  rw[Tr] at hd
  simp only[NY] at hf
  rcases hf with hf|hf
  ·have:=hd.2.2 f hf e (OI ..)
   exact⟨this.1,λk c c' h1 h2=>this.2 k c' c h2 h1⟩
  ·have:=(R8.1 hd.2.1).1 f hf
   exact⟨λh=>this.1 h.symm,this.2⟩
 have hhid:hid (pl1++e::pl2) X.O=mN (hid (pl1++pl2) X.O) e.p:=by
  funext k'
  apply propext
  constructor
  ·rintro (h|⟨f,hf,c,h⟩)
   ·exact .inl (.inl h)
   ·rcases zjU f hf with rfl|hf
    ·exact .inr ⟨c,h⟩
    ·exact .inl (.inr ⟨f,hf,c,h⟩)
  ·rintro ((h|⟨f,hf,c,h⟩)|⟨c,h⟩)
   ·exact .inl h
   ·exact .inr ⟨f,zgM f hf,c,h⟩
   ·exact .inr ⟨e,zhz,c,h⟩
 rw[hhid] at R rt hpd
 obtain⟨hvr,zii,hlst,hkpos,hhs,o,ho,hod⟩:=I.pe e zhz
 have hPd:=hpd e zhz
 have Μ:=jX hPd.1
 have R2:=R.merge hPd (λk' c hk hh=>by
  rcases hh with hh|⟨f,hf,c',hh⟩
  ·exact(I.fresh e zhz k' c hk).2 hh
  ·exact(hdis f hf).2 k' c c' hk hh)
 have E2:=E.merge (x:=e.x) (p:=e.p) λk' c hk=>(I.fresh e zhz k' c hk).1
 have hc:∀T8 off y,¬Ub (mN (hid (pl1++pl2) X.O) e.p) l (hs.getD k []) T8->w.cell? ⟨T8,off,none⟩=some y ->
   w.cell? ⟨T8,off,none⟩=some y/\¬Ub (hid (pl1++pl2) X.O) (l.upd (hs.getD k []).length e.p) (hs.getD k []++[e.x]) T8 :=
  λT8 off y hn hy=>⟨hy,λha=>hn ((Bl Μ T8).1 ha)⟩
 have hH2:hs.getD (pos e.i+1) []=hs.getD k []++[e.x]:=by rw[hhs,hH]
 have zih:=go _ _ rt
 rw[bN] at zih
 have hpe:∀f∈pl1++pl2,f.i≠e.i:=λf hf=>(hdis f hf).1
 refine⟨I.size,I.closed,⟨l.upd (hs.getD k []).length e.p,?_⟩,λf hf=>?_,?_,λf hf=>I.fresh f (zgM f hf),?_,.inr ⟨e.i,o,ho,hlq e.i o ho zii,rfl⟩⟩
 ·rw[hH2]
  refine⟨R2,E2,ln (by rw[bN];exact zih) λx y hy=>?_,?_,λf hf=>?_⟩
  ·have U8:x<tF.length:=by
    have:=(MR.1 hy).1
    omega
   cases hb:AK L ((pl1++pl2).map (·.i)) x
   ·rw[mY hb]
    cases hb2:AK L ((pl1++e::pl2).map (·.i)) x
    ·have:=Bk rt hy
     rw[mY hb2] at this
     exact Rel.mono hc ic _ _ this
    ·obtain⟨i',o',h1,h2,h3⟩:=eU.1 hb2
     have hie:i'=e.i:=by
      apply Od
      intro hno
      rw[Nt] at h1
      obtain⟨f,hf,rfl⟩:=h1
      rcases zjU f hf with rfl|hf
      ·exact hno rfl
      ·rw[Px] at hb
       exact hb (eU.2 ⟨f.i,o',Nt.2 ⟨f,hf,rfl⟩,h2,h3⟩)
     subst hie
     rw[ho] at h2
     cases h2
     rw[cv (λk' o' hk' hd'=>by
      rw[zfI k' e.i o' o x hk' ho hd' h3];exact hlst)]
     rw[(hod x h3).2 U8,hH,(hod x h3).1 y hy]
     simp only[Rel]
     exact ua hvr
   ·rw[iQ U8,if_pos hb]
    simp[Rel]
  ·exact UP.mono ic (fE (dK rd)) rd
  ·exact Pd.mono hc ic (by simp) (λ_ _ _=>rfl) (hpd f (zgM f hf))
 ·obtain⟨g1,g2,g3,_,g5,g6⟩:=I.pe f (zgM f hf)
  exact⟨g1,g2,g3,hk2 f hf,g5,g6⟩
 ·exact I.dis.sublist (List.Sublist.append (List.Sublist.refl _) (List.sublist_cons_self e pl2))
 ·intro c o' hc' hq
  by_cases hce:c=e.i
  ·subst hce
   refine⟨λ_=>⟨hlst,λhm=>?_⟩,λ_=>Nat.lt_succ_self _⟩
   rw[Nt] at hm
   obtain⟨f,hf,hfe⟩:=hm
   exact hpe f hf hfe
  ·rw[<-zfV c o' hc' hq hce,I.chain c o' hc' hq]
   refine⟨λ⟨h1,h2⟩=>⟨h1,λhm=>h2 ?_⟩,λ⟨h1,h2⟩=>⟨h1,λhm=>h2 ?_⟩⟩
   ·rw[Nt] at hm ⊢
    obtain⟨f,hf,hfe⟩:=hm
    exact⟨f,zgM f hf,hfe⟩
   ·rw[Nt] at hm ⊢
    obtain⟨f,hf,hfe⟩:=hm
    rcases zjU f hf with rfl|hf
    ·exact absurd hfe.symm hce
    ·exact⟨f,hf,hfe⟩
end
section
variable {Γ:aq} {X:Ctx} {L:oR} {pos:Nat->Nat} {late:Nat->Bool} {m:iS} {t0 tF:bY} {hs:List (aT)} {S:IS} {a:Act} {w:World}
theorem zfj.upto(hconst:∀n k,(∀c o,L[c]? = some o->Ud o.op=false->¬(k<=pos c/\pos c<k+n))->k+n<=L.length->hs.getD (k+n) []=hs.getD k [])
  (hinj:∀(i j:Nat) (o o':Oper),L[i]? = some o->L[j]? = some o'->pos i=pos j->i=j)
  (zfI:∀(i j:Nat) (o o':Oper) (x:Tmp),L[i]? = some o->L[j]? = some o'->o.dst=some x->o'.dst=some x->i=j) (hlq:∀(i:Nat) (o:Oper),L[i]? = some o->late i=true->Ud o.op=false) :
  ∀q,q<=L.length->(∀c o,L[c]? = some o->Ud o.op=false->pos c<q->XV S c)->∀k pl,zfj Γ X L pos late m t0 tF hs k S pl a w ->
   ∃k' pl',zfj Γ X L pos late m t0 tF hs k' S pl' a w/\∀e∈pl',e∈pl/\q<=pos e.i:=by
 intro q
 induction q with
 | zero=>exact λ_ _ k pl I=>⟨k,pl,I,λe he=>⟨he,Nat.zero_le _⟩⟩
 | succ q ih =>
  intro hq hl k pl I
  obtain⟨k1,pl1,I1,h1⟩:=ih (by omega) (λc o hc ho hp=>hl c o hc ho (by omega)) k pl I
  by_cases hex:∃e∈pl1,pos e.i=q
  ·obtain⟨e,he,hpe⟩:=hex
   obtain⟨a1,a2,rfl⟩:=List.append_of_mem he
   obtain⟨_,_,_,hk1,_,o,ho,_⟩:=I1.pe e he
   have zeV:∀c o',L[c]? = some o'->Ud o'.op=false->pos c<q->pos c<k1:=by
    intro c o' hc ξ hp
    rw[I1.chain c o' hc ξ]
    refine⟨hl c o' hc ξ (by omega),λhm=>?_⟩
    rw[Nt] at hm
    obtain⟨f,hf,rfl⟩:=hm
    have:=(h1 f hf).2
    omega
   have zgM:∀f,f∈a1++a2->f∈a1++e::a2:=by
    intro f hf
    simp only[NY,NF] at hf ⊢
    rcases hf with h|h
    ·exact .inl h
    ·exact .inr (.inr h)
   have hfe:∀f,f∈a1++a2->f.i≠e.i:=by
    intro f hf
    have hd:=I1.dis
    rw[Tr] at hd
    simp only[NY] at hf
    rcases hf with hf|hf
    ·exact(hd.2.2 f hf e (OI ..)).1
    ·exact λh=>((R8.1 hd.2.1).1 f hf).1 h.symm
   have hge:∀f,f∈a1++a2->q+1<=pos f.i:=by
    intro f hf
    have h2:=(h1 f (zgM f hf)).2
    obtain⟨_,_,_,_,_,o',XW,_⟩:=I1.pe f (zgM f hf)
    have:pos f.i≠q:=λhh=>hfe f hf (hinj _ _ _ _ XW ho (by rw[hh,hpe]))
    omega
   refine⟨_,_,I1.tell ?_ ?_ zfI (λf hf=>by rw[hpe];exact hge f hf) hlq,λf hf=>⟨(h1 f (zgM f hf)).1,hge f hf⟩⟩
   ·have:=hconst (q-k1) k1 (λc o' hc ξ hx=>by
     have:=zeV c o' hc ξ (by omega)
     omega) (by omega)
    rw[hpe,<-this]
    congr 1
    omega
   ·intro c o' hc ξ hce
    rw[hpe]
    constructor
    ·intro h;omega
    ·intro h
     have:pos c≠q:=λhh=>hce (hinj _ _ _ _ hc ho (by rw[hh,hpe]))
     exact zeV c o' hc ξ (by omega)
  ·refine⟨k1,pl1,I1,λe he=>⟨(h1 e he).1,?_⟩⟩
   have h2:=(h1 e he).2
   have:pos e.i≠q:=λhh=>hex ⟨e,he,hh⟩
   omega
end
def Cand(L:oR)(pos:Nat->Nat)(k:Nat):Prop:=k=0\/∃(c:Nat) (o:Oper),L[c]? = some o/\Ud o.op=false/\k=pos c+1
structure Fx (P:Program) (Γ:aq) (L:oR) (B:iS) (pos:Nat->Nat) (late:Nat->Bool) (m:iS) (t0 tF:bY) (hs:List (aT)) (ts:List (bY)):Prop where
 zgP:∀(i:Nat) (o:Oper),L[i]? = some o->∀e∈o.after.toList,Ol .any e=true->e.on<i
 posB:∀(i:Nat) (o:Oper) (j:Nat),L[i]? = some o->(B.getD i 0).testBit j=true->pos j<pos i
 uniq:∀(i j:Nat) (o o':Oper) (x:Tmp),L[i]? = some o->L[j]? = some o'->o.dst=some x->o'.dst=some x->i=j
 inj:∀(i j:Nat) (o o':Oper),L[i]? = some o->L[j]? = some o'->pos i=pos j->i=j
 lt:∀(i:Nat) (o:Oper),L[i]? = some o->pos i<L.length
 oper:∀(i:Nat) (o:Oper) (x:Tmp),L[i]? = some o->x∈cN L o->∀(k:Nat) (o':Oper),L[k]? = some o'->o'.dst=some x->(B.getD i 0).testBit k=true\/(B.getD k 0).testBit i=true
 chain:∀(c c':Nat) (o o':Oper),L[c]? = some o->L[c']? = some o'->Ud o.op=false->Ud o'.op=false->late c=false->pos c'<pos c->(B.getD c 0).testBit c'=true
 zmc:∀(i:Nat) (o:Oper),L[i]? = some o->late i=true->zgq o.op=true/\Ud o.op=false/\o.guard=none
 seen:∀(i j:Nat) (o o':Oper) (x:Tmp),L[i]? = some o->x∈cN L o->L[j]? = some o'->o'.dst=some x->late j=true->(B.getD i 0).testBit j=true ->
  ∀(c:Nat) (o2:Oper),L[c]? = some o2->Ud o2.op=false->pos c<pos j->(B.getD i 0).testBit c=true
 hat:∀(i:Nat) (o:Oper),L[i]? = some o->∃call,XH.Ok P Γ call/\∃d,dA P Γ call m L (ts.getD (pos i) []) (hs.getD (pos i) []) o=some (d,hs.getD (pos i+1) []) /\
  (∀x,(∀(j:Nat) (o':Oper),L[j]? = some o'->pos i<=pos j->o'.dst≠some x)->tF.getD x .any=(ts.getD (pos i) []).getD x .any) /\
  (∀x,(∀(j:Nat) (o':Oper),L[j]? = some o'->pos j<pos i->o'.dst≠some x)->(ts.getD (pos i) []).getD x .any=t0.getD x .any) /\
  (∀x,o.dst=some x->x<tF.length->tF.getD x .any=d)
 len:tF.length=t0.length
 const:∀n k,(∀c o,L[c]? = some o->Ud o.op=false->¬(k<=pos c/\pos c<k+n))->k+n<=L.length->hs.getD (k+n) []=hs.getD k []
 inn:∀(i:Nat) (o:Oper) (k:Nat) (x:Uc),L[i]? = some o->late i=true->Cand L pos k->hs.getD (pos i+1) []=hs.getD (pos i) []++[x] ->
  (hs.getD k []).all (MY (hs.getD k []).length)=true/\x.inn (hs.getD k []).length=true
 quiet:∀(i:Nat) (o:Oper),L[i]? = some o->Ud o.op=true->aZ L (ts.getD (pos i) []) o.guard=some true->∀k,Cand L pos k ->
  (∀(c:Nat) (o':Oper),L[c]? = some o'->Ud o'.op=false->(pos c<k->(B.getD c 0).testBit i=false)/\(k<=pos c->(B.getD i 0).testBit c=true->late c=true)) ->
  ∃d h',U6 P Γ (ts.getD (pos i) []) (hs.getD k []) o.op=some (true,d,h')/\∀x,o.dst=some x->tF.getD x .any=d
section
variable {P:Program} {Γ:aq} {X:Ctx} {r:Do} {call:XH} {ops:Is} {pos:Nat->Nat} {late:Nat->Bool} {m:iS} {t0 tF:bY} {hs:List (aT)} {ts:List (bY)} {Q:Exit->AS->Prop}
theorem told(F:Fx P Γ ops.toList (cD ops.toList []) pos late m t0 tF hs ts){k:Nat}{S:IS}{pl:List Pe}{a:Act}{w:World}(I:zfj Γ X ops.toList pos late m t0 tF hs k S pl a w):
  ∃k' pl',zfj Γ X ops.toList pos late m t0 tF hs k' S pl' a w /\
   ∀e∈pl',∃c o,ops.toList[c]? = some o/\Ud o.op=false/\pos c<pos e.i/\¬XV S c:=by
 obtain⟨q,h1,h2,h3⟩:=qw (p:=λq=>∀c o,ops.toList[c]? = some o->Ud o.op=false->pos c<q->XV S c) (λc o _ _ h=>by omega) ops.toList.length
 obtain⟨k',pl',I',h4⟩:=zfj.upto F.const F.inj F.uniq (λi o hi hl=>(F.zmc i o hi hl).2.1) q h1 h2 k pl I
 refine⟨k',pl',I',λe he=>?_⟩
 obtain⟨_,h5⟩:=h4 e he
 obtain⟨_,hl,hS,_,_,o,ho,_⟩:=I'.pe e he
 apply Od
 intro hno
 have:=h3 (pos e.i+1) (F.lt _ _ ho) (λc o' hc hq hp=>by
  by_cases hce:pos c=pos e.i
  ·rw[F.inj c e.i o' o hc ho hce];exact hS
  ·apply Od
   intro hnl
   exact hno ⟨c,o',hc,hq,by omega,hnl⟩)
 omega
end
section
variable {P:Program} {Γ:aq} {X:Ctx} {r:Do} {call:XH} {ops:Is} {pos:Nat->Nat} {late:Nat->Bool} {m:iS} {t0 tF:bY} {hs:List (aT)} {ts:List (bY)} {Q:Exit->AS->Prop}
theorem zfj.here{k:Nat}{S:IS}{pl:List Pe}{a:Act}{w:World}(I:zfj Γ X ops.toList pos late m t0 tF hs k S pl a w):
  ∃l,St Γ {O:=hid pl X.O,w:=w,l:=l,h:=hs.getD k [],D:=X.D} {t:=mO ops.toList S (pl.map (·.i)) t0 tF,h:=hs.getD k [],m:=m} a w/\Ext X.w X.l X.h w l (hs.getD k []) /\
   UJ Γ (hid pl X.O) w l (hs.getD k [])/\∀e∈pl,Pd w (Ub (hid pl X.O) l (hs.getD k [])) l (hs.getD k []) e.x e.p:=by
 obtain⟨l,R,E,rt,rd,hp⟩:=I.st
 exact⟨l,⟨l,R,Ext.refl _ _ _,rt,rd⟩,E,R,hp⟩
theorem Pd.ext{O:Nat->Prop}{w w':World}{l l':Loc}{h h':aT}{x:Uc}{p:Option (Nat×Nat)}(E:Ext w l h w' l' h')(R:UJ Γ O w l h)(hO:∀k c,p=some (k,c)->O k)
  (hp:Pd w (Ub O l h) l h x p):Pd w' (Ub O l' h') l' h' x p:=by
 refine hp.mono E.hc E.keep ?_ λT8 c hk=>?_
 ·apply Od
  intro U8
  have hb:h[h'.length]? = some h[h'.length]:=Nd (by omega)
  obtain⟨x',h1,_⟩:=E.keep _ _ hb
  simp at h1
 ·exact E.same T8 (R.obd T8 (hO T8 c hk)) λho=>(R.inb T8 ho).2 (hO T8 c hk)
theorem zfj.after{k k' i:Nat}{S:IS}{pl:List Pe}{a a':Act}{w w':World}{l:Loc}{o:Oper}{d:D}{_v:Value}(F:Fx P Γ ops.toList (cD ops.toList []) pos late m t0 tF hs ts)
  (I:zfj Γ X ops.toList pos late m t0 tF hs k S pl a w) (ho:ops.toList[i]? = some o) (hiS:¬XV S i) (zfs:∀e∈o.after.toList,Ol .any e=true->XV S e.on)
  (E:Ext X.w X.l X.h w l (hs.getD k [])) (R:UJ Γ (hid pl X.O) w l (hs.getD k [])) (hp:∀e∈pl,Pd w (Ub (hid pl X.O) l (hs.getD k [])) l (hs.getD k []) e.x e.p)
  (ω:St Γ {O:=hid pl X.O,w:=w,l:=l,h:=hs.getD k [],D:=X.D} {t:=UQ (mO ops.toList S (pl.map (·.i)) t0 tF) o.dst d,h:=hs.getD k' [],m:=m} a' w') (ha:∃v,a'.tmps=(a.put o.dst v).tmps)
  (hd:∀x,o.dst=some x->x<tF.length->tF.getD x .any=d) (hk:∀e∈pl,k'<=pos e.i) (hcand:Cand ops.toList pos k')
  (zki:∀c o',ops.toList[c]? = some o'->Ud o'.op=false->(pos c<k' ↔ (c=i\/XV S c)/\c ∉ pl.map (·.i))) :
  zfj Γ X ops.toList pos late m t0 tF hs k' (S.setIfInBounds i true) pl a' w':=by
 have hi:i<S.size:=by rw[I.size];exact(MR.1 ho).1
 have ε:∀j,XV (S.setIfInBounds i true) j ↔ j=i\/XV S j:=λj=>od hi
 have Μ:∀e∈pl,e.i≠i:=λe he hei=>hiS (hei▸(I.pe e he).2.2.1)
 have zgZ:UQ (mO ops.toList S (pl.map (·.i)) t0 tF) o.dst d=mO ops.toList (S.setIfInBounds i true) (pl.map (·.i)) t0 tF:=by
  have zmk:UQ (ey ops.toList S t0 tF) o.dst d=ey ops.toList (S.setIfInBounds i true) t0 tF :=
   mX ho hi (λk o' hk x hx hx'=>F.uniq k i o' o x hk ho hx' hx) hd
  refine bu (by rw[bC,bN,bN]) λx hx=>?_
  rw[bC,bN] at hx
  rw[iQ hx,<-zmk]
  by_cases hdx:o.dst=some x
  ·have hh:AK ops.toList (pl.map (·.i)) x=false:=by
    rw[Px]
    intro hh
    obtain⟨j,o',h1,h2,h3⟩:=eU.1 hh
    rw[Nt] at h1
    obtain⟨e,he,rfl⟩:=h1
    exact Μ e he (F.uniq _ _ _ _ x h2 ho h3 hdx)
   rw[hdx,eT (by rw[bN];exact hx),hh,if_neg (by simp),eT (by rw[aH];exact hx)]
  ·rw[dg hdx,dg hdx,iQ hx]
 obtain⟨l',R',E',rt',rd'⟩:=ω
 refine⟨by simpa using I.size,?_,⟨l',R',E.trans E',by rw[<-zgZ];exact rt',rd',λe he=>(hp e he).ext E' R λk c hk=>.inr ⟨e,he,c,hk⟩⟩,λe he=>?_,I.dis,I.fresh,?_,hcand⟩
 ·intro k2 o2 hk2 ho2 e he hb
  rw[ε] at hk2 ⊢
  rcases hk2 with rfl|hk2
  ·rw[ho] at ho2
   cases ho2
   exact .inr (zfs e he hb)
  ·exact .inr (I.closed k2 o2 hk2 ho2 e he hb)
 ·obtain⟨g1,g2,g3,_,g5,o2,g6,g7⟩:=I.pe e he
  refine⟨g1,g2,(ε _).2 (.inr g3),hk e he,g5,o2,g6,λy hy=>⟨λz hz=>?_,(g7 y hy).2⟩⟩
  obtain⟨v,ha⟩:=ha
  rw[ha] at hz
  have hdy:o.dst≠some y:=λhdy=>Μ e he (F.uniq _ _ _ _ y g6 ho hy hdy)
  refine(g7 y hy).1 z ?_
  cases hd2:o.dst with
  | none=>rw[hd2] at hz;exact hz
  | some x =>
   rw[hd2] at hz
   have hxy:x≠y:=λh=>hdy (by rw[hd2,h])
   simp only[Act.put,Sz] at hz
   rwa[Nu hxy] at hz
 ·intro c o' hc hq
  rw[ε]
  exact zki c o' hc hq
end
section
variable {P:Program} {Γ:aq} {X:Ctx} {r:Do} {s:AS}
theorem Hw{o:Oper}{d:D}{h':aT}{K:Act->World->Prop}{Q':Exit->Act->World->Prop}{a:Act}{w:World}(WW:U6 P Γ s.t s.h o.op=some (true,d,h'))(hm:aF h' s.m=true)
  (hK:∀v w',St Γ X {t:=UQ s.t o.dst d,h:=h',m:=s.m} (a.put o.dst v) w'->K (a.put o.dst v) w') (hs:St Γ X s a w):o.wpIn (FW r) 0 P a w K Q':=by
 obtain⟨l,R,E,rt,rd⟩:=hs
 obtain⟨nx,v,w',l',h1,h2,h3,h4,h5⟩:=jp R rt WW
 refine⟨λ_ _=>trivial,?_⟩
 rw[Qm _ _ _ (by intro c hc;rw[hc] at WW;simp[U6] at WW),h1]
 have key:=St.put (Γ:=Γ) (X:=X) (s:=s) (a:=a) o.dst rt rd E h3 h4 h5 hm
 rcases h2 with rfl|⟨rfl,rfl⟩
 ·exact hK _ _ key
 ·exact hK _ _ key
theorem EC{o:Oper}{fv:Operand}{args:Or}{ats:ON}{K:Act->World->Prop}{Q':Exit->Act->World->Prop}{a:Act}{w:World}
  (ho:o.op=.call {callee:=.value fv,args,argTypes:=ats})
  (zdo:zfX P Γ (U0 Γ s.t fv) (args.toList.map (U0 Γ s.t)) s.h λd h'=>aF h' s.m=true /\
   ∀v w',St Γ X {t:=UQ s.t o.dst d,h:=h',m:=s.m} (a.put o.dst v) w'->K (a.put o.dst v) w') (hs:St Γ X s a w):o.wpIn (FW r) 0 P a w K Q':=by
 obtain⟨l,R,E,rt,rd⟩:=hs
 refine⟨λ_ _=>trivial,?_⟩
 rw[Qm _ _ _ (by intro c hc;rw[ho] at hc;simp at hc)]
 have e1:(execOp a.eval o).run P w=(do let d <-Deferred.ofValue (a.eval fv) (args.toList.map a.eval).toArray;invoke d.target d.args:Sem Next).run P w:=by
  unfold execOp
  rw[ho]
  simp only[resolve]
  congr 3
  rw[<-Array.toList_map]
 rw[e1]
 exact zdo X.O w l _ _ R (a7 R rt fv) (fo R rt args.toList) r o a K Q' λv d h' l' w' ⟨g1,g2⟩ g3 g4 g5 =>
  g2 _ _ (St.put (Γ:=Γ) (X:=X) (s:=s) (a:=a) o.dst rt rd E g3 g4 g5 g1)
theorem Bm{call:XH}(hc:call.Ok P Γ){o:Oper}{d:D}{h':aT}{K:Act->World->Prop}{Q':Exit->Act->World->Prop}{a:Act}{w:World}
  (WW:gW P Γ call s.t s.h o.op=some (d,h')) (hm:aF h' s.m=true)
  (hK:∀v w',St Γ X {t:=UQ s.t o.dst d,h:=h',m:=s.m} (a.put o.dst v) w'->K (a.put o.dst v) w') (hs:St Γ X s a w):o.wpIn (FW r) 0 P a w K Q':=by
 unfold gW at WW
 split at WW
 ·rename_i ho
  exact EC ho ((hc _ _ _ _ _ WW).mono λd2 h2 ⟨e1,e2⟩=>by subst e1;subst e2;exact⟨hm,hK⟩) hs
 ·split at WW
  ·rename_i h1
   cases WW
   exact Hw h1 hm hK hs
  ·simp at WW
theorem IC{o:Oper}{x:Uc}{K:Act->World->Prop}{Q':Exit->Act->World->Prop}{a:Act}{w:World}{l:Loc}(R:UJ Γ X.O w l s.h)(rt:U1 w (Ub X.O l s.h) l s.h s.t a.tmps.toList)
  (hp:x.plain=true) (WW:U6 P Γ s.t s.h o.op=some (true,.ref (jZ x s.h.length),s.h++[x])) (hi:s.h.all (MY s.h.length)=true) (hx:x.inn s.h.length=true)
  (hK:∀v w' l' p,UJ Γ (mN X.O p) w' l' s.h->Ext w l s.h w' l' s.h->Pd w' (Ub (mN X.O p) l' s.h) l' s.h x p->VR x p v->(∀k c,p=some (k,c)->w.heap.size<=k/\¬X.O k)->K (a.put o.dst v) w') :
  o.wpIn (FW r) 0 P a w K Q':=by
 obtain⟨v,w',l',p,h1,h2,h3,h4,h5,h6⟩:=Bj (P:=P) R rt hp WW hi hx
 refine⟨λ_ _=>trivial,?_⟩
 rw[Qm _ _ _ (by intro c hc;rw[hc] at WW;simp[U6] at WW),h1]
 exact hK v w' l' p h2 h3 h4 h5 h6
end
section
variable {P:Program} {Γ:aq} {X:Ctx} {r:Do} {call:XH} {ops:Is} {pos:Nat->Nat} {late:Nat->Bool} {m:iS} {t0 tF:bY} {hs:List (aT)} {ts:List (bY)} {Q:Exit->AS->Prop}
theorem ID(F:Fx P Γ ops.toList (cD ops.toList []) pos late m t0 tF hs ts){k:Nat}(hk:Cand ops.toList pos k):k<=ops.toList.length:=by
 rcases hk with rfl|⟨c,o,ho,_,rfl⟩
 ·omega
 ·exact F.lt c o ho
theorem uc(F:Fx P Γ ops.toList (cD ops.toList []) pos late m t0 tF hs ts)(hQ:Q .normal {t:=tF,h:=hs.getD ops.size [],m:=m})
  {k:Nat} {S:IS} {pl:List Pe} {a:Act} {w:World} (I0:zfj Γ X ops.toList pos late m t0 tF hs k S pl a w) (τ:∀j,j<ops.size->XV S j):i9 Γ X Q .normal a w:=by
 have hn:ops.toList.length=ops.size:=by simp
 obtain⟨k,pl,I,hpl⟩:=told F I0
 have hnil:pl=[]:=by
  cases pl with
  | nil=>rfl
  | cons e pl =>
   obtain⟨c,o,hc,_,_,h⟩:=hpl e (OI ..)
   exact absurd (τ c (by have:=(MR.1 hc).1;omega)) h
 subst hnil
 refine⟨by simp,_,hQ,?_⟩
 have e1:mO ops.toList S [] t0 tF=tF:=by
  rw[xN]
  refine bu (aH ..) λx hx=>?_
  exact cv λc o Uy _=>τ c (by have:=(MR.1 Uy).1;omega)
 have hk:=ID F I.zfP
 have e2:hs.getD ops.size []=hs.getD k []:=by
  have:=F.const (ops.size-k) k (λc o Uy Δ hx=>by
   have h1:=(I.chain c o Uy Δ).2 ⟨τ c (by have:=(MR.1 Uy).1;omega),by simp⟩
   omega) (by omega)
  rwa[show k+(ops.size-k)=ops.size by omega] at this
 obtain⟨l,R,E,rt,rd,_⟩:=I.st
 have hh:hid [] X.O=X.O:=by
  funext k'
  apply propext
  simp[hid]
 rw[hh] at R rt
 simp only[List.map_nil,e1] at rt
 rw[e2]
 exact⟨l,R,E,rt,rd⟩
end
section
variable {P:Program} {Γ:aq} {X:Ctx} {r:Do} {call:XH} {ops:Is} {pos:Nat->Nat} {late:Nat->Bool} {m:iS} {t0 tF:bY} {hs:List (aT)} {ts:List (bY)} {Q:Exit->AS->Prop}
theorem zz(F:Fx P Γ ops.toList (cD ops.toList []) pos late m t0 tF hs ts){k0 i:Nat}{S:IS}{pl0:List Pe}{a:Act}{w:World}{o:Oper}{K:Act->World->Prop}{Q':Exit->Act->World->Prop}
  (I0:zfj Γ X ops.toList pos late m t0 tF hs k0 S pl0 a w) (hoL:ops.toList[i]? = some o) (χ:¬XV S i) (zfs:∀e∈o.after.toList,Ol .any e=true->XV S e.on)
  (hK:∀k pl a' w',zfj Γ X ops.toList pos late m t0 tF hs k (S.setIfInBounds i true) pl a' w'->K a' w') :
  if N5 o (yielded ops a.tmps) then o.wpIn (FW r) 0 P a w K Q' else (∀f,o.about P w a.eval=some f->(FW r).fn f)/\K (a.put o.dst undef) w:=by
 obtain⟨k,pl,I,hpl⟩:=told F I0
 have hiS:i<S.size:=by rw[I.size];exact(MR.1 hoL).1
 have ε:∀j,XV (S.setIfInBounds i true) j ↔ j=i\/XV S j:=λj=>od hiS
 have Β:ie ops.toList (XV (S.setIfInBounds i true)):=by
  intro k' o' hk' XW e he hb
  rw[ε] at hk' ⊢
  rcases hk' with rfl|hk'
  ·rw[hoL] at XW
   cases XW
   exact .inr (zfs e he hb)
  ·exact .inr (I.closed k' o' hk' XW e he hb)
 have zeW:∀j,((cD ops.toList []).getD i 0).testBit j=true->pos j<pos i/\XV S j:=by
  intro j hj
  have h1:=F.posB i o j hoL hj
  have h2:=cb Β (k:=i) ((ε i).2 (.inl rfl)) j hj
  rw[ε] at h2
  exact⟨h1,h2.resolve_left (λh=>by rw[h] at h1;omega)⟩
 obtain⟨call,hc,d,ω,htF,ht0,hdF⟩:=F.hat i o hoL
 have Μ:∀e∈pl,e.i≠i:=λe he hei=>χ (hei▸(I.pe e he).2.2.1)
 have hnm:i ∉ pl.map (·.i):=λhm=>by
  rw[Nt] at hm
  obtain⟨e,he,hei⟩:=hm
  exact Μ e he hei
 have zff:∀x∈cN ops.toList o,(mO ops.toList S (pl.map (·.i)) t0 tF).getD x .any=(ts.getD (pos i) []).getD x .any:=by
  intro x hx
  have hh:AK ops.toList (pl.map (·.i)) x=false:=by
   rw[Px]
   intro hh
   obtain⟨j,o',h1,h2,h3⟩:=eU.1 hh
   rw[Nt] at h1
   obtain⟨e,he,rfl⟩:=h1
   obtain⟨_,hl,hS,_⟩:=I.pe e he
   rcases F.oper i o x hoL hx e.i o' h2 h3 with hb|hb
   ·obtain⟨c,o2,g1,g2,g3,g4⟩:=hpl e he
    exact g4 (zeW c (F.seen i e.i o o' x hoL hx h2 h3 hl hb c o2 g1 g2 g3)).2
   ·exact χ (cb I.closed hS i hb)
  rw[mY hh]
  by_cases hwr:∃(k':Nat) (o':Oper),ops.toList[k']? = some o'/\o'.dst=some x
  ·obtain⟨k',o',hk',hd'⟩:=hwr
   have huq:∀(j:Nat) (o2:Oper),ops.toList[j]? = some o2->o2.dst=some x->j=k':=λj o2 hj hd2=>F.uniq j k' o2 o' x hj hk' hd2 hd'
   rcases F.oper i o x hoL hx k' o' hk' hd' with hb|hb
   ·obtain⟨U8,hSk⟩:=zeW k' hb
    rw[cv (λk2 o2 hk2 hd2=>by rw[huq k2 o2 hk2 hd2];exact hSk)]
    exact htF x λj o2 hj hle hd2=>by
     have:=huq j o2 hj hd2
     subst this
     omega
   ·have U8:=F.posB k' o' i hk' hb
    have hnk:¬XV S k':=λhSk=>χ (cb I.closed hSk i hb)
    rw[sa F.len hk' hd' (by unfold XV at hnk;simpa using hnk)]
    exact(ht0 x λj o2 hj hle hd2=>by
     have:=huq j o2 hj hd2
     subst this
     omega).symm
  ·rw[cv (λk2 o2 hk2 hd2=>absurd ⟨k2,o2,hk2,hd2⟩ hwr)]
   exact htF x λj o2 hj _ hd2=>hwr ⟨j,o2,hj,hd2⟩
 have UT:dA P Γ call m ops.toList (mO ops.toList S (pl.map (·.i)) t0 tF) (hs.getD (pos i) []) o=some (d,hs.getD (pos i+1) []):=by rw[jr zff];exact ω
 obtain⟨l,hSt,E,R,hpd⟩:=I.here
 obtain⟨l0,R0,E0,rt0,rd0⟩:=hSt
 have hSt:St Γ {O:=hid pl X.O,w:=w,l:=l,h:=hs.getD k [],D:=X.D} {t:=mO ops.toList S (pl.map (·.i)) t0 tF,h:=hs.getD k [],m:=m} a w:=⟨l0,R0,E0,rt0,rd0⟩
 have hki:Ud o.op=false->k<=pos i:=λhq=>by
  apply Od
  intro U8
  exact χ ((I.chain i o hoL hq).1 (by omega)).1
 cases ξ:Ud o.op
 ·cases zii:late i
  ·-- it may change the heap, and is no late one
   have τ:∀c o',ops.toList[c]? = some o'->Ud o'.op=false->pos c<pos i->XV S c:=λc o' hc' hq' hp=>(zeW c (F.chain i c o o' hoL hc' ξ hq' zii hp)).2
   have hple:∀e∈pl,pos i+1<=pos e.i:=by
    intro e he
    obtain⟨c,o2,g1,g2,g3,g4⟩:=hpl e he
    obtain⟨_,_,_,_,_,o3,g5,_⟩:=I.pe e he
    have:¬pos c<pos i:=λh=>g4 (τ c o2 g1 g2 h)
    omega
   have hH:hs.getD (pos i) []=hs.getD k []:=by
    have hk:=hki ξ
    have:=F.const (pos i-k) k (λc o' Uy Δ hx=>by
     have h1:=τ c o' Uy Δ (by omega)
     have:=(I.chain c o' Uy Δ).2 ⟨h1,λhm=>by
      rw[Nt] at hm
      obtain⟨e,he,rfl⟩:=hm
      have:=hple e he
      omega⟩
     omega) (by have:=F.lt i o hoL;omega)
    rwa[show k+(pos i-k)=pos i by omega] at this
   have zkh:∀a' w',(∃v,a'.tmps=(a.put o.dst v).tmps)->St Γ {O:=hid pl X.O,w:=w,l:=l,h:=hs.getD k [],D:=X.D} {t:=UQ (mO ops.toList S (pl.map (·.i)) t0 tF) o.dst d,h:=hs.getD (pos i+1) [],m:=m} a' w' ->
     zfj Γ X ops.toList pos late m t0 tF hs (pos i+1) (S.setIfInBounds i true) pl a' w':=by
    intro a' w' ha zhv
    refine I.after (_v:=undef) F hoL χ zfs E R hpd zhv ha hdF hple (.inr ⟨i,o,hoL,ξ,rfl⟩) λc o' Uy Δ=>?_
    constructor
    ·intro hp
     by_cases hci:pos c=pos i
     ·have:=F.inj c i o' o Uy hoL hci
      subst this
      exact⟨.inl rfl,hnm⟩
     ·have h1:=τ c o' Uy Δ (by omega)
      refine⟨.inr h1,λhm=>?_⟩
      rw[Nt] at hm
      obtain⟨e,he,rfl⟩:=hm
      have:=hple e he
      omega
    ·rintro⟨rfl|h1,h2⟩
     ·omega
     ·have:=(I.chain c o' Uy Δ).2 ⟨h1,h2⟩
      have:=hki ξ
      omega
   rw[hH] at UT
   unfold dA at UT
   split at UT
   ·rename_i hg
    split at UT
    ·rename_i d1 h1 WW
     split at UT
     ·rename_i hm
      simp only[MM,MP] at UT
      obtain⟨rfl,rfl⟩:=UT
      rw[if_pos (aG rt0 hg)]
      exact Bm (s:={t:=mO ops.toList S (pl.map (·.i)) t0 tF,h:=hs.getD k [],m:=m}) hc WW hm (λv w' hs'=>hK _ _ _ _ (zkh _ _ ⟨v,rfl⟩ hs')) hSt
     ·simp at UT
    ·simp at UT
   ·rename_i hg
    simp only[MM,MP] at UT
    obtain⟨rfl,hh⟩:=UT
    rw[if_neg (by rw[aG rt0 hg];simp)]
    refine⟨λ_ _=>trivial,hK _ _ _ _ (zkh _ w ⟨undef,rfl⟩ ?_)⟩
    rw[<-hh]
    exact St.skip (s:={t:=mO ops.toList S (pl.map (·.i)) t0 tF,h:=hs.getD k [],m:=m}) o.dst hSt
   ·simp at UT
  ·-- an allocation that is done and not told of
   obtain⟨hfo,_,hgn⟩:=F.zmc i o hoL zii
   unfold dA at UT
   rw[hgn] at UT
   simp only[aZ] at UT
   split at UT
   case h_2=>simp at UT
   rename_i d1 h1 WW
   split at UT
   case isFalse=>simp at UT
   simp only[MM,MP] at UT
   obtain⟨rfl,rfl⟩:=UT
   unfold gW at WW
   split at WW
   ·rename_i hcl;rw[hcl] at hfo;simp[zgq] at hfo
   split at WW
   case h_2=>simp at WW
   rename_i d2 h2 zhx
   simp only[MM,MP] at WW
   obtain⟨rfl,hh1⟩:=WW
   obtain⟨x,hxp,_,hd,hh2,τ⟩:=EB hfo zhx
   have hhs:hs.getD (pos i+1) []=hs.getD (pos i) []++[x]:=by rw[<-hh1,hh2]
   obtain⟨hi1,hi2⟩:=F.inn i o k x hoL zii I.zfP hhs
   have hw:N5 o (yielded ops a.tmps)=true:=aG (b:=true) rt0 (by rw[hgn];rfl)
   rw[if_pos hw]
   obtain⟨l',R',E',rt',rd',hpd'⟩:=I.st
   refine IC (X:={O:=hid pl X.O,w:=w,l:=l',h:=hs.getD k []}) (s:={t:=mO ops.toList S (pl.map (·.i)) t0 tF,h:=hs.getD k [],m:=m}) R' rt' hxp (τ _) hi1 hi2 ?_
   intro v w' l2 p R2 E2 hPd hVR hfr
   simp only at R2 E2 hPd hfr
   refine hK k ({i:=i,p:=p,v:=v,x:=x}::pl) _ _ ?_
   have hhid:hid ({i:=i,p:=p,v:=v,x:=x}::pl) X.O=mN (hid pl X.O) p:=by
    funext k'
    apply propext
    constructor
    ·rintro (h|⟨f,hf,c,h⟩)
     ·exact .inl (.inl h)
     ·rcases NF.1 hf with rfl|hf
      ·exact .inr ⟨c,h⟩
      ·exact .inl (.inr ⟨f,hf,c,h⟩)
    ·rintro ((h|⟨f,hf,c,h⟩)|⟨c,h⟩)
     ·exact .inl h
     ·exact .inr ⟨f,O2 _ hf,c,h⟩
     ·exact .inr ⟨_,OI ..,c,h⟩
   have hc:∀T8 off y,¬Ub (hid pl X.O) l' (hs.getD k []) T8->w.cell? ⟨T8,off,none⟩=some y->w'.cell? ⟨T8,off,none⟩=some y/\¬Ub (mN (hid pl X.O) p) l2 (hs.getD k []) T8:=by
    intro T8 off y hn hy
    obtain⟨g1,g2⟩:=E2.hc (O:=hid pl X.O) T8 off y hn hy
    refine⟨g1,?_⟩
    rintro ((h|⟨c,h⟩)|h)
    ·exact g2 (.inl h)
    ·have:=(hfr T8 c h).1
     have:=qk hy
     omega
    ·exact g2 (.inr h)
   have zmk:UQ (ey ops.toList S t0 tF) o.dst d2=ey ops.toList (S.setIfInBounds i true) t0 tF :=
    mX hoL hiS (λk o' hk x hx hx'=>F.uniq k i o' o x hk hoL hx' hx) hdF
   have zih:=go _ _ rt'
   rw[bN] at zih
   have hat:∀y z,(a.put o.dst v).tmps.toList[y]? = some z->(o.dst=some y/\z=v)\/(o.dst≠some y/\a.tmps.toList[y]? = some z):=by
    intro y z hz
    cases hd2:o.dst with
    | none=>rw[hd2] at hz;exact .inr ⟨by simp,hz⟩
    | some x0 =>
     rw[hd2] at hz
     simp only[Act.put,Sz] at hz
     by_cases hxy:x0=y
     ·subst hxy
      have U8:=(MR.1 hz).1
      simp only[List.length_set] at U8
      rw[List.getElem?_set_self U8] at hz
      exact .inl ⟨rfl,by simpa using hz.symm⟩
     ·rw[Nu hxy] at hz
      exact .inr ⟨by simpa using hxy,hz⟩
   refine⟨by simpa using I.size,Β,⟨l2,by rw[hhid];exact R2,E'.trans E2,?_,?_,?_⟩,?_,?_,?_,?_,I.zfP⟩
   ·rw[hhid]
    refine ln ?_ λy z hz=>?_
    ·rw[bN,zih]
     cases o.dst<;>simp[Act.put]
    ·rcases hat y z hz with ⟨h3,rfl⟩|⟨h3,h4⟩
     ·have U8:y<tF.length:=by
       have:=(MR.1 hz).1
       cases hd2:o.dst<;>rw[hd2] at this<;>simp[Act.put] at this<;>simp at zih<;>omega
      rw[iQ U8,if_pos (eU.2 ⟨i,o,by simp,hoL,h3⟩)]
      simp[Rel]
     ·have base:=Rel.mono hc E2.keep _ _ (Bk rt' h4)
      have U8:y<tF.length:=by
       have:=(MR.1 h4).1
       omega
      rw[iQ U8] at base ⊢
      have e1:AK ops.toList (({i:=i,p:=p,v:=v,x:=x}::pl).map (·.i)) y=AK ops.toList (pl.map (·.i)) y:=by
       rw[Bool.eq_iff_iff,eU,eU]
       constructor
       ·rintro⟨j,o',g1,g2,g3⟩
        simp only[NW,NF] at g1
        rcases g1 with rfl|g1
        ·rw[hoL] at g2;cases g2;exact absurd g3 h3
        ·exact⟨j,o',g1,g2,g3⟩
       ·rintro⟨j,o',g1,g2,g3⟩
        exact⟨j,o',by simp only[NW,NF];exact .inr g1,g2,g3⟩
      rw[e1,<-zmk,dg h3]
      exact base
   ·have:(a.put o.dst v).defers=a.defers:=by cases o.dst<;>rfl
    rw[this]
    exact UP.mono E2.keep (dK rd') rd'
   ·intro e he
    rw[hhid]
    rcases NF.1 he with rfl|he
    ·exact hPd
    ·refine(hpd' e he).mono hc E2.keep (M5 _) λT8 c hk=>?_
     have hO:hid pl X.O T8:=.inr ⟨e,he,c,hk⟩
     exact E2.same T8 (R'.obd T8 hO) λho=>(R'.inb T8 ho).2 hO
   ·intro e he
    rcases NF.1 he with rfl|he
    ·refine⟨hVR,zii,(ε _).2 (.inl rfl),hki ξ,hhs,o,hoL,λy hy=>⟨λz hz=>?_,λU8=>?_⟩⟩
     ·rcases hat y z hz with ⟨_,h4⟩|⟨h3,_⟩
      ·exact h4
      ·exact absurd hy h3
     ·rw[hdF y hy U8,hd]
    ·obtain⟨g1,g2,g3,g4,g5,o2,g6,g7⟩:=I.pe e he
     refine⟨g1,g2,(ε _).2 (.inr g3),g4,g5,o2,g6,λy hy=>⟨λz hz=>?_,(g7 y hy).2⟩⟩
     rcases hat y z hz with ⟨h3,_⟩|⟨_,h4⟩
     ·exact absurd (F.uniq _ _ _ _ y g6 hoL hy h3) (Μ e he)
     ·exact(g7 y hy).1 z h4
   ·refine R8.2 ⟨λe he=>⟨λh=>Μ e he h.symm,λk c c' h3 h4=>(hfr k c h3).2 (.inr ⟨e,he,c',h4⟩)⟩,I.dis⟩
   ·intro e he k' c hk
    rcases NF.1 he with rfl|he
    ·obtain⟨h3,h4⟩:=hfr k' c hk
     exact⟨OP E'.size h3,λh=>h4 (.inl h)⟩
    ·exact I.fresh e he k' c hk
   ·intro c o' Uy Δ
    rw[ε,I.chain c o' Uy Δ]
    simp only[NW,NF,not_or]
    constructor
    ·rintro⟨h3,h4⟩
     exact⟨.inr h3,λh=>χ (h▸h3),h4⟩
    ·rintro⟨h3|h3,h4,h5⟩
     ·exact absurd h3 h4
     ·exact⟨h3,h5⟩
 ·-- it leaves the heap alone
  have zki:∀c o',ops.toList[c]? = some o'->Ud o'.op=false->(pos c<k ↔ (c=i\/XV S c)/\c ∉ pl.map (·.i)):=by
   intro c o' Uy Δ
   rw[I.chain c o' Uy Δ]
   constructor
   ·exact λh=>⟨.inr h.1,h.2⟩
   ·rintro⟨rfl|h1,h2⟩
    ·rw[hoL] at Uy;cases Uy;rw[ξ] at Δ;cases Δ
    ·exact⟨h1,h2⟩
  have zkh:∀d',(∀x,o.dst=some x->x<tF.length->tF.getD x .any=d')->∀a' w',(∃v,a'.tmps=(a.put o.dst v).tmps) ->
    St Γ {O:=hid pl X.O,w:=w,l:=l,h:=hs.getD k [],D:=X.D} {t:=UQ (mO ops.toList S (pl.map (·.i)) t0 tF) o.dst d',h:=hs.getD k [],m:=m} a' w' ->
    zfj Γ X ops.toList pos late m t0 tF hs k (S.setIfInBounds i true) pl a' w':=λd' hd' a' w' ha zhv =>
   I.after (_v:=undef) F hoL χ zfs E R hpd zhv ha hd' (λe he=>(I.pe e he).2.2.2.1) I.zfP zki
  have hgF:aZ ops.toList (ts.getD (pos i) []) o.guard=aZ ops.toList (mO ops.toList S (pl.map (·.i)) t0 tF) o.guard :=
   fp λx hx=>(zff x (by unfold cN;simp only[NY,Sd];exact .inr hx)).symm
  unfold dA at UT
  split at UT
  ·rename_i hg
   rw[if_pos (aG rt0 hg)]
   obtain⟨d2,h2,WW,hd2⟩:=F.quiet i o hoL ξ (by rw[hgF];exact hg) k I.zfP λc o' Uy Δ=>by
    refine⟨λhp=>?_,λhp hb=>?_⟩
    ·rw[Px]
     exact λhb=>χ (cb I.closed ((I.chain c o' Uy Δ).1 hp).1 i hb)
    ·have h1:=(zeW c hb).2
     apply Od
     intro hl
     have:=(I.chain c o' Uy Δ).2 ⟨h1,λhm=>by
      rw[Nt] at hm
      obtain⟨e,he,rfl⟩:=hm
      exact hl (I.pe e he).2.1⟩
     omega
   have hh:=b9 ξ WW
   subst hh
   rw[dF (t':=mO ops.toList S (pl.map (·.i)) t0 tF) o.op (λx hx=>gp λj hj=>(zff j (by
    unfold cN;simp only[NY,TV];exact .inl ⟨x,by simpa using hx,hj⟩)).symm)] at WW
   exact Hw (s:={t:=mO ops.toList S (pl.map (·.i)) t0 tF,h:=hs.getD k [],m:=m}) WW hSt.marks (λv w' hs'=>hK _ _ _ _ (zkh d2 (λx hx _=>hd2 x hx) _ _ ⟨v,rfl⟩ hs')) hSt
  ·rename_i hg
   simp only[MM,MP] at UT
   obtain⟨rfl,_⟩:=UT
   rw[if_neg (by rw[aG rt0 hg];simp)]
   exact⟨λ_ _=>trivial,hK _ _ _ _ (zkh _ hdF _ w ⟨undef,rfl⟩ (St.skip (s:={t:=mO ops.toList S (pl.map (·.i)) t0 tF,h:=hs.getD k [],m:=m}) o.dst hSt))⟩
  ·simp at UT
end
section
variable {P:Program} {Γ:aq} {X:Ctx} {r:Do} {call:XH} {ops:Is} {pos:Nat->Nat} {late:Nat->Bool} {m:iS} {t0 tF:bY} {hs:List (aT)} {ts:List (bY)} {Q:Exit->AS->Prop}
theorem wc(F:Fx P Γ ops.toList (cD ops.toList []) pos late m t0 tF hs ts)(hQ:Q .normal {t:=tF,h:=hs.getD ops.size [],m:=m}):
  ∀(fuel:Nat) (k:Nat) (S:IS) (pl:List Pe) (a:Act) (w:World),zfj Γ X ops.toList pos late m t0 tF hs k S pl a w->(N9 ops.size).countP (λj=>!S.getD j false)<=fuel ->
   wpAnyIn (FW r) 0 P .any ops (i9 Γ X Q) fuel S a w:=by
 have hn:ops.toList.length=ops.size:=by simp
 intro fuel
 induction fuel with
 | zero =>
  intro k S pl a w I ziC
  have τ:∀j,j<ops.size->XV S j:=by
   intro j hj
   have h0:(N9 ops.size).countP (λj=>!S.getD j false)=0:=by omega
   rw[TH] at h0
   have:=h0 j (by simpa using hj)
   simpa[XV] using this
  refine⟨?_,uc F hQ I τ⟩
  unfold P2
  rw[PL]
  intro j hj
  have hj':j<ops.size:=by simpa using hj
  have:=τ j hj'
  have hs2:j<S.size:=by rw[I.size,hn];exact hj'
  unfold XV at this
  have h3:S.getD j true=true:=by
   simp only[NI,NL hs2,OA] at this ⊢
   exact this
  simp[h3]
 | succ fuel ih =>
  intro k S pl a w I ziC
  refine⟨λzeV=>?_,λi hi=>?_⟩
  ·refine uc F hQ I ?_
   have key:∀n,∀j,j<n->j<ops.size->XV S j:=by
    intro n
    induction n with
    | zero=>intro j hj;omega
    | succ n ihn =>
     intro j hj hjs
     by_cases hjn:j<n
     ·exact ihn j hjn hjs
     have:j=n:=by omega
     subst this
     apply Od
     intro hno
     unfold P2 at zeV
     rw[PL] at zeV
     have h1:=zeV j (by simpa using hjs)
     apply h1
     have hs2:j<S.size:=by rw[I.size,hn];exact hjs
     have ho:ops[j]? = some ops[j]:=NL hjs
     have h3:S.getD j true=false:=by
      unfold XV at hno
      simp only[NI,NL hs2,OA] at hno ⊢
      simpa using hno
     have h4:(ops[j].after.all λe=>!Ol .any e||S.getD e.on false)=true:=by
      rw[Pa]
      intro e he
      cases hb:Ol .any e
      ·rfl
      ·have U8:=F.zgP j ops[j] (by simp) e (by simpa using he) hb
       have:=ihn e.on U8 (by omega)
       simpa[XV] using this
     rw[h3,ho]
     simpa using h4
   exact λj hj=>key (j+1) j (by omega) hj
  ·unfold P2 at hi
   rw[Q5] at hi
   obtain⟨hi1,hi2⟩:=hi
   have his:i<ops.size:=by simpa using hi1
   have hiS:i<S.size:=by rw[I.size,hn];exact his
   have ho:ops[i]? = some ops[i]:=NL his
   generalize ho0:ops[i]=o at ho
   have hoL:ops.toList[i]? = some o:=by simpa using ho
   simp only[ho,Nr,OA,MT,OC] at hi2
   obtain⟨hi3,hi4⟩:=hi2
   have χ:¬XV S i:=by
    unfold XV
    simp only[NI,NL hiS,OA] at hi3 ⊢
    simp[hi3]
   have zfs:∀e∈o.after.toList,Ol .any e=true->XV S e.on:=by
    intro e he hb
    rw[Pa] at hi4
    have:=hi4 e (by simpa using he)
    simpa[hb,XV] using this
   have ε:∀j,XV (S.setIfInBounds i true) j ↔ j=i\/XV S j:=λj=>od hiS
   have zfK:(N9 ops.size).countP (λj=>!(S.setIfInBounds i true).getD j false)<=fuel:=by
    have:(N9 ops.size).countP (λj=>!(S.setIfInBounds i true).getD j false)<(N9 ops.size).countP (λj=>!S.getD j false):=by
     refine jY (λx hx=>?_) i (by simpa using his) ?_ ?_
     ·have h1:¬XV (S.setIfInBounds i true) x:=by unfold XV;simpa using hx
      rw[ε] at h1
      have:¬XV S x:=λh=>h1 (.inr h)
      unfold XV at this
      simpa using this
     ·unfold XV at χ;simpa using χ
     ·have:XV (S.setIfInBounds i true) i:=(ε i).2 (.inl rfl)
      unfold XV at this
      simpa using this
    omega
   have:=zz (r:=r) (K:=wpAnyIn (FW r) 0 P .any ops (i9 Γ X Q) fuel (S.setIfInBounds i true)) (Q':=i9 Γ X Q) F I hoL χ zfs (λk' pl' a' w' I'=>ih k' _ pl' a' w' I' zfK)
   unfold wpOpIn
   simp only[ho]
   exact this
end
section
variable {P:Program} {Γ:aq} {X:Ctx} {r:Do} {call:XH} {ops:Is} {pos:Nat->Nat} {late:Nat->Bool} {s:AS} {tF:bY} {hs:List (aT)} {ts:List (bY)} {Q:Exit->AS->Prop}
theorem VW.draw5(ok:POk P){id:Nat}(F:Fx P Γ ops.toList (cD ops.toList []) pos late s.m s.t tF hs ts)(h0:hs.getD 0 []=s.h)
  (hun:∀x,(∀o∈ops.toList,o.dst≠some x)->tF.getD x .any=s.t.getD x .any) (hQ:Q .normal {t:=tF,h:=hs.getD ops.size [],m:=s.m}):VW P Γ X r (.region id ops true) Q s:=by
 intro a w ω
 refine wpIn_region_any ok.mixed ?_
 have zgl:∀j,(QG ops.size false).getD j false=false:=by
  intro j
  simp only[NI,SH]
  split<;>rfl
 refine wc (t0:=s.t) (hs:=hs) F hQ ops.size 0 _ [] a _ ⟨by simp,λk o hk _ _ _ _=>?_,?_,λe he=>by simp at he,List.Pairwise.nil,λe he=>by simp at he,λc o _ _=>?_,.inl rfl⟩ ?_
 ·unfold XV at hk;rw[zgl] at hk;cases hk
 ·have e1:mO ops.toList (QG ops.size false) [] s.t tF=s.t:=by
   rw[xN]
   refine bu (by rw[aH,F.len]) λx hx=>?_
   rw[aH] at hx
   rw[gq hx]
   split
   ·rfl
   ·rename_i hp
    refine hun x λo ho hd=>hp ?_
    obtain⟨k,hk⟩:=P7.1 ho
    exact dG.2 ⟨k,o,hk,hd,zgl k⟩
  have hh:hid [] X.O=X.O:=by
   funext k'
   apply propext
   simp[hid]
  obtain⟨l,R,E,rt,rd⟩:=ω
  obtain⟨R',E'⟩:=R.of_heap (w':={w with drawn:=w.drawn+1}) rfl ⟨rfl,rfl,rfl,(by first|exact M5 _|exact Nat.le_succ _)⟩
  refine⟨l,?_,?_,?_,?_,λe he=>by simp at he⟩
  ·rw[h0,hh];exact R'
  ·rw[h0];exact E.trans E'
  ·rw[h0,hh,List.map_nil,e1];exact E'.π rt
  ·rw[h0];exact rd
 ·unfold XV
  rw[zgl]
  simp
 ·refine OP Tf (by simp)
end
def zA(B:iS)(i j:Nat):Bool:=!(B.getD i 0).testBit j&&!(B.getD j 0).testBit i
def oe(L:oR)(B:iS):iS :=
 (L.zipIdx.filter λp=>zgq p.1.op&&p.1.guard.isNone&&(ig L).any λc=>c != p.2&&zA B p.2 c).map (·.2)
def IE(B:iS)(lt:iS):iS->iS->iS
 | [],Ν=>Ν
 | j::js,Ν =>
  if lt.contains j then IE B lt js (Ν++[j])
  else (Ν.filter λi=>(B.getD j 0).testBit i)++j::IE B lt js (Ν.filter λi=>!(B.getD j 0).testBit i)
def ED(L:oR)(B:iS)(lt:iS):iS:=IE B lt (N9 L.length) []
def bq(ord:iS)(i:Nat):Nat:=ord.idxOf i
def ej(L:oR)(B:iS)(ord:iS)(lt:iS):Bool :=
 (Zd (ord.length=L.length)&&(ord.zipIdx.all λp=>bq ord p.1==p.2&&Zd (p.1<L.length))) &&
 L.zipIdx.all λp =>
  (Zd (bq ord p.2<L.length) &&
  (ord[bq ord p.2]? == some p.2)) &&
  ((p.1.after.toList.all λe=>!Ol .any e||Zd (e.on<p.2)) &&
  ((N9 (p.2+1)).all λj=>!(B.getD p.2 0).testBit j||Zd (bq ord j<bq ord p.2))) &&
  ((L.zipIdx.all λq=>(p.2==q.2||p.1.dst.isNone||!(p.1.dst==q.1.dst)) &&
   (Ud p.1.op||Ud q.1.op||lt.contains p.2||!Zd (bq ord q.2<bq ord p.2)||(B.getD p.2 0).testBit q.2)) &&
  ((cN L p.1).all λx=>L.zipIdx.all λq=>!(q.1.dst==some x) ||
   ((B.getD p.2 0).testBit q.2&&(!lt.contains q.2||L.zipIdx.all λs=>Ud s.1.op||!Zd (bq ord s.2<bq ord q.2)||(B.getD p.2 0).testBit s.2)) ||
   (!(B.getD p.2 0).testBit q.2&&(B.getD q.2 0).testBit p.2))) &&
  (!lt.contains p.2||(zgq p.1.op&&p.1.guard.isNone&&!Ud p.1.op))
def qx(f:Value->Value->Bool):At->At->Bool
 | [],[]=>true
 | a::as,b::bs=>f a b&&qx f as bs
 | _,_=>false
theorem ue{f:Value->Value->Bool}(hf:∀a b,f a b=true->a=b):∀{a b:At},qx f a b=true->a=b
 | [],[],_=>rfl
 | a::as,b::bs,h=>by simp only[qx,MT] at h;rw[hf _ _ h.1,ue hf h.2]
 | [],_::_,h=>by simp[qx] at h
 | _::_,[],h=>by simp[qx] at h
def Bn:Nat->Value->Value->Bool
 | _,.bool a,.bool b=>a==b
 | _,.int k a,.int k' b=>Zd (k=k')&&Zd (a=b)
 | _,.string a,.string b=>eqS a b
 | _,.slice none a b,.slice none c d=>a==c&&b==d
 | n+1,.agg ⟨a⟩,.agg ⟨b⟩=>qx (Bn n) a b
 | _,_,_=>false
theorem EE:∀(n:Nat) (a b:Value),Bn n a b=true->a=b:=by
 intro n
 induction n with
 | zero =>
  intro a b h
  unfold Bn at h
  split at h<;>simp_all[eqS]
  ·rename_i x y
   cases x;cases y
   simp only[Rh]
   exact h
 | succ n ih =>
  intro a b h
  unfold Bn at h
  split at h<;>simp_all[eqS]
  ·rename_i x y
   cases x;cases y
   simp only[Rh]
   exact h
  ·exact ue ih h
def IG:Value->Value->Bool
 | .bool a,.bool b=>a==b
 | .int k a,.int k' b=>Zd (k=k')&&Zd (a=b)
 | .string a,.string b=>eqS a b
 | .pointer none,.pointer none=>true
 | .nilFunc,.nilFunc=>true
 | .map none,.map none=>true
 | .slice none a b,.slice none c d=>a==c&&b==d
 | .tuple ⟨[]⟩,.tuple ⟨[]⟩=>true
 | .nilIface,.nilIface=>true
 | .iface t a,.iface u b=>t==u&&Bn 3 a b
 | .func (.func f) ⟨[]⟩ ⟨[]⟩,.func (.func g) ⟨[]⟩ ⟨[]⟩=>f==g
 | _,_=>false
theorem EF{a b:Value}(h:IG a b=true):a=b:=by
 unfold IG at h
 split at h<;>simp_all[eqS]
 ·rename_i x y
  cases x;cases y
  simp only[Rh]
  exact h
 ·exact EE _ _ _ h.2
mutual
def og:Dp->Dp->Bool
 | .v a,.v b=>IG a b
 | .sl a,.sl b=>gr a b
 | _,_=>false
def gr:bv->bv->Bool
 | [],[]=>true
 | a::as,b::bs=>eV a b&&gr as bs
 | _,_=>false
def eV:dO->dO->Bool
 | [],[]=>true
 | a::as,b::bs=>og a b&&eV as bs
 | _,_=>false
end
mutual
theorem zic:∀{a b:Dp},og a b=true->a=b
 | .v a,.v b,h=>by simp only[og] at h;rw[EF h]
 | .sl a,.sl b,h=>by simp only[og] at h;rw[zfE h]
 | .v _,.sl _,h=>by simp[og] at h
 | .sl _,.v _,h=>by simp[og] at h
theorem zfE:∀{a b:bv},gr a b=true->a=b
 | [],[],_=>rfl
 | a::as,b::bs,h=>by simp only[gr,MT] at h;rw[zfn h.1,zfE h.2]
 | [],_::_,h=>by simp[gr] at h
 | _::_,[],h=>by simp[gr] at h
theorem zfn:∀{a b:dO},eV a b=true->a=b
 | [],[],_=>rfl
 | a::as,b::bs,h=>by simp only[eV,MT] at h;rw[zic h.1,zfn h.2]
 | [],_::_,h=>by simp[eV] at h
 | _::_,[],h=>by simp[eV] at h
end
mutual
def zcl:D->D->Bool
 | .p a,.p b=>og a b
 | .any,.any=>true
 | .ref a,.ref b=>Zd (a=b)
 | .ep a,.ep b=>eV a b
 | .csl a,.csl b=>gr a b
 | .fn (.func f) a c,.fn (.func g) b d=>f==g&&j0 a b&&j0 c d
 | .fn (.yield f) a c,.fn (.yield g) b d=>f==g&&j0 a b&&j0 c d
 | .agg a,.agg b=>j0 a b
 | .UI a,.UI b=>j0 a b
 | _,_=>false
def j0:bY->bY->Bool
 | [],[]=>true
 | a::as,b::bs=>zcl a b&&j0 as bs
 | _,_=>false
end
mutual
theorem iR:∀{a b:D},zcl a b=true->a=b
 | .p a,b,h=>by cases b<;>simp only[zcl,NC] at h;rw[zic h]
 | .any,b,h=>by cases b<;>simp only[zcl,NC] at h;rfl
 | .ref a,b,h=>by cases b<;>simp only[zcl,NC,decide_eq_true_eq] at h;rw[h]
 | .ep a,b,h=>by cases b<;>simp only[zcl,NC] at h;rw[zfn h]
 | .csl a,b,h=>by cases b<;>simp only[zcl,NC] at h;rw[zfE h]
 | .fn f a c,b,h=>by
  cases b<;>try (cases f<;>simp[zcl] at h;done)
  rename_i g b d
  cases f<;>try (simp[zcl] at h;done)
  all_goals
   cases g<;>try (simp[zcl] at h;done)
   simp only[zcl,MT,beq_iff_eq] at h
   rw[h.1.1,zec h.1.2,zec h.2]
 | .agg a,b,h=>by cases b<;>simp only[zcl,NC] at h;rw[zec h]
 | .UI a,b,h=>by cases b<;>simp only[zcl,NC] at h;rw[zec h]
 | .grd _ _,b,h=>by cases b<;>simp[zcl] at h
theorem zec:∀{a b:bY},j0 a b=true->a=b
 | [],[],_=>rfl
 | a::as,b::bs,h=>by simp only[j0,MT] at h;rw[iR h.1,zec h.2]
 | [],_::_,h=>by simp[j0] at h
 | _::_,[],h=>by simp[j0] at h
end
def Hx(P:Program)(Γ:aq)(L:oR)(B:iS)(tF:bY)(hs:List (aT))(ts:List (bY)):Bool :=
 L.zipIdx.all λp=>!Ud p.1.op||(match aZ L (ts.getD p.2 []) p.1.guard with
  | some true=>(qc L).all λk=>!lm L B p.2 k||(match U6 P Γ (ts.getD p.2 []) (hs.getD k []) p.1.op with
   | some (true,d,_)=>(match p.1.dst with|some x=>zcl (tF.getD x .any) d|none=>true)
   | _=>false)
  | some false=>true
  | none=>false)
theorem qy{f:D->D}(hf:γ f){L:oR}{t:bY}{g:Option (Nat×Bool)}{b:Bool}(h:aZ L t g=some b):aZ L (t.map f) g=some b:=by
 unfold aZ at h ⊢
 split at h
 ·exact h
 ·split at h
  ·rename_i x hx
   simp only[Nx,Om] at h ⊢
   cases ht:t[x]? with
   | none=>simp[ht,zeN] at h
   | some d =>
    simp only[ht,OA,Nr] at h ⊢
    have h0:=h
    unfold zeN at h
    split at h
    ·rw[hf.pure];exact h0
    ·rw[hf.gd];exact h0
    ·simp at h
  ·exact h
theorem zB{P:Program}{Γ:aq}{L:oR}{B:iS}{tF:bY}{hs:List (aT)}{ts:List (bY)}(h:Hx P Γ L B tF hs ts=true):oc P Γ L B tF hs ts:=by
 intro i o ho hq ⟨f,hf,hg⟩ k hk hc
 have:=bh h ho
 simp only[hq,PS,PT] at this
 split at this
 ·have:=Ni.1 this k hk
  simp only[hc,PS,PT] at this
  split at this
  ·rename_i d h' WW
   refine⟨id,d,h',γ.id,by rw[List.map_id];exact WW,λx hx=>?_⟩
   rw[hx] at this
   rw[iR this]
   exact Rf _
  ·simp at this
 ·rename_i hg'
  rw[qy hf hg'] at hg
  cases hg
 ·cases this
def j1(L:oR)(ord:iS):oR:=ord.map λi=>L.getD i default
def gt(L:oR)(ord:iS):iS:=0::(ig L).map λc=>bq ord c+1
def MA(L:oR)(ord lt:iS)(hs:List (aT)):Bool :=
 lt.all λi=>(gt L ord).all λk=>(hs.getD k []).all (MY (hs.getD k []).length) &&
  ((hs.getD (bq ord i+1) []).drop (hs.getD (bq ord i) []).length).all (MY (hs.getD k []).length)
def lp(L:oR)(B ord lt:iS)(i k:Nat):Bool :=
 (ig L).all λc=>if bq ord c<k then !(B.getD c 0).testBit i else (!(B.getD i 0).testBit c||lt.contains c)
def Bo(P:Program)(Γ:aq)(L:oR)(B ord lt:iS)(tF:bY)(hs:List (aT))(ts:List (bY)):Bool :=
 L.zipIdx.all λp=>!Ud p.1.op||(match aZ L (ts.getD (bq ord p.2) []) p.1.guard with
  | some true=>(gt L ord).all λk=>!lp L B ord lt p.2 k||(match U6 P Γ (ts.getD (bq ord p.2) []) (hs.getD k []) p.1.op with
   | some (true,d,_)=>(match p.1.dst with|some x=>zcl (tF.getD x .any) d|none=>true)
   | _=>false)
  | _=>true)
section
variable {P:Program} {Γ:aq} {call:XH} {m:iS} {L:oR} {B ord lt:iS} {t0 tF:bY} {hs:List (aT)} {ts:List (bY)}
structure Ord (L:oR) (ord:iS):Prop where
 len:ord.length=L.length
 at':∀(i:Nat) (o:Oper),L[i]? = some o->bq ord i<L.length/\ord[bq ord i]? = some i
 back:∀(q i:Nat),ord[q]? = some i->bq ord i=q/\i<L.length
theorem Bp(hO:Ord L ord){i:Nat}{o:Oper}(h:L[i]? = some o):(j1 L ord)[bq ord i]? = some o:=by
 unfold j1
 rw[Om,(hO.at' i o h).2]
 simp[Nx,h]
theorem lq(hO:Ord L ord){q:Nat}{o:Oper}(h:(j1 L ord)[q]? = some o):∃i,L[i]? = some o/\bq ord i=q:=by
 unfold j1 at h
 rw[Om,MV] at h
 obtain⟨i,h1,h2⟩:=h
 obtain⟨h3,h4⟩:=hO.back q i h1
 refine⟨i,?_,h3⟩
 rw[<-h2,Nx,Nd h4]
 rfl
end
section
variable {P:Program} {Γ:aq} {call:XH} {m:iS} {L:oR} {ord lt:iS} {t0 tF:bY} {h0:aT} {hs:List (aT)} {ts:List (bY)}
theorem Hy(h:ej L (cD L []) ord lt=true):Ord L ord:=by
 unfold ej at h
 simp only[MT,decide_eq_true_eq] at h
 obtain⟨⟨h1,h2⟩,h3⟩:=h
 refine⟨h1,λi o ho=>?_,λq i hq=>?_⟩
 ·have:=bh h3 ho
  simp only[MT,decide_eq_true_eq,beq_iff_eq] at this
  exact this.1.1.1
 ·have:=Ni.1 h2 (i,q) (by rw[List.mk_mem_zipIdx_iff_getElem?];exact hq)
  simpa using this
theorem xO(_hO:Ord L ord){k:Nat}(hk:Cand L (bq ord) k):k∈gt L ord:=by
 unfold gt
 rcases hk with rfl|⟨c,o,ho,hq,rfl⟩
 ·exact OI ..
 ·exact O2 _ (Nt.2 ⟨c,qv ho hq,rfl⟩)
theorem Hz(hs0:ej L (cD L []) ord lt=true)(hr:zfy P Γ m L Eq (· = id) (j1 L ord) t0 h0 tF hs ts)(hi:MA L ord lt hs=true) (hq:∀(i:Nat) (o:Oper),L[i]? = some o->Ud o.op=true->aZ L (ts.getD (bq ord i) []) o.guard=some true->∀k∈gt L ord,lp L (cD L []) ord lt i k=true ->
   ∃d h',U6 P Γ (ts.getD (bq ord i) []) (hs.getD k []) o.op=some (true,d,h')/\∀x,o.dst=some x->tF.getD x .any=d) :
  Fx P Γ L (cD L []) (bq ord) (λi=>lt.contains i) m t0 tF hs ts/\hs.getD 0 []=h0/\∀x,(∀o∈L,o.dst≠some x)->tF.getD x .any=t0.getD x .any:=by
 have hO:=Hy hs0
 have ω:=hs0
 unfold ej at ω
 simp only[MT] at ω
 have τ:=ω.2
 have fact:=λ{i:Nat} {o:Oper} (ho:L[i]? = some o)=>bh τ ho
 simp only[MT] at fact
 have zgP:∀(i:Nat) (o:Oper),L[i]? = some o->∀e∈o.after.toList,Ol .any e=true->e.on<i:=by
  intro i o ho e he hb
  have:=Ni.1 (fact ho).1.1.2.1 e he
  simpa[hb] using this
 have uniq:∀(i j:Nat) (o o':Oper) (x:Tmp),L[i]? = some o->L[j]? = some o'->o.dst=some x->o'.dst=some x->i=j:=by
  intro i j o o' x ho XW hd hd'
  have:=bh (fact ho).1.2.1 XW
  simp only[MT] at this
  have:=this.1
  simpa[hd,hd'] using this
 obtain⟨g1,g2,g3,g4,g5⟩:=jt _ _ _ _ _ _ hr
 have inj:∀(i j:Nat) (o o':Oper),L[i]? = some o->L[j]? = some o'->bq ord i=bq ord j->i=j:=by
  intro i j o o' hi' hj he
  have h1:=(hO.at' i o hi').2
  have h2:=(hO.at' j o' hj).2
  rw[he,h2] at h1
  simpa using h1.symm
 have posB:∀(i:Nat) (o:Oper) (j:Nat),L[i]? = some o->((cD L []).getD i 0).testBit j=true->bq ord j<bq ord i:=by
  intro i o j ho hb
  have hcl:ie L (λx=>x<=i):=λk o' hk XW e he hbe=>by
   have:=zgP k o' XW e he hbe
   show e.on<=i
   omega
  have h1:j<=i:=cb hcl (k:=i) (M5 i) j hb
  have:=Ni.1 (fact ho).1.1.2.2 j (by simp;omega)
  rw[hb] at this
  simpa using this
 have hlen:(j1 L ord).length=L.length:=by unfold j1;rw[List.length_map,hO.len]
 have hatP:∀(i:Nat) (o:Oper),L[i]? = some o->∃call,XH.Ok P Γ call/\∃d,dA P Γ call m L (ts.getD (bq ord i) []) (hs.getD (bq ord i) []) o=some (d,hs.getD (bq ord i+1) []) /\
   (∀x,(∀(j:Nat) (o':Oper),L[j]? = some o'->bq ord i<=bq ord j->o'.dst≠some x)->tF.getD x .any=(ts.getD (bq ord i) []).getD x .any) /\
   (∀x,(∀(j:Nat) (o':Oper),L[j]? = some o'->bq ord j<bq ord i->o'.dst≠some x)->(ts.getD (bq ord i) []).getD x .any=t0.getD x .any) /\
   (∀x,o.dst=some x->x<tF.length->tF.getD x .any=d):=by
  intro i o ho
  obtain⟨call,hco,f,d',d,⟨hf,k1,rfl⟩,k2,k3,k4⟩:=g5 (bq ord i) o (Bp hO ho)
  rw[hf,List.map_id] at k1
  refine⟨call,hco,d',k1,λx hx=>k2 x λq o' hle hq'=>?_,λx hx=>k3 x λq o' hle hq'=>?_,λx hx U8=>k4 x hx (λq o' hlt' hq'=>?_) (by rw[<-g1];exact U8)⟩
  ·obtain⟨j,hj,rfl⟩:=lq hO hq'
   exact hx j o' hj hle
  ·obtain⟨j,hj,rfl⟩:=lq hO hq'
   exact hx j o' hj hle
  ·obtain⟨j,hj,rfl⟩:=lq hO hq'
   intro hd
   have:=uniq j i o' o x hj ho hd hx
   subst this
   omega
 have const1:∀q o,(j1 L ord)[q]? = some o->Ud o.op=true->hs.getD (q+1) []=hs.getD q []:=by
  intro q o ho ξ
  obtain⟨call,hco,f,d',d,⟨_,k1,_⟩,_⟩:=g5 q o ho
  exact ju ξ k1
 have const:∀n k,(∀c o,L[c]? = some o->Ud o.op=false->¬(k<=bq ord c/\bq ord c<k+n))->k+n<=L.length->hs.getD (k+n) []=hs.getD k []:=by
  intro n
  induction n with
  | zero=>intro k _ _;rfl
  | succ n ih =>
   intro k h1 h2
   have U8:k+n<(j1 L ord).length:=by omega
   have ho:=Nd U8
   obtain⟨j,hj,hpj⟩:=lq hO ho
   have ξ:Ud ((j1 L ord)[k+n]).op=true:=by
    rw[<-Bool.not_eq_false]
    exact λhf=>h1 j _ hj hf (by omega)
   rw[<-Qb,const1 _ _ ho ξ]
   exact ih k (λc o Uy Δ=>λhx=>h1 c o Uy Δ (by omega)) (by omega)
 refine⟨⟨zgP,posB,uniq,inj,λi o ho=>(hO.at' i o ho).1,?_,?_,?_,?_,hatP,g1,const,?_,?_⟩,?_,?_⟩
 ·intro i o x ho hx k o' hk hd
  have:=Ni.1 (fact ho).1.2.2 x hx
  have:=bh this hk
  simp only[hd,beq_self_eq_true,PS,PT,Bool.or_eq_true,MT] at this
  rcases this with h|h
  ·exact .inl h.1
  ·exact .inr h.2
 ·intro c c' o o' hc hc' hq1 hq2 hl hp
  have:=bh (fact hc).1.2.1 hc'
  simp only[MT] at this
  have:=this.2
  rw[hq1,hq2,hl] at this
  simpa[hp] using this
 ·intro i o ho hl
  have:=(fact ho).2
  simp only[hl,PS,PT,MT,OC,Option.isNone_iff_eq_none] at this
  exact⟨this.1.1,this.2,this.1.2⟩
 ·intro i j o o' x ho hx hj hd hl hb c o2 hc hq2 hp
  have:=Ni.1 (fact ho).1.2.2 x hx
  have:=bh this hj
  simp only[hd,beq_self_eq_true,PS,PT,hb,Bool.true_and,hl,Bool.false_and,Bool.or_false] at this
  have:=bh this hc
  simpa[hq2,hp] using this
 ·intro i o k x ho hl hk hx
  have h1:=Ni.1 hi i (by simpa using hl)
  have h2:=Ni.1 h1 k (xO hO hk)
  simp only[MT] at h2
  refine⟨h2.1,?_⟩
  have:=h2.2
  rw[hx] at this
  simpa using this
 ·intro i o ho ξ hg k hk zge
  have hc:lp L (cD L []) ord lt i k=true:=by
   unfold lp
   rw[Ni]
   intro c Uy
   obtain⟨o',XW,hq'⟩:=dh Uy
   obtain⟨k1,k2⟩:=zge c o' XW hq'
   split
   ·rename_i U8
    rw[k1 U8];rfl
   ·rename_i U8
    cases hb:((cD L []).getD i 0).testBit c
    ·rfl
    ·simpa using k2 (by omega) hb
  exact hq i o ho ξ hg k (xO hO hk) hc
 ·simp[Nx,g3]
 ·intro x hx
  refine g2 x λo ho=>?_
  obtain⟨q,hq'⟩:=P7.1 ho
  obtain⟨j,hj,_⟩:=lq hO hq'
  exact hx o (List.mem_of_getElem? hj)
theorem fx_of(hs0:ej L (cD L []) ord lt=true)(hr:zfy P Γ m L Eq (· = id) (j1 L ord) t0 h0 tF hs ts)(hi:MA L ord lt hs=true)(hq:Bo P Γ L (cD L []) ord lt tF hs ts=true):
  Fx P Γ L (cD L []) (bq ord) (λi=>lt.contains i) m t0 tF hs ts/\hs.getD 0 []=h0/\∀x,(∀o∈L,o.dst≠some x)->tF.getD x .any=t0.getD x .any:=by
 refine Hz hs0 hr hi λi o ho ξ hg k hk hc=>?_
 have h1:=bh hq ho
 simp only[ξ,PS,PT,hg] at h1
 have h2:=Ni.1 h1 k hk
 simp only[hc,PS,PT] at h2
 split at h2
 ·rename_i d h' WW
  refine⟨d,h',WW,λx hx=>?_⟩
  rw[hx] at h2
  exact iR h2
 ·simp at h2
end
def zgw(P:Program)(Γ:aq)(call:XH)(m:iS)(ops:oR)(B ord lt:iS)(t:bY)(h:aT):Option (bY×aT) :=
 match ej ops B ord lt with
 | true=>match Mz P Γ call m ops (j1 ops ord) t h with
  | some (tF,hs,ts)=>match MA ops ord lt hs with
   | true=>match Bo P Γ ops B ord lt tF hs ts with
    | true=>some (tF,hs.getD ops.length [])
    | false=>none
   | false=>none
  | none=>none
 | false=>none
def oi(P:Program)(Γ:aq)(call:XH)(m:iS)(ops:oR)(draw:Bool)(t:bY)(h:aT):Option (bY×aT) :=
 match draw with
 | false=>n8 P Γ call m ops ops t h
 | true=>match r9 ops (cD ops []) with
  | true=>match Mz P Γ call m ops ops t h with
   | some (tF,hs,ts)=>match Hx P Γ ops (cD ops []) tF hs ts with
    | true=>some (tF,hs.getD ops.length [])
    | false=>none
   | none=>none
  | false=>zgw P Γ call m ops (cD ops []) (ED ops (cD ops []) (oe ops (cD ops []))) (oe ops (cD ops [])) t h
theorem VW.zgw{P:Program}{Γ:aq}{X:Ctx}{r:Do}{call:XH}{s:AS}{Q:Exit->AS->Prop}(ok:POk P)(hc:call.Ok P Γ){id:Nat}{ops:Is}{ord lt:iS}{t':bY}{h':aT}
  (hr:zgw P Γ call s.m ops.toList (cD ops.toList []) ord lt s.t s.h=some (t',h')) (hQ:Q .normal {t:=t',h:=h',m:=s.m}):VW P Γ X r (.region id ops true) Q s:=by
 unfold Vi.zgw at hr
 split at hr
 ·rename_i hs0
  split at hr
  ·rename_i tF hs ts Φ
   split at hr
   ·rename_i hi
    split at hr
    ·rename_i hq
     simp only[MM,MP] at hr
     obtain⟨rfl,rfl⟩:=hr
     obtain⟨F,h0,hun⟩:=fx_of hs0 (mh (wk:=Eq) (fx:=(· = _root_.id)) (λ_=>rfl) rfl hc _ _ _ _ _ _ Φ) hi hq
     exact VW.draw5 ok F h0 hun (by simpa using hQ)
    ·simp at hr
   ·simp at hr
  ·simp at hr
 ·simp at hr
theorem VW.run{P:Program}{Γ:aq}{X:Ctx}{r:Do}{call:XH}{s:AS}{Q:Exit->AS->Prop}(ok:POk P)(hc:call.Ok P Γ){id:Nat}{ops:Is}{draw:Bool}{t':bY}{h':aT}
  (hr:oi P Γ call s.m ops.toList draw s.t s.h=some (t',h')) (hQ:Q .normal {t:=t',h:=h',m:=s.m}):VW P Γ X r (.region id ops draw) Q s:=by
 unfold oi at hr
 cases draw with
 | false=>exact VW.region hc hr hQ
 | true =>
  simp only at hr
  split at hr
  ·rename_i hD
   split at hr
   ·rename_i tF hs ts Φ
    split at hr
    ·rename_i hqb
     simp only[MM,MP] at hr
     obtain⟨rfl,rfl⟩:=hr
     exact VW.draw ok (oa hD) (mh Rf Vi.γ.id hc _ _ _ _ _ _ Φ) (zB hqb) (by simpa using hQ)
    ·simp at hr
   ·simp at hr
  ·exact VW.zgw ok hc hr hQ
end Go.Vi
