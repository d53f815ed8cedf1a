/- LedgerPutSpec: part of the proof: an evaluator of the model's programs on abstract values, and its soundness. No conditions beyond the given statement's own. -/
import Derived.Test.YtoincdhjcahadaaGreatDoorV4
import Derived.RecoverIn
open Decidable renaming decide → Qd
open Go.Region renaming binds → El, wanted → Ef, ready → Fc
open List renaming getElem?_eq_some_iff → Dq, mem_map → Eb, mem_cons → DM, mem_cons_of_mem → FI, mem_cons_self → EL, map_cons → Fm, mem_append → DX, range → EE, filter_eq_nil_iff → Gv, mem_iff_getElem? → FS, getD_eq_getElem?_getD → DR, getElem?_map → E5, all_eq_true → DK, getElem?_eq_getElem → D7, range' → ES, range'_succ → Hn, range_eq_range' → GB, getElem?_append_right → D4
open Bool renaming eq_false_iff → FJ, and_eq_true → Dr, not_eq_true' → ED, false_eq_true → D8, not_true → FT, false_or → Es
open Classical renaming byContradiction → Eo
open Option.some renaming injEq → Dj
open Prod.mk renaming injEq → Dm
open Array renaming toList_setIfInBounds → GN, getD_eq_getD_getElem? → D2, getElem?_eq_getElem → D5, all_eq_true_iff_forall_mem → FF, replicate → EN, getElem?_toList → Ej, length_toList → ER, toList_append → Hs
open Go.Vi.DefOk renaming mono → Ga
open Nat renaming le_refl → DJ
open Option renaming getD_some → EB, map_some → Ea
open Go.Vi.Blk renaming inn → D6, gone → F8, defd → GZ, loop → Jb
open Go.Deferred renaming ofValue → Ek
open Go.Sem renaming run_bind → DG, run_pure → DQ
open Go.Result renaming andThen_ok → DC
open Go.Fence renaming wide → G9
open Go.CallsIn renaming mono → Fi
open Go.Oper renaming semAt_eq → G1
namespace Go.Vi
open Go
section
variable {P:Program} {Γ:ae} {X:Ctx} {r:Option Nat} {call:CallF} {ops:Array Oper} {pos:Nat→Nat} {late:Nat→Bool} {m:List Nat} {t0 tF:List D} {hs:List (List Blk)} {ts:List (List D)} {Q:Exit→AS→Prop}
theorem sY(F:Fx P Γ ops.toList (a9 ops.toList []) pos late m t0 tF hs ts){k0 i:Nat}{S:Array Bool}{pl0:List Pe}{a:Act}{w:World}{o:Oper}{K:Act→World→Prop}{Q':Exit→Act→World→Prop}
  (I0:Inv5 Γ X ops.toList pos late m t0 tF hs k0 S pl0 a w) (hoL:ops.toList[i]? = some o) (hnotS:¬Lst S i) (hpre:∀e∈o.after.toList,El .any e=true→Lst S e.on)
  (hK:∀k pl a' w',Inv5 Γ X ops.toList pos late m t0 tF hs k (S.setIfInBounds i true) pl a' w'→K a' w') :
  if Ef o (yielded ops a.tmps) then o.wpIn (FW r) 0 P a w K Q' else (∀f,o.about P w a.eval=some f→(FW r).fn f)∧K (a.put o.dst undef) w:=by
 obtain⟨k,pl,I,hpl⟩:=told F I0
 have hiS:i<S.size:=by rw[I.size];exact(Dq.1 hoL).1
 have hsetS:∀j,Lst (S.setIfInBounds i true) j ↔ j=i∨Lst S j:=fun j=>j6 hiS
 have hclosed':ex ops.toList (Lst (S.setIfInBounds i true)):=by
  intro k' o' hk' ho' e he hb
  rw[hsetS] at hk' ⊢
  rcases hk' with rfl|hk'
  ·rw[hoL] at ho'
   cases ho'
   exact .inr (hpre e he hb)
  ·exact .inr (I.closed k' o' hk' ho' e he hb)
 have hbits:∀j,((a9 ops.toList []).getD i 0).testBit j=true→pos j<pos i∧Lst S j:=by
  intro j hj
  have h1:=F.posB i o j hoL hj
  have h2:=bb hclosed' (k:=i) ((hsetS i).2 (.inl rfl)) j hj
  rw[hsetS] at h2
  exact⟨h1,h2.resolve_left (fun h=>by rw[h] at h1;omega)⟩
 obtain⟨call,hc,d,hst,htF,ht0,hdF⟩:=F.hat i o hoL
 have hne:∀e∈pl,e.i ≠ i:=fun e he hei=>hnotS (hei▸(I.pe e he).2.2.1)
 have hnm:i ∉ pl.map (·.i):=fun hm=>by
  rw[Eb] at hm
  obtain⟨e,he,hei⟩:=hm
  exact hne e he hei
 have hseen:∀x∈bA ops.toList o,(jg ops.toList S (pl.map (·.i)) t0 tF).getD x .any=(ts.getD (pos i) []).getD x .any:=by
  intro x hx
  have hh:tQ ops.toList (pl.map (·.i)) x=false:=by
   rw[FJ]
   intro hh
   obtain⟨j,o',h1,h2,h3⟩:=cZ.1 hh
   rw[Eb] at h1
   obtain⟨e,he,rfl⟩:=h1
   obtain⟨_,hl,hS,_⟩:=I.pe e he
   rcases F.oper i o x hoL hx e.i o' h2 h3 with hb|hb
   ·obtain⟨c,o2,g1,g2,g3,g4⟩:=hpl e he
    exact g4 (hbits c (F.seen i e.i o o' x hoL hx h2 h3 hl hb c o2 g1 g2 g3)).2
   ·exact hnotS (bb I.closed hS i hb)
  rw[jq hh]
  by_cases hwr:∃(k':Nat) (o':Oper),ops.toList[k']? = some o'∧o'.dst=some x
  ·obtain⟨k',o',hk',hd'⟩:=hwr
   have huq:∀(j:Nat) (o2:Oper),ops.toList[j]? = some o2→o2.dst=some x→j=k':=fun j o2 hj hd2=>F.uniq j k' o2 o' x hj hk' hd2 hd'
   rcases F.oper i o x hoL hx k' o' hk' hd' with hb|hb
   ·obtain⟨hlt,hSk⟩:=hbits k' hb
    rw[bj (fun k2 o2 hk2 hd2=>by rw[huq k2 o2 hk2 hd2];exact hSk)]
    exact htF x fun j o2 hj hle hd2=>by
     have:=huq j o2 hj hd2
     subst this
     omega
   ·have hlt:=F.posB k' o' i hk' hb
    have hnk:¬Lst S k':=fun hSk=>hnotS (bb I.closed hSk i hb)
    rw[mZ F.len hk' hd' (by unfold Lst at hnk;simpa using hnk)]
    exact(ht0 x fun j o2 hj hle hd2=>by
     have:=huq j o2 hj hd2
     subst this
     omega).symm
  ·rw[bj (fun k2 o2 hk2 hd2=>absurd ⟨k2,o2,hk2,hd2⟩ hwr)]
   exact htF x fun j o2 hj _ hd2=>hwr ⟨j,o2,hj,hd2⟩
 have hst':bQ P Γ call m ops.toList (jg ops.toList S (pl.map (·.i)) t0 tF) (hs.getD (pos i) []) o=some (d,hs.getD (pos i+1) []):=by rw[fI hseen];exact hst
 obtain⟨l,hSt,E,R,hpd⟩:=I.here
 obtain⟨l0,R0,E0,rt0,rd0⟩:=hSt
 have hSt:St Γ {O:=hid pl X.O,w:=w,l:=l,h:=hs.getD k [],D:=X.D} {t:=jg ops.toList S (pl.map (·.i)) t0 tF,h:=hs.getD k [],m:=m} a w:=⟨l0,R0,E0,rt0,rd0⟩
 have hki:quietOp o.op=false→k≤pos i:=fun hq=>by
  apply Eo
  intro hlt
  exact hnotS ((I.chain i o hoL hq).1 (by omega)).1
 cases hqo:quietOp o.op
 ·cases hlate:late i
  ·-- it may change the heap, and is no late one
   have hall:∀c o',ops.toList[c]? = some o'→quietOp o'.op=false→pos c<pos i→Lst S c:=fun c o' hc' hq' hp=>(hbits c (F.chain i c o o' hoL hc' hqo hq' hlate hp)).2
   have hple:∀e∈pl,pos i+1≤pos e.i:=by
    intro e he
    obtain⟨c,o2,g1,g2,g3,g4⟩:=hpl e he
    obtain⟨_,_,_,_,_,o3,g5,_⟩:=I.pe e he
    have:¬pos c<pos i:=fun h=>g4 (hall c o2 g1 g2 h)
    omega
   have hH:hs.getD (pos i) []=hs.getD k []:=by
    have hk:=hki hqo
    have:=F.const (pos i - k) k (fun c o' hc1 hc2 hx=>by
     have h1:=hall c o' hc1 hc2 (by omega)
     have:=(I.chain c o' hc1 hc2).2 ⟨h1,fun hm=>by
      rw[Eb] at hm
      obtain⟨e,he,rfl⟩:=hm
      have:=hple e he
      omega⟩
     omega) (by have:=F.lt i o hoL;omega)
    rwa[show k+(pos i - k)=pos i by omega] at this
   have hfin:∀a' w',(∃v,a'.tmps=(a.put o.dst v).tmps)→St Γ {O:=hid pl X.O,w:=w,l:=l,h:=hs.getD k [],D:=X.D} {t:=putD (jg ops.toList S (pl.map (·.i)) t0 tF) o.dst d,h:=hs.getD (pos i+1) [],m:=m} a' w' →
     Inv5 Γ X ops.toList pos late m t0 tF hs (pos i+1) (S.setIfInBounds i true) pl a' w':=by
    intro a' w' ha hst2
    refine I.after (_v:=undef) F hoL hnotS hpre E R hpd hst2 ha hdF hple (.inr ⟨i,o,hoL,hqo,rfl⟩) fun c o' hc1 hc2=>?_
    constructor
    ·intro hp
     by_cases hci:pos c=pos i
     ·have:=F.inj c i o' o hc1 hoL hci
      subst this
      exact⟨.inl rfl,hnm⟩
     ·have h1:=hall c o' hc1 hc2 (by omega)
      refine⟨.inr h1,fun hm=>?_⟩
      rw[Eb] at hm
      obtain⟨e,he,rfl⟩:=hm
      have:=hple e he
      omega
    ·rintro⟨rfl|h1,h2⟩
     ·omega
     ·have:=(I.chain c o' hc1 hc2).2 ⟨h1,h2⟩
      have:=hki hqo
      omega
   rw[hH] at hst'
   unfold bQ at hst'
   split at hst'
   ·rename_i hg
    split at hst'
    ·rename_i d1 h1 hop
     split at hst'
     ·rename_i hm
      simp only[Dj,Dm] at hst'
      obtain⟨rfl,rfl⟩:=hst'
      rw[if_pos (am rt0 hg)]
      exact un (s:={t:=jg ops.toList S (pl.map (·.i)) t0 tF,h:=hs.getD k [],m:=m}) hc hop hm (fun v w' hs'=>hK _ _ _ _ (hfin _ _ ⟨v,rfl⟩ hs')) hSt
     ·simp at hst'
    ·simp at hst'
   ·rename_i hg
    simp only[Dj,Dm] at hst'
    obtain⟨rfl,hh⟩:=hst'
    rw[if_neg (by rw[am rt0 hg];simp)]
    refine⟨fun _ _=>trivial,hK _ _ _ _ (hfin _ w ⟨undef,rfl⟩ ?_)⟩
    rw[←hh]
    exact St.skip (s:={t:=jg ops.toList S (pl.map (·.i)) t0 tF,h:=hs.getD k [],m:=m}) o.dst hSt
   ·simp at hst'
  ·-- an allocation that is done and not told of
   obtain⟨hfo,_,hgn⟩:=F.lateOk i o hoL hlate
   unfold bQ at hst'
   rw[hgn] at hst'
   simp only[aB] at hst'
   split at hst'
   case h_2=>simp at hst'
   rename_i d1 h1 hop
   split at hst'
   case isFalse=>simp at hst'
   simp only[Dj,Dm] at hst'
   obtain⟨rfl,rfl⟩:=hst'
   unfold dM at hop
   split at hop
   ·rename_i hcl;rw[hcl] at hfo;simp[freeOp] at hfo
   split at hop
   case h_2=>simp at hop
   rename_i d2 h2 hop2
   simp only[Dj,Dm] at hop
   obtain⟨rfl,hh1⟩:=hop
   obtain⟨x,hxp,_,hd,hh2,hall⟩:=w8 hfo hop2
   have hhs:hs.getD (pos i+1) []=hs.getD (pos i) []++[x]:=by rw[←hh1,hh2]
   obtain⟨hi1,hi2⟩:=F.inn i o k x hoL hlate I.cand hhs
   have hw:Ef o (yielded ops a.tmps)=true:=am (b:=true) rt0 (by rw[hgn];rfl)
   rw[if_pos hw]
   obtain⟨l',R',E',rt',rd',hpd'⟩:=I.st
   refine zL (X:={O:=hid pl X.O,w:=w,l:=l',h:=hs.getD k []}) (s:={t:=jg ops.toList S (pl.map (·.i)) t0 tF,h:=hs.getD k [],m:=m}) R' rt' hxp (hall _) hi1 hi2 ?_
   intro v w' l2 p R2 E2 hPd hVR hfr
   simp only at R2 E2 hPd hfr
   refine hK k ({i:=i,p:=p,v:=v,x:=x}::pl) _ _ ?_
   have hhid:hid ({i:=i,p:=p,v:=v,x:=x}::pl) X.O=nU (hid pl X.O) p:=by
    funext k'
    apply propext
    constructor
    ·rintro (h|⟨f,hf,c,h⟩)
     ·exact .inl (.inl h)
     ·rcases DM.1 hf with rfl|hf
      ·exact .inr ⟨c,h⟩
      ·exact .inl (.inr ⟨f,hf,c,h⟩)
    ·rintro ((h|⟨f,hf,c,h⟩)|⟨c,h⟩)
     ·exact .inl h
     ·exact .inr ⟨f,FI _ hf,c,h⟩
     ·exact .inr ⟨_,EL ..,c,h⟩
   have hc:∀blk off y,¬avs (hid pl X.O) l' (hs.getD k []) blk→w.cell? ⟨blk,off,none⟩=some y→w'.cell? ⟨blk,off,none⟩=some y∧¬avs (nU (hid pl X.O) p) l2 (hs.getD k []) blk:=by
    intro blk off y hn hy
    obtain⟨g1,g2⟩:=E2.hc (O:=hid pl X.O) blk off y hn hy
    refine⟨g1,?_⟩
    rintro ((h|⟨c,h⟩)|h)
    ·exact g2 (.inl h)
    ·have:=(hfr blk c h).1
     have:=lE hy
     omega
    ·exact g2 (.inr h)
   have hput0:putD (cH ops.toList S t0 tF) o.dst d2=cH ops.toList (S.setIfInBounds i true) t0 tF :=
    jp hoL hiS (fun k o' hk x hx hx'=>F.uniq k i o' o x hk hoL hx' hx) hdF
   have hlenT:=cX _ _ rt'
   rw[a5] at hlenT
   have hat:∀y z,(a.put o.dst v).tmps.toList[y]? = some z→(o.dst=some y∧z=v)∨(o.dst ≠ some y∧a.tmps.toList[y]? = some z):=by
    intro y z hz
    cases hd2:o.dst with
    | none=>rw[hd2] at hz;exact .inr ⟨by simp,hz⟩
    | some x0 =>
     rw[hd2] at hz
     simp only[Act.put,GN] at hz
     by_cases hxy:x0=y
     ·subst hxy
      have hlt:=(Dq.1 hz).1
      simp only[List.length_set] at hlt
      rw[List.getElem?_set_self hlt] at hz
      exact .inl ⟨rfl,by simpa using hz.symm⟩
     ·rw[List.getElem?_set_ne hxy] at hz
      exact .inr ⟨by simpa using hxy,hz⟩
   refine⟨by simpa using I.size,hclosed',⟨l2,by rw[hhid];exact R2,E'.trans E2,?_,?_,?_⟩,?_,?_,?_,?_,I.cand⟩
   ·rw[hhid]
    refine io ?_ fun y z hz=>?_
    ·rw[a5,hlenT]
     cases o.dst<;>simp[Act.put]
    ·rcases hat y z hz with ⟨h3,rfl⟩|⟨h3,h4⟩
     ·have hlt:y<tF.length:=by
       have:=(Dq.1 hz).1
       cases hd2:o.dst<;>rw[hd2] at this<;>simp[Act.put] at this<;>simp at hlenT<;>omega
      rw[eW hlt,if_pos (cZ.2 ⟨i,o,by simp,hoL,h3⟩)]
      simp[Rel]
     ·have base:=Rel.mono hc E2.keep _ _ (ul rt' h4)
      have hlt:y<tF.length:=by
       have:=(Dq.1 h4).1
       omega
      rw[eW hlt] at base ⊢
      have e1:tQ ops.toList (({i:=i,p:=p,v:=v,x:=x}::pl).map (·.i)) y=tQ ops.toList (pl.map (·.i)) y:=by
       rw[Bool.eq_iff_iff,cZ,cZ]
       constructor
       ·rintro⟨j,o',g1,g2,g3⟩
        simp only[Fm,DM] at g1
        rcases g1 with rfl|g1
        ·rw[hoL] at g2;cases g2;exact absurd g3 h3
        ·exact⟨j,o',g1,g2,g3⟩
       ·rintro⟨j,o',g1,g2,g3⟩
        exact⟨j,o',by simp only[Fm,DM];exact .inr g1,g2,g3⟩
      rw[e1,←hput0,bR h3]
      exact base
   ·have:(a.put o.dst v).defers=a.defers:=by cases o.dst<;>rfl
    rw[this]
    exact Ga E2.keep (ck rd') rd'
   ·intro e he
    rw[hhid]
    rcases DM.1 he with rfl|he
    ·exact hPd
    ·refine(hpd' e he).mono hc E2.keep (DJ _) fun blk c hk=>?_
     have hO:hid pl X.O blk:=.inr ⟨e,he,c,hk⟩
     exact E2.same blk (R'.obd blk hO) fun ho=>(R'.inb blk ho).2 hO
   ·intro e he
    rcases DM.1 he with rfl|he
    ·refine⟨hVR,hlate,(hsetS _).2 (.inl rfl),hki hqo,hhs,o,hoL,fun y hy=>⟨fun z hz=>?_,fun hlt=>?_⟩⟩
     ·rcases hat y z hz with ⟨_,h4⟩|⟨h3,_⟩
      ·exact h4
      ·exact absurd hy h3
     ·rw[hdF y hy hlt,hd]
    ·obtain⟨g1,g2,g3,g4,g5,o2,g6,g7⟩:=I.pe e he
     refine⟨g1,g2,(hsetS _).2 (.inr g3),g4,g5,o2,g6,fun y hy=>⟨fun z hz=>?_,(g7 y hy).2⟩⟩
     rcases hat y z hz with ⟨h3,_⟩|⟨_,h4⟩
     ·exact absurd (F.uniq _ _ _ _ y g6 hoL hy h3) (hne e he)
     ·exact(g7 y hy).1 z h4
   ·refine List.pairwise_cons.2 ⟨fun e he=>⟨fun h=>hne e he h.symm,fun k c c' h3 h4=>(hfr k c h3).2 (.inr ⟨e,he,c',h4⟩)⟩,I.dis⟩
   ·intro e he k' c hk
    rcases DM.1 he with rfl|he
    ·obtain⟨h3,h4⟩:=hfr k' c hk
     exact⟨Nat.le_trans E'.size h3,fun h=>h4 (.inl h)⟩
    ·exact I.fresh e he k' c hk
   ·intro c o' hc1 hc2
    rw[hsetS,I.chain c o' hc1 hc2]
    simp only[Fm,DM,not_or]
    constructor
    ·rintro⟨h3,h4⟩
     exact⟨.inr h3,fun h=>hnotS (h▸h3),h4⟩
    ·rintro⟨h3|h3,h4,h5⟩
     ·exact absurd h3 h4
     ·exact⟨h3,h5⟩
 ·-- it leaves the heap alone
  have hchain:∀c o',ops.toList[c]? = some o'→quietOp o'.op=false→(pos c<k ↔ (c=i∨Lst S c)∧c ∉ pl.map (·.i)):=by
   intro c o' hc1 hc2
   rw[I.chain c o' hc1 hc2]
   constructor
   ·exact fun h=>⟨.inr h.1,h.2⟩
   ·rintro⟨rfl|h1,h2⟩
    ·rw[hoL] at hc1;cases hc1;rw[hqo] at hc2;cases hc2
    ·exact⟨h1,h2⟩
  have hfin:∀d',(∀x,o.dst=some x→x<tF.length→tF.getD x .any=d')→∀a' w',(∃v,a'.tmps=(a.put o.dst v).tmps) →
    St Γ {O:=hid pl X.O,w:=w,l:=l,h:=hs.getD k [],D:=X.D} {t:=putD (jg ops.toList S (pl.map (·.i)) t0 tF) o.dst d',h:=hs.getD k [],m:=m} a' w' →
    Inv5 Γ X ops.toList pos late m t0 tF hs k (S.setIfInBounds i true) pl a' w':=fun d' hd' a' w' ha hst2 =>
   I.after (_v:=undef) F hoL hnotS hpre E R hpd hst2 ha hd' (fun e he=>(I.pe e he).2.2.2.1) I.cand hchain
  have hgF:aB ops.toList (ts.getD (pos i) []) o.guard=aB ops.toList (jg ops.toList S (pl.map (·.i)) t0 tF) o.guard :=
   db fun x hx=>(hseen x (by unfold bA;simp only[DX,Option.mem_toList];exact .inr hx)).symm
  unfold bQ at hst'
  split at hst'
  ·rename_i hg
   rw[if_pos (am rt0 hg)]
   obtain⟨d2,h2,hop,hd2⟩:=F.quiet i o hoL hqo (by rw[hgF];exact hg) k I.cand fun c o' hc1 hc2=>by
    refine⟨fun hp=>?_,fun hp hb=>?_⟩
    ·rw[FJ]
     exact fun hb=>hnotS (bb I.closed ((I.chain c o' hc1 hc2).1 hp).1 i hb)
    ·have h1:=(hbits c hb).2
     apply Eo
     intro hl
     have:=(I.chain c o' hc1 hc2).2 ⟨h1,fun hm=>by
      rw[Eb] at hm
      obtain⟨e,he,rfl⟩:=hm
      exact hl (I.pe e he).2.1⟩
     omega
   have hh:=aZ hqo hop
   subst hh
   rw[b8 (t':=jg ops.toList S (pl.map (·.i)) t0 tF) o.op (fun x hx=>dN fun j hj=>(hseen j (by
    unfold bA;simp only[DX,List.mem_filterMap];exact .inl ⟨x,by simpa using hx,hj⟩)).symm)] at hop
   exact zb (s:={t:=jg ops.toList S (pl.map (·.i)) t0 tF,h:=hs.getD k [],m:=m}) hop hSt.marks (fun v w' hs'=>hK _ _ _ _ (hfin d2 (fun x hx _=>hd2 x hx) _ _ ⟨v,rfl⟩ hs')) hSt
  ·rename_i hg
   simp only[Dj,Dm] at hst'
   obtain⟨rfl,_⟩:=hst'
   rw[if_neg (by rw[am rt0 hg];simp)]
   exact⟨fun _ _=>trivial,hK _ _ _ _ (hfin _ hdF _ w ⟨undef,rfl⟩ (St.skip (s:={t:=jg ops.toList S (pl.map (·.i)) t0 tF,h:=hs.getD k [],m:=m}) o.dst hSt))⟩
  ·simp at hst'
end
section
variable {P:Program} {Γ:ae} {X:Ctx} {r:Option Nat} {call:CallF} {ops:Array Oper} {pos:Nat→Nat} {late:Nat→Bool} {m:List Nat} {t0 tF:List D} {hs:List (List Blk)} {ts:List (List D)} {Q:Exit→AS→Prop}
theorem qg(F:Fx P Γ ops.toList (a9 ops.toList []) pos late m t0 tF hs ts)(hQ:Q .normal {t:=tF,h:=hs.getD ops.size [],m:=m}):
  ∀(fuel:Nat) (k:Nat) (S:Array Bool) (pl:List Pe) (a:Act) (w:World),Inv5 Γ X ops.toList pos late m t0 tF hs k S pl a w→(EE ops.size).countP (fun j=>!S.getD j false)≤fuel →
   wpAnyIn (FW r) 0 P .any ops (eu Γ X Q) fuel S a w:=by
 have hn:ops.toList.length=ops.size:=by simp
 intro fuel
 induction fuel with
 | zero =>
  intro k S pl a w I hcnt
  have hall:∀j,j<ops.size→Lst S j:=by
   intro j hj
   have h0:(EE ops.size).countP (fun j=>!S.getD j false)=0:=by omega
   rw[List.countP_eq_zero] at h0
   have:=h0 j (by simpa using hj)
   simpa[Lst] using this
  refine⟨?_,oL F hQ I hall⟩
  unfold Fc
  rw[Gv]
  intro j hj
  have hj':j<ops.size:=by simpa using hj
  have:=hall j hj'
  have hs2:j<S.size:=by rw[I.size,hn];exact hj'
  unfold Lst at this
  have h3:S.getD j true=true:=by
   simp only[D2,D5 hs2,EB] at this ⊢
   exact this
  simp[h3]
 | succ fuel ih =>
  intro k S pl a w I hcnt
  refine⟨fun hnone=>?_,fun i hi=>?_⟩
  ·refine oL F hQ I ?_
   have key:∀n,∀j,j<n→j<ops.size→Lst S j:=by
    intro n
    induction n with
    | zero=>intro j hj;omega
    | succ n ihn =>
     intro j hj hjs
     by_cases hjn:j<n
     ·exact ihn j hjn hjs
     have:j=n:=by omega
     subst this
     apply Eo
     intro hno
     unfold Fc at hnone
     rw[Gv] at hnone
     have h1:=hnone j (by simpa using hjs)
     apply h1
     have hs2:j<S.size:=by rw[I.size,hn];exact hjs
     have ho:ops[j]? = some ops[j]:=D5 hjs
     have h3:S.getD j true=false:=by
      unfold Lst at hno
      simp only[D2,D5 hs2,EB] at hno ⊢
      simpa using hno
     have h4:(ops[j].after.all fun e=>!El .any e||S.getD e.on false)=true:=by
      rw[FF]
      intro e he
      cases hb:El .any e
      ·rfl
      ·have hlt:=F.edge j ops[j] (by simp) e (by simpa using he) hb
       have:=ihn e.on hlt (by omega)
       simpa[Lst] using this
     rw[h3,ho]
     simpa using h4
   exact fun j hj=>key (j+1) j (by omega) hj
  ·unfold Fc at hi
   rw[List.mem_filter] at hi
   obtain⟨hi1,hi2⟩:=hi
   have his:i<ops.size:=by simpa using hi1
   have hiS:i<S.size:=by rw[I.size,hn];exact his
   have ho:ops[i]? = some ops[i]:=D5 his
   generalize ho0:ops[i]=o at ho
   have hoL:ops.toList[i]? = some o:=by simpa using ho
   simp only[ho,Ea,EB,Dr,ED] at hi2
   obtain⟨hi3,hi4⟩:=hi2
   have hnotS:¬Lst S i:=by
    unfold Lst
    simp only[D2,D5 hiS,EB] at hi3 ⊢
    simp[hi3]
   have hpre:∀e∈o.after.toList,El .any e=true→Lst S e.on:=by
    intro e he hb
    rw[FF] at hi4
    have:=hi4 e (by simpa using he)
    simpa[hb,Lst] using this
   have hsetS:∀j,Lst (S.setIfInBounds i true) j ↔ j=i∨Lst S j:=fun j=>j6 hiS
   have hcnt':(EE ops.size).countP (fun j=>!(S.setIfInBounds i true).getD j false)≤fuel:=by
    have:(EE ops.size).countP (fun j=>!(S.setIfInBounds i true).getD j false)<(EE ops.size).countP (fun j=>!S.getD j false):=by
     refine gy (fun x hx=>?_) i (by simpa using his) ?_ ?_
     ·have h1:¬Lst (S.setIfInBounds i true) x:=by unfold Lst;simpa using hx
      rw[hsetS] at h1
      have:¬Lst S x:=fun h=>h1 (.inr h)
      unfold Lst at this
      simpa using this
     ·unfold Lst at hnotS;simpa using hnotS
     ·have:Lst (S.setIfInBounds i true) i:=(hsetS i).2 (.inl rfl)
      unfold Lst at this
      simpa using this
    omega
   have:=sY (r:=r) (K:=wpAnyIn (FW r) 0 P .any ops (eu Γ X Q) fuel (S.setIfInBounds i true)) (Q':=eu Γ X Q) F I hoL hnotS hpre (fun k' pl' a' w' I'=>ih k' _ pl' a' w' I' hcnt')
   unfold wpOpIn
   simp only[ho]
   exact this
end
section
variable {P:Program} {Γ:ae} {X:Ctx} {r:Option Nat} {call:CallF} {ops:Array Oper} {pos:Nat→Nat} {late:Nat→Bool} {s:AS} {tF:List D} {hs:List (List Blk)} {ts:List (List D)} {Q:Exit→AS→Prop}
theorem VW.draw5(ok:POk P){id:Nat}(F:Fx P Γ ops.toList (a9 ops.toList []) pos late s.m s.t tF hs ts)(h0:hs.getD 0 []=s.h)
  (hun:∀x,(∀o∈ops.toList,o.dst ≠ some x)→tF.getD x .any=s.t.getD x .any) (hQ:Q .normal {t:=tF,h:=hs.getD ops.size [],m:=s.m}):VW P Γ X r (.region id ops true) Q s:=by
 intro a w hst
 refine wpIn_region_any ok.mixed ?_
 have hrep:∀j,(EN ops.size false).getD j false=false:=by
  intro j
  simp only[D2,Array.getElem?_replicate]
  split<;>rfl
 refine qg (t0:=s.t) (hs:=hs) F hQ ops.size 0 _ [] a _ ⟨by simp,fun k o hk _ _ _ _=>?_,?_,fun e he=>by simp at he,List.Pairwise.nil,fun e he=>by simp at he,fun c o _ _=>?_,.inl rfl⟩ ?_
 ·unfold Lst at hk;rw[hrep] at hk;cases hk
 ·have e1:jg ops.toList (EN ops.size false) [] s.t tF=s.t:=by
   rw[q8]
   refine aJ (by rw[ak,F.len]) fun x hx=>?_
   rw[ak] at hx
   rw[dc hx]
   split
   ·rfl
   ·rename_i hp
    refine hun x fun o ho hd=>hp ?_
    obtain⟨k,hk⟩:=FS.1 ho
    exact bL.2 ⟨k,o,hk,hd,hrep k⟩
  have hh:hid [] X.O=X.O:=by
   funext k'
   apply propext
   simp[hid]
  obtain⟨l,R,E,rt,rd⟩:=hst
  obtain⟨R',E'⟩:=R.of_heap (w':={w with drawn:=w.drawn+1}) rfl ⟨rfl,rfl,rfl,(by first|exact DJ _|exact Nat.le_succ _)⟩
  refine⟨l,?_,?_,?_,?_,fun e he=>by simp at he⟩
  ·rw[h0,hh];exact R'
  ·rw[h0];exact E.trans E'
  ·rw[h0,hh,List.map_nil,e1];exact E'.relL rt
  ·rw[h0];exact rd
 ·unfold Lst
  rw[hrep]
  simp
 ·refine Nat.le_trans List.countP_le_length (by simp)
end
def sZ(B:List Nat)(i j:Nat):Bool:=!(B.getD i 0).testBit j&&!(B.getD j 0).testBit i
def gA(L:List Oper)(B:List Nat):List Nat :=
 (L.zipIdx.filter fun p=>freeOp p.1.op&&p.1.guard.isNone&&(ey L).any fun c=>c != p.2&&sZ B p.2 c).map (·.2)
def zN(B:List Nat)(lt:List Nat):List Nat→List Nat→List Nat
 | [],pend=>pend
 | j::js,pend =>
  if lt.contains j then zN B lt js (pend++[j])
  else (pend.filter fun i=>(B.getD j 0).testBit i)++j::zN B lt js (pend.filter fun i=>!(B.getD j 0).testBit i)
def s7(L:List Oper)(B:List Nat)(lt:List Nat):List Nat:=zN B lt (EE L.length) []
def aL(ord:List Nat)(i:Nat):Nat:=ord.idxOf i
def cI(L:List Oper)(B:List Nat)(ord:List Nat)(lt:List Nat):Bool :=
 (Qd (ord.length=L.length)&&(ord.zipIdx.all fun p=>aL ord p.1==p.2&&Qd (p.1<L.length))) &&
 L.zipIdx.all fun p =>
  (Qd (aL ord p.2<L.length) &&
  (ord[aL ord p.2]? == some p.2)) &&
  ((p.1.after.toList.all fun e=>!El .any e||Qd (e.on<p.2)) &&
  ((EE (p.2+1)).all fun j=>!(B.getD p.2 0).testBit j||Qd (aL ord j<aL ord p.2))) &&
  ((L.zipIdx.all fun q=>(p.2==q.2||p.1.dst.isNone||!(p.1.dst==q.1.dst)) &&
   (quietOp p.1.op||quietOp q.1.op||lt.contains p.2||!Qd (aL ord q.2<aL ord p.2)||(B.getD p.2 0).testBit q.2)) &&
  ((bA L p.1).all fun x=>L.zipIdx.all fun q=>!(q.1.dst==some x) ||
   ((B.getD p.2 0).testBit q.2&&(!lt.contains q.2||L.zipIdx.all fun s=>quietOp s.1.op||!Qd (aL ord s.2<aL ord q.2)||(B.getD p.2 0).testBit s.2)) ||
   (!(B.getD p.2 0).testBit q.2&&(B.getD q.2 0).testBit p.2))) &&
  (!lt.contains p.2||(freeOp p.1.op&&p.1.guard.isNone&&!quietOp p.1.op))
def zO:Value→Value→Bool
 | .bool a,.bool b=>a==b
 | .int k a,.int k' b=>Qd (k=k')&&Qd (a=b)
 | .string a,.string b=>eqS a b
 | .pointer none,.pointer none=>true
 | .nilFunc,.nilFunc=>true
 | .map none,.map none=>true
 | .slice none a b,.slice none c d=>a==c&&b==d
 | .tuple ⟨[]⟩,.tuple ⟨[]⟩=>true
 | .func (.func f) ⟨[]⟩ ⟨[]⟩,.func (.func g) ⟨[]⟩ ⟨[]⟩=>f==g
 | _,_=>false
theorem xa{a b:Value}(h:zO a b=true):a=b:=by
 unfold zO at h
 split at h<;>simp_all[eqS]
 ·rename_i x y
  cases x;cases y
  simp only[ByteArray.mk.injEq]
  exact h
mutual
def j7:Dp→Dp→Bool
 | .v a,.v b=>zO a b
 | .sl a,.sl b=>dQ a b
 | _,_=>false
def dQ:List (List Dp)→List (List Dp)→Bool
 | [],[]=>true
 | a::as,b::bs=>c4 a b&&dQ as bs
 | _,_=>false
def c4:List Dp→List Dp→Bool
 | [],[]=>true
 | a::as,b::bs=>j7 a b&&c4 as bs
 | _,_=>false
end
mutual
theorem sameDp_eq:∀{a b:Dp},j7 a b=true→a=b
 | .v a,.v b,h=>by simp only[j7] at h;rw[xa h]
 | .sl a,.sl b,h=>by simp only[j7] at h;rw[sameRows_eq h]
 | .v _,.sl _,h=>by simp[j7] at h
 | .sl _,.v _,h=>by simp[j7] at h
theorem sameRows_eq:∀{a b:List (List Dp)},dQ a b=true→a=b
 | [],[],_=>rfl
 | a::as,b::bs,h=>by simp only[dQ,Dr] at h;rw[sameCells_eq h.1,sameRows_eq h.2]
 | [],_::_,h=>by simp[dQ] at h
 | _::_,[],h=>by simp[dQ] at h
theorem sameCells_eq:∀{a b:List Dp},c4 a b=true→a=b
 | [],[],_=>rfl
 | a::as,b::bs,h=>by simp only[c4,Dr] at h;rw[sameDp_eq h.1,sameCells_eq h.2]
 | [],_::_,h=>by simp[c4] at h
 | _::_,[],h=>by simp[c4] at h
end
mutual
def sameD:D→D→Bool
 | .p a,.p b=>j7 a b
 | .any,.any=>true
 | .ref a,.ref b=>Qd (a=b)
 | .ep a,.ep b=>c4 a b
 | .csl a,.csl b=>dQ a b
 | .fn (.func f) a c,.fn (.func g) b d=>f==g&&jh a b&&jh c d
 | .agg a,.agg b=>jh a b
 | .tup a,.tup b=>jh a b
 | _,_=>false
def jh:List D→List D→Bool
 | [],[]=>true
 | a::as,b::bs=>sameD a b&&jh as bs
 | _,_=>false
end
mutual
theorem eX:∀{a b:D},sameD a b=true→a=b
 | .p a,b,h=>by cases b<;>simp only[sameD,D8] at h;rw[sameDp_eq h]
 | .any,b,h=>by cases b<;>simp only[sameD,D8] at h;rfl
 | .ref a,b,h=>by cases b<;>simp only[sameD,D8,decide_eq_true_eq] at h;rw[h]
 | .ep a,b,h=>by cases b<;>simp only[sameD,D8] at h;rw[sameCells_eq h]
 | .csl a,b,h=>by cases b<;>simp only[sameD,D8] at h;rw[sameRows_eq h]
 | .fn f a c,b,h=>by
  cases b<;>try (cases f<;>simp[sameD] at h;done)
  rename_i g b d
  cases f<;>try (simp[sameD] at h;done)
  cases g<;>try (simp[sameD] at h;done)
  simp only[sameD,Dr,beq_iff_eq] at h
  rw[h.1.1,sameL_eq h.1.2,sameL_eq h.2]
 | .agg a,b,h=>by cases b<;>simp only[sameD,D8] at h;rw[sameL_eq h]
 | .tup a,b,h=>by cases b<;>simp only[sameD,D8] at h;rw[sameL_eq h]
 | .grd _ _,b,h=>by cases b<;>simp[sameD] at h
theorem sameL_eq:∀{a b:List D},jh a b=true→a=b
 | [],[],_=>rfl
 | a::as,b::bs,h=>by simp only[jh,Dr] at h;rw[eX h.1,sameL_eq h.2]
 | [],_::_,h=>by simp[jh] at h
 | _::_,[],h=>by simp[jh] at h
end
def zc(P:Program)(Γ:ae)(L:List Oper)(B:List Nat)(tF:List D)(hs:List (List Blk))(ts:List (List D)):Bool :=
 L.zipIdx.all fun p=>!quietOp p.1.op||(match aB L (ts.getD p.2 []) p.1.guard with
  | some true=>(j5 L).all fun k=>!il L B p.2 k||(match opSem P Γ (ts.getD p.2 []) (hs.getD k []) p.1.op with
   | some (true,d,_)=>(match p.1.dst with|some x=>sameD (tF.getD x .any) d|none=>true)
   | _=>false)
  | some false=>true
  | none=>false)
theorem lS{f:D→D}(hf:FixOk f){L:List Oper}{t:List D}{g:Option (Nat×Bool)}{b:Bool}(h:aB L t g=some b):aB L (t.map f) g=some b:=by
 unfold aB at h ⊢
 split at h
 ·exact h
 ·split at h
  ·rename_i x hx
   simp only[DR,E5] at h ⊢
   cases ht:t[x]? with
   | none=>simp[ht,guardV] at h
   | some d =>
    simp only[ht,EB,Ea] at h ⊢
    have h0:=h
    unfold guardV at h
    split at h
    ·rw[hf.pure];exact h0
    ·rw[hf.gd];exact h0
    ·simp at h
  ·exact h
theorem s8{P:Program}{Γ:ae}{L:List Oper}{B:List Nat}{tF:List D}{hs:List (List Blk)}{ts:List (List D)}(h:zc P Γ L B tF hs ts=true):im P Γ L B tF hs ts:=by
 intro i o ho hq ⟨f,hf,hg⟩ k hk hc
 have:=aI h ho
 simp only[hq,FT,Es] at this
 split at this
 ·have:=DK.1 this k hk
  simp only[hc,FT,Es] at this
  split at this
  ·rename_i d h' hop
   refine⟨id,d,h',FixOk.id,by rw[List.map_id];exact hop,fun x hx=>?_⟩
   rw[hx] at this
   rw[eX this]
   exact Wk.refl _
  ·simp at this
 ·rename_i hg'
  rw[lS hf hg'] at hg
  cases hg
 ·cases this
def gB(L:List Oper)(ord:List Nat):List Oper:=ord.map fun i=>L.getD i default
def dR(L:List Oper)(ord:List Nat):List Nat:=0::(ey L).map fun c=>aL ord c+1
def C9(L:List Oper)(ord lt:List Nat)(hs:List (List Blk)):Bool :=
 lt.all fun i=>(dR L ord).all fun k=>(hs.getD k []).all (D6 (hs.getD k []).length) &&
  ((hs.getD (aL ord i+1) []).drop (hs.getD (aL ord i) []).length).all (D6 (hs.getD k []).length)
def ip(L:List Oper)(B ord lt:List Nat)(i k:Nat):Bool :=
 (ey L).all fun c=>if aL ord c<k then !(B.getD c 0).testBit i else (!(B.getD i 0).testBit c||lt.contains c)
def uo(P:Program)(Γ:ae)(L:List Oper)(B ord lt:List Nat)(tF:List D)(hs:List (List Blk))(ts:List (List D)):Bool :=
 L.zipIdx.all fun p=>!quietOp p.1.op||(match aB L (ts.getD (aL ord p.2) []) p.1.guard with
  | some true=>(dR L ord).all fun k=>!ip L B ord lt p.2 k||(match opSem P Γ (ts.getD (aL ord p.2) []) (hs.getD k []) p.1.op with
   | some (true,d,_)=>(match p.1.dst with|some x=>sameD (tF.getD x .any) d|none=>true)
   | _=>false)
  | _=>true)
section
variable {P:Program} {Γ:ae} {call:CallF} {m:List Nat} {L:List Oper} {B ord lt:List Nat} {t0 tF:List D} {hs:List (List Blk)} {ts:List (List D)}
structure Ord (L:List Oper) (ord:List Nat):Prop where
 len:ord.length=L.length
 at':∀(i:Nat) (o:Oper),L[i]? = some o→aL ord i<L.length∧ord[aL ord i]? = some i
 back:∀(q i:Nat),ord[q]? = some i→aL ord i=q∧i<L.length
theorem up(hO:Ord L ord){i:Nat}{o:Oper}(h:L[i]? = some o):(gB L ord)[aL ord i]? = some o:=by
 unfold gB
 rw[E5,(hO.at' i o h).2]
 simp[DR,h]
theorem iq(hO:Ord L ord){q:Nat}{o:Oper}(h:(gB L ord)[q]? = some o):∃i,L[i]? = some o∧aL ord i=q:=by
 unfold gB at h
 rw[E5,Option.map_eq_some_iff] at h
 obtain⟨i,h1,h2⟩:=h
 obtain⟨h3,h4⟩:=hO.back q i h1
 refine⟨i,?_,h3⟩
 rw[←h2,DR,D7 h4]
 rfl
end
section
variable {P:Program} {Γ:ae} {call:CallF} {m:List Nat} {L:List Oper} {ord lt:List Nat} {t0 tF:List D} {h0:List Blk} {hs:List (List Blk)} {ts:List (List D)}
theorem zd(h:cI L (a9 L []) ord lt=true):Ord L ord:=by
 unfold cI at h
 simp only[Dr,decide_eq_true_eq] at h
 obtain⟨⟨h1,h2⟩,h3⟩:=h
 refine⟨h1,fun i o ho=>?_,fun q i hq=>?_⟩
 ·have:=aI h3 ho
  simp only[Dr,decide_eq_true_eq,beq_iff_eq] at this
  exact this.1.1.1
 ·have:=DK.1 h2 (i,q) (by rw[List.mk_mem_zipIdx_iff_getElem?];exact hq)
  simpa using this
theorem q9(_hO:Ord L ord){k:Nat}(hk:Cand L (aL ord) k):k∈dR L ord:=by
 unfold dR
 rcases hk with rfl|⟨c,o,ho,hq,rfl⟩
 ·exact EL ..
 ·exact FI _ (Eb.2 ⟨c,lQ ho hq,rfl⟩)
theorem ze(hs0:cI L (a9 L []) ord lt=true)(hr:runR P Γ m L Eq (· = id) (gB L ord) t0 h0 tF hs ts)(hi:C9 L ord lt hs=true) (hq:∀(i:Nat) (o:Oper),L[i]? = some o→quietOp o.op=true→aB L (ts.getD (aL ord i) []) o.guard=some true→∀k∈dR L ord,ip L (a9 L []) ord lt i k=true →
   ∃d h',opSem P Γ (ts.getD (aL ord i) []) (hs.getD k []) o.op=some (true,d,h')∧∀x,o.dst=some x→tF.getD x .any=d) :
  Fx P Γ L (a9 L []) (aL ord) (fun i=>lt.contains i) m t0 tF hs ts∧hs.getD 0 []=h0∧∀x,(∀o∈L,o.dst ≠ some x)→tF.getD x .any=t0.getD x .any:=by
 have hO:=zd hs0
 have hst:=hs0
 unfold cI at hst
 simp only[Dr] at hst
 have hall:=hst.2
 have fact:=fun {i:Nat} {o:Oper} (ho:L[i]? = some o)=>aI hall ho
 simp only[Dr] at fact
 have edge:∀(i:Nat) (o:Oper),L[i]? = some o→∀e∈o.after.toList,El .any e=true→e.on<i:=by
  intro i o ho e he hb
  have:=DK.1 (fact ho).1.1.2.1 e he
  simpa[hb] using this
 have uniq:∀(i j:Nat) (o o':Oper) (x:Tmp),L[i]? = some o→L[j]? = some o'→o.dst=some x→o'.dst=some x→i=j:=by
  intro i j o o' x ho ho' hd hd'
  have:=aI (fact ho).1.2.1 ho'
  simp only[Dr] at this
  have:=this.1
  simpa[hd,hd'] using this
 obtain⟨g1,g2,g3,g4,g5⟩:=dP _ _ _ _ _ _ hr
 have inj:∀(i j:Nat) (o o':Oper),L[i]? = some o→L[j]? = some o'→aL ord i=aL ord j→i=j:=by
  intro i j o o' hi' hj he
  have h1:=(hO.at' i o hi').2
  have h2:=(hO.at' j o' hj).2
  rw[he,h2] at h1
  simpa using h1.symm
 have posB:∀(i:Nat) (o:Oper) (j:Nat),L[i]? = some o→((a9 L []).getD i 0).testBit j=true→aL ord j<aL ord i:=by
  intro i o j ho hb
  have hcl:ex L (fun x=>x≤i):=fun k o' hk ho' e he hbe=>by
   have:=edge k o' ho' e he hbe
   show e.on≤i
   omega
  have h1:j≤i:=bb hcl (k:=i) (DJ i) j hb
  have:=DK.1 (fact ho).1.1.2.2 j (by simp;omega)
  rw[hb] at this
  simpa using this
 have hlen:(gB L ord).length=L.length:=by unfold gB;rw[List.length_map,hO.len]
 have hatP:∀(i:Nat) (o:Oper),L[i]? = some o→∃call,CallF.Ok P Γ call∧∃d,bQ P Γ call m L (ts.getD (aL ord i) []) (hs.getD (aL ord i) []) o=some (d,hs.getD (aL ord i+1) []) ∧
   (∀x,(∀(j:Nat) (o':Oper),L[j]? = some o'→aL ord i≤aL ord j→o'.dst ≠ some x)→tF.getD x .any=(ts.getD (aL ord i) []).getD x .any) ∧
   (∀x,(∀(j:Nat) (o':Oper),L[j]? = some o'→aL ord j<aL ord i→o'.dst ≠ some x)→(ts.getD (aL ord i) []).getD x .any=t0.getD x .any) ∧
   (∀x,o.dst=some x→x<tF.length→tF.getD x .any=d):=by
  intro i o ho
  obtain⟨call,hco,f,d',d,⟨hf,k1,rfl⟩,k2,k3,k4⟩:=g5 (aL ord i) o (up hO ho)
  rw[hf,List.map_id] at k1
  refine⟨call,hco,d',k1,fun x hx=>k2 x fun q o' hle hq'=>?_,fun x hx=>k3 x fun q o' hle hq'=>?_,fun x hx hlt=>k4 x hx (fun q o' hlt' hq'=>?_) (by rw[←g1];exact hlt)⟩
  ·obtain⟨j,hj,rfl⟩:=iq hO hq'
   exact hx j o' hj hle
  ·obtain⟨j,hj,rfl⟩:=iq hO hq'
   exact hx j o' hj hle
  ·obtain⟨j,hj,rfl⟩:=iq hO hq'
   intro hd
   have:=uniq j i o' o x hj ho hd hx
   subst this
   omega
 have const1:∀q o,(gB L ord)[q]? = some o→quietOp o.op=true→hs.getD (q+1) []=hs.getD q []:=by
  intro q o ho hqo
  obtain⟨call,hco,f,d',d,⟨_,k1,_⟩,_⟩:=g5 q o ho
  exact fJ hqo k1
 have const:∀n k,(∀c o,L[c]? = some o→quietOp o.op=false→¬(k≤aL ord c∧aL ord c<k+n))→k+n≤L.length→hs.getD (k+n) []=hs.getD k []:=by
  intro n
  induction n with
  | zero=>intro k _ _;rfl
  | succ n ih =>
   intro k h1 h2
   have hlt:k+n<(gB L ord).length:=by omega
   have ho:=D7 hlt
   obtain⟨j,hj,hpj⟩:=iq hO ho
   have hqo:quietOp ((gB L ord)[k+n]).op=true:=by
    rw[←Bool.not_eq_false]
    exact fun hf=>h1 j _ hj hf (by omega)
   rw[←Nat.add_assoc,const1 _ _ ho hqo]
   exact ih k (fun c o hc1 hc2=>fun hx=>h1 c o hc1 hc2 (by omega)) (by omega)
 refine⟨⟨edge,posB,uniq,inj,fun i o ho=>(hO.at' i o ho).1,?_,?_,?_,?_,hatP,g1,const,?_,?_⟩,?_,?_⟩
 ·intro i o x ho hx k o' hk hd
  have:=DK.1 (fact ho).1.2.2 x hx
  have:=aI this hk
  simp only[hd,beq_self_eq_true,FT,Es,Bool.or_eq_true,Dr] at this
  rcases this with h|h
  ·exact .inl h.1
  ·exact .inr h.2
 ·intro c c' o o' hc hc' hq1 hq2 hl hp
  have:=aI (fact hc).1.2.1 hc'
  simp only[Dr] at this
  have:=this.2
  rw[hq1,hq2,hl] at this
  simpa[hp] using this
 ·intro i o ho hl
  have:=(fact ho).2
  simp only[hl,FT,Es,Dr,ED,Option.isNone_iff_eq_none] at this
  exact⟨this.1.1,this.2,this.1.2⟩
 ·intro i j o o' x ho hx hj hd hl hb c o2 hc hq2 hp
  have:=DK.1 (fact ho).1.2.2 x hx
  have:=aI this hj
  simp only[hd,beq_self_eq_true,FT,Es,hb,Bool.true_and,hl,Bool.false_and,Bool.or_false] at this
  have:=aI this hc
  simpa[hq2,hp] using this
 ·intro i o k x ho hl hk hx
  have h1:=DK.1 hi i (by simpa using hl)
  have h2:=DK.1 h1 k (q9 hO hk)
  simp only[Dr] at h2
  refine⟨h2.1,?_⟩
  have:=h2.2
  rw[hx] at this
  simpa using this
 ·intro i o ho hqo hg k hk hcomp
  have hc:ip L (a9 L []) ord lt i k=true:=by
   unfold ip
   rw[DK]
   intro c hc1
   obtain⟨o',ho',hq'⟩:=bq hc1
   obtain⟨k1,k2⟩:=hcomp c o' ho' hq'
   split
   ·rename_i hlt
    rw[k1 hlt];rfl
   ·rename_i hlt
    cases hb:((a9 L []).getD i 0).testBit c
    ·rfl
    ·simpa using k2 (by omega) hb
  exact hq i o ho hqo hg k (q9 hO hk) hc
 ·simp[DR,g3]
 ·intro x hx
  refine g2 x fun o ho=>?_
  obtain⟨q,hq'⟩:=FS.1 ho
  obtain⟨j,hj,_⟩:=iq hO hq'
  exact hx o (List.mem_of_getElem? hj)
theorem fx_of(hs0:cI L (a9 L []) ord lt=true)(hr:runR P Γ m L Eq (· = id) (gB L ord) t0 h0 tF hs ts)(hi:C9 L ord lt hs=true)(hq:uo P Γ L (a9 L []) ord lt tF hs ts=true):
  Fx P Γ L (a9 L []) (aL ord) (fun i=>lt.contains i) m t0 tF hs ts∧hs.getD 0 []=h0∧∀x,(∀o∈L,o.dst ≠ some x)→tF.getD x .any=t0.getD x .any:=by
 refine ze hs0 hr hi fun i o ho hqo hg k hk hc=>?_
 have h1:=aI hq ho
 simp only[hqo,FT,Es,hg] at h1
 have h2:=DK.1 h1 k hk
 simp only[hc,FT,Es] at h2
 split at h2
 ·rename_i d h' hop
  refine⟨d,h',hop,fun x hx=>?_⟩
  rw[hx] at h2
  exact eX h2
 ·simp at h2
end
def runLate(P:Program)(Γ:ae)(call:CallF)(m:List Nat)(ops:List Oper)(B ord lt:List Nat)(t:List D)(h:List Blk):Option (List D×List Blk) :=
 match cI ops B ord lt with
 | true=>match C8 P Γ call m ops (gB ops ord) t h with
  | some (tF,hs,ts)=>match C9 ops ord lt hs with
   | true=>match uo P Γ ops B ord lt tF hs ts with
    | true=>some (tF,hs.getD ops.length [])
    | false=>none
   | false=>none
  | none=>none
 | false=>none
def j8(P:Program)(Γ:ae)(call:CallF)(m:List Nat)(ops:List Oper)(draw:Bool)(t:List D)(h:List Blk):Option (List D×List Blk) :=
 match draw with
 | false=>j2 P Γ call m ops ops t h
 | true=>match fH ops (a9 ops []) with
  | true=>match C8 P Γ call m ops ops t h with
   | some (tF,hs,ts)=>match zc P Γ ops (a9 ops []) tF hs ts with
    | true=>some (tF,hs.getD ops.length [])
    | false=>none
   | none=>none
  | false=>runLate P Γ call m ops (a9 ops []) (s7 ops (a9 ops []) (gA ops (a9 ops []))) (gA ops (a9 ops [])) t h
theorem VW.runLate{P:Program}{Γ:ae}{X:Ctx}{r:Option Nat}{call:CallF}{s:AS}{Q:Exit→AS→Prop}(ok:POk P)(hc:call.Ok P Γ){id:Nat}{ops:Array Oper}{ord lt:List Nat}{t':List D}{h':List Blk}
  (hr:runLate P Γ call s.m ops.toList (a9 ops.toList []) ord lt s.t s.h=some (t',h')) (hQ:Q .normal {t:=t',h:=h',m:=s.m}):VW P Γ X r (.region id ops true) Q s:=by
 unfold Vi.runLate at hr
 split at hr
 ·rename_i hs0
  split at hr
  ·rename_i tF hs ts hrun
   split at hr
   ·rename_i hi
    split at hr
    ·rename_i hq
     simp only[Dj,Dm] at hr
     obtain⟨rfl,rfl⟩:=hr
     obtain⟨F,h0,hun⟩:=fx_of hs0 (iZ (wk:=Eq) (fx:=(· = _root_.id)) (fun _=>rfl) rfl hc _ _ _ _ _ _ hrun) hi hq
     exact VW.draw5 ok F h0 hun (by simpa using hQ)
    ·simp at hr
   ·simp at hr
  ·simp at hr
 ·simp at hr
theorem VW.run{P:Program}{Γ:ae}{X:Ctx}{r:Option Nat}{call:CallF}{s:AS}{Q:Exit→AS→Prop}(ok:POk P)(hc:call.Ok P Γ){id:Nat}{ops:Array Oper}{draw:Bool}{t':List D}{h':List Blk}
  (hr:j8 P Γ call s.m ops.toList draw s.t s.h=some (t',h')) (hQ:Q .normal {t:=t',h:=h',m:=s.m}):VW P Γ X r (.region id ops draw) Q s:=by
 unfold j8 at hr
 cases draw with
 | false=>exact VW.region hc hr hQ
 | true =>
  simp only at hr
  split at hr
  ·rename_i hD
   split at hr
   ·rename_i tF hs ts hrun
    split at hr
    ·rename_i hqb
     simp only[Dj,Dm] at hr
     obtain⟨rfl,rfl⟩:=hr
     exact VW.draw ok (gx hD) (iZ Wk.refl Vi.FixOk.id hc _ _ _ _ _ _ hrun) (s8 hqb) (by simpa using hQ)
    ·simp at hr
   ·simp at hr
  ·exact VW.runLate ok hc hr hQ
section
variable {P:Program} {Γ:ae} {X:Ctx} {r:Option Nat}
def VInvP(P:Program)(Γ:ae)(x:D)(args:List D)(h:List Blk)(K:List PanicEntry→List Blk→Prop):Prop :=
 ∀(O:Nat→Prop) (w:World) (l:Loc) (y:Value) (vs:List Value),Rep Γ O w l h→Rel w (avs O l h) l h x y→RelL w (avs O l h) l h args vs →
  ∀(r:Option Nat) (o:Oper) (a:Act) (next:Act→World→Prop) (Q':Exit→Act→World→Prop),
   (∀c h' l' w',K c h'→Rep Γ O w' l' h'→Ext w l h w' l' h'→Q' (.panic c) a w') →
   o.uponIn (FW r) 0 P a next Q' ((do let d ←Ek y vs.toArray;invoke d.target d.args).run P w)
theorem VInvP.of_call(ok:POk P){x:D}{args:List D}{h:List Blk}{f:FuncId}{fi ca:List D}{K:List PanicEntry→List Blk→Prop}(hc:bG x=some (f,fi,ca))(hf:dL P f=true)
  (hcall:VPan P Γ f (fi++args++ca) h K):VInvP P Γ x args h K:=by
 intro O w l y vs R rx ra r o a next Q' hn
 obtain⟨a0,c0,rfl,r1,r2⟩:=bI rx hc
 unfold dL at hf
 split at hf
 case h_2=>simp at hf
 rename_i fn hfn
 have e1:(do let d ←Ek (.func (.func f) a0 c0) vs.toArray;invoke d.target d.args:Sem Next).run P w=.ok (.enter f (a0++vs.toArray++c0)) w:=by
  simp only[Ek,DG,DQ,DC,invoke]
  exact gq ok hfn hf _ _
 rw[e1]
 refine⟨fun h=>by simp[G9] at h,?_⟩
 have h1:=hcall O w l (a0++vs.toArray++c0).toList R (by simpa using aD (aD r1 ra) r2)
 refine Fi (h1:CallsIn (FW r) 0 P f _ w _) ?_
 rintro e w' ⟨c,h',l',rfl,g1,g2,g3⟩
 exact hn c h' l' w' g1 g2 g3
inductive CR where
 | ret (d:D) (h:List Blk)
 | pan (c:List PanicEntry) (h:List Blk)
abbrev CallX:=D→List D→List Blk→Option CR
def CROk(P:Program)(Γ:ae)(x:D)(args:List D)(h:List Blk):CR→Prop
 | .ret d h'=>VInv P Γ x args h fun d2 h2=>d2=d∧h2=h'
 | .pan c h'=>VInvP P Γ x args h fun c2 h2=>c2=c∧h2=h'
def CallX.Ok(P:Program)(Γ:ae)(call:CallX):Prop:=∀x args h r,call x args h=some r→CROk P Γ x args h r
def CallX.toF(call:CallX):CallF:=fun x args h=>match call x args h with
 | some (.ret d h')=>some (d,h')
 | _=>none
theorem CallX.toF_ok{call:CallX}(hc:call.Ok P Γ):(call.toF).Ok P Γ:=by
 intro x args h d h' he
 unfold CallX.toF at he
 split at he
 ·rename_i h1
  cases he
  exact hc _ _ _ _ h1
 ·simp at he
def oM(P:Program)(Γ:ae)(call:CallX)(t:List D)(h:List Blk)(o:Op):Option CR :=
 match o with
 | .call {callee:=.value fv,args,.. }=>call (evalD Γ t fv) (args.toList.map (evalD Γ t)) h
 | .panic x=>match pZ (evalD Γ t x) with
  | some (.iface T v)=>some (.pan [{v:=.iface T v,recovered:=false}] h)
  | _=>none
 | op=>match opSem P Γ t h op with
  | some (true,d,h')=>some (.ret d h')
  | _=>none
def aX(P:Program)(Γ:ae)(call:CallX)(m:List Nat)(L:List Oper):List Oper→List D→List Blk→Option (Exit×List D×List Blk)
 | [],t,h=>some (.normal,t,h)
 | o::os,t,h=>match aB L t o.guard with
  | some true=>match oM P Γ call t h o.op with
   | some (.ret d h')=>if ah h' m then aX P Γ call m L os (putD t o.dst d) h' else none
   | some (.pan c h')=>if ah h' m then some (.panic c,t,h') else none
   | none=>none
  | some false=>aX P Γ call m L os (putD t o.dst (lit undef)) h
  | none=>none
theorem uq{x:D}{_t:List D}{h:List Blk}{w:World}{l:Loc}{av:Nat→Prop}{y:Value}{T:TypeId}{v:Value}(rx:Rel w av l h x y)(hx:pZ x=some (.iface T v)):
  (do pure (.value (←Instr.panic y)):Sem Next).run P w=.halt (.panic (.iface T v)) w:=by
 obtain rfl:=ij hx rx
 simp only[Instr.panic,goPanic,DG]
 rfl
theorem fK{call:CallX}(hc:call.Ok P Γ){ops:Array Oper}{m:List Nat}{e:Exit}{t':List D}{h':List Blk}{Q':Exit→Act→World→Prop}{tail:List Nat}
  (hN:e=.normal→∀a w,St Γ X {t:=t',h:=h',m:=m} a w→wpOpsIn (FW r) 0 P ops Q' tail a w) (hP:∀c,e=.panic c→∀a w,St Γ X {t:=t',h:=h',m:=m} a w→Q' e a w) :
  ∀(os:List Oper) (i:Nat) (t:List D) (h:List Blk) (more:List Oper),ops.toList.drop i=os++more→aX P Γ call m ops.toList os t h=some (e,t',h')→∀(a:Act) (w:World),St Γ X {t:=t,h:=h,m:=m} a w →
   wpOpsIn (FW r) 0 P ops Q' (ES i os.length++tail) a w:=by
 intro os
 induction os with
 | nil =>
  intro i t h more hd hr a w hs
  simp only[aX,Dj,Dm] at hr
  obtain⟨rfl,rfl,rfl⟩:=hr
  exact hN rfl a w hs
 | cons o os ih =>
  intro i t h more hd hr a w hs
  have ho:ops[i]? = some o:=by
   rw[←Ej]
   have:=congrArg (·[0]?) hd
   simpa using this
  have hd':ops.toList.drop (i+1)=os++more:=by
   have:=congrArg (List.drop 1) hd
   simpa[Nat.add_comm] using this
  simp only[List.length_cons,Hn,List.cons_append,wpOpsIn,ho]
  simp only[aX] at hr
  split at hr
  ·rename_i hg
   have hw:Ef o (yielded ops a.tmps)=true:=by
    obtain⟨l,R,E,rt,rd⟩:=hs
    exact am rt hg
   rw[if_pos hw]
   split at hr
   ·rename_i d h1 hop
    split at hr
    ·rename_i hm
     unfold oM at hop
     split at hop
     ·rename_i hop2
      have:=hc _ _ _ _ hop
      exact uf (s:={t:=t,h:=h,m:=m}) hop2 ((this:VInv P Γ _ _ h fun d2 h2=>d2=d∧h2=h1).mono fun d2 h2 ⟨e1,e2⟩=>by
       subst e1;subst e2;exact⟨hm,fun a' w' hs'=>ih (i+1) _ _ more hd' hr a' w' hs'⟩) hs
     ·split at hop<;>simp at hop
     ·split at hop
      ·rename_i hsem
       simp only[Dj,CR.ret.injEq] at hop
       obtain⟨rfl,rfl⟩:=hop
       exact zJ (s:={t:=t,h:=h,m:=m}) hsem hm (fun a' w' hs'=>ih (i+1) _ _ more hd' hr a' w' hs') hs
      ·simp at hop
    ·simp at hr
   ·rename_i c h1 hop
    split at hr
    ·rename_i hm
     simp only[Dj,Dm] at hr
     obtain⟨rfl,rfl,rfl⟩:=hr
     obtain⟨l,R,E,rt,rd⟩:=hs
     unfold oM at hop
     split at hop
     ·rename_i fv args ats hop2
      have hk:=hc _ _ _ _ hop
      refine⟨fun _ _=>trivial,?_⟩
      rw[G1 _ _ _ (by intro c hc;rw[hop2] at hc;simp at hc)]
      have e1:(execOp a.eval o).run P w=(do let d ←Ek (a.eval fv) (args.toList.map a.eval).toArray;invoke d.target d.args:Sem Next).run P w:=by
       unfold execOp
       rw[hop2]
       simp only[resolve]
       congr 3
       rw[←Array.toList_map]
      rw[e1]
      exact(hk:VInvP P Γ _ _ h fun c2 h2=>c2=c∧h2=h1) X.O w l _ _ R (aC R rt fv) (ci R rt args.toList) r o a _ _ fun c2 h2 l2 w2 ⟨g1,g2⟩ g3 g4=>by
       subst g1;subst g2
       exact hP _ rfl _ _ ⟨l2,g3,E.trans g4,g4.relL rt,Ga g4.keep hm rd⟩
     ·rename_i x hop2
      split at hop
      ·rename_i T v hx
       simp only[Dj,CR.pan.injEq] at hop
       obtain⟨rfl,rfl⟩:=hop
       refine⟨fun _ _=>trivial,?_⟩
       rw[G1 _ _ _ (by intro c hc;rw[hop2] at hc;simp at hc)]
       have e1:(execOp a.eval o).run P w=.halt (.panic (.iface T v)) w:=by
        unfold execOp
        rw[hop2]
        exact uq (_t:=t) (aC R rt x) hx
       rw[e1]
       exact hP _ rfl _ _ ⟨l,R,E,rt,rd⟩
      ·simp at hop
     ·split at hop<;>simp at hop
    ·simp at hr
   ·simp at hr
  ·rename_i hg
   have hw:Ef o (yielded ops a.tmps)=false:=by
    obtain⟨l,R,E,rt,rd⟩:=hs
    exact am rt hg
   rw[if_neg (by simp[hw])]
   exact⟨fun _ _=>trivial,ih (i+1) _ _ more hd' hr _ _ (St.skip (s:={t:=t,h:=h,m:=m}) o.dst hs)⟩
  ·simp at hr
theorem ir{call:CallX}(hc:call.Ok P Γ){ops:Array Oper}{m:List Nat}{e:Exit}{t':List D}{h':List Blk}{Q:Exit→AS→Prop}(hQ:Q e {t:=t',h:=h',m:=m})(os:List Oper)(i:Nat)(t:List D)(h:List Blk)(hd:ops.toList.drop i=os)
  (hr:aX P Γ call m ops.toList os t h=some (e,t',h')) (a:Act) (w:World) (hs:St Γ X {t:=t,h:=h,m:=m} a w):wpOpsIn (FW r) 0 P ops (eu Γ X Q) (ES i os.length) a w:=by
 have:=fK (r:=r) (X:=X) hc (Q':=eu Γ X Q) (tail:=[]) (e:=e) (t':=t') (h':=h') (fun he a w hs=>by subst he;exact⟨by simp,_,hQ,hs⟩) (fun c he a w hs=>⟨by rw[he];simp,_,hQ,hs⟩) os i t h [] (by simpa using hd) hr a w hs
 simpa using this
theorem VW.regionX{call:CallX}(hc:call.Ok P Γ){s:AS}{id:Nat}{ops:Array Oper}{e:Exit}{t':List D}{h':List Blk}{Q:Exit→AS→Prop}
  (hr:aX P Γ call s.m ops.toList ops.toList s.t s.h=some (e,t',h')) (hQ:Q e {t:=t',h:=h',m:=s.m}):VW P Γ X r (.region id ops false) Q s:=fun a w hs =>
 wpIn_region (by
  have:=ir (r:=r) (X:=X) hc hQ ops.toList 0 s.t s.h (by simp) hr a w hs
  simpa[GB] using this)
end
def lp(u:FrameMode):Value×FrameMode:=match u with
 | .panicking ({v,recovered:=false,goexit:=false}::older)=>(v,.panicking ({v,recovered:=true}::older))
 | u=>(.nilIface,u)
theorem recoverD_recD(c:Frame)(cs:List Frame):(recoverD (c::cs)=some ((lp c.mode).1,{c with mode:=(lp c.mode).2}::cs)) ∨
  (recoverD (c::cs)=none∧(lp c.mode).1=.nilIface∧({c with mode:=(lp c.mode).2}:Frame)=c):=by
 simp only[recoverD,lp]
 split
 ·rename_i v older hm
  exact .inl (by simp[hm])
 ·rename_i hno
  refine .inr ⟨rfl,?_⟩
  split
  ·rename_i v older hm
   exact absurd hm (hno _ _)
  ·exact⟨rfl,rfl⟩
theorem d8{F:Fence}{n:Nat}{P:Program}{id:Nat}{ops:Array Oper}{o:Oper}{os:List Oper}{ats:Array TypeId}(h0:ops.toList=o::os)(ho:o.op=.call {callee:=.builtin .recover,args:=#[],argTypes:=ats})
  (hg:o.guard=none) {Q:Exit→Act→List Frame→World→Prop} {a:Act} {c:Frame} {cs:List Frame} {w:World} (hro:F.round=none)
  {Q0:Exit→Act→World→Prop} (h:wpOpsIn F n P ops Q0 (ES 1 os.length) (a.put o.dst (lp c.mode).1) w) (hQ0:∀e a' w',Q0 e a' w'→Q e a' ({c with mode:=(lp c.mode).2}::cs) w') :
  (Code.region id ops false).wpSIn F n P Q a (c::cs) w:=by
 intro b k hb hr hF hroom
 have hlen:ops.size=os.length+1:=by rw[←ER,h0];simp
 have hrange:EE ops.size=0::ES 1 os.length:=by rw[hlen,GB,Hn]
 have ho0:ops[0]? = some o:=by rw[←Ej,h0];rfl
 have hw:Ef o (yielded ops a.tmps)=true:=by unfold Ef;rw[hg]
 have hrun:(execOp a.eval o).run P w=.ok .recover w:=by
  unfold execOp
  rw[ho]
  simp[resolve,invoke,builtin]
 have hab:∀f,o.about P w a.eval=some f→F.fn f:=by
  intro f hf
  unfold Oper.about at hf
  rw[ho] at hf
  simp[resolve,Target.leads] at hf
 have i0:(lone (b.atR a (.code (.region id ops false)::k)) (c::cs) w).fenced P F:=fenced_calm hF hroom rfl
 have i1:(lone (b.atR a (.inRegion ops (0::ES 1 os.length)::k)) (c::cs) w).fenced P F:=fenced_oper hF hroom ho0 hab
 have hgo:=stepGR_op (P:=P) (b:=b) (k:=k) (cs:=c::cs) (w:=w) (rest:=ES 1 os.length) ho0 hw
 rw[hr,Oper.semAt_none] at hgo
 have hfin:∀v,(b.atR a (.inRegion ops (0::ES 1 os.length)::k)).finish v=b.atR (a.put o.dst v) (.inRegion ops (ES 1 os.length)::k):=by
  intro v;rw[Frame.finish_atR,ho0];rfl
 have hk:(b.atR a (.inRegion ops (0::ES 1 os.length)::k)).kind=.deferred:=hb
 have htr:=tryRecover_deferred hk (c::cs)
 have step1:step P (lone (b.atR a (.inRegion ops (0::ES 1 os.length)::k)) (c::cs) w)=.next (lone (b.atR (a.put o.dst (lp c.mode).1) (.inRegion ops (ES 1 os.length)::k)) ({c with mode:=(lp c.mode).2}::cs) w):=by
  refine step_lone_go ?_
  rw[hgo,←hfin]
  simp only[Frame.atR,hr] at htr ⊢
  rcases recoverD_recD c cs with h1|⟨h1,h2,h3⟩
  ·simp[stepG.apply,hrun,htr,h1]
  ·rw[h2,h3]
   simp[stepG.apply,hrun,htr,h1]
 obtain⟨e,a',w',hq,harr⟩:=wp_opsIn _ _ _ h b k ({c with mode:=(lp c.mode).2}::cs) (hr.trans hro.symm) hF (by simpa using hroom)
 refine⟨e,a',_,w',by simp,hQ0 _ _ _ hq,.of_steps (.one i0 ?_) (.of_steps (.one i1 step1) harr)⟩
 rw[←hrange]
 exact stepR_region
section
variable {P:Program} {Γ:ae}
def VDef(P:Program)(Γ:ae)(g:FuncId)(args:List D)(h:List Blk)(u:FrameMode)(Q:FrameMode→List Blk→Prop):Prop :=
 ∀(O:Nat→Prop) (w:World) (l:Loc) (vs:List Value),Rep Γ O w l h→RelL w (avs O l h) l h args vs →
  CallsDIn (FW none) 0 P g vs.toArray u w fun e u' w'=>∃v h' l',e=.returned v∧Q u' h'∧Rep Γ O w' l' h'∧Ext w l h w' l' h'
def rb:Code→Option (Array Oper×Option Code)
 | .region _ ops false=>some (ops,none)
 | .seq (.region _ ops false) c=>some (ops,some c)
 | _=>none
def defQ(P:Program)(fn:Func)(u':FrameMode)(Q:FrameMode→List Blk→Prop)(e:Exit)(s:AS):Prop :=
 (e=.normal∨e=.ret)∧s.m=[]∧Q u' s.h∧∃ds,a7 P s.t s.h fn.results.toList=some ds
theorem VDef.of_body{g:FuncId}{fn:Func}{c:Code}{args:List D}{h:List Blk}{u:FrameMode}{Q:FrameMode→List Blk→Prop}{call:CallX}(hc:call.Ok P Γ)(hf:P.funcs[g]? = some fn)(hb:fn.body=some c)
  {ops:Array Oper} {rest:Option Code} (hs:rb c=some (ops,rest)) {o:Oper} {os:List Oper} {ats:Array TypeId} (h0:ops.toList=o::os) (ho:o.op=.call {callee:=.builtin .recover,args:=#[],argTypes:=ats}) (hg:o.guard=none)
  {e1:Exit} {t1:List D} {h1:List Blk} (hr:aX P Γ call [] ops.toList os (putD (bJ fn args) o.dst (lit (lp u).1)) h=some (e1,t1,h1))
  (hrest:∀X:Ctx,match rest with
   | none=>defQ P fn (lp u).2 Q e1 {t:=t1,h:=h1,m:=[]}
   | some d=>e1=.normal∧VW P Γ X none d (defQ P fn (lp u).2 Q) {t:=t1,h:=h1,m:=[]}):VDef P Γ g args h u Q:=by
 intro O w l vs R ra
 refine callsDIn_of_wpSIn hf hb trivial fun c₀ cs hu=>?_
 subst hu
 have hst:=eV R ra fn
 have hput:St Γ {O:=O,w:=w,l:=l,h:=h} {t:=putD (bJ fn args) o.dst (lit (lp c₀.mode).1),h:=h,m:=[]} (({tmps:=vs.toArray++EN (fn.ntmps - vs.toArray.size) undef,defers:=[]}:Act).put o.dst (lp c₀.mode).1) w:=by
  obtain⟨l1,R1,E1,rt,rd⟩:=hst
  refine⟨l1,R1,E1,mU o.dst rt (by simp[Rel,RelP]),?_⟩
  cases o.dst<;>exact rd
 have hdrop:ops.toList.drop 1=os:=by rw[h0];rfl
 have fin:∀(e:Exit) (a':Act) (w':World),eu Γ {O:=O,w:=w,l:=l,h:=h} (defQ P fn (lp c₀.mode).2 Q) e a' w' →
   bodyPostS P fn c₀ cs (fun e u' w'=>∃v h' l',e=.returned v∧Q u' h'∧Rep Γ O w' l' h'∧Ext w l h w' l' h') e a' ({c₀ with mode:=(lp c₀.mode).2}::cs) w':=by
  rintro e a' w' ⟨_,s,⟨he,hm,hq,ds,hds⟩,l',R',E',rt',rd'⟩
  rw[hm] at rd'
  have hdef:a'.defers=[]:=rd'
  obtain⟨v,hv,_⟩:=cG (P:=P) R' rt' hds
  rcases he with rfl|rfl
  ·exact⟨hdef,_,rfl,v,hv,v,s.h,l',rfl,hq,R',E'⟩
  ·exact⟨hdef,_,rfl,v,hv,v,s.h,l',rfl,hq,R',E'⟩
 cases rest with
 | none =>
  unfold rb at hs
  split at hs
  ·cases hs
   have hw:=ir (r:=none) (X:={O:=O,w:=w,l:=l,h:=h}) hc (Q:=defQ P fn (lp c₀.mode).2 Q) (hrest {O:=O,w:=w,l:=l,h:=h}) os 1 _ _ hdrop hr _ _ hput
   exact d8 h0 ho hg rfl hw fin
  ·simp at hs
  ·simp at hs
 | some d =>
  unfold rb at hs
  split at hs
  ·simp at hs
  ·cases hs
   have hw:=ir (r:=none) (X:={O:=O,w:=w,l:=l,h:=h}) hc (Q:=fun e s=>e=.normal∧s={t:=t1,h:=h1,m:=[]}) ⟨(hrest {O:=O,w:=w,l:=l,h:=h}).1,rfl⟩ os 1 _ _ hdrop hr _ _ hput
   refine wpSIn_seq (d8 h0 ho hg rfl hw ?_)
   rintro e a' w' ⟨_,s,⟨rfl,rfl⟩,hs'⟩
   refine wpSIn_of_wpIn rfl ?_
   exact wpIn_mono ((hrest {O:=O,w:=w,l:=l,h:=h}).2 a' w' hs') fin
  ·simp at hs
theorem VDef.of_plain{g:FuncId}{fn:Func}{c:Code}{args:List D}{h:List Blk}{u:FrameMode}{Q:FrameMode→List Blk→Prop}(hf:P.funcs[g]? = some fn)(hb:fn.body=some c)
  (hv:∀X:Ctx,VW P Γ X none c (defQ P fn u Q) {t:=bJ fn args,h:=h,m:=[]}):VDef P Γ g args h u Q:=by
 intro O w l vs R ra
 have key:CallsDIn (FW none) 0 P g vs.toArray u w fun e u' w'=>u'=u∧∃v h' l',e=.returned v∧Q u h'∧Rep Γ O w' l' h'∧Ext w l h w' l' h':=by
  refine callsDIn_of_wp hf hb trivial ?_ rfl
  refine wpIn_mono (hv {O:=O,w:=w,l:=l,h:=h} _ w (eV R ra fn)) ?_
  rintro e a' w' ⟨_,s,⟨he,hm,hq,ds,hds⟩,l',R',E',rt',rd'⟩
  rw[hm] at rd'
  have hdef:a'.defers=[]:=rd'
  obtain⟨v,hv,_⟩:=cG (P:=P) R' rt' hds
  rcases he with rfl|rfl
  ·exact⟨hdef,v,hv,v,s.h,l',rfl,hq,R',E'⟩
  ·exact⟨hdef,v,hv,v,s.h,l',rfl,hq,R',E'⟩
 refine CallsDIn.mono key ?_
 rintro e u' w' ⟨rfl,v,h',l',g1,g2,g3⟩
 exact⟨v,h',l',g1,g2,g3⟩
end
section
variable {P:Program} {Γ:ae}
abbrev Dfc:=FuncId×List D
def ur(w:World)(O:Nat→Prop)(l:Loc)(h:List Blk)(g:Dfc)(d:Deferred):Prop :=
 ∃a0 cap,d={target:=.fn (.func g.1) cap,args:=a0}∧RelL w (avs O l h) l h g.2 (a0++cap).toList
def TopW(P:Program)(Γ:ae)(c:Code)(s:AS)(e:Exit)(s':AS)(df:Option Dfc):Prop :=
 ∀(O:Nat→Prop) (w0:World) (l0:Loc) (h0:List Blk) (a:Act) (w:World),St Γ {O:=O,w:=w0,l:=l0,h:=h0} s a w →
  c.wpIn (FW none) 0 P (fun e1 a1 w1=>e1=e∧e1 ≠ .outgrown∧match df with
   | none=>St Γ {O:=O,w:=w0,l:=l0,h:=h0} s' a1 w1
   | some g=>∃d wd ld hd,Ext w0 l0 h0 wd ld hd∧ur wd O ld hd g d∧St Γ {O:=O,w:=wd,l:=ld,h:=hd,D:=[d]} s' a1 w1) a w
theorem TopW.base{c:Code}{s s':AS}{e:Exit}(h:∀X:Ctx,VW P Γ X none c (fun e1 s1=>e1=e∧s1=s') s):TopW P Γ c s e s' none:=by
 intro O w0 l0 h0 a w hs
 refine wpIn_mono (h _ a w hs) ?_
 rintro e1 a1 w1 ⟨h1,s1,⟨rfl,rfl⟩,h2⟩
 exact⟨rfl,h1,h2⟩
theorem TopW.seq{c d:Code}{s s1 s':AS}{e:Exit}{df:Option Dfc}(h:∀X:Ctx,VW P Γ X none c (fun e1 s2=>e1=.normal∧s2=s1) s)(hd:TopW P Γ d s1 e s' df):TopW P Γ (.seq c d) s e s' df:=by
 intro O w0 l0 h0 a w hs
 refine wpIn_seq (wpIn_mono (h _ a w hs) ?_)
 rintro e1 a1 w1 ⟨_,s2,⟨rfl,rfl⟩,h2⟩
 exact hd O w0 l0 h0 a1 w1 h2
theorem TopW.out{c d:Code}{s s':AS}{e:Exit}(he:e ≠ .normal)(h:∀X:Ctx,VW P Γ X none c (fun e1 s2=>e1=e∧s2=s') s):TopW P Γ (.seq c d) s e s' none:=by
 intro O w0 l0 h0 a w hs
 refine wpIn_seq (wpIn_mono (h _ a w hs) ?_)
 rintro e1 a1 w1 ⟨h1,s2,⟨rfl,rfl⟩,h2⟩
 cases e1 with
 | normal=>exact absurd rfl he
 | outgrown=>exact absurd rfl h1
 | _=>exact⟨rfl,h1,h2⟩
theorem TopW.defer(_ok:POk P){call:CallX}(hc:call.Ok P Γ){id:Nat}{ops:Array Oper}{d:Code}{s s':AS}{e:Exit}{os:List Oper}{o:Oper}(h0:ops.toList=os++[o]){fv:Operand}{args:Array Operand}{ats:Array TypeId}
  (ho:o.op=.defer {callee:=.value fv,args,argTypes:=ats}) (hg:o.guard=none) (hdst:o.dst=none) (hm:s.m=[]) {t1:List D} {h1:List Blk} (hr:aX P Γ call [] ops.toList os s.t s.h=some (.normal,t1,h1))
  {f:FuncId} {fi ca:List D} (hcal:bG (evalD Γ t1 fv)=some (f,fi,ca))
  (hrest:∀X:Ctx,VW P Γ X none d (fun e1 s1=>e1=e∧s1=s') {t:=t1,h:=h1,m:=[]}) :
  TopW P Γ (.seq (.region id ops false) d) s e s' (some (f,fi++args.toList.map (evalD Γ t1)++ca)):=by
 intro O w0 l0 hh0 a w hs
 have hlen:ops.size=os.length+1:=by rw[←ER,h0];simp
 have hrange:EE ops.size=ES 0 os.length++[os.length]:=by rw[hlen,List.range_succ,GB]
 have ho0:ops[os.length]? = some o:=by rw[←Ej,h0];simp
 refine wpIn_seq (wpIn_region ?_)
 rw[hrange]
 have hs2:St Γ {O:=O,w:=w0,l:=l0,h:=hh0} {t:=s.t,h:=s.h,m:=[]} a w:=by rw[←hm];exact hs
 refine fK (r:=none) (X:={O:=O,w:=w0,l:=l0,h:=hh0}) hc (tail:=[os.length]) (fun _ a w hs=>?_) (fun c he=>by cases he) os 0 s.t s.h [o] (by simpa using h0) hr a w hs2
 obtain⟨l,R,E,rt,rd⟩:=hs
 have hdef:a.defers=[]:=rd
 simp only[wpOpsIn,ho0]
 have hw:Ef o (yielded ops a.tmps)=true:=by unfold Ef;rw[hg]
 rw[if_pos hw]
 obtain⟨a0,c0,e0,r1,r2⟩:=bI (aC R rt fv) hcal
 refine⟨fun _ _=>trivial,?_⟩
 have e0':(FW none).round=none:=rfl
 rw[e0',Oper.semAt_none]
 have e1:(execOp a.eval o).run P w=.ok (.defer {target:=.fn (.func f) c0,args:=a0++args.map a.eval}) w:=by
  unfold execOp
  rw[ho]
  simp only[resolve,e0,Ek,DG,DQ,DC]
 rw[e1,Oper.uponIn_defer,hdst]
 simp only[Act.put,Exit.then]
 have hD:ur w O l h1 (f,fi++args.toList.map (evalD Γ t1)++ca) {target:=.fn (.func f) c0,args:=a0++args.map a.eval}:=by
  refine⟨_,_,rfl,?_⟩
  simp only[Hs]
  refine aD (aD r1 ?_) r2
  have:=ci R rt args.toList
  simpa using this
 refine wpIn_mono (hrest {O:=O,w:=w,l:=l,h:=h1,D:=[{target:=.fn (.func f) c0,args:=a0++args.map a.eval}]} _ w ⟨l,R,Ext.refl _ _ _,rt,by simp[DefOk,hdef]⟩) ?_
 rintro e1 a1 w1 ⟨k1,s1,⟨rfl,rfl⟩,k2⟩
 exact⟨rfl,k1,_,w,l,h1,E,hD,k2⟩
end
section
variable {Γ:ae} {O:Nat→Prop} {w w':World} {l:Loc} {h h':List Blk}
theorem ut(g:∀b:Nat,h'[b]? = h[b]? ∨ h'[b]? = some F8){blk:Nat}(ho:own l h' blk):own l h blk:=by
 obtain⟨b,x,cp,h1,h2,h3⟩:=ho
 rcases g b with e|e
 ·exact⟨b,x,cp,by rw[←e];exact h1,h2,h3⟩
 ·rw[e] at h1;cases h1;exact absurd rfl h2
theorem uu(g:∀b:Nat,h'[b]? = h[b]? ∨ h'[b]? = some F8){blk:Nat}(ho:avs O l h' blk):avs O l h blk:=ho.imp id (ut g)
theorem oO(g:∀b:Nat,h'[b]? = h[b]? ∨ h'[b]? = some F8){r:Ref}{y:Value}(rr:RefRel l h r y):RefRel l h' r y:=by
 obtain⟨h1,h2⟩:=rr
 refine⟨h1,?_⟩
 cases r with
 | ptr b off=>simp only at h2 ⊢;rcases g b with e|e<;>rw[e]<;>first|exact h2|trivial
 | vec b e0=>simp only at h2 ⊢;rcases g b with e|e<;>rw[e]<;>first|exact h2|trivial
 | vs b e0 i n c=>simp only at h2 ⊢;rcases g b with e|e<;>rw[e]<;>first|exact h2|trivial
 | av b off n sz=>simp only at h2 ⊢;rcases g b with e|e<;>rw[e]<;>first|exact h2|trivial
 | vp b e0 i j=>simp only at h2 ⊢;rcases g b with e|e<;>rw[e]<;>first|exact h2|trivial
 | mp b=>simp only at h2 ⊢;rcases g b with e|e<;>rw[e]<;>first|exact h2|trivial
 | it b=>simp only at h2 ⊢;rcases g b with e|e<;>rw[e]<;>first|exact h2|trivial
 | yl b=>simp only at h2 ⊢;rcases g b with e|e<;>rw[e]<;>first|exact h2|trivial
section
variable {av av':Nat→Prop}
mutual
theorem oP(g:∀b:Nat,h'[b]? = h[b]? ∨ h'[b]? = some F8)(ha:∀k,av' k→av k):∀{d:D} {y:Value},Rel w av l h d y→Rel w av' l h' d y
 | .p _,_,r=>by simp only[Rel] at r ⊢;exact cW ha r
 | .any,_,_=>by simp[Rel]
 | .ref _,_,r=>by simp only[Rel] at r ⊢;exact oO g r
 | .ep _,_,r=>by
  simp only[Rel] at r ⊢
  obtain⟨blk,off,r1,r2⟩:=r
  exact⟨blk,off,r1,aq ha r2⟩
 | .csl _,_,r=>by
  simp only[Rel] at r ⊢
  rcases r with r|⟨blk,off,sz,r1,r2⟩
  ·exact .inl r
  ·exact .inr ⟨blk,off,sz,r1,bh ha r2⟩
 | .fn _ _ _,_,r=>by
  simp only[Rel] at r ⊢
  obtain⟨a,c,r1,r2,r3⟩:=r
  exact⟨a,c,r1,ez g ha r2,ez g ha r3⟩
 | .agg _,_,r=>by
  simp only[Rel] at r ⊢
  obtain⟨vs,r1,r2⟩:=r
  exact⟨vs,r1,ez g ha r2⟩
 | .tup _,_,r=>by
  simp only[Rel] at r ⊢
  obtain⟨vs,r1,r2⟩:=r
  exact⟨vs,r1,ez g ha r2⟩
 | .grd _ _,_,r=>by
  simp only[Rel] at r ⊢
  exact⟨fun hg=>oP g ha (r.1 hg),r.2⟩
theorem ez(g:∀b:Nat,h'[b]? = h[b]? ∨ h'[b]? = some F8)(ha:∀k,av' k→av k):∀{ds:List D} {ys:List Value},RelL w av l h ds ys→RelL w av' l h' ds ys
 | [],[],_=>by simp[RelL]
 | [],_::_,r=>by simp[RelL] at r
 | _::_,[],r=>by simp[RelL] at r
 | _::_,_::_,r=>by
  simp only[RelL] at r ⊢
  exact⟨oP g ha r.1,ez g ha r.2⟩
end
theorem re(g:∀b:Nat,h'[b]? = h[b]? ∨ h'[b]? = some F8)(ha:∀k,av' k→av k):∀{kvs:List (D×D×Nat)} {es:List MapEntry},RelKV w av l h kvs es→RelKV w av' l h' kvs es
 | [],[],_=>by simp[RelKV]
 | [],_::_,r=>by simp[RelKV] at r
 | _::_,[],r=>by simp[RelKV] at r
 | (k,d,m)::kvs,e::es,r=>by
  simp only[RelKV] at r ⊢
  exact⟨oP g ha r.1,oP g ha r.2.1,r.2.2.1,re g ha r.2.2.2⟩
theorem xd(g:∀b:Nat,h'[b]? = h[b]? ∨ h'[b]? = some F8)(ha:∀k,av' k→av k){b:Nat}{x:Blk}(r:BlkOk w av l h b x):BlkOk w av' l h' b x:=by
 cases x with
 | var cs =>
  obtain⟨blk,cp,c,T,r1,r2,r3⟩:=r
  exact⟨blk,cp,c,T,r1,r2,ez g ha r3⟩
 | vec es e sz =>
  unfold BlkOk at r ⊢
  simp only at r ⊢
  split
  ·rename_i h0;rw[h0] at r;exact r
  ·rename_i blk cap h0
   rw[h0] at r
   obtain⟨oo,cc,rc,c,T,fr,ys,r1,r2,r3,r4,r5,r6,r7⟩:=r
   exact⟨oo,cc,rc,c,T,fr,ys,r1,r2,r3,r4,r5,ez g ha r6,r7⟩
 | map kvs clock =>
  obtain⟨blk,cp,es,r1,r2,r3⟩:=r
  exact⟨blk,cp,es,r1,r2,re g ha r3⟩
 | sit s pos=>exact r
 | mit m since seen st =>
  obtain⟨blk,cp,mr,r1,r2,r3⟩:=r
  refine⟨blk,cp,mr,r1,r2,?_⟩
  cases m with
  | none=>exact r3
  | some mb=>exact oO g r3
 | loop st pend fn tmps params asg body =>
  obtain⟨blk,cp,ts,dr,fn',r1,r2,r3,r4⟩:=r
  exact⟨blk,cp,ts,dr,fn',r1,r2,ez g ha r3,r4⟩
 | defd=>exact r
 | gone=>trivial
end
theorem Rep.gc(R:Rep Γ O w l h)(g:∀b:Nat,h'[b]? = h[b]? ∨ h'[b]? = some F8):Rep Γ O w l h' where
 inb blk ho:=R.inb blk (ut g ho)
 obd:=R.obd
 inj b b' x x' k c c' h1 h2 h3 h4 h5 h6:=by
  rcases g b with e|e
  ·rcases g b' with e'|e'
   ·exact R.inj b b' x x' k c c' (by rw[←e];exact h1) h2 (by rw[←e'];exact h3) h4 h5 h6
   ·rw[e'] at h3;cases h3;exact absurd rfl h4
  ·rw[e] at h1;cases h1;exact absurd rfl h2
 blk b x h1:=by
  rcases g b with e|e
  ·exact xd g (fun _=>uu g) (R.blk b x (by rw[←e];exact h1))
  ·rw[e] at h1;cases h1;trivial
 glo g0 cs hg:=aq (fun _=>uu g) (R.glo g0 cs hg)
theorem Ext.gc{w0:World}{l0:Loc}{h0:List Blk}(E:Ext w0 l0 h0 w l h)(g:∀b:Nat,h'[b]? = h[b]? ∨ h'[b]? = some F8):Ext w0 l0 h0 w l h' where
 size:=E.size
 same:=E.same
 news blk ho:=E.news blk (ut g ho)
 keep b x hb:=by
  obtain⟨x',k1,k2,k3⟩:=E.keep b x hb
  rcases g b with e|e
  ·exact⟨x',by rw[e];exact k1,k2,k3⟩
  ·refine⟨.gone,e,?_,fun hs=>?_⟩
   ·cases x<;>simp[Blk.le]
   ·cases x<;>simp[Blk.stays] at hs
 tape:=E.tape
end
def refN:Ref→Nat
 | .ptr b _=>b | .vec b _=>b | .vs b _ _ _ _=>b | .av b _ _ _=>b | .vp b _ _ _=>b | .mp b=>b | .it b=>b | .yl b=>b
mutual
def D.refs(n:Nat):D→List Nat→List Nat
 | .ref r,acc=>match Nat.ble n (refN r) with
  | true=>refN r::acc
  | false=>acc
 | .fn _ a b,acc=>D.refsL n a (D.refsL n b acc)
 | .agg cs,acc=>D.refsL n cs acc
 | .tup cs,acc=>D.refsL n cs acc
 | .grd _ d,acc=>D.refs n d acc
 | _,acc=>acc
def D.refsL(n:Nat):List D→List Nat→List Nat
 | [],acc=>acc
 | d::ds,acc=>D.refs n d (D.refsL n ds acc)
end
def Blk.refs(n:Nat)(acc:List Nat):Blk→List Nat
 | .var cs=>D.refsL n cs acc
 | .vec es _ _=>es.foldr (fun e a=>D.refsL n e a) acc
 | .map kvs _=>kvs.foldr (fun e a=>D.refs n e.1 (D.refs n e.2.1 a)) acc
 | .mit (some m) _ _ _=>match Nat.ble n m with
  | true=>m::acc
  | false=>acc
 | .loop _ _ _ ts _ _ _=>D.refsL n ts acc
 | _=>acc
def zP(x:Nat):List Nat→Bool
 | []=>false
 | y::ys=>match Nat.beq x y with
  | true=>true
  | false=>zP x ys
def uv(n:Nat)(h:List Blk):Nat→List Nat→List Nat→List Nat
 | 0,_,seen=>seen
 | _+1,[],seen=>seen
 | k+1,b::bs,seen=>match zP b seen with
  | true=>uv n h k bs seen
  | false=>uv n h k (Blk.refs n bs (h.getD b .gone)) (b::seen)
def lT(n:Nat)(keep:List Nat):Nat→List Blk→List Blk
 | _,[]=>[]
 | i,x::h=>(match Nat.blt i n||zP i keep with
  | true=>x
  | false=>.gone)::lT n keep (i+1) h
def gcH(n:Nat)(d:D)(h:List Blk):List Blk:=lT n (uv n h 4000 (D.refs n d ((h.take n).foldr (fun x a=>Blk.refs n a x) [])) []) 0 h
theorem lU(n:Nat)(keep:List Nat):∀(h:List Blk) (i b:Nat),(lT n keep i h)[b]? = h[b]? ∨ (lT n keep i h)[b]? = some F8
 | [],_,_=>.inl rfl
 | x::h,i,0=>by
  simp only[lT,List.getElem?_cons_zero]
  split
  ·exact .inl rfl
  ·exact .inr rfl
 | x::h,i,b+1=>by
  simp only[lT,List.getElem?_cons_succ]
  exact lU n keep h (i+1) b
theorem uw(n:Nat)(d:D)(h:List Blk)(b:Nat):(gcH n d h)[b]? = h[b]? ∨ (gcH n d h)[b]? = some F8:=lU _ _ h 0 b
def zQ(n:Nat)(h:List Blk):List Blk:=if (h.take n).all (D6 n) then h.take n else gcH n .any h
def CRQ(Γ:ae)(O:Nat→Prop)(w:World)(l:Loc)(h:List Blk)(r:CR)(e:Ending)(w':World):Prop:=match r with
 | .ret d h'=>∃v l',e=.returned v∧Rep Γ O w' l' h'∧Ext w l h w' l' h'∧Rel w' (avs O l' h') l' h' d v
 | .pan c h'=>∃l',e=.panicked c∧Rep Γ O w' l' h'∧Ext w l h w' l' h'
def VRes(P:Program)(Γ:ae)(f:FuncId)(args:List D)(h:List Blk)(r:CR):Prop :=
 ∀(O:Nat→Prop) (w:World) (l:Loc) (vs:List Value),Rep Γ O w l h→RelL w (avs O l h) l h args vs→CallsIn (FW none) 0 P f vs.toArray w (CRQ Γ O w l h r)
section
variable {P:Program} {Γ:ae}
theorem VRes.call{f:FuncId}{args:List D}{h:List Blk}{d:D}{h':List Blk}(hv:VRes P Γ f args h (.ret d h')):VCall P Γ f args h fun d2 h2=>d2=d∧h2=h':=by
 intro O w l vs R ra
 refine Fi (hv O w l vs R ra) ?_
 rintro e w' ⟨v,l',g1,g2,g3,g4⟩
 exact⟨v,d,h',l',g1,⟨rfl,rfl⟩,g2,g3,g4⟩
theorem VRes.pan{f:FuncId}{args:List D}{h:List Blk}{c:List PanicEntry}{h':List Blk}(hv:VRes P Γ f args h (.pan c h')):VPan P Γ f args h fun c2 h2=>c2=c∧h2=h':=by
 intro O w l vs R ra
 refine Fi (hv O w l vs R ra) ?_
 rintro e w' ⟨l',g1,g2,g3⟩
 exact⟨c,h',l',g1,⟨rfl,rfl⟩,g2,g3⟩
theorem VRes.ok(ok:POk P){x:D}{args:List D}{h:List Blk}{f:FuncId}{fi ca:List D}{r:CR}(hc:bG x=some (f,fi,ca))(hf:dL P f=true)(hv:VRes P Γ f (fi++args++ca) h r):CROk P Γ x args h r:=by
 cases r with
 | ret d h'=>exact VInv.of_call ok hc hf hv.call
 | pan c h'=>exact VInvP.of_call ok hc hf hv.pan
def zR:Exit→Option FrameMode
 | .normal | .ret=>some .returning
 | .panic c=>some (.panicking c)
 | _=>none
def finV(n:Nat)(d:D)(h:List Blk):CR:=match D.inn n d&&(h.take n).all (D6 n) with
 | true=>.ret d (h.take n)
 | false=>.ret d (gcH n d h)
def Da(P:Program)(fn:Func)(n:Nat)(t:List D)(h:List Blk):FrameMode→Option CR
 | .returning=>match a7 P t h fn.results.toList with
  | some ds=>some (finV n (cF ds) h)
  | none=>none
 | .panicking c=>some (.pan c (zQ n h))
 | .run=>none
abbrev DfF:=FuncId→List D→List Blk→FrameMode→Option (FrameMode×List Blk)
def DfF.Ok(P:Program)(Γ:ae)(dfn:DfF):Prop:=∀g as h u u' h',dfn g as h u=some (u',h')→dL P g=true∧VDef P Γ g as h u fun u2 h2=>u2=u'∧h2=h'
def fz(P:Program)(fn:Func)(dfn:DfF)(n:Nat)(e:Exit)(s:AS)(df:Option Dfc):Option CR :=
 match ah s.h s.m&&decide s.m.Nodup with
 | true=>match zR e with
  | some u=>match df with
   | none=>Da P fn n s.t (qY s.m s.h) u
   | some g=>match dfn g.1 g.2 (qY s.m s.h) u with
    | some (u',h2)=>Da P fn n s.t h2 (settle u')
    | none=>none
  | none=>none
 | false=>none
theorem fL{fn:Func}{O:Nat→Prop}{w w2:World}{l l2:Loc}{h h2:List Blk}{t:List D}{ts:Array Value}{u:FrameMode}{r:CR}(hf:Da P fn h.length t h2 u=some r)(R2:Rep Γ O w2 l2 h2)
  (E2:Ext w l h w2 l2 h2) (rt:RelL w2 (avs O l2 h2) l2 h2 t ts.toList):LeavesInM (FW none) 0 P fn ts (CRQ Γ O w l h r) [] u w2:=by
 cases u with
 | run=>simp[Da] at hf
 | returning =>
  simp only[Da] at hf
  split at hf
  ·rename_i ds hds
   obtain⟨v,h1,h3⟩:=cG (P:=P) R2 rt hds
   refine⟨v,h1,?_⟩
   simp only[Dj] at hf
   subst hf
   unfold finV
   split
   ·rename_i hb
    simp only[Dr] at hb
    exact⟨v,l2,rfl,R2.take hb.2,E2.take,cE (fun _=>eU) hb.1 h3⟩
   ·have g:=uw h.length (cF ds) h2
    exact⟨v,l2,rfl,R2.gc g,E2.gc g,oP g (fun _=>uu g) h3⟩
  ·simp at hf
 | panicking c =>
  simp only[Da,Dj] at hf
  subst hf
  show CRQ Γ O w l h (.pan c (zQ h.length h2)) (.panicked c) w2
  unfold zQ
  split
  ·rename_i hb
   exact⟨l2,rfl,R2.take hb,E2.take⟩
  ·have g:=uw h.length .any h2
   exact⟨l2,rfl,R2.gc g,E2.gc g⟩
theorem VRes.of_top(ok:POk P){f:FuncId}{fn:Func}{c:Code}{args:List D}{h:List Blk}{dfn:DfF}{e:Exit}{s':AS}{df:Option Dfc}{r:CR}(hf:P.funcs[f]? = some fn)(hb:fn.body=some c)(hdf:dfn.Ok P Γ)
  (ht:TopW P Γ c {t:=bJ fn args,h:=h,m:=[]} e s' df) (he:fz P fn dfn h.length e s' df=some r):VRes P Γ f args h r:=by
 intro O w l vs R ra
 refine callsIn_of_wp_marks hf hb trivial ?_ rfl
 refine wpIn_mono (ht O w l h _ w (eV R ra fn)) ?_
 rintro e1 a1 w1 ⟨rfl,hne,hst⟩
 unfold fz at he
 split at he
 case h_2=>simp at he
 rename_i hmk
 simp only[Dr,decide_eq_true_eq] at hmk
 split at he
 case h_2=>simp at he
 rename_i u hu
 have hrun:u ≠ .run:=by
  unfold zR at hu
  split at hu<;>first|(cases hu;simp;done)|simp at hu
 have key:LeavesInM (FW none) 0 P fn a1.tmps (CRQ Γ O w l h r) a1.defers u w1:=by
  cases df with
  | none =>
   obtain⟨l',R',E',rt',rd'⟩:=hst
   exact bK hrun s'.m a1.defers w1 l' s'.h R' E' rt' rd' hmk.2 fun w2 l2 R2 E2 rt2=>fL he R2 E2 rt2
  | some g =>
   obtain⟨d,wd,ld,hd,E0,⟨a0,cap,rfl,hrel⟩,l',R',E',rt',rd'⟩:=hst
   simp only at he
   split at he
   case h_2=>simp at he
   rename_i u' h2 hrun2
   obtain⟨k1,k2⟩:=hdf _ _ _ _ _ _ hrun2
   unfold dL at k1
   split at k1
   case h_2=>simp at k1
   rename_i fng hfg
   refine bK hrun s'.m a1.defers w1 l' s'.h R' E' rt' rd' hmk.2 fun w2 l2 R2 E2 rt2=>?_
   refine⟨hrun,.inr ⟨fun h=>by simp[G9] at h,.func g.1,cap,g.1,a0++cap,rfl,?_,fun _ _=>trivial,?_⟩⟩
   ·simp only[invoke]
    exact gq ok hfg k1 _ _
   ·have hc:=k2 O w2 l2 (a0++cap).toList R2 (E2.relL hrel)
    rw[Array.toArray_toList] at hc
    refine CallsDIn.mono hc ?_
    rintro e2 u2 w3 ⟨v,h3,l3,rfl,⟨rfl,rfl⟩,R3,E3⟩
    exact fL he R3 ((E0.trans E2).trans E3) (E3.relL rt2)
 unfold zR at hu
 split at hu
 ·cases hu;exact key
 ·cases hu;exact key
 ·cases hu;exact key
 ·simp at hu
end
abbrev FnF:=FuncId→List D→List Blk→Option CR
abbrev YlF:=Nat→List D→List Blk→Option (D×List Blk)
def lV(fnc:FnF)(yl:YlF):CallX:=fun x args h =>
 match bG x with
 | some (f,fi,ca)=>fnc f (fi++args++ca) h
 | none=>match x with
  | .ref (.yl b)=>match yl b args h with
   | some (d,h')=>some (.ret d h')
   | none=>none
  | _=>none
def dd(ts:List D):List (Tmp×D)→List D
 | []=>ts
 | p::ps=>dd (ts.set p.1 p.2) ps
def jr(b:Nat)(e:Exit)(s:AS):Option (D×List Blk) :=
 match s.h[b]? with
 | some (.loop _ _ f ts ps a c)=>match e with
  | .normal=>some (lit (.bool true),s.h.set b (.loop .ready none f ts ps a c))
  | .ret=>some (lit (.bool false),s.h.set b (.loop .done (some .ret) f ts ps a c))
  | .exit i=>some (lit (.bool false),s.h.set b (.loop .done (some (.exit i)) f ts ps a c))
  | _=>none
 | _=>none
def m9(b:Nat)(t:List D)(m:List Nat)(h:List Blk):Option (Exit×AS) :=
 match h[b+1]? with
 | some (.loop st pend f ts ps a c)=>match st with
  | .busy=>none
  | _=>match ah (h.set (b+1) (.loop .exhausted pend f ts ps a c)) (b::m) with
   | true=>match pend with
    | none=>some (.normal,{t:=t,h:=h.set (b+1) (.loop .exhausted pend f ts ps a c),m:=b::m})
    | some .ret=>some (.ret,{t:=t,h:=h.set (b+1) (.loop .exhausted pend f ts ps a c),m:=b::m})
    | some (.exit i)=>some (.exit i,{t:=t,h:=h.set (b+1) (.loop .exhausted pend f ts ps a c),m:=b::m})
    | some _=>none
   | false=>none
 | _=>none
def dz{α:Type}:List α→Option (List α×α)
 | []=>none
 | x::xs=>match dz xs with
  | some (ys,y)=>some (x::ys,y)
  | none=>some ([],x)
def zf:Code→Option (List Oper×List Oper×Operand×List Operand)
 | .region _ ops false=>match dz ops.toList with
  | some (os,{op:=.defer {callee:=.value fv,args,.. },guard:=none,dst:=none,.. })=>some (ops.toList,os,fv,args.toList)
  | _=>none
 | _=>none
def rf(P:Program)(Γ:ae)(run:Bool→Code→AS→Option (Exit×AS))(call:CallX):Code→AS→Option (Exit×AS×Option Dfc)
 | .seq a b,s=>match zf a with
  | some (ops,os,fv,args)=>match s.m with
   | []=>match aX P Γ call [] ops os s.t s.h with
    | some (.normal,t1,h1)=>match bG (evalD Γ t1 fv) with
     | some (f,fi,ca)=>match run false b {t:=t1,h:=h1,m:=[]} with
      | some (e,s')=>some (e,s',some (f,fi++args.map (evalD Γ t1)++ca))
      | none=>none
     | none=>none
    | _=>none
   | _::_=>none
  | none=>match run false a s with
   | some (.normal,s1)=>rf P Γ run call b s1
   | some (e,s1)=>some (e,s1,none)
   | none=>none
 | c,s=>match run false c s with
  | some (e,s')=>some (e,s',none)
  | none=>none
def recOf:List Oper→Option (Option Tmp×List Oper)
 | {op:=.call {callee:=.builtin .recover,args:=⟨[]⟩,.. },guard:=none,dst,.. }::os=>some (dst,os)
 | _=>none
def qh(run:Bool→Code→AS→Option (Exit×AS))(rest:Option Code)(e:Exit)(s:AS):Option (Exit×AS):=match rest with
 | none=>some (e,s)
 | some d=>match e with
  | .normal=>run false d s
  | _=>none
mutual
def bu(P:Program)(Γ:ae)(W:FnF):Nat→Bool→Code→AS→Option (Exit×AS)
 | 0,_,_,_=>none
 | n+1,rd,c,s=>match c with
  | .skip=>some (.normal,s)
  | .label _=>some (.normal,s)
  | .ret=>some (.ret,s)
  | .exit i=>some (.exit i,s)
  | .goto i=>some (.goto i,s)
  | .seq a b=>match bu P Γ W n rd a s with
   | some (.normal,s')=>bu P Γ W n rd b s'
   | r=>r
  | .cond x a b=>match evalD Γ s.t x with
   | .p (.v (.bool true))=>bu P Γ W n rd a s
   | .p (.v (.bool false))=>bu P Γ W n rd b s
   | _=>none
  | .block i b=>match bu P Γ W n rd b s with
   | some (.exit j,s')=>if j=i then some (.normal,s') else some (.exit j,s')
   | r=>r
  | .scope b=>match bu P Γ W n rd b s with
   | some (.goto _,_)=>none
   | r=>r
  | .loop b=>match bu P Γ W n rd b s with
   | some (.normal,s')=>bu P Γ W n rd (.loop b) s'
   | r=>r
  | .region _ ops draw=>match draw with
   | false=>match aX P Γ (lV (lz P Γ W n) (qi P Γ W n)) s.m ops.toList ops.toList s.t s.h with
    | some (e,t,h)=>some (e,{t:=t,h:=h,m:=s.m})
    | none=>none
   | true=>match j8 P Γ (lV (lz P Γ W n) (qi P Γ W n)).toF s.m ops.toList true s.t s.h with
    | some (t,h)=>some (.normal,{t:=t,h:=h,m:=s.m})
    | none=>none
  | .rangeFunc g ps asg body=>match rd with
   | true=>none
   | false=>match bG (evalD Γ s.t g) with
    | some (f,fi,ca)=>match lz P Γ W n f (fi++[.ref (.yl (s.h.length+1))]++ca) (s.h++[.defd]++[.loop .ready none 0 s.t ps asg body]) with
     | some (.ret _ h2)=>m9 s.h.length s.t s.m h2
     | _=>none
    | none=>none
  | _=>none
def lz(P:Program)(Γ:ae)(W:FnF):Nat→FuncId→List D→List Blk→Option CR
 | 0,_,_,_=>none
 | n+1,f,args,h=>match W f args h with
 | some r=>some r
 | none=>match P.funcs[f]? with
  | none=>none
  | some fn=>match fn.body with
   | none=>none
   | some c=>match rf P Γ (bu P Γ W n) (lV (lz P Γ W n) (qi P Γ W n)) c {t:=bJ fn args,h:=h,m:=[]} with
    | some (e,s,df)=>fz P fn (eA P Γ W n) h.length e s df
    | none=>none
def eA(P:Program)(Γ:ae)(W:FnF):Nat→FuncId→List D→List Blk→FrameMode→Option (FrameMode×List Blk)
 | 0,_,_,_,_=>none
 | n+1,f,args,h,u=>match P.funcs[f]? with
  | none=>none
  | some fn=>match fn.body with
   | none=>none
   | some c=>match rb c with
    | none=>none
    | some (ops,rest)=>match recOf ops.toList with
     | none=>match bu P Γ W n false c {t:=bJ fn args,h:=h,m:=[]} with
      | some (.normal,{t:=t2,h:=h2,m:=[]})=>match a7 P t2 h2 fn.results.toList with
       | some _=>some (u,h2)
       | none=>none
      | some (.ret,{t:=t2,h:=h2,m:=[]})=>match a7 P t2 h2 fn.results.toList with
       | some _=>some (u,h2)
       | none=>none
      | _=>none
     | some (dst,os)=>match aX P Γ (lV (lz P Γ W n) (qi P Γ W n)) [] ops.toList os (putD (bJ fn args) dst (lit (lp u).1)) h with
      | none=>none
      | some (e,t1,h1)=>match qh (bu P Γ W n) rest e {t:=t1,h:=h1,m:=[]} with
       | some (.normal,{t:=t2,h:=h2,m:=[]})=>match a7 P t2 h2 fn.results.toList with
        | some _=>some ((lp u).2,h2)
        | none=>none
       | some (.ret,{t:=t2,h:=h2,m:=[]})=>match a7 P t2 h2 fn.results.toList with
        | some _=>some ((lp u).2,h2)
        | none=>none
       | _=>none
def qi(P:Program)(Γ:ae)(W:FnF):Nat→Nat→List D→List Blk→Option (D×List Blk)
 | 0,_,_,_=>none
 | n+1,b,args,h=>match h[b]? with
  | some (.loop .ready _ _ ts ps asg body)=>match Qd (args.length=ps.size) with
   | true=>match bu P Γ W n true asg {t:=dd ts (ps.toList.zip args),h:=h,m:=[]} with
    | some (.normal,{t:=t1,h:=h1,m:=[]})=>match h1[b]? with
     | some (.loop .ready p1 f1 ts1 ps1 a1 b1)=>match bu P Γ W n true body {t:=t1,h:=h1.set b (.loop .busy p1 f1 ts1 ps1 a1 b1),m:=[]} with
      | some (e,s2)=>jr b e s2
      | none=>none
     | _=>none
    | _=>none
   | false=>none
  | _=>none
end
def noW:FnF:=fun _ _ _=>none
section
variable {P:Program} {Γ:ae} {O:Nat→Prop} {w:World} {l:Loc} {h:List Blk}
theorem iu(R:Rep Γ O w l h){b blk cp:Nat}{st:LoopState}{p:Option Code}{f:FuncId}{ts:List D}{ps:Array Tmp}{a c:Code}(hb:h[b]? = some (.loop st p f ts ps a c))(hl:l b=some (blk,cp)):
  ∃rec:Loop,w.heap[blk]? = some (.loop rec)∧rec.state=st∧rec.pending=p∧rec.params=ps∧rec.assign=a∧rec.body=c∧RelL w (avs O l h) l h ts rec.tmps.toList∧(f=0∨rec.fn=f) ∧
   ∀st' p',Rep Γ O {w with heap:=w.heap.setIfInBounds blk (.loop {rec with state:=st',pending:=p' })} l (h.set b (.loop st' p' f ts ps a c)) ∧
    Ext w l h {w with heap:=w.heap.setIfInBounds blk (.loop {rec with state:=st',pending:=p' })} l (h.set b (.loop st' p' f ts ps a c)):=by
 obtain⟨blk',cp',tv,dr,fn',h1,h2,h3,h4⟩:=R.blk b _ hb
 obtain⟨rfl,rfl⟩:blk=blk'∧cp=cp':=by simpa[hl] using h1
 refine⟨_,h2,rfl,rfl,rfl,rfl,rfl,h3,h4,fun st' p'=>?_⟩
 exact R.setAt hb (by simp) hl (x':=.loop st' p' f ts ps a c) trivial (fun E hg=>⟨blk,cp,tv,dr,fn',hl,hg,E.relL h3,h4⟩)
theorem b9{r:Nat}{x:Loop}(hr:w.heap[r]? = some (.loop x)):(Instr.getLoop r).run P w=.ok x w:=by
 simp only[Instr.getLoop,DG,be (P:=P) hr (by simp),DC,DQ]
theorem eY{w':World}{l':Loc}{h':List Blk}(E:Ext w l h w' l' h'){b:Nat}{st st':LoopState}{p p':Option Code}{f f':FuncId}{ts ts':List D}{ps ps':Array Tmp}{a c a' c':Code}
  (hb:h[b]? = some (.loop st p f ts ps a c)) (hb':h'[b]? = some (.loop st' p' f' ts' ps' a' c')):l' b=l b:=by
 obtain⟨x',h1,h2,h3⟩:=E.keep b _ hb
 rw[hb'] at h1
 cases h1
 exact h3 trivial
theorem fM{av:Nat→Prop}:∀(ps:List Tmp) (args:List D) (vs:List Value) (ts:List D) (tv:Array Value),RelL w av l h args vs→RelL w av l h ts tv.toList →
  RelL w av l h (dd ts (ps.zip args)) ((ps.zip vs).foldl (fun (t:Array Value) (p:Tmp×Value)=>t.setIfInBounds p.1 p.2) tv).toList
 | [],_,_,ts,tv,_,rt=>by simpa[dd] using rt
 | _::_,[],[],ts,tv,_,rt=>by simpa[dd] using rt
 | _::_,[],_::_,_,_,ra,_=>by simp[RelL] at ra
 | _::_,_::_,[],_,_,ra,_=>by simp[RelL] at ra
 | p::ps,d::args,v::vs,ts,tv,ra,rt=>by
  simp only[RelL] at ra
  simp only[List.zip_cons_cons,dd,List.foldl_cons]
  exact fM ps args vs _ _ ra.2 (by rw[GN];exact mT ra.1 _ _ _ rt)
theorem j9{b:Nat}{args:List D}{pend:Option Code}{f:FuncId}{ts:List D}{ps:Array Tmp}{asg body:Code}{t1:List D}{h1:List Blk}{p1:Option Code}{f1:FuncId}{ts1:List D}{ps1:Array Tmp}
  {a1 b1:Code} {e2:Exit} {s2:AS} {d:D} {h':List Blk} (hb:h[b]? = some (.loop .ready pend f ts ps asg body)) (hlen:args.length=ps.size)
  (hasg:∀X r,X.h=h→VW P Γ X r asg (fun e s=>e=.normal∧s={t:=t1,h:=h1,m:=[]}) {t:=dd ts (ps.toList.zip args),h:=h,m:=[]})
  (hb1:h1[b]? = some (.loop .ready p1 f1 ts1 ps1 a1 b1))
  (hbody:∀X r,X.h=h→VW P Γ X r body (fun e s=>e=e2∧s=s2) {t:=t1,h:=h1.set b (.loop .busy p1 f1 ts1 ps1 a1 b1),m:=[]})
  (hend:jr b e2 s2=some (d,h')):VInv P Γ (.ref (.yl b)) args h fun d2 h2=>d2=d∧h2=h':=by
 intro O w l y vs R rx ra r o a next Q' hn
 simp only[Rel,RefRel,hb] at rx
 obtain⟨_,blk,cp,hl,rfl⟩:=rx
 obtain⟨rec,g1,g2,g3,g4,g5,g6,g7,gf,_⟩:=iu R hb hl
 have hlv:=cX _ _ ra
 have e1:(do let d ←Ek (.func (.yield blk) #[] #[]) vs.toArray;invoke d.target d.args:Sem Next).run P w =
   .ok (.round blk rec.fn ((rec.params.zip vs.toArray).foldl (fun tmps (p:Tmp×Value)=>tmps.setIfInBounds p.1 p.2) rec.tmps) rec.assign rec.body) w:=by
  have hsz:vs.length=rec.params.size:=by rw[g4,←hlen,hlv]
  simp only[Ek,DG,DQ,DC,invoke,Instr.yield,b9 (P:=P) g1,Array.empty_append]
  simp[hsz]
 rw[e1]
 refine⟨fun h=>by simp[G9] at h,?_⟩
 rw[g5,g6,g4]
 refine roundIn_of_wpIn (F:=FW r) trivial ?_
 have st0:St Γ {O:=O,w:=w,l:=l,h:=h} {t:=dd ts (ps.toList.zip args),h:=h,m:=[]}
   {tmps:=(ps.zip vs.toArray).foldl (fun tmps (p:Tmp×Value)=>tmps.setIfInBounds p.1 p.2) rec.tmps,defers:=[]} w:=by
  refine⟨l,R,Ext.refl _ _ _,?_,by simp[DefOk]⟩
  have:=fM (w:=w) (l:=l) (h:=h) (av:=avs O l h) ps.toList args vs ts rec.tmps ra g7
  rw[←Array.foldl_toList]
  simpa using this
 refine wpIn_mono (hasg _ (some blk) rfl _ _ st0) ?_
 rintro e a₁ w₁ ⟨_,s1,⟨rfl,rfl⟩,l1,R1,E1,rt1,rd1⟩
 have hl1:l1 b=some (blk,cp):=by rw[eY E1 hb hb1];exact hl
 obtain⟨rec1,k1,k2,k3,k4,k5,k6,k7,_,k8⟩:=iu R1 hb1 hl1
 obtain⟨R2,E2⟩:=k8 .busy p1
 refine⟨{w₁ with heap:=w₁.heap.setIfInBounds blk (.loop {rec1 with state:=.busy,pending:=p1})},?_,?_⟩
 ·have:({rec1 with state:=.busy}:Loop)={rec1 with state:=.busy,pending:=p1}:=by rw[←k3]
  simp only[Instr.beginRound,DG,b9 (P:=P) k1,DC,this,bp (P:=P) k1 (by simp),k2,DQ]
 ·have st1:St Γ {O:=O,w:=w,l:=l,h:=h} {t:=t1,h:=h1.set b (.loop .busy p1 f1 ts1 ps1 a1 b1),m:=[]} a₁ {w₁ with heap:=w₁.heap.setIfInBounds blk (.loop {rec1 with state:=.busy,pending:=p1})}:=by
   refine⟨l1,R2,E1.trans E2,E2.relL rt1,?_⟩
   exact rd1
  refine wpIn_mono (hbody _ (some blk) rfl _ _ st1) ?_
  rintro e a₂ w₂ ⟨_,s3,⟨rfl,rfl⟩,l2,R3,E3,rt3,rd3⟩
  unfold jr at hend
  split at hend
  case h_2=>simp at hend
  rename_i st3 p3 f3 ts3 ps3 a3 b3 hb3
  have hl2:l2 b=some (blk,cp):=by rw[eY E3 hb hb3];exact hl
  obtain⟨rec3,m1,m2,m3,m4,m5,m6,m7,_,m8⟩:=iu R3 hb3 hl2
  have endRun:∀jump:Option Code,(Instr.endRound blk jump).run P w₂=.ok (.bool jump.isNone) {w₂ with heap:=w₂.heap.setIfInBounds blk (.loop {rec3 with state:=if jump.isNone then .ready else .done,pending:=jump})}:=by
   intro jump
   simp only[Instr.endRound,DG,b9 (P:=P) m1,DC,bp (P:=P) m1 (by simp),DQ]
  cases e with
  | normal =>
   simp only[Dj,Dm] at hend
   obtain⟨rfl,rfl⟩:=hend
   obtain⟨R4,E4⟩:=m8 .ready none
   exact⟨_,_,endRun none,hn _ _ _ l2 _ ⟨rfl,rfl⟩ R4 (E3.trans E4) (by simp[Rel,RelP])⟩
  | exit i =>
   simp only[Dj,Dm] at hend
   obtain⟨rfl,rfl⟩:=hend
   obtain⟨R4,E4⟩:=m8 .done (some (.exit i))
   exact⟨_,_,endRun (some (.exit i)),hn _ _ _ l2 _ ⟨rfl,rfl⟩ R4 (E3.trans E4) (by simp[Rel,RelP])⟩
  | ret =>
   simp only[Dj,Dm] at hend
   obtain⟨rfl,rfl⟩:=hend
   obtain⟨R4,E4⟩:=m8 .done (some .ret)
   exact⟨_,_,endRun (some .ret),hn _ _ _ l2 _ ⟨rfl,rfl⟩ R4 (E3.trans E4) (by simp[Rel,RelP])⟩
  | _=>simp at hend
end
section
variable {P:Program} {Γ:ae} {X:Ctx} {s:AS}
theorem lW{w:World}(o:Obj):(newObj o).run P w=.ok w.heap.size (w.alloc o):=rfl
theorem VW.rangeFunc(ok:POk P){g:Operand}{ps:Array Tmp}{asg body:Code}{f:FuncId}{fi ca:List D}{h2:List Blk}{e:Exit}{s':AS}(hg:bG (evalD Γ s.t g)=some (f,fi,ca))(hf:dL P f=true)
  (hc:VCall P Γ f (fi++[.ref (.yl (s.h.length+1))]++ca) (s.h++[.defd]++[.loop .ready none 0 s.t ps asg body]) fun _ h'=>h'=h2)
  (he:m9 s.h.length s.t s.m h2=some (e,s')):VW P Γ X none (.rangeFunc g ps asg body) (fun e' s''=>e'=e∧s''=s') s:=by
 intro a w hs
 have hmk:=hs.marks
 obtain⟨l,R,E,rt,rd⟩:=hs
 refine wpIn_rangeFunc fun fn _=>?_
 obtain⟨R1,E1⟩:=cq R (.deferred (some [])) .defd 0 (fun E=>⟨w.heap.size,0,by simp,heap_alloc_new w _⟩)
 generalize hw1:w.alloc (.deferred (some []))=w1 at R1 E1
 generalize hl1:l.upd s.h.length (some (w.heap.size,0))=l1 at R1 E1
 have rt1:=E1.relL rt
 have hlen:(s.h++[GZ]).length=s.h.length+1:=by simp
 obtain⟨R2,E2⟩:=cq R1 (.loop {state:=.ready,pending:=none,fn,tmps:=a.tmps,params:=ps,assign:=asg,body,defers:=w.heap.size}) (.loop .ready none 0 s.t ps asg body) 0
  (fun E=>⟨w1.heap.size,0,a.tmps,w.heap.size,fn,by simp,heap_alloc_new w1 _,E.relL rt1,.inl rfl⟩)
 generalize hw2:w1.alloc (.loop {state:=.ready,pending:=none,fn,tmps:=a.tmps,params:=ps,assign:=asg,body,defers:=w.heap.size})=w2 at R2 E2
 generalize hl2:l1.upd (s.h++[GZ]).length (some (w1.heap.size,0))=l2 at R2 E2
 rw[hlen] at hl2
 obtain⟨a0,c0,e0,r1,r2⟩:=bI (aC R2 ((E1.trans E2).relL rt) g) hg
 unfold dL at hf
 split at hf
 case h_2=>simp at hf
 rename_i fn' hfn'
 refine⟨w1.heap.size,[{target:=.collected w.heap.size,args:=#[]}],w2,{target:=.fn (.func f) c0,args:=a0++#[.func (.yield w1.heap.size) #[] #[]]},w2,f,a0++#[.func (.yield w1.heap.size) #[] #[]]++c0,w2,?_,?_,fun _ _=>trivial,?_,fun h=>by simp[G9] at h,?_⟩
 ·simp only[Instr.enterLoop,DG,lW,DC,DQ,hw1,hw2]
 ·simp only[resolve,e0,Ek,DQ]
  simp
  rfl
 ·exact gq ok hfn' hf _ _
 ·have hl2n:l2 (s.h.length+1)=some (w1.heap.size,0):=by rw[←hl2];simp
  have hl2d:l2 s.h.length=some (w.heap.size,0):=by rw[←hl2,Loc.upd_ne _ _ _ (by omega),←hl1];simp
  have hHn:(s.h++[GZ]++[Jb .ready none 0 s.t ps asg body])[s.h.length+1]? = some (.loop .ready none 0 s.t ps asg body):=by
   rw[D4 (by simp)];simp
  have hHd:(s.h++[GZ]++[Jb .ready none 0 s.t ps asg body])[s.h.length]? = some .defd:=by
   rw[List.getElem?_append_left (by simp),D4 (by simp)];simp
  have hd2:DefOk X.D l2 (s.h++[GZ]++[Jb .ready none 0 s.t ps asg body]) (s.h.length::s.m) ({target:=.collected w.heap.size,args:=#[]}::a.defers):=by
   simp only[DefOk]
   refine⟨⟨w.heap.size,0,hHd,hl2d,rfl⟩,?_⟩
   exact Ga (E1.trans E2).keep (by rw[List.append_assoc];exact cj hmk) rd
  have hcall:=hc X.O w2 l2 (a0++#[Value.func (Fn.yield w1.heap.size) #[] #[]]++c0).toList R2 (by
   simp only[Hs]
   refine aD (aD r1 ?_) r2
   simp only[RelL,Rel,RefRel,hHn]
   exact⟨⟨rfl,w1.heap.size,0,hl2n,rfl⟩,trivial⟩)
  refine Fi (hcall:CallsIn (FW none) 0 P f _ w2 _) ?_
  rintro e1 w3 ⟨v,d,h',l3,rfl,rfl,R3,E3,_⟩
  unfold m9 at he
  split at he
  case h_2=>simp at he
  rename_i st pend f3 ts3 ps3 a3 c3 hb3
  have hl3:l3 (s.h.length+1)=some (w1.heap.size,0):=by rw[eY E3 hHn hb3];exact hl2n
  obtain⟨rec3,m1,m2,m3,m4,m5,m6,m7,_,m8⟩:=iu R3 hb3 hl3
  obtain⟨R4,E4⟩:=m8 .exhausted pend
  split at he
  ·simp at he
  rename_i hbusy
  split at he
  case h_2=>simp at he
  rename_i hmk3
  have hst:St Γ X {t:=s.t,h:=h'.set (s.h.length+1) (.loop .exhausted pend f3 ts3 ps3 a3 c3),m:=s.h.length::s.m} {a with defers:=[{target:=.collected w.heap.size,args:=#[]}]++a.defers}
    {w3 with heap:=w3.heap.setIfInBounds w1.heap.size (.loop {rec3 with state:=.exhausted,pending:=pend})} :=
   ⟨l3,R4,(E.trans (E1.trans E2)).trans (E3.trans E4),((E1.trans E2).trans (E3.trans E4)).relL rt,Ga (E3.trans E4).keep hmk3 hd2⟩
  have hrun:(Instr.endLoop w1.heap.size).run P w3=.ok pend {w3 with heap:=w3.heap.setIfInBounds w1.heap.size (.loop {rec3 with state:=.exhausted,pending:=pend})}:=by
   have e1:({rec3 with state:=.exhausted}:Loop)={rec3 with state:=.exhausted,pending:=pend}:=by rw[←m3]
   have e2:(rec3.state==LoopState.busy)=false:=by
    rw[m2]
    cases st<;>first|rfl|exact absurd rfl hbusy
   simp only[Instr.endLoop,DG,b9 (P:=P) m1,DC,e2,D8,if_false,DQ,bp (P:=P) m1 (by simp),m3]
  refine⟨pend,_,hrun,?_⟩
  cases pend with
  | none =>
   simp only[Dj,Dm] at he
   obtain⟨rfl,rfl⟩:=he
   exact⟨by simp,_,⟨rfl,rfl⟩,hst⟩
  | some c =>
   cases c<;>simp only[Dj,Dm,reduceCtorEq] at he
   ·obtain⟨rfl,rfl⟩:=he
    exact wpIn_exit ⟨by simp,_,⟨rfl,rfl⟩,hst⟩
   ·obtain⟨rfl,rfl⟩:=he
    exact wpIn_ret ⟨by simp,_,⟨rfl,rfl⟩,hst⟩
end
end Go.Vi
