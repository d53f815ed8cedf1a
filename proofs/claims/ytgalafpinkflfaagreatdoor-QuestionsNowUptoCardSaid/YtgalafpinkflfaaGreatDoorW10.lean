/- A part of the proof; no conditions of its own. -/
import Derived.Test.YtgalafpinkflfaaGreatDoorW9
import Derived.Test.YtgalafpinkflfaaGreatDoorCards
import Derived.Test.YtgalafpinkflfaaGreatDoorTie
import Derived.WalkKit
import Derived.ProofKit
import Derived.OpenShut
import Derived.Deep.DeepHandedRow
import Derived.Lib.LaidTab
open Decidable renaming decide -> Zd
open Go.Proofs.Tryz renaming prog -> MK, underlying32 -> QC
open List renaming nodup_nil -> QJ, foldl_cons -> NI, length_mergeSort -> Rk, length_map -> N7, mem_map -> NK, map -> ML, range -> NC, replicate -> MU, getD -> MT, getElem?_eq_getElem -> Nh, getElem?_map -> O3, mem_cons_self -> OU, forall_mem_cons -> NG, mem_cons_of_mem -> PA, mem_cons -> ND, drop_zero -> RM, all_cons -> Ps, contains_iff_mem -> SC, mem_of_getElem? -> Ny, getElem?_eq_some_iff -> MR, getElem_range -> Ti, map_cons -> Pr
open Go.Vi.Ev renaming YI -> SA, W9 -> OL, WB -> Na, Xj -> M9
open Classical renaming choose -> Ql
open Go.Vi.T2 renaming row -> M5
open Nat renaming le_trans -> OX, mul_le_mul_right -> OH
open Go.Vi.oN renaming zero -> S9, row -> P7
open Go.Vi.IS renaming row -> MX
open Go.Vi.TK renaming row -> M4, zero -> Qd, sys -> Qv
open Go.Vi.If renaming row -> MY
open Go.Vi.UA renaming row -> NZ
open Go.Vi.TV renaming row -> N8
open Go.Vi.T5 renaming row -> QH
open Go.Vi.D renaming Tt -> Nt, agg -> Nk
open Go.IntKind renaming i64 -> MM, wrap -> MN
open Go.Value renaming nilFunc -> NF, okWide -> P5
open Go.Vi.iS renaming l -> Nz
open Go.Proofs.YtgalafpinkflfaaGreatDoor.Rows renaming uptoBulk -> Oa, uptoBulkAll -> Pw
open Bool renaming and_eq_true -> M3
open Prod.mk renaming injEq -> MV
open Go.DataW renaming weights -> R8, Trod -> Ta
open Option renaming map_eq_some_iff -> M0
open Go Go.Proofs
namespace Go.Vi
set_option maxRecDepth 100000
set_option maxHeartbeats 1000000
theorem Ey:V8 MK At 44 [ab []] [] λd h'=>(d=nq/\h'=[])\/(d=.ref (.bY 0 1)/\h'=[.bY [] 1 6]):=by
 refine V8.Vo (fn:=Tryz.f44) (c:=ar Tryz.f44) rfl rfl λX hX=>?_
 rw[yJ]
 refine VW.seq ((cl_r0 (l:=[]) X none hX (λ_=>rfl)).mono λe s hq=>?_)
 obtain⟨rfl,rfl⟩:=hq
 refine VW.seq (VW.seq (cl_r1 (l:=[]) λb hb=>?_))
 cases b with
 | true =>
  refine(cl_ct X none hX (λ_=>rfl)).mono λe s hq=>?_
  obtain⟨rfl,rfl⟩:=hq
  exact⟨.inr rfl,rfl,QJ,[nq],rfl,.inl ⟨rfl,rfl⟩⟩
 | false =>
  refine(cl_c (l:=[]) X none hX (λ_=>rfl)).mono λe s hq=>?_
  obtain⟨rfl,rfl⟩:=hq
  refine(Dv (l:=[]) (by simp) X none hX (λ_=>rfl)).mono λe s hq=>?_
  obtain⟨rfl,rfl⟩:=hq
  exact⟨.inr rfl,rfl,QJ,[.ref (.bY 0 1)],rfl,.inr ⟨rfl,rfl⟩⟩
theorem Bw(h:List iN):Ev MK At 44 [ab []] h (ab []) h:=by
 have h0:Ev MK At 44 [ab []] [] (ab []) []:=by
  intro O w l vs R ra
  refine CallsIn.mono (Ey O w l vs R ra) ?_
  rintro e w' ⟨v,d',h',l',rfl,hq,R',E',rd⟩
  rcases hq with ⟨rfl,rfl⟩|⟨rfl,rfl⟩
  ·exact⟨v,_,_,l',rfl,⟨rfl,rfl⟩,R',E',rL _ _ rd⟩
  ·obtain⟨l2,R2,E2,r2, -⟩:=pR (Γ:=At) (X:={O:=O,w:=w,l:=l,h:=[]}) {t:=[.ref (.bY 0 1)],h:=[.bY [] 1 6],m:=[]} [.st (.Vw 0 []),.st (.TD 0)] {t:=[ab []],h:=[],m:=[]} [] [([]:List (List D))=[]] (by kernel_rfl) ⟨rfl,trivial⟩ {tmps:=#[v],defers:=[]} w' ⟨l',R',E',⟨rd,trivial⟩,rfl⟩
   exact⟨v,ab [],[],l2,rfl,⟨rfl,rfl⟩,R2,E2,r2.1⟩
 exact SA rfl h0 h
structure π where
 us:List (List Dp)
 ms:Int
 cut:List Bool
 e:Int
instance:Inhabited π:=⟨⟨[],0,[],0⟩⟩
def π.d(a:π):D:=.agg [ab a.us,aT a.ms,ab (cH a.cut)]
def zi(p:oN)(l:List tO)(a:π):Prop:=ah a.cut/\∀h,Ev MK At 49 [.agg p.l,ab (l.map tO.row)] h (.Tt [a.d,aT a.e]) h
open Classical in
noncomputable def Hj(p:oN)(l:List tO):π:=if h:∃a,zi p l a then Ql h else default
theorem IX{p:oN}{l:List tO}(h:∃a,zi p l a):zi p l (Hj p l):=by
 grind [Hj]
structure DegX where
 a:π
 met:Bool
 rd:List BY
 e:Int
def DegX.d(x:DegX):D:=.Tt [x.a.d,iF x.met,ab (M2 x.rd),aT x.e]
def rQ(rd:List BY)(e:Int):DegX:=⟨⟨[],0,[],0⟩,false,rd,e⟩
def kO(w:iS)(bV bv:Int)(p:oN):oN:=⟨p.nm,p.number,p.T3,p.ON,p.num,p.den,p.reqs.map (sB w bV bv)⟩
noncomputable def degL(w:iS)(bV bv:Int)(p:oN)(rs:List BY)(l:List tO):DegX :=
 let p':=kO w bV bv p
 let a:=Hj p' l
 match a.e != 0 with
 | true=>rQ [] a.e
 | false=>match (pi l).2 != 0 with
  | true=>rQ [] (pi l).2
  | false=>match (gj l).2.2 != 0 with
   | true=>rQ [] (gj l).2.2
   | false=>match (oS (gj l).1 (gj l).2.1 p.num p.den).2 != 0 with
    | true=>rQ [] (oS (gj l).1 (gj l).2.1 p.num p.den).2
    | false=>⟨a,a.ms==0&&Zd ((pi l).1>=p.ON)&&Zd ((oS (gj l).1 (gj l).2.1 p.num p.den).1>=0),rs++(p.reqs.map (sx w bV bv)).flatten,0⟩
noncomputable def vW(w:iS)(ps:List oN)(st n bV bv:Int):DegX :=
 match (aQ w ps n bV bv).2 with
 | false=>rQ (Vm 3 n 0 bV) 0
 | true=>match (g9 w st bV bv).2.2 != 0 with
  | true=>rQ [] (g9 w st bV bv).2.2
  | false=>match (eI w (g9 w st bV bv).1 bV bv).2.2 != 0 with
   | true=>rQ [] (eI w (g9 w st bV bv).1 bV bv).2.2
   | false=>degL w bV bv (aQ w ps n bV bv).1 (Vm 3 n 0 bV++(g9 w st bV bv).2.1++(eI w (g9 w st bV bv).1 bV bv).2.1) (eI w (g9 w st bV bv).1 bV bv).1
theorem kP{w:iS}{st n bV bv e:Int}(h:Ev MK Or 15 [.agg w.l,aT st,aT n,aT bV,aT bv] [] (.Tt [.agg [nq,aT 0,nq],iF false,nq,aT e]) []):Ev MK Or 15 [.agg w.l,aT st,aT n,aT bV,aT bv] [] (rQ [] e).d []:=OL h
theorem qg{e:Int}(h:(e != 0)=true):(e==0)=false:=by simpa using h
theorem qh{e:Int}(h:(e != 0)=false):e=0:=by simpa using h
theorem deg_a{w:iS}(hw:w.ok){ps:List oN}{st n bV bv:Int}(hn:(aj w.f bv).length<=1000)
  (hp:∀h,Ev MK Or 40 [.agg w.l,aT n,aT bV,aT bv] h (.Tt [.agg (aQ w ps n bV bv).1.l,ab (M2 (Vm 3 n 0 bV)),iF (aQ w ps n bV bv).2]) h)
  (UG:(aQ w ps n bV bv).1.ok) (hq1:(aQ w ps n bV bv).1.reqs.length<=1000000) (hq2:∀q∈(aQ w ps n bV bv).1.reqs,q.Do.length<=1048576) (hq3:((aQ w ps n bV bv).1.reqs.map λq=>q.Do.length).sum<=1048576)
  (ha:(aQ w ps n bV bv).2=true->(eI w (g9 w st bV bv).1 bV bv).2.2=0->∃a,zi (kO w bV bv (aQ w ps n bV bv).1) (eI w (g9 w st bV bv).1 bV bv).1 a) :
  Ev MK Or 15 [.agg w.l,aT st,aT n,aT bV,aT bv] [] (vW w ps st n bV bv).d []:=by
 unfold vW
 have hb1:(Vm 3 n 0 bV).length<=1000000:=by have:=fV 3 n 0 bV;omega
 generalize hP:aQ w ps n bV bv=P at *
 obtain⟨p,ok⟩:=P
 simp only at hp UG hq1 hq2 hq3 ha ⊢
 generalize Vm 3 n 0 bV=q1 at *
 cases ok with
 | false=>exact OL (lJ (dg_N (pc:=[]) hb1 hp) Mj)
 | true =>
  have hrof (h:List iN):=Hz hw (st:=st) (bV:=bV) (bv:=bv) h
  obtain⟨l1,l2⟩:=mA hw (st:=st) (bV:=bV) (bv:=bv)
  generalize hR:g9 w st bV bv=R at *
  obtain⟨r,q2,e1⟩:=R
  simp only at hrof l1 l2 ha ⊢
  cases h1:e1 != 0 with
  | true=>exact kP (lJ (dg_A hb1 hp hrof (Md (qg h1))) H2)
  | false =>
   have:=qh h1;subst this
   have YF (h:List iN):=DI hw (r:=r) (by omega) (bV:=bV) (bv:=bv) h
   obtain⟨l3,l4⟩:=gL (w:=w) (r:=r) (bV:=bV) (bv:=bv)
   generalize hC:eI w r bV bv=C at *
   obtain⟨l,q3,e2⟩:=C
   simp only at YF l3 l4 ha ⊢
   cases h2:e2 != 0 with
   | true=>exact kP (lJ (dg_A hb1 hp hrof (H1 (dg_B (by omega) YF (GK (qg h2))))) H2)
   | false =>
    have:=qh h2;subst this
    have hsl:ah l:=by unfold ah;omega
    have haud:=(IX (ha (by trivial) (by grind))).2
    unfold degL
    simp only
    have tail {e:Exit} {H:List iN} (ht:CW MK Or (hA w) false (bc (ar Tryz.f15) 29) (sgD w (q1++q2++q3++(p.reqs.map (sx w bV bv)).flatten) (Hj (kO w bV bv p) l).us (cH (Hj (kO w bV bv p) l).cut) (Hj (kO w bV bv p) l).ms (kO w bV bv p) r l (Hj (kO w bV bv p) l).e) e {t:=VT,h:=H,m:=[]}) :
      CW MK Or (hA w) false (cR (cR (ar Tryz.f15))) (sgA w st n bV bv) e {t:=VT,h:=H,m:=[]}:=by
     refine dg_A hb1 hp hrof (H1 (dg_B (by omega) YF (Me ?_)))
     have hl3:(q1++q2).length+q3.length<=3000000000000:=by rw[List.length_append];omega
     by_cases hr0:p.reqs=[]
     ·have e1:p=pZ p:=by cases p;simp only at hr0;subst hr0;rfl
      have e2:kO w bV bv p=pZ p:=by unfold kO;rw[hr0];rfl
      have e3:(p.reqs.map (sx w bV bv)).flatten=[]:=by rw[hr0];rfl
      rw[e2,e3,List.append_nil] at ht
      rw[e2] at haud
      have:=dg_C0 (w:=w) (bV:=bV) (bv:=bv) (p:=p) (r:=r) (rs:=q1++q2) (q3:=q3) (l:=l) hl3 Bw haud ht
      grind
     ·have Vs:=Gz (l:=p.reqs) hq1 hr0
      have e1:reqV p.reqs=ad (p.reqs.map M5):=by simp[ad]
      rw[e1] at Vs
      have hl:=LV hw (bV:=bV) hn (l:=l) (rs:=q1++q2++q3) (p:=p) (r:=r) (show ah p.reqs by unfold ah;omega) hq2 (by grind)
      have e2:((ad (p.reqs.map M5)).length:Int)=(p.reqs.length:Int):=by simp
      refine dg_C (Q:=p.reqs.map (sB w bV bv)) (q4:=(p.reqs.map (sx w bV bv)).flatten) hl3 Vs ?_ haud ht
      grind
    generalize Hj (kO w bV bv p) l=a at *
    generalize q1++q2++q3++(p.reqs.map (sx w bV bv)).flatten=rs at *
    cases h3:a.e != 0 with
    | true=>exact kP (lJ (tail (GL (qg h3))) yN)
    | false =>
     have ea:=qh h3
     rw[ea] at tail
     have Zi (h:List iN):=uR hsl h
     generalize pi l=E at *
     obtain⟨en,e4⟩:=E
     simp only at Zi ⊢
     cases h4:e4 != 0 with
     | true=>exact kP (lJ (tail (sy (dg_D Zi (GM (qg h4))))) yN)
     | false =>
      have:=qh h4;subst this
      have Θ (h:List iN):=uQ hsl h
      have hI:=oC l
      generalize gj l=M at *
      obtain⟨mn,md,e5⟩:=M
      simp only at Θ hI ⊢
      cases h5:e5 != 0 with
      | true=>exact kP (lJ (tail (sy (dg_D Zi (wL (dg_E Θ (GN (qg h5))))))) yN)
      | false =>
       have:=qh h5;subst this
       have hcmp (h:List iN):=qc hI.1 hI.2 UG.nm UG.dn h
       generalize oS mn md p.num p.den=K at *
       obtain⟨c,e6⟩:=K
       simp only at hcmp ⊢
       cases h6:e6 != 0 with
       | true=>exact kP (lJ (tail (sy (dg_D Zi (wL (dg_E Θ (DE (dg_F hcmp (GO (qg h6))))))))) yN)
       | false =>
        have:=qh h6;subst this
        have:=lJ (tail (sy (dg_D Zi (wL (dg_E Θ (DE (dg_F hcmp (Mf dg_G)))))))) Mi
        unfold DegX.d π.d
        exact this
end Go.Vi
open Go Go.Proofs
namespace Go.Vi
set_option maxHeartbeats 4000000
set_option maxRecDepth 100000
theorem pErr_or(p:oN):ye p=0\/ye p=190:=by
 unfold ye
 grind
theorem aErr_or(l:List tO):eW l=0\/eW l=150:=by
 grind [eW]
theorem net_err{p:oN}{l:List tO}:(HI p l).2.2=0/\ye p=0/\eW l=0\/((HI p l).2.2=150\/(HI p l).2.2=190\/(HI p l).2.2=180):=by
 show(yj p l (fh l).2.2).2.2=0/\_\/((yj p l (fh l).2.2).2.2=150\/(yj p l (fh l).2.2).2.2=190\/(yj p l (fh l).2.2).2.2=180)
 unfold yj fh
 rcases pErr_or p with h|h<;>rcases aErr_or l with h2|h2<;>rw[h,h2]<;>simp
theorem xK{p:oN}{l:List tO}{e:Int}(h:∀h,Ev MK At 49 [.agg p.l,ab (l.map tO.row)] h (.Tt [.agg [nq,aT 0,nq],aT e]) h):zi p l ⟨[],0,[],e⟩:=⟨by simp[ah],λh'=>OL (h h')⟩
theorem zbV(s:List Bool×Nat)(x:Int):(MH s x).1.length=s.1.length:=by
 unfold MH
 simp
theorem Ez(by':List Int):(DQ by').length=by'.length:=by
 have key:∀(l:List Int) (s:List Bool×Nat),(l.foldl MH s).1.length=s.1.length:=by
  intro l
  induction l with
  | nil=>intro s;rfl
  | cons x l ih=>intro s;rw[NI,ih,zbV]
 unfold DQ
 rw[key]
 simp
theorem EA{p:oN}(hp:p.ok){l:List tO}(hr:p.reqs.length<=64)(hl:l.length<=50000):∃a,zi p l a:=by
 rcases net_err (p:=p) (l:=l) with ⟨_,e1,e2⟩|he
 ·have hN:Ub p l:=⟨e1,e2,hr,hl⟩
  by_cases hf:XY p l
  ·have h3:=hf.n
   have hn:nN p l=2+l.length+p.reqs.length:=rfl
   obtain⟨j,g,hR,hF,k,f,ρ,hB,hT,hg,_⟩:=Lr (es:=mu p l) (n:=nN p l) (Do:=0) (to:=(nN p l:Int)-1) hf.e (λx hx=>(jW hN x hx).UV) (λx hx=>⟨(jW hN x hx).m0,(jW hN x hx).m1⟩) ⟨by omega,by simp;omega⟩ ⟨by omega,by omega⟩ (by omega)
   refine⟨⟨_,_,DQ g.2,0⟩,?_,Gw hp hN hf hR hF.ok.len⟩
   show(DQ g.2).length<=140737488355328
   rw[Ez,<-hg,hT.len]
   omega
  ·exact⟨_,xK (Dn hp hN hf)⟩
 ·exact⟨_,xK (C8 he (λh=>CJ hp (by omega) (by omega) h))⟩
theorem zj{w:iS}{bv st bV:Int}(hf:w.f.length<=41):(Kh w bv st bV).length<=41984:=by
 have h1:=eC (jL w bv st bV) 1024 (aj w.f bv) (λn _=>OX (List.length_filterMap_le ..) eB)
 have h2:=ce (fs:=w.f) (bv:=bv)
 have h4:(aj w.f bv).length*1024<=41*1024:=OH _ (by omega)
 have h3:(lE w bv st bV).length<=41984:=by unfold lE;omega
 grind [Rk,Kh]
theorem Z4(w:iS)(ps:List oN)(n bV bv:Int):(aQ w ps n bV bv).1=S9\/(aQ w ps n bV bv).1∈ps/\wA (aQ w ps n bV bv).1=true:=by
 unfold aQ
 cases Ye bV with
 | true=>exact .inl rfl
 | false =>
  simp only
  unfold gE
  cases h:ic ps (lU n) (atR 3 n 0 bV bv w.f) with
  | true=>exact .inl rfl
  | false =>
   have h2:=uD h
   refine .inr ⟨h2.1,?_⟩
   have:=h2.2.1
   unfold lU at this
   grind
theorem Bx{w:iS}{ps:List oN}(hs:∀x∈ps,x.ok)(hm:∀x∈ps,(x.reqs.map λq=>q.Do.length).sum<=1048576)(n bV bv:Int):
  (aQ w ps n bV bv).1.ok/\(aQ w ps n bV bv).1.reqs.length<=64/\((aQ w ps n bV bv).1.reqs.map λq=>q.Do.length).sum<=1048576:=by
 rcases Z4 w ps n bV bv with h|⟨h,h2⟩
 ·rw[h];exact⟨oN.WO,by simp[S9],by simp[S9]⟩
 ·refine⟨hs _ h,?_,hm _ h⟩
  unfold wA at h2
  grind
theorem IY{l:List Nat}{x:Nat}(h:x∈l):x<=l.sum:=by
 induction l with
 | nil=>cases h
 | cons a l ih =>
  grind
theorem zk(l:List Int):(Lib.compact l).length<=l.length:=by
 grind [N7,Lib.compact,Lib.compactUpTo]
theorem IZ{w:iS}{bV bv:Int}{q:T2}(hn:(aj w.f bv).length<=1000)(h2:q.Do.length<=1048576):(sB w bV bv q).ok:=by
 refine⟨?_⟩
 show(frmR w bV bv q).length<=140737488355328
 have h:=(oL (bV:=bV) hn q.Do ([],[])).2
 unfold frmR
 split
 ·simp
 ·refine OX (zk _) ?_
  grind [Rk]
theorem EB{w:iS}{bV bv:Int}{p:oN}(h:p.ok)(hq:∀q∈p.reqs,(sB w bV bv q).ok):(kO w bV bv p).ok :=
 ⟨by have:=h.sr;grind [kO,ah],by
  intro q hm
  obtain⟨x,hx,rfl⟩:=NK.1 hm
  exact hq x hx,h.nm,h.dn⟩
theorem deg_ev{w:iS}(hw:w.ok)(hf:w.f.length<=41){ps:List oN}(hwp:w.p=ps.map P7)(hs:∀x∈ps,x.ok)(hm:∀x∈ps,(x.reqs.map λq=>q.Do.length).sum<=1048576){st n bV bv:Int}(h:List iN):
  Ev MK Or 15 [.agg w.l,aT st,aT n,aT bV,aT bv] h (vW w ps st n bV bv).d h:=by
 obtain⟨h1,h2,h3⟩:=Bx (w:=w) hs hm n bV bv
 have hq:∀q∈(aQ w ps n bV bv).1.reqs,q.Do.length<=1048576:=λq hq=>OX (IY (NK.2 ⟨q,hq,rfl⟩)) h3
 refine SA rfl (deg_a hw (by have:=ce (fs:=w.f) (bv:=bv);omega) (λh=>?_) h1 (by omega) hq h3 ?_) h
 ·rw[<-wn]
  exact wC hw hwp hs h
 ·intro _ _
  refine EA (EB h1 λq hx=>IZ (by have:=ce (fs:=w.f) (bv:=bv);omega) (hq q hx)) (by grind [kO]) ?_
  have hc:=(gL (w:=w) (r:=(g9 w st bV bv).1) (bV:=bV) (bv:=bv)).1
  have hr:(g9 w st bV bv).1.a.length<=41984:=by
   unfold g9
   split
   ·simp
   ·exact zj hf
  omega
set_option maxHeartbeats 4000000
def ptEq(a b:UL):Bool:=a.bV==b.bV&&(a.value==b.value&&true)
def epF(p:UL×UL)(_:Unit):Unit⊕Unit:=if (!ptEq p.1 p.2)=true then .inr () else .inl ()
def epR(xs ys:List UL):Unit⊕Unit:=Tq epF (xs.zip ys) ()
def eqPts(xs ys:List UL):Bool:=if (((xs.map UL.row).length:Int) != ((ys.map UL.row).length:Int))=true then false else match epR xs ys with | .inl _=>true | .inr _=>false
def ptsAt(l:List If)(r:BY)(bv:Int):List UL:=cy r.kind r.sub r.obj r.Do r.UE bv l
attribute [local irreducible] ptsAt eqPts
end Go.Vi
open Go Go.Proofs
namespace Go.Vi
set_option maxRecDepth 100000
set_option maxHeartbeats 4000000
def zl(kind st obj bV:Int):Bool:=kind != 2&&kind != 3&&kind != 4||Zd (st<0)||Zd (st>=20000)||Zd (bV<0)||Zd (bV>=1024)||(kind==3&&!WY obj)
structure OfX where
 Wg:Int
 q:List BY
 e:Int
def ofX(kind st obj bV:Int)(q1:List BY)(x:VwX)(fe cl ho:Int×Int):OfX:=match zl kind st obj bV with
 | true=>⟨0,[],1⟩
 | false=>match kind==3 with
  | true=>⟨fe.1,q1,fe.2⟩
  | false=>match x.e != 0 with
   | true=>⟨0,q1++x.q,x.e⟩
   | false=>match kind==2 with
    | true=>⟨cl.1,q1++x.q,cl.2⟩
    | false=>⟨ho.1,q1++x.q,ho.2⟩
noncomputable abbrev xL(w:iS)(bV:Int)(bv:Int)(s:TK)(q1:List BY)(q2:List BY)(n:Int)(d:Int):List iN:=[.var [ab (ML MX w.c),ab w.p,ab (ML M4 w.s),ab (ML MY w.f)],.var [.ref (.bY 2 2),ab (ML MX w.c),ab w.p,ab (ML M4 w.s),ab (ML MY w.f),aT bV,aT bv],.bY (ad (M2 (q1++q2))) 2 5,.var [ab (ML NZ s.Ty),ab (ML N8 s.UJ),ab (ML NZ s.TA),ab (ML QH s.clauses)],.var [aT n,aT d]]
noncomputable abbrev rR(w:iS)(bV:Int)(bv:Int)(s:TK)(q1:List BY)(q2:List BY):List iN:=[.var [ab (ML MX w.c),ab w.p,ab (ML M4 w.s),ab (ML MY w.f)],.var [.ref (.bY 2 2),ab (ML MX w.c),ab w.p,ab (ML M4 w.s),ab (ML MY w.f),aT bV,aT bv],.bY (ad (M2 (q1++q2))) 2 5,.var [ab (ML NZ s.Ty),ab (ML N8 s.UJ),ab (ML NZ s.TA),ab (ML QH s.clauses)]]
noncomputable abbrev mi(w:iS)(bV:Int)(bv:Int)(s:TK)(q1:List BY):List iN:=[.var [ab (ML MX w.c),ab w.p,ab (ML M4 w.s),ab (ML MY w.f)],.var [.ref (.bY 2 1),ab (ML MX w.c),ab w.p,ab (ML M4 w.s),ab (ML MY w.f),aT bV,aT bv],.bY (ad (M2 q1)) 1 5,.var [ab (ML NZ s.Ty),ab (ML N8 s.UJ),ab (ML NZ s.TA),ab (ML QH s.clauses)]]
noncomputable abbrev mj(w:iS)(bV:Int)(bv:Int)(q1:List BY):List iN:=[.var [ab (ML MX w.c),ab w.p,ab (ML M4 w.s),ab (ML MY w.f)],.var [.ref (.bY 2 1),ab (ML MX w.c),ab w.p,ab (ML M4 w.s),ab (ML MY w.f),aT bV,aT bv],.bY (ad (M2 q1)) 1 5]
noncomputable abbrev ml(w:iS)(bV:Int)(bv:Int):List iN:=[.var [ab (ML MX w.c),ab w.p,ab (ML M4 w.s),ab (ML MY w.f)],.var [.ref (.bY 2 0),ab (ML MX w.c),ab w.p,ab (ML M4 w.s),ab (ML MY w.f),aT bV,aT bv],.bY [] 0 5]
noncomputable abbrev jG(w:iS):List iN:=[.var [ab (ML MX w.c),ab w.p,ab (ML M4 w.s),ab (ML MY w.f)]]
theorem sof_a{w:iS}{kind st obj bV bv:Int}{s:TK}{q1 q2:List BY}{en n d e f1 f2 c1 c2 h1 h2:Int}
 (hs:Ev MK Or 54 [.ref (.ptr 0 0)] (vwH w bV bv [] 0) (ag s.row) (vwH w bV bv q1 1))
 (hc:Ev MK Or 56 [.ref (.ptr 0 0),aT st] (vwH w bV bv q1 0) (.Tt [aT en,.agg [aT n,aT d],aT e]) (vwH w bV bv (q1++q2) 1))
 (hf:∀h,Ev MK Or 55 [ag s.row,aT obj] h (.Tt [aT f1,aT f2]) h)
 (hk:∀h,Ev MK Or 57 [ag s.row,aT en,.agg [aT n,aT d]] h (.Tt [aT c1,aT c2]) h)
 (hh:∀h,Ev MK Or 58 [ag s.row,aT en,.agg [aT n,aT d]] h (.Tt [aT h1,aT h2]) h) (h:List iN):(Ev MK Or 17 [.agg w.l,aT kind,aT st,aT obj,aT bV,aT bv] h (.Tt [aT (ofX kind st obj bV q1 ⟨en,n,d,e,q2⟩ (f1,f2) (c1,c2) (h1,h2)).Wg,ab (M2 (ofX kind st obj bV q1 ⟨en,n,d,e,q2⟩ (f1,f2) (c1,c2) (h1,h2)).q),aT (ofX kind st obj bV q1 ⟨en,n,d,e,q2⟩ (f1,f2) (c1,c2) (h1,h2)).e]) h):=by
 cases Of:kind != 2&&kind != 3&&kind != 4||Zd (st<0)||Zd (st>=20000)||Zd (bV<0)||Zd (bV>=1024)||kind==3&&!WY obj
 ·cases TH:kind==3
  ·cases UU:e != 0
   ·cases Λ:kind==2
    ·refine Na (OL (y0 (d:=Nt [aT h1,ab (M2 (q1++q2)),aT h2]) [.w (!(kind != 2&&kind != 3&&kind != 4||Zd (st<0)||Zd (st>=20000)||Zd (bV<0)||Zd (bV>=1024))&&kind==3) (M9 (Γ':=Or) (@cZ obj (jG w))),.b Of,.n 1,.o (.WS 1 0 5),.c ((fX [1,2] (@hs) ⟨(by grind),trivial⟩ ⟨?_,trivial⟩):Ev MK Or 54 [.ref (.ptr 1 0)] (ml w bV bv) (ag (M4 s)) (mj w bV bv q1)),.b TH,.c ((fX [1,2] (Ev.upX [0,1] (@hc) (by kernel_rfl) ⟨?_,trivial⟩ ⟨?_,trivial⟩) ⟨?_,trivial⟩ ⟨?_,trivial⟩):Ev MK Or 56 [.ref (.ptr 1 0),aT st] (mi w bV bv s q1) (Nt [aT en,Nk [aT n,aT d],aT e]) (rR w bV bv s q1 q2)),.b UU,.b Λ,.v (@hh (xL w bV bv s q1 q2 n d)),((by grind):ad (M2 (q1++q2))=ML (λx=>ML D.p x) (M2 (q1++q2))),.o (.Vw 2 (M2 (q1++q2)))] h)) (by(have z0:zl kind st obj bV=false:=Of;simp only[ofX,z0,TH,UU,Λ];first|done|rfl)) (by rfl)<;>(exact ak _ _)
    ·refine Na (OL (y0 (d:=Nt [aT c1,ab (M2 (q1++q2)),aT c2]) [.w (!(kind != 2&&kind != 3&&kind != 4||Zd (st<0)||Zd (st>=20000)||Zd (bV<0)||Zd (bV>=1024))&&kind==3) (M9 (Γ':=Or) (@cZ obj (jG w))),.b Of,.n 1,.o (.WS 1 0 5),.c ((fX [1,2] (@hs) ⟨(by grind),trivial⟩ ⟨?_,trivial⟩):Ev MK Or 54 [.ref (.ptr 1 0)] (ml w bV bv) (ag (M4 s)) (mj w bV bv q1)),.b TH,.c ((fX [1,2] (Ev.upX [0,1] (@hc) (by kernel_rfl) ⟨?_,trivial⟩ ⟨?_,trivial⟩) ⟨?_,trivial⟩ ⟨?_,trivial⟩):Ev MK Or 56 [.ref (.ptr 1 0),aT st] (mi w bV bv s q1) (Nt [aT en,Nk [aT n,aT d],aT e]) (rR w bV bv s q1 q2)),.b UU,.b Λ,.v (@hk (xL w bV bv s q1 q2 n d)),((by grind):ad (M2 (q1++q2))=ML (λx=>ML D.p x) (M2 (q1++q2))),.o (.Vw 2 (M2 (q1++q2)))] h)) (by(have z0:zl kind st obj bV=false:=Of;simp only[ofX,z0,TH,UU,Λ];first|done|rfl)) (by rfl)<;>(exact ak _ _)
   ·refine Na (OL (y0 (d:=Nt [aT 0,ab (M2 (q1++q2)),aT e]) [.w (!(kind != 2&&kind != 3&&kind != 4||Zd (st<0)||Zd (st>=20000)||Zd (bV<0)||Zd (bV>=1024))&&kind==3) (M9 (Γ':=Or) (@cZ obj (jG w))),.b Of,.n 1,.o (.WS 1 0 5),.c ((fX [1,2] (@hs) ⟨(by grind),trivial⟩ ⟨?_,trivial⟩):Ev MK Or 54 [.ref (.ptr 1 0)] (ml w bV bv) (ag (M4 s)) (mj w bV bv q1)),.b TH,.c ((fX [1,2] (Ev.upX [0,1] (@hc) (by kernel_rfl) ⟨?_,trivial⟩ ⟨?_,trivial⟩) ⟨?_,trivial⟩ ⟨?_,trivial⟩):Ev MK Or 56 [.ref (.ptr 1 0),aT st] (mi w bV bv s q1) (Nt [aT en,Nk [aT n,aT d],aT e]) (rR w bV bv s q1 q2)),.b UU,((by grind):ad (M2 (q1++q2))=ML (λx=>ML D.p x) (M2 (q1++q2))),.o (.Vw 2 (M2 (q1++q2)))] h)) (by(have z0:zl kind st obj bV=false:=Of;simp only[ofX,z0,TH,UU];first|done|rfl)) (by rfl)<;>(exact ak _ _)
  ·exact Na (OL (y0 (d:=Nt [aT f1,ab (M2 q1),aT f2]) [.w (!(kind != 2&&kind != 3&&kind != 4||Zd (st<0)||Zd (st>=20000)||Zd (bV<0)||Zd (bV>=1024))&&kind==3) (M9 (Γ':=Or) (@cZ obj (jG w))),.b Of,.n 1,.o (.WS 1 0 5),.c ((fX [1,2] (@hs) ⟨(by grind),trivial⟩ ⟨(by exact ak _ _),trivial⟩):Ev MK Or 54 [.ref (.ptr 1 0)] (ml w bV bv) (ag (M4 s)) (mj w bV bv q1)),.b TH,.v (@hf (mi w bV bv s q1)),((by grind):ad (M2 q1)=ML (λx=>ML D.p x) (M2 q1)),.o (.Vw 2 (M2 q1))] h)) (by(have z0:zl kind st obj bV=false:=Of;simp[ofX,z0,TH];first|done|rfl)) (by rfl)
 ·exact Na (OL (y0 (d:=Nt [aT 0,nq,aT 1]) [.w (!(kind != 2&&kind != 3&&kind != 4||Zd (st<0)||Zd (st>=20000)||Zd (bV<0)||Zd (bV>=1024))&&kind==3) (M9 (Γ':=Or) (@cZ obj (jG w))),.b Of] h)) (by(have z0:zl kind st obj bV=true:=Of;simp only[ofX,z0];first|done|rfl)) (by rfl)
theorem sys_ok{w:iS}(hw:w.ok){bV bv:Int}:(dv w bV bv).1.ok:=by
 have hz:Qd.ok:=⟨by simp[Qd,Qv],by simp[Qd,Qv],by simp[Qd,Qv],by simp[Qd,Qv,ah],by simp[Qd,Qv,ah],by simp[Qd,Qv,ah],by simp[Qd,Qv,ah]⟩
 unfold dv
 split
 ·exact hz
 ·unfold gE
  split
  ·exact hz
  ·rename_i h
   exact hw.s _ (uD h).1
theorem I2{q1 q2:List BY}{e1 e2 ea ON n d e:Int}(hn:U5 n)(hd:U5 d):U5 (Yv q1 q2 e1 e2 ea ON n d e).n/\U5 (Yv q1 q2 e1 e2 ea ON n d e).d:=by
 unfold Yv
 split
 ·exact⟨gH,gH⟩
 ·split
  ·exact⟨gH,gH⟩
  ·split
   ·exact⟨gH,gH⟩
   grind
abbrev I3(w:iS)(bV bv:Int):TK:=(dv w bV bv).1
def xM(w:iS)(kind st obj bV bv:Int):OfX :=
 ofX kind st obj bV (Vm 4 0 0 bV) (u7 w st bV bv) (feeR (I3 w bV bv).sys obj)
  (Ψ (I3 w bV bv).sys (I3 w bV bv).sys.Ty (u7 w st bV bv).ON (u7 w st bV bv).n (u7 w st bV bv).d)
  (Ψ (I3 w bV bv).sys (I3 w bV bv).sys.TA (u7 w st bV bv).ON (u7 w st bV bv).n (u7 w st bV bv).d)
theorem sof_ev{w:iS}(hw:w.ok){kind st obj bV bv:Int}(h:List iN):Ev MK Or 17 [.agg w.l,aT kind,aT st,aT obj,aT bV,aT bv] h (.Tt [aT (xM w kind st obj bV bv).Wg,ab (M2 (xM w kind st obj bV bv).q),aT (xM w kind st obj bV bv).e]) h:=by
 have hi:U5 (u7 w st bV bv).n/\U5 (u7 w st bV bv).d:=I2 (oC _).1 (oC _).2
 have hl:=fV 4 0 0 bV
 have hs:(I3 w bV bv).sys.ok:=sys_ok hw
 exact sof_a (s:=I3 w bV bv) (q1:=Vm 4 0 0 bV) (q2:=(u7 w st bV bv).q)
  (GX hw (rs:=[]) (by simp)) (GZ hw (by omega)) (λh=>M9 (fee_ev hs obj h)) (λh=>M9 (Eo hs hi.1 hi.2 h)) (λh=>M9 (Bn hs hi.1 hi.2 h)) h
def MF(s:VS)(n:Nat):Int:=bif s.2.getD n false then maxV (s.1.getD n default).value else -1
def vX(kk ks ko bv:Int)(l:List If):List Int:=(NC 1024).map (MF (l.foldl (kU kk ks ko bv) vZ))
theorem zm(s:VS)(rs:List Int)(h:rs.length=1024)(n i:Nat):(Vg s rs n).getD i 0=if i=n/\n<1024 then MF s n else rs.getD i 0:=by
 unfold MF Vg
 grind
theorem zn(s:VS)(rs:List Int)(n:Nat):(Vg s rs n).length=rs.length:=by
 unfold Vg;grind
theorem zo(kk ks ko bv:Int)(l:List If):cM kk ks ko bv l=vX kk ks ko bv l:=by
 unfold cM vX uE
 generalize l.foldl (kU kk ks ko bv) vZ=s
 have hz:(MU 1024 (0:Int)).length=1024:=List.length_replicate ..
 have hz2:∀i,(MU 1024 (0:Int)).getD i 0=0:=λi=>by
  grind
 revert hz hz2
 generalize MU 1024 (0:Int)=z
 intro hz hz2
 have key:∀m,m<=1024->((NC m).foldl (Vg s) z).length=1024/\∀i,((NC m).foldl (Vg s) z).getD i 0=if i<m then MF s i else 0:=by
  intro m
  induction m with
  | zero=>grind
  | succ m ih =>
   intro hm
   obtain⟨h1,h2⟩:=ih (by omega)
   rw[List.range_succ,List.foldl_append]
   simp only[NI,List.foldl_nil]
   refine⟨by rw[zn];exact h1,λi=>?_⟩
   rw[zm s _ h1,h2]
   grind
 obtain⟨h1,h2⟩:=key 1024 (Nat.le_refl _)
 refine List.ext_getElem (by rw[h1];simp) λi hi1 hi2=>?_
 have:=h2 i
 rw[MT,Nh hi1] at this
 rw[h1] at hi1
 simp_all
theorem ua{w:iS}{bV bv:Int}(hn:(aj w.f bv).length<=1000):∀qs:List T2,(qs.map (sx w bV bv)).flatten.length<=(qs.map λq=>q.Do.length).sum*1001001
 | []=>by simp
 | q::qs=>by
  have h1:=yL (w:=w) (bV:=bV) hn q
  have h2:=ua (bV:=bV) hn qs
  grind
theorem ez{rs:List BY}{e:Int}(h:rs.length<=1):(rQ rs e).rd.length<=100000000000000:=by
 show rs.length<=_
 omega
theorem EC{w:iS}{bV bv:Int}(hn:(aj w.f bv).length<=1000){p:oN}(hs:(p.reqs.map λq=>q.Do.length).sum<=1048576){rs:List BY}{l:List tO}(hr:rs.length<=1000000000):(degL w bV bv p rs l).rd.length<=100000000000000:=by
 have h:=ua (w:=w) (bV:=bV) hn p.reqs
 have h2:(p.reqs.map λq=>q.Do.length).sum*1001001<=1048576*1001001:=OH _ hs
 unfold degL
 dsimp only
 split
 ·exact ez (by simp)
 ·split
  ·exact ez (by simp)
  ·split
   ·exact ez (by simp)
   ·split
    ·exact ez (by simp)
    grind
theorem zp{w:iS}(hw:w.ok){ps:List oN}{st n bV bv:Int}(hn:(aj w.f bv).length<=1000)(hs:((aQ w ps n bV bv).1.reqs.map λq=>q.Do.length).sum<=1048576):ah (vW w ps st n bV bv).rd:=by
 have h1:=fV 3 n 0 bV
 have h2:=mA hw (st:=st) (bV:=bV) (bv:=bv)
 have h3:=gL (w:=w) (r:=(g9 w st bV bv).1) (bV:=bV) (bv:=bv)
 have key:(vW w ps st n bV bv).rd.length<=100000000000000:=by
  unfold vW
  split
  ·exact ez h1
  ·split
   ·exact ez (by simp)
   ·split
    ·exact ez (by simp)
    ·exact EC hn hs (by grind)
 unfold ah
 omega
structure Wx where
 kind:Int
 st:Int
 obj:Int
 bV:Int
def Wx.row(q:Wx):List Dp:=[vi q.kind,vi q.st,vi q.obj,vi q.bV]
structure V5 where
 q:Wx
 Wg:Int
 last:Int
 bv:Int
 now:List Int
 reads:List BY
 named:List Int
def V5.ok(d:V5):Prop:=ah d.now/\ah d.reads/\ah d.named
def V5.l(d:V5):List D:=[aT d.q.kind,aT d.q.st,aT d.q.obj,aT d.q.bV,aT d.Wg,aT d.last,aT d.bv,ab (ay d.now),ab (M2 d.reads),ab (ay d.named)]
def V5.zero:V5:=⟨⟨0,0,0,0⟩,0,0,0,[],[],[]⟩
theorem V5.WO:V5.zero.ok:=⟨by simp[V5.zero,ah],by simp[V5.zero,ah],by simp[V5.zero,ah]⟩
abbrev srS(l:List (List Dp))(i:Int):AS:={t:=DO 26 0 [(0,ab l),(1,ab l),(4,iF false),(5,aT i)],h:=[],m:=[]}
theorem rdself(r:BY):(!(r.kind==r.kind&&(r.sub==r.sub&&(r.obj==r.obj&&true))&&(r.Do==r.Do&&(r.UE==r.UE&&true))))=false:=by simp
theorem ED{l:List (List Dp)}{r:BY}{i:Nat}(hr:ap (i:Int) l r.row 5)(hz:(!(r.kind==r.kind&&(r.sub==r.sub&&(r.obj==r.obj&&true))&&(r.Do==r.Do&&(r.UE==r.UE&&true))))=false)(IN:Zd ((i:Int)<(l.length:Int))=true)(hw:MM.wrap ((i:Int)+1)=((i+1:Nat):Int)):(CW MK At [] false (sub Tryz.f16 0) (srS l i) .normal (srS l ((i+1:Nat):Int))):=by
 refine yX {t:=DO 26 0 [(0,ab l),(1,ab l),(4,iF false),(5,aT (MN MM ((↑i:Int)+1)))],h:=[],m:=[]} Exit.normal [.st (.mask [0,1,4,5])] [.b IN,.r hr,.r hr,.b hz] ?_ ?_<;>(grind)
theorem EE{l:List (List Dp)}{i:Nat}(IN:Zd ((i:Int)<(l.length:Int))=false):(CW MK At [] false (sub Tryz.f16 0) (srS l i) (.exit 0) {t:=DO 26 0 [],h:=[],m:=[]}):=by
 exact yx [.st (.mask [])] [.b IN]
theorem srr_cw{l:List BY}(hl:ah l):CW MK At [] false (.loop (sub Tryz.f16 0)) (srS (M2 l) 0) (.exit 0) {t:=DO 26 0 [],h:=[],m:=[]}:=by
 refine CW.Z8 l.length (λi=>srS (M2 l) (i:Int)) (by simp) (λi hi=>?_) ?_
 ·exact ED (rowAt (Nh hi) rfl) (rdself _) (TG BY.row hi) (T4 hi hl)
 ·exact EE (be BY.row l)
theorem vY{l:List BY}(hl:ah l)(hn:(((M2 l).length:Int) != ((M2 l).length:Int))=false)(h:List iN):(Ev MK At 16 [ab (M2 l),ab (M2 l)] h (iF true) h):=by
 have Tv:=(@srr_cw (l) (hl))
 exact y0 [.b hn,.s [0,1,4,5] Tv] h
theorem inself(a:Int):(a != a)=false:=by simp
theorem EF{l:List (List Dp)}{a:Int}{i:Nat}(hr:ap (i:Int) l [vi a] 1)(hz:(a != a)=false)(IN:Zd ((i:Int)<(l.length:Int))=true)(hw:MM.wrap ((i:Int)+1)=((i+1:Nat):Int)):(CW MK At [] false (sub Tryz.f19 0) (srS l i) .normal (srS l ((i+1:Nat):Int))):=by
 refine yX {t:=DO 26 0 [(0,ab l),(1,ab l),(4,iF false),(5,aT (MN MM ((↑i:Int)+1)))],h:=[],m:=[]} Exit.normal [.st (.mask [0,1,4,5])] [.b IN,.r hr,.r hr,.b hz] ?_ ?_<;>(grind)
theorem EG{l:List (List Dp)}{i:Nat}(IN:Zd ((i:Int)<(l.length:Int))=false):(CW MK At [] false (sub Tryz.f19 0) (srS l i) (.exit 0) {t:=DO 26 0 [],h:=[],m:=[]}):=by
 exact yx [.st (.mask [])] [.b IN]
theorem sii_cw{l:List Int}(hl:ah l):CW MK At [] false (.loop (sub Tryz.f19 0)) (srS (ay l) 0) (.exit 0) {t:=DO 26 0 [],h:=[],m:=[]}:=by
 refine CW.Z8 l.length (λi=>srS (ay l) (i:Int)) (by simp) (λi hi=>?_) ?_
 ·exact EF (rowAt (row:=λn:Int=>[vi n]) (Nh hi) rfl) (inself _) (TG (λn:Int=>[vi n]) hi) (T4 hi hl)
 ·exact EG (be (λn:Int=>[vi n]) l)
theorem qi{l:List Int}(hl:ah l)(hn:(((ay l).length:Int) != ((ay l).length:Int))=false)(h:List iN):(Ev MK At 19 [ab (ay l),ab (ay l)] h (iF true) h):=by
 have Tv:=(@sii_cw (l) (hl))
 exact y0 [.b hn,.s [0,1,4,5] Tv] h
noncomputable abbrev kQ(a:V5):List iN:=[.var [aT a.q.kind,aT a.q.st,aT a.q.obj,aT a.q.bV,aT a.Wg,aT a.last,aT a.bv,ab (ay a.now),ab (M2 a.reads),ab (ay a.named)],.var [aT a.q.kind,aT a.q.st,aT a.q.obj,aT a.q.bV,aT a.Wg,aT a.last,aT a.bv,ab (ay a.now),ab (M2 a.reads),ab (ay a.named)]]
theorem I4{a:V5}(h1:∀h,Ev MK At 19 [ab (ay a.now),ab (ay a.now)] h (iF true) h)(h2:∀h,Ev MK At 16 [ab (M2 a.reads),ab (M2 a.reads)] h (iF true) h)(h3:∀h,Ev MK At 19 [ab (ay a.named),ab (ay a.named)] h (iF true) h)(h:List iN):(Ev MK At 12 [.agg a.l,.agg a.l] h (iF true) h):=by
 exact yD (iF (a.q.kind==a.q.kind&&(a.q.st==a.q.st&&(a.q.obj==a.q.obj&&(a.q.bV==a.q.bV&&true)))&&a.Wg==a.Wg&&a.last==a.last&&a.bv==a.bv&&true&&true&&true)) [.w (a.q.kind==a.q.kind&&(a.q.st==a.q.st&&(a.q.obj==a.q.obj&&(a.q.bV==a.q.bV&&true)))&&a.Wg==a.Wg&&a.last==a.last&&a.bv==a.bv) (@h1 (kQ a)),.w (a.q.kind==a.q.kind&&(a.q.st==a.q.st&&(a.q.obj==a.q.obj&&(a.q.bV==a.q.bV&&true)))&&a.Wg==a.Wg&&a.last==a.last&&a.bv==a.bv&&true) (@h2 (kQ a)),.w (a.q.kind==a.q.kind&&(a.q.st==a.q.st&&(a.q.obj==a.q.obj&&(a.q.bV==a.q.bV&&true)))&&a.Wg==a.Wg&&a.last==a.last&&a.bv==a.bv&&true&&true) (@h3 (kQ a))] h (by simp)
theorem EH{a:V5}(ha:a.ok)(h:List iN):Ev MK At 12 [.agg a.l,.agg a.l] h (iF true) h :=
 I4 (λh=>qi ha.1 (by simp) h) (λh=>vY ha.2.1 (by simp) h) (λh=>qi ha.2.2 (by simp) h) h
def fg(q:Wx)(bv Wg:Int)(rd:List BY)(e:Int):V5×Int:=match e != 0 with
 | true=>(V5.zero,e)
 | false=>(⟨q,Wg,Wg,bv,[],rd,[]⟩,0)
theorem iH{q:Wx}{bv Wg e:Int}{rd:List BY}(h:List iN):(Ev MK At 129 [ag q.row,aT bv,aT Wg,ab (M2 rd),aT e] h (.Tt [.agg (fg q bv Wg rd e).1.l,aT (fg q bv Wg rd e).2]) h):=by
 cases Of:e != 0
 ·exact Na (OL (y0 (d:=Nt [Nk [aT q.kind,aT q.st,aT q.obj,aT q.bV,aT Wg,aT Wg,aT bv,nq,ab (M2 rd),nq],aT 0]) [.b Of] h)) (by simp[fg,Of];rfl) (by rfl)
 ·exact Na (OL (y0 (d:=Nt [Nk [aT 0,aT 0,aT 0,aT 0,aT 0,aT 0,aT 0,nq,nq,nq],aT e]) [.b Of] h)) (by simp[fg,Of];rfl) (by rfl)
noncomputable abbrev qj(w:iS)(q:Wx):List iN:=[.var [ab (ML MX w.c),ab w.p,ab (ML M4 w.s),ab (ML MY w.f)],.var [aT q.kind,aT q.st,aT q.obj,aT q.bV],.var [aT 0,aT 0,aT 0,aT 0,aT 0,aT 0,aT 0,nq,nq,nq]]
theorem I5{w:iS}{q:Wx}{bv a e:Int}{rd:List BY}{nw:List Int}(hs:∀h,Ev MK Or 17 [.agg w.l,aT q.kind,aT q.st,aT q.obj,aT q.bV,aT bv] h (.Tt [aT a,ab (M2 rd),aT e]) h)(h:List iN):(Ev MK Or 65 [.agg w.l,ag q.row,aT bv,ab (ay nw)] h (.Tt [.agg (fg q bv a rd e).1.l,aT (fg q bv a rd e).2]) h):=by
 exact y0 [.v (@hs (qj w q)),.v (M9 (Γ':=Or) (@iH q bv a e rd (qj w q)))] h
noncomputable abbrev ub(w:iS)(q:Wx)(ms:Int)(us:List (List Dp))(ct:List Bool):List iN:=[.var [ab (ML MX w.c),ab w.p,ab (ML M4 w.s),ab (ML MY w.f)],.var [aT q.kind,aT q.st,aT q.obj,aT q.bV],.var [aT 0,aT 0,aT 0,aT 0,aT 0,aT 0,aT 0,nq,nq,nq],.var [ab us,aT ms,ab (ML (λb=>[Dp.v (Value.bool b)]) ct)]]
noncomputable abbrev uc(w:iS)(q:Wx):List iN:=[.var [ab (ML MX w.c),ab w.p,ab (ML M4 w.s),ab (ML MY w.f)],.var [aT q.kind,aT q.st,aT q.obj,aT q.bV],.var [aT 0,aT 0,aT 0,aT 0,aT 0,aT 0,aT 0,nq,nq,nq]]
theorem grad_a{w:iS}{q:Wx}{bv ms e:Int}{us:List (List Dp)}{ct:List Bool}{mt:Bool}{rd:List BY}{nw:List Int}(hs:∀h,Ev MK Or 15 [.agg w.l,aT q.st,aT q.obj,aT q.bV,aT bv] h (.Tt [.agg [ab us,aT ms,ab (ct.map λb=>[.v (.bool b)])],iF mt,ab (M2 rd),aT e]) h)(h:List iN):(Ev MK Or 66 [.agg w.l,ag q.row,aT bv,ab (ay nw)] h (.Tt [.agg (fg q bv (bif mt then 1 else 0) rd e).1.l,aT (fg q bv (bif mt then 1 else 0) rd e).2]) h):=by
 cases Of:mt
 ·exact yD (Nt [Nk [aT (fg q bv 0 rd e).fst.q.kind,aT (fg q bv 0 rd e).fst.q.st,aT (fg q bv 0 rd e).fst.q.obj,aT (fg q bv 0 rd e).fst.q.bV,aT (fg q bv 0 rd e).fst.Wg,aT (fg q bv 0 rd e).fst.last,aT (fg q bv 0 rd e).fst.bv,ab (ay (fg q bv 0 rd e).fst.now),ab (M2 (fg q bv 0 rd e).fst.reads),ab (ay (fg q bv 0 rd e).fst.named)],aT (fg q bv 0 rd e).2]) [.v (@hs (uc w q)),.b Of,.v (M9 (Γ':=Or) (@iH q bv 0 e rd (ub w q ms us ct)))] h (by rfl)
 ·exact yD (Nt [Nk [aT (fg q bv 1 rd e).fst.q.kind,aT (fg q bv 1 rd e).fst.q.st,aT (fg q bv 1 rd e).fst.q.obj,aT (fg q bv 1 rd e).fst.q.bV,aT (fg q bv 1 rd e).fst.Wg,aT (fg q bv 1 rd e).fst.last,aT (fg q bv 1 rd e).fst.bv,ab (ay (fg q bv 1 rd e).fst.now),ab (M2 (fg q bv 1 rd e).fst.reads),ab (ay (fg q bv 1 rd e).fst.named)],aT (fg q bv 1 rd e).2]) [.v (@hs (uc w q)),.b Of,.v (M9 (Γ':=Or) (@iH q bv 1 e rd (ub w q ms us ct)))] h (by rfl)
def ib(m:Int)(q:Wx):Bool:=Zd (q.st<0)||Zd (q.st>=20000)||Zd (q.bV<0)||Zd (q.bV>=1024)||Zd (q.obj<0)||Zd (q.obj>m)
def I6(k:Int):Option Int:=if k=1 then some 4095 else if k=2 then some 0 else if k=3 then some 10000 else if k=4 then some 0 else if k=5 then some 255 else none
def im(q:Wx):Int:=match I6 q.kind with
 | none=>340
 | some m=>bif ib m q then 340 else 0
abbrev qkM:List iN:=[.map [(aT 1,.agg [aT 4095,fq 64],0),(aT 2,.agg [aT 0,fq 65],1),(aT 3,.agg [aT 10000,fq 65],2),(aT 4,.agg [aT 0,fq 65],3),(aT 5,.agg [aT 255,fq 66],4)] 5]
theorem zaU:(Ev MK At 23 [] [] (.ref (.mp 0)) qkM):=by
 exact Na (yF (h':=[.map [(aT 1,Nk [aT 4095,fq 64],0),(aT 2,Nk [aT 0,fq 65],1),(aT 3,Nk [aT 10000,fq 65],2),(aT 4,Nk [aT 0,fq 65],3),(aT 5,Nk [aT 255,fq 66],4)] 5]) (d:=.ref (.mp 0)) []) (by rfl) (by rfl)
theorem bq(h:List iN):Ev MK At 23 [] h (.ref (.mp h.length)) (h++qkM):=zaU.ε (by kernel_rfl) rfl h
theorem qk1_a{st obj bV:Int}(h:List iN):(Ev MK At 13 [.agg [aT 1,aT st,aT obj,aT bV]] h (aT (bif ib 4095 ⟨1,st,obj,bV⟩ then 340 else 0)) h):=by
 cases Of:!true||Zd (st<0)||Zd (st>=20000)||Zd (bV<0)||Zd (bV>=1024)||Zd (obj<0)||Zd (obj>4095)
 ·exact yD (aT 0) [.n 1,.a1 .late,.c (@bq ([.var [aT 1,aT st,aT obj,aT bV]])),pe (.ref (.ptr 0 0)),pe (.ref (.ptr 0 0)),pe (.ref (.ptr 0 0)),po (some (aT 1)),po (some (aT 1)),po (some (aT 1)),po (some (Nt [Nk [aT 4095,fq 64],iF true])),po (some (Nt [Nk [aT 4095,fq 64],iF true])),.b Of] h (by(have hh:ib 4095 ⟨1,st,obj,bV⟩=false:=Of;rw[hh];rfl))
 ·exact yD (aT 340) [.n 1,.a1 .late,.c (@bq ([.var [aT 1,aT st,aT obj,aT bV]])),pe (.ref (.ptr 0 0)),pe (.ref (.ptr 0 0)),pe (.ref (.ptr 0 0)),po (some (aT 1)),po (some (aT 1)),po (some (aT 1)),po (some (Nt [Nk [aT 4095,fq 64],iF true])),po (some (Nt [Nk [aT 4095,fq 64],iF true])),.b Of] h (by(have hh:ib 4095 ⟨1,st,obj,bV⟩=true:=Of;rw[hh];rfl))
theorem qk2_a{st obj bV:Int}(h:List iN):(Ev MK At 13 [.agg [aT 2,aT st,aT obj,aT bV]] h (aT (bif ib 0 ⟨2,st,obj,bV⟩ then 340 else 0)) h):=by
 cases Of:!true||Zd (st<0)||Zd (st>=20000)||Zd (bV<0)||Zd (bV>=1024)||Zd (obj<0)||Zd (obj>0)
 ·exact yD (aT 0) [.n 1,.a1 .late,.c (@bq ([.var [aT 2,aT st,aT obj,aT bV]])),pe (.ref (.ptr 0 0)),pe (.ref (.ptr 0 0)),pe (.ref (.ptr 0 0)),po (some (aT 2)),po (some (aT 2)),po (some (aT 2)),po (some (Nt [Nk [aT 0,fq 65],iF true])),po (some (Nt [Nk [aT 0,fq 65],iF true])),.b Of] h (by(have hh:ib 0 ⟨2,st,obj,bV⟩=false:=Of;rw[hh];rfl))
 ·exact yD (aT 340) [.n 1,.a1 .late,.c (@bq ([.var [aT 2,aT st,aT obj,aT bV]])),pe (.ref (.ptr 0 0)),pe (.ref (.ptr 0 0)),pe (.ref (.ptr 0 0)),po (some (aT 2)),po (some (aT 2)),po (some (aT 2)),po (some (Nt [Nk [aT 0,fq 65],iF true])),po (some (Nt [Nk [aT 0,fq 65],iF true])),.b Of] h (by(have hh:ib 0 ⟨2,st,obj,bV⟩=true:=Of;rw[hh];rfl))
theorem qk3_a{st obj bV:Int}(h:List iN):(Ev MK At 13 [.agg [aT 3,aT st,aT obj,aT bV]] h (aT (bif ib 10000 ⟨3,st,obj,bV⟩ then 340 else 0)) h):=by
 cases Of:!true||Zd (st<0)||Zd (st>=20000)||Zd (bV<0)||Zd (bV>=1024)||Zd (obj<0)||Zd (obj>10000)
 ·exact yD (aT 0) [.n 1,.a1 .late,.c (@bq ([.var [aT 3,aT st,aT obj,aT bV]])),pe (.ref (.ptr 0 0)),pe (.ref (.ptr 0 0)),pe (.ref (.ptr 0 0)),po (some (aT 3)),po (some (aT 3)),po (some (aT 3)),po (some (Nt [Nk [aT 10000,fq 65],iF true])),po (some (Nt [Nk [aT 10000,fq 65],iF true])),.b Of] h (by(have hh:ib 10000 ⟨3,st,obj,bV⟩=false:=Of;rw[hh];rfl))
 ·exact yD (aT 340) [.n 1,.a1 .late,.c (@bq ([.var [aT 3,aT st,aT obj,aT bV]])),pe (.ref (.ptr 0 0)),pe (.ref (.ptr 0 0)),pe (.ref (.ptr 0 0)),po (some (aT 3)),po (some (aT 3)),po (some (aT 3)),po (some (Nt [Nk [aT 10000,fq 65],iF true])),po (some (Nt [Nk [aT 10000,fq 65],iF true])),.b Of] h (by(have hh:ib 10000 ⟨3,st,obj,bV⟩=true:=Of;rw[hh];rfl))
theorem qk4_a{st obj bV:Int}(h:List iN):(Ev MK At 13 [.agg [aT 4,aT st,aT obj,aT bV]] h (aT (bif ib 0 ⟨4,st,obj,bV⟩ then 340 else 0)) h):=by
 cases Of:!true||Zd (st<0)||Zd (st>=20000)||Zd (bV<0)||Zd (bV>=1024)||Zd (obj<0)||Zd (obj>0)
 ·exact yD (aT 0) [.n 1,.a1 .late,.c (@bq ([.var [aT 4,aT st,aT obj,aT bV]])),pe (.ref (.ptr 0 0)),pe (.ref (.ptr 0 0)),pe (.ref (.ptr 0 0)),po (some (aT 4)),po (some (aT 4)),po (some (aT 4)),po (some (Nt [Nk [aT 0,fq 65],iF true])),po (some (Nt [Nk [aT 0,fq 65],iF true])),.b Of] h (by(have hh:ib 0 ⟨4,st,obj,bV⟩=false:=Of;rw[hh];rfl))
 ·exact yD (aT 340) [.n 1,.a1 .late,.c (@bq ([.var [aT 4,aT st,aT obj,aT bV]])),pe (.ref (.ptr 0 0)),pe (.ref (.ptr 0 0)),pe (.ref (.ptr 0 0)),po (some (aT 4)),po (some (aT 4)),po (some (aT 4)),po (some (Nt [Nk [aT 0,fq 65],iF true])),po (some (Nt [Nk [aT 0,fq 65],iF true])),.b Of] h (by(have hh:ib 0 ⟨4,st,obj,bV⟩=true:=Of;rw[hh];rfl))
theorem qk5_a{st obj bV:Int}(h:List iN):(Ev MK At 13 [.agg [aT 5,aT st,aT obj,aT bV]] h (aT (bif ib 255 ⟨5,st,obj,bV⟩ then 340 else 0)) h):=by
 cases Of:!true||Zd (st<0)||Zd (st>=20000)||Zd (bV<0)||Zd (bV>=1024)||Zd (obj<0)||Zd (obj>255)
 ·exact yD (aT 0) [.n 1,.a1 .late,.c (@bq ([.var [aT 5,aT st,aT obj,aT bV]])),pe (.ref (.ptr 0 0)),pe (.ref (.ptr 0 0)),pe (.ref (.ptr 0 0)),po (some (aT 5)),po (some (aT 5)),po (some (aT 5)),po (some (Nt [Nk [aT 255,fq 66],iF true])),po (some (Nt [Nk [aT 255,fq 66],iF true])),.b Of] h (by(have hh:ib 255 ⟨5,st,obj,bV⟩=false:=Of;rw[hh];rfl))
 ·exact yD (aT 340) [.n 1,.a1 .late,.c (@bq ([.var [aT 5,aT st,aT obj,aT bV]])),pe (.ref (.ptr 0 0)),pe (.ref (.ptr 0 0)),pe (.ref (.ptr 0 0)),po (some (aT 5)),po (some (aT 5)),po (some (aT 5)),po (some (Nt [Nk [aT 255,fq 66],iF true])),po (some (Nt [Nk [aT 255,fq 66],iF true])),.b Of] h (by(have hh:ib 255 ⟨5,st,obj,bV⟩=true:=Of;rw[hh];rfl))
theorem lkQ{h:List iN}{k:Int}(h1:¬k=1)(h2:¬k=2)(h3:¬k=3)(h4:¬k=4)(h5:¬k=5)(hb:h[1]? = some (.map [(aT 1,.agg [aT 4095,fq 64],0),(aT 2,.agg [aT 0,fq 65],1),(aT 3,.agg [aT 10000,fq 65],2),(aT 4,.agg [aT 0,fq 65],3),(aT 5,.agg [aT 255,fq 66],4)] 5)):
  aA MK h 71 (.ref (.mp 1)) (aT k) true=some (.Tt [.agg [aT 0,lit .nilFunc],iF false]):=by
 have e1:MK.underlying 71=some (.map 3 70):=by kernel_rfl
 have e2:di MK 3 (aT k)=true:=by kernel_rfl
 have e3:i4 MK 70=some (.agg #[.int .i64 0,.nilFunc]):=by kernel_rfl
 have e4:dH (aT k) [(aT 1,.agg [aT 4095,fq 64],0),(aT 2,.agg [aT 0,fq 65],1),(aT 3,.agg [aT 10000,fq 65],2),(aT 4,.agg [aT 0,fq 65],3),(aT 5,.agg [aT 255,fq 66],4)] 0=some none:=by
  have n1:eF (aT k) (aT 1)=some false:=by simp[eF,h1]
  have n2:eF (aT k) (aT 2)=some false:=by simp[eF,h2]
  have n3:eF (aT k) (aT 3)=some false:=by simp[eF,h3]
  have n4:eF (aT k) (aT 4)=some false:=by simp[eF,h4]
  have n5:eF (aT k) (aT 5)=some false:=by simp[eF,h5]
  simp only[dH,n1,n2,n3,n4,n5]
 unfold aA
 simp only[e1,mG,hb,e2,if_true,e3,e4]
 rfl
theorem lkQ2{k:Int}(h1:¬k=1)(h2:¬k=2)(h3:¬k=3)(h4:¬k=4)(h5:¬k=5):LkIs MK 71 [(aT 1,.agg [aT 4095,fq 64],0),(aT 2,.agg [aT 0,fq 65],1),(aT 3,.agg [aT 10000,fq 65],2),(aT 4,.agg [aT 0,fq 65],3),(aT 5,.agg [aT 255,fq 66],4)] (aT k) true (.Tt [.agg [aT 0,lit .nilFunc],iF false]):=by
 have:=lkQ (h:=[.T1,.map [(aT 1,.agg [aT 4095,fq 64],0),(aT 2,.agg [aT 0,fq 65],1),(aT 3,.agg [aT 10000,fq 65],2),(aT 4,.agg [aT 0,fq 65],3),(aT 5,.agg [aT 255,fq 66],4)] 5]) h1 h2 h3 h4 h5 rfl
 grind [mG,LkIs,aA]
noncomputable abbrev EI(k:Int)(st:Int)(obj:Int)(bV:Int):List iN:=[.var [aT k,aT st,aT obj,aT bV],.map [(aT 1,Nk [aT 4095,fq 64],0),(aT 2,Nk [aT 0,fq 65],1),(aT 3,Nk [aT 10000,fq 65],2),(aT 4,Nk [aT 0,fq 65],3),(aT 5,Nk [aT 255,fq 66],4)] 5]
theorem qkN_a{k st obj bV:Int}(h1:¬k=1)(h2:¬k=2)(h3:¬k=3)(h4:¬k=4)(h5:¬k=5)(h:List iN):(Ev MK At 13 [.agg [aT k,aT st,aT obj,aT bV]] h (aT 340) h):=by
 let v0:List iN:=[.map [(aT 1,Nk [aT 4095,fq 64],0),(aT 2,Nk [aT 0,fq 65],1),(aT 3,Nk [aT 10000,fq 65],2),(aT 4,Nk [aT 0,fq 65],3),(aT 5,Nk [aT 255,fq 66],4)] 0]
 let v1:=Nt [Nk [aT 0,D.p (Dp.v NF)],iF false]
 refine yD (aT 340) [.n 1,.a1 .late,.c (@bq ([.var [aT k,aT st,aT obj,aT bV]])),(?_:@Eq (Option D) (aA MK (EI k st obj bV) 71 (.ref (.mp 1)) (aT k) true) (some v1)),pe (.ref (.ptr 0 0)),pe (.ref (.ptr 0 0)),pe (.ref (.ptr 0 0)),po (some (aT k)),po (some (aT k)),po (some (aT k)),(?_:@Eq (Option D) (aA MK v0 71 (.ref (.mp 0)) (aT k) true) (some v1)),(?_:@Eq (Option D) (aA MK v0 71 (.ref (.mp 0)) (aT k) true) (some v1)),.a1 (.ov 9 (Nt [Nk [aT 0,lit NF],iF false])),.e] h (by subst v0 v1;grind)<;>subst v0 v1<;>(first|exact lkQ h1 h2 h3 h4 h5 rfl|exact lkQ2 h1 h2 h3 h4 h5)
theorem Xg(k:Int):k=1\/k=2\/k=3\/k=4\/k=5\/(¬k=1/\¬k=2/\¬k=3/\¬k=4/\¬k=5):=by omega
theorem Bz(q:Wx)(h:List iN):Ev MK At 13 [ag q.row] h (aT (im q)) h:=by
 obtain⟨k,st,obj,bV⟩:=q
 rcases Xg k with rfl|rfl|rfl|rfl|rfl|⟨h1,h2,h3,h4,h5⟩
 ·exact qk1_a h
 ·exact qk2_a h
 ·exact qk3_a h
 ·exact qk4_a h
 ·exact qk5_a h
 ·have:im ⟨k,st,obj,bV⟩=340:=by simp[im,I6,h1,h2,h3,h4,h5]
  rw[this];exact qkN_a h1 h2 h3 h4 h5 h
abbrev qA(w:iS)(q:Wx)(bv:Int)(nw:List Int):List D:=[.agg w.l,ag q.row,aT bv,ab (ay nw)]
noncomputable abbrev zq(w:iS)(q:Wx):List iN:=[.var [ab (ML MX w.c),ab w.p,ab (ML M4 w.s),ab (ML MY w.f)],.var [aT q.kind,aT q.st,aT q.obj,aT q.bV],.var [aT 0,aT 0,aT 0,aT 0,aT 0,aT 0,aT 0,nq,nq,nq]]
theorem I7{w:iS}{q:Wx}{bv e:Int}{nw:List Int}(hz:(e != 0)=true)(hk:∀h,Ev MK Or 13 [ag q.row] h (aT e) h)(h:List iN):(Ev MK Or 10 (qA w q bv nw) h (.Tt [.agg V5.zero.l,aT e]) h):=by
 exact Na (OL (y0 (d:=Nt [Nk [aT 0,aT 0,aT 0,aT 0,aT 0,aT 0,aT 0,nq,nq,nq],aT e]) [.v (@hk (zq w q)),.b hz] h)) (by rfl) (by rfl)
noncomputable abbrev EJ(w:iS)(st:Int)(obj:Int)(bV:Int):List iN:=[.var [ab (ML MX w.c),ab w.p,ab (ML M4 w.s),ab (ML MY w.f)],.var [aT 2,aT st,aT obj,aT bV],.var [aT 0,aT 0,aT 0,aT 0,aT 0,aT 0,aT 0,nq,nq,nq],.map [(aT 1,Nk [aT 4095,fq 64],0),(aT 2,Nk [aT 0,fq 65],1),(aT 3,Nk [aT 10000,fq 65],2),(aT 4,Nk [aT 0,fq 65],3),(aT 5,Nk [aT 255,fq 66],4)] 5]
noncomputable abbrev xN(w:iS)(st:Int)(obj:Int)(bV:Int):List iN:=[.var [ab (ML MX w.c),ab w.p,ab (ML M4 w.s),ab (ML MY w.f)],.var [aT 2,aT st,aT obj,aT bV],.var [aT 0,aT 0,aT 0,aT 0,aT 0,aT 0,aT 0,nq,nq,nq]]
theorem ans_2{w:iS}{st obj bV bv:Int}{nw:List Int}{r:V5×Int}(hk:∀h,Ev MK Or 13 [.agg [aT 2,aT st,aT obj,aT bV]] h (aT 0) h)(hs:∀h,Ev MK Or 65 [.agg w.l,.agg [aT 2,aT st,aT obj,aT bV],aT bv,ab (ay nw)] h (.Tt [.agg r.1.l,aT r.2]) h)(h:List iN):(Ev MK Or 10 [.agg w.l,.agg [aT 2,aT st,aT obj,aT bV],aT bv,ab (ay nw)] h (.Tt [.agg r.1.l,aT r.2]) h):=by
 exact y0 [.v (@hk (xN w st obj bV)),.e,.c (M9 (Γ':=Or) (@bq (xN w st obj bV))),.v (@hs (EJ w st obj bV)),pe (.ref (.ptr 1 0)),pe (.ref (.ptr 1 0)),po (some (aT 2)),po (some (aT 2)),po (some (Nk [aT 0,fq 65])),pe (Nk (Nz w)),pe (Nk (Nz w)),pe (Nk [aT 2,aT st,aT obj,aT bV]),pe (Nk [aT 2,aT st,aT obj,aT bV])] h
noncomputable abbrev EK(w:iS)(st:Int)(obj:Int)(bV:Int):List iN:=[.var [ab (ML MX w.c),ab w.p,ab (ML M4 w.s),ab (ML MY w.f)],.var [aT 3,aT st,aT obj,aT bV],.var [aT 0,aT 0,aT 0,aT 0,aT 0,aT 0,aT 0,nq,nq,nq],.map [(aT 1,Nk [aT 4095,fq 64],0),(aT 2,Nk [aT 0,fq 65],1),(aT 3,Nk [aT 10000,fq 65],2),(aT 4,Nk [aT 0,fq 65],3),(aT 5,Nk [aT 255,fq 66],4)] 5]
noncomputable abbrev xO(w:iS)(st:Int)(obj:Int)(bV:Int):List iN:=[.var [ab (ML MX w.c),ab w.p,ab (ML M4 w.s),ab (ML MY w.f)],.var [aT 3,aT st,aT obj,aT bV],.var [aT 0,aT 0,aT 0,aT 0,aT 0,aT 0,aT 0,nq,nq,nq]]
theorem ans_3{w:iS}{st obj bV bv:Int}{nw:List Int}{r:V5×Int}(hk:∀h,Ev MK Or 13 [.agg [aT 3,aT st,aT obj,aT bV]] h (aT 0) h)(hs:∀h,Ev MK Or 65 [.agg w.l,.agg [aT 3,aT st,aT obj,aT bV],aT bv,ab (ay nw)] h (.Tt [.agg r.1.l,aT r.2]) h)(h:List iN):(Ev MK Or 10 [.agg w.l,.agg [aT 3,aT st,aT obj,aT bV],aT bv,ab (ay nw)] h (.Tt [.agg r.1.l,aT r.2]) h):=by
 exact y0 [.v (@hk (xO w st obj bV)),.e,.c (M9 (Γ':=Or) (@bq (xO w st obj bV))),.v (@hs (EK w st obj bV)),pe (.ref (.ptr 1 0)),pe (.ref (.ptr 1 0)),po (some (aT 3)),po (some (aT 3)),po (some (Nk [aT 10000,fq 65])),pe (Nk (Nz w)),pe (Nk (Nz w)),pe (Nk [aT 3,aT st,aT obj,aT bV]),pe (Nk [aT 3,aT st,aT obj,aT bV])] h
noncomputable abbrev EL(w:iS)(st:Int)(obj:Int)(bV:Int):List iN:=[.var [ab (ML MX w.c),ab w.p,ab (ML M4 w.s),ab (ML MY w.f)],.var [aT 4,aT st,aT obj,aT bV],.var [aT 0,aT 0,aT 0,aT 0,aT 0,aT 0,aT 0,nq,nq,nq],.map [(aT 1,Nk [aT 4095,fq 64],0),(aT 2,Nk [aT 0,fq 65],1),(aT 3,Nk [aT 10000,fq 65],2),(aT 4,Nk [aT 0,fq 65],3),(aT 5,Nk [aT 255,fq 66],4)] 5]
noncomputable abbrev xP(w:iS)(st:Int)(obj:Int)(bV:Int):List iN:=[.var [ab (ML MX w.c),ab w.p,ab (ML M4 w.s),ab (ML MY w.f)],.var [aT 4,aT st,aT obj,aT bV],.var [aT 0,aT 0,aT 0,aT 0,aT 0,aT 0,aT 0,nq,nq,nq]]
theorem ans_4{w:iS}{st obj bV bv:Int}{nw:List Int}{r:V5×Int}(hk:∀h,Ev MK Or 13 [.agg [aT 4,aT st,aT obj,aT bV]] h (aT 0) h)(hs:∀h,Ev MK Or 65 [.agg w.l,.agg [aT 4,aT st,aT obj,aT bV],aT bv,ab (ay nw)] h (.Tt [.agg r.1.l,aT r.2]) h)(h:List iN):(Ev MK Or 10 [.agg w.l,.agg [aT 4,aT st,aT obj,aT bV],aT bv,ab (ay nw)] h (.Tt [.agg r.1.l,aT r.2]) h):=by
 exact y0 [.v (@hk (xP w st obj bV)),.e,.c (M9 (Γ':=Or) (@bq (xP w st obj bV))),.v (@hs (EL w st obj bV)),pe (.ref (.ptr 1 0)),pe (.ref (.ptr 1 0)),po (some (aT 4)),po (some (aT 4)),po (some (Nk [aT 0,fq 65])),pe (Nk (Nz w)),pe (Nk (Nz w)),pe (Nk [aT 4,aT st,aT obj,aT bV]),pe (Nk [aT 4,aT st,aT obj,aT bV])] h
noncomputable abbrev EM(w:iS)(st:Int)(obj:Int)(bV:Int):List iN:=[.var [ab (ML MX w.c),ab w.p,ab (ML M4 w.s),ab (ML MY w.f)],.var [aT 5,aT st,aT obj,aT bV],.var [aT 0,aT 0,aT 0,aT 0,aT 0,aT 0,aT 0,nq,nq,nq],.map [(aT 1,Nk [aT 4095,fq 64],0),(aT 2,Nk [aT 0,fq 65],1),(aT 3,Nk [aT 10000,fq 65],2),(aT 4,Nk [aT 0,fq 65],3),(aT 5,Nk [aT 255,fq 66],4)] 5]
noncomputable abbrev xQ(w:iS)(st:Int)(obj:Int)(bV:Int):List iN:=[.var [ab (ML MX w.c),ab w.p,ab (ML M4 w.s),ab (ML MY w.f)],.var [aT 5,aT st,aT obj,aT bV],.var [aT 0,aT 0,aT 0,aT 0,aT 0,aT 0,aT 0,nq,nq,nq]]
theorem ans_5{w:iS}{st obj bV bv:Int}{nw:List Int}{r:V5×Int}(hk:∀h,Ev MK Or 13 [.agg [aT 5,aT st,aT obj,aT bV]] h (aT 0) h)(hs:∀h,Ev MK Or 66 [.agg w.l,.agg [aT 5,aT st,aT obj,aT bV],aT bv,ab (ay nw)] h (.Tt [.agg r.1.l,aT r.2]) h)(h:List iN):(Ev MK Or 10 [.agg w.l,.agg [aT 5,aT st,aT obj,aT bV],aT bv,ab (ay nw)] h (.Tt [.agg r.1.l,aT r.2]) h):=by
 exact y0 [.v (@hk (xQ w st obj bV)),.e,.c (M9 (Γ':=Or) (@bq (xQ w st obj bV))),.v (@hs (EM w st obj bV)),pe (.ref (.ptr 1 0)),pe (.ref (.ptr 1 0)),po (some (aT 5)),po (some (aT 5)),po (some (Nk [aT 255,fq 66])),pe (Nk (Nz w)),pe (Nk (Nz w)),pe (Nk [aT 5,aT st,aT obj,aT bV]),pe (Nk [aT 5,aT st,aT obj,aT bV])] h
noncomputable def Hk(w:iS)(ps:List oN)(q:Wx)(bv:Int):V5×Int:=match im q != 0 with
 | true=>(V5.zero,im q)
 | false=>match q.kind==5 with
  | true=>fg q bv (bif (vW w ps q.st q.obj q.bV bv).met then 1 else 0) (vW w ps q.st q.obj q.bV bv).rd (vW w ps q.st q.obj q.bV bv).e
  | false=>fg q bv (xM w q.kind q.st q.obj q.bV bv).Wg (xM w q.kind q.st q.obj q.bV bv).q (xM w q.kind q.st q.obj q.bV bv).e
theorem Hl{w:iS}(hw:w.ok)(hf:w.f.length<=41){ps:List oN}(hp:w.p=ps.map P7)(hs:∀x∈ps,x.ok)(hm:∀x∈ps,(x.reqs.map λq=>q.Do.length).sum<=1048576){q:Wx}(hq:q.kind≠1){bv:Int}{nw:List Int}(h:List iN):
  Ev MK Or 10 (qA w q bv nw) h (.Tt [.agg (Hk w ps q bv).1.l,aT (Hk w ps q bv).2]) h:=by
 have hk:∀h,Ev MK Or 13 [ag q.row] h (aT (im q)) h:=λh=>M9 (Bz q h)
 unfold Hk
 cases hz:(im q != 0) with
 | true=>exact I7 hz hk h
 | false =>
  have hz':im q=0:=by simpa using hz
  rw[hz'] at hk
  have Us:∀{nw:List Int} h,Ev MK Or 65 (qA w q bv nw) h (.Tt [.agg (fg q bv (xM w q.kind q.st q.obj q.bV bv).Wg (xM w q.kind q.st q.obj q.bV bv).q (xM w q.kind q.st q.obj q.bV bv).e).1.l,aT (fg q bv (xM w q.kind q.st q.obj q.bV bv).Wg (xM w q.kind q.st q.obj q.bV bv).q (xM w q.kind q.st q.obj q.bV bv).e).2]) h:=λh=>I5 (λh=>sof_ev hw h) h
  have hgr:∀{nw:List Int} h,Ev MK Or 66 (qA w q bv nw) h (.Tt [.agg (fg q bv (bif (vW w ps q.st q.obj q.bV bv).met then 1 else 0) (vW w ps q.st q.obj q.bV bv).rd (vW w ps q.st q.obj q.bV bv).e).1.l,aT (fg q bv (bif (vW w ps q.st q.obj q.bV bv).met then 1 else 0) (vW w ps q.st q.obj q.bV bv).rd (vW w ps q.st q.obj q.bV bv).e).2]) h:=λh=>grad_a (λh=>deg_ev hw hf hp hs hm h) h
  obtain⟨k,st,obj,bV⟩:=q
  rcases Xg k with rfl|rfl|rfl|rfl|rfl|⟨h1,h2,h3,h4,h5⟩
  ·grind
  ·exact ans_2 hk Us h
  ·exact ans_3 hk Us h
  ·exact ans_4 hk Us h
  ·exact ans_5 hk hgr h
  ·exfalso
   have:im ⟨k,st,obj,bV⟩=340:=by simp[im,I6,h1,h2,h3,h4,h5]
   omega
noncomputable abbrev v6(w:iS):List iN:=[.var [ab (ML MX w.c),ab w.p,ab (ML M4 w.s),ab (ML MY w.f)]]
theorem EN{w:iS}{nw:List Int}{b:Bool}(kf:∀h,Ev MK At 22 [.agg w.l] h (iF b) h)(h:List iN):(Ev MK At 9 [.agg w.l,ab (ay nw)] h (iF (b&&Zd (((ay nw).length:Int)<=20))) h):=by
 exact y0 [.v (@kf (v6 w))] h
noncomputable abbrev ue(w:iS)(q:Wx):List iN:=[.var [ab (ML MX w.c),ab w.p,ab (ML M4 w.s),ab (ML MY w.f)],.var [aT q.kind,aT q.st,aT q.obj,aT q.bV]]
theorem qn_out{w:iS}{q:Wx}{bv:Int}{nw ot:List Int}{b:Bool}(hz:(!b||Zd (((ay ot).length:Int)>20)||q.kind==1)=true)(k0:∀h,Ev MK Or 8 [] h (iF true) h)(kf:∀h,Ev MK At 9 [.agg w.l,ab (ay nw)] h (iF b) h)(h:List iN):(Ev MK Or 6 [.agg w.l,ag q.row,aT bv,ab (ay nw),ab (ay ot)] h (iF true) h):=by
 exact y0 [.v (@k0 (ue w q)),.e,.v (M9 (Γ':=Or) (@kf (ue w q))),.b hz] h
noncomputable abbrev EO(w:iS)(q:Wx)(a:V5):List iN:=[.var [ab (ML MX w.c),ab w.p,ab (ML M4 w.s),ab (ML MY w.f)],.var [aT q.kind,aT q.st,aT q.obj,aT q.bV],.var [aT a.q.kind,aT a.q.st,aT a.q.obj,aT a.q.bV,aT a.Wg,aT a.last,aT a.bv,ab (ay a.now),ab (M2 a.reads),ab (ay a.named)],.var [aT a.q.kind,aT a.q.st,aT a.q.obj,aT a.q.bV,aT a.Wg,aT a.last,aT a.bv,ab (ay a.now),ab (M2 a.reads),ab (ay a.named)]]
noncomputable abbrev EP(w:iS)(q:Wx)(a:V5):List iN:=[.var [ab (ML MX w.c),ab w.p,ab (ML M4 w.s),ab (ML MY w.f)],.var [aT q.kind,aT q.st,aT q.obj,aT q.bV],.var [aT a.q.kind,aT a.q.st,aT a.q.obj,aT a.q.bV,aT a.Wg,aT a.last,aT a.bv,ab (ay a.now),ab (M2 a.reads),ab (ay a.named)]]
noncomputable abbrev rS(w:iS)(q:Wx):List iN:=[.var [ab (ML MX w.c),ab w.p,ab (ML M4 w.s),ab (ML MY w.f)],.var [aT q.kind,aT q.st,aT q.obj,aT q.bV]]
theorem qn_in{w:iS}{q:Wx}{bv e:Int}{nw ot:List Int}{b:Bool}{a:V5}(hz:(!b||Zd (((ay ot).length:Int)>20)||q.kind==1)=false)(k0:∀h,Ev MK Or 8 [] h (iF true) h)(kf:∀h,Ev MK At 9 [.agg w.l,ab (ay nw)] h (iF b) h)
 (ka:∀h,Ev MK Or 10 [.agg w.l,ag q.row,aT bv,ab (ay nw)] h (.Tt [.agg a.l,aT e]) h) (kb:∀h,Ev MK Or 10 [.agg w.l,ag q.row,aT bv,ab (ay ot)] h (.Tt [.agg a.l,aT e]) h) (ks:∀h,Ev MK Or 12 [.agg a.l,.agg a.l] h (iF true) h) (hl:(MM.wrap (((ay a.named).length:Int)+((ay a.now).length:Int))==0)=true) (h:List iN):(Ev MK Or 6 [.agg w.l,ag q.row,aT bv,ab (ay nw),ab (ay ot)] h (iF true) h):=by
 exact yD (iF (e==e&&true&&MN MM ((↑(List.length (ay a.named)):Int)+(↑(List.length (ay a.now)):Int))==0)) [.v (@k0 (rS w q)),.e,.v (M9 (Γ':=Or) (@kf (rS w q))),.b hz,.v (@ka (rS w q)),.v (@kb (EP w q a)),.w (e==e) (@ks (EO w q a))] h (by grind)
theorem I8{q1 q2:List BY}{e1 e2 ea ON n d e:Int}:(Yv q1 q2 e1 e2 ea ON n d e).q.length<=q1.length+q2.length:=by
 unfold Yv
 split
 ·simp
 grind
theorem I9{kind st obj bV:Int}{q1:List BY}{x:VwX}{fe cl ho:Int×Int}:(ofX kind st obj bV q1 x fe cl ho).q.length<=q1.length+x.q.length:=by
 unfold ofX
 split
 ·simp
 ·split
  ·simp
  grind
theorem zr{w:iS}(hw:w.ok){kind st obj bV bv:Int}:ah (xM w kind st obj bV bv).q:=by
 have h1:=fV 4 0 0 bV
 have h2:=mA hw (st:=st) (bV:=bV) (bv:=bv)
 have h3:=gL (w:=w) (r:=(g9 w st bV bv).1) (bV:=bV) (bv:=bv)
 have h4:(u7 w st bV bv).q.length<=(g9 w st bV bv).2.1.length+(eI w (g9 w st bV bv).1 bV bv).2.1.length:=I8
 have h5:(xM w kind st obj bV bv).q.length<=(Vm 4 0 0 bV).length+(u7 w st bV bv).q.length:=I9
 unfold ah
 omega
structure iS.ok0 (w:iS):Prop where
 c:∀x∈w.c,x.ok
 s:∀x∈w.s,x.ok
 lc:ah w.c
 ls:ah w.s
 i:∀f∈w.f,f.ok
structure iS.okP (w:iS) (ps:List oN):Prop where
 p:w.p=ps.map P7
 k:∀x∈ps,x.ok
 l:ah ps
 m:∀x∈ps,(x.reqs.map λq=>q.Do.length).sum<=1048576
theorem EQ{w:iS}(hw:w.ok0){ps:List oN}(hp:w.okP ps)(nw:List Int):∃b:Bool,(b=true->w.ok/\w.f.length<=40/\nw.length<=20)/\∀h,Ev MK At 9 [.agg w.l,ab (ay nw)] h (iF b) h:=by
 obtain⟨b,hb,kf⟩:=FU hw.c hw.lc hp.p hp.l
 refine⟨_,λhh=>?_,λh=>EN kf h⟩
 cases b with
 | false=>simp at hh
 | true =>
  have:=hb rfl
  simp at hh
  exact⟨⟨hw.c,hw.s,by omega,hw.lc,hw.ls,hw.i⟩,this,by omega⟩
theorem BA{q:Wx}{bv Wg e:Int}{rd:List BY}(h:ah rd):(fg q bv Wg rd e).1.ok:=by
 unfold fg
 split
 ·exact V5.WO
 ·exact⟨by simp[ah],h,by simp[ah]⟩
theorem BB{q:Wx}{bv Wg e:Int}{rd:List BY}:(fg q bv Wg rd e).1.now=[]/\(fg q bv Wg rd e).1.named=[]:=by
 unfold fg
 split<;>exact⟨rfl,rfl⟩
theorem Ja{w:iS}(hw:w.ok)(hf:w.f.length<=41){ps:List oN}(hp:w.okP ps)(q:Wx)(bv:Int):(Hk w ps q bv).1.ok:=by
 unfold Hk
 split
 ·exact V5.WO
 ·split
  ·have hn:(aj w.f bv).length<=1000:=by have:=ce (fs:=w.f) (bv:=bv);omega
   exact BA (zp hw hn (Bx (w:=w) hp.k hp.m q.obj q.bV bv).2.2)
  ·exact BA (zr hw)
theorem BC{w:iS}{ps:List oN}(q:Wx)(bv:Int):(Hk w ps q bv).1.now=[]/\(Hk w ps q bv).1.named=[]:=by
 unfold Hk
 split
 ·exact⟨rfl,rfl⟩
 ·split<;>exact BB
theorem nZ{w:iS}(hw:w.ok0){ps:List oN}(hp:w.okP ps)(k0:∀h,Ev MK Or 8 [] h (iF true) h)(q:Wx){bv:Int}{nw ot:List Int}(h:List iN):Ev MK Or 6 [.agg w.l,ag q.row,aT bv,ab (ay nw),ab (ay ot)] h (iF true) h:=by
 obtain⟨b,hb,kf⟩:=EQ hw hp nw
 cases hz:(!b||Zd (((ay ot).length:Int)>20)||q.kind==1) with
 | true=>exact qn_out hz k0 kf h
 | false =>
  have hz2:=hz
  simp only[Bool.or_eq_false_iff] at hz2
  obtain⟨hk,hf,_⟩:=hb (by grind)
  have hf:w.f.length<=41:=by omega
  have hq:q.kind≠1:=by simpa using hz2.2
  have hn:=BC (w:=w) (ps:=ps) q bv
  exact qn_in hz k0 kf (λh=>Hl hk hf hp.p hp.k hp.m hq h) (λh=>Hl hk hf hp.p hp.k hp.m hq h) (λh=>M9 (EH (Ja hk hf hp q bv) h)) (by rw[hn.1,hn.2];rfl) h
theorem Ev.argW{P:Program}{Γ:ao}{f:FuncId}{args:List D}{h h':List iN}{d:D}(he:Ev P Γ f (D.Yq args) h d h'):Ev P Γ f args h d h':=λO w l vs R ra=>he O w l vs R (jz _ _ ra)
theorem Jb(t:Nat):MF vZ t = -1:=by
 have:vZ.2.getD t false=false:=by
  unfold vZ
  simp only[MT,List.getElem?_replicate]
  split<;>rfl
 unfold MF
 rw[this];rfl
theorem v7{kk ks ko Do to bv:Int}:cy kk ks ko Do to bv []=[]:=by
 have h1:∀n:Nat,n<1024->(cM kk ks ko bv []).getD n 0 = -1:=λn hn=>by
  rw[zo]
  simp only[vX,List.foldl_nil,MT]
  rw[O3,List.getElem?_range hn]
  simp[Jb]
 have h2:∀(l:List Nat),(∀n∈l,n<1024)->l.foldl (λl n=>ZK ((cM kk ks ko bv []).getD n 0) n l) []=[]:=by
  intro l
  induction l with
  | nil=>intro _;rfl
  | cons a l ih =>
   intro h
   rw[NI,h1 a (h a (OU ..))]
   have:ZK (-1) a []=[]:=by simp[ZK]
   grind
 refine h2 _ λn hn=>?_
 have h3:=List.mem_range'_1.1 hn
 have h4:Ad to<=1024:=by unfold Ad;split<;>omega
 have h5:0<=ptLo Do:=by unfold ptLo;simp;split<;>omega
 omega
def wp:Zp:=λf args h=>match Nat.beq f 60 with
 | true=>match args with
  | [.p (.v (.slice none 0 0)),.agg [.p (.v (.int .i64 _)),.p (.v (.int .i64 _)),.p (.v (.int .i64 _))],.p (.v (.int .i64 _)),.p (.v (.int .i64 _)),.p (.v (.int .i64 _))]=>some (.ret (ab []) h)
  | _=>none
 | false=>none
theorem wp_ok{Γ:ao}:DL MK Γ wp:=by
 intro f args h r hw
 unfold wp at hw
 split at hw
 ·rename_i hf
  have hf:=Nat.eq_of_beq_eq_true hf
  subst hf
  refine⟨by kernel_rfl,?_⟩
  split at hw
  ·rename_i kk ks ko Do to bv
   cases hw
   refine VN.Α (Ev.argW ?_)
   have:=uG (l:=[]) (kk:=kk) (ks:=ks) (ko:=ko) (Do:=Do) (to:=to) (bv:=bv) (by simp[ah]) h
   rw[v7] at this
   exact M9 this
  ·simp at hw
 ·simp at hw
set_option maxRecDepth 1000000
def s34mR:Vy:=⟨8,[],[],.ret (lit (.bool true)) []⟩
theorem ER:s34mR.Ok MK At:=Vy.okW_of Ug wp_ok (ms:=[]) (by kernel_rfl) trivial
theorem BD(h:List iN):Ev MK At 8 [] h (iF true) h:=SA rfl (Vy.call ER rfl) h
theorem lS{w:iS}(hw:w.ok0){ps:List oN}(hp:w.okP ps){q:Wx}{bv:Int}{nw ot:List Int}(h:List iN):Ev MK Or 6 [.agg w.l,ag q.row,aT bv,ab (ay nw),ab (ay ot)] h (iF true) h :=
 nZ hw hp (λh=>M9 (BD h)) q h
open Go.ChangeShapes Go.WideShapes Go.ChangeAt Go.RowKit Go.Proofs.YtgalafpinkflfaaGreatDoor
set_option maxRecDepth 100000
theorem ge:MK.cellsOf 3=1:=by kernel_rfl
theorem qk:MK.cellsOf 9=1:=by kernel_rfl
theorem v8:MK.cellsOf 87=2:=by kernel_rfl
theorem ES:MK.cellsOf 132=1:=by kernel_rfl
theorem ET:MK.cellsOf 133=1:=by kernel_rfl
theorem EU:MK.cellsOf 134=1:=by kernel_rfl
theorem EV:MK.cellsOf 136=4:=by kernel_rfl
theorem EW:MK.cellsOf 217=2:=by kernel_rfl
theorem EX:MK.cellsOf 289=4:=by kernel_rfl
theorem EY:MK.bytesOf 289=40:=by kernel_rfl
theorem EZ:MK.bytesOf 217=24:=by kernel_rfl
theorem E6:MK.bytesOf 305=32:=by kernel_rfl
theorem cells4:MK.cellsOf 4=1:=by kernel_rfl
theorem Jc:MK.cellsOf 99=1:=by kernel_rfl
theorem E7:MK.cellsOf 101=7:=by kernel_rfl
theorem Jd:MK.cellsOf 32=1:=by kernel_rfl
theorem E8:MK.cellsOf 113=1:=by kernel_rfl
theorem E9:MK.cellsOf 115=6:=by kernel_rfl
theorem bytes3:MK.bytesOf 3=8:=by kernel_rfl
theorem Fa:MK.bytesOf 115=88:=by kernel_rfl
theorem Je:MK.cellsOf 22=1:=by kernel_rfl
theorem Jf:MK.cellsOf 23=1:=by kernel_rfl
theorem Jg:MK.cellsOf 24=1:=by kernel_rfl
theorem BE:MK.cellsOf 26=3:=by kernel_rfl
theorem Jh:MK.cellsOf 27=1:=by kernel_rfl
theorem Ji:MK.cellsOf 29=4:=by kernel_rfl
theorem BF:MK.cellsOf 55=3:=by kernel_rfl
theorem BG:MK.cellsOf 57=2:=by kernel_rfl
theorem Jj:MK.cellsOf 59=8:=by kernel_rfl
theorem BH:MK.cellsOf 305=4:=by kernel_rfl
theorem Jk:MK.cellsOf 78=1:=by kernel_rfl
theorem BI:MK.cellsOf 80=6:=by kernel_rfl
theorem Jl:MK.cellsOf 82=16:=by kernel_rfl
theorem Fb:MK.bytesOf 136=96:=by kernel_rfl
theorem Jm:MK.bytesOf 80=72:=by kernel_rfl
theorem Jn:MK.bytesOf 82=184:=by kernel_rfl
theorem Fc:MK.bytesOf 101=80:=by kernel_rfl
theorem aM{n:Nat}{ds:List Dp}(h:UK MK n 3 ds):∃x,ds=[vi x]/\U5 x:=by
 cases n with
 | zero=>exact h.elim
 | succ n =>
  simp only[UK,Tryz.underlying3] at h
  obtain⟨x,rfl,hw⟩:=h
  refine⟨x,rfl,?_⟩
  have:=bounds_i64 hw
  exact this
theorem kR{n:Nat}{ds:List Dp}(h:UK MK n 9 ds):∃s,ds=[vs s]:=by
 cases n with
 | zero=>exact h.elim
 | succ n =>
  simp only[UK,Tryz.underlying9] at h
  obtain⟨s,rfl,_⟩:=h
  exact⟨s,rfl⟩
theorem uf{n:Nat}{ds:List Dp}(h:UK MK n 87 ds):∃a b,ds=[vi a,vi b]/\U5 a/\U5 b:=by
 cases n with
 | zero=>exact h.elim
 | succ n =>
  simp only[UK,Tryz.underlying87,NG,ge,v8] at h
  obtain⟨hl,h1,h2,_⟩:=h
  obtain⟨a,e1,ha⟩:=aM h1
  obtain⟨b,e2,hb⟩:=aM h2
  match ds,hl with
  | [x,y],_ =>
   simp at e1 e2
   subst e1;subst e2
   exact⟨a,b,rfl,ha,hb⟩
theorem BJ{n:Nat}{ds:List Dp}(h:UK MK n 289 ds):∃c:UA,ds=c.row/\c.ok:=by
 cases n with
 | zero=>exact h.elim
 | succ n =>
  simp only[UK,Tryz.underlying289,NG,ge,qk,v8,EX] at h
  obtain⟨hl,h1,h2,h3,_⟩:=h
  obtain⟨s,e1⟩:=kR h1
  obtain⟨x,e2,hx⟩:=aM h2
  obtain⟨a,b,e3,ha,hb⟩:=uf h3
  match ds,hl with
  | [p,q,r,t],_ =>
   simp at e1 e2 e3
   obtain⟨rfl,rfl⟩:=e3
   subst e1;subst e2
   exact⟨⟨s,x,a,b⟩,rfl,hx,ha,hb⟩
theorem Jo{n:Nat}{ds:List Dp}(h:UK MK n 217 ds):∃c:TV,ds=c.row/\U5 c.oF:=by
 cases n with
 | zero=>exact h.elim
 | succ n =>
  simp only[UK,Tryz.underlying217,NG,ge,qk,EW] at h
  obtain⟨hl,h1,h2,_⟩:=h
  obtain⟨s,e1⟩:=kR h1
  obtain⟨x,e2,hx⟩:=aM h2
  match ds,hl with
  | [p,q],_ =>
   simp at e1 e2
   subst e1;subst e2
   exact⟨⟨s,x⟩,rfl,hx⟩
theorem gD{α:Type}{row:α->List Dp}{ok:α->Prop}:∀{es:List (List Dp)},(∀r∈es,∃a,r=row a/\ok a)->∃l:List α,es=l.map row/\∀a∈l,ok a
 | [],_=>⟨[],rfl,by simp⟩
 | r::es,h=>by
  obtain⟨a,rfl,ha⟩:=h r (OU ..)
  obtain⟨l,rfl,hl⟩:=gD (λr hr=>h r (PA _ hr))
  exact⟨a::l,rfl,λb hb=>(ND.1 hb).elim (λe=>e▸ha) (hl b)⟩
theorem dX{n k:Nat}(h:n*k<=reachBytes)(hk:1<=k):n<=140737488355328:=by
 have:n<=n*k:=Nat.le_mul_of_pos_right n hk
 unfold reachBytes at h
 omega
theorem n7{n:Nat}{ds:List Dp}(h:UK MK n 132 ds):∃l:List UA,ds=[.sl (l.map NZ)]/\(∀c∈l,c.ok)/\ah l:=by
 cases n with
 | zero=>exact h.elim
 | succ n =>
  simp only[UK,Tryz.underlying132,EY] at h
  obtain⟨es,rfl,hb,he⟩:=h
  obtain⟨l,rfl,hl⟩:=gD (row:=NZ) (ok:=UA.ok) (λr hr=>BJ (he r hr))
  exact⟨l,rfl,hl,by have:=dX hb (by omega);simpa[ah] using this⟩
theorem Fd{n:Nat}{ds:List Dp}(h:UK MK n 133 ds):∃l:List TV,ds=[.sl (l.map N8)]/\(∀c∈l,U5 c.oF)/\ah l:=by
 cases n with
 | zero=>exact h.elim
 | succ n =>
  simp only[UK,Tryz.underlying133,EZ] at h
  obtain⟨es,rfl,hb,he⟩:=h
  obtain⟨l,rfl,hl⟩:=gD (row:=N8) (ok:=λc=>U5 c.oF) (λr hr=>Jo (he r hr))
  exact⟨l,rfl,hl,by have:=dX hb (by omega);simpa[ah] using this⟩
theorem Fe{n:Nat}{ds:List Dp}(h:UK MK n 4 ds):∃b,ds=[.v (.bool b)]:=by
 cases n with
 | zero=>exact h.elim
 | succ n =>
  simp only[UK,Tryz.underlying4] at h
  obtain⟨b,rfl⟩:=h
  exact⟨b,rfl⟩
theorem Ff{n:Nat}{ds:List Dp}(h:UK MK n 113 ds):∃l,ds=[.sl l]:=by
 cases n with
 | zero=>exact h.elim
 | succ n =>
  simp only[UK,Tryz.underlying113] at h
  obtain⟨es,rfl,_⟩:=h
  exact⟨es,rfl⟩
theorem xR{n:Nat}{ds:List Dp}(h:UK MK n 32 ds):∃l:List Int,ds=[.sl (ay l)]/\ah l:=by
 cases n with
 | zero=>exact h.elim
 | succ n =>
  simp only[UK,QC,bytes3] at h
  obtain⟨es,rfl,hb,he⟩:=h
  obtain⟨l,rfl,_⟩:=gD (row:=λn:Int=>[vi n]) (ok:=λ_=>True) (λr hr=>by obtain⟨x,e,_⟩:=aM (he r hr);exact⟨x,e,trivial⟩)
  exact⟨l,rfl,by have:=dX hb (by omega);simpa[ah] using this⟩
theorem Jp{n:Nat}{ds:List Dp}(h:UK MK n 115 ds):∃q:T2,ds=q.row/\q.ok:=by
 cases n with
 | zero=>exact h.elim
 | succ n =>
  simp only[UK,Tryz.underlying115,NG,ge,cells4,qk,Jd,E8,E9] at h
  obtain⟨hl,h1,h2,h3,h4,h5,h6,_⟩:=h
  obtain⟨s,e1⟩:=kR h1
  obtain⟨a,e2,_⟩:=aM h2
  obtain⟨b,e3,_⟩:=aM h3
  obtain⟨c,e4⟩:=Fe h4
  obtain⟨d,e5⟩:=Ff h5
  obtain⟨f,e6,hf⟩:=xR h6
  match ds,hl with
  | [p1,p2,p3,p4,p5,p6],_ =>
   simp at e1 e2 e3 e4 e5 e6
   subst e1;subst e2;subst e3;subst e4;subst e5;subst e6
   exact⟨⟨s,a,b,c,d,f⟩,rfl,⟨hf⟩⟩
theorem Jq{n:Nat}{ds:List Dp}(h:UK MK n 55 ds):∃a b c,ds=[vi a,vi b,vi c]/\U5 a/\U5 b/\U5 c:=by
 cases n with
 | zero=>exact h.elim
 | succ n =>
  simp only[UK,Tryz.underlying55,NG,ge,BF] at h
  obtain⟨hl,h1,h2,h3,_⟩:=h
  obtain⟨a,e1,ha⟩:=aM h1
  obtain⟨b,e2,hb⟩:=aM h2
  obtain⟨c,e3,hc⟩:=aM h3
  match ds,hl with
  | [p,q,r],_ =>
   simp at e1 e2 e3
   subst e1;subst e2;subst e3
   exact⟨a,b,c,rfl,ha,hb,hc⟩
theorem Fg{n:Nat}{ds:List Dp}(h:UK MK n 57 ds):∃a b,ds=[vi a,vi b]/\U5 a/\U5 b:=by
 cases n with
 | zero=>exact h.elim
 | succ n =>
  simp only[UK,Tryz.underlying57,NG,ge,BG] at h
  obtain⟨hl,h1,h2,_⟩:=h
  obtain⟨a,e1,ha⟩:=aM h1
  obtain⟨b,e2,hb⟩:=aM h2
  match ds,hl with
  | [p,q],_ =>
   simp at e1 e2
   subst e1;subst e2
   exact⟨a,b,rfl,ha,hb⟩
theorem Fh{n:Nat}{ds:List Dp}(h:UK MK n 59 ds):∃f:If,ds=f.row/\f.ok:=by
 cases n with
 | zero=>exact h.elim
 | succ n =>
  simp only[UK,Tryz.underlying59,NG,ge,BF,BG,Jj] at h
  obtain⟨hl,h1,h2,h3,h4,h5,_⟩:=h
  obtain⟨a,b,c,e1,ha,hb,hc⟩:=Jq h1
  obtain⟨d,e2,hd⟩:=aM h2
  obtain⟨x,y,e3,hx,hy⟩:=Fg h3
  obtain⟨k,e4,hk⟩:=aM h4
  obtain⟨m,e5,hm⟩:=aM h5
  match ds,hl with
  | [p1,p2,p3,p4,p5,p6,p7,p8],_ =>
   simp at e1 e2 e3 e4 e5
   obtain⟨rfl,rfl,rfl⟩:=e1
   obtain⟨rfl,rfl⟩:=e3
   subst e2;subst e4;subst e5
   exact⟨⟨a,b,c,d,x,y,k,m⟩,rfl,ha,hb,hc,hd,hx,hy,hk,hm⟩
theorem BK{n:Nat}{ds:List Dp}(h:UK MK n 27 ds):∃l:List If,ds=[.sl (l.map MY)]/\(∀c∈l,c.ok):=by
 cases n with
 | zero=>exact h.elim
 | succ n =>
  simp only[UK,Tryz.underlying27] at h
  obtain⟨es,rfl,_,he⟩:=h
  obtain⟨l,rfl,hl⟩:=gD (row:=MY) (ok:=If.ok) (λr hr=>Fh (he r hr))
  exact⟨l,rfl,hl⟩
theorem ql:∀{ks:List BV},(∀k∈ks,k.ok)->iJ ks
 | [],_=>trivial
 | k::ks,h=>⟨h k (OU ..),ql λx hx=>h x (PA _ hx)⟩
theorem rT:∀{n:Nat} {ds:List Dp},UK MK n 80 ds->∃r:BV,ds=r.row/\r.ok
 | 0,_,h=>h.elim
 | 1,_,h=>by
  simp only[UK,Tryz.underlying80,NG] at h
  exact h.2.1.elim
 | n+2,ds,h=>by
  rw[UK,Tryz.underlying80] at h
  simp only[NG,ge,qk,Jk,BI] at h
  obtain⟨hl,h1,h2,h3,h4,h5,h6,_⟩:=h
  obtain⟨a,e1,ha⟩:=aM h1
  obtain⟨b,e2,hb⟩:=aM h2
  obtain⟨s,e3⟩:=kR h3
  obtain⟨c,e4,hc⟩:=aM h4
  obtain⟨d,e5,hd⟩:=aM h5
  rw[UK,Tryz.underlying78] at h6
  simp only[Jm] at h6
  obtain⟨es,e6,hb6,he⟩:=h6
  obtain⟨l,rfl,hk⟩:=gD (row:=BV.row) (ok:=BV.ok) (λr hr=>rT (he r hr))
  have hs:ah l:=by have:=dX hb6 (by omega);simpa[ah] using this
  match ds,hl with
  | [p1,p2,p3,p4,p5,p6],_ =>
   simp at e1 e2 e3 e4 e5 e6
   subst e1;subst e2;subst e3;subst e4;subst e5;subst e6
   refine⟨.mk a b s c d l,?_,?_⟩
   ·rw[BV.row,eA]
   ·rw[BV.ok];exact⟨⟨ha,hb,hc,hd,hs⟩,ql hk⟩
theorem zt{n:Nat}{ds:List Dp}(h:UK MK n 82 ds):∃c:IS,ds=c.row/\c.ok:=by
 cases n with
 | zero=>exact h.elim
 | succ n =>
  rw[UK,Tryz.underlying82] at h
  simp only[NG,ge,qk,BI,Jl] at h
  obtain⟨hl,h1,h2,h3,h4,h5,h6,_⟩:=h
  obtain⟨s,e1⟩:=kR h1
  obtain⟨a,e2,_⟩:=aM h2
  obtain⟨b,e3,_⟩:=aM h3
  obtain⟨c,e4,_⟩:=aM h4
  obtain⟨r,e5,hr⟩:=rT h5
  obtain⟨t,e6,ht⟩:=rT h6
  rw[<-BV.ζ] at e5 e6
  match ds,hl with
  | [p1,p2,p3,p4,p5,p6,p7,p8,p9,p10,p11,p12,p13,p14,p15,p16],_ =>
   simp[Vf.row] at e1 e2 e3 e4 e5 e6
   obtain⟨rfl,rfl,rfl,rfl,rfl,rfl⟩:=e5
   obtain⟨rfl,rfl,rfl,rfl,rfl,rfl⟩:=e6
   subst e1;subst e2;subst e3;subst e4
   exact⟨⟨s,a,b,c,r,t⟩,rfl,hr,ht⟩
theorem wa{n:Nat}{ds:List Dp}(h:UK MK n 22 ds):∃l:List IS,ds=[.sl (l.map MX)]/\(∀c∈l,c.ok)/\ah l:=by
 cases n with
 | zero=>exact h.elim
 | succ n =>
  simp only[UK,Tryz.underlying22,Jn] at h
  obtain⟨es,rfl,hb,he⟩:=h
  obtain⟨l,rfl,hl⟩:=gD (row:=MX) (ok:=IS.ok) (λr hr=>zt (he r hr))
  exact⟨l,rfl,hl,by have:=dX hb (by omega);simpa[ah] using this⟩
theorem wb{n:Nat}{ds:List Dp}(h:UK MK n 305 ds):∃c:T5,ds=c.row/\True:=by
 cases n with
 | zero=>exact h.elim
 | succ n =>
  simp only[UK,Tryz.underlying305,NG,ge,BH] at h
  obtain⟨hl,h1,h2,h3,h4,_⟩:=h
  obtain⟨a,e1,_⟩:=aM h1
  obtain⟨b,e2,_⟩:=aM h2
  obtain⟨c,e3,_⟩:=aM h3
  obtain⟨d,e4,_⟩:=aM h4
  match ds,hl with
  | [p,q,r,t],_ =>
   simp at e1 e2 e3 e4
   subst e1;subst e2;subst e3;subst e4
   exact⟨⟨a,b,c,d⟩,rfl,trivial⟩
theorem Fi{n:Nat}{ds:List Dp}(h:UK MK n 136 ds):∃s:TK,ds=s.row/\s.ok:=by
 cases n with
 | zero=>exact h.elim
 | succ n =>
  simp only[UK,Tryz.underlying136,NG,ES,ET,EU,EV] at h
  obtain⟨hl,h1,h2,h3,h4,_⟩:=h
  obtain⟨a,e1,a1,a2⟩:=n7 h1
  obtain⟨b,e2,b1,b2⟩:=Fd h2
  obtain⟨c,e3,c1,c2⟩:=n7 h3
  have h5:∃l:List T5,(List.take 1 (List.drop 3 ds))=[.sl (l.map QH)]/\ah l:=by
   cases n with
   | zero=>exact h4.elim
   | succ n =>
    simp only[UK,Tryz.underlying134,E6] at h4
    obtain⟨es,e,hb,he⟩:=h4
    obtain⟨l,rfl,_⟩:=gD (row:=QH) (ok:=λ_=>True) (λr hr=>wb (he r hr))
    exact⟨l,e,by have:=dX hb (by omega);simpa[ah] using this⟩
  obtain⟨d,e4,d1⟩:=h5
  match ds,hl with
  | [p,q,r,t],_ =>
   simp at e1 e2 e3 e4
   subst e1;subst e2;subst e3;subst e4
   exact⟨⟨a,b,c,d⟩,rfl,⟨a1,c1,b1,a2,c2,b2,by simpa[ah,Qv] using d1⟩⟩
theorem wc{n:Nat}{ds:List Dp}(h:UK MK n 24 ds):∃l:List TK,ds=[.sl (l.map M4)]/\(∀c∈l,c.ok)/\ah l:=by
 cases n with
 | zero=>exact h.elim
 | succ n =>
  simp only[UK,Tryz.underlying24,Fb] at h
  obtain⟨es,rfl,hb,he⟩:=h
  obtain⟨l,rfl,hl⟩:=gD (row:=M4) (ok:=TK.ok) (λr hr=>Fi (he r hr))
  exact⟨l,rfl,hl,by have:=dX hb (by omega);simpa[ah] using this⟩
theorem Fj{n:Nat}{ds:List Dp}(h:UK MK n 101 ds):∃p:oN,ds=p.row/\p.ok:=by
 cases n with
 | zero=>exact h.elim
 | succ n =>
  rw[UK,Tryz.underlying101] at h
  simp only[NG,ge,qk,v8,Jc,E7] at h
  obtain⟨hl,h1,h2,h3,h4,h5,h6,_⟩:=h
  obtain⟨s,e1⟩:=kR h1
  obtain⟨a,e2,_⟩:=aM h2
  obtain⟨b,e3,_⟩:=aM h3
  obtain⟨c,e4,_⟩:=aM h4
  obtain⟨x,y,e5,hx,hy⟩:=uf h5
  cases n with
  | zero=>exact h6.elim
  | succ n =>
   simp only[UK,Tryz.underlying99,Fa] at h6
   obtain⟨es,e6,hb,he⟩:=h6
   obtain⟨l,rfl,hk⟩:=gD (row:=M5) (ok:=T2.ok) (λr hr=>Jp (he r hr))
   match ds,hl with
   | [p1,p2,p3,p4,p5,p6,p7],_ =>
    simp at e1 e2 e3 e4 e5 e6
    obtain⟨rfl,rfl⟩:=e5
    subst e1;subst e2;subst e3;subst e4;subst e6
    exact⟨⟨s,a,b,c,x,y,l⟩,rfl,⟨by have:=dX hb (by omega);simpa[ah] using this,hk,hx,hy⟩⟩
theorem BL{n:Nat}{ds:List Dp}(h:UK MK n 23 ds):∃l:List oN,ds=[.sl (l.map P7)]/\(∀c∈l,c.ok)/\ah l:=by
 cases n with
 | zero=>exact h.elim
 | succ n =>
  simp only[UK,Tryz.underlying23,Fc] at h
  obtain⟨es,rfl,hb,he⟩:=h
  obtain⟨l,rfl,hl⟩:=gD (row:=P7) (ok:=oN.ok) (λr hr=>Fj (he r hr))
  exact⟨l,rfl,hl,by have:=dX hb (by omega);simpa[ah] using this⟩
structure iS.okQ (w:iS) (ps:List oN):Prop where
 p:w.p=ps.map P7
 k:∀x∈ps,x.ok
 l:ah ps
theorem BM{n:Nat}{ds:List Dp}(h:UK MK n 29 ds):∃w:iS,ds.map .p=w.l/\w.ok0/\∃ps,w.okQ ps:=by
 cases n with
 | zero=>exact h.elim
 | succ n =>
  rw[UK,Tryz.underlying29] at h
  simp only[NG,BE,Jh,Ji] at h
  obtain⟨hl,h1,h2,_⟩:=h
  obtain⟨f,e4,hf⟩:=BK h2
  cases n with
  | zero=>exact h1.elim
  | succ n =>
   rw[UK,Tryz.underlying26] at h1
   simp only[NG,Je,Jf,Jg,BE] at h1
   obtain⟨_,g1,g2,g3,_⟩:=h1
   obtain⟨c,e1,c1,c2⟩:=wa g1
   obtain⟨p,e2,p1,p2⟩:=BL g2
   obtain⟨s,e3,s1,s2⟩:=wc g3
   match ds,hl with
   | [x,y,z,t],_ =>
    simp at e1 e2 e3 e4
    subst e1;subst e2;subst e3;subst e4
    exact⟨⟨c,p.map P7,s,f⟩,rfl,⟨c1,s1,c2,s2,hf⟩,p,rfl,p1,p2⟩
end Go.Vi
open Go Go.Proofs
namespace Go.Vi
set_option maxHeartbeats 4000000
open Go.ChangeShapes Go.WideShapes Go.ChangeAt Go.RowKit Go.Proofs.YtgalafpinkflfaaGreatDoor
set_option maxRecDepth 100000
def plainW:List TypeId:=[3,4,9,22,23,24,26,27,29,32,87,55,57,59,132,133,134,136,217,289,305,78,80,82,99,101,113,115]
theorem Jr:xI MK plainW=true:=by kernel_rfl
mutual
def Dp.wt:Dp->Nat
 | .sl es=>wtR es
 | .v _=>0
def Xd:List Dp->Nat
 | []=>0
 | d::ds=>d.wt+Xd ds
def wtR:List (List Dp)->Nat
 | []=>0
 | r::rs=>1+Xd r+wtR rs
end
theorem BN:∀(a b:List Dp),Xd (a++b)=Xd a+Xd b
 | [],b=>by simp[Xd]
 | d::a,b=>by simp only[List.cons_append,Xd,BN a b];omega
theorem BO:∀{rs:List (List Dp)},∀r∈rs,1+Xd r<=wtR rs
 | a::rs,r,hr=>by
  simp only[wtR]
  rcases ND.1 hr with rfl|hr
  ·omega
  ·have:=BO r hr;omega
theorem Hm{H:Type}:∀(rs:List (List Dp)) (ds:List (DataW H)),rs.length=ds.length->(∀(i:Nat) r d,rs[i]? = some r->ds[i]? = some d->Xd r+1<=Oa d)->wtR rs<=Pw ds
 | [],_,_,_=>by simp[wtR]
 | r::rs,[],h,_=>by simp at h
 | r::rs,d::ds,h,hb=>by
  have h1:=hb 0 r d rfl rfl
  have h2:=Hm rs ds (by simpa using h) λi r d hr hd=>hb (i+1) r d (by simpa using hr) (by simpa using hd)
  simp only[wtR,Pw]
  omega
section
variable {w:World} {av:Nat->Prop} {P:Program}
theorem lB{cs:List Value}{S:TypeId->List Dp->Prop}{H:Type}{total:Nat}(hc:cs.length=total):∀(fs:List Field) (xs:List (DataW H)) (acc:Nat),dt P fs acc total=true ->
  (∀(i:Nat) f,fs[i]? = some f->∃ds x,xs[i]? = some x/\S f.type ds/\Uw w av ds ((cs.drop f.offset).take (P.cellsOf f.type))/\Xd ds+1<=Oa x) ->
  ∃D,Uw w av D (cs.drop acc)/\(∀f∈fs,S f.type ((D.drop (f.offset-acc)).take (P.cellsOf f.type)))/\Xd D<=Pw xs
 | [],xs,acc,h,_=>by
  simp only[dt,beq_iff_eq] at h
  refine⟨[],?_,by simp,by simp[Xd]⟩
  rw[List.drop_of_length_le (by omega)]
  trivial
 | f::fs,xs,acc,h,hf=>by
  simp only[dt,M3,beq_iff_eq] at h
  obtain⟨rfl,h⟩:=h
  obtain⟨ds,x,hx,hs,hr,hb⟩:=hf 0 f rfl
  obtain⟨y,ys,rfl⟩:∃y ys,xs=y::ys:=by cases xs with
   | nil=>simp at hx
   | cons y ys=>exact⟨y,ys,rfl⟩
  obtain rfl:y=x:=by simpa using hx
  obtain⟨D,hD,hS,hB⟩:=lB hc fs ys _ h λi g hg=>hf (i+1) g (by simpa using hg)
  obtain⟨hle,hoff⟩:=tS h
  have hlen:ds.length=P.cellsOf f.type:=by
   have:=hr.length
   rw[this,List.length_take,List.length_drop]
   omega
  refine⟨ds++D,?_,λg hg=>?_,by rw[BN];simp only[Pw];omega⟩
  ·have:=hr.append hD
   rw[<-List.drop_drop,List.take_append_drop] at this
   exact this
  ·rcases ND.1 hg with rfl|hg
   ·rw[Nat.sub_self,RM,List.take_append_of_le_length (by omega),<-hlen,List.take_length]
    exact hs
   ·have h1:=hoff g hg
    have hd:∀k,(ds++D).drop (ds.length+k)=D.drop k:=λk=>by rw[List.drop_append];simp
    rw[show g.offset-f.offset=ds.length+(g.offset-(f.offset+P.cellsOf f.type)) by omega,hd]
    exact hS g hg
theorem iI{H:Type}{enc:TypeId×Value->H}{spare:Nat->Bool}{ts:List TypeId}(hts:xI P ts=true)(XT:∀k,¬av k):
  ∀(fuel:Nat) (t:TypeId) (cs:List Value) (d:DataW H) (ps:List MemPlace),t∈ts->DataW.trod enc P w 0 spare true fuel t cs=some (d,ps)->(d.weights P t).all (· <= reachBytes)=true ->
   ∃ds,UK P fuel t ds/\Uw w av ds cs/\Xd ds+1<=Oa d:=by
 intro fuel
 induction fuel with
 | zero=>intro t cs d ps _ h;simp[DataW.trod] at h
 | succ n ih =>
  intro t cs d ps ht h hw
  have hp:=El hts ht
  split at hp
  ·rename_i hu
   obtain⟨b,rfl,hx⟩:=DataW.trod_bool hu h
   simp only[MV] at hx
   obtain⟨rfl,_⟩:=hx
   exact⟨[.v (.bool b)],by simp only[UK,hu];exact⟨b,rfl⟩,by simp[Uw,TB],by simp[Xd,Dp.wt,Oa]⟩
  ·rename_i k hu
   obtain⟨x,rfl,hx,hwf⟩:=DataW.trod_int hu h
   simp only[MV] at hx
   obtain⟨rfl,_⟩:=hx
   exact⟨[.v (.int k x)],by simp only[UK,hu];exact⟨x,rfl,hwf⟩,by simp[Uw,TB],by simp[Xd,Dp.wt,Oa]⟩
  ·rename_i hu
   obtain⟨s,rfl,hx,_⟩:=DataW.trod_string hu h
   simp only[MV] at hx
   obtain⟨rfl,_⟩:=hx
   have hs:s.size<=reachBytes:=by
    simp only[R8,Ps,List.all_nil,Bool.and_true,decide_eq_true_eq,Array.length_toList] at hw
    exact hw
   exact⟨[.v (.string s)],by simp only[UK,hu];exact⟨s,rfl,hs⟩,by simp[Uw,TB],by simp[Xd,Dp.wt,Oa]⟩
  ·rename_i e hu
   simp only[M3,decide_eq_true_eq,SC] at hp
   obtain⟨he,Yh⟩:=hp
   rcases DataW.trod_slice hu h with ⟨rfl,hx⟩|⟨a,len,cap,elems,rest,m,hm,rfl,hx,_,hle,_,hlen,hel,_⟩
   ·simp only[MV] at hx
    obtain⟨rfl,_⟩:=hx
    refine⟨[.sl []],by simp only[UK,hu];exact⟨[],rfl,by simp,by simp⟩,?_,by simp[Xd,wtR,Dp.wt,Oa]⟩
    simp only[Uw,TB,and_true]
    exact .inl ⟨trivial,none,0,rfl,λ_=>rfl⟩
   ·obtain rfl:n=m:=by omega
    simp only[MV] at hx
    obtain⟨rfl,_⟩:=hx
    simp only[R8,hu,Ps,List.all_append,M3,decide_eq_true_eq,N7] at hw
    obtain⟨Ε,hw2,_⟩:=hw
    have key:∀i,i<len->∃ds ys,UK P n e ds/\Uw w av ds ys/\w.cells? 0 (a.add (i*P.cellsOf e)) (P.cellsOf e)=some ys/\∀x,elems[i]? = some x->Xd ds+1<=Oa x.1:=by
     intro i hi
     have h1:=hel i hi
     have h2:elems[i]? = some elems[i]:=Nh (by omega)
     generalize elems[i]=x at h2
     rw[h2] at h1
     obtain⟨ys,h3,h4⟩:=Option.bind_eq_some_iff.1 h1
     obtain⟨dx,px⟩:=x
     obtain⟨ds,h5,h6,h7⟩:=ih e ys dx px he h4 (il hw2 dx (NK.2 ⟨(dx,px),Ny h2,rfl⟩))
     exact⟨ds,ys,h5,h6,h3,λx hx=>by rw[h2] at hx;cases hx;exact h7⟩
    obtain⟨f,hf⟩:∃f:Nat->List Dp,∀i,i<len->∃ys,UK P n e (f i)/\Uw w av (f i) ys/\w.cells? 0 (a.add (i*P.cellsOf e)) (P.cellsOf e)=some ys/\∀x,elems[i]? = some x->Xd (f i)+1<=Oa x.1:=by
     classical
     refine⟨λi=>if hi:i<len then Ql (key i hi) else [],λi hi=>?_⟩
     simp only[dif_pos hi]
     exact Classical.choose_spec (key i hi)
    refine⟨[.sl ((NC len).map f)],?_,?_,?_⟩
    ·simp only[UK,hu]
     refine⟨_,rfl,?_,?_⟩
     ·simp only[N7,List.length_range]
      have:len*P.bytesOf e<=(elems.length+rest.length)*P.bytesOf e:=OH _ (by omega)
      omega
     ·intro r hr
      obtain⟨i,hi,rfl⟩:=NK.1 hr
      obtain⟨ys,h1,_⟩:=hf i (by simpa using hi)
      exact h1
    ·simp only[Uw,TB,and_true]
     by_cases h0:len=0
     ·subst h0
      exact .inl ⟨by simp,some a,cap,rfl,by simp⟩
     ·have hsp:a.spot=none:=by
       obtain⟨ys,_,_,h3,_⟩:=hf 0 (by omega)
       obtain⟨h4,h5⟩:=xJ h3
       have h6:ys[0]? = some ys[0]:=Nh (by omega)
       have h7:=h5 0 _ h6
       simp only[Nat.zero_mul,Addr.add,if_true] at h7
       unfold World.cell? at h7
       split at h7
       ·split at h7
        ·simp at h7
        ·rename_i hns
         cases hs:a.spot with
         | none=>rfl
         | some _=>simp[hs] at hns
       ·simp at h7
      obtain⟨oR,off,sp⟩:=a
      simp only at hsp
      subst hsp
      refine .inr ⟨oR,off,cap,P.cellsOf e,by simp,by simpa using hle,pY _ _ λi r hr=>?_⟩
      simp only[O3,M0] at hr
      obtain⟨j,hj,rfl⟩:=hr
      rw[MR] at hj
      obtain⟨hj1,hj2⟩:=hj
      simp only[Ti] at hj2
      subst hj2
      obtain⟨ys,h1,h2,h3,_⟩:=hf i (by simpa using hj1)
      obtain⟨h4,h5⟩:=xJ h3
      refine⟨by rw[h2.length,h4],nS XT _ _ _ h2 λk y hy=>?_⟩
      have:=h5 k y hy
      have e1:(((⟨oR,off,none⟩:Addr).add (i*P.cellsOf e)).add k)=⟨oR,off+i*P.cellsOf e+k,none⟩:=by
       rw[i5,i5]
      rwa[e1] at this
    ·have:=Hm ((NC len).map f) (elems.map (·.1)) (by simp[hlen]) λi r d hr hd=>by
      simp only[O3,M0] at hr hd
      obtain⟨j,hj,rfl⟩:=hr
      obtain⟨x,hx,rfl⟩:=hd
      obtain⟨hj1,hj2⟩:=MR.1 hj
      simp only[Ti] at hj2
      subst hj2
      obtain⟨ys,_,_,_,h4⟩:=hf i (by simpa using hj1)
      exact h4 x hx
     simp only[Xd,Dp.wt,Oa]
     omega
  ·rename_i fs hu
   simp only[M3,List.all_eq_true,SC] at hp
   obtain⟨hc,hfs⟩:=hp
   obtain⟨xs,m,hm,hx,hlen,hxs,hel⟩:=DataW.trod_struct hu h
   obtain rfl:n=m:=by omega
   simp only[MV] at hx
   obtain⟨rfl,_⟩:=hx
   simp only[R8,hu] at hw
   have key:∀(i:Nat) f,fs.toList[i]? = some f->∃ds x,(xs.map (·.1))[i]? = some x/\UK P n f.type ds/\Uw w av ds ((cs.drop f.offset).take (P.cellsOf f.type))/\Xd ds+1<=Oa x:=by
    intro i f hi
    have hf:f∈fs.toList:=Ny hi
    have Ι:fs[i]? = some f:=by rw[<-Array.getElem?_toList];exact hi
    have hil:i<xs.length:=by
     rw[hxs]
     have:=(Array.getElem?_eq_some_iff.1 Ι).1
     exact this
    have h1:=hel i f Ι
    have h2:xs[i]? = some xs[i]:=Nh hil
    generalize xs[i]=x at h2
    rw[h2] at h1
    obtain⟨dx,px⟩:=x
    obtain⟨ds,g1,g2,g3⟩:=ih f.type _ dx px (hfs f hf) h1 (bU hw i f.type dx (by simp[hi]) (by simp[h2]))
    exact⟨ds,dx,by simp[h2],g1,g2,g3⟩
   obtain⟨D,hD,hS,hB⟩:=lB hlen fs.toList (xs.map (·.1)) 0 hc key
   rw[RM] at hD
   refine⟨D,?_,hD,by simp only[Oa];omega⟩
   simp only[UK,hu]
   refine⟨by rw[hD.length,hlen],λf hf=>?_⟩
   have:=hS f hf
   rwa[Nat.sub_zero] at this
  ·simp at hp
end
theorem BP:∀qs:List T2,(qs.map λq=>q.Do.length).sum<=wtR (qs.map M5)
 | []=>by simp
 | q::qs=>by
  have h:∀l:List Int,wtR (ay l)=l.length:=λl=>by
   induction l with
   | nil=>rfl
   | cons a l ih=>simp only[ay,Pr,wtR,Xd,Dp.wt,List.length_cons] at ih ⊢;omega
  have:=BP qs
  have h2:=h q.Do
  simp only[Pr,List.sum_cons,wtR,M5,Xd,Dp.wt] at h2 ⊢
  omega
theorem Fk{w:iS}{ps:List oN}{ds:List Dp}(h:ds.map .p=w.l)(hp:w.okQ ps){n:Nat}(hn:Xd ds+1<=n)(hb:n<=1048576):∀x∈ps,(x.reqs.map λq=>q.Do.length).sum<=1048576:=by
 intro x hx
 have e:ds=[.sl (w.c.map MX),.sl w.p,.sl (w.s.map M4),.sl (w.f.map MY)]:=by
  have:ds.map D.p=[Dp.sl (w.c.map MX),.sl w.p,.sl (w.s.map M4),.sl (w.f.map MY)].map D.p:=h
  exact(List.map_inj_right λa b e=>by cases e;rfl).1 this
 have h1:=BO x.row (NK.2 ⟨x,hx,rfl⟩)
 have h2:=BP x.reqs
 rw[hp.p] at e
 subst e
 simp only[Xd,Dp.wt] at hn
 simp only[P7,Xd,Dp.wt] at h1
 omega
theorem zu{H:Type}{enc:TypeId×Value->H}{W:World}{base:Nat}{v:Value}{d:DataW H}{p:List MemPlace}
  (UG:P5 MK W .any base 29 v) (h:Ta enc MK W 0 (λ_=>true) true 29 v d p) (hw:(d.weights MK 29).all (· <= reachBytes)=true) (hb:Oa d<=1048576) :
  ∃w:iS,w.ok0/\Rel W (On (λ_=>False) (λ_=>none) []) (λ_=>none) [] (.agg w.l) v/\∃ps,w.okP ps:=by
 unfold P5 at UG
 rw[Tryz.underlying29] at UG
 obtain⟨cs,rfl,_,_⟩:=UG
 obtain⟨fuel,hf⟩:=h
 obtain⟨ds,h1,h2,h3⟩:=iI Jr mh fuel 29 _ d p (by decide) hf hw
 obtain⟨w,e,hw0,ps,hp⟩:=BM h1
 refine⟨w,hw0,?_,ps,hp.p,hp.k,hp.l,Fk e hp h3 hb⟩
 rw[<-e]
 simp only[Rel]
 exact⟨cs,rfl,h2.Ur⟩
theorem Hn:xI MK [3,31,32]=true:=by kernel_rfl
theorem Js:MK.cellsOf 31=4:=by kernel_rfl
theorem shp_q{n:Nat}{ds:List Dp}(h:UK MK n 31 ds):∃q:Wx,ds=q.row:=by
 cases n with
 | zero=>exact h.elim
 | succ n =>
  simp only[UK,Tryz.underlying31,NG,ge,Js] at h
  obtain⟨hl,h1,h2,h3,h4,_⟩:=h
  obtain⟨a,e1,_⟩:=aM h1
  obtain⟨b,e2,_⟩:=aM h2
  obtain⟨c,e3,_⟩:=aM h3
  obtain⟨d,e4,_⟩:=aM h4
  match ds,hl with
  | [p,q,r,t],_ =>
   simp at e1 e2 e3 e4
   subst e1;subst e2;subst e3;subst e4
   exact⟨⟨a,b,c,d⟩,rfl⟩
theorem arg_q{H:Type}{enc:TypeId×Value->H}{W:World}{base:Nat}{v:Value}{d:DataW H}{p:List MemPlace}
  (UG:P5 MK W .any base 31 v) (h:Ta enc MK W 0 (λ_=>true) true 31 v d p) (hw:(d.weights MK 31).all (· <= reachBytes)=true) :
  ∃q:Wx,Rel W (On (λ_=>False) (λ_=>none) []) (λ_=>none) [] (ag q.row) v:=by
 unfold P5 at UG
 rw[Tryz.underlying31] at UG
 obtain⟨cs,rfl,_,_⟩:=UG
 obtain⟨fuel,hf⟩:=h
 obtain⟨ds,h1,h2,_⟩:=iI Hn mh fuel 31 _ d p (by decide) hf hw
 obtain⟨q,rfl⟩:=shp_q h1
 refine⟨q,?_⟩
 simp only[Rel]
 exact⟨cs,rfl,h2.Ur⟩
theorem xU{H:Type}{enc:TypeId×Value->H}{W:World}{base:Nat}{v:Value}{d:DataW H}{p:List MemPlace}
  (UG:P5 MK W .any base 32 v) (h:Ta enc MK W 0 (λ_=>true) true 32 v d p) (hw:(d.weights MK 32).all (· <= reachBytes)=true) :
  ∃l:List Int,Rel W (On (λ_=>False) (λ_=>none) []) (λ_=>none) [] (ab (ay l)) v:=by
 obtain⟨fuel,hf⟩:=h
 unfold P5 at UG
 rw[QC] at UG
 have hc:v.cells.toList=[v]:=by
  cases v<;>first|rfl|skip
  unfold Cell.okWide at UG
  rw[QC] at UG
  exact UG.elim
 rw[hc] at hf
 obtain⟨ds,h1,h2,_⟩:=iI Hn mh fuel 32 _ d p (by decide) hf hw
 obtain⟨l,rfl,_⟩:=xR h1
 refine⟨l,?_⟩
 simp only[Uw,and_true] at h2
 simpa[ab,Rel] using h2
theorem zw{H:Type}{ds gs:List (DataW H)}{d:DataW H}(h:Rows.uptoSmall H (ds++gs)=true)(hd:d∈ds):Oa d<=1048576:=by
 have key:∀l:List (DataW H),d∈l->Oa d<=Pw l:=by
  intro l
  induction l with
  | nil=>intro h;simp at h
  | cons x l ih =>
   intro h
   simp only[Pw]
   rcases ND.1 h with rfl|h
   ·omega
   ·have:=ih h;omega
 have:=of_decide_eq_true h
 have:=key _ (List.mem_append_left gs hd)
 omega
end Go.Vi
