/- A part of the proof; no conditions of its own. -/
import Derived.Test.YtgalafpinkflfaaGreatDoorW9
import Derived.Ground.SlsfProg
open Bool renaming true->J,false->N
open Option renaming some->G,none->Y
open Go.Vi.F2 renaming map->Η,var->iI,loop->χ,ν->S3
open Go.Vi.Ans renaming st->δ,ov->zjr,inl->zfF
open Go.Vi.SOp renaming frz->zed,Μ->zmj,trim->zkm,mask->τ
open Go.Vi.D renaming Ρ->JV,agg->uT,ref->mW
open Go.Exit renaming normal->NO,exit->η
open Go.IntKind renaming i64->zfN
open Decidable renaming decide -> lL
open Go.Proofs.Tryz renaming prog -> S5, f18 -> Zj
open List renaming nodup_nil -> Xg, foldl_cons -> TG, length_mergeSort -> XN, mem_map -> T2, length -> S7, getElem?_eq_some_iff -> Td, map -> S2, all_cons -> VI, range -> T1, replicate -> Ti, getElem?_eq_getElem -> TH, flatMap_cons -> Yl, filterMap_cons -> X1, mem_flatMap -> Yu, map_congr_left -> WT
open Go.Vi.Ev renaming zkv -> U7, zly -> Tw, zlh -> Tp
open Nat renaming le_trans -> Vj, mul_le_mul_right -> Vr
open Go.Vi.oB renaming zero -> Zq, row -> Xc
open Go.IntKind renaming i64 -> S6, wrap -> S8
open Go.Exit renaming normal -> Tr
open Go.Vi.PtT renaming row -> V2
open Go.Vi.JX renaming row -> Ta
open Go.Vi.ZH renaming row -> Xd
open Go.Vi.L9 renaming row -> Tc
open Go.Vi.zcR renaming row -> Tj, zero -> WG, sys -> Xt
open Go.Vi.Cls renaming row -> Uq
open Go.Vi.zbv renaming row -> UG
open Go.Vi.ZB renaming row -> X8
open Go.Vi.D renaming Ρ -> TT, agg -> TF
open Bool renaming and_eq_true -> Tm
open Go.Value renaming nilFunc -> T5
open Go.Vi.kc renaming l -> TC
open Go.Proofs.SlLaysF0 renaming n6 -> Yt
open Go Go.Proofs
namespace Go.Vi
set_option maxRecDepth 100000
set_option maxHeartbeats 1000000
variable {e d5 n st fI:Int}{w:kc}
theorem IP:zjt S5 mX 44 [ab []] [] λd h'=>(d=nq/\h'=[])\/(d=.ref (.lk 0 1)/\h'=[.lk [] 1 6]):=by
 refine zjt.zkb (fn:=Tryz.f44) (c:=al Tryz.f44) rfl rfl λX hX=>?_;rw[B1];refine VW.seq ((cl_r0 (l:=[]) X none hX (λ_=>rfl)).mono λe s hq=>?_);obtain⟨rfl,rfl⟩:=hq;refine VW.seq (VW.seq (cl_r1 (l:=[]) λb hb=>?_));cases b with
 | true =>refine(cl_ct X none hX (λ_=>rfl)).mono λe s hq=>?_;obtain⟨rfl,rfl⟩:=hq;exact⟨.inr rfl,rfl,Xg,[nq],rfl,.inl ⟨rfl,rfl⟩⟩
 | false =>refine(cl_c (l:=[]) X none hX (λ_=>rfl)).mono λe s hq=>?_;obtain⟨rfl,rfl⟩:=hq;refine(HD (l:=[]) (by simp) X none hX (λ_=>rfl)).mono λe s hq=>?_;obtain⟨rfl,rfl⟩:=hq;exact⟨.inr rfl,rfl,Xg,(zbn 0 1),rfl,.inr ⟨rfl,rfl⟩⟩
theorem ET(h:List F2):Ev S5 mX 44 [ab []] h (ab []) h:=by
 have h0:Ev S5 mX 44 [ab []] [] (ab []) []:=by
  intro O w l vs R ra
  refine CallsIn.mono (IP O w l vs R ra) ?_
  rintro e w' ⟨v,d',h',l',rfl,hq,R',E',rd⟩
  rcases hq with ⟨rfl,rfl⟩|⟨rfl,rfl⟩
  ·exact⟨v,_,_,l',rfl,⟨rfl,rfl⟩,R',E',ut _ _ rd⟩
  ·obtain⟨l2,R2,E2,r2, -⟩:=sw (Γ:=mX) (X:={O:=O,w:=w,l:=l,h:=[]}) {t:=[.ref (.lk 0 1)],h:=[.lk [] 1 6],m:=[]} [.st (.frz 0 []),.st (.Μ 0)] {t:=[ab []],h:=[],m:=[]} [] [([]:List (List D))=[]] (by kernel_rfl) ⟨rfl,trivial⟩ {tmps:=#[v],defers:=[]} w' ⟨l',R',E',⟨rd,trivial⟩,rfl⟩
   exact⟨v,ab [],[],l2,rfl,⟨rfl,rfl⟩,R2,E2,r2.1⟩
 exact Ev.zkE rfl h0 h
structure zqX where
 us:List (List Dp)
 ms:Int
 cut:List Bool
 e:Int
instance:Inhabited zqX:=⟨⟨[],0,[],0⟩⟩
def zqX.d(a:zqX):D:=uT [ab a.us,go a.ms,ab (de a.cut)]
def Cz(p:oB)(l:List JZ)(a:zqX):Prop:=ah a.cut/\∀h,Ev S5 mX 49 [.agg p.l,ab (l.map JZ.row)] h (.Ρ [a.d,go a.e]) h
open Classical in
noncomputable def IQ(p:oB)(l:List JZ):zqX:=if h:∃a,Cz p l a then Classical.choose h else default
theorem NE{p:oB}{l:List JZ}(h:∃a,Cz p l a):Cz p l (IQ p l):=by
 grind [IQ]
structure DegX where
 a:zqX
 met:Bool
 rd:List ZH
 e:Int
def DegX.d(x:DegX):D:=JV [x.a.d,kr x.met,ab (J2 x.rd),go x.e]
def jT(rd:iF)(e:Int):DegX:=⟨⟨[],0,[],0⟩,N,rd,e⟩
def gb(w:kc)(fI d5:Int)(p:oB):oB:=⟨p.nm,p.number,p.υ,p.ZD,p.num,p.den,p.reqs.map (nM w fI d5)⟩
noncomputable def IR(w:kc)(fI d5:Int)(p:oB)(rs:List ZH)(l:List JZ):DegX :=
 let p':=gb w fI d5 p
 let a:=IQ p' l
 match a.e != 0 with
 | true=>jT [] a.e
 | false=>match (cz l).2 != 0 with
  | true=>jT [] (cz l).2
  | false=>match (bX l).2.2 != 0 with
   | true=>jT [] (bX l).2.2
   | false=>match (nW (bX l).1 (bX l).2.1 p.num p.den).2 != 0 with
    | true=>jT [] (nW (bX l).1 (bX l).2.1 p.num p.den).2
    | false=>⟨a,a.ms==0&&lL ((cz l).1>=p.ZD)&&lL ((nW (bX l).1 (bX l).2.1 p.num p.den).1>=0),rs++(p.reqs.map (jE w fI d5)).flatten,0⟩
noncomputable def mK(w:kc)(ps:List oB)(st n fI d5:Int):DegX :=
 match (aI w ps n fI d5).2 with
 | false=>jT (rdT 3 n 0 fI) 0
 | true=>match (dP w st fI d5).2.2 != 0 with
  | true=>jT [] (dP w st fI d5).2.2
  | false=>match (cN w (dP w st fI d5).1 fI d5).2.2 != 0 with
   | true=>jT [] (cN w (dP w st fI d5).1 fI d5).2.2
   | false=>IR w fI d5 (aI w ps n fI d5).1 (rdT 3 n 0 fI++(dP w st fI d5).2.1++(cN w (dP w st fI d5).1 fI d5).2.1) (cN w (dP w st fI d5).1 fI d5).1
theorem mL(h:Ev S5 uS 15 [.agg w.l,go st,go n,go fI,go d5] [] (.Ρ [.agg [nq,go 0,nq],kr false,nq,go e]) []):Ev S5 uS 15 [.agg w.l,go st,go n,go fI,go d5] [] (jT [] e).d []:=U7 h
theorem sN(h:(e != 0)=J):(e==0)=N:=by simpa using h
theorem sO(h:(e != 0)=N):e=0:=by simpa using h
theorem deg_a(hw:w.ok){ps:Is}(hn:(af w.f d5).length<=1000)
  (hp:∀h,Ev S5 uS 40 (zbE w n fI d5) h (.Ρ [.agg (aI w ps n fI d5).1.l,ab (J2 (rdT 3 n 0 fI)),kr (aI w ps n fI d5).2]) h)
  (hok:(aI w ps n fI d5).1.ok) (hq1:(aI w ps n fI d5).1.reqs.length<=1000000) (hq2:∀q∈(aI w ps n fI d5).1.reqs,q.uR.length<=1048576) (hq3:((aI w ps n fI d5).1.reqs.map λq=>q.uR.length).sum<=1048576)
  (ha:(aI w ps n fI d5).2=true->(cN w (dP w st fI d5).1 fI d5).2.2=0->∃a,Cz (gb w fI d5 (aI w ps n fI d5).1) (cN w (dP w st fI d5).1 fI d5).1 a) :
  Ev S5 uS 15 (zdQ w st n fI (go d5)) [] (mK w ps st n fI d5).d []:=by
 unfold mK
 have hb1:(rdT 3 n 0 fI).length<=1000000:=by have:=fk 3 n 0 fI;omega
 generalize hP:aI w ps n fI d5=P at *
 obtain⟨p,ok⟩:=P
 simp only at hp hok hq1 hq2 hq3 ha ⊢
 generalize rdT 3 n 0 fI=q1 at *
 cases ok with
 | false=>exact U7 (nO (dg_N (pc:=[]) hb1 hp) Sv)
 | true =>
  have hrof (h:aT):=Mk hw (st:=st) (fI:=fI) (d5:=d5) h
  obtain⟨l1,l2⟩:=oK hw (st:=st) (fI:=fI) (d5:=d5)
  generalize hR:dP w st fI d5=R at *
  obtain⟨r,q2,e1⟩:=R
  simp only at hrof l1 l2 ha ⊢
  cases h1:e1 != 0 with
  | true=>exact mL (nO (dg_A hb1 hp hrof (Sp (sN h1))) MN)
  | false =>
   have:=sO h1;subst this
   have zmz (h:aT):=HR hw (r:=r) (by omega) (fI:=fI) (d5:=d5) h
   obtain⟨l3,l4⟩:=iY (w:=w) (r:=r) (fI:=fI) (d5:=d5)
   generalize hC:cN w r fI d5=C at *
   obtain⟨l,q3,e2⟩:=C
   simp only at zmz l3 l4 ha ⊢
   cases h2:e2 != 0 with
   | true=>exact mL (nO (dg_A hb1 hp hrof (MM (dg_B (by omega) zmz (Lp (sN h2))))) MN)
   | false =>
    have:=sO h2;subst this
    have hsl:ah l:=by unfold ah;omega
    have haud:=(NE (ha (by trivial) (by grind))).2
    unfold IR
    simp only
    have tail {e:Exit} {H:aT} (ht:CW S5 uS (hA w) false (be (al Tryz.f15) 29) (sgD w (q1++q2++q3++(p.reqs.map (jE w fI d5)).flatten) (IQ (gb w fI d5 p) l).us (de (IQ (gb w fI d5 p) l).cut) (IQ (gb w fI d5 p) l).ms (gb w fI d5 p) r l (IQ (gb w fI d5 p) l).e) e (zbH H)) :
      CW S5 uS (hA w) false (cR (cR (al Tryz.f15))) (sgA w st n fI d5) e (zbH H):=by
     refine dg_A hb1 hp hrof (MM (dg_B (by omega) zmz (Sq ?_)))
     have hl3:(q1++q2).length+q3.length<=3000000000000:=by rw[List.length_append];omega
     by_cases hr0:p.reqs=[]
     ·have e1:p=pZ p:=by cases p;simp only at hr0;subst hr0;rfl
      have e2:gb w fI d5 p=pZ p:=by unfold gb;rw[hr0];rfl
      have e3:(p.reqs.map (jE w fI d5)).flatten=[]:=by rw[hr0];rfl
      rw[e2,e3,List.append_nil] at ht
      rw[e2] at haud
      have:=dg_C0 (w:=w) (fI:=fI) (d5:=d5) (p:=p) (r:=r) (rs:=q1++q2) (q3:=q3) (l:=l) hl3 ET haud ht
      grind
     ·have hcl:=Le (l:=p.reqs) hq1 hr0
      have e1:reqV p.reqs=ad (zcf p):=by simp[ad]
      rw[e1] at hcl
      have hl:=Sa hw (fI:=fI) hn (l:=l) (rs:=q1++q2++q3) (p:=p) (r:=r) (show ah p.reqs by unfold ah;omega) hq2 (by grind)
      have e2:((ad (zcf p)).length:Int)=(p.reqs.length:Int):=by simp
      refine dg_C (Q:=p.reqs.map (nM w fI d5)) (q4:=(p.reqs.map (jE w fI d5)).flatten) hl3 hcl ?_ haud ht
      grind
    generalize IQ (gb w fI d5 p) l=a at *
    generalize q1++q2++q3++(p.reqs.map (jE w fI d5)).flatten=rs at *
    cases h3:a.e != 0 with
    | true=>exact mL (nO (tail (Lq (sN h3))) B5)
    | false =>
     have ea:=sO h3
     rw[ea] at tail
     have zpJ (h:aT):=iQ hsl h
     generalize cz l=E at *
     obtain⟨en,e4⟩:=E
     simp only at zpJ ⊢
     cases h4:e4 != 0 with
     | true=>exact mL (nO (tail (vB (dg_D zpJ (Lr (sN h4))))) B5)
     | false =>
      have:=sO h4;subst this
      have zrp (h:aT):=lA hsl h
      have hI:=iP l
      generalize bX l=M at *
      obtain⟨mn,md,e5⟩:=M
      simp only at zrp hI ⊢
      cases h5:e5 != 0 with
      | true=>exact mL (nO (tail (vB (dg_D zpJ (Ah (dg_E zrp (Ls (sN h5))))))) B5)
      | false =>
       have:=sO h5;subst this
       have hcmp (h:aT):=mF hI.1 hI.2 hok.nm hok.dn h
       try unfold zdK at hcmp
       generalize nW mn md p.num p.den=K at *
       obtain⟨c,e6⟩:=K
       simp only at hcmp ⊢
       cases h6:e6 != 0 with
       | true=>exact mL (nO (tail (vB (dg_D zpJ (Ah (dg_E zrp (HM (dg_F hcmp (Lt (sN h6))))))))) B5)
       | false =>
        have:=sO h6;subst this
        have:=nO (tail (vB (dg_D zpJ (Ah (dg_E zrp (HM (dg_F hcmp (Sr dg_G)))))))) Su
        unfold DegX.d zqX.d
        exact this
end Go.Vi
open Go Go.Proofs
namespace Go.Vi
set_option maxHeartbeats 4000000
set_option maxRecDepth 100000
variable {a b d5 st fI:Int}{i:Nat}{l:iN}{p:oB}{ps:Is}{r:ZH}{w:kc}
theorem pErr_or(p:oB):BD p=0\/BD p=190:=by unfold BD;grind
theorem aErr_or(l:iN):eL l=0\/eL l=150:=by grind [eL]
theorem net_err:(Mt p l).2.2=0/\BD p=0/\eL l=0\/((Mt p l).2.2=150\/(Mt p l).2.2=190\/(Mt p l).2.2=180):=by show(BG p l (fp l).2.2).2.2=0/\_\/((BG p l (fp l).2.2).2.2=150\/(BG p l (fp l).2.2).2.2=190\/(BG p l (fp l).2.2).2.2=180);unfold BG fp;rcases pErr_or p with h|h<;>rcases aErr_or l with h2|h2<;>rw[h,h2]<;>simp
theorem A4{e:Int}(h:∀h,Ev S5 mX 49 [uT p.l,ab (l.map JZ.row)] h (zdd e) h):Cz p l ⟨[],0,[],e⟩:=⟨by simp[ah],λh'=>U7 (h h')⟩
theorem zuq(s:Bv×Nat)(x:Int):(SX s x).1.length=s.1.length:=by unfold SX;simp
theorem IT(by':bV):(H2 by').length=by'.length:=by
 have key:∀(l:bV) (s:Bv×Nat),(l.foldl SX s).1.length=s.1.length:=by
  intro l;induction l with
  |nil=>intro s;rfl
  |cons x l ih=>intro s;rw[TG,ih,zuq]
 unfold H2;rw[key];simp
theorem IU(hp:p.ok)(hr:p.reqs.length<=64)(hl:l.length<=50000):∃a,Cz p l a:=by
 rcases net_err (p:=p) (l:=l) with ⟨_,e1,e2⟩|he
 ·have hN:zck p l:=⟨e1,e2,hr,hl⟩;by_cases hf:znC p l;·have h3:=hf.n;have hn:nN p l=2+l.length+p.reqs.length:=rfl;obtain⟨j,g,hR,hF,k,f,ρ,hB,hT,hg,_⟩:=Rw (es:=oG p l) (n:=nN p l) (uR:=0) (to:=(nN p l:Int)-1) hf.e (λx hx=>(lI hN x hx).inn) (λx hx=>⟨(lI hN x hx).m0,(lI hN x hx).m1⟩) ⟨by omega,by simp;omega⟩ ⟨by omega,by omega⟩ (by omega);refine⟨⟨_,_,H2 g.2,0⟩,?_,Lb hp hN hf hR hF.ok.len⟩;show(H2 g.2).length<=140737488355328;rw[IT,<-hg,hT.len];omega
  ·exact⟨_,A4 (Hy hp hN hf)⟩
 ·exact⟨_,A4 (Hj he (λh=>GW hp (by omega) (by omega) h))⟩
theorem CA(hf:w.f.length<=41):(gU w d5 st fI).length<=41984:=by
 have h1:=fm (er w d5 st fI) 1024 (af w.f d5) (λn _=>Vj (List.length_filterMap_le ..) dq);have h2:=bF (fs:=w.f) (d5:=d5);have h4:(af w.f d5).length*1024<=41*1024:=Vr _ tj;have h3:(jC w d5 st fI).length<=41984:=by unfold jC;omega
 grind [XN,gU]
theorem zpv(w:kc)(ps:Is)(n fI d5:Int):(aI w ps n fI d5).1=Zq\/(aI w ps n fI d5).1∈ps/\zY (aI w ps n fI d5).1=true:=by
 unfold aI;cases zlK fI with
 | true=>exact .inl rfl
 | false =>
  simp only;unfold gR;cases h:jt ps (n7 n) (atR 3 n 0 fI d5 w.f) with
  | true=>exact .inl rfl
  | false =>have h2:=ln h;refine .inr ⟨h2.1,?_⟩;have:=h2.2.1;unfold n7 at this;grind
theorem zi(hs:∀x∈ps,x.ok)(hm:∀x∈ps,(x.reqs.map λq=>q.uR.length).sum<=1048576)(n fI d5:Int):(aI w ps n fI d5).1.ok/\(aI w ps n fI d5).1.reqs.length<=64/\((aI w ps n fI d5).1.reqs.map λq=>q.uR.length).sum<=1048576:=by
 rcases zpv w ps n fI d5 with h|⟨h,h2⟩;·rw[h];exact⟨oB.zkx,by simp[Zq],by simp[Zq]⟩
 ·refine⟨hs _ h,?_,hm _ h⟩;unfold zY at h2;grind
theorem NF{l:iS}{x:Nat}(h:x∈l):x<=l.sum:=by
 induction l with
 |nil=>cases h
 |cons a l ih=>grind
theorem CB(l:bV):(Lib.compact l).length<=l.length:=by grind [List.length_map,Lib.compact,Lib.compactUpTo]
theorem NG{q:γ}(hn:(af w.f d5).length<=1000)(h2:q.uR.length<=1048576):(nM w fI d5 q).ok:=by
 refine⟨?_⟩;show(R8 w fI d5 q).length<=140737488355328;have h:=(rf (fI:=fI) hn q.uR ([],[])).2;unfold R8;split;·simp
 ·refine Vj (CB _) ?_;grind [XN]
theorem IV(h:p.ok)(hq:∀q∈p.reqs,(nM w fI d5 q).ok):(gb w fI d5 p).ok :=⟨by have:=h.sr;grind [gb,ah],by
  intro q hm
  obtain⟨x,hx,rfl⟩:=T2.1 hm
  exact hq x hx,h.nm,h.dn⟩
theorem LS(hw:w.ok)(hf:w.f.length<=41)(hwp:w.p=ps.map Xc)(hs:∀x∈ps,x.ok)(hm:∀x∈ps,(x.reqs.map λq=>q.uR.length).sum<=1048576){n:Int}(h:aT):Ev S5 uS 15 (zdQ w st n fI (go d5)) h (mK w ps st n fI d5).d h:=by
 obtain⟨h1,h2,h3⟩:=zi (w:=w) hs hm n fI d5;have hq:∀q∈(aI w ps n fI d5).1.reqs,q.uR.length<=1048576:=λq hq=>Vj (NF (T2.2 ⟨q,hq,rfl⟩)) h3;refine Ev.zkE rfl (deg_a hw (by have:=bF (fs:=w.f) (d5:=d5);omega) (λh=>?_) h1 tj hq h3 ?_) h;·rw[<-zM];exact z6 hw hwp hs h
 ·intro _ _;refine IU (IV h1 λq hx=>NG (by have:=bF (fs:=w.f) (d5:=d5);omega) (hq q hx)) (by grind [gb]) ?_;have hc:=(iY (w:=w) (r:=(dP w st fI d5).1) (fI:=fI) (d5:=d5)).1;have hr:(dP w st fI d5).1.a.length<=41984:=by
   unfold dP;split;·simp
   ·exact CA hf
  omega
set_option maxHeartbeats 4000000
def SQ(a b:PtT):Bool:=a.fI==b.fI&&(a.value==b.value&&J)
def epF(p:PtT×PtT)(_:Unit):Unit⊕Unit:=if (!SQ p.1 p.2)=true then .inr () else .inl ()
abbrev epX:Unit->Exit×AS:=λ_=>(.ret,{t:=Bn 26 0 [(4,kr N)],h:=[],m:=[]})
abbrev epS(xs ys:bv)(i:Int):AS:={t:=Bn 26 0 [(0,ab xs),(1,ab ys),zer,(12,go xs.length),(13,go i)],h:=[],m:=[]}
abbrev zdC:AS:={t:=Bn 26 0 [(4,kr N)],h:=[],m:=[]}
theorem NH{xs ys:List (List Dp)}{a b:PtT}(hr:ao (i:Int) xs a.row 2)(hr':ao (i:Int) ys b.row 2)(xD:lL ((i:Int)<(xs.length:Int))=true)(hw:S6.wrap ((i:Int)+1)=((i+1:Nat):Int)):(CW S5 mX [] false (sub Tryz.f59 0) (epS xs ys i) (ai (λ_=>epS xs ys ((i+1:Nat):Int)) epX (epF (a,b) ())).1 (ai (λ_=>epS xs ys ((i+1:Nat):Int)) epX (epF (a,b) ())).2):=by
 cases F3:!(a.fI==b.fI&&(a.value==b.value&&true))
 ·exact yX {t:=Bn 26 0 [(0,ab xs),(1,ab ys),(4,kr false),(12,go (↑(S7 xs):Int)),(13,go (S8 S6 ((↑i:Int)+1)))],h:=[],m:=[]} Tr [.st (.mask [0,1,4,12,13])] [.b xD,.r hr,.r hr',.b F3] (by(have hk:(!SQ a b)=false:=F3;simp only[epF,ai,hk];rfl)) (by(have hk:(!SQ a b)=false:=F3;simp only[epF,ai,hw,hk];rfl))
 ·refine yX {t:=Bn 26 0 [(4,kr false)],h:=[],m:=[]} Exit.ret [.st (.mask [4])] [.b xD,.r hr,.r hr',.b F3] ?_ ?_<;>(have hk:(!SQ a b)=true:=F3;simp[epF,ai,hw,hk];done)
theorem NI{xs ys:bv}(xD:lL ((i:Int)<(xs.length:Int))=N):(CW S5 mX [] N (sub Tryz.f59 0) (epS xs ys i) (η 0) zdC):=yx zcg [.b xD]
def epR(xs ys:List PtT):Unit⊕Unit:=Pu epF (xs.zip ys) ()
theorem ep_cw{xs ys:List PtT}(hl:ah xs)(he:(((xs.map V2).length:Int) != ((ys.map V2).length:Int))=false):CW S5 mX [] false (.loop (sub Tryz.f59 0)) (epS (xs.map V2) (ys.map V2) 0) (bf (.exit 0) (λ_:Unit=>zdC) epX (epR xs ys)).1 (bf (.exit 0) (λ_:Unit=>zdC) epX (epR xs ys)).2:=by
 have hlen:xs.length=ys.length:=by simp at he;omega
 have hz:(xs.zip ys).length=xs.length:=by simp[hlen]
 refine CW.each (xs.zip ys) epF (λi _=>epS (xs.map V2) (ys.map V2) (i:Int)) (.exit 0) (λ_=>zdC) epX (λ_ _=>True) (by simp) (λ_=>by simp[epX]) ?_ ?_ () trivial
 ·intro i p u hp _;obtain⟨hi,he⟩:=Td.1 hp;have hx:i<xs.length:=by omega
  have hy:i<ys.length:=by omega
  have h1:xs[i]? = some p.1:=by subst he;simp[hx]
  have h2:ys[i]? = some p.2:=by subst he;simp[hy]
  exact⟨λ_ _=>trivial,NH (a:=p.1) (b:=p.2) (rowAt h1 rfl) (rowAt h2 rfl) (κ _ hx) (J3 hx hl)⟩
 ·intro u _;rw[hz];exact NI (aR _ xs)
def mM(xs ys:List PtT):Bool:=if (((xs.map V2).length:Int) != ((ys.map V2).length:Int))=J then N else match epR xs ys with | .inl _=>J | .inr _=>N
theorem EU{xs ys:List PtT}(hl:ah xs)(h:aT):(Ev S5 mX 59 [ab (xs.map V2),ab (ys.map V2)] h (kr (mM xs ys)) h):=by
 cases F3:(↑(S7 (S2 V2 xs)):Int) != (↑(S7 (S2 V2 ys)):Int)
 ·have hl1:=(@ep_cw (xs) (ys) (hl) (F3));revert hl1;cases ho2:epR xs ys with
  |inl ztz=>intro hl1;exact yD (kr J) [.b F3,.s [0,1,4,12,13] hl1] h (by simp only[mM,F3,ho2];rfl)
  |inr zty=>intro hl1;exact yD (kr N) [.b F3,.s [0,1,4,12,13] hl1] h (by simp only[mM,F3,ho2];rfl)
 ·exact yD (kr N) [.b F3] h (by simp only[mM,F3];rfl)
def eH(l:AT)(r:ZH)(d5:Int):List PtT:=aH r.kind r.sub r.obj r.uR r.til d5 l
abbrev alS(l rs:bv)(a b:Int)(i:Int):AS:={t:=Bn 38 0 [(0,ab l),(2,go a),(3,go b),(zfS 8),(11,ab rs),(12,go rs.length),(13,go i)],h:=[],m:=[]}
abbrev alX:Unit->Exit×AS:=λ_=>(.ret,{t:=Bn 38 0 [(8,kr N)],h:=[],m:=[]})
def alF(l:AT)(a b:Int)(r:ZH)(_:Unit):Unit⊕Unit:=bif mM (eH l r a) (eH l r b) then .inl () else .inr ()
theorem ji{r:ZH}{d5:Int}{l:AT}(hl:ah l)(h:aT):Ev S5 mX 60 [ab (l.map Ta),uT [go r.kind,go r.sub,go r.obj],go r.uR,go r.til,go d5] h (ab ((eH l r d5).map V2)) h:=iM hl h
attribute [local irreducible] eH mM
theorem al_t{b:Bool}(h:(!b)=N):b=J:=uU
theorem al_f{b:Bool}(h:(!b)=J):b=N:=uU
noncomputable abbrev eY(r:ZH):aT:=[iI (zdg r)]
theorem NJ{l:List JX}{rs:List (List Dp)}(hl:ah l)(hs:ah (eH l r a))(hr:ao (i:Int) rs r.row 5)(xD:lL ((i:Int)<(rs.length:Int))=true)(hw:S6.wrap ((i:Int)+1)=((i+1:Nat):Int)):(CW S5 mX [] false (sub Zj 0) (alS (l.map Ta) rs a b i) (ai (λ_=>alS (l.map Ta) rs a b ((i+1:Nat):Int)) alX (alF l a b r ())).1 (ai (λ_=>alS (l.map Ta) rs a b ((i+1:Nat):Int)) alX (alF l a b r ())).2):=by
 cases F3:!mM (eH l r a) (eH l r b)
 ·exact yX {t:=Bn 38 0 [(0,ab (S2 Ta l)),(2,go a),(3,go b),(8,kr false),(11,ab rs),(12,go (↑(S7 rs):Int)),(13,go (S8 S6 ((↑i:Int)+1)))],h:=[],m:=[]} Tr [.st (.mask [0,2,3,8,11,12,13]),.st (.trim 0)] [.b xD,.r hr,.v (@ji r a l hl (eY r)),.v (@ji r b l hl (eY r)),.v (@EU (eH l r a) (eH l r b) hs (eY r)),.b F3] (by(have hh:mM (eH l r a) (eH l r b)=true:=al_t F3;simp[alF,hh,ai];first|done|rfl)) (by(have hh:mM (eH l r a) (eH l r b)=true:=al_t F3;simp[alF,hh,ai,hw];first|done|rfl))
 ·refine yX {t:=Bn 38 0 [(8,kr false)],h:=[],m:=[]} Exit.ret [.st (.mask [8]),.st (.trim 0)] [.b xD,.r hr,.v (@ji r a l hl (eY r)),.v (@ji r b l hl (eY r)),.v (@EU (eH l r a) (eH l r b) hs (eY r)),.b F3] ?_ ?_<;>(have hh:mM (eH l r a) (eH l r b)=false:=al_f F3;simp[alF,hh,ai];first|done|rfl)
abbrev zgM:AS:={t:=Bn 38 0 [],h:=[],m:=[]}
theorem NK{l rs:bv}(xD:lL ((i:Int)<(rs.length:Int))=N):(CW S5 mX [] N (sub Zj 0) (alS l rs a b i) (η 0) zgM):=yx (zbU [] 0) [.b xD]
def NL(l:List JX)(rs:List ZH)(a b:Int):Exit×AS:=bf (.exit 0) (λ_:Unit=>{t:=Bn 38 0 [],h:=[],m:=[]}) alX (Pu (alF l a b) rs ())
theorem zj{l:AT}:ah (eH l r a):=by have:=dq (kk:=r.kind) (ks:=r.sub) (ko:=r.obj) (uR:=r.uR) (to:=r.til) (d5:=a) (l:=l);unfold eH ah;omega
theorem al_cw{l:AT}{rs:iF}{a b:Int}(hl:ah l)(hs:ah rs):CW S5 mX [] false (.loop (sub Zj 0)) (alS (l.map Ta) (J2 rs) a b 0) (NL l rs a b).1 (NL l rs a b).2:=by
 have:=CW.each (P:=S5) (Γ:=mX) (h0:=[]) (rd:=false) (c:=sub Zj 0) rs (alF l a b) (λi _=>alS (l.map Ta) (J2 rs) a b (i:Int)) (.exit 0) (λ_:Unit=>zgM) alX (λ_ _=>True) (by simp) (λ_=>by simp) ?_ ?_ () trivial;·exact this
 ·intro i p u hp _;have hi:=(Td.1 hp).1;exact⟨λ_ _=>trivial,NJ hl zj (rowAt hp rfl) (κ Xd hi) (J3 hi hs)⟩
 ·intro u _;exact NK (aR Xd rs)
def jB(l:AT)(rs:iF)(a b:Int):Bool:=match Pu (alF l a b) rs () with
 |.inl _=>J
 |.inr _=>N
theorem A5{l:AT}{rs:iF}{a b:Int}(hl:ah l)(hs:ah rs)(h:aT):(Ev S5 mX 18 [ab (l.map Ta),ab (J2 rs),go a,go b] h (kr (jB l rs a b)) h):=by
 have Pq:=(@al_cw (l) (rs) (a) (b) (hl) (hs));unfold NL at Pq;revert Pq;cases ho1:Pu (alF l a b) rs () with
 |inl ξ=>intro Pq;exact yD (kr J) [.s [0,2,3,8,11,12,13] Pq] h (by simp[jB,ho1];done)
 |inr zce=>intro Pq;exact yD (kr N) [.s [0,2,3,8,11,12,13] Pq] h (by simp[jB,ho1];done)
theorem EV{l:AT}{rs:iF}:jB l rs a b=rs.all λr=>mM (eH l r a) (eH l r b):=by
 unfold jB;induction rs with
 | nil=>rfl
 | cons r rs ih =>grind [Pu,alF]
theorem IW{a b:List PtT}(h:mM a b=true):a=b:=by
 unfold mM at h;split at h;·cases h
 ·rename_i hn;have hlen:a.length=b.length:=by simp at hn;omega
  have key:∀{a b:List PtT},a.length=b.length->Pu epF (a.zip b) ()=.inl ()->a=b:=by
   intro a;induction a with
   | nil=>grind
   | cons x a ih =>
    intro b hb hf;cases b with
    | nil=>simp at hb
    | cons y b =>
     simp only[List.zip_cons_cons,Pu,epF] at hf;split at hf
     ·rename_i h1;split at h1;·cases h1
      ·rename_i h2;have e:SQ x y=true:=by simpa using h2
       simp[SQ] at e;have:x=y:=by cases x;cases y;simp_all
       grind
     ·cases hf
  grind [epR]
end Go.Vi
open Go Go.Proofs
namespace Go.Vi
set_option maxRecDepth 100000
set_option maxHeartbeats 4000000
variable {a b d e e1 e2 ea ZD k kind kk d5 ko ks n obj st fI x:Int}{f:JX}{g:Int->Int}{i t:Nat}{ns nw:bV}{p:oB}{ps:Is}{q1 q2 rs:iF}{s:VS}{w:kc}{α β:Type}
def zk(kind st obj fI:Int):Bool:=kind != 2&&kind != 3&&kind != 4||lL (st<0)||lL (st>=20000)||lL (fI<0)||lL (fI>=1024)||(kind==3&&!amt obj)
structure OfX where
 ans:Int
 q:iF
 e:Int
def ofX(kind st obj fI:Int)(q1:iF)(x:VwX)(fe cl ho:Int×Int):OfX:=match zk kind st obj fI with
 |true=>⟨0,[],1⟩
 |false=>match kind==3 with
  |true=>⟨fe.1,q1,fe.2⟩
  |false=>match x.e != 0 with
   |true=>⟨0,q1++x.q,x.e⟩
   |false=>match kind==2 with
    |true=>⟨cl.1,q1++x.q,cl.2⟩
    |false=>⟨ho.1,q1++x.q,ho.2⟩
noncomputable abbrev A6(w:kc)(fI:Int)(d5:Int)(s:zcR)(q1:iF)(q2:iF)(n:Int)(d:Int):aT:=[iI (ZA w),iI (zhn 2 2 w fI d5),.lk (zct q1 q2) 2 5,iI (zcc s (S2 X8 s.clauses)),iI [go n,go d]]
noncomputable abbrev uz(w:kc)(fI:Int)(d5:Int)(s:zcR)(q1:iF)(q2:iF):aT:=[iI (ZA w),iI (zhn 2 2 w fI d5),.lk (zct q1 q2) 2 5,iI (zcc s (S2 X8 s.clauses))]
noncomputable abbrev ow(w:kc)(fI:Int)(d5:Int)(s:zcR)(q1:iF):aT:=[iI (ZA w),iI (zhn 2 1 w fI d5),.lk (ad (J2 q1)) 1 5,iI (zcc s (S2 X8 s.clauses))]
noncomputable abbrev ox(w:kc)(fI:Int)(d5:Int)(q1:iF):aT:=[iI (ZA w),iI (zhn 2 1 w fI d5),.lk (ad (J2 q1)) 1 5]
noncomputable abbrev oy(w:kc)(fI:Int)(d5:Int):aT:=[iI (ZA w),iI (zhn 2 0 w fI d5),.lk [] 0 5]
noncomputable abbrev lg(w:kc):aT:=[iI (ZA w)]
abbrev zbA(a b c:Int):Bool:=(!(a != 2&&a != 3&&a != 4||lL (b<0)||lL (b>=20000)||lL (c<0)||lL (c>=1024))&&a==3)
abbrev zb5(a:kc)(b c d e:Int)(f:D):bY:=[uT a.l,go b,go c,go d,go e,f]
theorem sof_a{s:zcR}{en f1 f2 c1 c2 h1 h2:Int}(hs:Ev S5 uS 54 za8 (vwH w fI d5 [] 0) (ag s.row) (vwH w fI d5 q1 1))(hc:Ev S5 uS 56 (zde 0 st) (vwH w fI d5 q1 0) (JV [go en,uT [go n,go d],go e]) (vwH w fI d5 (q1++q2) 1))(hf:∀h,Ev S5 uS 55 [ag s.row,go obj] h (JV [go f1,go f2]) h)(hk:∀h,Ev S5 uS 57 [ag s.row,go en,uT [go n,go d]] h (JV [go c1,go c2]) h)(hh:∀h,Ev S5 uS 58 [ag s.row,go en,uT [go n,go d]] h (JV [go h1,go h2]) h)(h:aT):(Ev S5 uS 17 (zb5 w kind st obj fI (go d5)) h (JV [go (ofX kind st obj fI q1 ⟨en,n,d,e,q2⟩ (f1,f2) (c1,c2) (h1,h2)).ans,ab (J2 (ofX kind st obj fI q1 ⟨en,n,d,e,q2⟩ (f1,f2) (c1,c2) (h1,h2)).q),go (ofX kind st obj fI q1 ⟨en,n,d,e,q2⟩ (f1,f2) (c1,c2) (h1,h2)).e]) h):=by
 cases F3:kind != 2&&kind != 3&&kind != 4||lL (st<0)||lL (st>=20000)||lL (fI<0)||lL (fI>=1024)||kind==3&&!amt obj
 ·cases Α:kind==3
  ·cases hc2:e != 0
   ·cases hc3:kind==2;·refine Tw (U7 (y0 (d:=TT [go h1,ab (J2 (q1++q2)),go h2]) [.w (zbA kind st fI) (Tp (Γ':=uS) (@dG obj (lg w))),.b F3,.n 1,.o (.zjT 1 0 5),.c ((fX [1,2] (@hs) ⟨uU,trivial⟩ ⟨?_,trivial⟩):Ev S5 uS 54 zcq (oy w fI d5) (ag (Tj s)) (ox w fI d5 q1)),.b Α,.c ((fX [1,2] (Ev.upX [0,1] (@hc) Z ⟨?_,trivial⟩ ⟨?_,trivial⟩) ⟨?_,trivial⟩ ⟨?_,trivial⟩):Ev S5 uS 56 (zde 1 st) (ow w fI d5 s q1) (TT [go en,TF [go n,go d],go e]) (uz w fI d5 s q1 q2)),.b hc2,.b hc3,.v (@hh (A6 w fI d5 s q1 q2 n d)),(uU:ad (J2 (q1++q2))=S2 (λx=>S2 D.p x) (J2 (q1++q2))),.o (zed 2 (J2 (q1++q2)))] h)) (by(have z0:zk kind st obj fI=N:=F3;simp only[ofX,z0,Α,hc2,hc3];first|done|rfl)) ο<;>(exact aj _ _)
    ·refine Tw (U7 (y0 (d:=TT [go c1,ab (J2 (q1++q2)),go c2]) [.w (zbA kind st fI) (Tp (Γ':=uS) (@dG obj (lg w))),.b F3,.n 1,.o (.zjT 1 0 5),.c ((fX [1,2] (@hs) ⟨uU,trivial⟩ ⟨?_,trivial⟩):Ev S5 uS 54 zcq (oy w fI d5) (ag (Tj s)) (ox w fI d5 q1)),.b Α,.c ((fX [1,2] (Ev.upX [0,1] (@hc) Z ⟨?_,trivial⟩ ⟨?_,trivial⟩) ⟨?_,trivial⟩ ⟨?_,trivial⟩):Ev S5 uS 56 (zde 1 st) (ow w fI d5 s q1) (TT [go en,TF [go n,go d],go e]) (uz w fI d5 s q1 q2)),.b hc2,.b hc3,.v (@hk (A6 w fI d5 s q1 q2 n d)),(uU:ad (J2 (q1++q2))=S2 (λx=>S2 D.p x) (J2 (q1++q2))),.o (zed 2 (J2 (q1++q2)))] h)) (by(have z0:zk kind st obj fI=N:=F3;simp only[ofX,z0,Α,hc2,hc3];first|done|rfl)) ο<;>(exact aj _ _)
   ·refine Tw (U7 (y0 (d:=TT [go 0,ab (J2 (q1++q2)),go e]) [.w (zbA kind st fI) (Tp (Γ':=uS) (@dG obj (lg w))),.b F3,.n 1,.o (.zjT 1 0 5),.c ((fX [1,2] (@hs) ⟨uU,trivial⟩ ⟨?_,trivial⟩):Ev S5 uS 54 zcq (oy w fI d5) (ag (Tj s)) (ox w fI d5 q1)),.b Α,.c ((fX [1,2] (Ev.upX [0,1] (@hc) Z ⟨?_,trivial⟩ ⟨?_,trivial⟩) ⟨?_,trivial⟩ ⟨?_,trivial⟩):Ev S5 uS 56 (zde 1 st) (ow w fI d5 s q1) (TT [go en,TF [go n,go d],go e]) (uz w fI d5 s q1 q2)),.b hc2,(uU:ad (J2 (q1++q2))=S2 (λx=>S2 D.p x) (J2 (q1++q2))),.o (zed 2 (J2 (q1++q2)))] h)) (by(have z0:zk kind st obj fI=N:=F3;simp only[ofX,z0,Α,hc2];first|done|rfl)) ο<;>(exact aj _ _)
  ·exact Tw (U7 (y0 (d:=TT [go f1,ab (J2 q1),go f2]) [.w (zbA kind st fI) (Tp (Γ':=uS) (@dG obj (lg w))),.b F3,.n 1,.o (.zjT 1 0 5),.c ((fX [1,2] (@hs) ⟨uU,trivial⟩ ⟨(by exact aj _ _),trivial⟩):Ev S5 uS 54 zcq (oy w fI d5) (ag (Tj s)) (ox w fI d5 q1)),.b Α,.v (@hf (ow w fI d5 s q1)),(uU:ad (J2 q1)=S2 (λx=>S2 D.p x) (J2 q1)),.o (zed 2 (J2 q1))] h)) (by(have z0:zk kind st obj fI=N:=F3;simp[ofX,z0,Α];first|done|rfl)) ο
 ·exact Tw (U7 (y0 (d:=TT [go 0,nq,go 1]) [.w (zbA kind st fI) (Tp (Γ':=uS) (@dG obj (lg w))),.b F3] h)) (by(have z0:zk kind st obj fI=J:=F3;simp only[ofX,z0];first|done|rfl)) ο
theorem sys_ok(hw:w.ok):(bU w fI d5).1.ok:=by
 have hz:WG.ok:=⟨by simp[WG,Xt],by simp[WG,Xt],by simp[WG,Xt],by simp[WG,Xt,ah],by simp[WG,Xt,ah],by simp[WG,Xt,ah],by simp[WG,Xt,ah]⟩;unfold bU;split;·exact hz
 ·unfold gR;split;·exact hz
  ·rename_i h;exact hw.s _ (ln h).1
theorem NM(hn:Ψ n)(hd:Ψ d):Ψ (vwX q1 q2 e1 e2 ea ZD n d e).n/\Ψ (vwX q1 q2 e1 e2 ea ZD n d e).d:=by
 unfold vwX;split;·exact⟨gV,gV⟩
 ·split;·exact⟨gV,gV⟩
  ·split;·exact⟨gV,gV⟩
   grind
abbrev HW(w:kc)(fI d5:Int):zcR:=(bU w fI d5).1
def jU(w:kc)(kind st obj fI d5:Int):OfX :=ofX kind st obj fI (rdT 4 0 0 fI) (j9 w st fI d5) (Nv (HW w fI d5).sys obj)
  (ofR (HW w fI d5).sys (HW w fI d5).sys.Υ (j9 w st fI d5).ZD (j9 w st fI d5).n (j9 w st fI d5).d)
  (ofR (HW w fI d5).sys (HW w fI d5).sys.zas (j9 w st fI d5).ZD (j9 w st fI d5).n (j9 w st fI d5).d)
theorem LT(hw:w.ok)(h:aT):Ev S5 uS 17 (zb5 w kind st obj fI (go d5)) h (JV [go (jU w kind st obj fI d5).ans,ab (J2 (jU w kind st obj fI d5).q),go (jU w kind st obj fI d5).e]) h:=by
 have hi:Ψ (j9 w st fI d5).n/\Ψ (j9 w st fI d5).d:=NM (iP _).1 (iP _).2;have hl:=fk 4 0 0 fI;have hs:(HW w fI d5).sys.ok:=sys_ok hw
 exact sof_a (s:=HW w fI d5) (q1:=rdT 4 0 0 fI) (q2:=(j9 w st fI d5).q)
  (LA hw (rs:=[]) F1) (LB hw tj) (λh=>Tp (fee_ev hs obj h)) (λh=>Tp (IE hs hi.1 hi.2 h)) (λh=>Tp (EK hs hi.1 hi.2 h)) h
def IX(s:VS)(n:Nat):Int:=bif s.2.getD n N then SV (s.1.getD n default).value else -1
def uA(kk ks ko d5:Int)(l:AT):bV:=(T1 1024).map (IX (l.foldl (ziw kk ks ko d5) vZ))
theorem CC(s:VS)(rs:bV)(h:rs.length=1024)(n i:Nat):(zjP s rs n).getD i 0=if i=n/\n<1024 then IX s n else rs.getD i 0:=by unfold IX zjP;grind
theorem CD(s:VS)(rs:bV)(n:Nat):(zjP s rs n).length=rs.length:=by unfold zjP;grind
theorem sP(kk ks ko d5:Int)(l:AT):bJ kk ks ko d5 l=uA kk ks ko d5 l:=by
 unfold bJ uA yb;generalize l.foldl (ziw kk ks ko d5) vZ=s;have hz:(Ti 1024 (0:Int)).length=1024:=List.length_replicate ..;have hz2:∀i,(Ti 1024 (0:Int)).getD i 0=0:=λi=>uU
 revert hz hz2;generalize Ti 1024 (0:Int)=z;intro hz hz2;have key:∀m,m<=1024->((T1 m).foldl (zjP s) z).length=1024/\∀i,((T1 m).foldl (zjP s) z).getD i 0=if i<m then IX s i else 0:=by
  intro m;induction m with
  |zero=>grind
  |succ m ih=>intro hm;obtain⟨h1,h2⟩:=ih tj;rw[List.range_succ,List.foldl_append];simp only[TG,List.foldl_nil];refine⟨by rw[CD];exact h1,λi=>?_⟩;rw[CC s _ h1,h2];grind
 obtain⟨h1,h2⟩:=key 1024 (Nat.le_refl _);refine List.ext_getElem (by rw[h1];simp) λi hi1 hi2=>?_;have:=h2 i;rw[List.getD,TH hi1] at this;rw[h1] at hi1;simp_all
theorem EW(hs:s.ok){n:Nat}(hn:n<1024):((ie f s n).1.getD t default,(ie f s n).2.getD t N)=if t=n/\zlG f (s.1.getD t default) (s.2.getD t N)=J then (f,J) else (s.1.getD t default,s.2.getD t N):=by
 unfold ie;by_cases ht:t=n
 ·subst ht;cases h:zlG f (s.1.getD t default) (s.2.getD t N);·simp
  ·simp only[cond_true,and_self,if_true];grind [hs.1,hs.2]
 grind
theorem sQ{f:JX}{t:Nat}:∀(ns:iS) (s:VS),s.ok->ns.Nodup->(∀n∈ns,n<1024)->((ns.foldl (ie f) s).1.getD t default,(ns.foldl (ie f) s).2.getD t N)=if t∈ns/\zlG f (s.1.getD t default) (s.2.getD t N)=J then (f,J) else (s.1.getD t default,s.2.getD t N)
 | [],s,_,_,_=>F1
 |n::ns,s,hs,hd,hb=>by rw[List.nodup_cons] at hd;have hn:=hb n F1;have h1:=EW (f:=f) hs (t:=t) hn;have h2:=sQ (f:=f) (t:=t) ns (ie f s n) (zmn n hs) hd.2 (λm hm=>hb m (by simp[hm]));grind
theorem NN(ht:t<1024)(f:JX)(hs:s.ok):((ziw kk ks ko d5 s f).1.getD t default,(ziw kk ks ko d5 s f).2.getD t N)=rJ kk ks ko (t:Int) d5 (s.1.getD t default,s.2.getD t N) f:=by
 unfold ziw rJ;cases zmO kk ks ko d5 f;·rfl
 ·simp only[cond_true];unfold vaF Ka;have hlo:0<=PY f/\(PY f=f.uR\/(PY f=0/\f.uR<=0)):=by unfold PY;simp;split<;>omega
  have hhi:C8 f<=1024/\(C8 f=f.til\/(C8 f=1024/\1024<=f.til)):=by unfold C8;split<;>omega
  rw[sQ _ _ hs (List.nodup_range' ..) uU];unfold dv EM;have hm:(t∈List.range' (PY f).toNat (C8 f-PY f).toNat) ↔ f.uR<=(t:Int)/\(t:Int)<f.til:=by rw[List.mem_range'_1];omega
  have hv:(!s.2.getD t N||lL (orI (cF f.d5 (s.1.getD t default).d5) (cF f.no (s.1.getD t default).no)>=0))=zlG f (s.1.getD t default) (s.2.getD t N):=rfl;grind
theorem zl(ht:t<1024):∀(l:AT) (s:VS),s.ok->((l.foldl (ziw kk ks ko d5) s).1.getD t default,(l.foldl (ziw kk ks ko d5) s).2.getD t N)=l.foldl (rJ kk ks ko (t:Int) d5) (s.1.getD t default,s.2.getD t N)
 | [],_,_=>rfl
 |f::l,s,hs=>by rw[TG,TG,zl ht l _ (zoC f hs),NN ht f hs]
theorem jV{l:AT}(ht:t<1024):(bJ kk ks ko d5 l).getD t 0=IX (l.foldl (ziw kk ks ko d5) vZ) t:=by rw[sP];unfold uA;simp[List.getD,ht]
theorem EX{n:Nat}{x z:α}(h:t<n):(Ti n x).getD t z=x:=uU
def atV(v:Int):Int×Bool:=bif lL (v<0) then (0,N) else (v,J)
theorem w8{l:AT}(ht:t<1024):atR kk ks ko (t:Int) d5 l=atV ((bJ kk ks ko d5 l).getD t 0):=by
 have h:=zl (kk:=kk) (ks:=ks) (ko:=ko) (d5:=d5) ht l vZ Ke;have hz:(vZ.1.getD t default,vZ.2.getD t N)=(fz,N):=by unfold vZ;rw[EX ht,EX ht]
 rw[hz] at h;rw[jV ht];unfold atR IX;rw[<-h];simp only;cases (l.foldl (ziw kk ks ko d5) vZ).2.getD t N;·rfl
 ·simp only[Bool.not_true,Bool.false_or,cond_true,SV,if_true,atV];grind
theorem sR{l:AT}(ht:t<1024):aH kk ks ko (t:Int) ((t:Int)+1) d5 l=(ptO (bJ kk ks ko d5 l) t).toList:=by
 unfold aH;rw[GD];have h1:Mg (t:Int)=(t:Int):=by unfold Mg;simp;omega
 have h2:vF ((t:Int)+1)=(t:Int)+1:=by unfold vF;split<;>omega
 rw[h1,h2];grind
theorem uB{l:AT}(h0:0<=fI)(h1:fI<=1023)(h:aH kk ks ko fI (fI+1) a l=aH kk ks ko fI (fI+1) b l):atR kk ks ko fI a l=atR kk ks ko fI b l:=by
 obtain⟨t,rfl⟩:∃t:Nat,fI=(t:Int):=⟨fI.toNat,tj⟩;have ht:t<1024:=tj
 rw[sR ht,sR ht] at h;rw[w8 ht,w8 ht];generalize (bJ kk ks ko a l)=x at h ⊢;generalize (bJ kk ks ko b l)=y at h ⊢;unfold ptO at h;unfold atV;grind
def Θ(l:AT)(rs:iF)(a b:Int):Prop:=∀r∈rs,eH l r a=eH l r b
theorem EY{l:AT}(h:jB l rs a b=J):Θ l rs a b:=by intro r hr;rw[EV,List.all_eq_true] at h;exact IW (h r hr)
theorem Θ.rd{l:AT}(h:Θ l (rdT kk ks ko fI) a b)(ht:zlK fI=N):atR kk ks ko fI a l=atR kk ks ko fI b l:=by
 have hr:0<=fI/\fI<=1023:=by simpa[zlK] using ht
 have hw:S6.wrap (fI+1)=fI+1:=wrap_i64 tj tj;have:=h ⟨kk,ks,ko,fI,S6.wrap (fI+1)⟩ (by unfold rdT;rw[ht];simp);rw[hw] at this;exact uB hr.1 hr.2 this
theorem fE(h:Θ w.f (rdT 1 n 0 fI) a b):ac w n fI a=ac w n fI b:=by
 unfold ac;cases ht:zlK fI;·simp only;rw[h.rd ht]
 ·rfl
theorem w9(h:Θ w.f (rdT 4 0 0 fI) a b):bU w fI a=bU w fI b:=by
 unfold bU;cases ht:zlK fI;·simp only;rw[h.rd ht]
 ·rfl
theorem gM(h:Θ w.f [rdN] a b):af w.f a=af w.f b:=by have h1:aH 12 0 0 0 (0+1) a w.f=aH 12 0 0 0 (0+1) b w.f:=h rdN F1;have:=uB tj tj h1;unfold af sM;rw[this]
theorem dd{f g:α->List β}:∀{l:List α},(∀x∈l,f x=g x)->l.flatMap f=l.flatMap g
 | [],_=>rfl
 |x::l,h=>by rw[Yl,Yl,h x F1,dd λy hy=>h y (by simp[hy])]
theorem ia{f g:α->Option β}:∀{l:List α},(∀x∈l,f x=g x)->l.filterMap f=l.filterMap g
 | [],_=>rfl
 |x::l,h=>by rw[X1,X1,h x F1,ia λy hy=>h y (by simp[hy])]
theorem IY(h:Θ w.f (co w a st fI n) a b):co w a st fI n=co w b st fI n/\er w a st fI n=er w b st fI n:=by
 have hp:zS w a st fI n=zS w b st fI n:=h ⟨5,st,n,0,fI⟩ (by simp[co]);refine⟨by unfold co;rw[hp],?_⟩;unfold er;rw[<-hp];refine ia λp hpm=>?_;unfold Mi;cases hb:zle p;·simp only[cond_false];have:ac w n p.fI a=ac w n p.fI b:=fE λr hr=>h r (by unfold co;refine List.mem_cons_of_mem _ (Yu.2 ⟨p,hpm,?_⟩);unfold rdO;grind);unfold GB;rw[this]
 ·rfl
theorem xa(h:Θ w.f (ba w a st fI) a b):ba w a st fI=ba w b st fI/\gU w a st fI=gU w b st fI:=by have hn:=gM (w:=w) (a:=a) (b:=b) λr hr=>h r (by unfold ba;grind);have key:∀n∈af w.f a,co w a st fI n=co w b st fI n/\er w a st fI n=er w b st fI n:=λn hm=>IY λr hr=>h r (by unfold ba;grind);unfold ba gU jC;rw[<-hn,dd λn hm=>(key n hm).1,dd λn hm=>(key n hm).2];grind
theorem qk(h:Θ w.f (dP w st fI a).2.1 a b):dP w st fI a=dP w st fI b:=by
 unfold dP at h ⊢;cases hb:Dd st fI;·rw[hb] at h;obtain⟨h1,h2⟩:=xa h;grind
 ·rfl
theorem xd:0<=(ac w n fI d5).1.rep/\(ac w n fI d5).1.rep<=2:=by
 have hz:0<=L9.zero.rep/\L9.zero.rep<=2:=by decide
 unfold ac;split;·exact hz
 ·unfold gR;split;·exact hz
  ·rename_i hb;have:=(ln hb).2.1;simp only[iK,fP,inB,Tm,decide_eq_true_eq] at this;grind
theorem EZ{l:iN}(hg:∀c,0<=g c/\g c<=2):∀(es:List CaE) (s:IM×IM),(∀e∈es,e.1.2=g e.1.1.lm)->(∀c v,ap s.1 c=some v->v=g c)->∃s',Pu (caE l) es s=.inl s'
 | [],s,_,_=>⟨s,rfl⟩
 | e::es,s,he,hs=>by
  have h1:=he e (by simp);have hb:iW e.1.2 (ap s.1 e.1.1.lm)=false:=by
   unfold iW;have:=hg e.1.1.lm;rw[h1];cases hq:ap s.1 e.1.1.lm with
   | none=>simp;omega
   | some v =>grind
  simp only[Pu,caE,caF,hb];refine EZ hg es _ (λx hx=>he x (by simp[hx])) ?_;intro c v hc;simp only at hc;rw[yg] at hc;grind
theorem A7{l:iN}(hg:∀c,0<=g c/\g c<=2)(h:eL l=0):(nj l (l.map λa=>g a.lm)).2=0:=by obtain⟨s,hs⟩:=EZ (l:=l) hg (caL l (l.map λa=>g a.lm)) ([],[]) (by intro e he;unfold caL at he;grind) (by grind [ap]);unfold nj caR;grind
theorem rep_g(w:kc)(d5 fI:Int)(l:iN):jm w d5 fI l=l.map λa=>(λc=>(ac w c fI d5).1.rep) a.lm:=rfl
theorem sU{r:Τ}(h:Θ w.f (cN w r fI a).2.1 a b):cN w r fI a=cN w r fI b:=by
 unfold cN at h ⊢;cases hb:vD r fI
 ·by_cases he:eL r.a=0
  ·have ha:=A7 (l:=r.a) (g:=λc=>(ac w c fI a).1.rep) (λc=>xd) he;have hbq:=A7 (l:=r.a) (g:=λc=>(ac w c fI b).1.rep) (λc=>xd) he;rw[<-rep_g] at ha hbq;rw[hb,ha] at h;simp only[rcX] at h;have hr:jm w a fI r.a=jm w b fI r.a:=by unfold jm;refine WT λx hx=>?_;rw[fE (w:=w) (n:=x.lm) (fI:=fI) (a:=a) (b:=b) λq hq=>h q (Yu.2 ⟨x,hx,hq⟩)]
   rw[hr]
  ·have h1:(eL r.a != 0)=J:=by simpa using he
   rw[vC h1,vC h1]
 ·rfl
theorem E6(s:RL)(n:Int):∃t,(eqN w fI d5 a s n).1=s.1++t:=by
 unfold eqN;cases s.2.contains n;·grind
 simp_all
theorem jW{w:kc}{fI d5 a:Int}:∀(ns:bV) (s:RL),∃t,(ns.foldl (eqN w fI d5 a) s).1=s.1++t
 | [],s=>⟨[],F1⟩
 |n::ns,s=>by obtain⟨t1,h1⟩:=E6 (w:=w) (fI:=fI) (d5:=d5) (a:=a) s n;obtain⟨t2,h2⟩:=jW (w:=w) (fI:=fI) (d5:=d5) (a:=a) ns (eqN w fI d5 a s n);grind
theorem ql{w:kc}{fI d5:Int}{ns:bV}:∀(f i:Nat) (s:RL),∃t,(zge w fI d5 ns f i s).1=s.1++t
 |0,_,s=>⟨[],by simp[zge]⟩
 |f+1,i,s=>by
  cases ha:s.2[i]? with
  |none=>exact⟨[],by rw[gi ha];simp⟩
  |some a=>obtain⟨t1,h1⟩:=jW (w:=w) (fI:=fI) (d5:=d5) (a:=a) ns s;obtain⟨t2,h2⟩:=ql (w:=w) (fI:=fI) (d5:=d5) (ns:=ns) f (i+1) (zkz w fI d5 ns a s);exact⟨t1++t2,by simp[zge,ha];rw[h2];unfold zkz;grind⟩
theorem bO{l:AT}{p q:iF}(h:Θ l (p++q) a b):Θ l p a b/\Θ l q a b :=⟨λr hr=>h r (List.mem_append_left _ hr),λr hr=>h r (List.mem_append_right _ hr)⟩
theorem E7(h0:0<=fI)(h1:fI<=1023)(s:RL)(n:Int)(h:Θ w.f (eqN w fI a x s n).1 a b):eqN w fI a x s n=eqN w fI b x s n:=by
 unfold eqN at h ⊢;cases hc:s.2.contains n
 ·rw[hc] at h;simp only[cond_false] at h ⊢;have hw:S6.wrap (fI+1)=fI+1:=wrap_i64 tj tj;have h2:=(bO h).2 ⟨2,mnI x n,mxI x n,fI,S6.wrap (fI+1)⟩ F1;simp[eH,hw] at h2;have h3:=uB h0 h1 h2;have:zor w fI a x n=zor w fI b x n:=by unfold zor;rw[h3]
  rw[this]
 ·rfl
theorem qm(h0:0<=fI)(h1:fI<=1023):∀(ns:bV) (s:RL),Θ w.f (ns.foldl (eqN w fI a x) s).1 a b->ns.foldl (eqN w fI a x) s=ns.foldl (eqN w fI b x) s
 | [],_,_=>rfl
 |n::ns,s,h=>by
  rw[TG] at h;have h2:Θ w.f (eqN w fI a x s n).1 a b:=by obtain⟨t,ht⟩:=jW (w:=w) (fI:=fI) (d5:=a) (a:=x) ns (eqN w fI a x s n);rw[ht] at h;exact(bO h).1
  have e:=E7 h0 h1 s n h2;rw[TG,TG,<-e];exact qm h0 h1 ns _ h
theorem qn(h0:0<=fI)(h1:fI<=1023):∀(f i:Nat) (s:RL),Θ w.f (zge w fI a ns f i s).1 a b->zge w fI a ns f i s=zge w fI b ns f i s
 |0,_,_,_=>rfl
 |f+1,i,s,h=>by
  cases ha:s.2[i]? with
  |none=>rw[gi ha,gi ha]
  |some x=>
   simp[zge,ha] at h ⊢;have h2:Θ w.f (zkz w fI a ns x s).1 a b:=by obtain⟨t,ht⟩:=ql (w:=w) (fI:=fI) (d5:=a) (ns:=ns) f (i+1) (zkz w fI a ns x s);rw[ht] at h;exact(bO h).1
   have e:zkz w fI a ns x s=zkz w fI b ns x s:=qm h0 h1 ns s h2;rw[<-e];exact qn h0 h1 f (i+1) _ h
theorem xe{c:Int}(hn:af w.f a=af w.f b)(h:Θ w.f (bQ w c fI a).1 a b):bQ w c fI a=bQ w c fI b:=by
 unfold bQ at h ⊢;cases hc:(!(lL (c>=0)&&lL (c<=4095))||!(lL (fI>=0)&&lL (fI<=1023)));·rw[hc] at h;simp only[Bool.or_eq_false_iff,Bool.not_eq_false',Tm,decide_eq_true_eq] at hc;simp only at h ⊢;unfold DE;unfold lQ at h ⊢;rw[<-hn];rw[qn hc.2.1 hc.2.2 _ _ _ h]
 ·rfl
theorem sV(h:Θ w.f (rdT 3 n 0 fI) a b):aI w ps n fI a=aI w ps n fI b:=by
 unfold aI;cases ht:zlK fI;·simp only;rw[h.rd ht]
 ·rfl
theorem xf(hn:af w.f a=af w.f b):∀(cs:bV) (s:iF×bV),Θ w.f (cs.foldl (frF w fI a) s).1 a b->cs.foldl (frF w fI a) s=cs.foldl (frF w fI b) s
 | [],_,_=>rfl
 |c::cs,s,h=>by
  have h2:=h;rw[TG,iU] at h2;have h3:=(bO h2).1;have e:frF w fI a s c=frF w fI b s c:=by unfold frF at h3 ⊢;rw[xe hn (bO h3).2]
  rw[TG] at h;rw[TG,TG,<-e];exact xf hn cs _ h
theorem E8(hn:af w.f a=af w.f b){q:γ}(h:Θ w.f (jE w fI a q) a b):jE w fI a q=jE w fI b q/\nM w fI a q=nM w fI b q:=by have e:=xf hn q.uR ([],[]) h;refine⟨by unfold jE;rw[e],?_⟩;unfold nM R8;rw[e]
theorem zm(hn:af w.f a=af w.f b)(h:Θ w.f (p.reqs.map (jE w fI a)).flatten a b):gb w fI a p=gb w fI b p/\p.reqs.map (jE w fI a)=p.reqs.map (jE w fI b):=by
 have key:∀q∈p.reqs,jE w fI a q=jE w fI b q/\nM w fI a q=nM w fI b q:=λq hq=>
  E8 hn λr hr=>h r (List.mem_flatten.2 ⟨_,T2.2 ⟨q,hq,rfl⟩,hr⟩)
 refine⟨?_,WT λq hq=>(key q hq).1⟩;unfold gb;simp_all
theorem CE(he:(mK w ps st n fI a).e=0)(h:Θ w.f (mK w ps st n fI a).rd a b):mK w ps st n fI a=mK w ps st n fI b:=by
 unfold mK at he h ⊢;cases h1:(aI w ps n fI a).2 with
 |false=>rw[h1] at h;have e:=sV (ps:=ps) (w:=w) (a:=a) (b:=b) h;rw[<-e,h1]
 |true=>
  rw[h1] at he h;simp only at he h;cases h2:(dP w st fI a).2.2 != 0 with
  |true=>rw[h2] at he;simp[jT] at he;simp[he] at h2
  |false=>
   rw[h2] at he h;simp only at he h;cases h3:(cN w (dP w st fI a).1 fI a).2.2 != 0 with
   |true=>rw[h3] at he;simp[jT] at he;simp[he] at h3
   |false=>
    rw[h3] at he h;simp only at he h;generalize hl:(cN w (dP w st fI a).1 fI a).1=l at *;unfold IR at he h;simp only at he h;have hA:Θ w.f (rdT 3 n 0 fI++(dP w st fI a).2.1++(cN w (dP w st fI a).1 fI a).2.1++((aI w ps n fI a).1.reqs.map (jE w fI a)).flatten) a b:=by
     cases h4:(IQ (gb w fI a (aI w ps n fI a).1) l).e != 0 with
     |true=>rw[h4] at he;simp[jT] at he;simp[he] at h4
     |false=>
      rw[h4] at he h;simp only at he h;cases h5:(cz l).2 != 0 with
      |true=>rw[h5] at he;simp[jT] at he;simp[he] at h5
      |false=>
       rw[h5] at he h;simp only at he h;cases h6:(bX l).2.2 != 0 with
       |true=>rw[h6] at he;simp[jT] at he;simp[he] at h6
       |false=>
        rw[h6] at he h;simp only at he h;cases h7:(nW (bX l).1 (bX l).2.1 (aI w ps n fI a).1.num (aI w ps n fI a).1.den).2 != 0 with
        |true=>rw[h7] at he;simp[jT] at he;simp[he] at h7
        |false=>grind
    obtain⟨hB,hF⟩:=bO hA;obtain⟨hC,hR⟩:=bO hB;obtain⟨hP,hO⟩:=bO hC;have eP:=sV (ps:=ps) hP;have eO:=qk hO;have hn:af w.f a=af w.f b:=by
     refine gM λr hr=>hO r ?_;unfold dP at h2 ⊢;cases hb:Dd st fI;·simp at hr;simp[ba,hr]
     ·grind
    have eR:=sU hR;obtain⟨eF,eQ⟩:=zm hn hF;rw[<-eP,h1,<-eO];simp only;rw[h2,<-eR,h3];simp only;rw[hl];unfold IR;rw[<-eF,<-eQ]
theorem xg{w:kc}{fI d5:Int}(hn:(af w.f d5).length<=1000):∀qs:Or,(qs.map (jE w fI d5)).flatten.length<=(qs.map λq=>q.uR.length).sum*1001001
 | []=>F1
 |q::qs=>by have h1:=B3 (w:=w) (fI:=fI) hn q;have h2:=xg (fI:=fI) hn qs;grind
theorem fh(h:rs.length<=1):(jT rs e).rd.length<=100000000000000:=by show rs.length<=_;omega
theorem IZ(hn:(af w.f d5).length<=1000)(hs:(p.reqs.map λq=>q.uR.length).sum<=1048576){l:iN}(hr:rs.length<=1000000000):(IR w fI d5 p rs l).rd.length<=100000000000000:=by
 have h:=xg (w:=w) (fI:=fI) hn p.reqs;have h2:(p.reqs.map λq=>q.uR.length).sum*1001001<=1048576*1001001:=Vr _ hs;unfold IR;dsimp only;split;·exact fh F1
 ·split;·exact fh F1
  ·split;·exact fh F1
   ·split;·exact fh F1
    grind
theorem sW(hw:w.ok)(hn:(af w.f d5).length<=1000)(hs:((aI w ps n fI d5).1.reqs.map λq=>q.uR.length).sum<=1048576):ah (mK w ps st n fI d5).rd:=by
 have h1:=fk 3 n 0 fI;have h2:=oK hw (st:=st) (fI:=fI) (d5:=d5);have h3:=iY (w:=w) (r:=(dP w st fI d5).1) (fI:=fI) (d5:=d5);have key:(mK w ps st n fI d5).rd.length<=100000000000000:=by
  unfold mK;split;·exact fh h1
  ·split;·exact fh F1
   ·split;·exact fh F1
    ·exact IZ hn hs uU
 unfold ah;omega
structure QuT where
 kind:Int
 st:Int
 obj:Int
 fI:Int
variable {q:QuT}
def QuT.row(q:QuT):dO:=[vi q.kind,vi q.st,vi q.obj,vi q.fI]
structure zgF where
 q:QuT
 ans:Int
 last:Int
 d5:Int
 now:bV
 reads:iF
 named:bV
variable {r:zgF×Int}
def zgF.ok(d:zgF):Prop:=ah d.now/\ah d.reads/\ah d.named
abbrev Z6(a:zgF):bY:=[go a.q.kind,go a.q.st,go a.q.obj,go a.q.fI,go a.ans,go a.last,go a.d5,ab (aA a.now),ab (J2 a.reads),ab (aA a.named)]
def zgF.l(d:zgF):bY:=(Z6 d)
def zgF.zero:zgF:=⟨⟨0,0,0,0⟩,0,0,0,[],[],[]⟩
theorem zgF.zkx:zgF.zero.ok:=⟨by simp[zgF.zero,ah],by simp[zgF.zero,ah],by simp[zgF.zero,ah]⟩
abbrev srS(l:bv)(i:Int):AS:={t:=Bn 26 0 [(0,ab l),(1,ab l),zer,(5,go i)],h:=[],m:=[]}
theorem rdself(r:ZH):(!(r.kind==r.kind&&(r.sub==r.sub&&(r.obj==r.obj&&J))&&(r.uR==r.uR&&(r.til==r.til&&J))))=N:=F1
theorem I2{l:bv}{r:ZH}(hr:ao (i:Int) l r.row 5)(hz:(!(r.kind==r.kind&&(r.sub==r.sub&&(r.obj==r.obj&&J))&&(r.uR==r.uR&&(r.til==r.til&&J))))=N)(xD:lL ((i:Int)<(l.length:Int))=J)(hw:S6.wrap ((i:Int)+1)=((i+1:Nat):Int)):(CW S5 mX [] N (sub Tryz.f16 0) (srS l i) NO (srS l ((i+1:Nat):Int))):=by refine yX {t:=Bn 26 0 [(0,ab l),(1,ab l),zer,(5,(ZZ i))],h:=[],m:=[]} Tr [δ (τ [0,1,4,5])] [.b xD,.r hr,.r hr,.b hz] ?_ ?_<;>(grind)
abbrev zfL:AS:={t:=Bn 26 0 [],h:=[],m:=[]}
theorem I3{l:bv}(xD:lL ((i:Int)<(l.length:Int))=N):(CW S5 mX [] N (sub Tryz.f16 0) (srS l i) (η 0) zfL):=yx zbN [.b xD]
theorem srr_cw{l:iF}(hl:ah l):CW S5 mX [] false (.loop (sub Tryz.f16 0)) (srS (J2 l) 0) (.exit 0) zfL:=by
 refine CW.znq l.length (λi=>srS (J2 l) (i:Int)) (by simp) (λi hi=>?_) ?_;·exact I2 (rowAt (TH hi) rfl) (rdself _) (κ Xd hi) (J3 hi hl)
 ·exact I3 (aR Xd l)
theorem gN{l:iF}(hl:ah l)(hn:(((J2 l).length:Int) != ((J2 l).length:Int))=N)(h:aT):(Ev S5 mX 16 [ab (J2 l),ab (J2 l)] h (kr J) h):=by have Pq:=(@srr_cw (l) (hl));exact y0 [.b hn,.s [0,1,4,5] Pq] h
theorem inself(a:Int):(a != a)=N:=F1
theorem I4{l:bv}(hr:ao (i:Int) l [vi a] 1)(hz:(a != a)=N)(xD:lL ((i:Int)<(l.length:Int))=J)(hw:S6.wrap ((i:Int)+1)=((i+1:Nat):Int)):(CW S5 mX [] N (sub Tryz.f19 0) (srS l i) NO (srS l ((i+1:Nat):Int))):=by refine yX {t:=Bn 26 0 [(0,ab l),(1,ab l),zer,(5,(ZZ i))],h:=[],m:=[]} Tr [δ (τ [0,1,4,5])] [.b xD,.r hr,.r hr,.b hz] ?_ ?_<;>(grind)
theorem I5{l:bv}(xD:lL ((i:Int)<(l.length:Int))=N):(CW S5 mX [] N (sub Tryz.f19 0) (srS l i) (η 0) zfL):=yx zbN [.b xD]
theorem sii_cw{l:bV}(hl:ah l):CW S5 mX [] false (.loop (sub Tryz.f19 0)) (srS (aA l) 0) (.exit 0) zfL:=by
 refine CW.znq l.length (λi=>srS (aA l) (i:Int)) (by simp) (λi hi=>?_) ?_;·exact I4 (rowAt (row:=λn:Int=>[vi n]) (TH hi) rfl) (inself _) (κ (λn:Int=>[vi n]) hi) (J3 hi hl)
 ·exact I5 (aR (λn:Int=>[vi n]) l)
theorem jj{l:bV}(hl:ah l)(hn:(((aA l).length:Int) != ((aA l).length:Int))=N)(h:aT):(Ev S5 mX 19 [ab (aA l),ab (aA l)] h (kr J) h):=by have Pq:=(@sii_cw (l) (hl));exact y0 [.b hn,.s [0,1,4,5] Pq] h
def eZ(q:QuT)(d5 ans:Int)(rd:iF)(e:Int):zgF×Int:=match e != 0 with
 |true=>(zgF.zero,e)
 |false=>(⟨q,ans,ans,d5,[],rd,[]⟩,0)
abbrev ZR:bY:=[go 0,go 0,go 0,go 0,go 0,go 0,go 0,nq,nq,nq]
abbrev zbY(a:QuT)(b c:Int)(d:D)(e:iF)(f:D):bY:=[go a.kind,go a.st,go a.obj,go a.fI,go b,go b,go c,d,ab (J2 e),f]
theorem jX{q:QuT}{d5 ans e:Int}{rd:iF}(h:aT):(Ev S5 mX 129 [ag q.row,go d5,go ans,ab (J2 rd),go e] h (zes ((eZ q d5 ans rd e).1.l) ((eZ q d5 ans rd e).2)) h):=by
 cases F3:e != 0;·exact Tw (U7 (y0 (d:=TT [TF (zbY q ans d5 nq rd nq),go 0]) [.b F3] h)) (by simp[eZ,F3];rfl) ο
 ·exact Tw (U7 (y0 (d:=TT [TF ZR,go e]) [.b F3] h)) (by simp[eZ,F3];rfl) ο
abbrev zad(a:QuT):bY:=[go a.kind,go a.st,go a.obj,go a.fI]
abbrev zhG(a:kc)(b:QuT)(c:bY):aT:=[iI (ZA a),iI (zad b),iI c]
noncomputable abbrev sX(w:kc)(q:QuT):aT:=(zhG w q ZR)
abbrev zeb(a:bY)(b:QuT)(c:Int)(d:bV):bY:=[uT a,ag b.row,go c,ab (aA d)]
theorem NP{rd:iF}(hs:∀h,Ev S5 uS 17 (zb5 w q.kind q.st q.obj q.fI (go d5)) h (JV [go a,ab (J2 rd),go e]) h)(h:aT):(Ev S5 uS 65 (zeb w.l q d5 nw) h (JV [uT (eZ q d5 a rd e).1.l,go (eZ q d5 a rd e).2]) h):=y0 [.v (@hs (sX w q)),.v (Tp (Γ':=uS) (@jX q d5 a e rd (sX w q)))] h
noncomputable abbrev xh(w:kc)(q:QuT)(ms:Int)(us:bv)(ct:Bv):aT:=[iI (ZA w),iI (zad q),iI ZR,iI (zdY us ms (S2 (λb=>[Dp.v (Value.bool b)]) ct))]
noncomputable abbrev xi(w:kc)(q:QuT):aT:=(zhG w q ZR)
abbrev zao(a:zgF×Int):bY:=[go a.fst.q.kind,go a.fst.q.st,go a.fst.q.obj,go a.fst.q.fI,go a.fst.ans,go a.fst.last,go a.fst.d5,ab (aA a.fst.now),ab (J2 a.fst.reads),ab (aA a.fst.named)]
abbrev zjb(a:bv)(c:Int)(d:Bv)(f:Bool)(g:iF)(h:Int):D:=(JV [uT (zdY a c (d.map λb=>[.v (.bool b)])),kr f,ab (J2 g),go h])
theorem grad_a{ms:Int}{us:bv}{ct:Bv}{mt:Bool}{rd:iF}(hs:∀h,Ev S5 uS 15 (zdQ w q.st q.obj q.fI (go d5)) h (zjb us ms ct mt rd e) h)(h:aT):(Ev S5 uS 66 (zeb w.l q d5 nw) h (JV [uT (eZ q d5 (bif mt then 1 else 0) rd e).1.l,go (eZ q d5 (bif mt then 1 else 0) rd e).2]) h):=by
 cases F3:mt;·exact yD (TT [TF (zao (eZ q d5 0 rd e)),go (eZ q d5 0 rd e).2]) [.v (@hs (xi w q)),.b F3,.v (Tp (Γ':=uS) (@jX q d5 0 e rd (xh w q ms us ct)))] h ο
 ·exact yD (TT [TF (zao (eZ q d5 1 rd e)),go (eZ q d5 1 rd e).2]) [.v (@hs (xi w q)),.b F3,.v (Tp (Γ':=uS) (@jX q d5 1 e rd (xh w q ms us ct)))] h ο
def jq(m:Int)(q:QuT):Bool:=lL (q.st<0)||lL (q.st>=20000)||lL (q.fI<0)||lL (q.fI>=1024)||lL (q.obj<0)||lL (q.obj>m)
def NQ(k:Int):DO:=if k=1 then G 4095 else if k=2 then G 0 else if k=3 then G 10000 else if k=4 then G 0 else if k=5 then G 255 else Y
def cP(q:QuT):Int:=match NQ q.kind with
 |none=>340
 |some m=>bif jq m q then 340 else 0
abbrev zaR:List (D×D×Nat):=[(go 1,uT [go 4095,fq 64],0),(go 2,uT [go 0,fq 65],1),(go 3,uT [go 10000,fq 65],2),(go 4,uT [go 0,fq 65],3),(go 5,uT [go 255,fq 66],4)]
abbrev qkM:aT:=[Η zaR 5]
abbrev zjj:D:=TF [go 0,fq 65]
abbrev zal:List (D×D×Nat):=[(go 1,TF [go 4095,fq 64],0),(go 2,zjj,1),(go 3,TF [go 10000,fq 65],2),(go 4,zjj,3),(go 5,TF [go 255,fq 66],4)]
theorem ztp:(Ev S5 mX 23 [] [] (mW (.mp 0)) qkM):=Tw (yF (h':=[Η zal 5]) (d:=mW (.mp 0)) []) ο ο
theorem bB(h:aT):Ev S5 mX 23 [] h (mW (.mp h.length)) (h++qkM):=ztp.zqO Z rfl h
abbrev zcJ:bY:=[go 4095,fq 64]
abbrev zh7(a:bY):At:=(G (TT [TF a,kr J]))
theorem qk1_a(h:aT):(Ev S5 mX 13 [uT (zaL 1 st obj fI)] h (go (bif jq 4095 ⟨1,st,obj,fI⟩ then 340 else 0)) h):=by
 cases F3:!true||lL (st<0)||lL (st>=20000)||lL (fI<0)||lL (fI>=1024)||lL (obj<0)||lL (obj>4095)
 ·exact yD (go 0) [.n 1,.a1 .late,.c (@bB ([iI (zaL 1 st obj fI)])),pe zab,pe zab,pe zab,po (Ω 1),po (Ω 1),po (Ω 1),po (zh7 zcJ),po (zh7 zcJ),.b F3] h (by(have hh:jq 4095 ⟨1,st,obj,fI⟩=N:=F3;rw[hh];rfl))
 ·exact yD (go 340) [.n 1,.a1 .late,.c (@bB ([iI (zaL 1 st obj fI)])),pe zab,pe zab,pe zab,po (Ω 1),po (Ω 1),po (Ω 1),po (zh7 zcJ),po (zh7 zcJ),.b F3] h (by(have hh:jq 4095 ⟨1,st,obj,fI⟩=J:=F3;rw[hh];rfl))
abbrev zbx(a:Int):At:=(zh7 [go a,fq 65])
theorem qk2_a(h:aT):(Ev S5 mX 13 [uT (zaL 2 st obj fI)] h (go (bif jq 0 ⟨2,st,obj,fI⟩ then 340 else 0)) h):=by
 cases F3:!true||lL (st<0)||lL (st>=20000)||lL (fI<0)||lL (fI>=1024)||lL (obj<0)||lL (obj>0)
 ·exact yD (go 0) [.n 1,.a1 .late,.c (@bB ([iI (zaL 2 st obj fI)])),pe zab,pe zab,pe zab,po (Ω 2),po (Ω 2),po (Ω 2),po (zbx 0),po (zbx 0),.b F3] h (by(have hh:jq 0 ⟨2,st,obj,fI⟩=N:=F3;rw[hh];rfl))
 ·exact yD (go 340) [.n 1,.a1 .late,.c (@bB ([iI (zaL 2 st obj fI)])),pe zab,pe zab,pe zab,po (Ω 2),po (Ω 2),po (Ω 2),po (zbx 0),po (zbx 0),.b F3] h (by(have hh:jq 0 ⟨2,st,obj,fI⟩=J:=F3;rw[hh];rfl))
theorem qk3_a(h:aT):(Ev S5 mX 13 [uT (zaL 3 st obj fI)] h (go (bif jq 10000 ⟨3,st,obj,fI⟩ then 340 else 0)) h):=by
 cases F3:!true||lL (st<0)||lL (st>=20000)||lL (fI<0)||lL (fI>=1024)||lL (obj<0)||lL (obj>10000)
 ·exact yD (go 0) [.n 1,.a1 .late,.c (@bB ([iI (zaL 3 st obj fI)])),pe zab,pe zab,pe zab,po (Ω 3),po (Ω 3),po (Ω 3),po (zbx 10000),po (zbx 10000),.b F3] h (by(have hh:jq 10000 ⟨3,st,obj,fI⟩=N:=F3;rw[hh];rfl))
 ·exact yD (go 340) [.n 1,.a1 .late,.c (@bB ([iI (zaL 3 st obj fI)])),pe zab,pe zab,pe zab,po (Ω 3),po (Ω 3),po (Ω 3),po (zbx 10000),po (zbx 10000),.b F3] h (by(have hh:jq 10000 ⟨3,st,obj,fI⟩=J:=F3;rw[hh];rfl))
theorem qk4_a(h:aT):(Ev S5 mX 13 [uT (zaL 4 st obj fI)] h (go (bif jq 0 ⟨4,st,obj,fI⟩ then 340 else 0)) h):=by
 cases F3:!true||lL (st<0)||lL (st>=20000)||lL (fI<0)||lL (fI>=1024)||lL (obj<0)||lL (obj>0)
 ·exact yD (go 0) [.n 1,.a1 .late,.c (@bB ([iI (zaL 4 st obj fI)])),pe zab,pe zab,pe zab,po (Ω 4),po (Ω 4),po (Ω 4),po (zbx 0),po (zbx 0),.b F3] h (by(have hh:jq 0 ⟨4,st,obj,fI⟩=N:=F3;rw[hh];rfl))
 ·exact yD (go 340) [.n 1,.a1 .late,.c (@bB ([iI (zaL 4 st obj fI)])),pe zab,pe zab,pe zab,po (Ω 4),po (Ω 4),po (Ω 4),po (zbx 0),po (zbx 0),.b F3] h (by(have hh:jq 0 ⟨4,st,obj,fI⟩=J:=F3;rw[hh];rfl))
abbrev zc3:bY:=[go 255,fq 66]
theorem qk5_a(h:aT):(Ev S5 mX 13 [uT (zaL 5 st obj fI)] h (go (bif jq 255 ⟨5,st,obj,fI⟩ then 340 else 0)) h):=by
 cases F3:!true||lL (st<0)||lL (st>=20000)||lL (fI<0)||lL (fI>=1024)||lL (obj<0)||lL (obj>255)
 ·exact yD (go 0) [.n 1,.a1 .late,.c (@bB ([iI (zaL 5 st obj fI)])),pe zab,pe zab,pe zab,po (Ω 5),po (Ω 5),po (Ω 5),po (zh7 zc3),po (zh7 zc3),.b F3] h (by(have hh:jq 255 ⟨5,st,obj,fI⟩=N:=F3;rw[hh];rfl))
 ·exact yD (go 340) [.n 1,.a1 .late,.c (@bB ([iI (zaL 5 st obj fI)])),pe zab,pe zab,pe zab,po (Ω 5),po (Ω 5),po (Ω 5),po (zh7 zc3),po (zh7 zc3),.b F3] h (by(have hh:jq 255 ⟨5,st,obj,fI⟩=J:=F3;rw[hh];rfl))
theorem lkQ{h:aT}(h1:¬k=1)(h2:¬k=2)(h3:¬k=3)(h4:¬k=4)(h5:¬k=5)(hb:h[1]? = some (.map zaR 5)):aw S5 h 71 zea (go k) true=some (.Ρ [.agg [go 0,lit .nilFunc],kr false]):=by
 have e1:S5.underlying 71=some (.map 3 70):=by kernel_rfl
 have e2:cV S5 3 (go k)=true:=by kernel_rfl
 have e3:jp S5 70=some (.agg #[.int .i64 0,.nilFunc]):=by kernel_rfl
 have e4:dz (go k) zaR 0=some none:=by
  have n1:ew (go k) (go 1)=some false:=by simp[ew,h1]
  have n2:ew (go k) (go 2)=some false:=by simp[ew,h2]
  have n3:ew (go k) (go 3)=some false:=by simp[ew,h3]
  have n4:ew (go k) (go 4)=some false:=by simp[ew,h4]
  have n5:ew (go k) (go 5)=some false:=by simp[ew,h5]
  simp only[dz,n1,n2,n3,n4,n5]
 unfold aw;simp only[e1,lU,hb,e2,if_true,e3,e4];rfl
theorem lkQ2(h1:¬k=1)(h2:¬k=2)(h3:¬k=3)(h4:¬k=4)(h5:¬k=5):LkIs S5 71 zaR (go k) J (JV [uT [go 0,lit .nilFunc],kr N]):=by have:=lkQ (h:=[S3,Η zaR 5]) h1 h2 h3 h4 h5 rfl;grind [lU,LkIs,aw]
noncomputable abbrev I6(k:Int)(st:Int)(obj:Int)(fI:Int):aT:=[iI (zaL k st obj fI),Η zal 5]
theorem qkN_a(h1:¬k=1)(h2:¬k=2)(h3:¬k=3)(h4:¬k=4)(h5:¬k=5)(h:aT):(Ev S5 mX 13 [uT (zaL k st obj fI)] h (go 340) h):=by let v0:aT:=[Η zal 0];let v1:=TT [TF [go 0,D.p (Dp.v T5)],kr N];refine yD (go 340) [.n 1,.a1 .late,.c (@bB ([iI (zaL k st obj fI)])),(?_:@Eq (At) (aw S5 (I6 k st obj fI) 71 zea (go k) J) (G v1)),pe zab,pe zab,pe zab,po (Ω k),po (Ω k),po (Ω k),(?_:@Eq (At) (aw S5 v0 71 (mW (.mp 0)) (go k) J) (G v1)),(?_:@Eq (At) (aw S5 v0 71 (mW (.mp 0)) (go k) J) (G v1)),.a1 (zjr 9 (TT [TF [go 0,lit T5],kr N])),.e] h (by subst v0 v1;grind)<;>subst v0 v1<;>(first|exact lkQ h1 h2 h3 h4 h5 rfl|exact lkQ2 h1 h2 h3 h4 h5)
theorem zmG(k:Int):k=1\/k=2\/k=3\/k=4\/k=5\/(¬k=1/\¬k=2/\¬k=3/\¬k=4/\¬k=5):=tj
theorem qo(q:QuT)(h:aT):Ev S5 mX 13 [ag q.row] h (go (cP q)) h:=by
 obtain⟨k,st,obj,fI⟩:=q;rcases zmG k with rfl|rfl|rfl|rfl|rfl|⟨h1,h2,h3,h4,h5⟩
 ·exact qk1_a h
 ·exact qk2_a h
 ·exact qk3_a h
 ·exact qk4_a h
 ·exact qk5_a h
 ·have:cP ⟨k,st,obj,fI⟩=340:=by simp[cP,NQ,h1,h2,h3,h4,h5]
  rw[this];exact qkN_a h1 h2 h3 h4 h5 h
abbrev qA(w:kc)(q:QuT)(d5:Int)(nw:List Int):List D:=[.agg w.l,ag q.row,go d5,ab (aA nw)]
noncomputable abbrev CF(w:kc)(q:QuT):aT:=(zhG w q ZR)
theorem E9(hz:(e != 0)=J)(hk:∀h,Ev S5 uS 13 [ag q.row] h (go e) h)(h:aT):(Ev S5 uS 10 (qA w q d5 nw) h (JV [uT zgF.zero.l,go e]) h):=Tw (U7 (y0 (d:=TT [TF ZR,go e]) [.v (@hk (CF w q)),.b hz] h)) ο ο
noncomputable abbrev I7(w:kc)(st:Int)(obj:Int)(fI:Int):aT:=[iI (ZA w),iI (zaL 2 st obj fI),iI ZR,Η zal 5]
noncomputable abbrev A9(w:kc)(st:Int)(obj:Int)(fI:Int):aT:=[iI (ZA w),iI (zaL 2 st obj fI),iI ZR]
abbrev zaI(a:zgF×Int):D:=(JV [uT a.1.l,go a.2])
theorem ans_2(hk:∀h,Ev S5 uS 13 [uT (zaL 2 st obj fI)] h (go 0) h)(hs:∀h,Ev S5 uS 65 [uT w.l,uT (zaL 2 st obj fI),go d5,ab (aA nw)] h (zaI r) h)(h:aT):(Ev S5 uS 10 [uT w.l,uT (zaL 2 st obj fI),go d5,ab (aA nw)] h (zaI r) h):=y0 [.v (@hk (A9 w st obj fI)),.e,.c (Tp (Γ':=uS) (@bB (A9 w st obj fI))),.v (@hs (I7 w st obj fI)),pe zbB,pe zbB,po (Ω 2),po (Ω 2),po (G (zjj)),pe (TF (TC w)),pe (TF (TC w)),pe (TF (zaL 2 st obj fI)),pe (TF (zaL 2 st obj fI))] h
noncomputable abbrev I8(w:kc)(st:Int)(obj:Int)(fI:Int):aT:=[iI (ZA w),iI (zaL 3 st obj fI),iI ZR,Η zal 5]
noncomputable abbrev Ba(w:kc)(st:Int)(obj:Int)(fI:Int):aT:=[iI (ZA w),iI (zaL 3 st obj fI),iI ZR]
theorem ans_3(hk:∀h,Ev S5 uS 13 [uT (zaL 3 st obj fI)] h (go 0) h)(hs:∀h,Ev S5 uS 65 [uT w.l,uT (zaL 3 st obj fI),go d5,ab (aA nw)] h (zaI r) h)(h:aT):(Ev S5 uS 10 [uT w.l,uT (zaL 3 st obj fI),go d5,ab (aA nw)] h (zaI r) h):=y0 [.v (@hk (Ba w st obj fI)),.e,.c (Tp (Γ':=uS) (@bB (Ba w st obj fI))),.v (@hs (I8 w st obj fI)),pe zbB,pe zbB,po (Ω 3),po (Ω 3),po (G (TF [go 10000,fq 65])),pe (TF (TC w)),pe (TF (TC w)),pe (TF (zaL 3 st obj fI)),pe (TF (zaL 3 st obj fI))] h
noncomputable abbrev I9(w:kc)(st:Int)(obj:Int)(fI:Int):aT:=[iI (ZA w),iI (zaL 4 st obj fI),iI ZR,Η zal 5]
noncomputable abbrev Bb(w:kc)(st:Int)(obj:Int)(fI:Int):aT:=[iI (ZA w),iI (zaL 4 st obj fI),iI ZR]
theorem ans_4(hk:∀h,Ev S5 uS 13 [uT (zaL 4 st obj fI)] h (go 0) h)(hs:∀h,Ev S5 uS 65 [uT w.l,uT (zaL 4 st obj fI),go d5,ab (aA nw)] h (zaI r) h)(h:aT):(Ev S5 uS 10 [uT w.l,uT (zaL 4 st obj fI),go d5,ab (aA nw)] h (zaI r) h):=y0 [.v (@hk (Bb w st obj fI)),.e,.c (Tp (Γ':=uS) (@bB (Bb w st obj fI))),.v (@hs (I9 w st obj fI)),pe zbB,pe zbB,po (Ω 4),po (Ω 4),po (G (zjj)),pe (TF (TC w)),pe (TF (TC w)),pe (TF (zaL 4 st obj fI)),pe (TF (zaL 4 st obj fI))] h
noncomputable abbrev Ja(w:kc)(st:Int)(obj:Int)(fI:Int):aT:=[iI (ZA w),iI (zaL 5 st obj fI),iI ZR,Η zal 5]
noncomputable abbrev Bc(w:kc)(st:Int)(obj:Int)(fI:Int):aT:=[iI (ZA w),iI (zaL 5 st obj fI),iI ZR]
theorem ans_5(hk:∀h,Ev S5 uS 13 [uT (zaL 5 st obj fI)] h (go 0) h)(hs:∀h,Ev S5 uS 66 [uT w.l,uT (zaL 5 st obj fI),go d5,ab (aA nw)] h (zaI r) h)(h:aT):(Ev S5 uS 10 [uT w.l,uT (zaL 5 st obj fI),go d5,ab (aA nw)] h (zaI r) h):=y0 [.v (@hk (Bc w st obj fI)),.e,.c (Tp (Γ':=uS) (@bB (Bc w st obj fI))),.v (@hs (Ja w st obj fI)),pe zbB,pe zbB,po (Ω 5),po (Ω 5),po (G (TF zc3)),pe (TF (TC w)),pe (TF (TC w)),pe (TF (zaL 5 st obj fI)),pe (TF (zaL 5 st obj fI))] h
noncomputable def HX(w:kc)(ps:Is)(q:QuT)(d5:Int):zgF×Int:=match cP q != 0 with
 |true=>(zgF.zero,cP q)
 |false=>match q.kind==5 with
  |true=>eZ q d5 (bif (mK w ps q.st q.obj q.fI d5).met then 1 else 0) (mK w ps q.st q.obj q.fI d5).rd (mK w ps q.st q.obj q.fI d5).e
  |false=>eZ q d5 (jU w q.kind q.st q.obj q.fI d5).ans (jU w q.kind q.st q.obj q.fI d5).q (jU w q.kind q.st q.obj q.fI d5).e
theorem ans_ev(hw:w.ok)(hf:w.f.length<=41)(hp:w.p=ps.map Xc)(hs:∀x∈ps,x.ok)(hm:∀x∈ps,(x.reqs.map λq=>q.uR.length).sum<=1048576)(hq:q.kind≠1)(h:aT):Ev S5 uS 10 (qA w q d5 nw) h (JV [uT (HX w ps q d5).1.l,go (HX w ps q d5).2]) h:=by
 have hk:∀h,Ev S5 uS 13 [ag q.row] h (go (cP q)) h:=λh=>Tp (qo q h);unfold HX;cases hz:(cP q != 0) with
 |true=>exact E9 hz hk h
 |false=>
  have hz':cP q=0:=by simpa using hz
  rw[hz'] at hk;have hst:∀{nw:bV} h,Ev S5 uS 65 (qA w q d5 nw) h (zaI (eZ q d5 (jU w q.kind q.st q.obj q.fI d5).ans (jU w q.kind q.st q.obj q.fI d5).q (jU w q.kind q.st q.obj q.fI d5).e)) h:=λh=>NP (λh=>LT hw h) h;have hgr:∀{nw:bV} h,Ev S5 uS 66 (qA w q d5 nw) h (zaI (eZ q d5 (bif (mK w ps q.st q.obj q.fI d5).met then 1 else 0) (mK w ps q.st q.obj q.fI d5).rd (mK w ps q.st q.obj q.fI d5).e)) h:=λh=>grad_a (λh=>LS hw hf hp hs hm h) h;obtain⟨k,st,obj,fI⟩:=q;rcases zmG k with rfl|rfl|rfl|rfl|rfl|⟨h1,h2,h3,h4,h5⟩
  ·grind
  ·exact ans_2 hk hst h
  ·exact ans_3 hk hst h
  ·exact ans_4 hk hst h
  ·exact ans_5 hk hgr h
  ·exfalso;have:cP ⟨k,st,obj,fI⟩=340:=by simp[cP,NQ,h1,h2,h3,h4,h5]
   omega
noncomputable abbrev zn(w:kc):aT:=[iI (ZA w)]
abbrev zeu(a:kc)(b:bV):bY:=[uT a.l,ab (aA b)]
theorem Jb{b:Bool}(kf:∀h,Ev S5 mX 22 [uT w.l] h (kr b) h)(h:aT):(Ev S5 mX 9 (zeu w nw) h (kr (b&&lL (((aA nw).length:Int)<=20))) h):=y0 [.v (@kf (zn w))] h
theorem Fa(h:Θ w.f (j9 w st fI a).q a b):j9 w st fI a=j9 w st fI b:=by
 have h1:dP w st fI a=dP w st fI b:=by
  by_cases he:(dP w st fI a).2.2=0
  ·refine qk λr hr=>h r ?_;unfold j9 vwX;have:((dP w st fI a).2.2 != 0)=N:=by simp[he]
   rw[this];grind
  ·refine qk λr hr=>h r ?_;unfold j9 vwX;grind
 by_cases he:(dP w st fI a).2.2=0
 ·have h2:cN w (dP w st fI a).1 fI a=cN w (dP w st fI a).1 fI b:=by
   refine sU λr hr=>h r ?_;unfold j9 vwX;have:((dP w st fI a).2.2 != 0)=N:=by simp[he]
   rw[this];simp only;split;·simp[hr]
   ·grind
  unfold j9;rw[<-h1,h2]
 ·have e1:((dP w st fI a).2.2 != 0)=J:=by simpa using he
  unfold j9;rw[<-h1];unfold vwX;rw[e1]
theorem Fb(h:Θ w.f (jU w kind st obj fI a).q a b):jU w kind st obj fI a=jU w kind st obj fI b:=by
 cases hb:zk kind st obj fI
 ·have hs:bU w fI a=bU w fI b:=by
   refine w9 λr hr=>h r ?_;unfold jU ofX;rw[hb];simp only;split;·exact hr
   ·grind
  cases hk:(kind==3)
  ·have hv:j9 w st fI a=j9 w st fI b:=by
    refine Fa λr hr=>h r ?_;unfold jU ofX;rw[hb,hk];simp only;split;·simp[hr]
    ·grind
   unfold jU HW;rw[hs,hv]
  ·unfold jU HW ofX;rw[hs,hb,hk]
 ·unfold jU ofX;rw[hb]
theorem NR:(vwX q1 q2 e1 e2 ea ZD n d e).q.length<=q1.length+q2.length:=by
 unfold vwX;split;·simp
 grind
theorem NS{x:VwX}{fe cl ho:Int×Int}:(ofX kind st obj fI q1 x fe cl ho).q.length<=q1.length+x.q.length:=by
 unfold ofX;split;·simp
 ·split;·simp
  grind
theorem sY(hw:w.ok):ah (jU w kind st obj fI d5).q:=by have h1:=fk 4 0 0 fI;have h2:=oK hw (st:=st) (fI:=fI) (d5:=d5);have h3:=iY (w:=w) (r:=(dP w st fI d5).1) (fI:=fI) (d5:=d5);have h4:(j9 w st fI d5).q.length<=(dP w st fI d5).2.1.length+(cN w (dP w st fI d5).1 fI d5).2.1.length:=NR;have h5:(jU w kind st obj fI d5).q.length<=(rdT 4 0 0 fI).length+(j9 w st fI d5).q.length:=NS;unfold ah;omega
structure kc.ok0 (w:kc):Prop where
 c:∀x∈w.c,x.ok
 s:∀x∈w.s,x.ok
 lc:ah w.c
 ls:ah w.s
 i:∀f∈w.f,f.ok
structure kc.okP (w:kc) (ps:Is):Prop where
 p:w.p=ps.map Xc
 k:∀x∈ps,x.ok
 l:ah ps
 m:∀x∈ps,(x.reqs.map λq=>q.uR.length).sum<=1048576
theorem uC(hw:w.ok0)(hp:w.okP ps)(nw:bV):∃b:Bool,(b=J->w.ok/\w.f.length<=40/\nw.length<=20)/\∀h,Ev S5 mX 9 (zeu w nw) h (kr b) h:=by
 obtain⟨b,hb,kf⟩:=KB hw.c hw.lc hp.p hp.l;refine⟨_,λhh=>?_,λh=>Jb kf h⟩;cases b with
 |false=>simp at hh
 |true=>have:=hb rfl;simp at hh;exact⟨⟨hw.c,hw.s,tj,hw.lc,hw.ls,hw.i⟩,this,tj⟩
theorem Fc{ans:Int}{rd:iF}(h:ah rd):(eZ q d5 ans rd e).1.ok:=by
 unfold eZ;split;·exact zgF.zkx
 ·exact⟨by simp[ah],h,by simp[ah]⟩
theorem NT(hw:w.ok)(hf:w.f.length<=41)(hp:w.okP ps)(q:QuT)(d5:Int):(HX w ps q d5).1.ok:=by
 unfold HX;split;·exact zgF.zkx
 ·split
  ·have hn:(af w.f d5).length<=1000:=by have:=bF (fs:=w.f) (d5:=d5);omega
   exact Fc (sW hw hn (zi (w:=w) hp.k hp.m q.obj q.fI d5).2.2)
  ·exact Fc (sY hw)
end Go.Vi
open Go Go.Proofs Go.Shelf
namespace Go.Proofs
def Tryz.zoE:Go.Shelf.Ren:=⟨fun|6=>95|15=>109|14=>168|28=>186|29=>187|20=>237|21=>238|22=>239|23=>240|24=>241|25=>242|26=>243|27=>244|46=>299|47=>262|48=>263|49=>300|50=>301|57=>325|n=>n,fun|22=>85|24=>160|25=>174|3=>3|39=>196|0=>0|53=>263|55=>265|4=>4|46=>257|45=>256|50=>191|5=>5|9=>9|66=>334|70=>338|76=>361|77=>362|n=>n,fun|n=>n⟩
theorem Tryz.zth:Yt S5 Tryz.zoE:={
 mixed:=by kernel_rfl
 f6:=⟨Tryz.f95.name,by decide,Tryz.func95.trans (congrArg some (by kernel_rfl))⟩
 f14:=⟨Tryz.f168.name,by decide,Tryz.func168.trans (congrArg some (by kernel_rfl))⟩
 f15:=Tryz.func109.trans (congrArg some (by kernel_rfl))
 f20:=⟨Tryz.f237.name,by decide,Tryz.func237.trans (congrArg some (by kernel_rfl))⟩
 f21:=⟨Tryz.f238.name,by decide,Tryz.func238.trans (congrArg some (by kernel_rfl))⟩
 f22:=⟨Tryz.f239.name,by decide,Tryz.func239.trans (congrArg some (by kernel_rfl))⟩
 f23:=⟨Tryz.f240.name,by decide,Tryz.func240.trans (congrArg some (by kernel_rfl))⟩
 f24:=⟨Tryz.f241.name,by decide,Tryz.func241.trans (congrArg some (by kernel_rfl))⟩
 f25:=⟨Tryz.f242.name,by decide,Tryz.func242.trans (congrArg some (by kernel_rfl))⟩
 f26:=⟨Tryz.f243.name,by decide,Tryz.func243.trans (congrArg some (by kernel_rfl))⟩
 f27:=⟨Tryz.f244.name,by decide,Tryz.func244.trans (congrArg some (by kernel_rfl))⟩
 f28:=Tryz.func186.trans (congrArg some (by kernel_rfl))
 f29:=Tryz.func187.trans (congrArg some (by kernel_rfl))
 f46:=⟨Tryz.f299.name,by decide,Tryz.func299.trans (congrArg some (by kernel_rfl))⟩
 f47:=Tryz.func262.trans (congrArg some (by kernel_rfl))
 f48:=Tryz.func263.trans (congrArg some (by kernel_rfl))
 f49:=⟨Tryz.f300.name,by decide,Tryz.func300.trans (congrArg some (by kernel_rfl))⟩
 f50:=⟨Tryz.f301.name,by decide,Tryz.func301.trans (congrArg some (by kernel_rfl))⟩
 f57:=⟨Tryz.f325.name,by decide,Tryz.func325.trans (congrArg some (by kernel_rfl))⟩
 t0:=Tryz.underlying0
 a0:=Tryz.isAgg0
 z0:=Tryz.sizeOf0
 v0:=Tryz.zeroValue0
 t3:=Tryz.underlying3
 a3:=Tryz.isAgg3
 z3:=Tryz.sizeOf3
 v3:=Tryz.zeroValue3
 t4:=Tryz.underlying4
 a4:=Tryz.isAgg4
 z4:=Tryz.sizeOf4
 v4:=Tryz.zeroValue4
 t5:=Tryz.underlying5
 a5:=Tryz.isAgg5
 z5:=Tryz.sizeOf5
 v5:=Tryz.zeroValue5
 t9:=Tryz.underlying9
 a9:=Tryz.isAgg9
 z9:=Tryz.sizeOf9
 v9:=Tryz.zeroValue9
 t22:=Tryz.underlying85
 a22:=Tryz.isAgg85
 z22:=Tryz.sizeOf85
 v22:=Tryz.zeroValue85
 t25:=Tryz.underlying174
 a25:=Tryz.isAgg174
 z25:=Tryz.sizeOf174
 v25:=Tryz.zeroValue174
 t39:=Tryz.underlying196
 a39:=Tryz.isAgg196
 z39:=Tryz.sizeOf196
 v39:=Tryz.zeroValue196
 t45:=Tryz.underlying256
 a45:=Tryz.isAgg256
 z45:=Tryz.sizeOf256
 v45:=Tryz.zeroValue256
 t46:=Tryz.underlying257
 a46:=Tryz.isAgg257
 z46:=Tryz.sizeOf257
 v46:=Tryz.zeroValue257
 t50:=Tryz.underlying191
 a50:=Tryz.isAgg191
 z50:=Tryz.sizeOf191
 v50:=Tryz.zeroValue191
 t53:=Tryz.underlying263
 a53:=Tryz.isAgg263
 z53:=Tryz.sizeOf263
 v53:=Tryz.zeroValue263
 t55:=Tryz.underlying265
 a55:=Tryz.isAgg265
 z55:=Tryz.sizeOf265
 v55:=Tryz.zeroValue265
 t66:=Tryz.underlying334
 a66:=Tryz.isAgg334
 z66:=Tryz.sizeOf334
 v66:=Tryz.zeroValue334
 t70:=Tryz.underlying338
 a70:=Tryz.isAgg338
 z70:=Tryz.sizeOf338
 v70:=Tryz.zeroValue338
 t76:=Tryz.underlying361
 a76:=Tryz.isAgg361
 z76:=Tryz.sizeOf361
 v76:=Tryz.zeroValue361
 t77:=Tryz.underlying362
 a77:=Tryz.isAgg362
 z77:=Tryz.sizeOf362
 v77:=Tryz.zeroValue362}
end Go.Proofs
namespace Go.Vi
open Go.Sort
set_option maxRecDepth 100000
set_option maxHeartbeats 4000000
structure ω where
 lm:Int
 tries:Int
 JY:Int
 now:Bool
 deriving Inhabited,DecidableEq
def ω.row(s:ω):dO:=[vi s.lm,vi s.tries,vi s.JY,.v (.bool s.now)]
abbrev zaX(b:ω):bY:=[go b.lm,go b.tries,go b.JY,kr b.now]
noncomputable abbrev uD(a:ω)(b:ω):aT:=[iI (zaX a),iI (zaX b)]
theorem CG{a b:ω}(h:aT):(Ev S5 mX 96 [ag a.row,ag b.row] h (go (cF a.lm b.lm)) h):=y0 [.v (@dl (a.lm) (b.lm) (uD a b))] h
def SR(a b:ω):Int:=cF a.lm b.lm
def leS(a b:ω):Bool:=!(ltOf SR) b a
theorem Fd(a b:ω):(ltOf SR) a b=J ↔ a.lm<b.lm:=by unfold ltOf SR cF;grind
theorem uE(a b:ω):(ltOf SR) a b=N ↔ ¬a.lm<b.lm:=by rw[<-Fd,Bool.not_eq_true]
theorem swoS:SWO (ltOf SR) where
 irrefl x:=by rw[uE];omega
 trans x y z h1 h2:=by grind [Fd]
 ntrans x y z h1 h2:=by grind [uE]
def encS(a:ω):oR:=[.int zfN a.lm,.int zfN a.tries,.int zfN a.JY,.bool a.now]
abbrev bE(l:List ω):List (bY):=l.map λa=>a.row.map .p
theorem zo{h:aT}{b e:Nat}{l:List ω}(hb:h[b]?=G (.lk (bE l) e 4))(hl:l.length<4611686018427387904)(hT:∀x∈l,∀y∈l,x.lm=y.lm->x=y):Ev S5 mX 95 [mW (.lk b e),.p (zcs 96)] h (JV []) (h.set b (.lk (bE (l.mergeSort leS)) e 4)) :=nI (α:=ω) (enc:=encS) (k:=4) (cf:=SR) pok Tryz.zth Tryz.isAgg160 Tryz.sizeOf160 (λ_=>rfl) (λx v hv=>by simp[encS] at hv;rcases hv with rfl|rfl|rfl|rfl<;>rfl) swoS Z (λx y=>CG []) hb hl
  (λx hx y hy h1 h2=>by
   grind [uE])
end Go.Vi
open Go Go.Proofs
namespace Go.Vi
set_option maxRecDepth 100000
set_option maxHeartbeats 4000000
variable {P:Program}{b:Nat}{c k:Int}{et kt t:TypeId}{h:aT}
abbrev SM:=List (Int×ω)
variable {l:SM}
def seD(s:ω):D:=uT (s.row.map .p)
def bp:Nat->SM->List (D×D×Nat)
 |_,[]=>[]
 |j,(k,v)::l=>(go k,seD v,j)::bp (j+1) l
def smB(l:SM):F2:=Η (bp 0 l) l.length
def nX:SM->Int->Option ω
 | [],_=>Y
 |(a,v)::l,k=>if a=k then G v else nX l k
def cY:SM->Int->ω->SM
 | [],k,v=>[(k,v)]
 |(a,x)::l,k,v=>if a=k then (k,v)::l else (a,x)::cY l k v
def HY:SM->Int->Nat->Option (Nat×D)
 | [],_,_=>Y
 |(a,v)::l,k,i=>if a=k then G (i,seD v) else HY l k (i+1)
theorem qp(k:Int):∀(l:SM) (j i:Nat),dz (go k) (bp j l) i=G (HY l k i)
 | [],_,_=>rfl
 |(a,v)::l,j,i=>by
  simp[bp,dz,HY];by_cases h:a=k;·subst h;simp[ew]
  ·have:ew (go k) (go a)=G N:=by have h2:¬k=a:=λe=>h e.symm;simp[ew,h2]
   rw[this];simp[h];exact qp k l (j+1) (i+1)
theorem qr:∀{l:SM} {i:Nat},HY l k i=Y->nX l k=Y/\∀v,cY l k v=l++[(k,v)]
 | [],_,_=>by simp[nX,cY]
 |(a,x)::l,i,h=>by
  unfold HY at h;split at h;·simp at h
  ·rename_i hne;obtain⟨h1,h2⟩:=qr h;simp only[nX,cY,hne,if_false,h1,true_and];grind
theorem qt:∀{l:SM} {i j n:Nat} {d:D},HY l k i=G (n,d)->∃v,d=seD v/\nX l k=G v/\i<=n/\((bp j l)[n-i]?).map (λe=>e.2.2)=G (j+(n-i))/\∀x,bp j (cY l k x)=(bp j l).set (n-i) (go k,seD x,j+(n-i))/\(cY l k x).length=l.length
 | [],_,_,_,_,h=>by simp[HY] at h
 |(a,x)::l,i,j,n,d,h=>by
  unfold HY at h;split at h;·rename_i ha;simp at h;obtain⟨rfl,rfl⟩:=h;exact⟨x,rfl,by simp[nX,ha],Nat.le_refl _,by simp[bp],λy=>by simp[cY,ha,bp]⟩
  ·rename_i ha;obtain⟨v,h1,h2,h3,h4,h5⟩:=qt (j:=j+1) h;have e:n-i=(n-(i+1))+1:=tj
   refine⟨v,h1,by simp[nX,ha,h2],tj,?_,λy=>?_⟩;·rw[e];simp only[bp,List.getElem?_cons_succ,h4];congr 1;omega
   ·obtain⟨h6,h7⟩:=h5 y;simp only[cY,ha,if_false,bp,h6];grind
def CH:ω:=⟨0,0,0,N⟩
theorem CI(hk:cV P kt (go c)=true)(ht:P.underlying t=some (.map kt et))(hz:jp P et=some (.agg #[.int .i64 0,.int .i64 0,.int .i64 0,.bool false]))(hb:h[b]? = some (smB l)):aw P h t (zdB b) (go c) false=some (seD ((nX l c).getD CH)):=by
 unfold aw;simp only[ht,lU,hb,smB,hk,if_true,hz,qp];cases hi:HY l c 0 with
 | none =>rw[(qr hi).1];rfl
 | some p =>obtain⟨n,d⟩:=p;obtain⟨v,rfl,h2,_⟩:=qt (j:=0) hi;rw[h2];rfl
theorem Bd(k:Int)(v:ω):∀(l:SM) (j:Nat),bp j (l++[(k,v)])=bp j l++[(go k,seD v,j+l.length)]
 | [],j=>by simp[bp]
 |(a,x)::l,j=>by simp only[List.cons_append,bp,Bd k v l (j+1),List.length_cons];grind
theorem Fe{v:ω}(hk:cV P kt (go c)=true)(ht:P.underlying t=some (.map kt et))(hb:h[b]? = some (smB l)):ay P h t (zdB b) (go c) (seD v)=some (h.set b (smB (cY l c v))):=by
 unfold ay;simp[ht,hb,smB,hk,qp];cases hi:HY l c 0 with
 | none =>simp only[(qr hi).2 v,Bd];simp
 | some p =>obtain⟨n,d⟩:=p;obtain⟨x,rfl,_,_,h4,h5⟩:=qt (j:=0) hi;grind
theorem dg(f:Ref->D):∀(l:SM) (j:Nat),(bp j l).map (λe=>(D.π f e.1,D.π f e.2.1,e.2.2))=bp j l
 | [],_=>rfl
 |(a,x)::l,j=>by simp only[bp,List.map_cons,dg f l (j+1)];rfl
theorem Be(n:Nat):∀(l:SM) (j:Nat),((bp j l).all λe=>D.inn n e.1&&D.inn n e.2.1)=J
 | [],_=>rfl
 |(a,x)::l,j=>by simp only[bp,VI,Be n l (j+1)];rfl
theorem sZ{n:Nat}:F2.inn n (smB l)=J:=Be n l 0
end Go.Vi
