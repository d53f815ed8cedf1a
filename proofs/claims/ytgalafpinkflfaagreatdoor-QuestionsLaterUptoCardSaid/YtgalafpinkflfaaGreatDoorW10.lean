/- A part of the proof; no conditions of its own. -/
import Derived.Test.YtgalafpinkflfaaGreatDoorW9
import Derived.Ground.SlsfProg
open Bool renaming true->J,false->N
open Option renaming some->G,none->Y
open Go.Vi.ql renaming map->NI,var->eP,loop->Js,EZ->xx
open Go.Vi.η renaming st->E6,ov->zfG,inl->Τ
open Go.Vi.SOp renaming frz->Λ,P1->zlw,trim->zhZ,mask->IW
open Go.Vi.D renaming Pp->uN,agg->mS,ref->gM
open Go.Exit renaming normal->w8,exit->EY
open Go.IntKind renaming i64->Χ
open Decidable renaming decide -> fE
open Go.Proofs.Tryz renaming prog -> S5, f18 -> Zj
open List renaming nodup_nil -> Xg, foldl_cons -> TG, length_mergeSort -> XN, mem_map -> T2, length -> S7, getElem?_eq_some_iff -> Td, map -> S2, all_cons -> VI, range -> T1, replicate -> Ti, getElem?_eq_getElem -> TH, flatMap_cons -> Yl, filterMap_cons -> X1, mem_flatMap -> Yu, map_congr_left -> WT
open Go.Vi.Ev renaming ziv -> U7, zkJ -> Tw, zkr -> Tp
open Nat renaming le_trans -> Vj, mul_le_mul_right -> Vr
open Go.Vi.jW renaming zero -> Zq, row -> Xc
open Go.IntKind renaming i64 -> S6, wrap -> S8
open Go.Exit renaming normal -> Tr
open Go.Vi.PtT renaming row -> V2
open Go.Vi.qH renaming row -> Ta
open Go.Vi.EU renaming row -> Xd
open Go.Vi.uT renaming row -> Tc
open Go.Vi.Β renaming row -> Tj, zero -> WG, sys -> Xt
open Go.Vi.Cls renaming row -> Uq
open Go.Vi.ν renaming row -> UG
open Go.Vi.A7 renaming row -> X8
open Go.Vi.D renaming Pp -> TT, agg -> TF
open Bool renaming and_eq_true -> Tm
open Go.Value renaming nilFunc -> T5
open Go.Vi.eQ renaming l -> TC
open Go.Proofs.SlLaysF0 renaming n6 -> Yt
open Go Go.Proofs
namespace Go.Vi
set_option maxRecDepth 100000
set_option maxHeartbeats 1000000
variable {e bO n st eF:Int}{w:eQ}
theorem IP:zfK S5 ji 44 [ab []] [] λd h'=>(d=nq/\h'=[])\/(d=.ref (.eY 0 1)/\h'=[.eY [] 1 6]):=by
 refine zfK.zhz (fn:=Tryz.f44) (c:=al Tryz.f44) rfl rfl λX hX=>?_;rw[B1];refine VW.seq ((cl_r0 (l:=[]) X none hX (λ_=>rfl)).mono λe s hq=>?_);obtain⟨rfl,rfl⟩:=hq;refine VW.seq (VW.seq (cl_r1 (l:=[]) λb hb=>?_));cases b with
 | true =>refine(cl_ct X none hX (λ_=>rfl)).mono λe s hq=>?_;obtain⟨rfl,rfl⟩:=hq;exact⟨.inr rfl,rfl,Xg,[nq],rfl,.inl ⟨rfl,rfl⟩⟩
 | false =>refine(cl_c (l:=[]) X none hX (λ_=>rfl)).mono λe s hq=>?_;obtain⟨rfl,rfl⟩:=hq;refine(HD (l:=[]) (by simp) X none hX (λ_=>rfl)).mono λe s hq=>?_;obtain⟨rfl,rfl⟩:=hq;exact⟨.inr rfl,rfl,Xg,(zbn 0 1),rfl,.inr ⟨rfl,rfl⟩⟩
theorem ET(h:List ql):Ev S5 ji 44 [ab []] h (ab []) h:=by
 have h0:Ev S5 ji 44 [ab []] [] (ab []) []:=by
  intro O w l vs R ra
  refine CallsIn.mono (IP O w l vs R ra) ?_
  rintro e w' ⟨v,d',h',l',rfl,hq,R',E',rd⟩
  rcases hq with ⟨rfl,rfl⟩|⟨rfl,rfl⟩
  ·exact⟨v,_,_,l',rfl,⟨rfl,rfl⟩,R',E',ut _ _ rd⟩
  ·obtain⟨l2,R2,E2,r2, -⟩:=sw (Γ:=ji) (X:={O:=O,w:=w,l:=l,h:=[]}) {t:=[.ref (.eY 0 1)],h:=[.eY [] 1 6],m:=[]} [.st (.frz 0 []),.st (.P1 0)] {t:=[ab []],h:=[],m:=[]} [] [([]:List (List D))=[]] (by kernel_rfl) ⟨rfl,trivial⟩ {tmps:=#[v],defers:=[]} w' ⟨l',R',E',⟨rd,trivial⟩,rfl⟩
   exact⟨v,ab [],[],l2,rfl,⟨rfl,rfl⟩,R2,E2,r2.1⟩
 exact Ev.zjo rfl h0 h
structure zqh where
 us:List (List Dp)
 ms:Int
 cut:List Bool
 e:Int
instance:Inhabited zqh:=⟨⟨[],0,[],0⟩⟩
def zqh.d(a:zqh):D:=mS [ab a.us,eO a.ms,ab (de a.cut)]
def Cz(p:jW)(l:List uS)(a:zqh):Prop:=ah a.cut/\∀h,Ev S5 ji 49 [.agg p.l,ab (l.map uS.row)] h (.Pp [a.d,eO a.e]) h
open Classical in
noncomputable def IQ(p:jW)(l:List uS):zqh:=if h:∃a,Cz p l a then Classical.choose h else default
theorem NE{p:jW}{l:List uS}(h:∃a,Cz p l a):Cz p l (IQ p l):=by
 grind [IQ]
structure DegX where
 a:zqh
 met:Bool
 rd:List EU
 e:Int
def DegX.d(x:DegX):D:=uN [x.a.d,eR x.met,ab (sU x.rd),eO x.e]
def jT(rd:iF)(e:Int):DegX:=⟨⟨[],0,[],0⟩,N,rd,e⟩
def gb(w:eQ)(eF bO:Int)(p:jW):jW:=⟨p.nm,p.number,p.IY,p.CE,p.num,p.den,p.reqs.map (nM w eF bO)⟩
noncomputable def IR(w:eQ)(eF bO:Int)(p:jW)(rs:List EU)(l:List uS):DegX :=
 let p':=gb w eF bO p
 let a:=IQ p' l
 match a.e != 0 with
 | true=>jT [] a.e
 | false=>match (cz l).2 != 0 with
  | true=>jT [] (cz l).2
  | false=>match (bX l).2.2 != 0 with
   | true=>jT [] (bX l).2.2
   | false=>match (nW (bX l).1 (bX l).2.1 p.num p.den).2 != 0 with
    | true=>jT [] (nW (bX l).1 (bX l).2.1 p.num p.den).2
    | false=>⟨a,a.ms==0&&fE ((cz l).1>=p.CE)&&fE ((nW (bX l).1 (bX l).2.1 p.num p.den).1>=0),rs++(p.reqs.map (jE w eF bO)).flatten,0⟩
noncomputable def mK(w:eQ)(ps:List jW)(st n eF bO:Int):DegX :=
 match (aI w ps n eF bO).2 with
 | false=>jT (rdT 3 n 0 eF) 0
 | true=>match (dP w st eF bO).2.2 != 0 with
  | true=>jT [] (dP w st eF bO).2.2
  | false=>match (cN w (dP w st eF bO).1 eF bO).2.2 != 0 with
   | true=>jT [] (cN w (dP w st eF bO).1 eF bO).2.2
   | false=>IR w eF bO (aI w ps n eF bO).1 (rdT 3 n 0 eF++(dP w st eF bO).2.1++(cN w (dP w st eF bO).1 eF bO).2.1) (cN w (dP w st eF bO).1 eF bO).1
theorem mL(h:Ev S5 lL 15 [.agg w.l,eO st,eO n,eO eF,eO bO] [] (.Pp [.agg [nq,eO 0,nq],eR false,nq,eO e]) []):Ev S5 lL 15 [.agg w.l,eO st,eO n,eO eF,eO bO] [] (jT [] e).d []:=U7 h
theorem sN(h:(e != 0)=J):(e==0)=N:=by simpa using h
theorem sO(h:(e != 0)=N):e=0:=by simpa using h
theorem deg_a(hw:w.ok){ps:Is}(hn:(af w.f bO).length<=1000)
  (hp:∀h,Ev S5 lL 40 (zbE w n eF bO) h (.Pp [.agg (aI w ps n eF bO).1.l,ab (sU (rdT 3 n 0 eF)),eR (aI w ps n eF bO).2]) h)
  (Φ:(aI w ps n eF bO).1.ok) (hq1:(aI w ps n eF bO).1.reqs.length<=1000000) (hq2:∀q∈(aI w ps n eF bO).1.reqs,q.lk.length<=1048576) (hq3:((aI w ps n eF bO).1.reqs.map λq=>q.lk.length).sum<=1048576)
  (ha:(aI w ps n eF bO).2=true->(cN w (dP w st eF bO).1 eF bO).2.2=0->∃a,Cz (gb w eF bO (aI w ps n eF bO).1) (cN w (dP w st eF bO).1 eF bO).1 a) :
  Ev S5 lL 15 (zdQ w st n eF (eO bO)) [] (mK w ps st n eF bO).d []:=by
 unfold mK
 have hb1:(rdT 3 n 0 eF).length<=1000000:=by have:=fk 3 n 0 eF;omega
 generalize hP:aI w ps n eF bO=P at *
 obtain⟨p,ok⟩:=P
 simp only at hp Φ hq1 hq2 hq3 ha ⊢
 generalize rdT 3 n 0 eF=q1 at *
 cases ok with
 | false=>exact U7 (nO (dg_N (pc:=[]) hb1 hp) Sv)
 | true =>
  have hrof (h:aT):=Mk hw (st:=st) (eF:=eF) (bO:=bO) h
  obtain⟨l1,l2⟩:=oK hw (st:=st) (eF:=eF) (bO:=bO)
  generalize hR:dP w st eF bO=R at *
  obtain⟨r,q2,e1⟩:=R
  simp only at hrof l1 l2 ha ⊢
  cases h1:e1 != 0 with
  | true=>exact mL (nO (dg_A hb1 hp hrof (Sp (sN h1))) MN)
  | false =>
   have:=sO h1;subst this
   have zlL (h:aT):=HR hw (r:=r) (by omega) (eF:=eF) (bO:=bO) h
   obtain⟨l3,l4⟩:=iY (w:=w) (r:=r) (eF:=eF) (bO:=bO)
   generalize hC:cN w r eF bO=C at *
   obtain⟨l,q3,e2⟩:=C
   simp only at zlL l3 l4 ha ⊢
   cases h2:e2 != 0 with
   | true=>exact mL (nO (dg_A hb1 hp hrof (MM (dg_B (by omega) zlL (Lp (sN h2))))) MN)
   | false =>
    have:=sO h2;subst this
    have hsl:ah l:=by unfold ah;omega
    have haud:=(NE (ha (by trivial) (by grind))).2
    unfold IR
    simp only
    have tail {e:Exit} {H:aT} (ht:CW S5 lL (hA w) false (be (al Tryz.f15) 29) (sgD w (q1++q2++q3++(p.reqs.map (jE w eF bO)).flatten) (IQ (gb w eF bO p) l).us (de (IQ (gb w eF bO p) l).cut) (IQ (gb w eF bO p) l).ms (gb w eF bO p) r l (IQ (gb w eF bO p) l).e) e (zbH H)) :
      CW S5 lL (hA w) false (cR (cR (al Tryz.f15))) (sgA w st n eF bO) e (zbH H):=by
     refine dg_A hb1 hp hrof (MM (dg_B (by omega) zlL (Sq ?_)))
     have hl3:(q1++q2).length+q3.length<=3000000000000:=by rw[List.length_append];omega
     by_cases hr0:p.reqs=[]
     ·have e1:p=pZ p:=by cases p;simp only at hr0;subst hr0;rfl
      have e2:gb w eF bO p=pZ p:=by unfold gb;rw[hr0];rfl
      have e3:(p.reqs.map (jE w eF bO)).flatten=[]:=by rw[hr0];rfl
      rw[e2,e3,List.append_nil] at ht
      rw[e2] at haud
      have:=dg_C0 (w:=w) (eF:=eF) (bO:=bO) (p:=p) (r:=r) (rs:=q1++q2) (q3:=q3) (l:=l) hl3 ET haud ht
      grind
     ·have hcl:=Le (l:=p.reqs) hq1 hr0
      have e1:reqV p.reqs=ad (zcf p):=by simp[ad]
      rw[e1] at hcl
      have hl:=Sa hw (eF:=eF) hn (l:=l) (rs:=q1++q2++q3) (p:=p) (r:=r) (show ah p.reqs by unfold ah;omega) hq2 (by grind)
      have e2:((ad (zcf p)).length:Int)=(p.reqs.length:Int):=by simp
      refine dg_C (Q:=p.reqs.map (nM w eF bO)) (q4:=(p.reqs.map (jE w eF bO)).flatten) hl3 hcl ?_ haud ht
      grind
    generalize IQ (gb w eF bO p) l=a at *
    generalize q1++q2++q3++(p.reqs.map (jE w eF bO)).flatten=rs at *
    cases h3:a.e != 0 with
    | true=>exact mL (nO (tail (Lq (sN h3))) B5)
    | false =>
     have ea:=sO h3
     rw[ea] at tail
     have zoW (h:aT):=iQ hsl h
     generalize cz l=E at *
     obtain⟨en,e4⟩:=E
     simp only at zoW ⊢
     cases h4:e4 != 0 with
     | true=>exact mL (nO (tail (vB (dg_D zoW (Lr (sN h4))))) B5)
     | false =>
      have:=sO h4;subst this
      have zqA (h:aT):=lA hsl h
      have hI:=iP l
      generalize bX l=M at *
      obtain⟨mn,md,e5⟩:=M
      simp only at zqA hI ⊢
      cases h5:e5 != 0 with
      | true=>exact mL (nO (tail (vB (dg_D zoW (Ah (dg_E zqA (Ls (sN h5))))))) B5)
      | false =>
       have:=sO h5;subst this
       have hcmp (h:aT):=mF hI.1 hI.2 Φ.nm Φ.dn h
       try unfold zdK at hcmp
       generalize nW mn md p.num p.den=K at *
       obtain⟨c,e6⟩:=K
       simp only at hcmp ⊢
       cases h6:e6 != 0 with
       | true=>exact mL (nO (tail (vB (dg_D zoW (Ah (dg_E zqA (HM (dg_F hcmp (Lt (sN h6))))))))) B5)
       | false =>
        have:=sO h6;subst this
        have:=nO (tail (vB (dg_D zoW (Ah (dg_E zqA (HM (dg_F hcmp (Sr dg_G)))))))) Su
        unfold DegX.d zqh.d
        exact this
end Go.Vi
open Go Go.Proofs
namespace Go.Vi
set_option maxHeartbeats 4000000
set_option maxRecDepth 100000
variable {a b bO st eF:Int}{i:Nat}{l:iN}{p:jW}{ps:Is}{r:EU}{w:eQ}
theorem pErr_or(p:jW):BD p=0\/BD p=190:=by unfold BD;grind
theorem aErr_or(l:iN):eL l=0\/eL l=150:=by grind [eL]
theorem net_err:(Mt p l).2.2=0/\BD p=0/\eL l=0\/((Mt p l).2.2=150\/(Mt p l).2.2=190\/(Mt p l).2.2=180):=by show(BG p l (fp l).2.2).2.2=0/\_\/((BG p l (fp l).2.2).2.2=150\/(BG p l (fp l).2.2).2.2=190\/(BG p l (fp l).2.2).2.2=180);unfold BG fp;rcases pErr_or p with h|h<;>rcases aErr_or l with h2|h2<;>rw[h,h2]<;>simp
theorem A4{e:Int}(h:∀h,Ev S5 ji 49 [mS p.l,ab (l.map uS.row)] h (zdd e) h):Cz p l ⟨[],0,[],e⟩:=⟨by simp[ah],λh'=>U7 (h h')⟩
theorem ztD(s:Bv×Nat)(x:Int):(SX s x).1.length=s.1.length:=by unfold SX;simp
theorem IT(by':bV):(H2 by').length=by'.length:=by
 have key:∀(l:bV) (s:Bv×Nat),(l.foldl SX s).1.length=s.1.length:=by
  intro l;induction l with
  |nil=>intro s;rfl
  |cons x l ih=>intro s;rw[TG,ih,ztD]
 unfold H2;rw[key];simp
theorem IU(hp:p.ok)(hr:p.reqs.length<=64)(hl:l.length<=50000):∃a,Cz p l a:=by
 rcases net_err (p:=p) (l:=l) with ⟨_,e1,e2⟩|he
 ·have hN:υ p l:=⟨e1,e2,hr,hl⟩;by_cases hf:zmO p l;·have h3:=hf.n;have hn:nN p l=2+l.length+p.reqs.length:=rfl;obtain⟨j,g,hR,hF,k,f,ρ,hB,hT,hg,_⟩:=Rw (es:=oG p l) (n:=nN p l) (lk:=0) (to:=(nN p l:Int)-1) hf.e (λx hx=>(lI hN x hx).inn) (λx hx=>⟨(lI hN x hx).m0,(lI hN x hx).m1⟩) ⟨by omega,by simp;omega⟩ ⟨by omega,by omega⟩ (by omega);refine⟨⟨_,_,H2 g.2,0⟩,?_,Lb hp hN hf hR hF.ok.len⟩;show(H2 g.2).length<=140737488355328;rw[IT,<-hg,hT.len];omega
  ·exact⟨_,A4 (Hy hp hN hf)⟩
 ·exact⟨_,A4 (Hj he (λh=>GW hp (by omega) (by omega) h))⟩
theorem CA(hf:w.f.length<=41):(gU w bO st eF).length<=41984:=by
 have h1:=fm (er w bO st eF) 1024 (af w.f bO) (λn _=>Vj (List.length_filterMap_le ..) dq);have h2:=bF (fs:=w.f) (bO:=bO);have h4:(af w.f bO).length*1024<=41*1024:=Vr _ lj;have h3:(jC w bO st eF).length<=41984:=by unfold jC;omega
 grind [XN,gU]
theorem zoJ(w:eQ)(ps:Is)(n eF bO:Int):(aI w ps n eF bO).1=Zq\/(aI w ps n eF bO).1∈ps/\zY (aI w ps n eF bO).1=true:=by
 unfold aI;cases znp eF with
 | true=>exact .inl rfl
 | false =>
  simp only;unfold gR;cases h:jt ps (n7 n) (atR 3 n 0 eF bO w.f) with
  | true=>exact .inl rfl
  | false =>have h2:=ln h;refine .inr ⟨h2.1,?_⟩;have:=h2.2.1;unfold n7 at this;grind
theorem zi(hs:∀x∈ps,x.ok)(hm:∀x∈ps,(x.reqs.map λq=>q.lk.length).sum<=1048576)(n eF bO:Int):(aI w ps n eF bO).1.ok/\(aI w ps n eF bO).1.reqs.length<=64/\((aI w ps n eF bO).1.reqs.map λq=>q.lk.length).sum<=1048576:=by
 rcases zoJ w ps n eF bO with h|⟨h,h2⟩;·rw[h];exact⟨jW.ziD,by simp[Zq],by simp[Zq]⟩
 ·refine⟨hs _ h,?_,hm _ h⟩;unfold zY at h2;grind
theorem NF{l:iS}{x:Nat}(h:x∈l):x<=l.sum:=by
 induction l with
 |nil=>cases h
 |cons a l ih=>grind
theorem CB(l:bV):(Lib.compact l).length<=l.length:=by grind [List.length_map,Lib.compact,Lib.compactUpTo]
theorem NG{q:E7}(hn:(af w.f bO).length<=1000)(h2:q.lk.length<=1048576):(nM w eF bO q).ok:=by
 refine⟨?_⟩;show(R8 w eF bO q).length<=140737488355328;have h:=(rf (eF:=eF) hn q.lk ([],[])).2;unfold R8;split;·simp
 ·refine Vj (CB _) ?_;grind [XN]
theorem IV(h:p.ok)(hq:∀q∈p.reqs,(nM w eF bO q).ok):(gb w eF bO p).ok :=⟨by have:=h.sr;grind [gb,ah],by
  intro q hm
  obtain⟨x,hx,rfl⟩:=T2.1 hm
  exact hq x hx,h.nm,h.dn⟩
theorem LS(hw:w.ok)(hf:w.f.length<=41)(hwp:w.p=ps.map Xc)(hs:∀x∈ps,x.ok)(hm:∀x∈ps,(x.reqs.map λq=>q.lk.length).sum<=1048576){n:Int}(h:aT):Ev S5 lL 15 (zdQ w st n eF (eO bO)) h (mK w ps st n eF bO).d h:=by
 obtain⟨h1,h2,h3⟩:=zi (w:=w) hs hm n eF bO;have hq:∀q∈(aI w ps n eF bO).1.reqs,q.lk.length<=1048576:=λq hq=>Vj (NF (T2.2 ⟨q,hq,rfl⟩)) h3;refine Ev.zjo rfl (deg_a hw (by have:=bF (fs:=w.f) (bO:=bO);omega) (λh=>?_) h1 lj hq h3 ?_) h;·rw[<-zM];exact z6 hw hwp hs h
 ·intro _ _;refine IU (IV h1 λq hx=>NG (by have:=bF (fs:=w.f) (bO:=bO);omega) (hq q hx)) (by grind [gb]) ?_;have hc:=(iY (w:=w) (r:=(dP w st eF bO).1) (eF:=eF) (bO:=bO)).1;have hr:(dP w st eF bO).1.a.length<=41984:=by
   unfold dP;split;·simp
   ·exact CA hf
  omega
set_option maxHeartbeats 4000000
def SQ(a b:PtT):Bool:=a.eF==b.eF&&(a.value==b.value&&J)
def epF(p:PtT×PtT)(_:Unit):Unit⊕Unit:=if (!SQ p.1 p.2)=true then .inr () else .inl ()
def epR(xs ys:List PtT):Unit⊕Unit:=xz epF (xs.zip ys) ()
def mM(xs ys:List PtT):Bool:=if (((xs.map V2).length:Int) != ((ys.map V2).length:Int))=J then N else match epR xs ys with | .inl _=>J | .inr _=>N
def eH(l:AT)(r:EU)(bO:Int):List PtT:=aH r.kind r.sub r.obj r.lk r.Z5 bO l
def alF(l:AT)(a b:Int)(r:EU)(_:Unit):Unit⊕Unit:=bif mM (eH l r a) (eH l r b) then .inl () else .inr ()
attribute [local irreducible] eH mM
def jB(l:AT)(rs:iF)(a b:Int):Bool:=match xz (alF l a b) rs () with
 |.inl _=>J
 |.inr _=>N
end Go.Vi
open Go Go.Proofs
namespace Go.Vi
set_option maxRecDepth 100000
set_option maxHeartbeats 4000000
variable {a b d e e1 e2 ea CE k kind kk bO ko ks n obj st eF x:Int}{f:qH}{g:Int->Int}{i t:Nat}{ns nw:bV}{p:jW}{ps:Is}{q1 q2 rs:iF}{s:VS}{w:eQ}{α β:Type}
def zk(kind st obj eF:Int):Bool:=kind != 2&&kind != 3&&kind != 4||fE (st<0)||fE (st>=20000)||fE (eF<0)||fE (eF>=1024)||(kind==3&&!amt obj)
structure OfX where
 ans:Int
 q:iF
 e:Int
def ofX(kind st obj eF:Int)(q1:iF)(x:VwX)(fe cl ho:Int×Int):OfX:=match zk kind st obj eF with
 |true=>⟨0,[],1⟩
 |false=>match kind==3 with
  |true=>⟨fe.1,q1,fe.2⟩
  |false=>match x.e != 0 with
   |true=>⟨0,q1++x.q,x.e⟩
   |false=>match kind==2 with
    |true=>⟨cl.1,q1++x.q,cl.2⟩
    |false=>⟨ho.1,q1++x.q,ho.2⟩
noncomputable abbrev A6(w:eQ)(eF:Int)(bO:Int)(s:Β)(q1:iF)(q2:iF)(n:Int)(d:Int):aT:=[eP (ZA w),eP (zhn 2 2 w eF bO),.eY (zct q1 q2) 2 5,eP (zcc s (S2 X8 s.clauses)),eP [eO n,eO d]]
noncomputable abbrev uz(w:eQ)(eF:Int)(bO:Int)(s:Β)(q1:iF)(q2:iF):aT:=[eP (ZA w),eP (zhn 2 2 w eF bO),.eY (zct q1 q2) 2 5,eP (zcc s (S2 X8 s.clauses))]
noncomputable abbrev ow(w:eQ)(eF:Int)(bO:Int)(s:Β)(q1:iF):aT:=[eP (ZA w),eP (zhn 2 1 w eF bO),.eY (ad (sU q1)) 1 5,eP (zcc s (S2 X8 s.clauses))]
noncomputable abbrev ox(w:eQ)(eF:Int)(bO:Int)(q1:iF):aT:=[eP (ZA w),eP (zhn 2 1 w eF bO),.eY (ad (sU q1)) 1 5]
noncomputable abbrev oy(w:eQ)(eF:Int)(bO:Int):aT:=[eP (ZA w),eP (zhn 2 0 w eF bO),.eY [] 0 5]
noncomputable abbrev lg(w:eQ):aT:=[eP (ZA w)]
abbrev zbA(a b c:Int):Bool:=(!(a != 2&&a != 3&&a != 4||fE (b<0)||fE (b>=20000)||fE (c<0)||fE (c>=1024))&&a==3)
abbrev zb5(a:eQ)(b c d e:Int)(f:D):bY:=[mS a.l,eO b,eO c,eO d,eO e,f]
theorem sof_a{s:Β}{en f1 f2 c1 c2 h1 h2:Int}(hs:Ev S5 lL 54 za8 (vwH w eF bO [] 0) (ag s.row) (vwH w eF bO q1 1))(hc:Ev S5 lL 56 (zde 0 st) (vwH w eF bO q1 0) (uN [eO en,mS [eO n,eO d],eO e]) (vwH w eF bO (q1++q2) 1))(hf:∀h,Ev S5 lL 55 [ag s.row,eO obj] h (uN [eO f1,eO f2]) h)(hk:∀h,Ev S5 lL 57 [ag s.row,eO en,mS [eO n,eO d]] h (uN [eO c1,eO c2]) h)(hh:∀h,Ev S5 lL 58 [ag s.row,eO en,mS [eO n,eO d]] h (uN [eO h1,eO h2]) h)(h:aT):(Ev S5 lL 17 (zb5 w kind st obj eF (eO bO)) h (uN [eO (ofX kind st obj eF q1 ⟨en,n,d,e,q2⟩ (f1,f2) (c1,c2) (h1,h2)).ans,ab (sU (ofX kind st obj eF q1 ⟨en,n,d,e,q2⟩ (f1,f2) (c1,c2) (h1,h2)).q),eO (ofX kind st obj eF q1 ⟨en,n,d,e,q2⟩ (f1,f2) (c1,c2) (h1,h2)).e]) h):=by
 cases sR:kind != 2&&kind != 3&&kind != 4||fE (st<0)||fE (st>=20000)||fE (eF<0)||fE (eF>=1024)||kind==3&&!amt obj
 ·cases Jw:kind==3
  ·cases hc2:e != 0
   ·cases hc3:kind==2;·refine Tw (U7 (y0 (d:=TT [eO h1,ab (sU (q1++q2)),eO h2]) [.w (zbA kind st eF) (Tp (Γ':=lL) (@dG obj (lg w))),.b sR,.n 1,.o (.zhs 1 0 5),.c ((fX [1,2] (@hs) ⟨mW,trivial⟩ ⟨?_,trivial⟩):Ev S5 lL 54 zcq (oy w eF bO) (ag (Tj s)) (ox w eF bO q1)),.b Jw,.c ((fX [1,2] (Ev.upX [0,1] (@hc) Z ⟨?_,trivial⟩ ⟨?_,trivial⟩) ⟨?_,trivial⟩ ⟨?_,trivial⟩):Ev S5 lL 56 (zde 1 st) (ow w eF bO s q1) (TT [eO en,TF [eO n,eO d],eO e]) (uz w eF bO s q1 q2)),.b hc2,.b hc3,.v (@hh (A6 w eF bO s q1 q2 n d)),(mW:ad (sU (q1++q2))=S2 (λx=>S2 D.p x) (sU (q1++q2))),.o (Λ 2 (sU (q1++q2)))] h)) (by(have z0:zk kind st obj eF=N:=sR;simp only[ofX,z0,Jw,hc2,hc3];first|done|rfl)) Fb<;>(exact aj _ _)
    ·refine Tw (U7 (y0 (d:=TT [eO c1,ab (sU (q1++q2)),eO c2]) [.w (zbA kind st eF) (Tp (Γ':=lL) (@dG obj (lg w))),.b sR,.n 1,.o (.zhs 1 0 5),.c ((fX [1,2] (@hs) ⟨mW,trivial⟩ ⟨?_,trivial⟩):Ev S5 lL 54 zcq (oy w eF bO) (ag (Tj s)) (ox w eF bO q1)),.b Jw,.c ((fX [1,2] (Ev.upX [0,1] (@hc) Z ⟨?_,trivial⟩ ⟨?_,trivial⟩) ⟨?_,trivial⟩ ⟨?_,trivial⟩):Ev S5 lL 56 (zde 1 st) (ow w eF bO s q1) (TT [eO en,TF [eO n,eO d],eO e]) (uz w eF bO s q1 q2)),.b hc2,.b hc3,.v (@hk (A6 w eF bO s q1 q2 n d)),(mW:ad (sU (q1++q2))=S2 (λx=>S2 D.p x) (sU (q1++q2))),.o (Λ 2 (sU (q1++q2)))] h)) (by(have z0:zk kind st obj eF=N:=sR;simp only[ofX,z0,Jw,hc2,hc3];first|done|rfl)) Fb<;>(exact aj _ _)
   ·refine Tw (U7 (y0 (d:=TT [eO 0,ab (sU (q1++q2)),eO e]) [.w (zbA kind st eF) (Tp (Γ':=lL) (@dG obj (lg w))),.b sR,.n 1,.o (.zhs 1 0 5),.c ((fX [1,2] (@hs) ⟨mW,trivial⟩ ⟨?_,trivial⟩):Ev S5 lL 54 zcq (oy w eF bO) (ag (Tj s)) (ox w eF bO q1)),.b Jw,.c ((fX [1,2] (Ev.upX [0,1] (@hc) Z ⟨?_,trivial⟩ ⟨?_,trivial⟩) ⟨?_,trivial⟩ ⟨?_,trivial⟩):Ev S5 lL 56 (zde 1 st) (ow w eF bO s q1) (TT [eO en,TF [eO n,eO d],eO e]) (uz w eF bO s q1 q2)),.b hc2,(mW:ad (sU (q1++q2))=S2 (λx=>S2 D.p x) (sU (q1++q2))),.o (Λ 2 (sU (q1++q2)))] h)) (by(have z0:zk kind st obj eF=N:=sR;simp only[ofX,z0,Jw,hc2];first|done|rfl)) Fb<;>(exact aj _ _)
  ·exact Tw (U7 (y0 (d:=TT [eO f1,ab (sU q1),eO f2]) [.w (zbA kind st eF) (Tp (Γ':=lL) (@dG obj (lg w))),.b sR,.n 1,.o (.zhs 1 0 5),.c ((fX [1,2] (@hs) ⟨mW,trivial⟩ ⟨(by exact aj _ _),trivial⟩):Ev S5 lL 54 zcq (oy w eF bO) (ag (Tj s)) (ox w eF bO q1)),.b Jw,.v (@hf (ow w eF bO s q1)),(mW:ad (sU q1)=S2 (λx=>S2 D.p x) (sU q1)),.o (Λ 2 (sU q1))] h)) (by(have z0:zk kind st obj eF=N:=sR;simp[ofX,z0,Jw];first|done|rfl)) Fb
 ·exact Tw (U7 (y0 (d:=TT [eO 0,nq,eO 1]) [.w (zbA kind st eF) (Tp (Γ':=lL) (@dG obj (lg w))),.b sR] h)) (by(have z0:zk kind st obj eF=J:=sR;simp only[ofX,z0];first|done|rfl)) Fb
theorem sys_ok(hw:w.ok):(bU w eF bO).1.ok:=by
 have hz:WG.ok:=⟨by simp[WG,Xt],by simp[WG,Xt],by simp[WG,Xt],by simp[WG,Xt,ah],by simp[WG,Xt,ah],by simp[WG,Xt,ah],by simp[WG,Xt,ah]⟩;unfold bU;split;·exact hz
 ·unfold gR;split;·exact hz
  ·rename_i h;exact hw.s _ (ln h).1
theorem NM(hn:Pu n)(hd:Pu d):Pu (vwX q1 q2 e1 e2 ea CE n d e).n/\Pu (vwX q1 q2 e1 e2 ea CE n d e).d:=by
 unfold vwX;split;·exact⟨gV,gV⟩
 ·split;·exact⟨gV,gV⟩
  ·split;·exact⟨gV,gV⟩
   grind
abbrev HW(w:eQ)(eF bO:Int):Β:=(bU w eF bO).1
def jU(w:eQ)(kind st obj eF bO:Int):OfX :=ofX kind st obj eF (rdT 4 0 0 eF) (j9 w st eF bO) (Nv (HW w eF bO).sys obj)
  (ofR (HW w eF bO).sys (HW w eF bO).sys.Pr (j9 w st eF bO).CE (j9 w st eF bO).n (j9 w st eF bO).d)
  (ofR (HW w eF bO).sys (HW w eF bO).sys.ZO (j9 w st eF bO).CE (j9 w st eF bO).n (j9 w st eF bO).d)
theorem LT(hw:w.ok)(h:aT):Ev S5 lL 17 (zb5 w kind st obj eF (eO bO)) h (uN [eO (jU w kind st obj eF bO).ans,ab (sU (jU w kind st obj eF bO).q),eO (jU w kind st obj eF bO).e]) h:=by
 have hi:Pu (j9 w st eF bO).n/\Pu (j9 w st eF bO).d:=NM (iP _).1 (iP _).2;have hl:=fk 4 0 0 eF;have hs:(HW w eF bO).sys.ok:=sys_ok hw
 exact sof_a (s:=HW w eF bO) (q1:=rdT 4 0 0 eF) (q2:=(j9 w st eF bO).q)
  (LA hw (rs:=[]) qk) (LB hw lj) (λh=>Tp (fee_ev hs obj h)) (λh=>Tp (IE hs hi.1 hi.2 h)) (λh=>Tp (EK hs hi.1 hi.2 h)) h
def IX(s:VS)(n:Nat):Int:=bif s.2.getD n N then SV (s.1.getD n default).value else -1
def uA(kk ks ko bO:Int)(l:AT):bV:=(T1 1024).map (IX (l.foldl (zdU kk ks ko bO) vZ))
theorem CC(s:VS)(rs:bV)(h:rs.length=1024)(n i:Nat):(zgM s rs n).getD i 0=if i=n/\n<1024 then IX s n else rs.getD i 0:=by unfold IX zgM;grind
theorem CD(s:VS)(rs:bV)(n:Nat):(zgM s rs n).length=rs.length:=by unfold zgM;grind
theorem sP(kk ks ko bO:Int)(l:AT):bJ kk ks ko bO l=uA kk ks ko bO l:=by
 unfold bJ uA yb;generalize l.foldl (zdU kk ks ko bO) vZ=s;have hz:(Ti 1024 (0:Int)).length=1024:=List.length_replicate ..;have hz2:∀i,(Ti 1024 (0:Int)).getD i 0=0:=λi=>mW
 revert hz hz2;generalize Ti 1024 (0:Int)=z;intro hz hz2;have key:∀m,m<=1024->((T1 m).foldl (zgM s) z).length=1024/\∀i,((T1 m).foldl (zgM s) z).getD i 0=if i<m then IX s i else 0:=by
  intro m;induction m with
  |zero=>grind
  |succ m ih=>intro hm;obtain⟨h1,h2⟩:=ih lj;rw[List.range_succ,List.foldl_append];simp only[TG,List.foldl_nil];refine⟨by rw[CD];exact h1,λi=>?_⟩;rw[CC s _ h1,h2];grind
 obtain⟨h1,h2⟩:=key 1024 (Nat.le_refl _);refine List.ext_getElem (by rw[h1];simp) λi hi1 hi2=>?_;have:=h2 i;rw[List.getD,TH hi1] at this;rw[h1] at hi1;simp_all
theorem EW(hs:s.ok){n:Nat}(hn:n<1024):((ie f s n).1.getD t default,(ie f s n).2.getD t N)=if t=n/\zkR f (s.1.getD t default) (s.2.getD t N)=J then (f,J) else (s.1.getD t default,s.2.getD t N):=by
 unfold ie;by_cases ht:t=n
 ·subst ht;cases h:zkR f (s.1.getD t default) (s.2.getD t N);·simp
  ·simp only[cond_true,and_self,if_true];grind [hs.1,hs.2]
 grind
theorem sQ{f:qH}{t:Nat}:∀(ns:iS) (s:VS),s.ok->ns.Nodup->(∀n∈ns,n<1024)->((ns.foldl (ie f) s).1.getD t default,(ns.foldl (ie f) s).2.getD t N)=if t∈ns/\zkR f (s.1.getD t default) (s.2.getD t N)=J then (f,J) else (s.1.getD t default,s.2.getD t N)
 | [],s,_,_,_=>qk
 |n::ns,s,hs,hd,hb=>by rw[List.nodup_cons] at hd;have hn:=hb n qk;have h1:=EW (f:=f) hs (t:=t) hn;have h2:=sQ (f:=f) (t:=t) ns (ie f s n) (zlA n hs) hd.2 (λm hm=>hb m (by simp[hm]));grind
theorem NN(ht:t<1024)(f:qH)(hs:s.ok):((zdU kk ks ko bO s f).1.getD t default,(zdU kk ks ko bO s f).2.getD t N)=rJ kk ks ko (t:Int) bO (s.1.getD t default,s.2.getD t N) f:=by
 unfold zdU rJ;cases zlF kk ks ko bO f;·rfl
 ·simp only[cond_true];unfold vaF Ka;have hlo:0<=PY f/\(PY f=f.lk\/(PY f=0/\f.lk<=0)):=by unfold PY;simp;split<;>omega
  have hhi:C8 f<=1024/\(C8 f=f.Z5\/(C8 f=1024/\1024<=f.Z5)):=by unfold C8;split<;>omega
  rw[sQ _ _ hs (List.nodup_range' ..) mW];unfold dv EM;have hm:(t∈List.range' (PY f).toNat (C8 f-PY f).toNat) ↔ f.lk<=(t:Int)/\(t:Int)<f.Z5:=by rw[List.mem_range'_1];omega
  have hv:(!s.2.getD t N||fE (orI (cF f.bO (s.1.getD t default).bO) (cF f.no (s.1.getD t default).no)>=0))=zkR f (s.1.getD t default) (s.2.getD t N):=rfl;grind
theorem zl(ht:t<1024):∀(l:AT) (s:VS),s.ok->((l.foldl (zdU kk ks ko bO) s).1.getD t default,(l.foldl (zdU kk ks ko bO) s).2.getD t N)=l.foldl (rJ kk ks ko (t:Int) bO) (s.1.getD t default,s.2.getD t N)
 | [],_,_=>rfl
 |f::l,s,hs=>by rw[TG,TG,zl ht l _ (znM f hs),NN ht f hs]
theorem jV{l:AT}(ht:t<1024):(bJ kk ks ko bO l).getD t 0=IX (l.foldl (zdU kk ks ko bO) vZ) t:=by rw[sP];unfold uA;simp[List.getD,ht]
theorem dd{f g:α->List β}:∀{l:List α},(∀x∈l,f x=g x)->l.flatMap f=l.flatMap g
 | [],_=>rfl
 |x::l,h=>by rw[Yl,Yl,h x qk,dd λy hy=>h y (by simp[hy])]
theorem xg{w:eQ}{eF bO:Int}(hn:(af w.f bO).length<=1000):∀qs:Or,(qs.map (jE w eF bO)).flatten.length<=(qs.map λq=>q.lk.length).sum*1001001
 | []=>qk
 |q::qs=>by have h1:=B3 (w:=w) (eF:=eF) hn q;have h2:=xg (eF:=eF) hn qs;grind
theorem fh(h:rs.length<=1):(jT rs e).rd.length<=100000000000000:=by show rs.length<=_;omega
theorem IZ(hn:(af w.f bO).length<=1000)(hs:(p.reqs.map λq=>q.lk.length).sum<=1048576){l:iN}(hr:rs.length<=1000000000):(IR w eF bO p rs l).rd.length<=100000000000000:=by
 have h:=xg (w:=w) (eF:=eF) hn p.reqs;have h2:(p.reqs.map λq=>q.lk.length).sum*1001001<=1048576*1001001:=Vr _ hs;unfold IR;dsimp only;split;·exact fh qk
 ·split;·exact fh qk
  ·split;·exact fh qk
   ·split;·exact fh qk
    grind
theorem sW(hw:w.ok)(hn:(af w.f bO).length<=1000)(hs:((aI w ps n eF bO).1.reqs.map λq=>q.lk.length).sum<=1048576):ah (mK w ps st n eF bO).rd:=by
 have h1:=fk 3 n 0 eF;have h2:=oK hw (st:=st) (eF:=eF) (bO:=bO);have h3:=iY (w:=w) (r:=(dP w st eF bO).1) (eF:=eF) (bO:=bO);have key:(mK w ps st n eF bO).rd.length<=100000000000000:=by
  unfold mK;split;·exact fh h1
  ·split;·exact fh qk
   ·split;·exact fh qk
    ·exact IZ hn hs mW
 unfold ah;omega
structure QuT where
 kind:Int
 st:Int
 obj:Int
 eF:Int
variable {q:QuT}
def QuT.row(q:QuT):dO:=[vi q.kind,vi q.st,vi q.obj,vi q.eF]
structure zar where
 q:QuT
 ans:Int
 last:Int
 bO:Int
 now:bV
 reads:iF
 named:bV
variable {r:zar×Int}
def zar.ok(d:zar):Prop:=ah d.now/\ah d.reads/\ah d.named
abbrev Z6(a:zar):bY:=[eO a.q.kind,eO a.q.st,eO a.q.obj,eO a.q.eF,eO a.ans,eO a.last,eO a.bO,ab (aA a.now),ab (sU a.reads),ab (aA a.named)]
def zar.l(d:zar):bY:=(Z6 d)
def zar.zero:zar:=⟨⟨0,0,0,0⟩,0,0,0,[],[],[]⟩
theorem zar.ziD:zar.zero.ok:=⟨by simp[zar.zero,ah],by simp[zar.zero,ah],by simp[zar.zero,ah]⟩
abbrev srS(l:bv)(i:Int):AS:={t:=qm 26 0 [(0,ab l),(1,ab l),zer,(5,eO i)],h:=[],m:=[]}
theorem rdself(r:EU):(!(r.kind==r.kind&&(r.sub==r.sub&&(r.obj==r.obj&&J))&&(r.lk==r.lk&&(r.Z5==r.Z5&&J))))=N:=qk
theorem I2{l:bv}{r:EU}(hr:ao (i:Int) l r.row 5)(hz:(!(r.kind==r.kind&&(r.sub==r.sub&&(r.obj==r.obj&&J))&&(r.lk==r.lk&&(r.Z5==r.Z5&&J))))=N)(oA:fE ((i:Int)<(l.length:Int))=J)(hw:S6.wrap ((i:Int)+1)=((i+1:Nat):Int)):(CW S5 ji [] N (sub Tryz.f16 0) (srS l i) w8 (srS l ((i+1:Nat):Int))):=by refine yX {t:=qm 26 0 [(0,ab l),(1,ab l),zer,(5,(ZZ i))],h:=[],m:=[]} Tr [E6 (IW [0,1,4,5])] [.b oA,.r hr,.r hr,.b hz] ?_ ?_<;>(grind)
abbrev zfL:AS:={t:=qm 26 0 [],h:=[],m:=[]}
theorem I3{l:bv}(oA:fE ((i:Int)<(l.length:Int))=N):(CW S5 ji [] N (sub Tryz.f16 0) (srS l i) (EY 0) zfL):=yx zbN [.b oA]
theorem srr_cw{l:iF}(hl:ah l):CW S5 ji [] false (.loop (sub Tryz.f16 0)) (srS (sU l) 0) (.exit 0) zfL:=by
 refine CW.zmB l.length (λi=>srS (sU l) (i:Int)) (by simp) (λi hi=>?_) ?_;·exact I2 (rowAt (TH hi) rfl) (rdself _) (F1 Xd hi) (sV hi hl)
 ·exact I3 (aR Xd l)
theorem gN{l:iF}(hl:ah l)(hn:(((sU l).length:Int) != ((sU l).length:Int))=N)(h:aT):(Ev S5 ji 16 [ab (sU l),ab (sU l)] h (eR J) h):=by have xd:=(@srr_cw (l) (hl));exact y0 [.b hn,.s [0,1,4,5] xd] h
theorem inself(a:Int):(a != a)=N:=qk
theorem I4{l:bv}(hr:ao (i:Int) l [vi a] 1)(hz:(a != a)=N)(oA:fE ((i:Int)<(l.length:Int))=J)(hw:S6.wrap ((i:Int)+1)=((i+1:Nat):Int)):(CW S5 ji [] N (sub Tryz.f19 0) (srS l i) w8 (srS l ((i+1:Nat):Int))):=by refine yX {t:=qm 26 0 [(0,ab l),(1,ab l),zer,(5,(ZZ i))],h:=[],m:=[]} Tr [E6 (IW [0,1,4,5])] [.b oA,.r hr,.r hr,.b hz] ?_ ?_<;>(grind)
theorem I5{l:bv}(oA:fE ((i:Int)<(l.length:Int))=N):(CW S5 ji [] N (sub Tryz.f19 0) (srS l i) (EY 0) zfL):=yx zbN [.b oA]
theorem sii_cw{l:bV}(hl:ah l):CW S5 ji [] false (.loop (sub Tryz.f19 0)) (srS (aA l) 0) (.exit 0) zfL:=by
 refine CW.zmB l.length (λi=>srS (aA l) (i:Int)) (by simp) (λi hi=>?_) ?_;·exact I4 (rowAt (row:=λn:Int=>[vi n]) (TH hi) rfl) (inself _) (F1 (λn:Int=>[vi n]) hi) (sV hi hl)
 ·exact I5 (aR (λn:Int=>[vi n]) l)
theorem jj{l:bV}(hl:ah l)(hn:(((aA l).length:Int) != ((aA l).length:Int))=N)(h:aT):(Ev S5 ji 19 [ab (aA l),ab (aA l)] h (eR J) h):=by have xd:=(@sii_cw (l) (hl));exact y0 [.b hn,.s [0,1,4,5] xd] h
noncomputable abbrev mN(a:zar):aT:=[eP (Z6 a),eP (Z6 a)]
abbrev zbv(b:zar):Bool:=b.q.kind==b.q.kind&&(b.q.st==b.q.st&&(b.q.obj==b.q.obj&&(b.q.eF==b.q.eF&&J)))&&b.ans==b.ans&&b.last==b.last&&b.bO==b.bO
theorem NO{a:zar}(h1:∀h,Ev S5 ji 19 [ab (aA a.now),ab (aA a.now)] h (eR J) h)(h2:∀h,Ev S5 ji 16 [ab (sU a.reads),ab (sU a.reads)] h (eR J) h)(h3:∀h,Ev S5 ji 19 [ab (aA a.named),ab (aA a.named)] h (eR J) h)(h:aT):(Ev S5 ji 12 [mS a.l,mS a.l] h (eR J) h):=yD (eR ((zbv a)&&J&&J&&J)) [.w (zbv a) (@h1 (mN a)),.w ((zbv a)&&J) (@h2 (mN a)),.w ((zbv a)&&J&&J) (@h3 (mN a))] h qk
theorem A8{a:zar}(ha:a.ok)(h:aT):Ev S5 ji 12 [mS a.l,mS a.l] h (eR J) h :=NO (λh=>jj ha.1 qk h) (λh=>gN ha.2.1 qk h) (λh=>jj ha.2.2 qk h) h
def eZ(q:QuT)(bO ans:Int)(rd:iF)(e:Int):zar×Int:=match e != 0 with
 |true=>(zar.zero,e)
 |false=>(⟨q,ans,ans,bO,[],rd,[]⟩,0)
abbrev ZR:bY:=[eO 0,eO 0,eO 0,eO 0,eO 0,eO 0,eO 0,nq,nq,nq]
abbrev zbY(a:QuT)(b c:Int)(d:D)(e:iF)(f:D):bY:=[eO a.kind,eO a.st,eO a.obj,eO a.eF,eO b,eO b,eO c,d,ab (sU e),f]
theorem jX{q:QuT}{bO ans e:Int}{rd:iF}(h:aT):(Ev S5 ji 129 [ag q.row,eO bO,eO ans,ab (sU rd),eO e] h (zes ((eZ q bO ans rd e).1.l) ((eZ q bO ans rd e).2)) h):=by
 cases sR:e != 0;·exact Tw (U7 (y0 (d:=TT [TF (zbY q ans bO nq rd nq),eO 0]) [.b sR] h)) (by simp[eZ,sR];rfl) Fb
 ·exact Tw (U7 (y0 (d:=TT [TF ZR,eO e]) [.b sR] h)) (by simp[eZ,sR];rfl) Fb
abbrev zad(a:QuT):bY:=[eO a.kind,eO a.st,eO a.obj,eO a.eF]
abbrev zhG(a:eQ)(b:QuT)(c:bY):aT:=[eP (ZA a),eP (zad b),eP c]
noncomputable abbrev sX(w:eQ)(q:QuT):aT:=(zhG w q ZR)
abbrev zeb(a:bY)(b:QuT)(c:Int)(d:bV):bY:=[mS a,ag b.row,eO c,ab (aA d)]
theorem NP{rd:iF}(hs:∀h,Ev S5 lL 17 (zb5 w q.kind q.st q.obj q.eF (eO bO)) h (uN [eO a,ab (sU rd),eO e]) h)(h:aT):(Ev S5 lL 65 (zeb w.l q bO nw) h (uN [mS (eZ q bO a rd e).1.l,eO (eZ q bO a rd e).2]) h):=y0 [.v (@hs (sX w q)),.v (Tp (Γ':=lL) (@jX q bO a e rd (sX w q)))] h
noncomputable abbrev xh(w:eQ)(q:QuT)(ms:Int)(us:bv)(ct:Bv):aT:=[eP (ZA w),eP (zad q),eP ZR,eP (zdY us ms (S2 (λb=>[Dp.v (Value.bool b)]) ct))]
noncomputable abbrev xi(w:eQ)(q:QuT):aT:=(zhG w q ZR)
abbrev zao(a:zar×Int):bY:=[eO a.fst.q.kind,eO a.fst.q.st,eO a.fst.q.obj,eO a.fst.q.eF,eO a.fst.ans,eO a.fst.last,eO a.fst.bO,ab (aA a.fst.now),ab (sU a.fst.reads),ab (aA a.fst.named)]
abbrev zjb(a:bv)(c:Int)(d:Bv)(f:Bool)(g:iF)(h:Int):D:=(uN [mS (zdY a c (d.map λb=>[.v (.bool b)])),eR f,ab (sU g),eO h])
theorem grad_a{ms:Int}{us:bv}{ct:Bv}{mt:Bool}{rd:iF}(hs:∀h,Ev S5 lL 15 (zdQ w q.st q.obj q.eF (eO bO)) h (zjb us ms ct mt rd e) h)(h:aT):(Ev S5 lL 66 (zeb w.l q bO nw) h (uN [mS (eZ q bO (bif mt then 1 else 0) rd e).1.l,eO (eZ q bO (bif mt then 1 else 0) rd e).2]) h):=by
 cases sR:mt;·exact yD (TT [TF (zao (eZ q bO 0 rd e)),eO (eZ q bO 0 rd e).2]) [.v (@hs (xi w q)),.b sR,.v (Tp (Γ':=lL) (@jX q bO 0 e rd (xh w q ms us ct)))] h Fb
 ·exact yD (TT [TF (zao (eZ q bO 1 rd e)),eO (eZ q bO 1 rd e).2]) [.v (@hs (xi w q)),.b sR,.v (Tp (Γ':=lL) (@jX q bO 1 e rd (xh w q ms us ct)))] h Fb
def jq(m:Int)(q:QuT):Bool:=fE (q.st<0)||fE (q.st>=20000)||fE (q.eF<0)||fE (q.eF>=1024)||fE (q.obj<0)||fE (q.obj>m)
def NQ(k:Int):DO:=if k=1 then G 4095 else if k=2 then G 0 else if k=3 then G 10000 else if k=4 then G 0 else if k=5 then G 255 else Y
def cP(q:QuT):Int:=match NQ q.kind with
 |none=>340
 |some m=>bif jq m q then 340 else 0
abbrev zaR:List (D×D×Nat):=[(eO 1,mS [eO 4095,fq 64],0),(eO 2,mS [eO 0,fq 65],1),(eO 3,mS [eO 10000,fq 65],2),(eO 4,mS [eO 0,fq 65],3),(eO 5,mS [eO 255,fq 66],4)]
abbrev qkM:aT:=[NI zaR 5]
abbrev zjj:D:=TF [eO 0,fq 65]
abbrev zal:List (D×D×Nat):=[(eO 1,TF [eO 4095,fq 64],0),(eO 2,zjj,1),(eO 3,TF [eO 10000,fq 65],2),(eO 4,zjj,3),(eO 5,TF [eO 255,fq 66],4)]
theorem zsB:(Ev S5 ji 23 [] [] (gM (.mp 0)) qkM):=Tw (yF (h':=[NI zal 5]) (d:=gM (.mp 0)) []) Fb Fb
theorem bB(h:aT):Ev S5 ji 23 [] h (gM (.mp h.length)) (h++qkM):=zsB.zpY Z rfl h
abbrev zcJ:bY:=[eO 4095,fq 64]
abbrev zh7(a:bY):At:=(G (TT [TF a,eR J]))
theorem qk1_a(h:aT):(Ev S5 ji 13 [mS (zaL 1 st obj eF)] h (eO (bif jq 4095 ⟨1,st,obj,eF⟩ then 340 else 0)) h):=by
 cases sR:!true||fE (st<0)||fE (st>=20000)||fE (eF<0)||fE (eF>=1024)||fE (obj<0)||fE (obj>4095)
 ·exact yD (eO 0) [.n 1,.a1 .late,.c (@bB ([eP (zaL 1 st obj eF)])),pe Θ,pe Θ,pe Θ,po (TO 1),po (TO 1),po (TO 1),po (zh7 zcJ),po (zh7 zcJ),.b sR] h (by(have hh:jq 4095 ⟨1,st,obj,eF⟩=N:=sR;rw[hh];rfl))
 ·exact yD (eO 340) [.n 1,.a1 .late,.c (@bB ([eP (zaL 1 st obj eF)])),pe Θ,pe Θ,pe Θ,po (TO 1),po (TO 1),po (TO 1),po (zh7 zcJ),po (zh7 zcJ),.b sR] h (by(have hh:jq 4095 ⟨1,st,obj,eF⟩=J:=sR;rw[hh];rfl))
abbrev zbx(a:Int):At:=(zh7 [eO a,fq 65])
theorem qk2_a(h:aT):(Ev S5 ji 13 [mS (zaL 2 st obj eF)] h (eO (bif jq 0 ⟨2,st,obj,eF⟩ then 340 else 0)) h):=by
 cases sR:!true||fE (st<0)||fE (st>=20000)||fE (eF<0)||fE (eF>=1024)||fE (obj<0)||fE (obj>0)
 ·exact yD (eO 0) [.n 1,.a1 .late,.c (@bB ([eP (zaL 2 st obj eF)])),pe Θ,pe Θ,pe Θ,po (TO 2),po (TO 2),po (TO 2),po (zbx 0),po (zbx 0),.b sR] h (by(have hh:jq 0 ⟨2,st,obj,eF⟩=N:=sR;rw[hh];rfl))
 ·exact yD (eO 340) [.n 1,.a1 .late,.c (@bB ([eP (zaL 2 st obj eF)])),pe Θ,pe Θ,pe Θ,po (TO 2),po (TO 2),po (TO 2),po (zbx 0),po (zbx 0),.b sR] h (by(have hh:jq 0 ⟨2,st,obj,eF⟩=J:=sR;rw[hh];rfl))
theorem qk3_a(h:aT):(Ev S5 ji 13 [mS (zaL 3 st obj eF)] h (eO (bif jq 10000 ⟨3,st,obj,eF⟩ then 340 else 0)) h):=by
 cases sR:!true||fE (st<0)||fE (st>=20000)||fE (eF<0)||fE (eF>=1024)||fE (obj<0)||fE (obj>10000)
 ·exact yD (eO 0) [.n 1,.a1 .late,.c (@bB ([eP (zaL 3 st obj eF)])),pe Θ,pe Θ,pe Θ,po (TO 3),po (TO 3),po (TO 3),po (zbx 10000),po (zbx 10000),.b sR] h (by(have hh:jq 10000 ⟨3,st,obj,eF⟩=N:=sR;rw[hh];rfl))
 ·exact yD (eO 340) [.n 1,.a1 .late,.c (@bB ([eP (zaL 3 st obj eF)])),pe Θ,pe Θ,pe Θ,po (TO 3),po (TO 3),po (TO 3),po (zbx 10000),po (zbx 10000),.b sR] h (by(have hh:jq 10000 ⟨3,st,obj,eF⟩=J:=sR;rw[hh];rfl))
theorem qk4_a(h:aT):(Ev S5 ji 13 [mS (zaL 4 st obj eF)] h (eO (bif jq 0 ⟨4,st,obj,eF⟩ then 340 else 0)) h):=by
 cases sR:!true||fE (st<0)||fE (st>=20000)||fE (eF<0)||fE (eF>=1024)||fE (obj<0)||fE (obj>0)
 ·exact yD (eO 0) [.n 1,.a1 .late,.c (@bB ([eP (zaL 4 st obj eF)])),pe Θ,pe Θ,pe Θ,po (TO 4),po (TO 4),po (TO 4),po (zbx 0),po (zbx 0),.b sR] h (by(have hh:jq 0 ⟨4,st,obj,eF⟩=N:=sR;rw[hh];rfl))
 ·exact yD (eO 340) [.n 1,.a1 .late,.c (@bB ([eP (zaL 4 st obj eF)])),pe Θ,pe Θ,pe Θ,po (TO 4),po (TO 4),po (TO 4),po (zbx 0),po (zbx 0),.b sR] h (by(have hh:jq 0 ⟨4,st,obj,eF⟩=J:=sR;rw[hh];rfl))
abbrev zc3:bY:=[eO 255,fq 66]
theorem qk5_a(h:aT):(Ev S5 ji 13 [mS (zaL 5 st obj eF)] h (eO (bif jq 255 ⟨5,st,obj,eF⟩ then 340 else 0)) h):=by
 cases sR:!true||fE (st<0)||fE (st>=20000)||fE (eF<0)||fE (eF>=1024)||fE (obj<0)||fE (obj>255)
 ·exact yD (eO 0) [.n 1,.a1 .late,.c (@bB ([eP (zaL 5 st obj eF)])),pe Θ,pe Θ,pe Θ,po (TO 5),po (TO 5),po (TO 5),po (zh7 zc3),po (zh7 zc3),.b sR] h (by(have hh:jq 255 ⟨5,st,obj,eF⟩=N:=sR;rw[hh];rfl))
 ·exact yD (eO 340) [.n 1,.a1 .late,.c (@bB ([eP (zaL 5 st obj eF)])),pe Θ,pe Θ,pe Θ,po (TO 5),po (TO 5),po (TO 5),po (zh7 zc3),po (zh7 zc3),.b sR] h (by(have hh:jq 255 ⟨5,st,obj,eF⟩=J:=sR;rw[hh];rfl))
theorem lkQ{h:aT}(h1:¬k=1)(h2:¬k=2)(h3:¬k=3)(h4:¬k=4)(h5:¬k=5)(hb:h[1]? = some (.map zaR 5)):aw S5 h 71 zea (eO k) true=some (.Pp [.agg [eO 0,lit .nilFunc],eR false]):=by
 have e1:S5.underlying 71=some (.map 3 70):=by kernel_rfl
 have e2:cV S5 3 (eO k)=true:=by kernel_rfl
 have e3:jp S5 70=some (.agg #[.int .i64 0,.nilFunc]):=by kernel_rfl
 have e4:dz (eO k) zaR 0=some none:=by
  have n1:ew (eO k) (eO 1)=some false:=by simp[ew,h1]
  have n2:ew (eO k) (eO 2)=some false:=by simp[ew,h2]
  have n3:ew (eO k) (eO 3)=some false:=by simp[ew,h3]
  have n4:ew (eO k) (eO 4)=some false:=by simp[ew,h4]
  have n5:ew (eO k) (eO 5)=some false:=by simp[ew,h5]
  simp only[dz,n1,n2,n3,n4,n5]
 unfold aw;simp only[e1,lU,hb,e2,if_true,e3,e4];rfl
theorem lkQ2(h1:¬k=1)(h2:¬k=2)(h3:¬k=3)(h4:¬k=4)(h5:¬k=5):LkIs S5 71 zaR (eO k) J (uN [mS [eO 0,lit .nilFunc],eR N]):=by have:=lkQ (h:=[xx,NI zaR 5]) h1 h2 h3 h4 h5 rfl;grind [lU,LkIs,aw]
noncomputable abbrev I6(k:Int)(st:Int)(obj:Int)(eF:Int):aT:=[eP (zaL k st obj eF),NI zal 5]
theorem qkN_a(h1:¬k=1)(h2:¬k=2)(h3:¬k=3)(h4:¬k=4)(h5:¬k=5)(h:aT):(Ev S5 ji 13 [mS (zaL k st obj eF)] h (eO 340) h):=by let v0:aT:=[NI zal 0];let v1:=TT [TF [eO 0,D.p (Dp.v T5)],eR N];refine yD (eO 340) [.n 1,.a1 .late,.c (@bB ([eP (zaL k st obj eF)])),(?_:@Eq (At) (aw S5 (I6 k st obj eF) 71 zea (eO k) J) (G v1)),pe Θ,pe Θ,pe Θ,po (TO k),po (TO k),po (TO k),(?_:@Eq (At) (aw S5 v0 71 (gM (.mp 0)) (eO k) J) (G v1)),(?_:@Eq (At) (aw S5 v0 71 (gM (.mp 0)) (eO k) J) (G v1)),.a1 (zfG 9 (TT [TF [eO 0,lit T5],eR N])),.e] h (by subst v0 v1;grind)<;>subst v0 v1<;>(first|exact lkQ h1 h2 h3 h4 h5 rfl|exact lkQ2 h1 h2 h3 h4 h5)
theorem zlS(k:Int):k=1\/k=2\/k=3\/k=4\/k=5\/(¬k=1/\¬k=2/\¬k=3/\¬k=4/\¬k=5):=lj
theorem qo(q:QuT)(h:aT):Ev S5 ji 13 [ag q.row] h (eO (cP q)) h:=by
 obtain⟨k,st,obj,eF⟩:=q;rcases zlS k with rfl|rfl|rfl|rfl|rfl|⟨h1,h2,h3,h4,h5⟩
 ·exact qk1_a h
 ·exact qk2_a h
 ·exact qk3_a h
 ·exact qk4_a h
 ·exact qk5_a h
 ·have:cP ⟨k,st,obj,eF⟩=340:=by simp[cP,NQ,h1,h2,h3,h4,h5]
  rw[this];exact qkN_a h1 h2 h3 h4 h5 h
abbrev qA(w:eQ)(q:QuT)(bO:Int)(nw:List Int):List D:=[.agg w.l,ag q.row,eO bO,ab (aA nw)]
noncomputable abbrev CF(w:eQ)(q:QuT):aT:=(zhG w q ZR)
theorem E9(hz:(e != 0)=J)(hk:∀h,Ev S5 lL 13 [ag q.row] h (eO e) h)(h:aT):(Ev S5 lL 10 (qA w q bO nw) h (uN [mS zar.zero.l,eO e]) h):=Tw (U7 (y0 (d:=TT [TF ZR,eO e]) [.v (@hk (CF w q)),.b hz] h)) Fb Fb
noncomputable abbrev I7(w:eQ)(st:Int)(obj:Int)(eF:Int):aT:=[eP (ZA w),eP (zaL 2 st obj eF),eP ZR,NI zal 5]
noncomputable abbrev A9(w:eQ)(st:Int)(obj:Int)(eF:Int):aT:=[eP (ZA w),eP (zaL 2 st obj eF),eP ZR]
abbrev zaI(a:zar×Int):D:=(uN [mS a.1.l,eO a.2])
theorem ans_2(hk:∀h,Ev S5 lL 13 [mS (zaL 2 st obj eF)] h (eO 0) h)(hs:∀h,Ev S5 lL 65 [mS w.l,mS (zaL 2 st obj eF),eO bO,ab (aA nw)] h (zaI r) h)(h:aT):(Ev S5 lL 10 [mS w.l,mS (zaL 2 st obj eF),eO bO,ab (aA nw)] h (zaI r) h):=y0 [.v (@hk (A9 w st obj eF)),.e,.c (Tp (Γ':=lL) (@bB (A9 w st obj eF))),.v (@hs (I7 w st obj eF)),pe zbB,pe zbB,po (TO 2),po (TO 2),po (G (zjj)),pe (TF (TC w)),pe (TF (TC w)),pe (TF (zaL 2 st obj eF)),pe (TF (zaL 2 st obj eF))] h
noncomputable abbrev I8(w:eQ)(st:Int)(obj:Int)(eF:Int):aT:=[eP (ZA w),eP (zaL 3 st obj eF),eP ZR,NI zal 5]
noncomputable abbrev Ba(w:eQ)(st:Int)(obj:Int)(eF:Int):aT:=[eP (ZA w),eP (zaL 3 st obj eF),eP ZR]
theorem ans_3(hk:∀h,Ev S5 lL 13 [mS (zaL 3 st obj eF)] h (eO 0) h)(hs:∀h,Ev S5 lL 65 [mS w.l,mS (zaL 3 st obj eF),eO bO,ab (aA nw)] h (zaI r) h)(h:aT):(Ev S5 lL 10 [mS w.l,mS (zaL 3 st obj eF),eO bO,ab (aA nw)] h (zaI r) h):=y0 [.v (@hk (Ba w st obj eF)),.e,.c (Tp (Γ':=lL) (@bB (Ba w st obj eF))),.v (@hs (I8 w st obj eF)),pe zbB,pe zbB,po (TO 3),po (TO 3),po (G (TF [eO 10000,fq 65])),pe (TF (TC w)),pe (TF (TC w)),pe (TF (zaL 3 st obj eF)),pe (TF (zaL 3 st obj eF))] h
noncomputable abbrev I9(w:eQ)(st:Int)(obj:Int)(eF:Int):aT:=[eP (ZA w),eP (zaL 4 st obj eF),eP ZR,NI zal 5]
noncomputable abbrev Bb(w:eQ)(st:Int)(obj:Int)(eF:Int):aT:=[eP (ZA w),eP (zaL 4 st obj eF),eP ZR]
theorem ans_4(hk:∀h,Ev S5 lL 13 [mS (zaL 4 st obj eF)] h (eO 0) h)(hs:∀h,Ev S5 lL 65 [mS w.l,mS (zaL 4 st obj eF),eO bO,ab (aA nw)] h (zaI r) h)(h:aT):(Ev S5 lL 10 [mS w.l,mS (zaL 4 st obj eF),eO bO,ab (aA nw)] h (zaI r) h):=y0 [.v (@hk (Bb w st obj eF)),.e,.c (Tp (Γ':=lL) (@bB (Bb w st obj eF))),.v (@hs (I9 w st obj eF)),pe zbB,pe zbB,po (TO 4),po (TO 4),po (G (zjj)),pe (TF (TC w)),pe (TF (TC w)),pe (TF (zaL 4 st obj eF)),pe (TF (zaL 4 st obj eF))] h
noncomputable abbrev Ja(w:eQ)(st:Int)(obj:Int)(eF:Int):aT:=[eP (ZA w),eP (zaL 5 st obj eF),eP ZR,NI zal 5]
noncomputable abbrev Bc(w:eQ)(st:Int)(obj:Int)(eF:Int):aT:=[eP (ZA w),eP (zaL 5 st obj eF),eP ZR]
theorem ans_5(hk:∀h,Ev S5 lL 13 [mS (zaL 5 st obj eF)] h (eO 0) h)(hs:∀h,Ev S5 lL 66 [mS w.l,mS (zaL 5 st obj eF),eO bO,ab (aA nw)] h (zaI r) h)(h:aT):(Ev S5 lL 10 [mS w.l,mS (zaL 5 st obj eF),eO bO,ab (aA nw)] h (zaI r) h):=y0 [.v (@hk (Bc w st obj eF)),.e,.c (Tp (Γ':=lL) (@bB (Bc w st obj eF))),.v (@hs (Ja w st obj eF)),pe zbB,pe zbB,po (TO 5),po (TO 5),po (G (TF zc3)),pe (TF (TC w)),pe (TF (TC w)),pe (TF (zaL 5 st obj eF)),pe (TF (zaL 5 st obj eF))] h
noncomputable def HX(w:eQ)(ps:Is)(q:QuT)(bO:Int):zar×Int:=match cP q != 0 with
 |true=>(zar.zero,cP q)
 |false=>match q.kind==5 with
  |true=>eZ q bO (bif (mK w ps q.st q.obj q.eF bO).met then 1 else 0) (mK w ps q.st q.obj q.eF bO).rd (mK w ps q.st q.obj q.eF bO).e
  |false=>eZ q bO (jU w q.kind q.st q.obj q.eF bO).ans (jU w q.kind q.st q.obj q.eF bO).q (jU w q.kind q.st q.obj q.eF bO).e
theorem ans_ev(hw:w.ok)(hf:w.f.length<=41)(hp:w.p=ps.map Xc)(hs:∀x∈ps,x.ok)(hm:∀x∈ps,(x.reqs.map λq=>q.lk.length).sum<=1048576)(hq:q.kind≠1)(h:aT):Ev S5 lL 10 (qA w q bO nw) h (uN [mS (HX w ps q bO).1.l,eO (HX w ps q bO).2]) h:=by
 have hk:∀h,Ev S5 lL 13 [ag q.row] h (eO (cP q)) h:=λh=>Tp (qo q h);unfold HX;cases hz:(cP q != 0) with
 |true=>exact E9 hz hk h
 |false=>
  have hz':cP q=0:=by simpa using hz
  rw[hz'] at hk;have Υ:∀{nw:bV} h,Ev S5 lL 65 (qA w q bO nw) h (zaI (eZ q bO (jU w q.kind q.st q.obj q.eF bO).ans (jU w q.kind q.st q.obj q.eF bO).q (jU w q.kind q.st q.obj q.eF bO).e)) h:=λh=>NP (λh=>LT hw h) h;have hgr:∀{nw:bV} h,Ev S5 lL 66 (qA w q bO nw) h (zaI (eZ q bO (bif (mK w ps q.st q.obj q.eF bO).met then 1 else 0) (mK w ps q.st q.obj q.eF bO).rd (mK w ps q.st q.obj q.eF bO).e)) h:=λh=>grad_a (λh=>LS hw hf hp hs hm h) h;obtain⟨k,st,obj,eF⟩:=q;rcases zlS k with rfl|rfl|rfl|rfl|rfl|⟨h1,h2,h3,h4,h5⟩
  ·grind
  ·exact ans_2 hk Υ h
  ·exact ans_3 hk Υ h
  ·exact ans_4 hk Υ h
  ·exact ans_5 hk hgr h
  ·exfalso;have:cP ⟨k,st,obj,eF⟩=340:=by simp[cP,NQ,h1,h2,h3,h4,h5]
   omega
noncomputable abbrev zn(w:eQ):aT:=[eP (ZA w)]
abbrev zeu(a:eQ)(b:bV):bY:=[mS a.l,ab (aA b)]
theorem Jb{b:Bool}(kf:∀h,Ev S5 ji 22 [mS w.l] h (eR b) h)(h:aT):(Ev S5 ji 9 (zeu w nw) h (eR (b&&fE (((aA nw).length:Int)<=20))) h):=y0 [.v (@kf (zn w))] h
theorem NR:(vwX q1 q2 e1 e2 ea CE n d e).q.length<=q1.length+q2.length:=by
 unfold vwX;split;·simp
 grind
theorem NS{x:VwX}{fe cl ho:Int×Int}:(ofX kind st obj eF q1 x fe cl ho).q.length<=q1.length+x.q.length:=by
 unfold ofX;split;·simp
 ·split;·simp
  grind
theorem sY(hw:w.ok):ah (jU w kind st obj eF bO).q:=by have h1:=fk 4 0 0 eF;have h2:=oK hw (st:=st) (eF:=eF) (bO:=bO);have h3:=iY (w:=w) (r:=(dP w st eF bO).1) (eF:=eF) (bO:=bO);have h4:(j9 w st eF bO).q.length<=(dP w st eF bO).2.1.length+(cN w (dP w st eF bO).1 eF bO).2.1.length:=NR;have h5:(jU w kind st obj eF bO).q.length<=(rdT 4 0 0 eF).length+(j9 w st eF bO).q.length:=NS;unfold ah;omega
structure eQ.ok0 (w:eQ):Prop where
 c:∀x∈w.c,x.ok
 s:∀x∈w.s,x.ok
 lc:ah w.c
 ls:ah w.s
 i:∀f∈w.f,f.ok
structure eQ.okP (w:eQ) (ps:Is):Prop where
 p:w.p=ps.map Xc
 k:∀x∈ps,x.ok
 l:ah ps
 m:∀x∈ps,(x.reqs.map λq=>q.lk.length).sum<=1048576
theorem uC(hw:w.ok0)(hp:w.okP ps)(nw:bV):∃b:Bool,(b=J->w.ok/\w.f.length<=40/\nw.length<=20)/\∀h,Ev S5 ji 9 (zeu w nw) h (eR b) h:=by
 obtain⟨b,hb,kf⟩:=KB hw.c hw.lc hp.p hp.l;refine⟨_,λhh=>?_,λh=>Jb kf h⟩;cases b with
 |false=>simp at hh
 |true=>have:=hb rfl;simp at hh;exact⟨⟨hw.c,hw.s,lj,hw.lc,hw.ls,hw.i⟩,this,lj⟩
theorem Fc{ans:Int}{rd:iF}(h:ah rd):(eZ q bO ans rd e).1.ok:=by
 unfold eZ;split;·exact zar.ziD
 ·exact⟨by simp[ah],h,by simp[ah]⟩
theorem NT(hw:w.ok)(hf:w.f.length<=41)(hp:w.okP ps)(q:QuT)(bO:Int):(HX w ps q bO).1.ok:=by
 unfold HX;split;·exact zar.ziD
 ·split
  ·have hn:(af w.f bO).length<=1000:=by have:=bF (fs:=w.f) (bO:=bO);omega
   exact Fc (sW hw hn (zi (w:=w) hp.k hp.m q.obj q.eF bO).2.2)
  ·exact Fc (sY hw)
end Go.Vi
open Go Go.Proofs Go.Shelf
namespace Go.Proofs
def Tryz.znO:Go.Shelf.Ren:=⟨fun|6=>95|15=>109|14=>168|28=>186|29=>187|20=>237|21=>238|22=>239|23=>240|24=>241|25=>242|26=>243|27=>244|46=>299|47=>262|48=>263|49=>300|50=>301|57=>325|n=>n,fun|22=>85|24=>160|25=>174|3=>3|39=>196|0=>0|53=>263|55=>265|4=>4|46=>257|45=>256|50=>191|5=>5|9=>9|66=>334|70=>338|76=>361|77=>362|n=>n,fun|n=>n⟩
theorem Tryz.zsu:Yt S5 Tryz.znO:={
 mixed:=by kernel_rfl
 f6:=⟨Tryz.f95.name,by decide,Tryz.func95.trans (congrArg some (by kernel_rfl))⟩
 f14:=⟨Tryz.f168.name,by decide,Tryz.func168.trans (congrArg some (by kernel_rfl))⟩
 f15:=Tryz.func109.trans (congrArg some (by kernel_rfl))
 f20:=⟨Tryz.f237.name,by decide,Tryz.func237.trans (congrArg some (by kernel_rfl))⟩
 f21:=⟨Tryz.f238.name,by decide,Tryz.func238.trans (congrArg some (by kernel_rfl))⟩
 f22:=⟨Tryz.f239.name,by decide,Tryz.func239.trans (congrArg some (by kernel_rfl))⟩
 f23:=⟨Tryz.f240.name,by decide,Tryz.func240.trans (congrArg some (by kernel_rfl))⟩
 f24:=⟨Tryz.f241.name,by decide,Tryz.func241.trans (congrArg some (by kernel_rfl))⟩
 f25:=⟨Tryz.f242.name,by decide,Tryz.func242.trans (congrArg some (by kernel_rfl))⟩
 f26:=⟨Tryz.f243.name,by decide,Tryz.func243.trans (congrArg some (by kernel_rfl))⟩
 f27:=⟨Tryz.f244.name,by decide,Tryz.func244.trans (congrArg some (by kernel_rfl))⟩
 f28:=Tryz.func186.trans (congrArg some (by kernel_rfl))
 f29:=Tryz.func187.trans (congrArg some (by kernel_rfl))
 f46:=⟨Tryz.f299.name,by decide,Tryz.func299.trans (congrArg some (by kernel_rfl))⟩
 f47:=Tryz.func262.trans (congrArg some (by kernel_rfl))
 f48:=Tryz.func263.trans (congrArg some (by kernel_rfl))
 f49:=⟨Tryz.f300.name,by decide,Tryz.func300.trans (congrArg some (by kernel_rfl))⟩
 f50:=⟨Tryz.f301.name,by decide,Tryz.func301.trans (congrArg some (by kernel_rfl))⟩
 f57:=⟨Tryz.f325.name,by decide,Tryz.func325.trans (congrArg some (by kernel_rfl))⟩
 t0:=Tryz.underlying0
 a0:=Tryz.isAgg0
 z0:=Tryz.sizeOf0
 v0:=Tryz.zeroValue0
 t3:=Tryz.underlying3
 a3:=Tryz.isAgg3
 z3:=Tryz.sizeOf3
 v3:=Tryz.zeroValue3
 t4:=Tryz.underlying4
 a4:=Tryz.isAgg4
 z4:=Tryz.sizeOf4
 v4:=Tryz.zeroValue4
 t5:=Tryz.underlying5
 a5:=Tryz.isAgg5
 z5:=Tryz.sizeOf5
 v5:=Tryz.zeroValue5
 t9:=Tryz.underlying9
 a9:=Tryz.isAgg9
 z9:=Tryz.sizeOf9
 v9:=Tryz.zeroValue9
 t22:=Tryz.underlying85
 a22:=Tryz.isAgg85
 z22:=Tryz.sizeOf85
 v22:=Tryz.zeroValue85
 t25:=Tryz.underlying174
 a25:=Tryz.isAgg174
 z25:=Tryz.sizeOf174
 v25:=Tryz.zeroValue174
 t39:=Tryz.underlying196
 a39:=Tryz.isAgg196
 z39:=Tryz.sizeOf196
 v39:=Tryz.zeroValue196
 t45:=Tryz.underlying256
 a45:=Tryz.isAgg256
 z45:=Tryz.sizeOf256
 v45:=Tryz.zeroValue256
 t46:=Tryz.underlying257
 a46:=Tryz.isAgg257
 z46:=Tryz.sizeOf257
 v46:=Tryz.zeroValue257
 t50:=Tryz.underlying191
 a50:=Tryz.isAgg191
 z50:=Tryz.sizeOf191
 v50:=Tryz.zeroValue191
 t53:=Tryz.underlying263
 a53:=Tryz.isAgg263
 z53:=Tryz.sizeOf263
 v53:=Tryz.zeroValue263
 t55:=Tryz.underlying265
 a55:=Tryz.isAgg265
 z55:=Tryz.sizeOf265
 v55:=Tryz.zeroValue265
 t66:=Tryz.underlying334
 a66:=Tryz.isAgg334
 z66:=Tryz.sizeOf334
 v66:=Tryz.zeroValue334
 t70:=Tryz.underlying338
 a70:=Tryz.isAgg338
 z70:=Tryz.sizeOf338
 v70:=Tryz.zeroValue338
 t76:=Tryz.underlying361
 a76:=Tryz.isAgg361
 z76:=Tryz.sizeOf361
 v76:=Tryz.zeroValue361
 t77:=Tryz.underlying362
 a77:=Tryz.isAgg362
 z77:=Tryz.sizeOf362
 v77:=Tryz.zeroValue362}
end Go.Proofs
namespace Go.Vi
open Go.Sort
set_option maxRecDepth 100000
set_option maxHeartbeats 4000000
structure Jv where
 f7:Int
 tries:Int
 uR:Int
 now:Bool
 deriving Inhabited,DecidableEq
def Jv.row(s:Jv):dO:=[vi s.f7,vi s.tries,vi s.uR,.v (.bool s.now)]
abbrev zaX(b:Jv):bY:=[eO b.f7,eO b.tries,eO b.uR,eR b.now]
noncomputable abbrev uD(a:Jv)(b:Jv):aT:=[eP (zaX a),eP (zaX b)]
theorem CG{a b:Jv}(h:aT):(Ev S5 ji 96 [ag a.row,ag b.row] h (eO (cF a.f7 b.f7)) h):=y0 [.v (@dl (a.f7) (b.f7) (uD a b))] h
def SR(a b:Jv):Int:=cF a.f7 b.f7
def leS(a b:Jv):Bool:=!(ltOf SR) b a
theorem Fd(a b:Jv):(ltOf SR) a b=J ↔ a.f7<b.f7:=by unfold ltOf SR cF;grind
theorem uE(a b:Jv):(ltOf SR) a b=N ↔ ¬a.f7<b.f7:=by rw[<-Fd,Bool.not_eq_true]
theorem swoS:SWO (ltOf SR) where
 irrefl x:=by rw[uE];omega
 trans x y z h1 h2:=by grind [Fd]
 ntrans x y z h1 h2:=by grind [uE]
def encS(a:Jv):oR:=[.int Χ a.f7,.int Χ a.tries,.int Χ a.uR,.bool a.now]
abbrev bE(l:List Jv):List (bY):=l.map λa=>a.row.map .p
theorem zo{h:aT}{b e:Nat}{l:List Jv}(hb:h[b]?=G (.eY (bE l) e 4))(hl:l.length<4611686018427387904)(hT:∀x∈l,∀y∈l,x.f7=y.f7->x=y):Ev S5 ji 95 [gM (.eY b e),.p (zcs 96)] h (uN []) (h.set b (.eY (bE (l.mergeSort leS)) e 4)) :=nI (α:=Jv) (enc:=encS) (k:=4) (cf:=SR) τ Tryz.zsu Tryz.isAgg160 Tryz.sizeOf160 (λ_=>rfl) (λx v hv=>by simp[encS] at hv;rcases hv with rfl|rfl|rfl|rfl<;>rfl) swoS Z (λx y=>CG []) hb hl
  (λx hx y hy h1 h2=>by
   grind [uE])
end Go.Vi
open Go Go.Proofs
namespace Go.Vi
set_option maxRecDepth 100000
set_option maxHeartbeats 4000000
variable {P:Program}{b:Nat}{c k:Int}{et kt t:TypeId}{h:aT}
abbrev SM:=List (Int×Jv)
variable {l:SM}
def seD(s:Jv):D:=mS (s.row.map .p)
def bp:Nat->SM->List (D×D×Nat)
 |_,[]=>[]
 |j,(k,v)::l=>(eO k,seD v,j)::bp (j+1) l
def smB(l:SM):ql:=NI (bp 0 l) l.length
def nX:SM->Int->Option Jv
 | [],_=>Y
 |(a,v)::l,k=>if a=k then G v else nX l k
def cY:SM->Int->Jv->SM
 | [],k,v=>[(k,v)]
 |(a,x)::l,k,v=>if a=k then (k,v)::l else (a,x)::cY l k v
def HY:SM->Int->Nat->Option (Nat×D)
 | [],_,_=>Y
 |(a,v)::l,k,i=>if a=k then G (i,seD v) else HY l k (i+1)
theorem qp(k:Int):∀(l:SM) (j i:Nat),dz (eO k) (bp j l) i=G (HY l k i)
 | [],_,_=>rfl
 |(a,v)::l,j,i=>by
  simp[bp,dz,HY];by_cases h:a=k;·subst h;simp[ew]
  ·have:ew (eO k) (eO a)=G N:=by have h2:¬k=a:=λe=>h e.symm;simp[ew,h2]
   rw[this];simp[h];exact qp k l (j+1) (i+1)
theorem qr:∀{l:SM} {i:Nat},HY l k i=Y->nX l k=Y/\∀v,cY l k v=l++[(k,v)]
 | [],_,_=>by simp[nX,cY]
 |(a,x)::l,i,h=>by
  unfold HY at h;split at h;·simp at h
  ·rename_i hne;obtain⟨h1,h2⟩:=qr h;simp only[nX,cY,hne,if_false,h1,true_and];grind
theorem qt:∀{l:SM} {i j n:Nat} {d:D},HY l k i=G (n,d)->∃v,d=seD v/\nX l k=G v/\i<=n/\((bp j l)[n-i]?).map (λe=>e.2.2)=G (j+(n-i))/\∀x,bp j (cY l k x)=(bp j l).set (n-i) (eO k,seD x,j+(n-i))/\(cY l k x).length=l.length
 | [],_,_,_,_,h=>by simp[HY] at h
 |(a,x)::l,i,j,n,d,h=>by
  unfold HY at h;split at h;·rename_i ha;simp at h;obtain⟨rfl,rfl⟩:=h;exact⟨x,rfl,by simp[nX,ha],Nat.le_refl _,by simp[bp],λy=>by simp[cY,ha,bp]⟩
  ·rename_i ha;obtain⟨v,h1,h2,h3,h4,h5⟩:=qt (j:=j+1) h;have e:n-i=(n-(i+1))+1:=lj
   refine⟨v,h1,by simp[nX,ha,h2],lj,?_,λy=>?_⟩;·rw[e];simp only[bp,List.getElem?_cons_succ,h4];congr 1;omega
   ·obtain⟨h6,h7⟩:=h5 y;simp only[cY,ha,if_false,bp,h6];grind
def CH:Jv:=⟨0,0,0,N⟩
theorem CI(hk:cV P kt (eO c)=true)(ht:P.underlying t=some (.map kt et))(hz:jp P et=some (.agg #[.int .i64 0,.int .i64 0,.int .i64 0,.bool false]))(hb:h[b]? = some (smB l)):aw P h t (zdB b) (eO c) false=some (seD ((nX l c).getD CH)):=by
 unfold aw;simp only[ht,lU,hb,smB,hk,if_true,hz,qp];cases hi:HY l c 0 with
 | none =>rw[(qr hi).1];rfl
 | some p =>obtain⟨n,d⟩:=p;obtain⟨v,rfl,h2,_⟩:=qt (j:=0) hi;rw[h2];rfl
theorem Bd(k:Int)(v:Jv):∀(l:SM) (j:Nat),bp j (l++[(k,v)])=bp j l++[(eO k,seD v,j+l.length)]
 | [],j=>by simp[bp]
 |(a,x)::l,j=>by simp only[List.cons_append,bp,Bd k v l (j+1),List.length_cons];grind
theorem Fe{v:Jv}(hk:cV P kt (eO c)=true)(ht:P.underlying t=some (.map kt et))(hb:h[b]? = some (smB l)):ay P h t (zdB b) (eO c) (seD v)=some (h.set b (smB (cY l c v))):=by
 unfold ay;simp[ht,hb,smB,hk,qp];cases hi:HY l c 0 with
 | none =>simp only[(qr hi).2 v,Bd];simp
 | some p =>obtain⟨n,d⟩:=p;obtain⟨x,rfl,_,_,h4,h5⟩:=qt (j:=0) hi;grind
theorem dg(f:Ref->D):∀(l:SM) (j:Nat),(bp j l).map (λe=>(D.FK f e.1,D.FK f e.2.1,e.2.2))=bp j l
 | [],_=>rfl
 |(a,x)::l,j=>by simp only[bp,List.map_cons,dg f l (j+1)];rfl
theorem Be(n:Nat):∀(l:SM) (j:Nat),((bp j l).all λe=>D.inn n e.1&&D.inn n e.2.1)=J
 | [],_=>rfl
 |(a,x)::l,j=>by simp only[bp,VI,Be n l (j+1)];rfl
theorem sZ{n:Nat}:ql.inn n (smB l)=J:=Be n l 0
end Go.Vi
