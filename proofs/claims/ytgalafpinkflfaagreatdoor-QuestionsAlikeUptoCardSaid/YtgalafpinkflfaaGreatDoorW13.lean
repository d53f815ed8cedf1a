/- A part of the proof; no conditions of its own. -/
import Derived.Test.YtgalafpinkflfaaGreatDoorW12
import Derived.Test.YtgalafpinkflfaaGreatDoorCards
import Derived.Test.YtgalafpinkflfaaGreatDoorTie
import Derived.WalkKit
import Derived.ProofKit
import Derived.OpenShut
import Derived.Deep.DeepHandedRow
import Derived.Lib.LaidTab
import Derived.LaidHandle
open Bool renaming true->J,false->N
open Option renaming some->G,none->Y
open Go.Vi.F2 renaming map->Η,var->iI
open Go.Vi.D renaming Ρ->JV,agg->uT,any->ZG
open Go.Vi.Ans renaming inl->zfF
open Decidable renaming decide -> lL
open List renaming foldl_cons -> TG, mem_cons_of_mem -> UY, length_map -> Uw, range -> T1, map -> S2, mem_singleton -> Va, mem_cons_self -> UT, mem_map -> T2, getElem?_map -> Vo, forall_mem_cons -> T7, mem_cons -> T3, drop_drop -> WY, take_append_drop -> Xk, drop_zero -> Xj, all_cons -> VI, contains_iff_mem -> Y0, getElem?_eq_getElem -> TH, mem_of_getElem? -> T6, getElem?_eq_some_iff -> Td, getElem_range -> Zz, map_cons -> U5, replicate -> Ti, mapM_cons -> YT, length -> S7, foldl_append -> Ym
open Go.Proofs.Tryz renaming prog -> S5, underlying32 -> W8
open Go.Vi.Ev renaming zkv -> U7, zlh -> Tp
open Go.IntKind renaming i64 -> S6, wrap -> S8
open Go.Vi.L9 renaming row -> Tc
open Go.Vi.zcR renaming row -> Tj
open Go.Vi.JX renaming row -> Ta
open Go.Vi.D renaming agg -> TF
open Go.Vi.zgF renaming zkx -> YP
open Go.Vi.ZB renaming row -> X8
open Go.Vi.γ renaming row -> Ts
open Go.Vi.oB renaming row -> Xc
open Go.Proofs.YtgalafpinkflfaaGreatDoor.Rows renaming uptoBulk -> UB, uptoBulkAll -> VV, laid_sizar_rules_kinds -> VO
open Bool renaming and_eq_true -> Tm
open Go.DataW renaming trod -> WH, weights -> Yy, Trod -> Zr
open Prod.mk renaming injEq -> Tk
open Option renaming bind_eq_some_iff -> Vu, map_eq_some_iff -> Tn, bind_eq_bind -> Y1
open Go.World renaming cell? -> Xh
open Go.Value renaming okWide -> Wg
open Option.some renaming injEq -> Tf
open Go.DataW.agg renaming injEq -> Zm
open Go Go.Proofs
namespace Go.Vi
set_option maxHeartbeats 4000000
set_option maxRecDepth 100000
theorem qy{w:kc}{d5 fI:Int}{m1 m2:IM}:∀(ns:bV) (s:RSM),(ns.foldl (nbF w d5 fI m1 m2) s).1=s.1++ns.flatMap λn=>(bQ w n fI d5).1
 | [],s=>F1
 |n::ns,s=>by rw[TG,qy ns];simp[nbF,List.append_assoc]
theorem xx{w:kc}{fI a b:Int}{m1 m2:IM}(hn:af w.f a=af w.f b):∀(ns:bV) (s:RSM),(∀n∈ns,Θ w.f (bQ w n fI a).1 a b)->ns.foldl (nbF w a fI m1 m2) s=ns.foldl (nbF w b fI m1 m2) s
 | [],_,_=>rfl
 |n::ns,s,h=>by
  have e:=xe (c:=n) (fI:=fI) hn (h n F1);have e2:nbF w a fI m1 m2 s n=nbF w b fI m1 m2 s n:=by unfold nbF zlr;rw[e]
  rw[TG,TG,e2];exact xx hn ns _ λx hx=>h x (UY _ hx)
set_option maxHeartbeats 1000000
abbrev cnA(w:kc)(d5 st fI:Int):iN×Int:=nj (gU w d5 st fI) (jm w d5 fI (gU w d5 st fI))
def sitR(w:kc)(st fI d5:Int)(now:bV):D:=match (!(lL (st>=0)&&lL (st<=19999))||!(lL (fI>=0)&&lL (fI<=1023))) with
 |true=>xn 150
 |false=>Og w d5 fI now (ba w d5 st fI) (j8 fI (gU w d5 st fI)) (gU w d5 st fI) (cnA w d5 st fI).1 (cnA w d5 st fI).2
theorem CQ{w:kc}(hw:w.ok){st fI d5:Int}{now:bV}(hn:now.length<=1000)(hN:(af w.f d5).length<=100)(h:aT):Ev S5 uS 33 [uT w.l,go st,go fI,go d5,ab (zaQ now)] h (sitR w st fI d5 now) h:=by
 unfold sitR;cases hb:(!(lL (st>=0)&&lL (st<=19999))||!(lL (fI>=0)&&lL (fI<=1023)));·have h1:=vE hw (d5:=d5) (st:=st) (fI:=fI);have h2:=iO hw (d5:=d5) (st:=st) (fI:=fI);have h3:=lM fI (gU w d5 st fI);have h4:=HT (gU w d5 st fI) (jm w d5 fI (gU w d5 st fI));exact sit_a hw hn (by unfold ah;omega) hN tj (by unfold ah;omega) (by unfold ah;omega) uU uU (Mj hw) (B8 hw tj tj) hb h
 ·exact Oe hb h
theorem Js{la:iN}{e:Int}(h:znl la=.inr e):(e != 0)=J:=by grind [znl]
theorem CS{w:kc}{fI a b:Int}{l:iN}(h:Θ w.f (j8 fI l) a b):jm w a fI l=jm w b fI l:=by unfold jm;refine List.map_congr_left λx hx=>?_;rw[fE λr hr=>h r (by unfold j8;grind)]
structure SitX where
 s:zaN
 q:iF
 e:Int
def li(e:Int):SitX:=⟨⟨[],0,0,0⟩,[],e⟩
def jr(w:kc)(st fI d5:Int)(now:bV):SitX:=match (!(lL (st>=0)&&lL (st<=19999))||!(lL (fI>=0)&&lL (fI<=1023))) with
 |true=>li 150
 |false=>match snR now with
  |.inr _=>li 150
  |.inl s=>match ((cnA w d5 st fI).2 != 0) with
   |true=>li (cnA w d5 st fI).2
   |false=>match znl (cnA w d5 st fI).1 with
    |.inr e=>li e
    |.inl _=>⟨⟨(smV (mQ w d5 fI (gU w d5 st fI) (ba w d5 st fI++j8 fI (gU w d5 st fI)++[rdN]) s.2).2).mergeSort leS,mnI (cz (cnA w d5 st fI).1).1 10000,(bX (cnA w d5 st fI).1).1,(bX (cnA w d5 st fI).1).2.1⟩,(mQ w d5 fI (gU w d5 st fI) (ba w d5 st fI++j8 fI (gU w d5 st fI)++[rdN]) s.2).1,0⟩
def SitX.d(x:SitX):D:=JV [uT x.s.l,ab (J2 x.q),go x.e]
theorem OV(w:kc)(st fI d5:Int)(now:bV):(sitR w st fI d5 now).zkv=(jr w st fI d5 now).d:=by
 unfold sitR jr Og;cases (!(lL (st>=0)&&lL (st<=19999))||!(lL (fI>=0)&&lL (fI<=1023)))
 ·cases snR now with
  |inr _=>rfl
  |inl s=>
   cases hc:((cnA w d5 st fI).2 != 0);·cases hx:znl (cnA w d5 st fI).1<;>simp only[hc,hx]<;>rfl
   ·simp;rfl
 ·rfl
theorem OW{w:kc}(hw:w.ok){st fI d5:Int}{now:bV}(hn:now.length<=1000)(hN:(af w.f d5).length<=100)(h:aT):Ev S5 uS 33 [uT w.l,go st,go fI,go d5,ab (zaQ now)] h (jr w st fI d5 now).d h:=by rw[<-OV];exact U7 (CQ hw hn hN h)
theorem FI(l:iN):eL l=0\/eL l=150:=by unfold eL;grind
theorem OX(l:iN):(cz l).2=0\/(cz l).2=150:=by
 unfold cz;split;·exact FI l
 grind
theorem OY(l:iN):(bX l).2.2=0\/(bX l).2.2=1\/(bX l).2.2=2\/(bX l).2.2=150:=by
 have hs:(fp l).2.2=0\/(fp l).2.2=150:=by
  unfold fp;split;·exact FI l
  ·exact .inl rfl
 unfold bX ve;split;·grind
 grind [z7]
theorem cntA_v(l:iN)(rp:bV):(nj l rp).2=0\/(nj l rp).2=1\/(nj l rp).2=150:=by have:=FI l;unfold nj;grind
theorem sitS_v(w:kc)(st fI d5:Int)(now:bV):(jr w st fI d5 now).e=0\/(jr w st fI d5 now).e=1\/(jr w st fI d5 now).e=2\/(jr w st fI d5 now).e=150:=by
 unfold jr;split;·simp[li]
 ·split;·simp[li]
  ·split;·have:=cntA_v (gU w d5 st fI) (jm w d5 fI (gU w d5 st fI));simp[li];grind
   ·split;·rename_i e he;have h1:=OX (cnA w d5 st fI).1;have h2:=OY (cnA w d5 st fI).1;grind [li,znl]
    ·simp
theorem OZ{w:kc}{st fI d5:Int}{now:bV}(hn:now.length<=1000)(hN:(af w.f d5).length<=100):(jr w st fI d5 now).s.ok:=by
 have hz:∀e,(li e).s.ok:=λe=>⟨by simp[li,ah],gV,gV⟩;unfold jr;split;·exact hz _
 ·split;·exact hz _
  ·rename_i s hs;split;·exact hz _
   ·split;·exact hz _
    ·refine⟨?_,(iP _).1,(iP _).2⟩;have h2:=zp (w:=w) (d5:=d5) (fI:=fI) (m1:=(bg (gU w d5 st fI)).1) (m2:=(bg (gU w d5 st fI)).2) (ns:=af w.f d5) (rs:=ba w d5 st fI++j8 fI (gU w d5 st fI)++[rdN]) hn tj hs;grind [ah,List.length_mergeSort,Uw,mQ,smV]
theorem Bi{w:kc}(hw:w.ok){st fI d5:Int}{now:bV}(hN:(af w.f d5).length<=100):(jr w st fI d5 now).q.length<=10000000000:=by
 have hz:∀e,(li e).q.length<=10000000000:=λe=>by simp[li]
 unfold jr;split;·exact hz _
 ·split;·exact hz _
  ·split;·exact hz _
   ·split;·exact hz _
    ·simp only;unfold mQ;rw[qy];have h1:=vE hw (d5:=d5) (st:=st) (fI:=fI);have h2:=iO hw (d5:=d5) (st:=st) (fI:=fI);have h3:=lM fI (gU w d5 st fI);have h4:∀ns:bV,(ns.flatMap λn=>(bQ w n fI d5).1).length<=ns.length*1001001:=λns=>by
      induction ns with
      |nil=>simp
      |cons a l ih=>have:=(lJ (w:=w) (c:=a) (fI:=fI) (d5:=d5) tj).1;grind
     grind
def hrT(kd st fI:Int):iF:=(T1 8).map λk=>⟨kd,st,(k:Nat),fI,S6.wrap (fI+1)⟩
theorem O0(kd st fI:Int):hrR kd st fI 8=J2 (hrT kd st fI):=by simp[hrR,hrT,J2,ZH.row]
def actT(sc st ob fI:Int):iF:=[⟨sc,st,ob,fI,S6.wrap (fI+1)⟩]
def CT(w:kc)(st ob fI d5:Int)(now:bV):iF:=hrT 6 st fI++rdT 1 ob 0 fI++(jr w st fI d5 now).q++actT 7 st ob fI
def zu(w:kc)(st ob fI d5:Int)(now:bV):Bool:=(qw (ac w ob fI d5).1.Ι (jr w st fI d5 now).s).1&&!(qw (ac w ob fI d5).1.bar (jr w st fI d5 now).s).1
def rL(w:kc)(st ob fI d5:Int)(now:bV):zgF×Int:=match qx st ob fI now with
 |false=>(zgF.zero,280)
 |true=>match (jr w st fI d5 now).e != 0 with
  |true=>(zgF.zero,(jr w st fI d5 now).e)
  |false=>match lL (((hlR 6 st fI d5 w.f 8).length:Int)>0)||!(ac w ob fI d5).2 with
   |true=>(⟨⟨1,st,ob,fI⟩,0,0,d5,now,CT w st ob fI d5 now,[]⟩,0)
   |false=>match zu w st ob fI d5 now||lL (CO 7 st ob fI d5 w.f>0) with
    |false=>(⟨⟨1,st,ob,fI⟩,0,0,d5,now,CT w st ob fI d5 now,[]⟩,0)
    |true=>(⟨⟨1,st,ob,fI⟩,1,1,d5,now,CT w st ob fI d5 now,Bg (!zu w st ob fI d5 now) (CO 7 st ob fI d5 w.f)⟩,0)
theorem FJ{w:kc}(hw:w.ok){n fI d5:Int}:(ac w n fI d5).1.ok:=by
 have hz:L9.zero.ok:=L9.zkx;unfold ac;split;·exact hz
 ·unfold gR;split;·exact hz
  ·rename_i h;exact hw.c _ (ln h).1
theorem adm_a{w:kc}(hw:w.ok){st ob fI d5:Int}{now:List Int}(hn:now.length<=1000)(hN:(af w.f d5).length<=100):
  Ev S5 uS 14 [.agg w.l,go st,go ob,go fI,go d5,ab (now.map λn=>[vi n])] [] (.Ρ [.agg (rL w st ob fI d5 now).1.l,go (rL w st ob fI d5 now).2]) []:=by
 have hsn:ah now:=by unfold ah;omega
 have hk:∀h,Ev S5 mX 28 [go st,go ob,go fI,ab (now.map λn=>[vi n])] h (kr (qx st ob fI now)) h:=λh=>Jm hsn h
 unfold rL
 cases hA:qx st ob fI now with
 | false=>rw[hA] at hk;exact OQ hk []
 | true =>
  rw[hA] at hk
  have hh:∀h,Ev S5 mX 31 [.agg w.l,go st,go fI,go d5] h (.Ρ [ab (hlR 6 st fI d5 w.f 8),ab (J2 (hrT 6 st fI))]) h:=λh=>by rw[<-O0];exact OJ hw.sf h
  have hc:=λh=>jk hw (n:=ob) (fI:=fI) (d5:=d5) h
  have hs:=λh=>OW hw (st:=st) (fI:=fI) (d5:=d5) hn hN h
  have hok:=OZ (w:=w) (st:=st) (fI:=fI) (d5:=d5) hn hN
  have hlen:=Bi hw (st:=st) (fI:=fI) (d5:=d5) (now:=now) hN
  have hv:=sitS_v w st fI d5 now
  have hco:=FJ hw (n:=ob) (fI:=fI) (d5:=d5)
  have ha:∀h,Ev S5 mX 34 [.agg w.l,go 7,go st,go ob,go fI,go d5] h (.Ρ [go (CO 7 st ob fI d5 w.f),kr (lL (CO 7 st ob fI d5 w.f>0)),ab (J2 (actT 7 st ob fI))]) h:=λh=>FF hw.sf h
  have hneed:=λh=>te (x:=(ac w ob fI d5).1.Ι.fl) (s:=(jr w st fI d5 now).s) (λh=>xu hco.1 hok h) h
  have hbar:=λh=>te (x:=(ac w ob fI d5).1.bar.fl) (s:=(jr w st fI d5 now).s) (λh=>xu hco.2 hok h) h
  have l1:(hrT 6 st fI).length=8:=by simp[hrT]
  have l2:=fk 1 ob 0 fI
  unfold CT zu SitX.d at *
  generalize hS:jr w st fI d5 now=S at *
  try unfold zg7 at hc
  generalize hC:ac w ob fI d5=C at *
  generalize hrT 6 st fI=q1 at *
  generalize rdT 1 ob 0 fI=q2 at *
  have l4:(actT 7 st ob fI).length=1:=rfl
  generalize actT 7 st ob fI=q4 at *
  obtain⟨s,q3,e⟩:=S
  obtain⟨c,ok⟩:=C
  simp only at *
  cases he:e != 0 with
  | true =>
   have hne:e≠0:=by simpa using he
   exact U7 (Bh hk (am1 (by omega) he hh hc hs) (OT (by omega)))
  | false =>
   have e0:e=0:=by simpa using he
   subst e0
   cases hz:lL (((hlR 6 st fI d5 w.f 8).length:Int)>0)||!ok with
   | true=>exact U7 (Bh hk (am2 (by omega) hh hc hs ha hz) FH)
   | false =>
    cases hy:((qw c.Ι s).1&&!(qw c.bar s).1)||lL (CO 7 st ob fI d5 w.f>0) with
    | false=>exact U7 (Bh hk (am3 (by omega) hh hc hs ha hneed hbar hz hy) FH)
    | true=>exact Bh hk (am4 (by omega) hh hc hs ha hneed hbar (λh=>Jn h) hz hy) OU
theorem L0{w:kc}(hw:w.ok){st ob fI d5:Int}{now:bV}(hn:now.length<=1000)(hN:(af w.f d5).length<=100)(h:aT):Ev S5 uS 14 (zb5 w st ob fI d5 (ab (aA now))) h (zaI (rL w st ob fI d5 now)) h :=Ev.zkE rfl (adm_a hw hn hN) h
set_option maxHeartbeats 4000000
noncomputable abbrev CU(w:kc)(q:QuT):aT:=(zhG w q ZR)
theorem O1{w:kc}{q:QuT}{d5:Int}{nw:bV}{r:zgF×Int}(hs:∀h,Ev S5 uS 14 (zb5 w q.st q.obj q.fI d5 (ab (aA nw))) h (zaI r) h)(h:aT):(Ev S5 uS 64 (qA w q d5 nw) h (zaI r) h):=y0 [.v (@hs (CU w q))] h
noncomputable abbrev Jt(w:kc)(st:Int)(obj:Int)(fI:Int):aT:=[iI (ZA w),iI (zaL 1 st obj fI),iI ZR,Η zal 5]
noncomputable abbrev Bj(w:kc)(st:Int)(obj:Int)(fI:Int):aT:=[iI (ZA w),iI (zaL 1 st obj fI),iI ZR]
theorem ans_1{w:kc}{st obj fI d5:Int}{nw:bV}{r:zgF×Int}(hk:∀h,Ev S5 uS 13 [uT (zaL 1 st obj fI)] h (go 0) h)(hs:∀h,Ev S5 uS 64 [uT w.l,uT (zaL 1 st obj fI),go d5,ab (aA nw)] h (zaI r) h)(h:aT):(Ev S5 uS 10 [uT w.l,uT (zaL 1 st obj fI),go d5,ab (aA nw)] h (zaI r) h):=y0 [.v (@hk (Bj w st obj fI)),.e,.c (Tp (Γ':=uS) (@bB (Bj w st obj fI))),.v (@hs (Jt w st obj fI)),pe zbB,pe zbB,po (Ω 1),po (Ω 1),po (G (TF zcJ)),pe (TF (kc.l w)),pe (TF (kc.l w)),pe (TF (zaL 1 st obj fI)),pe (TF (zaL 1 st obj fI))] h
noncomputable def qz(w:kc)(ps:Is)(q:QuT)(d5:Int)(nw:bV):zgF×Int:=match q.kind==1 with
 |false=>HX w ps q d5
 |true=>match cP q != 0 with
  |true=>(zgF.zero,cP q)
  |false=>rL w q.st q.obj q.fI d5 nw
theorem qB{w:kc}(hw:w.ok)(hf:w.f.length<=41){ps:Is}(hp:w.okP ps){q:QuT}{d5:Int}{nw:bV}(hn:nw.length<=1000)(h:aT):Ev S5 uS 10 (qA w q d5 nw) h (zes ((qz w ps q d5 nw).1.l) ((qz w ps q d5 nw).2)) h:=by
 unfold qz;cases hq:q.kind==1 with
 |false=>exact ans_ev hw hf hp.p hp.k hp.m (by simpa using hq) h
 |true=>
  have hk:∀h,Ev S5 uS 13 [ag q.row] h (go (cP q)) h:=λh=>Tp (qo q h);cases hz:(cP q != 0) with
  |true=>exact E9 hz hk h
  |false=>
   have hz':cP q=0:=by simpa using hz
   rw[hz'] at hk;have hN:(af w.f d5).length<=100:=by have:=bF (fs:=w.f) (d5:=d5);omega
   have ha:=λh=>O1 (q:=q) (λh=>L0 hw (st:=q.st) (ob:=q.obj) (fI:=q.fI) (d5:=d5) hn hN h) h;have e1:q.kind=1:=by simpa using hq
   obtain⟨k,st,obj,fI⟩:=q;simp only at e1;subst e1;exact ans_1 hk ha h
theorem CV{w:kc}{st fI a b:Int}{now:bV}(he:(jr w st fI a now).e=0)(h:Θ w.f (jr w st fI a now).q a b):jr w st fI b now=jr w st fI a now:=by
 unfold jr at he h ⊢;cases hb:(!(lL (st>=0)&&lL (st<=19999))||!(lL (fI>=0)&&lL (fI<=1023)))
 ·rw[hb] at he h;cases hsn:snR now with
  |inr u=>simp only
  |inl s=>
   rw[hsn] at he h;cases hee:((cnA w a st fI).2 != 0)
   ·rw[hee] at he h;cases hx:znl (cnA w a st fI).1 with
    |inr e=>rw[hx] at he;have:=Js hx;simp[li] at he;grind
    |inl u=>
     rw[hx] at h;simp only at h;have hq:(mQ w a fI (gU w a st fI) (ba w a st fI++j8 fI (gU w a st fI)++[rdN]) s.2).1=ba w a st fI++j8 fI (gU w a st fI)++[rdN]++(af w.f a).flatMap λn=>(bQ w n fI a).1:=qy _ _;rw[hq] at h;obtain⟨P1,P4⟩:=bO h;obtain⟨P1,P3⟩:=bO P1;obtain⟨P1,P2⟩:=bO P1;obtain⟨e1,e2⟩:=xa P1;have e3:=gM P3;have e4:=CS P2;have ec:cnA w a st fI=cnA w b st fI:=by unfold cnA;rw[<-e2,e4]
     have en:mQ w a fI (gU w a st fI) (ba w a st fI++j8 fI (gU w a st fI)++[rdN]) s.2=mQ w b fI (gU w b st fI) (ba w b st fI++j8 fI (gU w b st fI)++[rdN]) s.2:=by unfold mQ;rw[<-e1,<-e2,<-e3];exact xx e3 _ _ λn hn r hr=>P4 r (List.mem_flatMap.2 ⟨n,hn,hr⟩)
     grind
   ·rw[hee] at he;simp[li] at he;grind
 ·simp only
theorem xy{fs:AT}{kd st ob fI a b:Int}(h:Θ fs [⟨kd,st,ob,fI,S6.wrap (fI+1)⟩] a b):ptV kd st ob fI a fs=ptV kd st ob fI b fs:=by have:=h _ (Va.2 rfl);unfold ptV;exact congrArg (λps=>fF ps 0) this
theorem tf{α β:Type}{f g:β->α->β}:∀(l:List α) (b:β),(∀b,∀x∈l,f b x=g b x)->l.foldl f b=l.foldl g b
 | [],_,_=>rfl
 |x::l,b,h=>by rw[TG,TG,h b x (UT ..)];exact tf l _ λb y hy=>h b y (UY _ hy)
theorem FK{fs:AT}{kd st fI a b:Int}(h:Θ fs (hrT kd st fI) a b):hlR kd st fI a fs 8=hlR kd st fI b fs 8:=by unfold hlR;refine tf _ _ λls k hk=>?_;have:ptV kd st (k:Int) fI a fs=ptV kd st (k:Int) fI b fs:=xy λr hr=>h r (by rw[Va.1 hr];exact T2.2 ⟨k,hk,rfl⟩);rw[this]
theorem CX{w:kc}{st ob fI a b:Int}{now:bV}(he:(rL w st ob fI a now).2=0)(h:Θ w.f (rL w st ob fI a now).1.reads a b):rL w st ob fI b now=({ (rL w st ob fI a now).1 with d5:=b},0):=by
 have key:Θ w.f (CT w st ob fI a now) a b->(jr w st fI a now).e=0->jr w st fI b now=jr w st fI a now/\ac w ob fI a=ac w ob fI b/\hlR 6 st fI a w.f 8=hlR 6 st fI b w.f 8/\CO 7 st ob fI a w.f=CO 7 st ob fI b w.f:=by intro h e0;unfold CT at h;obtain⟨P1,P4⟩:=bO h;obtain⟨P1,P3⟩:=bO P1;obtain⟨P1,P2⟩:=bO P1;refine⟨CV e0 P3,fE P2,FK P1,?_⟩;unfold CO;rw[xy P4]
 unfold rL at he h ⊢;cases hA:qx st ob fI now with
 |false=>grind
 |true=>
  rw[hA] at he h;cases hz:(jr w st fI a now).e != 0 with
  |true=>grind
  |false=>
   rw[hz] at he h;have e0:(jr w st fI a now).e=0:=by simpa using hz
   have hq:Θ w.f (CT w st ob fI a now) a b:=by
    revert h;simp only;split;·exact id
    ·split<;>exact id
   obtain⟨k1,k2,k3,k4⟩:=key hq e0;have k5:zu w st ob fI b now=zu w st ob fI a now:=by unfold zu;rw[k1,<-k2]
   have k6:CT w st ob fI b now=CT w st ob fI a now:=by unfold CT;rw[k1]
   simp only[k1,<-k2,<-k3,<-k4,k5,k6,hz];split;·rfl
   ·split<;>rfl
theorem L4{q:QuT}{d5 ans e:Int}{rd:iF}(h:(eZ q d5 ans rd e).2=0):e=0:=by grind [eZ]
theorem FL{w:kc}{ps:Is}{q:QuT}{a b:Int}{nw:bV}(he:(qz w ps q a nw).2=0):(∃x n1 rd n2,(qz w ps q a nw).1=⟨q,x,x,a,n1,rd,n2⟩)/\(Θ w.f (qz w ps q a nw).1.reads a b->qz w ps q b nw=({ (qz w ps q a nw).1 with d5:=b},0)):=by
 unfold qz at he ⊢;cases hq:q.kind==1 with
 |true=>
  have e1:q.kind=1:=by simpa using hq
  rw[hq] at he;cases hz:cP q != 0 with
  |true=>grind
  |false=>
   rw[hz] at he;simp only at he ⊢;refine⟨?_,λh=>CX he h⟩;unfold rL at he ⊢;have eq:q=⟨1,q.st,q.obj,q.fI⟩:=by cases q;simp only at e1;rw[e1]
   revert he;split;·grind
   ·split;·grind
    ·split;·exact λ_=>⟨_,_,_,_,by rw[<-eq]⟩
     ·split;·exact λ_=>⟨_,_,_,_,by rw[<-eq]⟩
      ·exact λ_=>⟨_,_,_,_,by rw[<-eq]⟩
 |false=>
  rw[hq] at he;simp only at he ⊢;unfold HX at he ⊢;cases hz:cP q != 0 with
  |true=>grind
  |false=>
   rw[hz] at he;simp only at he ⊢;cases h5:q.kind==5 with
   |true=>rw[h5] at he;have e0:=L4 he;simp only;unfold eZ;rw[e0];refine⟨⟨_,_,_,_,rfl⟩,λh=>?_⟩;rw[<-CE e0 h,e0];rfl
   |false=>rw[h5] at he;have e0:=L4 he;simp only;unfold eZ;rw[e0];refine⟨⟨_,_,_,_,rfl⟩,λh=>?_⟩;rw[<-Fb h,e0];rfl
attribute [local irreducible] jB
abbrev qlA(w:kc)(q:QuT)(a b:Int)(nw:bV):bY:=[uT w.l,ag q.row,go a,go b,ab (aA nw)]
abbrev zih(a:kc)(b:QuT):aT:=[iI (ZA a),iI (zad b)]
noncomputable abbrev xz(w:kc)(q:QuT):aT:=(zih w q)
theorem ql_out{w:kc}{q:QuT}{a b:Int}{nw:bV}(k0:∀h,Ev S5 uS 8 [] h (kr J) h)(kf:∀h,Ev S5 mX 9 (zeu w nw) h (kr N) h)(h:aT):(Ev S5 uS 7 (qlA w q a b nw) h (kr J) h):=y0 [.v (@k0 (xz w q)),.e,.v (Tp (Γ':=uS) (@kf (xz w q))),.e] h
noncomputable abbrev Ju(w:kc)(q:QuT)(x:zgF)(y:zgF):aT:=[iI (ZA w),iI (zad q),iI (Z6 x),iI (Z6 y)]
noncomputable abbrev Jv(w:kc)(q:QuT)(x:zgF):aT:=(zhG w q (Z6 x))
noncomputable abbrev uN(w:kc)(q:QuT):aT:=(zih w q)
theorem ql_ne{w:kc}(hf:ah w.f){q:QuT}{a b e1 e2:Int}{nw:bV}{x y:zgF}(hq:ah x.reads)(hn:(e1 != 0||!jB w.f x.reads a b)=J)(k0:∀h,Ev S5 uS 8 [] h (kr J) h)(kf:∀h,Ev S5 mX 9 (zeu w nw) h (kr J) h)(ka:∀h,Ev S5 uS 10 (zeb w.l q a nw) h (JV [uT x.l,go e1]) h)(kb:∀h,Ev S5 uS 10 (zeb w.l q b nw) h (JV [uT y.l,go e2]) h)(h:aT):(Ev S5 uS 7 (qlA w q a b nw) h (kr J) h):=y0 [.v (@k0 (uN w q)),.e,.v (Tp (Γ':=uS) (@kf (uN w q))),.e,.v (@ka (uN w q)),.v (@kb (Jv w q x)),.w (!e1 != 0) (Tp (Γ':=uS) (@A5 (w.f) (x.reads) a b hf hq (Ju w q x y))),.b hn] h
noncomputable abbrev oz(w:kc)(q:QuT)(a:Int)(b:Int)(x:Int)(n1:bV)(n2:bV)(rd:iF):aT:=[iI (ZA w),iI (zad q),iI (zbY q x a (ab (aA n1)) rd (ab (aA n2))),iI (zbY q x b (ab (aA n1)) rd (ab (aA n2)))]
noncomputable abbrev Jw(w:kc)(q:QuT)(a:Int)(x:Int)(n1:bV)(n2:bV)(rd:iF):aT:=(zhG w q (zbY q x a (ab (aA n1)) rd (ab (aA n2))))
noncomputable abbrev uO(w:kc)(q:QuT):aT:=(zih w q)
theorem ql_in{w:kc}(hf:ah w.f){q:QuT}{a b x:Int}{nw n1 n2:bV}{rd:iF}(hq:ah rd)(hn:((0:Int) != 0||!jB w.f rd a b)=N)(k0:∀h,Ev S5 uS 8 [] h (kr J) h)(kf:∀h,Ev S5 mX 9 (zeu w nw) h (kr J) h)(ka:∀h,Ev S5 uS 10 (zeb w.l q a nw) h (JV [uT (zgF.l ⟨q,x,x,a,n1,rd,n2⟩),go 0]) h)(kb:∀h,Ev S5 uS 10 (zeb w.l q b nw) h (JV [uT (zgF.l ⟨q,x,x,b,n1,rd,n2⟩),go 0]) h)(s1:∀h,Ev S5 uS 16 [ab (J2 rd),ab (J2 rd)] h (kr J) h)(s2:∀h,Ev S5 uS 19 [ab (aA n1),ab (aA n1)] h (kr J) h)(s3:∀h,Ev S5 uS 19 [ab (aA n2),ab (aA n2)] h (kr J) h)(h:aT):(Ev S5 uS 7 (qlA w q a b nw) h (kr J) h):=yD (kr (0==0&&x==x&&x==x&&x==x&&a==a&&b==b&&J&&J&&J)) [.v (@k0 (uO w q)),.e,.v (Tp (Γ':=uS) (@kf (uO w q))),.e,.v (@ka (uO w q)),.v (@kb (Jw w q a x n1 n2 rd)),.w (!0 != 0) (Tp (Γ':=uS) (@A5 (w.f) rd a b hf hq (oz w q a b x n1 n2 rd))),.b hn,.w (0==0&&x==x&&x==x&&x==x&&a==a&&b==b) (@s1 (oz w q a b x n1 n2 rd)),.w (0==0&&x==x&&x==x&&x==x&&a==a&&b==b&&J) (@s3 (oz w q a b x n1 n2 rd)),.w (0==0&&x==x&&x==x&&x==x&&a==a&&b==b&&J&&J) (@s2 (oz w q a b x n1 n2 rd))] h uU
end Go.Vi
open Go Go.Proofs
namespace Go.Vi
set_option maxHeartbeats 4000000
set_option maxRecDepth 100000
theorem O2{w:kc}(hw:w.ok){st ob fI d5:Int}{now:bV}(hn:now.length<=1000)(hN:(af w.f d5).length<=100):(rL w st ob fI d5 now).1.ok:=by
 have hsn:ah now:=by unfold ah;omega
 have l1:(hrT 6 st fI).length=8:=by simp[hrT]
 have l2:=fk 1 ob 0 fI;have l3:=Bi hw (st:=st) (fI:=fI) (d5:=d5) (now:=now) hN;have hq:ah (CT w st ob fI d5 now):=by unfold CT ah;simp only[List.length_append];have l4:(actT 7 st ob fI).length=1:=rfl;omega
 have hz:∀b n,ah (Bg b n):=λb n=>by grind [Bg,ah]
 unfold rL;split;·exact YP
 ·split;·exact YP
  ·split;·exact⟨hsn,hq,by simp[ah]⟩
   ·split;·exact⟨hsn,hq,by simp[ah]⟩
    ·exact⟨hsn,hq,hz _ _⟩
theorem zw{w:kc}(hw:w.ok)(hf:w.f.length<=41){ps:Is}(hp:w.okP ps)(q:QuT)(d5:Int){nw:bV}(hn:nw.length<=1000):(qz w ps q d5 nw).1.ok:=by
 have hN:(af w.f d5).length<=100:=by have:=bF (fs:=w.f) (d5:=d5);omega
 unfold qz;split;·exact NT hw hf hp q d5
 ·split;·exact YP
  ·exact O2 hw hn hN
theorem mS{w:kc}(hw:w.ok0){ps:Is}(hp:w.okP ps)(k0:∀h,Ev S5 uS 8 [] h (kr J) h)(q:QuT){a b:Int}{nw:bV}(h:aT):Ev S5 uS 7 (qlA w q a b nw) h (kr J) h:=by
 obtain⟨c,hb,kf⟩:=uC hw hp nw;cases c with
 |false=>exact ql_out k0 kf h
 |true=>
  obtain⟨hk,hf,hnw⟩:=hb rfl;have hf:w.f.length<=41:=tj
  have hn:nw.length<=1000:=tj
  have ka:=λh=>qB hk hf hp (q:=q) (d5:=a) hn h;have kb:=λh=>qB hk hf hp (q:=q) (d5:=b) hn h;have hok:=zw hk hf hp q a hn;cases hz:((qz w ps q a nw).2 != 0||!jB w.f (qz w ps q a nw).1.reads a b) with
  |true=>exact ql_ne hk.sf hok.2.1 hz k0 kf ka kb h
  |false=>
   have hz2:=hz;rw[Bool.or_eq_false_iff] at hz2;have he:(qz w ps q a nw).2=0:=by simpa using hz2.1
   obtain⟨⟨x,n1,rd,n2,e⟩,hal⟩:=FL (b:=b) he;rw[hal (EY uU)] at kb;rw[he] at ka;rw[he] at hz;rw[e] at ka kb hz hok;exact ql_in hk.sf hok.2.1 hz k0 kf ka kb (λh=>Tp (gN hok.2.1 F1 h)) (λh=>Tp (jj hok.1 F1 h)) (λh=>Tp (jj hok.2.2 F1 h)) h
theorem Ev.argW{P:Program}{Γ:au}{f:FuncId}{args:bY}{h h':aT}{d:D}(he:Ev P Γ f (D.zoo args) h d h'):Ev P Γ f args h d h':=λO w l vs R ra=>he O w l vs R (kT _ _ ra)
theorem O3(t:Nat):IX vZ t = -1:=by
 have:vZ.2.getD t N=N:=by unfold vZ;simp only[List.getD,List.getElem?_replicate];split<;>rfl
 unfold IX;rw[this];rfl
theorem zx{kk ks ko uR to d5:Int}:aH kk ks ko uR to d5 []=[]:=by
 have h1:∀n:Nat,n<1024->(bJ kk ks ko d5 []).getD n 0 = -1:=λn hn=>by rw[sP];simp only[uA,List.foldl_nil,List.getD];rw[Vo,List.getElem?_range hn];simp[O3]
 have h2:∀(l:iS),(∀n∈l,n<1024)->l.foldl (λl n=>ptF ((bJ kk ks ko d5 []).getD n 0) n l) []=[]:=by
  intro l;induction l with
  |nil=>intro _;rfl
  |cons a l ih=>
   intro h;rw[TG,h1 a (h a (UT ..))];have:ptF (-1) a []=[]:=by simp[ptF]
   grind
 refine h2 _ λn hn=>?_;have h3:=List.mem_range'_1.1 hn;have h4:vF to<=1024:=by unfold vF;split<;>omega
 have h5:0<=Mg uR:=by unfold Mg;simp;split<;>omega
 omega
def wp:FnF:=λf args h=>match Nat.beq f 60 with
 |true=>match args with
  | [.p (.v (.slice none 0 0)),.agg [.p (.v (.int .i64 _)),.p (.v (.int .i64 _)),.p (.v (.int .i64 _))],.p (.v (.int .i64 _)),.p (.v (.int .i64 _)),.p (.v (.int .i64 _))]=>G (.ret (ab []) h)
  |_=>Y
 |false=>Y
theorem wp_ok{Γ:au}:HV S5 Γ wp:=by
 intro f args h r hw;unfold wp at hw;split at hw
 ·rename_i hf;have hf:=Nat.eq_of_beq_eq_true hf;subst hf;refine⟨Z,?_⟩;split at hw;·rename_i kk ks ko uR to d5;cases hw;refine zkF.zri (Ev.argW ?_);have:=iM (l:=[]) (kk:=kk) (ks:=ks) (ko:=ko) (uR:=uR) (to:=to) (d5:=d5) (by simp[ah]) h;rw[zx] at this;exact Tp this
  ·simp at hw
 ·simp at hw
set_option maxRecDepth 1000000
def s34mR:zks:=⟨8,[],[],.ret (lit (.bool J)) []⟩
theorem Jx:s34mR.Ok S5 mX:=zks.okW_of pok wp_ok (ms:=[]) Z trivial
theorem qC(h:aT):Ev S5 mX 8 [] h (kr J) h:=Ev.zkE rfl (zks.call Jx rfl) h
theorem lj{w:kc}(hw:w.ok0){ps:Is}(hp:w.okP ps){q:QuT}{a b:Int}{nw:bV}(h:aT):Ev S5 uS 7 [uT w.l,ag q.row,go a,go b,ab (aA nw)] h (kr J) h :=mS hw hp (λh=>Tp (qC h)) q h
open Go.ChangeShapes Go.WideShapes Go.ChangeAt Go.RowKit Go.Proofs.YtgalafpinkflfaaGreatDoor
set_option maxRecDepth 100000
theorem ib:S5.cellsOf 3=1:=Z
theorem tg:S5.cellsOf 9=1:=Z
theorem zy:S5.cellsOf 87=2:=Z
theorem Jy:S5.cellsOf 132=1:=Z
theorem Jz:S5.cellsOf 133=1:=Z
theorem JA:S5.cellsOf 134=1:=Z
theorem JB:S5.cellsOf 136=4:=Z
theorem JC:S5.cellsOf 217=2:=Z
theorem JD:S5.cellsOf 289=4:=Z
theorem JE:S5.bytesOf 289=40:=Z
theorem JF:S5.bytesOf 217=24:=Z
theorem JG:S5.bytesOf 305=32:=Z
theorem cells4:S5.cellsOf 4=1:=Z
theorem O4:S5.cellsOf 99=1:=Z
theorem JH:S5.cellsOf 101=7:=Z
theorem O5:S5.cellsOf 32=1:=Z
theorem JI:S5.cellsOf 113=1:=Z
theorem JJ:S5.cellsOf 115=6:=Z
theorem bytes3:S5.bytesOf 3=8:=Z
theorem JK:S5.bytesOf 115=88:=Z
theorem O6:S5.cellsOf 22=1:=Z
theorem O7:S5.cellsOf 23=1:=Z
theorem O8:S5.cellsOf 24=1:=Z
theorem FM:S5.cellsOf 26=3:=Z
theorem O9:S5.cellsOf 27=1:=Z
theorem Pa:S5.cellsOf 29=4:=Z
theorem FN:S5.cellsOf 55=3:=Z
theorem FO:S5.cellsOf 57=2:=Z
theorem Pb:S5.cellsOf 59=8:=Z
theorem FP:S5.cellsOf 305=4:=Z
theorem Pc:S5.cellsOf 78=1:=Z
theorem FQ:S5.cellsOf 80=6:=Z
theorem Pg:S5.cellsOf 82=16:=Z
theorem JL:S5.bytesOf 136=96:=Z
theorem Ph:S5.bytesOf 80=72:=Z
theorem Pi:S5.bytesOf 82=184:=Z
theorem JM:S5.bytesOf 101=80:=Z
theorem aX{n:Nat}{ds:dO}(h:Shp S5 n 3 ds):∃x,ds=[vi x]/\Ψ x:=by
 cases n with
 |zero=>exact h.elim
 |succ n=>simp only[Shp,Tryz.underlying3] at h;obtain⟨x,rfl,hw⟩:=h;refine⟨x,rfl,?_⟩;have:=bounds_i64 hw;exact this
theorem mT{n:Nat}{ds:dO}(h:Shp S5 n 9 ds):∃s,ds=[vs s]:=by
 cases n with
 |zero=>exact h.elim
 |succ n=>simp only[Shp,Tryz.underlying9] at h;obtain⟨s,rfl,_⟩:=h;exact⟨s,rfl⟩
theorem xA{n:Nat}{ds:dO}(h:Shp S5 n 87 ds):∃a b,ds=[vi a,vi b]/\Ψ a/\Ψ b:=by
 cases n with
 |zero=>exact h.elim
 |succ n=>
  simp only[Shp,Tryz.underlying87,T7,ib,zy] at h;obtain⟨hl,h1,h2,_⟩:=h;obtain⟨a,e1,ha⟩:=aX h1;obtain⟨b,e2,hb⟩:=aX h2;match ds,hl with
  | [x,y],_=>simp at e1 e2;subst e1;subst e2;exact⟨a,b,rfl,ha,hb⟩
theorem FR{n:Nat}{ds:dO}(h:Shp S5 n 289 ds):∃c:Cls,ds=c.row/\c.ok:=by
 cases n with
 |zero=>exact h.elim
 |succ n=>
  simp only[Shp,Tryz.underlying289,T7,ib,tg,zy,JD] at h;obtain⟨hl,h1,h2,h3,_⟩:=h;obtain⟨s,e1⟩:=mT h1;obtain⟨x,e2,hx⟩:=aX h2;obtain⟨a,b,e3,ha,hb⟩:=xA h3;match ds,hl with
  | [p,q,r,t],_=>simp at e1 e2 e3;obtain⟨rfl,rfl⟩:=e3;subst e1;subst e2;exact⟨⟨s,x,a,b⟩,rfl,hx,ha,hb⟩
theorem Pj{n:Nat}{ds:dO}(h:Shp S5 n 217 ds):∃c:zbv,ds=c.row/\Ψ c.oA:=by
 cases n with
 |zero=>exact h.elim
 |succ n=>
  simp only[Shp,Tryz.underlying217,T7,ib,tg,JC] at h;obtain⟨hl,h1,h2,_⟩:=h;obtain⟨s,e1⟩:=mT h1;obtain⟨x,e2,hx⟩:=aX h2;match ds,hl with
  | [p,q],_=>simp at e1 e2;subst e1;subst e2;exact⟨⟨s,x⟩,rfl,hx⟩
theorem iH{α:Type}{row:α->dO}{ok:α->Prop}:∀{es:bv},(∀r∈es,∃a,r=row a/\ok a)->∃l:List α,es=l.map row/\∀a∈l,ok a
 | [],_=>⟨[],rfl,F1⟩
 |r::es,h=>by obtain⟨a,rfl,ha⟩:=h r (UT ..);obtain⟨l,rfl,hl⟩:=iH (λr hr=>h r (UY _ hr));exact⟨a::l,rfl,λb hb=>(T3.1 hb).elim (λe=>e▸ha) (hl b)⟩
theorem eJ{n k:Nat}(h:n*k<=reachBytes)(hk:1<=k):n<=140737488355328:=by have:n<=n*k:=Nat.le_mul_of_pos_right n hk;unfold reachBytes at h;omega
theorem qD{n:Nat}{ds:dO}(h:Shp S5 n 132 ds):∃l:List Cls,ds=[.sl (ze9 l)]/\(∀c∈l,c.ok)/\ah l:=by
 cases n with
 |zero=>exact h.elim
 |succ n=>simp only[Shp,Tryz.underlying132,JE] at h;obtain⟨es,rfl,hb,he⟩:=h;obtain⟨l,rfl,hl⟩:=iH (row:=Cls.row) (ok:=Cls.ok) (λr hr=>FR (he r hr));exact⟨l,rfl,hl,by have:=eJ hb tj;simpa[ah] using this⟩
theorem JN{n:Nat}{ds:dO}(h:Shp S5 n 133 ds):∃l:List zbv,ds=[.sl (zfe l)]/\(∀c∈l,Ψ c.oA)/\ah l:=by
 cases n with
 |zero=>exact h.elim
 |succ n=>simp only[Shp,Tryz.underlying133,JF] at h;obtain⟨es,rfl,hb,he⟩:=h;obtain⟨l,rfl,hl⟩:=iH (row:=zbv.row) (ok:=λc=>Ψ c.oA) (λr hr=>Pj (he r hr));exact⟨l,rfl,hl,by have:=eJ hb tj;simpa[ah] using this⟩
theorem JO{n:Nat}{ds:dO}(h:Shp S5 n 4 ds):∃b,ds=[.v (.bool b)]:=by
 cases n with
 |zero=>exact h.elim
 |succ n=>simp only[Shp,Tryz.underlying4] at h;obtain⟨b,rfl⟩:=h;exact⟨b,rfl⟩
theorem JP{n:Nat}{ds:dO}(h:Shp S5 n 113 ds):∃l,ds=[.sl l]:=by
 cases n with
 |zero=>exact h.elim
 |succ n=>simp only[Shp,Tryz.underlying113] at h;obtain⟨es,rfl,_⟩:=h;exact⟨es,rfl⟩
theorem Bk{n:Nat}{ds:dO}(h:Shp S5 n 32 ds):∃l:bV,ds=[.sl (aA l)]/\ah l:=by
 cases n with
 |zero=>exact h.elim
 |succ n=>simp only[Shp,W8,bytes3] at h;obtain⟨es,rfl,hb,he⟩:=h;obtain⟨l,rfl,_⟩:=iH (row:=λn:Int=>[vi n]) (ok:=λ_=>True) (λr hr=>by obtain⟨x,e,_⟩:=aX (he r hr);exact⟨x,e,trivial⟩);exact⟨l,rfl,by have:=eJ hb tj;simpa[ah] using this⟩
theorem Pk{n:Nat}{ds:dO}(h:Shp S5 n 115 ds):∃q:γ,ds=q.row/\q.ok:=by
 cases n with
 |zero=>exact h.elim
 |succ n=>
  simp only[Shp,Tryz.underlying115,T7,ib,cells4,tg,O5,JI,JJ] at h;obtain⟨hl,h1,h2,h3,h4,h5,h6,_⟩:=h;obtain⟨s,e1⟩:=mT h1;obtain⟨a,e2,_⟩:=aX h2;obtain⟨b,e3,_⟩:=aX h3;obtain⟨c,e4⟩:=JO h4;obtain⟨d,e5⟩:=JP h5;obtain⟨f,e6,hf⟩:=Bk h6;match ds,hl with
  | [p1,p2,p3,p4,p5,p6],_=>simp at e1 e2 e3 e4 e5 e6;subst e1;subst e2;subst e3;subst e4;subst e5;subst e6;exact⟨⟨s,a,b,c,d,f⟩,rfl,⟨hf⟩⟩
theorem Pl{n:Nat}{ds:dO}(h:Shp S5 n 55 ds):∃a b c,ds=[vi a,vi b,vi c]/\Ψ a/\Ψ b/\Ψ c:=by
 cases n with
 |zero=>exact h.elim
 |succ n=>
  simp only[Shp,Tryz.underlying55,T7,ib,FN] at h;obtain⟨hl,h1,h2,h3,_⟩:=h;obtain⟨a,e1,ha⟩:=aX h1;obtain⟨b,e2,hb⟩:=aX h2;obtain⟨c,e3,hc⟩:=aX h3;match ds,hl with
  | [p,q,r],_=>simp at e1 e2 e3;subst e1;subst e2;subst e3;exact⟨a,b,c,rfl,ha,hb,hc⟩
theorem JQ{n:Nat}{ds:dO}(h:Shp S5 n 57 ds):∃a b,ds=[vi a,vi b]/\Ψ a/\Ψ b:=by
 cases n with
 |zero=>exact h.elim
 |succ n=>
  simp only[Shp,Tryz.underlying57,T7,ib,FO] at h;obtain⟨hl,h1,h2,_⟩:=h;obtain⟨a,e1,ha⟩:=aX h1;obtain⟨b,e2,hb⟩:=aX h2;match ds,hl with
  | [p,q],_=>simp at e1 e2;subst e1;subst e2;exact⟨a,b,rfl,ha,hb⟩
theorem Bl{n:Nat}{ds:dO}(h:Shp S5 n 59 ds):∃f:JX,ds=f.row/\f.ok:=by
 cases n with
 |zero=>exact h.elim
 |succ n=>
  simp only[Shp,Tryz.underlying59,T7,ib,FN,FO,Pb] at h;obtain⟨hl,h1,h2,h3,h4,h5,_⟩:=h;obtain⟨a,b,c,e1,ha,hb,hc⟩:=Pl h1;obtain⟨d,e2,hd⟩:=aX h2;obtain⟨x,y,e3,hx,hy⟩:=JQ h3;obtain⟨k,e4,hk⟩:=aX h4;obtain⟨m,e5,hm⟩:=aX h5;match ds,hl with
  | [p1,p2,p3,p4,p5,p6,p7,p8],_=>simp at e1 e2 e3 e4 e5;obtain⟨rfl,rfl,rfl⟩:=e1;obtain⟨rfl,rfl⟩:=e3;subst e2;subst e4;subst e5;exact⟨⟨a,b,c,d,x,y,k,m⟩,rfl,ha,hb,hc,hd,hx,hy,hk,hm⟩
theorem FS{n:Nat}{ds:dO}(h:Shp S5 n 27 ds):∃l:AT,ds=[.sl (l.map Ta)]/\(∀c∈l,c.ok):=by
 cases n with
 |zero=>exact h.elim
 |succ n=>simp only[Shp,Tryz.underlying27] at h;obtain⟨es,rfl,_,he⟩:=h;obtain⟨l,rfl,hl⟩:=iH (row:=Ta) (ok:=JX.ok) (λr hr=>Bl (he r hr));exact⟨l,rfl,hl⟩
theorem th:∀{ks:List xE},(∀k∈ks,k.ok)->gP ks
 | [],_=>trivial
 |k::ks,h=>⟨h k (UT ..),th λx hx=>h x (UY _ hx)⟩
theorem uP:∀{n:Nat} {ds:dO},Shp S5 n 80 ds->∃r:xE,ds=r.row/\r.ok
 |0,_,h=>h.elim
 |1,_,h=>by simp only[Shp,Tryz.underlying80,T7] at h;exact h.2.1.elim
 |n+2,ds,h=>by
  rw[Shp,Tryz.underlying80] at h;simp only[T7,ib,tg,Pc,FQ] at h;obtain⟨hl,h1,h2,h3,h4,h5,h6,_⟩:=h;obtain⟨a,e1,ha⟩:=aX h1;obtain⟨b,e2,hb⟩:=aX h2;obtain⟨s,e3⟩:=mT h3;obtain⟨c,e4,hc⟩:=aX h4;obtain⟨d,e5,hd⟩:=aX h5;rw[Shp,Tryz.underlying78] at h6;simp only[Ph] at h6;obtain⟨es,e6,hb6,he⟩:=h6;obtain⟨l,rfl,hk⟩:=iH (row:=xE.row) (ok:=xE.ok) (λr hr=>uP (he r hr));have hs:ah l:=by have:=eJ hb6 tj;simpa[ah] using this
  match ds,hl with
  | [p1,p2,p3,p4,p5,p6],_=>
   simp at e1 e2 e3 e4 e5 e6;subst e1;subst e2;subst e3;subst e4;subst e5;subst e6;refine⟨.mk a b s c d l,?_,?_⟩;·rw[xE.row,dm]
   ·rw[xE.ok];exact⟨⟨ha,hb,hc,hd,hs⟩,th hk⟩
theorem CY{n:Nat}{ds:dO}(h:Shp S5 n 82 ds):∃c:L9,ds=c.row/\c.ok:=by
 cases n with
 |zero=>exact h.elim
 |succ n=>
  rw[Shp,Tryz.underlying82] at h;simp only[T7,ib,tg,FQ,Pg] at h;obtain⟨hl,h1,h2,h3,h4,h5,h6,_⟩:=h;obtain⟨s,e1⟩:=mT h1;obtain⟨a,e2,_⟩:=aX h2;obtain⟨b,e3,_⟩:=aX h3;obtain⟨c,e4,_⟩:=aX h4;obtain⟨r,e5,hr⟩:=uP h5;obtain⟨t,e6,ht⟩:=uP h6;rw[<-xE.zqP] at e5 e6;match ds,hl with
  | [p1,p2,p3,p4,p5,p6,p7,p8,p9,p10,p11,p12,p13,p14,p15,p16],_=>simp[RuF.row] at e1 e2 e3 e4 e5 e6;obtain⟨rfl,rfl,rfl,rfl,rfl,rfl⟩:=e5;obtain⟨rfl,rfl,rfl,rfl,rfl,rfl⟩:=e6;subst e1;subst e2;subst e3;subst e4;exact⟨⟨s,a,b,c,r,t⟩,rfl,hr,ht⟩
theorem zz{n:Nat}{ds:dO}(h:Shp S5 n 22 ds):∃l:IF,ds=[.sl (l.map Tc)]/\(∀c∈l,c.ok)/\ah l:=by
 cases n with
 |zero=>exact h.elim
 |succ n=>simp only[Shp,Tryz.underlying22,Pi] at h;obtain⟨es,rfl,hb,he⟩:=h;obtain⟨l,rfl,hl⟩:=iH (row:=Tc) (ok:=L9.ok) (λr hr=>CY (he r hr));exact⟨l,rfl,hl,by have:=eJ hb tj;simpa[ah] using this⟩
theorem zA{n:Nat}{ds:dO}(h:Shp S5 n 305 ds):∃c:ZB,ds=c.row/\True:=by
 cases n with
 |zero=>exact h.elim
 |succ n=>
  simp only[Shp,Tryz.underlying305,T7,ib,FP] at h;obtain⟨hl,h1,h2,h3,h4,_⟩:=h;obtain⟨a,e1,_⟩:=aX h1;obtain⟨b,e2,_⟩:=aX h2;obtain⟨c,e3,_⟩:=aX h3;obtain⟨d,e4,_⟩:=aX h4;match ds,hl with
  | [p,q,r,t],_=>simp at e1 e2 e3 e4;subst e1;subst e2;subst e3;subst e4;exact⟨⟨a,b,c,d⟩,rfl,trivial⟩
theorem JR{n:Nat}{ds:dO}(h:Shp S5 n 136 ds):∃s:zcR,ds=s.row/\s.ok:=by
 cases n with
 |zero=>exact h.elim
 |succ n=>
  simp only[Shp,Tryz.underlying136,T7,Jy,Jz,JA,JB] at h;obtain⟨hl,h1,h2,h3,h4,_⟩:=h;obtain⟨a,e1,a1,a2⟩:=qD h1;obtain⟨b,e2,b1,b2⟩:=JN h2;obtain⟨c,e3,c1,c2⟩:=qD h3;have h5:∃l:List ZB,(List.take 1 (List.drop 3 ds))=[.sl (l.map X8)]/\ah l:=by
   cases n with
   |zero=>exact h4.elim
   |succ n=>simp only[Shp,Tryz.underlying134,JG] at h4;obtain⟨es,e,hb,he⟩:=h4;obtain⟨l,rfl,_⟩:=iH (row:=X8) (ok:=λ_=>True) (λr hr=>zA (he r hr));exact⟨l,e,by have:=eJ hb tj;simpa[ah] using this⟩
  obtain⟨d,e4,d1⟩:=h5;match ds,hl with
  | [p,q,r,t],_=>simp at e1 e2 e3 e4;subst e1;subst e2;subst e3;subst e4;exact⟨⟨a,b,c,d⟩,rfl,⟨a1,c1,b1,a2,c2,b2,by simpa[ah,zcR.sys] using d1⟩⟩
theorem zB{n:Nat}{ds:dO}(h:Shp S5 n 24 ds):∃l:Of,ds=[.sl (l.map Tj)]/\(∀c∈l,c.ok)/\ah l:=by
 cases n with
 |zero=>exact h.elim
 |succ n=>simp only[Shp,Tryz.underlying24,JL] at h;obtain⟨es,rfl,hb,he⟩:=h;obtain⟨l,rfl,hl⟩:=iH (row:=Tj) (ok:=zcR.ok) (λr hr=>JR (he r hr));exact⟨l,rfl,hl,by have:=eJ hb tj;simpa[ah] using this⟩
theorem JS{n:Nat}{ds:dO}(h:Shp S5 n 101 ds):∃p:oB,ds=p.row/\p.ok:=by
 cases n with
 |zero=>exact h.elim
 |succ n=>
  rw[Shp,Tryz.underlying101] at h;simp only[T7,ib,tg,zy,O4,JH] at h;obtain⟨hl,h1,h2,h3,h4,h5,h6,_⟩:=h;obtain⟨s,e1⟩:=mT h1;obtain⟨a,e2,_⟩:=aX h2;obtain⟨b,e3,_⟩:=aX h3;obtain⟨c,e4,_⟩:=aX h4;obtain⟨x,y,e5,hx,hy⟩:=xA h5;cases n with
  |zero=>exact h6.elim
  |succ n=>
   simp only[Shp,Tryz.underlying99,JK] at h6;obtain⟨es,e6,hb,he⟩:=h6;obtain⟨l,rfl,hk⟩:=iH (row:=Ts) (ok:=γ.ok) (λr hr=>Pk (he r hr));match ds,hl with
   | [p1,p2,p3,p4,p5,p6,p7],_=>simp at e1 e2 e3 e4 e5 e6;obtain⟨rfl,rfl⟩:=e5;subst e1;subst e2;subst e3;subst e4;subst e6;exact⟨⟨s,a,b,c,x,y,l⟩,rfl,⟨by have:=eJ hb tj;simpa[ah] using this,hk,hx,hy⟩⟩
theorem FT{n:Nat}{ds:dO}(h:Shp S5 n 23 ds):∃l:Is,ds=[.sl (l.map Xc)]/\(∀c∈l,c.ok)/\ah l:=by
 cases n with
 |zero=>exact h.elim
 |succ n=>simp only[Shp,Tryz.underlying23,JM] at h;obtain⟨es,rfl,hb,he⟩:=h;obtain⟨l,rfl,hl⟩:=iH (row:=Xc) (ok:=oB.ok) (λr hr=>JS (he r hr));exact⟨l,rfl,hl,by have:=eJ hb tj;simpa[ah] using this⟩
structure kc.okQ (w:kc) (ps:Is):Prop where
 p:w.p=ps.map Xc
 k:∀x∈ps,x.ok
 l:ah ps
theorem FU{n:Nat}{ds:dO}(h:Shp S5 n 29 ds):∃w:kc,ds.map .p=w.l/\w.ok0/\∃ps,w.okQ ps:=by
 cases n with
 |zero=>exact h.elim
 |succ n=>
  rw[Shp,Tryz.underlying29] at h;simp only[T7,FM,O9,Pa] at h;obtain⟨hl,h1,h2,_⟩:=h;obtain⟨f,e4,hf⟩:=FS h2;cases n with
  |zero=>exact h1.elim
  |succ n=>
   rw[Shp,Tryz.underlying26] at h1;simp only[T7,O6,O7,O8,FM] at h1;obtain⟨_,g1,g2,g3,_⟩:=h1;obtain⟨c,e1,c1,c2⟩:=zz g1;obtain⟨p,e2,p1,p2⟩:=FT g2;obtain⟨s,e3,s1,s2⟩:=zB g3;match ds,hl with
   | [x,y,z,t],_=>simp at e1 e2 e3 e4;subst e1;subst e2;subst e3;subst e4;exact⟨⟨c,p.map Xc,s,f⟩,rfl,⟨c1,s1,c2,s2,hf⟩,p,rfl,p1,p2⟩
end Go.Vi
open Go Go.Proofs
namespace Go.Vi
set_option maxHeartbeats 4000000
open Go.ChangeShapes Go.WideShapes Go.ChangeAt Go.RowKit Go.Proofs.YtgalafpinkflfaaGreatDoor
set_option maxRecDepth 100000
def plainW:To:=[3,4,9,22,23,24,26,27,29,32,87,55,57,59,132,133,134,136,217,289,305,78,80,82,99,101,113,115]
theorem FV:A2 S5 plainW=J:=Z
mutual
def Dp.wt:Dp->Nat
 |.sl es=>wtR es
 |.v _=>0
def wtL:dO->Nat
 | []=>0
 |d::ds=>d.wt+wtL ds
def wtR:bv->Nat
 | []=>0
 |r::rs=>1+wtL r+wtR rs
end
theorem FX:∀(a b:dO),wtL (a++b)=wtL a+wtL b
 | [],b=>by simp[wtL]
 |d::a,b=>by simp only[List.cons_append,wtL,FX a b];omega
theorem FY:∀{rs:bv},∀r∈rs,1+wtL r<=wtR rs
 |a::rs,r,hr=>by
  simp only[wtR];rcases T3.1 hr with rfl|hr
  ·omega
  ·have:=FY r hr;omega
theorem L5{H:Type}:∀(rs:bv) (ds:List (DataW H)),rs.length=ds.length->(∀(i:Nat) r d,rs[i]?=G r->ds[i]?=G d->wtL r+1<=UB d)->wtR rs<=VV ds
 | [],_,_,_=>by simp[wtR]
 |r::rs,[],h,_=>by simp at h
 |r::rs,d::ds,h,hb=>by have h1:=hb 0 r d rfl rfl;have h2:=L5 rs ds (by simpa using h) λi r d hr hd=>hb (i+1) r d (by simpa using hr) (by simpa using hd);simp only[wtR,VV];omega
section
variable {w:World} {av:Nat->Prop} {P:Program}
theorem nE{cs:oR}{S:TypeId->dO->Prop}{H:Type}{total:Nat}(hc:cs.length=total):∀(fs:List Field) (xs:List (DataW H)) (acc:Nat),dU P fs acc total=J -> (∀(i:Nat) f,fs[i]?=G f->∃ds x,xs[i]?=G x/\S f.type ds/\zgl w av ds ((cs.drop f.offset).take (P.cellsOf f.type))/\wtL ds+1<=UB x) -> ∃D,zgl w av D (cs.drop acc)/\(∀f∈fs,S f.type ((D.drop (f.offset-acc)).take (P.cellsOf f.type)))/\wtL D<=VV xs
 | [],xs,acc,h,_=>by simp only[dU,beq_iff_eq] at h;refine⟨[],?_,F1,by simp[wtL]⟩;rw[List.drop_of_length_le tj];trivial
 |f::fs,xs,acc,h,hf=>by
  simp only[dU,Tm,beq_iff_eq] at h;obtain⟨rfl,h⟩:=h;obtain⟨ds,x,hx,hs,hr,hb⟩:=hf 0 f rfl;obtain⟨y,ys,rfl⟩:∃y ys,xs=y::ys:=by cases xs with
   |nil=>simp at hx
   |cons y ys=>exact⟨y,ys,rfl⟩
  obtain rfl:y=x:=by simpa using hx
  obtain⟨D,hD,hS,hB⟩:=nE hc fs ys _ h λi g hg=>hf (i+1) g (by simpa using hg);obtain⟨hle,hoff⟩:=wR h;have hlen:ds.length=P.cellsOf f.type:=by have:=hr.length;rw[this,List.length_take,List.length_drop];omega
  refine⟨ds++D,?_,λg hg=>?_,by rw[FX];simp only[VV];omega⟩;·have:=hr.append hD;rw[<-WY,Xk] at this;exact this
  ·rcases T3.1 hg with rfl|hg;·rw[Nat.sub_self,Xj,List.take_append_of_le_length tj,<-hlen,List.take_length];exact hs
   ·have h1:=hoff g hg;have hd:∀k,(ds++D).drop (ds.length+k)=D.drop k:=λk=>by rw[List.drop_append];simp
    rw[show g.offset-f.offset=ds.length+(g.offset-(f.offset+P.cellsOf f.type)) from tj,hd];exact hS g hg
theorem gO{H:Type}{enc:TypeId×Value->H}{spare:Nat->Bool}{ts:To}(hts:A2 P ts=true)(hav:∀k,¬av k):
  ∀(fuel:Nat) (t:TypeId) (cs:oR) (d:DataW H) (ps:List MemPlace),t∈ts->WH enc P w 0 spare true fuel t cs=some (d,ps)->(d.weights P t).all (· <= reachBytes)=true ->
   ∃ds,Shp P fuel t ds/\zgl w av ds cs/\wtL ds+1<=UB d:=by
 intro fuel
 induction fuel with
 | zero=>intro t cs d ps _ h;simp[WH] at h
 | succ n ih =>
  intro t cs d ps ht h hw
  have hp:=IB hts ht
  split at hp
  ·rename_i hu
   obtain⟨b,rfl,hx⟩:=DataW.trod_bool hu h
   simp only[Tk] at hx
   obtain⟨rfl,_⟩:=hx
   exact⟨[.v (.bool b)],by simp only[Shp,hu];exact⟨b,rfl⟩,by simp[zgl,ς],by simp[wtL,Dp.wt,UB]⟩
  ·rename_i k hu
   obtain⟨x,rfl,hx,hwf⟩:=DataW.trod_int hu h
   simp only[Tk] at hx
   obtain⟨rfl,_⟩:=hx
   exact⟨[.v (.int k x)],by simp only[Shp,hu];exact⟨x,rfl,hwf⟩,by simp[zgl,ς],by simp[wtL,Dp.wt,UB]⟩
  ·rename_i hu
   obtain⟨s,rfl,hx,_⟩:=DataW.trod_string hu h
   simp only[Tk] at hx
   obtain⟨rfl,_⟩:=hx
   have hs:s.size<=reachBytes:=by
    simp only[Yy,VI,List.all_nil,Bool.and_true,decide_eq_true_eq,Array.length_toList] at hw
    exact hw
   exact⟨[.v (.string s)],by simp only[Shp,hu];exact⟨s,rfl,hs⟩,by simp[zgl,ς],by simp[wtL,Dp.wt,UB]⟩
  ·rename_i e hu
   simp only[Tm,decide_eq_true_eq,Y0] at hp
   obtain⟨he,zmv⟩:=hp
   rcases DataW.trod_slice hu h with ⟨rfl,hx⟩|⟨a,len,cap,elems,rest,m,hm,rfl,hx,_,hle,_,hlen,hel,_⟩
   ·simp only[Tk] at hx
    obtain⟨rfl,_⟩:=hx
    refine⟨[.sl []],by simp only[Shp,hu];exact⟨[],rfl,by simp,by simp⟩,?_,by simp[wtL,wtR,Dp.wt,UB]⟩
    simp only[zgl,ς,and_true]
    exact .inl ⟨trivial,none,0,rfl,λ_=>rfl⟩
   ·obtain rfl:n=m:=by omega
    simp only[Tk] at hx
    obtain⟨rfl,_⟩:=hx
    simp only[Yy,hu,VI,List.all_append,Tm,decide_eq_true_eq,Uw] at hw
    obtain⟨hw1,hw2,_⟩:=hw
    have key:∀i,i<len->∃ds ys,Shp P n e ds/\zgl w av ds ys/\w.cells? 0 (a.add (i*P.cellsOf e)) (P.cellsOf e)=some ys/\∀x,elems[i]? = some x->wtL ds+1<=UB x.1:=by
     intro i hi
     have h1:=hel i hi
     have h2:elems[i]? = some elems[i]:=TH (by omega)
     generalize elems[i]=x at h2
     rw[h2] at h1
     obtain⟨ys,h3,h4⟩:=Vu.1 h1
     obtain⟨dx,px⟩:=x
     obtain⟨ds,h5,h6,h7⟩:=ih e ys dx px he h4 (jA hw2 dx (T2.2 ⟨(dx,px),T6 h2,rfl⟩))
     exact⟨ds,ys,h5,h6,h3,λx hx=>by rw[h2] at hx;cases hx;exact h7⟩
    obtain⟨f,hf⟩:∃f:Nat->dO,∀i,i<len->∃ys,Shp P n e (f i)/\zgl w av (f i) ys/\w.cells? 0 (a.add (i*P.cellsOf e)) (P.cellsOf e)=some ys/\∀x,elems[i]? = some x->wtL (f i)+1<=UB x.1:=by
     classical
     refine⟨λi=>if hi:i<len then Classical.choose (key i hi) else [],λi hi=>?_⟩
     simp only[dif_pos hi]
     exact Classical.choose_spec (key i hi)
    refine⟨[.sl ((T1 len).map f)],?_,?_,?_⟩
    ·simp only[Shp,hu]
     refine⟨_,rfl,?_,?_⟩
     ·simp only[Uw,List.length_range]
      have:len*P.bytesOf e<=(elems.length+rest.length)*P.bytesOf e:=Nat.mul_le_mul_right _ (by omega)
      omega
     ·intro r hr
      obtain⟨i,hi,rfl⟩:=T2.1 hr
      obtain⟨ys,h1,_⟩:=hf i (by simpa using hi)
      exact h1
    ·simp only[zgl,ς,and_true]
     by_cases h0:len=0
     ·subst h0
      exact .inl ⟨by simp,some a,cap,rfl,by simp⟩
     ·have hsp:a.spot=none:=by
       obtain⟨ys,_,_,h3,_⟩:=hf 0 (by omega)
       obtain⟨h4,h5⟩:=A3 h3
       have h6:ys[0]? = some ys[0]:=TH (by omega)
       have h7:=h5 0 _ h6
       simp only[Nat.zero_mul,Addr.add,if_true] at h7
       unfold Xh at h7
       split at h7
       ·split at h7
        ·simp at h7
        ·rename_i hns
         cases hs:a.spot with
         | none=>rfl
         | some _=>simp[hs] at hns
       ·simp at h7
      obtain⟨mN,off,sp⟩:=a
      simp only at hsp
      subst hsp
      refine .inr ⟨mN,off,cap,P.cellsOf e,by simp,by simpa using hle,sG _ _ λi r hr=>?_⟩
      simp only[Vo,Tn] at hr
      obtain⟨j,hj,rfl⟩:=hr
      rw[Td] at hj
      obtain⟨hj1,hj2⟩:=hj
      simp only[Zz] at hj2
      subst hj2
      obtain⟨ys,h1,h2,h3,_⟩:=hf i (by simpa using hj1)
      obtain⟨h4,h5⟩:=A3 h3
      refine⟨by rw[h2.length,h4],qb hav _ _ _ h2 λk y hy=>?_⟩
      have:=h5 k y hy
      have e1:(((⟨mN,off,none⟩:Addr).add (i*P.cellsOf e)).add k)=⟨mN,off+i*P.cellsOf e+k,none⟩:=by
       rw[ke,ke]
      rwa[e1] at this
    ·have:=L5 ((T1 len).map f) (elems.map (·.1)) (by simp[hlen]) λi r d hr hd=>by
      simp only[Vo,Tn] at hr hd
      obtain⟨j,hj,rfl⟩:=hr
      obtain⟨x,hx,rfl⟩:=hd
      obtain⟨hj1,hj2⟩:=Td.1 hj
      simp only[Zz] at hj2
      subst hj2
      obtain⟨ys,_,_,_,h4⟩:=hf i (by simpa using hj1)
      exact h4 x hx
     simp only[wtL,Dp.wt,UB]
     omega
  ·rename_i fs hu
   simp only[Tm,List.all_eq_true,Y0] at hp
   obtain⟨hc,hfs⟩:=hp
   obtain⟨xs,m,hm,hx,hlen,hxs,hel⟩:=DataW.trod_struct hu h
   obtain rfl:n=m:=by omega
   simp only[Tk] at hx
   obtain⟨rfl,_⟩:=hx
   simp only[Yy,hu] at hw
   have key:∀(i:Nat) f,fs.toList[i]? = some f->∃ds x,(xs.map (·.1))[i]? = some x/\Shp P n f.type ds/\zgl w av ds ((cs.drop f.offset).take (P.cellsOf f.type))/\wtL ds+1<=UB x:=by
    intro i f hi
    have hf:f∈fs.toList:=T6 hi
    have hi':fs[i]? = some f:=by rw[<-Array.getElem?_toList];exact hi
    have hil:i<xs.length:=by
     rw[hxs]
     have:=(Array.getElem?_eq_some_iff.1 hi').1
     exact this
    have h1:=hel i f hi'
    have h2:xs[i]? = some xs[i]:=TH hil
    generalize xs[i]=x at h2
    rw[h2] at h1
    obtain⟨dx,px⟩:=x
    obtain⟨ds,g1,g2,g3⟩:=ih f.type _ dx px (hfs f hf) h1 (aV hw i f.type dx (by simp[hi]) (by simp[h2]))
    exact⟨ds,dx,by simp[h2],g1,g2,g3⟩
   obtain⟨D,hD,hS,hB⟩:=nE hlen fs.toList (xs.map (·.1)) 0 hc key
   rw[Xj] at hD
   refine⟨D,?_,hD,by simp only[UB];omega⟩
   simp only[Shp,hu]
   refine⟨by rw[hD.length,hlen],λf hf=>?_⟩
   have:=hS f hf
   rwa[Nat.sub_zero] at this
  ·simp at hp
end
theorem FZ:∀qs:List γ,(qs.map λq=>q.uR.length).sum<=wtR (qs.map Ts)
 | []=>by simp
 | q::qs=>by
  have h:∀l:List Int,wtR (aA l)=l.length:=λl=>by
   induction l with
   | nil=>rfl
   | cons a l ih=>simp only[aA,zaQ,U5,wtR,wtL,Dp.wt,List.length_cons] at ih ⊢;omega
  have:=FZ qs
  have h2:=h q.uR
  simp only[U5,List.sum_cons,wtR,Ts,wtL,Dp.wt] at h2 ⊢
  omega
theorem JT{w:kc}{ps:Is}{ds:dO}(h:ds.map .p=w.l)(hp:w.okQ ps){n:Nat}(hn:wtL ds+1<=n)(hb:n<=1048576):∀x∈ps,(x.reqs.map λq=>q.uR.length).sum<=1048576:=by
 intro x hx;have e:ds=[.sl (w.c.map Tc),.sl w.p,.sl (w.s.map Tj),.sl (w.f.map Ta)]:=by have:ds.map D.p=[Dp.sl (w.c.map Tc),.sl w.p,.sl (w.s.map Tj),.sl (w.f.map Ta)].map D.p:=h;exact(List.map_inj_right λa b e=>by cases e;rfl).1 this
 have h1:=FY x.row (T2.2 ⟨x,hx,rfl⟩);have h2:=FZ x.reqs;rw[hp.p] at e;subst e;simp only[wtL,Dp.wt] at hn;simp only[Xc,wtL,Dp.wt] at h1;omega
theorem mU{H:Type}{enc:TypeId×Value->H}{W:World}{base:Nat}{v:Value}{d:DataW H}{p:List MemPlace}(hok:Wg S5 W .any base 29 v) (h:Zr enc S5 W 0 (λ_=>true) true 29 v d p) (hw:(d.weights S5 29).all (· <= reachBytes)=true) (hb:UB d<=1048576) :∃w:kc,w.ok0/\Rel W (J4 (λ_=>False) (λ_=>none) []) (λ_=>none) [] (.agg w.l) v/\∃ps,w.okP ps:=by unfold Wg at hok;rw[Tryz.underlying29] at hok;obtain⟨cs,rfl,_,_⟩:=hok;obtain⟨fuel,hf⟩:=h;obtain⟨ds,h1,h2,h3⟩:=gO FV kX fuel 29 _ d p (by decide) hf hw;obtain⟨w,e,hw0,ps,hp⟩:=FU h1;refine⟨w,hw0,?_,ps,hp.p,hp.k,hp.l,JT e hp h3 hb⟩;rw[<-e];simp only[Rel];exact⟨cs,rfl,h2.zfH⟩
theorem L6:A2 S5 [3,31,32]=J:=Z
theorem Pm:S5.cellsOf 31=4:=Z
theorem shp_q{n:Nat}{ds:dO}(h:Shp S5 n 31 ds):∃q:QuT,ds=q.row:=by
 cases n with
 |zero=>exact h.elim
 |succ n=>
  simp only[Shp,Tryz.underlying31,T7,ib,Pm] at h;obtain⟨hl,h1,h2,h3,h4,_⟩:=h;obtain⟨a,e1,_⟩:=aX h1;obtain⟨b,e2,_⟩:=aX h2;obtain⟨c,e3,_⟩:=aX h3;obtain⟨d,e4,_⟩:=aX h4;match ds,hl with
  | [p,q,r,t],_=>simp at e1 e2 e3 e4;subst e1;subst e2;subst e3;subst e4;exact⟨⟨a,b,c,d⟩,rfl⟩
theorem Pn{H:Type}{enc:TypeId×Value->H}{W:World}{base:Nat}{v:Value}{d:DataW H}{p:List MemPlace}(hok:Wg S5 W .any base 31 v) (h:Zr enc S5 W 0 (λ_=>true) true 31 v d p) (hw:(d.weights S5 31).all (· <= reachBytes)=true) :∃q:QuT,Rel W (J4 (λ_=>False) (λ_=>none) []) (λ_=>none) [] (ag q.row) v:=by unfold Wg at hok;rw[Tryz.underlying31] at hok;obtain⟨cs,rfl,_,_⟩:=hok;obtain⟨fuel,hf⟩:=h;obtain⟨ds,h1,h2,_⟩:=gO L6 kX fuel 31 _ d p (by decide) hf hw;obtain⟨q,rfl⟩:=shp_q h1;refine⟨q,?_⟩;simp only[Rel];exact⟨cs,rfl,h2.zfH⟩
theorem uQ{H:Type}{enc:TypeId×Value->H}{W:World}{base:Nat}{v:Value}{d:DataW H}{p:List MemPlace}(hok:Wg S5 W .any base 32 v) (h:Zr enc S5 W 0 (λ_=>true) true 32 v d p) (hw:(d.weights S5 32).all (· <= reachBytes)=true) :∃l:bV,Rel W (J4 (λ_=>False) (λ_=>none) []) (λ_=>none) [] (ab (aA l)) v:=by
 obtain⟨fuel,hf⟩:=h;unfold Wg at hok;rw[W8] at hok;have hc:v.cells.toList=[v]:=by
  cases v<;>first|rfl|skip
  unfold Cell.okWide at hok;rw[W8] at hok;exact hok.elim
 rw[hc] at hf;obtain⟨ds,h1,h2,_⟩:=gO L6 kX fuel 32 _ d p (by decide) hf hw;obtain⟨l,rfl,_⟩:=Bk h1;refine⟨l,?_⟩;simp only[zgl,and_true] at h2;simpa[ab,Rel] using h2
theorem mV{H:Type}{ds gs:List (DataW H)}{d:DataW H}(h:Rows.uptoSmall H (ds++gs)=J)(hd:d∈ds):UB d<=1048576:=by
 have key:∀l:List (DataW H),d∈l->UB d<=VV l:=by
  intro l;induction l with
  |nil=>intro h;simp at h
  |cons x l ih=>
   intro h;simp only[VV];rcases T3.1 h with rfl|h
   ·omega
   ·have:=ih h;omega
 have:=of_decide_eq_true h;have:=key _ (List.mem_append_left gs hd);omega
end Go.Vi
open Go Go.Proofs
namespace Go.Vi
set_option maxHeartbeats 4000000
open Go.ChangeShapes Go.WideShapes Go.ChangeAt Go.RowKit Go.Proofs.YtgalafpinkflfaaGreatDoor
set_option maxRecDepth 100000
theorem ownK:ownKnob S5.godebug=Y:=Z
theorem zC:laidOutB S5=J:=Z
def kd(a b c d:Bool)(f g:Value):oR:=[.bool a,.bool b,.bool c,.bool d,f,g]
def kf(k:Nat):Value:=.func (.func k) #[] #[]
def zkZ:oR :=kd N N N N .nilFunc .nilFunc++kd N N N J (kf 354) (kf 355)++kd N N N J (kf 356) (kf 357)++kd N J N J (kf 358) (kf 359) ++kd N N N J (kf 360) (kf 361)++kd J J N N (kf 362) (kf 364)++kd J J N N (kf 366) (kf 367)++kd N J N N (kf 368) (kf 369) ++kd N J J N (kf 370) (kf 371)++kd J N N N (kf 363) (kf 372)
noncomputable def fj(os:Os):World :={World.holding S5 os ⟨#[],#[],[]⟩ with heap:=(World.holding S5 os ⟨#[],#[],[]⟩).heap.modify 0 fun
   |.cells _ t frozen=>.cells zkZ.toArray t frozen
   |o=>o}
theorem ztI (os:Os) (args:By):laidMetH S5 [("sizar/rules.kinds",VO)] ((fj os).forCall (λ_ _=>0) ⟨#[],args,[]⟩).memory :=laidMetH_of_parts3 (fuel:=8) (laidMet_nil _ _) Z Z
def lookF(P:Program)(ks:iS)(bs:List UInt8):BV:=ks.find? λk=>match P.funcs[k]? with
 |some fn=>(fn.name.toUTF8.data.toList==bs)&&(P.funcNamed fn.name==G k)
 |none=>N
theorem JU{s t:String}(h:s.toUTF8.data.toList=t.toUTF8.data.toList):s=t:=by
 have h1:s.toUTF8=t.toUTF8:=by cases hs:s.toUTF8;cases ht:t.toUTF8;rw[hs,ht] at h;congr 1;exact Array.toList_inj.1 h
 exact String.toByteArray_inj.1 h1
theorem zD{P:Program}{ks:iS}{t:TypeId}{v:Value}{b:UInt8}{r:List UInt8}{k:Nat}(hv:funcToken P (t,v)=b::r)(hk:lookF P ks (b::r)=G k):v=.func (.func k) #[] #[]:=by
 obtain⟨f,fn,rfl,h1,h2,h3⟩:=funcToken_tells hv;have h4:=List.find?_some hk;split at h4;·rename_i fn' hfn;simp only[Tm,beq_iff_eq] at h4;have:fn.name=fn'.name:=JU (h3.trans h4.1.symm);rw[this,h4.2] at h2;cases h2;rfl
 ·simp at h4
def expect(P:Program)(ks:iS):Nat->TypeId->DataW (List UInt8)->Option (oR)
 |0,_,_=>Y
 |n+1,t,d=>match P.underlying t with
  |some .bool=>match d with
   |.lit (.bool b)=>G [.bool b]
   |_=>Y
  |some (.func ..)=>match d with
   |.nil=>G [.nilFunc]
   |.held (b::r)=>(lookF P ks (b::r)).map λk=>[.func (.func k) #[] #[]]
   |_=>Y
  |some (.struct fs)=>match d with
   |.agg ds=>if dU P fs.toList 0 (P.cellsOf t) then (zou (λf d=>expect P ks n f d) (fs.toList.map (·.type)) ds) else Y
   |_=>Y
  |some (.array m e)=>match d with
   |.agg ds=>if lL (P.cellsOf t=m*P.cellsOf e)=J then zou (λf d=>expect P ks n f d) (Ti m e) ds else Y
   |_=>Y
  |_=>Y
where
 zou (g:TypeId->DataW (List UInt8)->Option (oR)):To->List (DataW (List UInt8))->Option (oR)
  | [],[]=>G []
  |t::ts,d::ds=>(g t d).bind λa=>(zou g ts ds).map λb=>a++b
  |_,_=>Y
theorem xB{P:Program}{g:TypeId->DataW (List UInt8)->Option (oR)}{tr:TypeId->oR->Option (DataW (List UInt8)×List MemPlace)}{cs:oR}(hg:∀t d ys,g t d=G ys->∀c p,tr t c=G (d,p)->c=ys):∀(fs:List Field) (acc:Nat) (xs:List (DataW (List UInt8)×List MemPlace)) (ys:oR),(fs.mapM λf=>tr f.type ((cs.drop f.offset).take (P.cellsOf f.type)))=G xs->dU P fs acc cs.length=J->expect.zou g (fs.map (·.type)) (xs.map (·.1))=G ys->cs.drop acc=ys
 | [],acc,xs,ys,hm,hc,hz=>by simp at hm;subst hm;simp[expect.zou] at hz;subst hz;simp[dU] at hc;simp[hc]
 |f::fs,acc,xs,ys,hm,hc,hz=>by simp only[YT,Y1,Vu,Option.pure_def,Tf] at hm;obtain⟨x,hx,xs',hxs,rfl⟩:=hm;simp only[dU,Tm,beq_iff_eq] at hc;simp only[U5,expect.zou,Vu,Tn] at hz;obtain⟨a,ha,b,hb,rfl⟩:=hz;have h1:=hg _ _ _ ha _ x.2 (by rw[hx]);have h2:=xB hg fs _ xs' b hxs hc.2 hb;rw[<-h1,<-h2,hc.1,<-WY,Xk]
theorem Bm{e:TypeId}{c:Nat}{g:TypeId->DataW (List UInt8)->Option (oR)}{tr:TypeId->oR->Option (DataW (List UInt8)×List MemPlace)}{cs:oR}(hg:∀t d ys,g t d=G ys->∀c p,tr t c=G (d,p)->c=ys):∀(n k:Nat) (xs:List (DataW (List UInt8)×List MemPlace)) (ys:oR),((List.range' k n).mapM λi=>tr e ((cs.drop (i*c)).take c))=G xs->cs.length=(k+n)*c->expect.zou g (Ti n e) (xs.map (·.1))=G ys->cs.drop (k*c)=ys
 |0,k,xs,ys,hm,hc,hz=>by simp at hm;subst hm;simp[expect.zou] at hz;subst hz;exact List.drop_eq_nil_of_le (by rw[hc];simp)
 |n+1,k,xs,ys,hm,hc,hz=>by rw[List.range'_succ] at hm;simp only[YT,Y1,Vu,Option.pure_def,Tf] at hm;obtain⟨x,hx,xs',hxs,rfl⟩:=hm;rw[List.replicate_succ] at hz;simp only[U5,expect.zou,Vu,Tn] at hz;obtain⟨a,ha,b,hb,rfl⟩:=hz;have h1:=hg _ _ _ ha _ x.2 (by rw[hx]);have h2:=Bm hg n (k+1) xs' b hxs (by rw[hc];congr 1;omega) hb;rw[<-h1,<-h2,Nat.add_mul,Nat.one_mul,<-WY,Xk]
theorem qE{P:Program}{ks:iS}{w:World}{sp:Nat->Bool}:∀(n:Nat) (t:TypeId) (d:DataW (List UInt8)) (ys:oR),expect P ks n t d=G ys->∀(fuel:Nat) (cs:oR) (p:List MemPlace),WH (funcToken P) P w 0 sp J fuel t cs=G (d,p)->cs=ys
 |0,_,_,_,h=>by simp[expect] at h
 |n+1,t,d,ys,h=>by
  intro fuel cs p ht;cases fuel with
  |zero=>simp[WH] at ht
  |succ fuel=>
   unfold expect at h;unfold WH at ht;cases hu:P.underlying t with
   |none=>rw[hu] at h;simp at h
   |some td=>
    rw[hu] at h ht;cases td with
    |bool=>
     simp only at h ht;split at h;·split at ht<;>simp_all
     ·simp at h
    |func a b c=>
     simp only at h ht;split at h;·split at ht<;>simp_all
     ·rename_i b r;obtain⟨k,hk,rfl⟩:=Tn.1 h;split at ht;all_goals (try (simp_all;done))
      ·rename_i fn first captured _ _
       simp only[if_true,Tf,Tk,DataW.held.injEq] at ht;rw[zD ht.1 hk]
     ·simp at h
    |struct fs=>
     simp only at h ht;split at h
     ·split at h
      ·rename_i hc;split at ht;·rename_i hl;obtain⟨xs,hxs,he⟩:=Tn.1 ht;simp only[Tk,Zm] at he;obtain⟨rfl,_⟩:=he;have:=xB (tr:=λt c=>WH (funcToken P) P w 0 sp J fuel t c) (λt d ys hg c p hp=>qE n t d ys hg fuel c p hp) fs.toList 0 xs ys hxs (by rw[hl];exact hc) h;simpa using this
       ·simp at ht
      ·simp at h
     ·simp at h
    |array m e=>
     simp only at h ht;split at h
     ·split at ht
      ·rename_i hl;obtain⟨xs,hxs,he⟩:=Tn.1 ht;simp only[Tk,Zm] at he;obtain⟨rfl,_⟩:=he;split at h;·rename_i hc;rw[List.range_eq_range'] at hxs;have:=Bm (tr:=λt c=>WH (funcToken P) P w 0 sp J fuel t c) (λt d ys hg c p hp=>qE n t d ys hg fuel c p hp) m 0 xs ys hxs (by rw[hl,Nat.zero_add];exact of_decide_eq_true hc) h;simpa using this
       ·simp at h
      ·simp at ht
     ·simp at h
    |_=>simp at h
def Po:iS:=[354,355,356,357,358,359,360,361,362,364,366,367,368,369,370,371,363,372]
def ztJ:DataW Unit:=match (VO:DataW Unit) with
 |.iface _ d=>d
 |d=>d
theorem qF:S5.globalNamed "sizar/rules.kinds" = some 0:=Z
noncomputable def L7:TypeId:=((S5.globals[0]?).map (·.type)).getD 0
theorem CZ:(S5.globals[0]?).map (·.type)=G L7:=Z
theorem xC:expect S5 Po 4 L7 ztJ.funcsOut=G zkZ:=Z
theorem zF {W:World} (h:laidMetH S5 [("sizar/rules.kinds",VO)] W):∃cs:By,W.var? S5 "sizar/rules.kinds" = some cs/\cs.toList=zkZ:=by obtain⟨g,t,cs,fuel,p,h1,h2,h3,h4⟩:=laidMetH.funcs h (n:= "sizar/rules.kinds") (d:=ztJ) (Va.2 rfl);rw[qF] at h1;cases h1;rw[CZ] at h2;cases h2;exact⟨cs,h3,qE 4 _ _ _ xC fuel _ _ h4⟩
theorem ti{w:World}{av:Nat->Prop}{mN:Nat}{cs:By}(hb:∀off,w.cell? ⟨mN,off,Y⟩=cs[off]?)(hav:∀k,¬av k):∀(ys:oR) (off:Nat),cs.toList.drop off=ys->Pt w av mN off (ys.map .v)
 | [],_,_=>by simp[Pt]
 |y::ys,off,h=>by
  have h1:cs[off]?=G y:=by have:=congrArg List.head? h;rw[List.head?_drop] at this;simpa using this
  have h2:cs.toList.drop (off+1)=ys:=by rw[<-WY,h];rfl
  simp only[U5,Pt];exact⟨⟨hav mN,y,by rw[hb,h1],by simp[ς]⟩,ti hb hav ys (off+1) h2⟩
theorem F0:Gc=zkZ.map .v:=rfl
theorem qG {W:World} (h:laidMetH S5 [("sizar/rules.kinds",VO)] W):∀g cs,uS g=some cs->Pt W (J4 (λ_=>False) (λ_=>none) []) g 0 cs:=by
 intro g cs hg;obtain⟨xs,h1,h2⟩:=zF h;have h0:g=0/\cs=Gc:=by
  unfold uS at hg;split at hg;·exact⟨rfl,(Option.some.inj hg).symm⟩
  ·simp at hg
 obtain⟨rfl,rfl⟩:=h0;rw[F0];refine ti (cs:=xs) (λoff=>?_) kX _ 0 (by rw[Xj,h2]);rw[World.var?,qF] at h1;simp only[Option.bind_some] at h1;unfold Xh;split at h1;·rename_i c a b hh;cases h1;simp only[hh];rfl
 ·simp at h1
end Go.Vi
open Go Go.Proofs
namespace Go.Vi
set_option maxRecDepth 100000
set_option maxHeartbeats 4000000
attribute [local irreducible] cP
end Go.Vi
open Go Go.Proofs
namespace Go.Vi
set_option maxHeartbeats 4000000
set_option maxRecDepth 100000
end Go.Vi
