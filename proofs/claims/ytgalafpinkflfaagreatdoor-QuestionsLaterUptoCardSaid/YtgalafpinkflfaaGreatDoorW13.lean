/- A part of the proof; no conditions of its own. -/
import Derived.Test.YtgalafpinkflfaaGreatDoorW12
import Derived.Test.YtgalafpinkflfaaGreatDoorCards
import Derived.Test.YtgalafpinkflfaaGreatDoorTie
import Derived.WalkKit
import Derived.ProofKit
import Derived.OpenShut
import Derived.Deep.DeepHandedRow
import Derived.Lib.LaidTab
import Derived.LaidHandle
open Bool renaming true->J,false->N
open Option renaming some->G,none->Y
open Go.Vi.ql renaming map->NI,var->eP
open Go.Vi.D renaming Pp->uN,agg->mS,any->CS
open Go.Vi.η renaming inl->Τ
open Decidable renaming decide -> fE
open List renaming foldl_cons -> TG, mem_cons_of_mem -> UY, length_map -> Uw, range -> T1, map -> S2, mem_singleton -> Va, mem_cons_self -> UT, mem_map -> T2, getElem?_map -> Vo, forall_mem_cons -> T7, mem_cons -> T3, drop_drop -> WY, take_append_drop -> Xk, drop_zero -> Xj, all_cons -> VI, contains_iff_mem -> Y0, getElem?_eq_getElem -> TH, mem_of_getElem? -> T6, getElem?_eq_some_iff -> Td, getElem_range -> Zz, map_cons -> U5, replicate -> Ti, mapM_cons -> YT, length -> S7, foldl_append -> Ym
open Go.Proofs.Tryz renaming prog -> S5, underlying32 -> W8
open Go.Vi.Ev renaming ziv -> U7, zkr -> Tp
open Go.IntKind renaming i64 -> S6, wrap -> S8
open Go.Vi.uT renaming row -> Tc
open Go.Vi.Β renaming row -> Tj
open Go.Vi.qH renaming row -> Ta
open Go.Vi.D renaming agg -> TF
open Go.Vi.zar renaming ziD -> YP
open Go.Vi.A7 renaming row -> X8
open Go.Vi.E7 renaming row -> Ts
open Go.Vi.jW renaming row -> Xc
open Go.Proofs.YtgalafpinkflfaaGreatDoor.Rows renaming uptoBulk -> UB, uptoBulkAll -> VV, laid_sizar_rules_kinds -> VO
open Bool renaming and_eq_true -> Tm
open Go.DataW renaming trod -> WH, weights -> Yy, Trod -> Zr
open Prod.mk renaming injEq -> Tk
open Option renaming bind_eq_some_iff -> Vu, map_eq_some_iff -> Tn, bind_eq_bind -> Y1
open Go.World renaming cell? -> Xh
open Go.Value renaming okWide -> Wg
open Option.some renaming injEq -> Tf
open Go.DataW.agg renaming injEq -> Zm
open Go Go.Proofs
namespace Go.Vi
set_option maxHeartbeats 4000000
set_option maxRecDepth 100000
theorem qy{w:eQ}{bO eF:Int}{m1 m2:IM}:∀(ns:bV) (s:RSM),(ns.foldl (nbF w bO eF m1 m2) s).1=s.1++ns.flatMap λn=>(bQ w n eF bO).1
 | [],s=>qk
 |n::ns,s=>by rw[TG,qy ns];simp[nbF,List.append_assoc]
set_option maxHeartbeats 1000000
abbrev cnA(w:eQ)(bO st eF:Int):iN×Int:=nj (gU w bO st eF) (jm w bO eF (gU w bO st eF))
def sitR(w:eQ)(st eF bO:Int)(now:bV):D:=match (!(fE (st>=0)&&fE (st<=19999))||!(fE (eF>=0)&&fE (eF<=1023))) with
 |true=>xn 150
 |false=>Og w bO eF now (ba w bO st eF) (j8 eF (gU w bO st eF)) (gU w bO st eF) (cnA w bO st eF).1 (cnA w bO st eF).2
theorem CQ{w:eQ}(hw:w.ok){st eF bO:Int}{now:bV}(hn:now.length<=1000)(hN:(af w.f bO).length<=100)(h:aT):Ev S5 lL 33 [mS w.l,eO st,eO eF,eO bO,ab (zaQ now)] h (sitR w st eF bO now) h:=by
 unfold sitR;cases hb:(!(fE (st>=0)&&fE (st<=19999))||!(fE (eF>=0)&&fE (eF<=1023)));·have h1:=vE hw (bO:=bO) (st:=st) (eF:=eF);have h2:=iO hw (bO:=bO) (st:=st) (eF:=eF);have h3:=lM eF (gU w bO st eF);have h4:=HT (gU w bO st eF) (jm w bO eF (gU w bO st eF));exact sit_a hw hn (by unfold ah;omega) hN lj (by unfold ah;omega) (by unfold ah;omega) mW mW (Mj hw) (B8 hw lj lj) hb h
 ·exact Oe hb h
structure SitX where
 s:ε
 q:iF
 e:Int
def li(e:Int):SitX:=⟨⟨[],0,0,0⟩,[],e⟩
def jr(w:eQ)(st eF bO:Int)(now:bV):SitX:=match (!(fE (st>=0)&&fE (st<=19999))||!(fE (eF>=0)&&fE (eF<=1023))) with
 |true=>li 150
 |false=>match snR now with
  |.inr _=>li 150
  |.inl s=>match ((cnA w bO st eF).2 != 0) with
   |true=>li (cnA w bO st eF).2
   |false=>match zoI (cnA w bO st eF).1 with
    |.inr e=>li e
    |.inl _=>⟨⟨(smV (mQ w bO eF (gU w bO st eF) (ba w bO st eF++j8 eF (gU w bO st eF)++[rdN]) s.2).2).mergeSort leS,mnI (cz (cnA w bO st eF).1).1 10000,(bX (cnA w bO st eF).1).1,(bX (cnA w bO st eF).1).2.1⟩,(mQ w bO eF (gU w bO st eF) (ba w bO st eF++j8 eF (gU w bO st eF)++[rdN]) s.2).1,0⟩
def SitX.d(x:SitX):D:=uN [mS x.s.l,ab (sU x.q),eO x.e]
theorem OV(w:eQ)(st eF bO:Int)(now:bV):(sitR w st eF bO now).ziv=(jr w st eF bO now).d:=by
 unfold sitR jr Og;cases (!(fE (st>=0)&&fE (st<=19999))||!(fE (eF>=0)&&fE (eF<=1023)))
 ·cases snR now with
  |inr _=>rfl
  |inl s=>
   cases hc:((cnA w bO st eF).2 != 0);·cases hx:zoI (cnA w bO st eF).1<;>simp only[hc,hx]<;>rfl
   ·simp;rfl
 ·rfl
theorem OW{w:eQ}(hw:w.ok){st eF bO:Int}{now:bV}(hn:now.length<=1000)(hN:(af w.f bO).length<=100)(h:aT):Ev S5 lL 33 [mS w.l,eO st,eO eF,eO bO,ab (zaQ now)] h (jr w st eF bO now).d h:=by rw[<-OV];exact U7 (CQ hw hn hN h)
theorem FI(l:iN):eL l=0\/eL l=150:=by unfold eL;grind
theorem OX(l:iN):(cz l).2=0\/(cz l).2=150:=by
 unfold cz;split;·exact FI l
 grind
theorem OY(l:iN):(bX l).2.2=0\/(bX l).2.2=1\/(bX l).2.2=2\/(bX l).2.2=150:=by
 have hs:(fp l).2.2=0\/(fp l).2.2=150:=by
  unfold fp;split;·exact FI l
  ·exact .inl rfl
 unfold bX ve;split;·grind
 grind [z7]
theorem cntA_v(l:iN)(rp:bV):(nj l rp).2=0\/(nj l rp).2=1\/(nj l rp).2=150:=by have:=FI l;unfold nj;grind
theorem sitS_v(w:eQ)(st eF bO:Int)(now:bV):(jr w st eF bO now).e=0\/(jr w st eF bO now).e=1\/(jr w st eF bO now).e=2\/(jr w st eF bO now).e=150:=by
 unfold jr;split;·simp[li]
 ·split;·simp[li]
  ·split;·have:=cntA_v (gU w bO st eF) (jm w bO eF (gU w bO st eF));simp[li];grind
   ·split;·rename_i e he;have h1:=OX (cnA w bO st eF).1;have h2:=OY (cnA w bO st eF).1;grind [li,zoI]
    ·simp
theorem OZ{w:eQ}{st eF bO:Int}{now:bV}(hn:now.length<=1000)(hN:(af w.f bO).length<=100):(jr w st eF bO now).s.ok:=by
 have hz:∀e,(li e).s.ok:=λe=>⟨by simp[li,ah],gV,gV⟩;unfold jr;split;·exact hz _
 ·split;·exact hz _
  ·rename_i s hs;split;·exact hz _
   ·split;·exact hz _
    ·refine⟨?_,(iP _).1,(iP _).2⟩;have h2:=zp (w:=w) (bO:=bO) (eF:=eF) (m1:=(bg (gU w bO st eF)).1) (m2:=(bg (gU w bO st eF)).2) (ns:=af w.f bO) (rs:=ba w bO st eF++j8 eF (gU w bO st eF)++[rdN]) hn lj hs;grind [ah,List.length_mergeSort,Uw,mQ,smV]
theorem Bi{w:eQ}(hw:w.ok){st eF bO:Int}{now:bV}(hN:(af w.f bO).length<=100):(jr w st eF bO now).q.length<=10000000000:=by
 have hz:∀e,(li e).q.length<=10000000000:=λe=>by simp[li]
 unfold jr;split;·exact hz _
 ·split;·exact hz _
  ·split;·exact hz _
   ·split;·exact hz _
    ·simp only;unfold mQ;rw[qy];have h1:=vE hw (bO:=bO) (st:=st) (eF:=eF);have h2:=iO hw (bO:=bO) (st:=st) (eF:=eF);have h3:=lM eF (gU w bO st eF);have h4:∀ns:bV,(ns.flatMap λn=>(bQ w n eF bO).1).length<=ns.length*1001001:=λns=>by
      induction ns with
      |nil=>simp
      |cons a l ih=>have:=(lJ (w:=w) (c:=a) (eF:=eF) (bO:=bO) lj).1;grind
     grind
def hrT(kd st eF:Int):iF:=(T1 8).map λk=>⟨kd,st,(k:Nat),eF,S6.wrap (eF+1)⟩
theorem O0(kd st eF:Int):hrR kd st eF 8=sU (hrT kd st eF):=by simp[hrR,hrT,sU,EU.row]
def actT(sc st ob eF:Int):iF:=[⟨sc,st,ob,eF,S6.wrap (eF+1)⟩]
def CT(w:eQ)(st ob eF bO:Int)(now:bV):iF:=hrT 6 st eF++rdT 1 ob 0 eF++(jr w st eF bO now).q++actT 7 st ob eF
def zu(w:eQ)(st ob eF bO:Int)(now:bV):Bool:=(qw (ac w ob eF bO).1.NJ (jr w st eF bO now).s).1&&!(qw (ac w ob eF bO).1.bar (jr w st eF bO now).s).1
def rL(w:eQ)(st ob eF bO:Int)(now:bV):zar×Int:=match qx st ob eF now with
 |false=>(zar.zero,280)
 |true=>match (jr w st eF bO now).e != 0 with
  |true=>(zar.zero,(jr w st eF bO now).e)
  |false=>match fE (((hlR 6 st eF bO w.f 8).length:Int)>0)||!(ac w ob eF bO).2 with
   |true=>(⟨⟨1,st,ob,eF⟩,0,0,bO,now,CT w st ob eF bO now,[]⟩,0)
   |false=>match zu w st ob eF bO now||fE (CO 7 st ob eF bO w.f>0) with
    |false=>(⟨⟨1,st,ob,eF⟩,0,0,bO,now,CT w st ob eF bO now,[]⟩,0)
    |true=>(⟨⟨1,st,ob,eF⟩,1,1,bO,now,CT w st ob eF bO now,Bg (!zu w st ob eF bO now) (CO 7 st ob eF bO w.f)⟩,0)
theorem FJ{w:eQ}(hw:w.ok){n eF bO:Int}:(ac w n eF bO).1.ok:=by
 have hz:uT.zero.ok:=uT.ziD;unfold ac;split;·exact hz
 ·unfold gR;split;·exact hz
  ·rename_i h;exact hw.c _ (ln h).1
theorem adm_a{w:eQ}(hw:w.ok){st ob eF bO:Int}{now:List Int}(hn:now.length<=1000)(hN:(af w.f bO).length<=100):
  Ev S5 lL 14 [.agg w.l,eO st,eO ob,eO eF,eO bO,ab (now.map λn=>[vi n])] [] (.Pp [.agg (rL w st ob eF bO now).1.l,eO (rL w st ob eF bO now).2]) []:=by
 have hsn:ah now:=by unfold ah;omega
 have hk:∀h,Ev S5 ji 28 [eO st,eO ob,eO eF,ab (now.map λn=>[vi n])] h (eR (qx st ob eF now)) h:=λh=>Jm hsn h
 unfold rL
 cases hA:qx st ob eF now with
 | false=>rw[hA] at hk;exact OQ hk []
 | true =>
  rw[hA] at hk
  have hh:∀h,Ev S5 ji 31 [.agg w.l,eO st,eO eF,eO bO] h (.Pp [ab (hlR 6 st eF bO w.f 8),ab (sU (hrT 6 st eF))]) h:=λh=>by rw[<-O0];exact OJ hw.sf h
  have hc:=λh=>jk hw (n:=ob) (eF:=eF) (bO:=bO) h
  have hs:=λh=>OW hw (st:=st) (eF:=eF) (bO:=bO) hn hN h
  have Φ:=OZ (w:=w) (st:=st) (eF:=eF) (bO:=bO) hn hN
  have hlen:=Bi hw (st:=st) (eF:=eF) (bO:=bO) (now:=now) hN
  have hv:=sitS_v w st eF bO now
  have hco:=FJ hw (n:=ob) (eF:=eF) (bO:=bO)
  have ha:∀h,Ev S5 ji 34 [.agg w.l,eO 7,eO st,eO ob,eO eF,eO bO] h (.Pp [eO (CO 7 st ob eF bO w.f),eR (fE (CO 7 st ob eF bO w.f>0)),ab (sU (actT 7 st ob eF))]) h:=λh=>FF hw.sf h
  have hneed:=λh=>te (x:=(ac w ob eF bO).1.NJ.fl) (s:=(jr w st eF bO now).s) (λh=>xu hco.1 Φ h) h
  have hbar:=λh=>te (x:=(ac w ob eF bO).1.bar.fl) (s:=(jr w st eF bO now).s) (λh=>xu hco.2 Φ h) h
  have l1:(hrT 6 st eF).length=8:=by simp[hrT]
  have l2:=fk 1 ob 0 eF
  unfold CT zu SitX.d at *
  generalize hS:jr w st eF bO now=S at *
  try unfold zg7 at hc
  generalize hC:ac w ob eF bO=C at *
  generalize hrT 6 st eF=q1 at *
  generalize rdT 1 ob 0 eF=q2 at *
  have l4:(actT 7 st ob eF).length=1:=rfl
  generalize actT 7 st ob eF=q4 at *
  obtain⟨s,q3,e⟩:=S
  obtain⟨c,ok⟩:=C
  simp only at *
  cases he:e != 0 with
  | true =>
   have hne:e≠0:=by simpa using he
   exact U7 (Bh hk (am1 (by omega) he hh hc hs) (OT (by omega)))
  | false =>
   have e0:e=0:=by simpa using he
   subst e0
   cases hz:fE (((hlR 6 st eF bO w.f 8).length:Int)>0)||!ok with
   | true=>exact U7 (Bh hk (am2 (by omega) hh hc hs ha hz) FH)
   | false =>
    cases hy:((qw c.NJ s).1&&!(qw c.bar s).1)||fE (CO 7 st ob eF bO w.f>0) with
    | false=>exact U7 (Bh hk (am3 (by omega) hh hc hs ha hneed hbar hz hy) FH)
    | true=>exact Bh hk (am4 (by omega) hh hc hs ha hneed hbar (λh=>Jn h) hz hy) OU
theorem L0{w:eQ}(hw:w.ok){st ob eF bO:Int}{now:bV}(hn:now.length<=1000)(hN:(af w.f bO).length<=100)(h:aT):Ev S5 lL 14 (zb5 w st ob eF bO (ab (aA now))) h (zaI (rL w st ob eF bO now)) h :=Ev.zjo rfl (adm_a hw hn hN) h
set_option maxHeartbeats 4000000
noncomputable abbrev CU(w:eQ)(q:QuT):aT:=(zhG w q ZR)
theorem O1{w:eQ}{q:QuT}{bO:Int}{nw:bV}{r:zar×Int}(hs:∀h,Ev S5 lL 14 (zb5 w q.st q.obj q.eF bO (ab (aA nw))) h (zaI r) h)(h:aT):(Ev S5 lL 64 (qA w q bO nw) h (zaI r) h):=y0 [.v (@hs (CU w q))] h
noncomputable abbrev Jt(w:eQ)(st:Int)(obj:Int)(eF:Int):aT:=[eP (ZA w),eP (zaL 1 st obj eF),eP ZR,NI zal 5]
noncomputable abbrev Bj(w:eQ)(st:Int)(obj:Int)(eF:Int):aT:=[eP (ZA w),eP (zaL 1 st obj eF),eP ZR]
theorem ans_1{w:eQ}{st obj eF bO:Int}{nw:bV}{r:zar×Int}(hk:∀h,Ev S5 lL 13 [mS (zaL 1 st obj eF)] h (eO 0) h)(hs:∀h,Ev S5 lL 64 [mS w.l,mS (zaL 1 st obj eF),eO bO,ab (aA nw)] h (zaI r) h)(h:aT):(Ev S5 lL 10 [mS w.l,mS (zaL 1 st obj eF),eO bO,ab (aA nw)] h (zaI r) h):=y0 [.v (@hk (Bj w st obj eF)),.e,.c (Tp (Γ':=lL) (@bB (Bj w st obj eF))),.v (@hs (Jt w st obj eF)),pe zbB,pe zbB,po (TO 1),po (TO 1),po (G (TF zcJ)),pe (TF (eQ.l w)),pe (TF (eQ.l w)),pe (TF (zaL 1 st obj eF)),pe (TF (zaL 1 st obj eF))] h
noncomputable def qz(w:eQ)(ps:Is)(q:QuT)(bO:Int)(nw:bV):zar×Int:=match q.kind==1 with
 |false=>HX w ps q bO
 |true=>match cP q != 0 with
  |true=>(zar.zero,cP q)
  |false=>rL w q.st q.obj q.eF bO nw
theorem qB{w:eQ}(hw:w.ok)(hf:w.f.length<=41){ps:Is}(hp:w.okP ps){q:QuT}{bO:Int}{nw:bV}(hn:nw.length<=1000)(h:aT):Ev S5 lL 10 (qA w q bO nw) h (zes ((qz w ps q bO nw).1.l) ((qz w ps q bO nw).2)) h:=by
 unfold qz;cases hq:q.kind==1 with
 |false=>exact ans_ev hw hf hp.p hp.k hp.m (by simpa using hq) h
 |true=>
  have hk:∀h,Ev S5 lL 13 [ag q.row] h (eO (cP q)) h:=λh=>Tp (qo q h);cases hz:(cP q != 0) with
  |true=>exact E9 hz hk h
  |false=>
   have hz':cP q=0:=by simpa using hz
   rw[hz'] at hk;have hN:(af w.f bO).length<=100:=by have:=bF (fs:=w.f) (bO:=bO);omega
   have ha:=λh=>O1 (q:=q) (λh=>L0 hw (st:=q.st) (ob:=q.obj) (eF:=q.eF) (bO:=bO) hn hN h) h;have e1:q.kind=1:=by simpa using hq
   obtain⟨k,st,obj,eF⟩:=q;simp only at e1;subst e1;exact ans_1 hk ha h
attribute [local irreducible] jB
end Go.Vi
open Go Go.Proofs
namespace Go.Vi
set_option maxHeartbeats 4000000
set_option maxRecDepth 100000
theorem O2{w:eQ}(hw:w.ok){st ob eF bO:Int}{now:bV}(hn:now.length<=1000)(hN:(af w.f bO).length<=100):(rL w st ob eF bO now).1.ok:=by
 have hsn:ah now:=by unfold ah;omega
 have l1:(hrT 6 st eF).length=8:=by simp[hrT]
 have l2:=fk 1 ob 0 eF;have l3:=Bi hw (st:=st) (eF:=eF) (bO:=bO) (now:=now) hN;have hq:ah (CT w st ob eF bO now):=by unfold CT ah;simp only[List.length_append];have l4:(actT 7 st ob eF).length=1:=rfl;omega
 have hz:∀b n,ah (Bg b n):=λb n=>by grind [Bg,ah]
 unfold rL;split;·exact YP
 ·split;·exact YP
  ·split;·exact⟨hsn,hq,by simp[ah]⟩
   ·split;·exact⟨hsn,hq,by simp[ah]⟩
    ·exact⟨hsn,hq,hz _ _⟩
theorem zw{w:eQ}(hw:w.ok)(hf:w.f.length<=41){ps:Is}(hp:w.okP ps)(q:QuT)(bO:Int){nw:bV}(hn:nw.length<=1000):(qz w ps q bO nw).1.ok:=by
 have hN:(af w.f bO).length<=100:=by have:=bF (fs:=w.f) (bO:=bO);omega
 unfold qz;split;·exact NT hw hf hp q bO
 ·split;·exact YP
  ·exact O2 hw hn hN
theorem Ev.argW{P:Program}{Γ:au}{f:FuncId}{args:bY}{h h':aT}{d:D}(he:Ev P Γ f (D.znz args) h d h'):Ev P Γ f args h d h':=λO w l vs R ra=>he O w l vs R (kT _ _ ra)
theorem O3(t:Nat):IX vZ t = -1:=by
 have:vZ.2.getD t N=N:=by unfold vZ;simp only[List.getD,List.getElem?_replicate];split<;>rfl
 unfold IX;rw[this];rfl
theorem zx{kk ks ko lk to bO:Int}:aH kk ks ko lk to bO []=[]:=by
 have h1:∀n:Nat,n<1024->(bJ kk ks ko bO []).getD n 0 = -1:=λn hn=>by rw[sP];simp only[uA,List.foldl_nil,List.getD];rw[Vo,List.getElem?_range hn];simp[O3]
 have h2:∀(l:iS),(∀n∈l,n<1024)->l.foldl (λl n=>ptF ((bJ kk ks ko bO []).getD n 0) n l) []=[]:=by
  intro l;induction l with
  |nil=>intro _;rfl
  |cons a l ih=>
   intro h;rw[TG,h1 a (h a (UT ..))];have:ptF (-1) a []=[]:=by simp[ptF]
   grind
 refine h2 _ λn hn=>?_;have h3:=List.mem_range'_1.1 hn;have h4:vF to<=1024:=by unfold vF;split<;>omega
 have h5:0<=Mg lk:=by unfold Mg;simp;split<;>omega
 omega
def wp:FnF:=λf args h=>match Nat.beq f 60 with
 |true=>match args with
  | [.p (.v (.slice none 0 0)),.agg [.p (.v (.int .i64 _)),.p (.v (.int .i64 _)),.p (.v (.int .i64 _))],.p (.v (.int .i64 _)),.p (.v (.int .i64 _)),.p (.v (.int .i64 _))]=>G (.ret (ab []) h)
  |_=>Y
 |false=>Y
theorem wp_ok{Γ:au}:HV S5 Γ wp:=by
 intro f args h r hw;unfold wp at hw;split at hw
 ·rename_i hf;have hf:=Nat.eq_of_beq_eq_true hf;subst hf;refine⟨Z,?_⟩;split at hw;·rename_i kk ks ko lk to bO;cases hw;refine zjp.zqs (Ev.argW ?_);have:=iM (l:=[]) (kk:=kk) (ks:=ks) (ko:=ko) (lk:=lk) (to:=to) (bO:=bO) (by simp[ah]) h;rw[zx] at this;exact Tp this
  ·simp at hw
 ·simp at hw
set_option maxRecDepth 1000000
def s34mR:zil:=⟨8,[],[],.ret (lit (.bool J)) []⟩
theorem Jx:s34mR.Ok S5 ji:=zil.okW_of τ wp_ok (ms:=[]) Z trivial
theorem qC(h:aT):Ev S5 ji 8 [] h (eR J) h:=Ev.zjo rfl (zil.call Jx rfl) h
open Go.ChangeShapes Go.WideShapes Go.ChangeAt Go.RowKit Go.Proofs.YtgalafpinkflfaaGreatDoor
set_option maxRecDepth 100000
theorem ib:S5.cellsOf 3=1:=Z
theorem tg:S5.cellsOf 9=1:=Z
theorem zy:S5.cellsOf 87=2:=Z
theorem Jy:S5.cellsOf 132=1:=Z
theorem Jz:S5.cellsOf 133=1:=Z
theorem JA:S5.cellsOf 134=1:=Z
theorem JB:S5.cellsOf 136=4:=Z
theorem JC:S5.cellsOf 217=2:=Z
theorem JD:S5.cellsOf 289=4:=Z
theorem JE:S5.bytesOf 289=40:=Z
theorem JF:S5.bytesOf 217=24:=Z
theorem JG:S5.bytesOf 305=32:=Z
theorem cells4:S5.cellsOf 4=1:=Z
theorem O4:S5.cellsOf 99=1:=Z
theorem JH:S5.cellsOf 101=7:=Z
theorem O5:S5.cellsOf 32=1:=Z
theorem JI:S5.cellsOf 113=1:=Z
theorem JJ:S5.cellsOf 115=6:=Z
theorem bytes3:S5.bytesOf 3=8:=Z
theorem JK:S5.bytesOf 115=88:=Z
theorem O6:S5.cellsOf 22=1:=Z
theorem O7:S5.cellsOf 23=1:=Z
theorem O8:S5.cellsOf 24=1:=Z
theorem FM:S5.cellsOf 26=3:=Z
theorem O9:S5.cellsOf 27=1:=Z
theorem Pa:S5.cellsOf 29=4:=Z
theorem FN:S5.cellsOf 55=3:=Z
theorem FO:S5.cellsOf 57=2:=Z
theorem Pb:S5.cellsOf 59=8:=Z
theorem FP:S5.cellsOf 305=4:=Z
theorem Pc:S5.cellsOf 78=1:=Z
theorem FQ:S5.cellsOf 80=6:=Z
theorem Pg:S5.cellsOf 82=16:=Z
theorem JL:S5.bytesOf 136=96:=Z
theorem Ph:S5.bytesOf 80=72:=Z
theorem Pi:S5.bytesOf 82=184:=Z
theorem JM:S5.bytesOf 101=80:=Z
theorem aX{n:Nat}{ds:dO}(h:Shp S5 n 3 ds):∃x,ds=[vi x]/\Pu x:=by
 cases n with
 |zero=>exact h.elim
 |succ n=>simp only[Shp,Tryz.underlying3] at h;obtain⟨x,rfl,hw⟩:=h;refine⟨x,rfl,?_⟩;have:=bounds_i64 hw;exact this
theorem mT{n:Nat}{ds:dO}(h:Shp S5 n 9 ds):∃s,ds=[vs s]:=by
 cases n with
 |zero=>exact h.elim
 |succ n=>simp only[Shp,Tryz.underlying9] at h;obtain⟨s,rfl,_⟩:=h;exact⟨s,rfl⟩
theorem xA{n:Nat}{ds:dO}(h:Shp S5 n 87 ds):∃a b,ds=[vi a,vi b]/\Pu a/\Pu b:=by
 cases n with
 |zero=>exact h.elim
 |succ n=>
  simp only[Shp,Tryz.underlying87,T7,ib,zy] at h;obtain⟨hl,h1,h2,_⟩:=h;obtain⟨a,e1,ha⟩:=aX h1;obtain⟨b,e2,hb⟩:=aX h2;match ds,hl with
  | [x,y],_=>simp at e1 e2;subst e1;subst e2;exact⟨a,b,rfl,ha,hb⟩
theorem FR{n:Nat}{ds:dO}(h:Shp S5 n 289 ds):∃c:Cls,ds=c.row/\c.ok:=by
 cases n with
 |zero=>exact h.elim
 |succ n=>
  simp only[Shp,Tryz.underlying289,T7,ib,tg,zy,JD] at h;obtain⟨hl,h1,h2,h3,_⟩:=h;obtain⟨s,e1⟩:=mT h1;obtain⟨x,e2,hx⟩:=aX h2;obtain⟨a,b,e3,ha,hb⟩:=xA h3;match ds,hl with
  | [p,q,r,t],_=>simp at e1 e2 e3;obtain⟨rfl,rfl⟩:=e3;subst e1;subst e2;exact⟨⟨s,x,a,b⟩,rfl,hx,ha,hb⟩
theorem Pj{n:Nat}{ds:dO}(h:Shp S5 n 217 ds):∃c:ν,ds=c.row/\Pu c.ia:=by
 cases n with
 |zero=>exact h.elim
 |succ n=>
  simp only[Shp,Tryz.underlying217,T7,ib,tg,JC] at h;obtain⟨hl,h1,h2,_⟩:=h;obtain⟨s,e1⟩:=mT h1;obtain⟨x,e2,hx⟩:=aX h2;match ds,hl with
  | [p,q],_=>simp at e1 e2;subst e1;subst e2;exact⟨⟨s,x⟩,rfl,hx⟩
theorem iH{α:Type}{row:α->dO}{ok:α->Prop}:∀{es:bv},(∀r∈es,∃a,r=row a/\ok a)->∃l:List α,es=l.map row/\∀a∈l,ok a
 | [],_=>⟨[],rfl,qk⟩
 |r::es,h=>by obtain⟨a,rfl,ha⟩:=h r (UT ..);obtain⟨l,rfl,hl⟩:=iH (λr hr=>h r (UY _ hr));exact⟨a::l,rfl,λb hb=>(T3.1 hb).elim (λe=>e▸ha) (hl b)⟩
theorem eJ{n k:Nat}(h:n*k<=reachBytes)(hk:1<=k):n<=140737488355328:=by have:n<=n*k:=Nat.le_mul_of_pos_right n hk;unfold reachBytes at h;omega
theorem qD{n:Nat}{ds:dO}(h:Shp S5 n 132 ds):∃l:List Cls,ds=[.sl (ze9 l)]/\(∀c∈l,c.ok)/\ah l:=by
 cases n with
 |zero=>exact h.elim
 |succ n=>simp only[Shp,Tryz.underlying132,JE] at h;obtain⟨es,rfl,hb,he⟩:=h;obtain⟨l,rfl,hl⟩:=iH (row:=Cls.row) (ok:=Cls.ok) (λr hr=>FR (he r hr));exact⟨l,rfl,hl,by have:=eJ hb lj;simpa[ah] using this⟩
theorem JN{n:Nat}{ds:dO}(h:Shp S5 n 133 ds):∃l:List ν,ds=[.sl (zfe l)]/\(∀c∈l,Pu c.ia)/\ah l:=by
 cases n with
 |zero=>exact h.elim
 |succ n=>simp only[Shp,Tryz.underlying133,JF] at h;obtain⟨es,rfl,hb,he⟩:=h;obtain⟨l,rfl,hl⟩:=iH (row:=ν.row) (ok:=λc=>Pu c.ia) (λr hr=>Pj (he r hr));exact⟨l,rfl,hl,by have:=eJ hb lj;simpa[ah] using this⟩
theorem JO{n:Nat}{ds:dO}(h:Shp S5 n 4 ds):∃b,ds=[.v (.bool b)]:=by
 cases n with
 |zero=>exact h.elim
 |succ n=>simp only[Shp,Tryz.underlying4] at h;obtain⟨b,rfl⟩:=h;exact⟨b,rfl⟩
theorem JP{n:Nat}{ds:dO}(h:Shp S5 n 113 ds):∃l,ds=[.sl l]:=by
 cases n with
 |zero=>exact h.elim
 |succ n=>simp only[Shp,Tryz.underlying113] at h;obtain⟨es,rfl,_⟩:=h;exact⟨es,rfl⟩
theorem Bk{n:Nat}{ds:dO}(h:Shp S5 n 32 ds):∃l:bV,ds=[.sl (aA l)]/\ah l:=by
 cases n with
 |zero=>exact h.elim
 |succ n=>simp only[Shp,W8,bytes3] at h;obtain⟨es,rfl,hb,he⟩:=h;obtain⟨l,rfl,_⟩:=iH (row:=λn:Int=>[vi n]) (ok:=λ_=>True) (λr hr=>by obtain⟨x,e,_⟩:=aX (he r hr);exact⟨x,e,trivial⟩);exact⟨l,rfl,by have:=eJ hb lj;simpa[ah] using this⟩
theorem Pk{n:Nat}{ds:dO}(h:Shp S5 n 115 ds):∃q:E7,ds=q.row/\q.ok:=by
 cases n with
 |zero=>exact h.elim
 |succ n=>
  simp only[Shp,Tryz.underlying115,T7,ib,cells4,tg,O5,JI,JJ] at h;obtain⟨hl,h1,h2,h3,h4,h5,h6,_⟩:=h;obtain⟨s,e1⟩:=mT h1;obtain⟨a,e2,_⟩:=aX h2;obtain⟨b,e3,_⟩:=aX h3;obtain⟨c,e4⟩:=JO h4;obtain⟨d,e5⟩:=JP h5;obtain⟨f,e6,hf⟩:=Bk h6;match ds,hl with
  | [p1,p2,p3,p4,p5,p6],_=>simp at e1 e2 e3 e4 e5 e6;subst e1;subst e2;subst e3;subst e4;subst e5;subst e6;exact⟨⟨s,a,b,c,d,f⟩,rfl,⟨hf⟩⟩
theorem Pl{n:Nat}{ds:dO}(h:Shp S5 n 55 ds):∃a b c,ds=[vi a,vi b,vi c]/\Pu a/\Pu b/\Pu c:=by
 cases n with
 |zero=>exact h.elim
 |succ n=>
  simp only[Shp,Tryz.underlying55,T7,ib,FN] at h;obtain⟨hl,h1,h2,h3,_⟩:=h;obtain⟨a,e1,ha⟩:=aX h1;obtain⟨b,e2,hb⟩:=aX h2;obtain⟨c,e3,hc⟩:=aX h3;match ds,hl with
  | [p,q,r],_=>simp at e1 e2 e3;subst e1;subst e2;subst e3;exact⟨a,b,c,rfl,ha,hb,hc⟩
theorem JQ{n:Nat}{ds:dO}(h:Shp S5 n 57 ds):∃a b,ds=[vi a,vi b]/\Pu a/\Pu b:=by
 cases n with
 |zero=>exact h.elim
 |succ n=>
  simp only[Shp,Tryz.underlying57,T7,ib,FO] at h;obtain⟨hl,h1,h2,_⟩:=h;obtain⟨a,e1,ha⟩:=aX h1;obtain⟨b,e2,hb⟩:=aX h2;match ds,hl with
  | [p,q],_=>simp at e1 e2;subst e1;subst e2;exact⟨a,b,rfl,ha,hb⟩
theorem Bl{n:Nat}{ds:dO}(h:Shp S5 n 59 ds):∃f:qH,ds=f.row/\f.ok:=by
 cases n with
 |zero=>exact h.elim
 |succ n=>
  simp only[Shp,Tryz.underlying59,T7,ib,FN,FO,Pb] at h;obtain⟨hl,h1,h2,h3,h4,h5,_⟩:=h;obtain⟨a,b,c,e1,ha,hb,hc⟩:=Pl h1;obtain⟨d,e2,hd⟩:=aX h2;obtain⟨x,y,e3,hx,hy⟩:=JQ h3;obtain⟨k,e4,hk⟩:=aX h4;obtain⟨m,e5,hm⟩:=aX h5;match ds,hl with
  | [p1,p2,p3,p4,p5,p6,p7,p8],_=>simp at e1 e2 e3 e4 e5;obtain⟨rfl,rfl,rfl⟩:=e1;obtain⟨rfl,rfl⟩:=e3;subst e2;subst e4;subst e5;exact⟨⟨a,b,c,d,x,y,k,m⟩,rfl,ha,hb,hc,hd,hx,hy,hk,hm⟩
theorem FS{n:Nat}{ds:dO}(h:Shp S5 n 27 ds):∃l:AT,ds=[.sl (l.map Ta)]/\(∀c∈l,c.ok):=by
 cases n with
 |zero=>exact h.elim
 |succ n=>simp only[Shp,Tryz.underlying27] at h;obtain⟨es,rfl,_,he⟩:=h;obtain⟨l,rfl,hl⟩:=iH (row:=Ta) (ok:=qH.ok) (λr hr=>Bl (he r hr));exact⟨l,rfl,hl⟩
theorem th:∀{ks:List oz},(∀k∈ks,k.ok)->gP ks
 | [],_=>trivial
 |k::ks,h=>⟨h k (UT ..),th λx hx=>h x (UY _ hx)⟩
theorem uP:∀{n:Nat} {ds:dO},Shp S5 n 80 ds->∃r:oz,ds=r.row/\r.ok
 |0,_,h=>h.elim
 |1,_,h=>by simp only[Shp,Tryz.underlying80,T7] at h;exact h.2.1.elim
 |n+2,ds,h=>by
  rw[Shp,Tryz.underlying80] at h;simp only[T7,ib,tg,Pc,FQ] at h;obtain⟨hl,h1,h2,h3,h4,h5,h6,_⟩:=h;obtain⟨a,e1,ha⟩:=aX h1;obtain⟨b,e2,hb⟩:=aX h2;obtain⟨s,e3⟩:=mT h3;obtain⟨c,e4,hc⟩:=aX h4;obtain⟨d,e5,hd⟩:=aX h5;rw[Shp,Tryz.underlying78] at h6;simp only[Ph] at h6;obtain⟨es,e6,hb6,he⟩:=h6;obtain⟨l,rfl,hk⟩:=iH (row:=oz.row) (ok:=oz.ok) (λr hr=>uP (he r hr));have hs:ah l:=by have:=eJ hb6 lj;simpa[ah] using this
  match ds,hl with
  | [p1,p2,p3,p4,p5,p6],_=>
   simp at e1 e2 e3 e4 e5 e6;subst e1;subst e2;subst e3;subst e4;subst e5;subst e6;refine⟨.mk a b s c d l,?_,?_⟩;·rw[oz.row,dm]
   ·rw[oz.ok];exact⟨⟨ha,hb,hc,hd,hs⟩,th hk⟩
theorem CY{n:Nat}{ds:dO}(h:Shp S5 n 82 ds):∃c:uT,ds=c.row/\c.ok:=by
 cases n with
 |zero=>exact h.elim
 |succ n=>
  rw[Shp,Tryz.underlying82] at h;simp only[T7,ib,tg,FQ,Pg] at h;obtain⟨hl,h1,h2,h3,h4,h5,h6,_⟩:=h;obtain⟨s,e1⟩:=mT h1;obtain⟨a,e2,_⟩:=aX h2;obtain⟨b,e3,_⟩:=aX h3;obtain⟨c,e4,_⟩:=aX h4;obtain⟨r,e5,hr⟩:=uP h5;obtain⟨t,e6,ht⟩:=uP h6;rw[<-oz.zpZ] at e5 e6;match ds,hl with
  | [p1,p2,p3,p4,p5,p6,p7,p8,p9,p10,p11,p12,p13,p14,p15,p16],_=>simp[RuF.row] at e1 e2 e3 e4 e5 e6;obtain⟨rfl,rfl,rfl,rfl,rfl,rfl⟩:=e5;obtain⟨rfl,rfl,rfl,rfl,rfl,rfl⟩:=e6;subst e1;subst e2;subst e3;subst e4;exact⟨⟨s,a,b,c,r,t⟩,rfl,hr,ht⟩
theorem zz{n:Nat}{ds:dO}(h:Shp S5 n 22 ds):∃l:IF,ds=[.sl (l.map Tc)]/\(∀c∈l,c.ok)/\ah l:=by
 cases n with
 |zero=>exact h.elim
 |succ n=>simp only[Shp,Tryz.underlying22,Pi] at h;obtain⟨es,rfl,hb,he⟩:=h;obtain⟨l,rfl,hl⟩:=iH (row:=Tc) (ok:=uT.ok) (λr hr=>CY (he r hr));exact⟨l,rfl,hl,by have:=eJ hb lj;simpa[ah] using this⟩
theorem zA{n:Nat}{ds:dO}(h:Shp S5 n 305 ds):∃c:A7,ds=c.row/\True:=by
 cases n with
 |zero=>exact h.elim
 |succ n=>
  simp only[Shp,Tryz.underlying305,T7,ib,FP] at h;obtain⟨hl,h1,h2,h3,h4,_⟩:=h;obtain⟨a,e1,_⟩:=aX h1;obtain⟨b,e2,_⟩:=aX h2;obtain⟨c,e3,_⟩:=aX h3;obtain⟨d,e4,_⟩:=aX h4;match ds,hl with
  | [p,q,r,t],_=>simp at e1 e2 e3 e4;subst e1;subst e2;subst e3;subst e4;exact⟨⟨a,b,c,d⟩,rfl,trivial⟩
theorem JR{n:Nat}{ds:dO}(h:Shp S5 n 136 ds):∃s:Β,ds=s.row/\s.ok:=by
 cases n with
 |zero=>exact h.elim
 |succ n=>
  simp only[Shp,Tryz.underlying136,T7,Jy,Jz,JA,JB] at h;obtain⟨hl,h1,h2,h3,h4,_⟩:=h;obtain⟨a,e1,a1,a2⟩:=qD h1;obtain⟨b,e2,b1,b2⟩:=JN h2;obtain⟨c,e3,c1,c2⟩:=qD h3;have h5:∃l:List A7,(List.take 1 (List.drop 3 ds))=[.sl (l.map X8)]/\ah l:=by
   cases n with
   |zero=>exact h4.elim
   |succ n=>simp only[Shp,Tryz.underlying134,JG] at h4;obtain⟨es,e,hb,he⟩:=h4;obtain⟨l,rfl,_⟩:=iH (row:=X8) (ok:=λ_=>True) (λr hr=>zA (he r hr));exact⟨l,e,by have:=eJ hb lj;simpa[ah] using this⟩
  obtain⟨d,e4,d1⟩:=h5;match ds,hl with
  | [p,q,r,t],_=>simp at e1 e2 e3 e4;subst e1;subst e2;subst e3;subst e4;exact⟨⟨a,b,c,d⟩,rfl,⟨a1,c1,b1,a2,c2,b2,by simpa[ah,Β.sys] using d1⟩⟩
theorem zB{n:Nat}{ds:dO}(h:Shp S5 n 24 ds):∃l:Of,ds=[.sl (l.map Tj)]/\(∀c∈l,c.ok)/\ah l:=by
 cases n with
 |zero=>exact h.elim
 |succ n=>simp only[Shp,Tryz.underlying24,JL] at h;obtain⟨es,rfl,hb,he⟩:=h;obtain⟨l,rfl,hl⟩:=iH (row:=Tj) (ok:=Β.ok) (λr hr=>JR (he r hr));exact⟨l,rfl,hl,by have:=eJ hb lj;simpa[ah] using this⟩
theorem JS{n:Nat}{ds:dO}(h:Shp S5 n 101 ds):∃p:jW,ds=p.row/\p.ok:=by
 cases n with
 |zero=>exact h.elim
 |succ n=>
  rw[Shp,Tryz.underlying101] at h;simp only[T7,ib,tg,zy,O4,JH] at h;obtain⟨hl,h1,h2,h3,h4,h5,h6,_⟩:=h;obtain⟨s,e1⟩:=mT h1;obtain⟨a,e2,_⟩:=aX h2;obtain⟨b,e3,_⟩:=aX h3;obtain⟨c,e4,_⟩:=aX h4;obtain⟨x,y,e5,hx,hy⟩:=xA h5;cases n with
  |zero=>exact h6.elim
  |succ n=>
   simp only[Shp,Tryz.underlying99,JK] at h6;obtain⟨es,e6,hb,he⟩:=h6;obtain⟨l,rfl,hk⟩:=iH (row:=Ts) (ok:=E7.ok) (λr hr=>Pk (he r hr));match ds,hl with
   | [p1,p2,p3,p4,p5,p6,p7],_=>simp at e1 e2 e3 e4 e5 e6;obtain⟨rfl,rfl⟩:=e5;subst e1;subst e2;subst e3;subst e4;subst e6;exact⟨⟨s,a,b,c,x,y,l⟩,rfl,⟨by have:=eJ hb lj;simpa[ah] using this,hk,hx,hy⟩⟩
theorem FT{n:Nat}{ds:dO}(h:Shp S5 n 23 ds):∃l:Is,ds=[.sl (l.map Xc)]/\(∀c∈l,c.ok)/\ah l:=by
 cases n with
 |zero=>exact h.elim
 |succ n=>simp only[Shp,Tryz.underlying23,JM] at h;obtain⟨es,rfl,hb,he⟩:=h;obtain⟨l,rfl,hl⟩:=iH (row:=Xc) (ok:=jW.ok) (λr hr=>JS (he r hr));exact⟨l,rfl,hl,by have:=eJ hb lj;simpa[ah] using this⟩
structure eQ.okQ (w:eQ) (ps:Is):Prop where
 p:w.p=ps.map Xc
 k:∀x∈ps,x.ok
 l:ah ps
theorem FU{n:Nat}{ds:dO}(h:Shp S5 n 29 ds):∃w:eQ,ds.map .p=w.l/\w.ok0/\∃ps,w.okQ ps:=by
 cases n with
 |zero=>exact h.elim
 |succ n=>
  rw[Shp,Tryz.underlying29] at h;simp only[T7,FM,O9,Pa] at h;obtain⟨hl,h1,h2,_⟩:=h;obtain⟨f,e4,hf⟩:=FS h2;cases n with
  |zero=>exact h1.elim
  |succ n=>
   rw[Shp,Tryz.underlying26] at h1;simp only[T7,O6,O7,O8,FM] at h1;obtain⟨_,g1,g2,g3,_⟩:=h1;obtain⟨c,e1,c1,c2⟩:=zz g1;obtain⟨p,e2,p1,p2⟩:=FT g2;obtain⟨s,e3,s1,s2⟩:=zB g3;match ds,hl with
   | [x,y,z,t],_=>simp at e1 e2 e3 e4;subst e1;subst e2;subst e3;subst e4;exact⟨⟨c,p.map Xc,s,f⟩,rfl,⟨c1,s1,c2,s2,hf⟩,p,rfl,p1,p2⟩
end Go.Vi
open Go Go.Proofs
namespace Go.Vi
set_option maxHeartbeats 4000000
open Go.ChangeShapes Go.WideShapes Go.ChangeAt Go.RowKit Go.Proofs.YtgalafpinkflfaaGreatDoor
set_option maxRecDepth 100000
def plainW:To:=[3,4,9,22,23,24,26,27,29,32,87,55,57,59,132,133,134,136,217,289,305,78,80,82,99,101,113,115]
theorem FV:A2 S5 plainW=J:=Z
mutual
def Dp.wt:Dp->Nat
 |.sl es=>wtR es
 |.v _=>0
def wtL:dO->Nat
 | []=>0
 |d::ds=>d.wt+wtL ds
def wtR:bv->Nat
 | []=>0
 |r::rs=>1+wtL r+wtR rs
end
theorem FX:∀(a b:dO),wtL (a++b)=wtL a+wtL b
 | [],b=>by simp[wtL]
 |d::a,b=>by simp only[List.cons_append,wtL,FX a b];omega
theorem FY:∀{rs:bv},∀r∈rs,1+wtL r<=wtR rs
 |a::rs,r,hr=>by
  simp only[wtR];rcases T3.1 hr with rfl|hr
  ·omega
  ·have:=FY r hr;omega
theorem L5{H:Type}:∀(rs:bv) (ds:List (DataW H)),rs.length=ds.length->(∀(i:Nat) r d,rs[i]?=G r->ds[i]?=G d->wtL r+1<=UB d)->wtR rs<=VV ds
 | [],_,_,_=>by simp[wtR]
 |r::rs,[],h,_=>by simp at h
 |r::rs,d::ds,h,hb=>by have h1:=hb 0 r d rfl rfl;have h2:=L5 rs ds (by simpa using h) λi r d hr hd=>hb (i+1) r d (by simpa using hr) (by simpa using hd);simp only[wtR,VV];omega
section
variable {w:World} {av:Nat->Prop} {P:Program}
theorem nE{cs:oR}{S:TypeId->dO->Prop}{H:Type}{total:Nat}(hc:cs.length=total):∀(fs:List Field) (xs:List (DataW H)) (acc:Nat),dU P fs acc total=J -> (∀(i:Nat) f,fs[i]?=G f->∃ds x,xs[i]?=G x/\S f.type ds/\zaq w av ds ((cs.drop f.offset).take (P.cellsOf f.type))/\wtL ds+1<=UB x) -> ∃D,zaq w av D (cs.drop acc)/\(∀f∈fs,S f.type ((D.drop (f.offset-acc)).take (P.cellsOf f.type)))/\wtL D<=VV xs
 | [],xs,acc,h,_=>by simp only[dU,beq_iff_eq] at h;refine⟨[],?_,qk,by simp[wtL]⟩;rw[List.drop_of_length_le lj];trivial
 |f::fs,xs,acc,h,hf=>by
  simp only[dU,Tm,beq_iff_eq] at h;obtain⟨rfl,h⟩:=h;obtain⟨ds,x,hx,hs,hr,hb⟩:=hf 0 f rfl;obtain⟨y,ys,rfl⟩:∃y ys,xs=y::ys:=by cases xs with
   |nil=>simp at hx
   |cons y ys=>exact⟨y,ys,rfl⟩
  obtain rfl:y=x:=by simpa using hx
  obtain⟨D,hD,hS,hB⟩:=nE hc fs ys _ h λi g hg=>hf (i+1) g (by simpa using hg);obtain⟨hle,hoff⟩:=wR h;have hlen:ds.length=P.cellsOf f.type:=by have:=hr.length;rw[this,List.length_take,List.length_drop];omega
  refine⟨ds++D,?_,λg hg=>?_,by rw[FX];simp only[VV];omega⟩;·have:=hr.append hD;rw[<-WY,Xk] at this;exact this
  ·rcases T3.1 hg with rfl|hg;·rw[Nat.sub_self,Xj,List.take_append_of_le_length lj,<-hlen,List.take_length];exact hs
   ·have h1:=hoff g hg;have hd:∀k,(ds++D).drop (ds.length+k)=D.drop k:=λk=>by rw[List.drop_append];simp
    rw[show g.offset-f.offset=ds.length+(g.offset-(f.offset+P.cellsOf f.type)) from lj,hd];exact hS g hg
theorem gO{H:Type}{enc:TypeId×Value->H}{spare:Nat->Bool}{ts:To}(hts:A2 P ts=true)(hav:∀k,¬av k):
  ∀(fuel:Nat) (t:TypeId) (cs:oR) (d:DataW H) (ps:List MemPlace),t∈ts->WH enc P w 0 spare true fuel t cs=some (d,ps)->(d.weights P t).all (· <= reachBytes)=true ->
   ∃ds,Shp P fuel t ds/\zaq w av ds cs/\wtL ds+1<=UB d:=by
 intro fuel
 induction fuel with
 | zero=>intro t cs d ps _ h;simp[WH] at h
 | succ n ih =>
  intro t cs d ps ht h hw
  have hp:=IB hts ht
  split at hp
  ·rename_i hu
   obtain⟨b,rfl,hx⟩:=DataW.trod_bool hu h
   simp only[Tk] at hx
   obtain⟨rfl,_⟩:=hx
   exact⟨[.v (.bool b)],by simp only[Shp,hu];exact⟨b,rfl⟩,by simp[zaq,FL],by simp[wtL,Dp.wt,UB]⟩
  ·rename_i k hu
   obtain⟨x,rfl,hx,hwf⟩:=DataW.trod_int hu h
   simp only[Tk] at hx
   obtain⟨rfl,_⟩:=hx
   exact⟨[.v (.int k x)],by simp only[Shp,hu];exact⟨x,rfl,hwf⟩,by simp[zaq,FL],by simp[wtL,Dp.wt,UB]⟩
  ·rename_i hu
   obtain⟨s,rfl,hx,_⟩:=DataW.trod_string hu h
   simp only[Tk] at hx
   obtain⟨rfl,_⟩:=hx
   have hs:s.size<=reachBytes:=by
    simp only[Yy,VI,List.all_nil,Bool.and_true,decide_eq_true_eq,Array.length_toList] at hw
    exact hw
   exact⟨[.v (.string s)],by simp only[Shp,hu];exact⟨s,rfl,hs⟩,by simp[zaq,FL],by simp[wtL,Dp.wt,UB]⟩
  ·rename_i e hu
   simp only[Tm,decide_eq_true_eq,Y0] at hp
   obtain⟨he,zlH⟩:=hp
   rcases DataW.trod_slice hu h with ⟨rfl,hx⟩|⟨a,len,cap,elems,rest,m,hm,rfl,hx,_,hle,_,hlen,hel,_⟩
   ·simp only[Tk] at hx
    obtain⟨rfl,_⟩:=hx
    refine⟨[.sl []],by simp only[Shp,hu];exact⟨[],rfl,by simp,by simp⟩,?_,by simp[wtL,wtR,Dp.wt,UB]⟩
    simp only[zaq,FL,and_true]
    exact .inl ⟨trivial,none,0,rfl,λ_=>rfl⟩
   ·obtain rfl:n=m:=by omega
    simp only[Tk] at hx
    obtain⟨rfl,_⟩:=hx
    simp only[Yy,hu,VI,List.all_append,Tm,decide_eq_true_eq,Uw] at hw
    obtain⟨hw1,hw2,_⟩:=hw
    have key:∀i,i<len->∃ds ys,Shp P n e ds/\zaq w av ds ys/\w.cells? 0 (a.add (i*P.cellsOf e)) (P.cellsOf e)=some ys/\∀x,elems[i]? = some x->wtL ds+1<=UB x.1:=by
     intro i hi
     have h1:=hel i hi
     have h2:elems[i]? = some elems[i]:=TH (by omega)
     generalize elems[i]=x at h2
     rw[h2] at h1
     obtain⟨ys,h3,h4⟩:=Vu.1 h1
     obtain⟨dx,px⟩:=x
     obtain⟨ds,h5,h6,h7⟩:=ih e ys dx px he h4 (jA hw2 dx (T2.2 ⟨(dx,px),T6 h2,rfl⟩))
     exact⟨ds,ys,h5,h6,h3,λx hx=>by rw[h2] at hx;cases hx;exact h7⟩
    obtain⟨f,hf⟩:∃f:Nat->dO,∀i,i<len->∃ys,Shp P n e (f i)/\zaq w av (f i) ys/\w.cells? 0 (a.add (i*P.cellsOf e)) (P.cellsOf e)=some ys/\∀x,elems[i]? = some x->wtL (f i)+1<=UB x.1:=by
     classical
     refine⟨λi=>if hi:i<len then Classical.choose (key i hi) else [],λi hi=>?_⟩
     simp only[dif_pos hi]
     exact Classical.choose_spec (key i hi)
    refine⟨[.sl ((T1 len).map f)],?_,?_,?_⟩
    ·simp only[Shp,hu]
     refine⟨_,rfl,?_,?_⟩
     ·simp only[Uw,List.length_range]
      have:len*P.bytesOf e<=(elems.length+rest.length)*P.bytesOf e:=Nat.mul_le_mul_right _ (by omega)
      omega
     ·intro r hr
      obtain⟨i,hi,rfl⟩:=T2.1 hr
      obtain⟨ys,h1,_⟩:=hf i (by simpa using hi)
      exact h1
    ·simp only[zaq,FL,and_true]
     by_cases h0:len=0
     ·subst h0
      exact .inl ⟨by simp,some a,cap,rfl,by simp⟩
     ·have hsp:a.spot=none:=by
       obtain⟨ys,_,_,h3,_⟩:=hf 0 (by omega)
       obtain⟨h4,h5⟩:=A3 h3
       have h6:ys[0]? = some ys[0]:=TH (by omega)
       have h7:=h5 0 _ h6
       simp only[Nat.zero_mul,Addr.add,if_true] at h7
       unfold Xh at h7
       split at h7
       ·split at h7
        ·simp at h7
        ·rename_i hns
         cases hs:a.spot with
         | none=>rfl
         | some _=>simp[hs] at hns
       ·simp at h7
      obtain⟨fI,off,sp⟩:=a
      simp only at hsp
      subst hsp
      refine .inr ⟨fI,off,cap,P.cellsOf e,by simp,by simpa using hle,sG _ _ λi r hr=>?_⟩
      simp only[Vo,Tn] at hr
      obtain⟨j,hj,rfl⟩:=hr
      rw[Td] at hj
      obtain⟨hj1,hj2⟩:=hj
      simp only[Zz] at hj2
      subst hj2
      obtain⟨ys,h1,h2,h3,_⟩:=hf i (by simpa using hj1)
      obtain⟨h4,h5⟩:=A3 h3
      refine⟨by rw[h2.length,h4],qb hav _ _ _ h2 λk y hy=>?_⟩
      have:=h5 k y hy
      have e1:(((⟨fI,off,none⟩:Addr).add (i*P.cellsOf e)).add k)=⟨fI,off+i*P.cellsOf e+k,none⟩:=by
       rw[ke,ke]
      rwa[e1] at this
    ·have:=L5 ((T1 len).map f) (elems.map (·.1)) (by simp[hlen]) λi r d hr hd=>by
      simp only[Vo,Tn] at hr hd
      obtain⟨j,hj,rfl⟩:=hr
      obtain⟨x,hx,rfl⟩:=hd
      obtain⟨hj1,hj2⟩:=Td.1 hj
      simp only[Zz] at hj2
      subst hj2
      obtain⟨ys,_,_,_,h4⟩:=hf i (by simpa using hj1)
      exact h4 x hx
     simp only[wtL,Dp.wt,UB]
     omega
  ·rename_i fs hu
   simp only[Tm,List.all_eq_true,Y0] at hp
   obtain⟨hc,hfs⟩:=hp
   obtain⟨xs,m,hm,hx,hlen,hxs,hel⟩:=DataW.trod_struct hu h
   obtain rfl:n=m:=by omega
   simp only[Tk] at hx
   obtain⟨rfl,_⟩:=hx
   simp only[Yy,hu] at hw
   have key:∀(i:Nat) f,fs.toList[i]? = some f->∃ds x,(xs.map (·.1))[i]? = some x/\Shp P n f.type ds/\zaq w av ds ((cs.drop f.offset).take (P.cellsOf f.type))/\wtL ds+1<=UB x:=by
    intro i f hi
    have hf:f∈fs.toList:=T6 hi
    have hi':fs[i]? = some f:=by rw[<-Array.getElem?_toList];exact hi
    have hil:i<xs.length:=by
     rw[hxs]
     have:=(Array.getElem?_eq_some_iff.1 hi').1
     exact this
    have h1:=hel i f hi'
    have h2:xs[i]? = some xs[i]:=TH hil
    generalize xs[i]=x at h2
    rw[h2] at h1
    obtain⟨dx,px⟩:=x
    obtain⟨ds,g1,g2,g3⟩:=ih f.type _ dx px (hfs f hf) h1 (aV hw i f.type dx (by simp[hi]) (by simp[h2]))
    exact⟨ds,dx,by simp[h2],g1,g2,g3⟩
   obtain⟨D,hD,hS,hB⟩:=nE hlen fs.toList (xs.map (·.1)) 0 hc key
   rw[Xj] at hD
   refine⟨D,?_,hD,by simp only[UB];omega⟩
   simp only[Shp,hu]
   refine⟨by rw[hD.length,hlen],λf hf=>?_⟩
   have:=hS f hf
   rwa[Nat.sub_zero] at this
  ·simp at hp
end
theorem FZ:∀qs:List E7,(qs.map λq=>q.lk.length).sum<=wtR (qs.map Ts)
 | []=>by simp
 | q::qs=>by
  have h:∀l:List Int,wtR (aA l)=l.length:=λl=>by
   induction l with
   | nil=>rfl
   | cons a l ih=>simp only[aA,zaQ,U5,wtR,wtL,Dp.wt,List.length_cons] at ih ⊢;omega
  have:=FZ qs
  have h2:=h q.lk
  simp only[U5,List.sum_cons,wtR,Ts,wtL,Dp.wt] at h2 ⊢
  omega
theorem JT{w:eQ}{ps:Is}{ds:dO}(h:ds.map .p=w.l)(hp:w.okQ ps){n:Nat}(hn:wtL ds+1<=n)(hb:n<=1048576):∀x∈ps,(x.reqs.map λq=>q.lk.length).sum<=1048576:=by
 intro x hx;have e:ds=[.sl (w.c.map Tc),.sl w.p,.sl (w.s.map Tj),.sl (w.f.map Ta)]:=by have:ds.map D.p=[Dp.sl (w.c.map Tc),.sl w.p,.sl (w.s.map Tj),.sl (w.f.map Ta)].map D.p:=h;exact(List.map_inj_right λa b e=>by cases e;rfl).1 this
 have h1:=FY x.row (T2.2 ⟨x,hx,rfl⟩);have h2:=FZ x.reqs;rw[hp.p] at e;subst e;simp only[wtL,Dp.wt] at hn;simp only[Xc,wtL,Dp.wt] at h1;omega
theorem mU{H:Type}{enc:TypeId×Value->H}{W:World}{base:Nat}{v:Value}{d:DataW H}{p:List MemPlace}(Φ:Wg S5 W .any base 29 v) (h:Zr enc S5 W 0 (λ_=>true) true 29 v d p) (hw:(d.weights S5 29).all (· <= reachBytes)=true) (hb:UB d<=1048576) :∃w:eQ,w.ok0/\Rel W (tf (λ_=>False) (λ_=>none) []) (λ_=>none) [] (.agg w.l) v/\∃ps,w.okP ps:=by unfold Wg at Φ;rw[Tryz.underlying29] at Φ;obtain⟨cs,rfl,_,_⟩:=Φ;obtain⟨fuel,hf⟩:=h;obtain⟨ds,h1,h2,h3⟩:=gO FV kX fuel 29 _ d p (by decide) hf hw;obtain⟨w,e,hw0,ps,hp⟩:=FU h1;refine⟨w,hw0,?_,ps,hp.p,hp.k,hp.l,JT e hp h3 hb⟩;rw[<-e];simp only[Rel];exact⟨cs,rfl,h2.Ξ⟩
theorem L6:A2 S5 [3,31,32]=J:=Z
theorem Pm:S5.cellsOf 31=4:=Z
theorem shp_q{n:Nat}{ds:dO}(h:Shp S5 n 31 ds):∃q:QuT,ds=q.row:=by
 cases n with
 |zero=>exact h.elim
 |succ n=>
  simp only[Shp,Tryz.underlying31,T7,ib,Pm] at h;obtain⟨hl,h1,h2,h3,h4,_⟩:=h;obtain⟨a,e1,_⟩:=aX h1;obtain⟨b,e2,_⟩:=aX h2;obtain⟨c,e3,_⟩:=aX h3;obtain⟨d,e4,_⟩:=aX h4;match ds,hl with
  | [p,q,r,t],_=>simp at e1 e2 e3 e4;subst e1;subst e2;subst e3;subst e4;exact⟨⟨a,b,c,d⟩,rfl⟩
theorem Pn{H:Type}{enc:TypeId×Value->H}{W:World}{base:Nat}{v:Value}{d:DataW H}{p:List MemPlace}(Φ:Wg S5 W .any base 31 v) (h:Zr enc S5 W 0 (λ_=>true) true 31 v d p) (hw:(d.weights S5 31).all (· <= reachBytes)=true) :∃q:QuT,Rel W (tf (λ_=>False) (λ_=>none) []) (λ_=>none) [] (ag q.row) v:=by unfold Wg at Φ;rw[Tryz.underlying31] at Φ;obtain⟨cs,rfl,_,_⟩:=Φ;obtain⟨fuel,hf⟩:=h;obtain⟨ds,h1,h2,_⟩:=gO L6 kX fuel 31 _ d p (by decide) hf hw;obtain⟨q,rfl⟩:=shp_q h1;refine⟨q,?_⟩;simp only[Rel];exact⟨cs,rfl,h2.Ξ⟩
theorem uQ{H:Type}{enc:TypeId×Value->H}{W:World}{base:Nat}{v:Value}{d:DataW H}{p:List MemPlace}(Φ:Wg S5 W .any base 32 v) (h:Zr enc S5 W 0 (λ_=>true) true 32 v d p) (hw:(d.weights S5 32).all (· <= reachBytes)=true) :∃l:bV,Rel W (tf (λ_=>False) (λ_=>none) []) (λ_=>none) [] (ab (aA l)) v:=by
 obtain⟨fuel,hf⟩:=h;unfold Wg at Φ;rw[W8] at Φ;have hc:v.cells.toList=[v]:=by
  cases v<;>first|rfl|skip
  unfold Cell.okWide at Φ;rw[W8] at Φ;exact Φ.elim
 rw[hc] at hf;obtain⟨ds,h1,h2,_⟩:=gO L6 kX fuel 32 _ d p (by decide) hf hw;obtain⟨l,rfl,_⟩:=Bk h1;refine⟨l,?_⟩;simp only[zaq,and_true] at h2;simpa[ab,Rel] using h2
theorem mV{H:Type}{ds gs:List (DataW H)}{d:DataW H}(h:Rows.uptoSmall H (ds++gs)=J)(hd:d∈ds):UB d<=1048576:=by
 have key:∀l:List (DataW H),d∈l->UB d<=VV l:=by
  intro l;induction l with
  |nil=>intro h;simp at h
  |cons x l ih=>
   intro h;simp only[VV];rcases T3.1 h with rfl|h
   ·omega
   ·have:=ih h;omega
 have:=of_decide_eq_true h;have:=key _ (List.mem_append_left gs hd);omega
end Go.Vi
open Go Go.Proofs
namespace Go.Vi
set_option maxHeartbeats 4000000
open Go.ChangeShapes Go.WideShapes Go.ChangeAt Go.RowKit Go.Proofs.YtgalafpinkflfaaGreatDoor
set_option maxRecDepth 100000
theorem ownK:ownKnob S5.godebug=Y:=Z
theorem zC:laidOutB S5=J:=Z
def kd(a b c d:Bool)(f g:Value):oR:=[.bool a,.bool b,.bool c,.bool d,f,g]
def kf(k:Nat):Value:=.func (.func k) #[] #[]
def zkh:oR :=kd N N N N .nilFunc .nilFunc++kd N N N J (kf 354) (kf 355)++kd N N N J (kf 356) (kf 357)++kd N J N J (kf 358) (kf 359) ++kd N N N J (kf 360) (kf 361)++kd J J N N (kf 362) (kf 364)++kd J J N N (kf 366) (kf 367)++kd N J N N (kf 368) (kf 369) ++kd N J J N (kf 370) (kf 371)++kd J N N N (kf 363) (kf 372)
noncomputable def fj(os:Os):World :={World.holding S5 os ⟨#[],#[],[]⟩ with heap:=(World.holding S5 os ⟨#[],#[],[]⟩).heap.modify 0 fun
   |.cells _ t frozen=>.cells zkh.toArray t frozen
   |o=>o}
theorem zsV (os:Os) (args:By):laidMetH S5 [("sizar/rules.kinds",VO)] ((fj os).forCall (λ_ _=>0) ⟨#[],args,[]⟩).memory :=laidMetH_of_parts3 (fuel:=8) (laidMet_nil _ _) Z Z
def lookF(P:Program)(ks:iS)(bs:List UInt8):BV:=ks.find? λk=>match P.funcs[k]? with
 |some fn=>(fn.name.toUTF8.data.toList==bs)&&(P.funcNamed fn.name==G k)
 |none=>N
theorem JU{s t:String}(h:s.toUTF8.data.toList=t.toUTF8.data.toList):s=t:=by
 have h1:s.toUTF8=t.toUTF8:=by cases hs:s.toUTF8;cases ht:t.toUTF8;rw[hs,ht] at h;congr 1;exact Array.toList_inj.1 h
 exact String.toByteArray_inj.1 h1
theorem zD{P:Program}{ks:iS}{t:TypeId}{v:Value}{b:UInt8}{r:List UInt8}{k:Nat}(hv:funcToken P (t,v)=b::r)(hk:lookF P ks (b::r)=G k):v=.func (.func k) #[] #[]:=by
 obtain⟨f,fn,rfl,h1,h2,h3⟩:=funcToken_tells hv;have h4:=List.find?_some hk;split at h4;·rename_i fn' hfn;simp only[Tm,beq_iff_eq] at h4;have:fn.name=fn'.name:=JU (h3.trans h4.1.symm);rw[this,h4.2] at h2;cases h2;rfl
 ·simp at h4
def expect(P:Program)(ks:iS):Nat->TypeId->DataW (List UInt8)->Option (oR)
 |0,_,_=>Y
 |n+1,t,d=>match P.underlying t with
  |some .bool=>match d with
   |.lit (.bool b)=>G [.bool b]
   |_=>Y
  |some (.func ..)=>match d with
   |.nil=>G [.nilFunc]
   |.held (b::r)=>(lookF P ks (b::r)).map λk=>[.func (.func k) #[] #[]]
   |_=>Y
  |some (.struct fs)=>match d with
   |.agg ds=>if dU P fs.toList 0 (P.cellsOf t) then (znD (λf d=>expect P ks n f d) (fs.toList.map (·.type)) ds) else Y
   |_=>Y
  |some (.array m e)=>match d with
   |.agg ds=>if fE (P.cellsOf t=m*P.cellsOf e)=J then znD (λf d=>expect P ks n f d) (Ti m e) ds else Y
   |_=>Y
  |_=>Y
where
 znD (g:TypeId->DataW (List UInt8)->Option (oR)):To->List (DataW (List UInt8))->Option (oR)
  | [],[]=>G []
  |t::ts,d::ds=>(g t d).bind λa=>(znD g ts ds).map λb=>a++b
  |_,_=>Y
theorem xB{P:Program}{g:TypeId->DataW (List UInt8)->Option (oR)}{tr:TypeId->oR->Option (DataW (List UInt8)×List MemPlace)}{cs:oR}(hg:∀t d ys,g t d=G ys->∀c p,tr t c=G (d,p)->c=ys):∀(fs:List Field) (acc:Nat) (xs:List (DataW (List UInt8)×List MemPlace)) (ys:oR),(fs.mapM λf=>tr f.type ((cs.drop f.offset).take (P.cellsOf f.type)))=G xs->dU P fs acc cs.length=J->expect.znD g (fs.map (·.type)) (xs.map (·.1))=G ys->cs.drop acc=ys
 | [],acc,xs,ys,hm,hc,hz=>by simp at hm;subst hm;simp[expect.znD] at hz;subst hz;simp[dU] at hc;simp[hc]
 |f::fs,acc,xs,ys,hm,hc,hz=>by simp only[YT,Y1,Vu,Option.pure_def,Tf] at hm;obtain⟨x,hx,xs',hxs,rfl⟩:=hm;simp only[dU,Tm,beq_iff_eq] at hc;simp only[U5,expect.znD,Vu,Tn] at hz;obtain⟨a,ha,b,hb,rfl⟩:=hz;have h1:=hg _ _ _ ha _ x.2 (by rw[hx]);have h2:=xB hg fs _ xs' b hxs hc.2 hb;rw[<-h1,<-h2,hc.1,<-WY,Xk]
theorem Bm{e:TypeId}{c:Nat}{g:TypeId->DataW (List UInt8)->Option (oR)}{tr:TypeId->oR->Option (DataW (List UInt8)×List MemPlace)}{cs:oR}(hg:∀t d ys,g t d=G ys->∀c p,tr t c=G (d,p)->c=ys):∀(n k:Nat) (xs:List (DataW (List UInt8)×List MemPlace)) (ys:oR),((List.range' k n).mapM λi=>tr e ((cs.drop (i*c)).take c))=G xs->cs.length=(k+n)*c->expect.znD g (Ti n e) (xs.map (·.1))=G ys->cs.drop (k*c)=ys
 |0,k,xs,ys,hm,hc,hz=>by simp at hm;subst hm;simp[expect.znD] at hz;subst hz;exact List.drop_eq_nil_of_le (by rw[hc];simp)
 |n+1,k,xs,ys,hm,hc,hz=>by rw[List.range'_succ] at hm;simp only[YT,Y1,Vu,Option.pure_def,Tf] at hm;obtain⟨x,hx,xs',hxs,rfl⟩:=hm;rw[List.replicate_succ] at hz;simp only[U5,expect.znD,Vu,Tn] at hz;obtain⟨a,ha,b,hb,rfl⟩:=hz;have h1:=hg _ _ _ ha _ x.2 (by rw[hx]);have h2:=Bm hg n (k+1) xs' b hxs (by rw[hc];congr 1;omega) hb;rw[<-h1,<-h2,Nat.add_mul,Nat.one_mul,<-WY,Xk]
theorem qE{P:Program}{ks:iS}{w:World}{sp:Nat->Bool}:∀(n:Nat) (t:TypeId) (d:DataW (List UInt8)) (ys:oR),expect P ks n t d=G ys->∀(fuel:Nat) (cs:oR) (p:List MemPlace),WH (funcToken P) P w 0 sp J fuel t cs=G (d,p)->cs=ys
 |0,_,_,_,h=>by simp[expect] at h
 |n+1,t,d,ys,h=>by
  intro fuel cs p ht;cases fuel with
  |zero=>simp[WH] at ht
  |succ fuel=>
   unfold expect at h;unfold WH at ht;cases hu:P.underlying t with
   |none=>rw[hu] at h;simp at h
   |some td=>
    rw[hu] at h ht;cases td with
    |bool=>
     simp only at h ht;split at h;·split at ht<;>simp_all
     ·simp at h
    |func a b c=>
     simp only at h ht;split at h;·split at ht<;>simp_all
     ·rename_i b r;obtain⟨k,hk,rfl⟩:=Tn.1 h;split at ht;all_goals (try (simp_all;done))
      ·rename_i fn first captured _ _
       simp only[if_true,Tf,Tk,DataW.held.injEq] at ht;rw[zD ht.1 hk]
     ·simp at h
    |struct fs=>
     simp only at h ht;split at h
     ·split at h
      ·rename_i hc;split at ht;·rename_i hl;obtain⟨xs,hxs,he⟩:=Tn.1 ht;simp only[Tk,Zm] at he;obtain⟨rfl,_⟩:=he;have:=xB (tr:=λt c=>WH (funcToken P) P w 0 sp J fuel t c) (λt d ys hg c p hp=>qE n t d ys hg fuel c p hp) fs.toList 0 xs ys hxs (by rw[hl];exact hc) h;simpa using this
       ·simp at ht
      ·simp at h
     ·simp at h
    |array m e=>
     simp only at h ht;split at h
     ·split at ht
      ·rename_i hl;obtain⟨xs,hxs,he⟩:=Tn.1 ht;simp only[Tk,Zm] at he;obtain⟨rfl,_⟩:=he;split at h;·rename_i hc;rw[List.range_eq_range'] at hxs;have:=Bm (tr:=λt c=>WH (funcToken P) P w 0 sp J fuel t c) (λt d ys hg c p hp=>qE n t d ys hg fuel c p hp) m 0 xs ys hxs (by rw[hl,Nat.zero_add];exact of_decide_eq_true hc) h;simpa using this
       ·simp at h
      ·simp at ht
     ·simp at h
    |_=>simp at h
def Po:iS:=[354,355,356,357,358,359,360,361,362,364,366,367,368,369,370,371,363,372]
def zsW:DataW Unit:=match (VO:DataW Unit) with
 |.iface _ d=>d
 |d=>d
theorem qF:S5.globalNamed "sizar/rules.kinds" = some 0:=Z
noncomputable def L7:TypeId:=((S5.globals[0]?).map (·.type)).getD 0
theorem CZ:(S5.globals[0]?).map (·.type)=G L7:=Z
theorem xC:expect S5 Po 4 L7 zsW.funcsOut=G zkh:=Z
theorem zF {W:World} (h:laidMetH S5 [("sizar/rules.kinds",VO)] W):∃cs:By,W.var? S5 "sizar/rules.kinds" = some cs/\cs.toList=zkh:=by obtain⟨g,t,cs,fuel,p,h1,h2,h3,h4⟩:=laidMetH.funcs h (n:= "sizar/rules.kinds") (d:=zsW) (Va.2 rfl);rw[qF] at h1;cases h1;rw[CZ] at h2;cases h2;exact⟨cs,h3,qE 4 _ _ _ xC fuel _ _ h4⟩
theorem ti{w:World}{av:Nat->Prop}{fI:Nat}{cs:By}(hb:∀off,w.cell? ⟨fI,off,Y⟩=cs[off]?)(hav:∀k,¬av k):∀(ys:oR) (off:Nat),cs.toList.drop off=ys->xf w av fI off (ys.map .v)
 | [],_,_=>by simp[xf]
 |y::ys,off,h=>by
  have h1:cs[off]?=G y:=by have:=congrArg List.head? h;rw[List.head?_drop] at this;simpa using this
  have h2:cs.toList.drop (off+1)=ys:=by rw[<-WY,h];rfl
  simp only[U5,xf];exact⟨⟨hav fI,y,by rw[hb,h1],by simp[FL]⟩,ti hb hav ys (off+1) h2⟩
theorem F0:Gc=zkh.map .v:=rfl
theorem qG {W:World} (h:laidMetH S5 [("sizar/rules.kinds",VO)] W):∀g cs,lL g=some cs->xf W (tf (λ_=>False) (λ_=>none) []) g 0 cs:=by
 intro g cs hg;obtain⟨xs,h1,h2⟩:=zF h;have h0:g=0/\cs=Gc:=by
  unfold lL at hg;split at hg;·exact⟨rfl,(Option.some.inj hg).symm⟩
  ·simp at hg
 obtain⟨rfl,rfl⟩:=h0;rw[F0];refine ti (cs:=xs) (λoff=>?_) kX _ 0 (by rw[Xj,h2]);rw[World.var?,qF] at h1;simp only[Option.bind_some] at h1;unfold Xh;split at h1;·rename_i c a b hh;cases h1;simp only[hh];rfl
 ·simp at h1
end Go.Vi
open Go Go.Proofs
namespace Go.Vi
set_option maxRecDepth 100000
set_option maxHeartbeats 4000000
attribute [local irreducible] cP
end Go.Vi
open Go Go.Proofs
namespace Go.Vi
set_option maxHeartbeats 4000000
set_option maxRecDepth 100000
structure JV (T:Int) (w x:eQ):Prop where
 c:x.c=w.c
 p:x.p=w.p
 s:x.s=w.s
 f:∃A B g,w.f=A++B/\x.f=A++g::B/\g.kind=5/\T<=g.lk
section
variable {T:Int} {w x:eQ} {kk ks ko t bO:Int}
theorem Pv{g:qH}(hk:g.kind=5)(h:kk≠5\/t<g.lk)(s:qH×Bool):rJ kk ks ko t bO s g=s:=by unfold rJ zlF Cx dv EM;grind
theorem JV.go(h:JV T w x)(hk:kk≠5\/t<T)(s:qH×Bool):x.f.foldl (rJ kk ks ko t bO) s=w.f.foldl (rJ kk ks ko t bO) s:=by obtain⟨A,B,g,h1,h2,h3,h4⟩:=h.f;rw[h1,h2,Ym,Ym,TG,Pv h3 (hk.imp id λh=>lj)]
theorem JV.at(h:JV T w x)(hk:kk≠5):atR kk ks ko t bO x.f=atR kk ks ko t bO w.f:=by unfold atR;rw[h.go (.inl hk)]
theorem JV.val(h:JV T w x){n:Nat}(hn:n<1024)(hk:kk≠5\/(n:Int)<T):(bJ kk ks ko bO x.f).getD n 0=(bJ kk ks ko bO w.f).getD n 0:=by
 have e:∀l:AT,IX (l.foldl (zdU kk ks ko bO) vZ) n=bif (l.foldl (rJ kk ks ko (n:Int) bO) (vZ.1.getD n default,vZ.2.getD n N)).2 then SV (l.foldl (rJ kk ks ko (n:Int) bO) (vZ.1.getD n default,vZ.2.getD n N)).1.value else -1:=λl=>by rw[<-zl hn l vZ Ke];rfl
 rw[jV hn,jV hn,e,e,h.go hk]
theorem iI{α β:Type}{f g:β->α->β}:∀{l:List α} {s:β},(∀a∈l,∀s,f s a=g s a)->l.foldl f s=l.foldl g s
 | [],_,_=>rfl
 |a::l,s,h=>by rw[TG,TG,h a (UT ..)];exact iI λb hb=>h b (UY _ hb)
theorem JV.pts(h:JV T w x){lk to:Int}(hk:kk≠5\/to<=T):aH kk ks ko lk to bO x.f=aH kk ks ko lk to bO w.f:=by
 unfold aH Kg;refine iI λn hn s=>?_;have h3:=List.mem_range'_1.1 hn;have h4:vF to<=1024:=by unfold vF;split<;>omega
 have h6:vF to<=to:=by unfold vF;split<;>omega
 have h5:0<=Mg lk:=by unfold Mg;simp;split<;>omega
 rw[h.val lj (hk.imp id λhk=>lj)]
theorem F2{many:Int}{l:bV}(h:fE ((l.length:Int)>=many)=J):∀fs:AT,nuG (xz (nuF many) fs l)=l
 | []=>rfl
 |f::fs=>by simp[xz,nuF,h,nuG]
theorem F3{many:Int}{g:qH}(hk:g.kind=5)(B:AT):∀(A:AT) (l:bV),nuG (xz (nuF many) (A++g::B) l)=nuG (xz (nuF many) (A++B) l)
 | [],l=>by
  simp;cases h:fE ((l.length:Int)>=many) with
  |true=>rw[F2 h,F2 h]
  |false=>
   have:jR g l=N:=by simp[jR,hk]
   simp[xz,nuF,h,this]
 |f::A,l=>by
  simp[xz];cases nuF many f l with
  |inl l'=>exact F3 hk B A l'
  |inr l'=>rfl
theorem JV.num(h:JV T w x):af x.f bO=af w.f bO:=by
 have e:sM x.f bO=sM w.f bO:=by unfold sM;rw[h.at lj]
 obtain⟨A,B,g,h1,h2,h3,_⟩:=h.f;unfold af EQ;rw[e,h2,F3 h3,<-h1]
theorem JV.f7(h:JV T w x):ac x=ac w:=by funext n t bO;unfold ac;rw[h.c,h.at lj]
theorem JV.system(h:JV T w x):bU x=bU w:=by funext t bO;unfold bU;rw[h.s,h.at lj]
theorem JV.prog(h:JV T w x)(ps:Is):aI x ps=aI w ps:=by funext n t bO;unfold aI;rw[h.at lj]
theorem JV.atO(h:JV T w x):Mi x=Mi w:=by funext bO n p;unfold Mi GB;rw[h.f7]
theorem JV.ofN{st n:Int}(h:JV T w x):co x bO st T n=co w bO st T n/\er x bO st T n=er w bO st T n:=by unfold co er zS;rw[h.pts (.inr (Int.le_refl _)),h.atO];grind
theorem JV.rof{st:Int}(h:JV T w x):dP x st T bO=dP w st T bO/\ba x bO st T=ba w bO st T/\gU x bO st T=gU w bO st T:=by
 have e1:ba x bO st T=ba w bO st T:=by unfold ba;rw[h.num];exact congrArg _ (dd λn _=>h.ofN.1)
 have e2:gU x bO st T=gU w bO st T:=by unfold gU jC;rw[h.num,dd λn _=>h.ofN.2]
 refine⟨?_,e1,e2⟩;unfold dP;rw[e1,e2]
theorem JV.rep(h:JV T w x):jm x=jm w:=by funext bO t l;unfold jm;rw[h.f7]
theorem JV.rcnt(h:JV T w x):cN x=cN w:=by funext r t bO;unfold cN;rw[h.rep]
theorem JV.vwc{st:Int}(h:JV T w x):j9 x st T bO=j9 w st T bO:=by unfold j9;rw[h.rof.1,h.rcnt]
theorem JV.sof{kind st obj:Int}(h:JV T w x):jU x kind st obj T bO=jU w kind st obj T bO:=by unfold jU HW;rw[h.vwc,h.system]
theorem JV.zjM(h:JV T w x):Vi.zjM x=Vi.zjM w:=by
 have:eqN x=eqN w:=by funext t bO a s n;unfold eqN zqD;rw[h.at lj]
 funext t bO ns a s;unfold Vi.zjM;rw[this]
theorem JV.zaN(h:JV T w x){ns:bV}:∀(f i:Nat) (s:RL),Vi.zaN x t bO ns f i s=Vi.zaN w t bO ns f i s
 |0,_,_=>rfl
 |f+1,i,s=>by
  simp[Vi.zaN,h.zjM];cases s.2[i]? with
  |none=>rfl
  |some a=>exact JV.zaN h f (i+1) _
theorem JV.equ(h:JV T w x):bQ x=bQ w:=by grind [h.zaN,h.num,bQ,DE,lQ]
theorem JV.frF(h:JV T w x):Vi.frF x=Vi.frF w:=by funext t bO s c;unfold Vi.frF;rw[h.equ]
theorem JV.progr(h:JV T w x):gb x=gb w/\jE x=jE w:=by
 have e:nM x=nM w:=by funext t bO q;unfold nM R8;rw[h.frF]
 constructor;·funext t bO p;unfold gb;rw[e]
 ·funext t bO q;unfold jE;rw[h.frF]
theorem JV.deg(h:JV T w x){ps:Is}{st n:Int}:mK x ps st n T bO=mK w ps st n T bO:=by
 have e:IR x=IR w:=by funext t bO p rs l;unfold IR;rw[h.progr.1,h.progr.2]
 unfold mK;rw[h.prog,h.rof.1,h.rcnt,e]
theorem JV.sit(h:JV T w x){st:Int}{now:bV}:jr x st T bO now=jr w st T bO now:=by
 have e:mQ x=mQ w:=by
  funext bO t aa rs sm;unfold mQ;have:nbF x=nbF w:=by funext bO t m1 m2 s n;unfold nbF zkC;rw[h.equ]
  rw[this,h.num]
 unfold jr cnA;rw[h.rof.2.1,h.rof.2.2,h.rep,e]
theorem JV.ptv(h:JV T w x)(hk:kk≠5):ptV kk ks ko t bO x.f=ptV kk ks ko t bO w.f:=by unfold ptV;rw[h.pts (.inl hk)]
theorem JV.adm(h:JV T w x){st ob:Int}{now:bV}:rL x st ob T bO now=rL w st ob T bO now:=by
 have e1:hlR 6 st T bO x.f 8=hlR 6 st T bO w.f 8:=by unfold hlR;exact iI λk _ s=>by rw[h.ptv lj]
 have e2:CO 7 st ob T bO x.f=CO 7 st ob T bO w.f:=by unfold CO;rw[h.ptv lj]
 unfold rL CT zu;rw[h.sit,h.f7,e1,e2]
theorem JV.ans{q:QuT}(h:JV q.eF w x){ps:Is}{nw:bV}:qz x ps q bO nw=qz w ps q bO nw:=by unfold qz HX;rw[h.adm,h.deg,h.sof]
end
end Go.Vi
