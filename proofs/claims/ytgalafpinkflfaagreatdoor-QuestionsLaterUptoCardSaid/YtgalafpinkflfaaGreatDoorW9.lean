/- A part of the proof; no conditions of its own. -/
import Derived.Test.YtgalafpinkflfaaGreatDoorW8
open Bool renaming true->J,false->N
open Option renaming some->G,none->Y
open Go.Vi.ql renaming map->NI,var->eP,loop->Js
open Go.Exit renaming normal->w8,exit->EY
open Go.Vi.η renaming st->E6,ov->zfG,inl->Τ
open Go.Vi.SOp renaming frz->Λ,P1->zlw,mask->IW
open Go.Vi.D renaming Pp->uN,agg->mS,ref->gM
open Go.Vi.Ref renaming ptr->qn
open Decidable renaming decide -> fE
open Go.Proofs.Tryz renaming f102 -> Wa, prog -> S5, f42 -> Wp, f15 -> TN, f166 -> Vz, f92 -> Zi
open List renaming nodup_nil -> Xg, map -> S2, getD -> Th, length -> S7, getElem?_eq_some_iff -> Td, getElem?_eq_getElem -> TH, replicate -> Ti
open Go.Vi.uT renaming row -> Tc
open Go.Vi.Β renaming row -> Tj
open Go.Vi.qH renaming row -> Ta
open Go.Vi.E7 renaming row -> Ts
open Go.Vi.uS renaming row -> Tb
open Go.Vi.Ev renaming zkr -> Tp, zkJ -> Tw, ziv -> U7, post -> Yd
open Go.Vi.CW renaming preS -> Yx
open Go.Vi.ql renaming inn -> Tl
open Int renaming toNat -> S9
open Option renaming isSome -> Tx, getD -> TZ
open Go.Vi.D renaming p -> Us, Pp -> TT, any -> Zh, θ -> Tz, FK -> Ty, agg -> TF
open Go.Vi.Dp renaming v -> Ws
open Go.Value renaming nilFunc -> T5, cells -> Yn
open Go.IntKind renaming i64 -> S6, wrap -> S8
open Go.Exit renaming normal -> Tr, ret -> VM
open Go.Vi.oz renaming fl -> Te
open Go.Vi.eQ renaming l -> TC
open Go Go.Proofs
namespace Go.Vi
set_option maxRecDepth 100000
set_option maxHeartbeats 4000000
variable {H:List ql}{L l:iN}{a:uS}{as_:bv}{b:Bool}{c e en bO md mn ms n st eF v:Int}{h:aT}{i:Nat}{m m1 m2:IM}{o:DO}{p:jW}{q1 q2 q3 rs:List EU}{r:Pq}{rp xs:bV}{rs0:iF}{u:Unit}{w:eQ}{x1 x3:List (List Dp)}
def cT:Code->Code
 |.cond _ a _=>a
 |c=>c
theorem HK:al Wa=.seq (.region (BU (cL (al Wa))) (bW (cL (al Wa))) N) (.cond (.tmp 5) (.region (BU (cT (cR (al Wa)))) (bW (cT (cR (al Wa)))) N) .skip):=Z
abbrev zer:Nat×D:=(4,eR N)
noncomputable abbrev dm0T(e:Int):bY:=qm 9 0 [(0,eR N),(1,eO e),zer,(5,eR J)]
noncomputable def dm1(e:Int):Option (Exit×bY×aT):=bo S5 ji zmz [] (bW (cT (cR (al Wa)))).toList (bW (cT (cR (al Wa)))).toList (dm0T e) []
noncomputable def dmC(e:Int):List PanicEntry:=match dm1 e with
 |some (.panic c,_,_)=>c
 |_=>[]
noncomputable def dmT(e:Int):bY:=match dm1 e with
 |some (_,t,_)=>t
 |_=>[]
theorem Dt(e:Int)(h:aT):zmM S5 ji 102 [eR N,eO e] h λc h'=>c=dmC e/\h'=h:=by refine zmM.zhz (fn:=Wa) (c:=al Wa) rfl rfl λX _=>?_;rw[HK];refine VW.seq (VW.zcR (s:={t:=cO Wa [eR N,eO e],h:=h,m:=[]}) (t':=dm0T e) (h':=h) (e:=w8) lH Z ?_);refine VW.cond (b:=J) rfl (λ_=>?_) (λhf=>by cases hf);refine VW.zcR (s:={t:=dm0T e,h:=h,m:=[]}) (t':=dmT e) (h':=h) (e:=.panic (dmC e)) lH Z ?_;exact⟨_,rfl,rfl,Xg,rfl,rfl⟩
def opFv(o:Oper):Operand:=match o.op with
 |.call {callee:=.value fv,.. }=>fv
 |_=>.tmp 0
def yy(o:Oper):OF:=match o.op with
 |.call {args,.. }=>args
 |_=>#[]
def Sm(o:Oper):ON:=match o.op with
 |.call {argTypes,.. }=>argTypes
 |_=>#[]
theorem Sn{c:Bool}(h:b=c):eR b=eR c:=by rw[h]
theorem Lo:al Wp=.region (BU (al Wp)) (bW (al Wp)) N:=Z
noncomputable abbrev SZ:Oper:=(bW (al Wp)).toList.getLastD default
abbrev zfv(a:Int):bY:=qm 6 0 [(0,eO a),(2,eO a),(3,eR (a==0)),(4,eO a)]
noncomputable abbrev zfC(a:Int):Exit:=(.panic (dmC a))
theorem So(e:Int)(he:(e==0)=N)(h:aT):zmM S5 ji 42 [eO e] h λc h'=>c=dmC e/\h'=h:=by
 refine zmM.zhz (fn:=Wp) (c:=al Wp) rfl rfl λX hX a w hs=>?_;rw[Lo];have hc:CW S5 ji h N (.region (BU (al Wp)) (bW (al Wp)) N) {t:=cO Wp [eO e],h:=h,m:=[]} (zfC e) {t:=(zfv e),h:=h,m:=[]}:=by
  refine CW.zqG (os1:=(bW (al Wp)).toList.take 3) (rest:=[]) (o:=SZ) (fv:=opFv SZ) (args:=yy SZ) (ats:=Sm SZ) (h1:=h) Z Z Z Z ?_ rfl;have e1:kr ji (zfv e) (opFv SZ)=.p (zcs 102):=Z
  have e2:(yy SZ).toList.map (kr ji (zfv e))=[eR (e==0),eO e]:=Z
  rw[e1,e2,Sn he];exact zlY.zkO τ (f:=102) (fi:=[]) (ca:=[]) rfl Z (Dt e _)
 refine wpIn_mono (hc X Y hX (λ_=>rfl) a w hs) ?_;rintro e a' w' ⟨h1,s,⟨rfl,rfl⟩,h2⟩;exact⟨h1,_,⟨_,rfl,rfl,Xg,rfl,rfl⟩,h2⟩
noncomputable abbrev rg(k:Nat):BY:=bW (cL (be (al TN) k))
noncomputable abbrev rgO(k:Nat):Oper:=(rg k).toList.getLastD default
abbrev paT(e:Int):bY:=qm 167 0 [WF,zat,zaJ,zaK,(19,eO e)]
abbrev paH(w:eQ)(A:bY)(rs:iF):aT:=[eP w.l,eP A,eP [eR N],eP [ab (sU rs)],eP [eO 0]]
abbrev zgk(a:Int)(b:Nat):bY:=NK (paT a) (G b) (eO a)
theorem tI{A:bY}{rs:iF}{k x:Nat}(he:(e==0)=N)(hcode:be (al TN) k=.seq (.region (BU (cL (be (al TN) k))) (rg k) N) (cR (be (al TN) k)))(h1:(rg k).toList=(rg k).toList.take 1++rgO k::[])(h2:bo S5 lL pU [] (rg k).toList ((rg k).toList.take 1) (paT e) (paH w A rs)=G (w8,(zgk e x),paH w A rs))(h3:(rgO k).op=.call {callee:=.value (opFv (rgO k)),args:=yy (rgO k),argTypes:=Sm (rgO k)})(h4:(rgO k).guard=Y)
  (e1:kr lL (zgk e x) (opFv (rgO k))=.p (zcs 42)) (e2:(yy (rgO k)).toList.map (kr lL (zgk e x))=[eO e]) (h5:uc [10,11,12,13] 0 (zgk e x)=dgO) :
  CW S5 lL (hA w) N (be (al TN) k) {t:=paT e,h:=paH w A rs,m:=[]} (zfC e) {t:=dgO,h:=paH w A rs,m:=[]}:=by
 have h0:CW S5 lL (hA w) N (be (al TN) k) {t:=paT e,h:=paH w A rs,m:=[]} (zfC e) {t:=(zgk e x),h:=paH w A rs,m:=[]}:=by rw[hcode];refine CW.out qk (CW.zqG (os1:=(rg k).toList.take 1) (rest:=[]) (o:=rgO k) (fv:=opFv (rgO k)) (args:=yy (rgO k)) (ats:=Sm (rgO k)) (h1:=paH w A rs) h1 h2 h3 h4 ?_ rfl);rw[e1,e2];exact zlY.zkO τ (f:=42) (fi:=[]) (ca:=[]) rfl Z (So e he _).zkr
 have:=CW.maskE [10,11,12,13] h0
 unfold nT at this
 grind
noncomputable abbrev HL(w:eQ)(q1:iF)(p:jW)(r:Pq):aT:=(zhq w [nq,eO 0,nq] q1 (ZI p) r)
theorem MM{e:Exit}
  (ht:CW S5 lL (hA w) false (be (al TN) 9) (sgB9 w eF bO q1 q2 p r) e {t:=dgO,h:=H,m:=[]}):(CW S5 lL (hA w) false (be (al TN) 8) (sgB w eF bO q1 q2 p r 0) e {t:=dgO,h:=H,m:=[]}):=by
 have xd:=(@ht)
 exact yx [] [.v (Tp (Γ':=lL) (@gX (HL w q1 p r))),xd,.a1 (.zkB [3,4,5,10,11,12,13,14,15,16,18] e {t:=qm 167 0 [(10,.ref (.ptr 1 0)),(11,.ref (.ptr 2 0)),(12,.ref (.ptr 3 0)),(13,.ref (.ptr 4 0))],h:=H})]
theorem Sp(he:(e==0)=false):CW S5 lL (hA w) false (be (al TN) 8) (sgB w eF bO q1 q2 p r e) (.panic (dmC e)) {t:=dgO,h:=paH w [nq,eO 0,nq] q1,m:=[]} :=
 Yx [.st (.mask [10,11,12,13,19]),.st (.frz 5 (sU q1)),.st (.P1 5)] (s1:={t:=paT e,h:=paH w [nq,eO 0,nq] q1,m:=[]}) (by kernel_rfl) (.c (show ad (sU q1)=(sU q1).map (·.map .p) from rfl) (.c (show Tl 5 (.var w.l)=true from rfl) (.c (show Tl 5 (.var [nq,eO 0,nq])=true from rfl) (.c (show Tl 5 (.var [eR false])=true from rfl) (.c (show Tl 5 (.var [ab (sU q1)])=true from rfl) (.c (show Tl 5 (.var [eO 0])=true from rfl) .n))))))
  (tI (k:=8) (x:=58) he (by kernel_rfl) (by kernel_rfl) (by kernel_rfl) (by kernel_rfl) (by kernel_rfl) (by kernel_rfl) (by kernel_rfl) (by kernel_rfl))
noncomputable abbrev Du(w:eQ)(rs:iF)(p:jW)(r:Pq):aT:=(zhq w [nq,eO 0,nq] rs (ZI p) r)
theorem Sq{l:List uS}{e:Exit}
  (ht:CW S5 lL (hA w) false (be (al TN) 12) (Sf w eF bO rs q3 p r l) e {t:=dgO,h:=H,m:=[]}):(CW S5 lL (hA w) false (be (al TN) 11) (sgC w eF bO rs q3 p r l 0) e {t:=dgO,h:=H,m:=[]}):=by
 have xd:=(@ht)
 exact yx [] [.v (Tp (Γ':=lL) (@gX (Du w rs p r))),xd,.a1 (.zkB [3,4,5,10,11,12,13,14,15,16,20] e {t:=qm 167 0 [(10,.ref (.ptr 1 0)),(11,.ref (.ptr 2 0)),(12,.ref (.ptr 3 0)),(13,.ref (.ptr 4 0))],h:=H})]
theorem Lp{l:List uS}(he:(e==0)=false):CW S5 lL (hA w) false (be (al TN) 11) (sgC w eF bO rs q3 p r l e) (.panic (dmC e)) {t:=dgO,h:=paH w [nq,eO 0,nq] rs,m:=[]} :=
 Yx [.st (.mask [10,11,12,13,19]),.st (.frz 5 (sU rs)),.st (.P1 5)] (s1:={t:=paT e,h:=paH w [nq,eO 0,nq] rs,m:=[]}) (by kernel_rfl) (.c (show ad (sU rs)=(sU rs).map (·.map .p) from rfl) (.c (show Tl 5 (.var w.l)=true from rfl) (.c (show Tl 5 (.var [nq,eO 0,nq])=true from rfl) (.c (show Tl 5 (.var [eR false])=true from rfl) (.c (show Tl 5 (.var [ab (sU rs)])=true from rfl) (.c (show Tl 5 (.var [eO 0])=true from rfl) .n))))))
  (tI (k:=11) (x:=72) he (by kernel_rfl) (by kernel_rfl) (by kernel_rfl) (by kernel_rfl) (by kernel_rfl) (by kernel_rfl) (by kernel_rfl) (by kernel_rfl))
noncomputable abbrev Dv(w:eQ)(rs:iF)(x1:bv)(x3:bv)(ms:Int)(p:jW)(r:Pq):aT:=(zhq w (zdY x1 ms x3) rs (ZI p) r)
theorem vB{l:List uS}{e:Exit}
  (ht:CW S5 lL (hA w) false (be (al TN) 30) (sgD30 w rs x1 x3 ms p r l) e {t:=dgO,h:=H,m:=[]}):(CW S5 lL (hA w) false (be (al TN) 29) (sgD w rs x1 x3 ms p r l 0) e {t:=dgO,h:=H,m:=[]}):=by
 have xd:=(@ht)
 exact yx [] [.v (Tp (Γ':=lL) (@gX (Dv w rs x1 x3 ms p r))),xd,.a1 (.zkB [10,11,12,13,15,20] e {t:=qm 167 0 [(10,.ref (.ptr 1 0)),(11,.ref (.ptr 2 0)),(12,.ref (.ptr 3 0)),(13,.ref (.ptr 4 0))],h:=H})]
theorem Lq{l:List uS}(he:(e==0)=false):CW S5 lL (hA w) false (be (al TN) 29) (sgD w rs x1 x3 ms p r l e) (.panic (dmC e)) {t:=dgO,h:=paH w [ab x1,eO ms,ab x3] rs,m:=[]} :=
 Yx [.st (.mask [10,11,12,13,19]),.st (.frz 5 (sU rs)),.st (.P1 5)] (s1:={t:=paT e,h:=paH w [ab x1,eO ms,ab x3] rs,m:=[]}) (by kernel_rfl) (.c (show ad (sU rs)=(sU rs).map (·.map .p) from rfl) (.c (show Tl 5 (.var w.l)=true from rfl) (.c (show Tl 5 (.var [ab x1,eO ms,ab x3])=true from rfl) (.c (show Tl 5 (.var [eR false])=true from rfl) (.c (show Tl 5 (.var [ab (sU rs)])=true from rfl) (.c (show Tl 5 (.var [eO 0])=true from rfl) .n))))))
  (tI (k:=29) (x:=127) he (by kernel_rfl) (by kernel_rfl) (by kernel_rfl) (by kernel_rfl) (by kernel_rfl) (by kernel_rfl) (by kernel_rfl) (by kernel_rfl))
noncomputable abbrev Dw(w:eQ)(rs:iF)(x1:bv)(x3:bv)(ms:Int)(p:jW)(r:Pq):aT:=(zhq w (zdY x1 ms x3) rs (ZI p) r)
theorem Ah{l:List uS}{e:Exit}
  (ht:CW S5 lL (hA w) false (be (al TN) 32) (sgE32 w rs x1 x3 ms p r l en) e {t:=dgO,h:=H,m:=[]}):(CW S5 lL (hA w) false (be (al TN) 31) (sgE w rs x1 x3 ms p r l en 0) e {t:=dgO,h:=H,m:=[]}):=by
 have xd:=(@ht)
 exact yx [] [.v (Tp (Γ':=lL) (@gX (Dw w rs x1 x3 ms p r))),xd,.a1 (.zkB [10,11,12,13,15,20,28] e {t:=qm 167 0 [(10,.ref (.ptr 1 0)),(11,.ref (.ptr 2 0)),(12,.ref (.ptr 3 0)),(13,.ref (.ptr 4 0))],h:=H})]
theorem Lr{l:List uS}(he:(e==0)=false):CW S5 lL (hA w) false (be (al TN) 31) (sgE w rs x1 x3 ms p r l en e) (.panic (dmC e)) {t:=dgO,h:=paH w [ab x1,eO ms,ab x3] rs,m:=[]} :=
 Yx [.st (.mask [10,11,12,13,19]),.st (.frz 5 (sU rs)),.st (.P1 5)] (s1:={t:=paT e,h:=paH w [ab x1,eO ms,ab x3] rs,m:=[]}) (by kernel_rfl) (.c (show ad (sU rs)=(sU rs).map (·.map .p) from rfl) (.c (show Tl 5 (.var w.l)=true from rfl) (.c (show Tl 5 (.var [ab x1,eO ms,ab x3])=true from rfl) (.c (show Tl 5 (.var [eR false])=true from rfl) (.c (show Tl 5 (.var [ab (sU rs)])=true from rfl) (.c (show Tl 5 (.var [eO 0])=true from rfl) .n))))))
  (tI (k:=31) (x:=134) he (by kernel_rfl) (by kernel_rfl) (by kernel_rfl) (by kernel_rfl) (by kernel_rfl) (by kernel_rfl) (by kernel_rfl) (by kernel_rfl))
noncomputable abbrev Dx(w:eQ)(rs:iF)(x1:bv)(x3:bv)(ms:Int)(mn:Int)(md:Int)(p:jW)(r:Pq):aT:=(zhv (ZA w) (zdY x1 ms x3) (ad (sU rs)) (ZI p) (zaM r) (eP [eO mn,eO md]))
theorem HM{e:Exit}
  (ht:CW S5 lL (hA w) false (be (al TN) 34) (sgF34 w rs x1 x3 ms p r en mn md) e {t:=dgO,h:=H,m:=[]}):(CW S5 lL (hA w) false (be (al TN) 33) (sgF w rs x1 x3 ms p r en mn md 0) e {t:=dgO,h:=H,m:=[]}):=by
 have xd:=(@ht)
 exact yx [] [.v (Tp (Γ':=lL) (@gX (Dx w rs x1 x3 ms mn md p r))),xd,.a1 (.zkB [10,11,12,13,15,28,29] e {t:=qm 167 0 [(10,.ref (.ptr 1 0)),(11,.ref (.ptr 2 0)),(12,.ref (.ptr 3 0)),(13,.ref (.ptr 4 0))],h:=H})]
theorem Ls(he:(e==0)=false):CW S5 lL (hA w) false (be (al TN) 33) (sgF w rs x1 x3 ms p r en mn md e) (.panic (dmC e)) {t:=dgO,h:=paH w [ab x1,eO ms,ab x3] rs,m:=[]} :=
 Yx [.st (.mask [10,11,12,13,19]),.st (.frz 5 (sU rs)),.st (.P1 5)] (s1:={t:=paT e,h:=paH w [ab x1,eO ms,ab x3] rs,m:=[]}) (by kernel_rfl) (.c (show ad (sU rs)=(sU rs).map (·.map .p) from rfl) (.c (show Tl 5 (.var w.l)=true from rfl) (.c (show Tl 5 (.var [ab x1,eO ms,ab x3])=true from rfl) (.c (show Tl 5 (.var [eR false])=true from rfl) (.c (show Tl 5 (.var [ab (sU rs)])=true from rfl) (.c (show Tl 5 (.var [eO 0])=true from rfl) .n))))))
  (tI (k:=33) (x:=141) he (by kernel_rfl) (by kernel_rfl) (by kernel_rfl) (by kernel_rfl) (by kernel_rfl) (by kernel_rfl) (by kernel_rfl) (by kernel_rfl))
noncomputable abbrev Dy(w:eQ)(rs:iF)(x1:bv)(x3:bv)(ms:Int)(mn:Int)(md:Int)(p:jW)(r:Pq):aT:=(zhv (ZA w) (zdY x1 ms x3) (ad (sU rs)) (ZI p) (zaM r) (eP [eO mn,eO md]))
theorem Sr{e:Exit}
  (ht:CW S5 lL (hA w) false (be (al TN) 36) (sgG36 w rs x1 x3 ms p r en mn md c) e {t:=dgO,h:=H,m:=[]}):(CW S5 lL (hA w) false (be (al TN) 35) (sgG w rs x1 x3 ms p r en mn md c 0) e {t:=dgO,h:=H,m:=[]}):=by
 have xd:=(@ht)
 exact yx [] [.v (Tp (Γ':=lL) (@gX (Dy w rs x1 x3 ms mn md p r))),xd,.a1 (.zkB [10,11,12,13,15,28,30] e {t:=qm 167 0 [(10,.ref (.ptr 1 0)),(11,.ref (.ptr 2 0)),(12,.ref (.ptr 3 0)),(13,.ref (.ptr 4 0))],h:=H})]
theorem Lt(he:(e==0)=false):CW S5 lL (hA w) false (be (al TN) 35) (sgG w rs x1 x3 ms p r en mn md c e) (.panic (dmC e)) {t:=dgO,h:=paH w [ab x1,eO ms,ab x3] rs,m:=[]} :=
 Yx [.st (.mask [10,11,12,13,19]),.st (.frz 5 (sU rs)),.st (.P1 5)] (s1:={t:=paT e,h:=paH w [ab x1,eO ms,ab x3] rs,m:=[]}) (by kernel_rfl) (.c (show ad (sU rs)=(sU rs).map (·.map .p) from rfl) (.c (show Tl 5 (.var w.l)=true from rfl) (.c (show Tl 5 (.var [ab x1,eO ms,ab x3])=true from rfl) (.c (show Tl 5 (.var [eR false])=true from rfl) (.c (show Tl 5 (.var [ab (sU rs)])=true from rfl) (.c (show Tl 5 (.var [eO 0])=true from rfl) .n))))))
  (tI (k:=35) (x:=150) he (by kernel_rfl) (by kernel_rfl) (by kernel_rfl) (by kernel_rfl) (by kernel_rfl) (by kernel_rfl) (by kernel_rfl) (by kernel_rfl))
theorem Lu:al TN=.seq (.region (BU (cL (al TN))) (bW (cL (al TN))) N) (.seq (.region (BU (cL (cR (al TN)))) (bW (cL (cR (al TN)))) N) (cR (cR (al TN)))):=Z
theorem gj:zmz.Ok S5 lL:=λ_ _ _ _ h=>by simp[zmz] at h
abbrev dg0T(w:eQ)(st n eF bO:Int):bY:=qm 167 0 [(0,mS w.l),(1,eO st),(2,eO n),(3,eO eF),(4,eO bO),zbK,WF,zat,zaJ,zaK]
abbrev zgi:bY:=(zie (qn 1 0) 2 3 4)
abbrev dg1T(w:eQ)(st n eF bO:Int):bY:=qm 167 0 [(0,mS w.l),(1,eO st),(2,eO n),(3,eO eF),(4,eO bO),zbK,WF,zat,zaJ,zaK,(31,.fn (.func 37) [] zgi)]
abbrev dgCa:bY:=zgi
abbrev zdQ(a:eQ)(b c d:Int)(e:D):bY:=[mS a.l,eO b,eO c,eO d,e]
theorem Ss{e:Exit}{s':AS}(Ε:CW S5 lL (hA w) N (cR (cR (al TN))) (sgA w st n eF bO) e s'):zfZ S5 lL (al TN) {t:=cO TN (zdQ w st n eF (eO bO)),h:=[],m:=[]} e s' (G (37,dgCa)):=by rw[Lu];refine zfZ.seq (s1:={t:=dg0T w st n eF bO,h:=(sgA w st n eF bO).h,m:=[]}) (λX=>VW.zcR (t':=dg0T w st n eF bO) (h':=(sgA w st n eF bO).h) (e:=w8) gj Z ⟨rfl,rfl⟩) ?_;exact zfZ.zqc (os:=(bW (cL (cR (al TN)))).toList.dropLast) (o:=Hf (bW (cL (cR (al TN)))).toList) (fv:=.tmp 31) (args:=#[]) (ats:=#[]) (t1:=dg1T w st n eF bO) (h1:=(sgA w st n eF bO).h) (f:=37) (fi:=[]) (ca:=dgCa) τ gj Z Z Z Z rfl Z Z (CW.pre [1,2,3,4,5,10,11,12,13] Ε)
theorem HN:DfF.Ok S5 lL (ff S5 lL noW 100):=(wo τ (W:=noW) (λ_ _ _ _ h=>by simp[noW] at h) 100).2.2.2.2
noncomputable abbrev HO(e:Exit)(H:aT):Option CR:=pp S5 TN (ff S5 lL noW 100) 0 e {t:=dgO,h:=H,m:=[]} (G (37,dgCa))
theorem Su{rs:List (List Dp)}:HO .ret [.var w.l,.var [ab x1,eO ms,ab x3],.var [eR b],.var [ab rs],.var [eO 0]]=some (.ret (.Pp [.agg [ab x1,eO ms,ab x3],eR b,ab rs,eO 0]) []):=by kernel_rfl
theorem Sv{rs:List (List Dp)}:HO .ret [.var w.l,.var [nq,eO 0,nq],.var [eR false],.var [ab rs],.var [eO 0]]=some (.ret (.Pp [.agg [nq,eO 0,nq],eR false,ab rs,eO 0]) []):=by kernel_rfl
theorem MN:HO (.panic (dmC e)) (paH w [nq,eO 0,nq] rs)=some (.ret (.Pp [.agg [nq,eO 0,nq],eR false,nq,eO e]) []):=by kernel_rfl
theorem B5:HO (.panic (dmC e)) (paH w [ab x1,eO ms,ab x3] rs)=some (.ret (.Pp [.agg [nq,eO 0,nq],eR false,nq,eO e]) []):=by kernel_rfl
theorem nO{e:Exit}{d:D}(hr:CW S5 lL (hA w) false (cR (cR (al TN))) (sgA w st n eF bO) e {t:=dgO,h:=H,m:=[]})(he:HO e H=some (.ret d [])):Ev S5 lL 15 [.agg w.l,eO st,eO n,eO eF,eO bO] [] d [] :=
 (zjp.znP (f:=15) (args:=[.agg w.l,eO st,eO n,eO eF,eO bO]) (dfn:=ff S5 lL noW 100) (h:=[]) (r:=.ret d []) (fn:=TN) (c:=al TN) τ rfl rfl HN (Ss hr) he).call
abbrev caH(m1 m2:IM):aT:=[eP GI,imB m1,imB m2]
abbrev zeo:Nat×D:=(8,gM (.mp 2))
abbrev zfW:Nat×D:=(7,gM (.mp 1))
abbrev zi7(a:iN)(b:bv)(c d:Int)(e:aT):AS:={t:=qm 135 0 [(zeU 0 a),(1,ab b),(4,fw),(5,eO c),zcT,zfW,zeo,(32,ab (a.map Tb)),(33,eO (a.map Tb).length),(34,eO d)],h:=e,m:=[]}
abbrev caS(l:iN)(rp:bv)(m1 m2:IM)(i:Int):AS :=(zi7 l rp 0 i (caH m1 m2))
abbrev zjN:D:=(gM (.mp 1))
abbrev zea:D:=zjN
theorem lk1(hb:h[1]?=G (imB m)):aw S5 h 168 zea (eO c) J=G (uN (zjR m c)):=yh (kt:=3) (et:=3) Z Z Z hb
theorem lk2(hb:h[2]?=G (imB m)):aw S5 h 168 zcn (eO c) J=G (uN (zjR m c)):=yh (kt:=3) (et:=3) Z Z Z hb
theorem up1(hb:h[1]?=G (imB m)):ay S5 h 168 zea (eO c) (eO v)=G (h.set 1 (imB (a8 m c v))):=ly (kt:=3) (et:=3) Z Z hb
theorem up2(hb:h[2]?=G (imB m)):ay S5 h 168 zcn (eO c) (eO v)=G (h.set 2 (imB (a8 m c v))):=ly (kt:=3) (et:=3) Z Z hb
def iW(r:Int)(o:DO):Bool:=!(fE (r>=0)&&fE (r<=2))||(o.isSome&&(o.getD 0 != r))
def rep0(a b:uS):Bool:=fE (a.CX>b.CX)||(a.CX==b.CX&&fE (a.eF<b.eF))
def rep1(a b:uS):Bool:=fE (a.eF>=b.eF)
def repB(r:Int)(a b:uS):Bool:=if r=0 then rep0 a b else rep1 a b
def iX(l:iN)(r:Int)(a:uS)(o:DO):Bool:=(r==0||r==1)&&(!o.isSome||repB r a (l.getD (S9 (o.getD 0)) default))
def caF(l:iN)(i:Int)(r:Int)(a:uS)(s:IM×IM):(IM×IM)⊕Unit:=match iW r (ap s.1 a.f7) with
 |true=>.inr ()
 |false=>.inl (a8 s.1 a.f7 r,match iX l r a (ap s.2 a.f7) with|true=>a8 s.2 a.f7 i|false=>s.2)
abbrev caX:Unit->Exit×AS:=λ_=>(.ret,{t:=qm 135 0 [(4,fw),(5,eO 1)],h:=[],m:=[]})
theorem ztL:iX l 0 a o=(J&&(!Tx o||(fE (a.CX>(Th l (S9 (TZ o 0)) default).CX)||(a.CX==(Th l (S9 (TZ o 0)) default).CX&&fE (a.eF<(Th l (S9 (TZ o 0)) default).eF))))):=by simp[iX,repB,rep0]
theorem ztK:iX l 1 a o=(J&&(!Tx o||fE (a.eF>=(Th l (S9 (TZ o 0)) default).eF))):=by simp[iX,repB,rep1]
theorem MO:iX l 2 a o=N:=by simp[iX]
abbrev Z3:bY:=[eR J,fq 297,eR J,fq 298,eR N,Us (Ws T5)]
abbrev zcu(b:IM)(c:uS)(d:Int):List (D×D×Nat):=(aG 0 (a8 b c.f7 d))
abbrev zi9(b:IM)(c:uS)(d:Int)(e:Nat)(f:IM):aT:=[eP Z3,NI (zcu b c d) e,NI (aG 0 f) (S7 f),eP (ZL c)]
noncomputable abbrev gY(m1:IM)(m2:IM)(a:uS):aT:=(zi9 m1 a 0 (S7 (a8 m1 a.f7 0)) m2)
abbrev zh0(b c:IM)(d:ql):aT:=[eP Z3,NI (aG 0 b) (S7 b),NI (aG 0 c) (S7 c),d]
noncomputable abbrev fH(m1:IM)(m2:IM)(a:uS):aT:=(zh0 m1 m2 (eP (ZL a)))
abbrev zbf(a:IM):ql:=(NI (aG 0 a) (S7 a))
noncomputable def caP(K:Int){l:iN}{rp:List (List Dp)}(m1 m2:IM){a:uS}{i:Nat}(hr:ao (i:Int) (l.map Tb) a.row 5)(hq:ao (i:Int) rp [vi K] 1)(oA:fE ((i:Int)<((l.map Tb).length:Int))=true):List Stp:=[.b oA,.r hr,lk1 (h:=fH m1 m2 a) (c:=a.f7) rfl,.a1 (.ov 43 (TT (zjR m1 a.f7))),.r hq,.v (@dH K 0 2 (fH m1 m2 a)),zGw (!!(fE (K>=0)&&fE (K<=2))&&Tx (ap m1 a.f7)) hq,.a1 (.row [vi K])]
noncomputable def caQ(K:Int){l:iN}{rp:List (List Dp)}(m1 m2:IM){a:uS}{i:Nat}(hr:ao (i:Int) (l.map Tb) a.row 5)(hq:ao (i:Int) rp [vi K] 1)(oA:fE ((i:Int)<((l.map Tb).length:Int))=true)(hc:iW K (ap m1 a.f7)=false):List Stp:=caP K m1 m2 hr hq oA++[.b hc,.r hq,up1 (h:=fH m1 m2 a) (v:=K) (c:=a.f7) rfl,pe (.ref (.ptr 3 0)),po (some (eO a.f7)),lk2 (h:=caH (a8 m1 a.f7 K) m2++[.var (S2 Us (Tb a))]) (c:=a.f7) rfl,.a1 (.oh 10063 .any (caH (a8 m1 a.f7 K) m2++[.var (S2 Us (Tb a))])),.a1 (.ov 74 (TT (zjR m2 a.f7)))]
def caT(a b:IM):List Stp:=[bi 3 (.var Z3),ge (n:=3) (l:=a),ge (n:=3) (l:=b)]
theorem caV{l:iN}(hm:∀v,ap m2 a.f7=some v->0<=v/\v<(l.length:Int))(hg:(true&&!!Tx (ap m2 a.f7))=true):ao (TZ (ap m2 a.f7) 0) (S2 Tb l) (Tb (Th l (S9 (TZ (ap m2 a.f7) 0)) default)) 5:=by refine cy (λ_=>rfl) ?_ ?_<;>(cases hz:ap m2 a.f7<;>simp_all)
def caA:List η:=[.st (.mask [0,1,4,5,6,7,8,32,33,34]),.st (.P1 3)]
theorem ca_b0{l:List uS}{rp:List (List Dp)}(hm:∀v,ap m2 a.f7=some v->0<=v/\v<(l.length:Int))(hr:ao (i:Int) (l.map Tb) a.row 5)(hq:ao (i:Int) rp [vi 0] 1)(oA:fE ((i:Int)<((l.map Tb).length:Int))=true)(hw:S6.wrap ((i:Int)+1)=((i+1:Nat):Int)):(CW S5 ji [] false (sub Vz 0) (caS l rp m1 m2 i) (ai (λs=>caS l rp s.1 s.2 ((i+1:Nat):Int)) caX (caF l i 0 a (m1,m2))).1 (ai (λs=>caS l rp s.1 s.2 ((i+1:Nat):Int)) caX (caF l i 0 a (m1,m2))).2):=by
 let u:=true&&!!Tx (ap m2 a.f7)
 let v:=Th l (S9 (TZ (ap m2 a.f7) 0)) default
 let M:=a8 m1 a.f7 0
 let g:=gY m1 m2 a
 cases sR:iW 0 (ap m1 a.f7)
 ·let Q:=caQ 0 m1 m2 hr hq oA sR++[.a1 (.row [vi 0]),.r hq,(rfl:Ps 0 3=true),zGw u hq,zGw u (rfl:Ps 0 3=true),caV hm,.a1 (.row (Tb v)),.w u (@GG a v g)]
  cases Jw:iX l 0 a (ap m2 a.f7)
  ·simp only[caF,sR,Jw,<-hw];exact yx caA (Q++[.b (ztL.symm.trans Jw)]++caT M m2)
  ·simp only[caF,sR,Jw,<-hw];exact yx caA (Q++[.b (ztL.symm.trans Jw),up2 (h:=g) (v:=i) (c:=a.f7) rfl]++caT M (a8 m2 a.f7 i)++[.a1 (.oh 10103 .any (caH M (a8 m2 a.f7 i)++[.var (S2 Us (Tb a))]))])
 ·simp only[caF,sR];exact yx [.st (.mask [4,5]),.st (.P1 0)] (caP 0 m1 m2 hr hq oA++[.b sR])
noncomputable abbrev gZ(m1:IM)(m2:IM)(a:uS):aT:=(zi9 m1 a 1 (S7 (a8 m1 a.f7 1)) m2)
theorem ca_b1{l:List uS}{rp:List (List Dp)}(hm:∀v,ap m2 a.f7=some v->0<=v/\v<(l.length:Int))(hr:ao (i:Int) (l.map Tb) a.row 5)(hq:ao (i:Int) rp [vi 1] 1)(oA:fE ((i:Int)<((l.map Tb).length:Int))=true)(hw:S6.wrap ((i:Int)+1)=((i+1:Nat):Int)):(CW S5 ji [] false (sub Vz 0) (caS l rp m1 m2 i) (ai (λs=>caS l rp s.1 s.2 ((i+1:Nat):Int)) caX (caF l i 1 a (m1,m2))).1 (ai (λs=>caS l rp s.1 s.2 ((i+1:Nat):Int)) caX (caF l i 1 a (m1,m2))).2):=by
 let u:=true&&!!Tx (ap m2 a.f7)
 let v:=Th l (S9 (TZ (ap m2 a.f7) 0)) default
 let M:=a8 m1 a.f7 1
 let g:=gZ m1 m2 a
 cases sR:iW 1 (ap m1 a.f7)
 ·let Q:=caQ 1 m1 m2 hr hq oA sR++[.a1 (.row [vi 1]),.r hq,(rfl:Ps 1 3=true),zGw u hq,zGw u (rfl:Ps 1 3=true),caV hm,.a1 (.row (Tb v)),.w u (@GH a v g)]
  cases Jw:iX l 1 a (ap m2 a.f7)
  ·simp only[caF,sR,Jw,<-hw];exact yx caA (Q++[.b (ztK.symm.trans Jw)]++caT M m2)
  ·simp only[caF,sR,Jw,<-hw];exact yx caA (Q++[.b (ztK.symm.trans Jw),up2 (h:=g) (v:=i) (c:=a.f7) rfl]++caT M (a8 m2 a.f7 i)++[.a1 (.oh 10103 .any (caH M (a8 m2 a.f7 i)++[.var (S2 Us (Tb a))]))])
 ·simp only[caF,sR];exact yx [.st (.mask [4,5]),.st (.P1 0)] (caP 1 m1 m2 hr hq oA++[.b sR])
theorem ca_b2{l:List uS}{rp:List (List Dp)}(hr:ao (i:Int) (l.map Tb) a.row 5)(hq:ao (i:Int) rp [vi 2] 1)(oA:fE ((i:Int)<((l.map Tb).length:Int))=true)(hw:S6.wrap ((i:Int)+1)=((i+1:Nat):Int)):(CW S5 ji [] false (sub Vz 0) (caS l rp m1 m2 i) (ai (λs=>caS l rp s.1 s.2 ((i+1:Nat):Int)) caX (caF l i 2 a (m1,m2))).1 (ai (λs=>caS l rp s.1 s.2 ((i+1:Nat):Int)) caX (caF l i 2 a (m1,m2))).2):=by
 let r:=(rfl:false=false)
 cases sR:iW 2 (ap m1 a.f7)
 ·simp only[caF,sR,MO,<-hw];exact yx caA (caQ 2 m1 m2 hr hq oA sR++[.r hq,(rfl:Ps 2 3=true)]++zGn 3 r++.replicate 13 (.g r)++zGn 1 r++zCf 102 r++[.b r]++caT (a8 m1 a.f7 2) m2)
 ·simp only[caF,sR];exact yx [.st (.mask [4,5]),.st (.P1 0)] (caP 2 m1 m2 hr hq oA++[.b sR])
noncomputable abbrev B6(m1:IM)(m2:IM)(a:uS):aT:=(zh0 m1 m2 (eP (ZL a)))
theorem ca_bX{l:List uS}{rp:List (List Dp)}{r:Int}(hx:(!(fE (r>=0)&&fE (r<=2))||Tx (ap m1 a.f7)&&TZ (ap m1 a.f7) 0 != r)=true)(hr:ao (i:Int) (l.map Tb) a.row 5)(hq:ao (i:Int) rp [vi r] 1)(oA:fE ((i:Int)<((l.map Tb).length:Int))=true)(hw:S6.wrap ((i:Int)+1)=((i+1:Nat):Int)):(CW S5 ji [] false (sub Vz 0) (caS l rp m1 m2 i) (ai (λs=>caS l rp s.1 s.2 ((i+1:Nat):Int)) caX (caF l i r a (m1,m2))).1 (ai (λs=>caS l rp s.1 s.2 ((i+1:Nat):Int)) caX (caF l i r a (m1,m2))).2):=by
 let v0:=TT [eO (TZ (ap m1 a.f7) 0),eR (Tx (ap m1 a.f7))]
 refine yX {t:=qm 135 0 [(4,nq),(5,eO 1)],h:=[],m:=[]} VM [.st (.mask [4,5]),.st (.P1 0)] [.b oA,.r hr,((by subst v0;exact lk1 rfl):@Eq (Option D) (aw S5 (B6 m1 m2 a) 168 (.ref (.mp 1)) (eO a.f7) true) (some v0)),.a1 (.ov 43 v0),.r hq,.v (@dH r 0 2 (B6 m1 m2 a)),((λhg=>hq):(!!(fE (r>=0)&&fE (r<=2))&&Tx (ap m1 a.f7))=true->ao (↑i:Int) rp [vi r] 1),.a1 (.row [vi r]),.b hx] ?_ ?_<;>subst v0<;>((have h1:iW r (ap m1 a.f7)=true:=hx);simp[caF,h1,ai];done)
theorem Sw{rp:bv}(oA:fE ((i:Int)<((l.map Tb).length:Int))=N):(CW S5 ji [] N (sub Vz 0) (caS l rp m1 m2 i) (EY 0) {t:=qm 135 0 [(zeU 0 l),(4,fw),(5,eO 0),zeo],h:=caH m1 m2,m:=[]}):=yx [E6 (IW [0,4,5,8])] [.b oA]
abbrev CaE:=(uS×Int)×Nat
def caE(l:iN)(e:CaE)(s:IM×IM):(IM×IM)⊕Unit:=caF l (e.2:Int) e.1.2 e.1.1 s
def caL(l:iN)(rp:bV):List CaE:=(l.zip rp).zipIdx
abbrev caZ(l:iN)(s:IM×IM):AS:={t:=qm 135 0 [(zeU 0 l),(4,fw),(5,eO 0),zeo],h:=caH s.1 s.2,m:=[]}
def Sx(l:iN)(rp:bV):Exit×AS:=bf (EY 0) (caZ l) caX (xz (caE l) (caL l rp) ([],[]))
theorem ca_cw(hl:ah l)(hr:rp.length=l.length):CW S5 ji [] false (.loop (sub Vz 0)) (caS l (zaQ rp) [] [] 0) (Sx l rp).1 (Sx l rp).2:=by
 have hlen:(caL l rp).length=l.length:=by simp[caL,hr]
 have:=CW.each (P:=S5) (Γ:=ji) (h0:=[]) (rd:=false) (c:=sub Vz 0) (caL l rp) (caE l) (λi s=>caS l (zaQ rp) s.1 s.2 (i:Int)) (.exit 0) (caZ l) caX
  (λ_ s=>∀c v,ap s.2 c=some v->0<=v/\v<(l.length:Int)) (by simp) (λ_=>by simp) ?_ ?_ ([],[]) (by grind [ap])
 ·exact this
 ·rintro i ⟨⟨a,r⟩,n⟩ ⟨m1,m2⟩ hp hinv;obtain⟨hi,he⟩:=Td.1 hp;rw[hlen] at hi;have hi':i<rp.length:=by omega
  have e1:n=i/\a=l[i]/\r=rp[i]:=by have e2:=he.symm;simp[caL] at e2;obtain⟨⟨x1,x2⟩,x3⟩:=e2;exact⟨x3,x1,x2⟩
  obtain⟨rfl,ha,hrr⟩:=e1;have h1:l[n]? = some a:=by rw[ha];exact TH hi
  have h2:rp[n]? = some r:=by rw[hrr];exact TH hi'
  have q1:=rowAt (row:=Tb) (sz:=5) h1 rfl;have q2:=rowAt (row:=λn:Int=>[vi n]) (sz:=1) h2 rfl;have q3:=F1 Tb hi;have q4:=sV hi hl;refine⟨λs' h=>?_,?_⟩;·grind [caE,caF,Sum.inl.injEq,yg,Option.some.injEq]
  ·simp only[caE];by_cases hb:(!(fE (r>=0)&&fE (r<=2)))=true;·exact ca_bX (by rw[hb];rfl) q1 q2 q3 q4
   ·have:r=0\/r=1\/r=2:=by simp at hb;omega
    rcases this with h0|h0|h0;·rw[h0] at q2 ⊢;exact ca_b0 (λv hv=>hinv _ v hv) q1 q2 q3 q4
    ·rw[h0] at q2 ⊢;exact ca_b1 (λv hv=>hinv _ v hv) q1 q2 q3 q4
    ·rw[h0] at q2 ⊢;exact ca_b2 q1 q2 q3 q4
 ·rintro⟨m1,m2⟩ _;rw[hlen];exact Sw (aR Tb l)
abbrev cgH(m1 m2:IM)(out:iN):aT:=[eP GI,imB m1,imB m2,.eY (ad (out.map Tb)) 0 5]
abbrev zjn(a:Nat×D)(b c:D):bY:=qm 135 0 [zcS,(5,eO 0),zeo,a,(109,b),(110,c)]
abbrev cgS(l:iN)(m1 m2:IM)(out:iN)(i:Int):AS :={t:=(zjn (108,ab (l.map Tb)) (eO (l.map Tb).length) (eO i)),h:=cgH m1 m2 out,m:=[]}
def Sy(m2:IM)(i:Nat)(a:uS):Bool:=!(ap m2 a.f7).isSome||((ap m2 a.f7).getD 0==(i:Int))
def cgF(m2:IM)(e:uS×Nat)(out:iN):iN:=bif Sy m2 e.2 e.1 then out++[e.1] else out
theorem Sz{l:List uS}{out:List uS}(hr:ao (i:Int) (l.map Tb) a.row 5)(oA:fE ((i:Int)<((l.map Tb).length:Int))=true)(hw:S6.wrap ((i:Int)+1)=((i+1:Nat):Int))(ho:out.length<=1000000000):(CW S5 ji [] false (sub Vz 1) (cgS l m1 m2 out i) .normal (cgS l m1 m2 (cgF m2 (a,i) out) ((i+1:Nat):Int))):=by
 cases sR:!Tx (ap m2 a.f7)||TZ (ap m2 a.f7) 0==(↑i:Int)
 ·let v0:=TT [eO (TZ (ap m2 a.f7) 0),eR (Tx (ap m2 a.f7))]
  refine yX {t:=qm 135 0 [(4,.ref (.eY 3 0)),(5,eO 0),(8,.ref (.mp 2)),(108,ab (S2 Tb l)),(109,eO (↑(S7 (S2 Tb l)):Int)),(110,eO (S8 S6 ((↑i:Int)+1)))],h:=[.var [eR true,fq 297,eR true,fq 298,eR false,Us (Ws T5)],.map (aG 0 m1) (S7 m1),.map (aG 0 m2) (S7 m2),.eY (ad (S2 Tb out)) 0 5],m:=[]} Tr [.st (.mask [4,5,8,108,109,110]),.st (.ren 3 0),.st (.P1 4)] [.b oA,.r hr,(?_:@Eq (Option D) (aw S5 [.var [eR true,fq 297,eR true,fq 298,eR false,Us (Ws T5)],.map (aG 0 m1) (S7 m1),.map (aG 0 m2) (S7 m2),.eY (ad (S2 Tb out)) 0 5,.var [eO a.f7,eO a.eF,eO a.CX,eO a.NL,eO a.ia]] 168 (.ref (.mp 2)) (eO a.f7) true) (some v0)),.a1 (.ov 119 v0),.b sR,(?_:S2 (Tz (ar 3 0 0)) (ad (S2 Tb out))=ad (S2 Tb out)),(?_:S2 (λe=>(Ty (ar 3 0 0) e.fst,Ty (ar 3 0 0) e.2.fst,e.2.2)) (aG 0 m1)=aG 0 m1),(?_:S2 (λe=>(Ty (ar 3 0 0) e.fst,Ty (ar 3 0 0) e.2.fst,e.2.2)) (aG 0 m2)=aG 0 m2),(rfl:Tl 4 (match 0==3 with|true=>.eY (ad (S2 Tb out)) 0 5|false=>CV (ar 3 0 0) (.var [eR true,fq 297,eR true,fq 298,eR false,Us (Ws T5)]))=true),(?_:Tl 4 (match 0+1==3 with|true=>.eY (ad (S2 Tb out)) 0 5|false=>CV (ar 3 0 0) (.map (aG 0 m1) (S7 m1)))=true),(?_:Tl 4 (match 0+1+1==3 with|true=>.eY (ad (S2 Tb out)) 0 5|false=>CV (ar 3 0 0) (.map (aG 0 m2) (S7 m2)))=true),(?_:Tl 4 (match 0+1+1+1==3 with|true=>.eY (ad (S2 Tb out)) 0 5|false=>CV (ar 3 0 0) (.eY (ad (S2 Tb out)) 0 5))=true)] (by subst v0;grind) (by subst v0;(have hh:Sy m2 i a=false:=sR;simp only[cgF,hh,cond_false,hw];first|done|rfl))<;>subst v0<;>(first|exact lk2 rfl|exact ge|exact aB _ _|exact br|exact cK _ _ _)
 ·let v0:List D:=[eO a.f7,eO a.eF,eO a.CX,eO a.NL,eO a.ia]
  let v1:=TT [eO (TZ (ap m2 a.f7) 0),eR (Tx (ap m2 a.f7))]
  refine yX {t:=qm 135 0 [(4,.ref (.eY 3 0)),(5,eO 0),(8,.ref (.mp 2)),(108,ab (S2 Tb l)),(109,eO (↑(S7 (S2 Tb l)):Int)),(110,eO (S8 S6 ((↑i:Int)+1)))],h:=[.var [eR true,fq 297,eR true,fq 298,eR false,Us (Ws T5)],.map (aG 0 m1) (S7 m1),.map (aG 0 m2) (S7 m2),.eY (ad (S2 Tb out)++[v0]) 0 5],m:=[]} Tr [.st (.mask [4,5,8,108,109,110]),.st (.ren 3 0),.st (.P1 4)] [.b oA,.r hr,(?_:@Eq (Option D) (aw S5 [.var [eR true,fq 297,eR true,fq 298,eR false,Us (Ws T5)],.map (aG 0 m1) (S7 m1),.map (aG 0 m2) (S7 m2),.eY (ad (S2 Tb out)) 0 5,.var v0] 168 (.ref (.mp 2)) (eO a.f7) true) (some v1)),.a1 (.ov 119 v1),.b sR,(?_:(List.all [v0] (aL 5)&&uO (S7 (ad (S2 Tb out))+S7 [v0]) 40)=true),(?_:S2 (Tz (ar 3 1 0)) (ad (S2 Tb out)++[v0])=ad (S2 Tb out)++[v0]),(?_:S2 (λe=>(Ty (ar 3 1 0) e.fst,Ty (ar 3 1 0) e.2.fst,e.2.2)) (aG 0 m1)=aG 0 m1),(?_:S2 (λe=>(Ty (ar 3 1 0) e.fst,Ty (ar 3 1 0) e.2.fst,e.2.2)) (aG 0 m2)=aG 0 m2),pr [v0],(rfl:Tl 4 (match 0==3 with|true=>.eY (ad (S2 Tb out)++[v0]) 0 5|false=>CV (ar 3 1 0) (.var [eR true,fq 297,eR true,fq 298,eR false,Us (Ws T5)]))=true),(?_:Tl 4 (match 0+1==3 with|true=>.eY (ad (S2 Tb out)++[v0]) 0 5|false=>CV (ar 3 1 0) (.map (aG 0 m1) (S7 m1)))=true),(?_:Tl 4 (match 0+1+1==3 with|true=>.eY (ad (S2 Tb out)++[v0]) 0 5|false=>CV (ar 3 1 0) (.map (aG 0 m2) (S7 m2)))=true),(?_:Tl 4 (match 0+1+1+1==3 with|true=>.eY (ad (S2 Tb out)++[v0]) 0 5|false=>CV (ar 3 1 0) (.eY (ad (S2 Tb out)++[v0]) 1 5))=true)] (by subst v0 v1;grind) (by subst v0 v1;(have hh:Sy m2 i a=true:=sR;simp only[cgF,hh,cond_true,hw,u7];first|done|rfl))<;>subst v0 v1<;>(first|exact lk2 rfl|exact ge|exact cK _ _ _|(rw[u7];exact aB _ _)|(rw[u7];exact br)|(simp[aL,D.one,Value.oneCell',uO];omega))
abbrev zjg:bY:=qm 135 0 [zcS,(5,eO 0)]
theorem SA{out:iN}(oA:fE ((i:Int)<((l.map Tb).length:Int))=N):(CW S5 ji [] N (sub Vz 1) (cgS l m1 m2 out i) (EY 2) {t:=zjg,h:=cgH m1 m2 out,m:=[]}):=yx [E6 (IW [4,5])] [.b oA]
def Ai(l:iN)(m2:IM):iN:=l.zipIdx.foldl (λout e=>cgF m2 e out) []
theorem cg_cw{l:iN}(hl:l.length<=900000000){m1 m2:IM}:CW S5 ji [] false (.loop (sub Vz 1)) (cgS l m1 m2 [] 0) (.exit 2) {t:=zjg,h:=cgH m1 m2 (Ai l m2),m:=[]}:=by
 have hs:ah l:=by unfold ah;omega
 have:=CW.each (P:=S5) (Γ:=ji) (h0:=[]) (rd:=false) (c:=sub Vz 1) (σ:=iN) (ρ:=Empty) l.zipIdx (λe out=>.inl (cgF m2 e out))
  (λi out=>cgS l m1 m2 out (i:Int)) (.exit 2) (λout=>{t:=zjg,h:=cgH m1 m2 out,m:=[]}) (λr=>r.elim)
  (λi out=>out.length<=i) (by simp) (λr=>r.elim) ?_ ?_ [] (by simp)
 ·rw[aM (λout e=>cgF m2 e out)] at this;exact this
 ·rintro i ⟨a,n⟩ out hp hout;obtain⟨hi,he⟩:=Td.1 hp;simp at hi;have e1:a=l[i]/\n=i:=by simpa[eq_comm] using he.symm
  obtain⟨ha,rfl⟩:=e1;have h1:l[n]? = some a:=by rw[ha];exact TH hi
  refine⟨λs' h=>?_,Sz (rowAt h1 rfl) (F1 Tb hi) (sV hi hs) (by omega)⟩;grind [cgF]
 ·intro out _;rw[List.length_zipIdx];exact SA (aR Tb l)
def caR(l:iN)(rp:bV):(IM×IM)⊕Unit:=xz (caE l) (caL l rp) ([],[])
theorem B7:Sx l rp=bf (EY 0) (caZ l) caX (caR l rp):=rfl
def nj(l:iN)(rp:bV):iN×Int :=bif fE (eL l=0) then (bif fE (rp.length=l.length) then (match caR l rp with | .inl s=>(Ai l s.2,0) | .inr _=>([],1)) else ([],1)) else ([],eL l)
theorem vC(h:(eL l != 0)=J):nj l rp=([],eL l):=by
 have h':eL l≠0:=by simpa using h
 simp[nj,h']
theorem Lv(h1:(eL l != 0)=N)(h2:rp.length≠l.length):nj l rp=([],1):=by
 have h':eL l=0:=by simpa using h1
 simp[nj,h',h2]
theorem Lw(h1:(eL l != 0)=N)(h2:rp.length=l.length)(h3:caR l rp=.inr u):nj l rp=([],1):=by
 have h':eL l=0:=by simpa using h1
 simp[nj,h',h2,h3]
theorem SB(h1:(eL l != 0)=false)(h2:rp.length=l.length){s:IM×IM}(h3:caR l rp=.inl s):nj l rp=(Ai l s.2,0):=by
 have h':eL l=0:=by simpa using h1
 simp[nj,h',h2,h3]
theorem len_ne(h2:rp.length≠l.length):(((zaQ rp).length:Int) != ((l.map Tb).length:Int))=true:=by simp;omega
theorem MP(h2:rp.length=l.length):(((zaQ rp).length:Int) != ((l.map Tb).length:Int))=false:=by simp;omega
theorem Lx(b n:Nat)(rows:bv)(m:IM)(k:Nat):(aG k m).map (λe=>(Ty (cw b n rows) e.1,Ty (cw b n rows) e.2.1,e.2.2))=aG k m:=by
 induction m generalizing k with
 |nil=>rfl
 |cons e m ih=>simp only[aG,List.map_cons,ih];rfl
theorem cnt_e1(hs:ah l)(hz:(eL l != 0)=J)(h:aT):(Ev S5 ji 166 [ab (l.map Tb),ab (zaQ rp)] h (uN [ab [],eO (eL l)]) h):=Tw (U7 (y0 (d:=TT [nq,eO (eL l)]) [.v (@eu l hs ([])),.b hz] h)) Fb Fb
theorem cnt_e2(hs:ah l)(hz:(eL l != 0)=N)(hne:(((zaQ rp).length:Int) != ((l.map Tb).length:Int))=J)(h:aT):(Ev S5 ji 166 [ab (l.map Tb),ab (zaQ rp)] h (uN [ab [],eO 1]) h):=Tw (U7 (y0 (d:=TT [nq,eO 1]) [.v (@eu l hs ([])),.b hz,.b hne] h)) Fb Fb
theorem aErr0(hz:(eL l != 0)=N):eL l=0:=by simpa using hz
abbrev caS2(l:iN)(rp:bv)(z:Int):AS :=(zi7 l rp z 0 (caH [] []))
theorem HP{l:iN}(hs:ah l){rp:bV}(hr:rp.length=l.length){u:Unit}(hc:caR l rp=.inr u)(hz:(eL l != 0)=false):CW S5 ji [] false (.loop (sub Vz 0)) (caS2 l (zaQ rp) (eL l)) .ret {t:=qm 135 0 [(4,fw),(5,eO 1)],h:=[],m:=[]}:=by have:=ca_cw hs hr;rw[B7,hc] at this;rw[aErr0 hz];exact this
theorem cnt_e3(hs:ah l)(hr:rp.length=l.length)(hc:caR l rp=.inr u)(hz:(eL l != 0)=N)(hne:(((zaQ rp).length:Int) != ((l.map Tb).length:Int))=N)(h:aT):(Ev S5 ji 166 [ab (l.map Tb),ab (zaQ rp)] h (uN [ab [],eO 1]) h):=by have xd:=(@HP (l) (hs) (rp) (hr) (u) (hc) (hz));exact Tw (U7 (y0 (d:=TT [nq,eO 1]) [.v (@eu l hs ([])),.b hz,.b hne,.v (@BA ([])),.s [0,1,4,5,6,7,8,32,33,34] xd] h)) Fb Fb
theorem Ly{l:iN}(hs:ah l){rp:bV}(hr:rp.length=l.length){m1 m2:IM}(hc:caR l rp=.inl (m1,m2))(hz:(eL l != 0)=false):CW S5 ji [] false (.loop (sub Vz 0)) (caS2 l (zaQ rp) (eL l)) (.exit 0) (caZ l (m1,m2)):=by have:=ca_cw hs hr;rw[B7,hc] at this;rw[aErr0 hz];exact this
theorem cnt_ok(hs:ah l)(hl:l.length<=900000000)(hr:rp.length=l.length)(hc:caR l rp=.inl (m1,m2))(hz:(eL l != 0)=false)(hne:(((zaQ rp).length:Int) != ((l.map Tb).length:Int))=false)(h:aT):(Ev S5 ji 166 [ab (l.map Tb),ab (zaQ rp)] h (.Pp [ab ((Ai l m2).map Tb),eO 0]) h):=by have xd:=(@Ly (l) (hs) (rp) (hr) (m1) (m2) (hc) (hz));have hl1:=(@cg_cw (l) (hl) (m1) (m2));let v0:=S2 Tb (Ai l m2);refine Tw (U7 (y0 (d:=TT [ab v0,eO 0]) [.v (@eu l hs ([])),.b hz,.b hne,.v (@BA ([])),.s [0,1,4,5,6,7,8,32,33,34] xd,.n 1,.o (.zoL 4 5),.s [4,5,8,108,109,110] hl1,((by subst v0;grind):ad v0=S2 (λx=>S2 Us x) v0),(?_:(zaC 3 v0 (aG 0 m1))=aG 0 m1),(?_:(zaC 3 v0 (aG 0 m2))=aG 0 m2),.o (.mask [4,5]),.o (.frz 3 v0),.o (.P1 0)] h)) (by rfl) (by rfl)<;>subst v0<;>(exact Lx _ _ _ _ _)
theorem cnt_ev{l:iN}(hl:l.length<=900000000){rp:bV}(h:aT):Ev S5 ji 166 [ab (l.map Tb),ab (zaQ rp)] h (uN [ab ((nj l rp).1.map Tb),eO (nj l rp).2]) h:=by
 have hs:ah l:=by unfold ah;omega
 cases hz:(eL l != 0)
 ·by_cases hr:rp.length=l.length
  ·cases hc:caR l rp with
   |inl s=>obtain⟨m1,m2⟩:=s;rw[SB hz hr hc];exact cnt_ok hs hl hr hc hz (MP hr) h
   |inr u=>rw[Lw hz hr hc];exact cnt_e3 hs hr hc hz (MP hr) h
  ·rw[Lv hz hr];exact cnt_e2 hs hz (len_ne hr) h
 ·rw[vC hz];exact cnt_e1 hs hz h
abbrev cvV(xs:bV):List (bY):=ad (zaQ xs)
abbrev cvS(w:eQ)(bO eF:Int)(as_:bv)(rs:iF)(xs:bV)(i:Int):AS :={t:=qm 36 0 [zdM,(1,ab as_),(2,eO eF),zcU,(14,ab as_),(15,eO as_.length),(16,eO i)],h:=lkH w bO rs 1++[.eY (cvV xs) 0 1],m:=[]}
theorem Lz(hb:h[2]?=G (.eY (cvV xs) 0 1))(hi:i<xs.length):aY S5 h 3 (gM (zdi 2 (i:Int))) (eO v)=G (h.set 2 (.eY (cvV (xs.set i v)) 0 1)):=by
 have e1:(cvV xs)[S9 (i:Int)]?=G [eO xs[i]]:=by simp[ad,hi]
 have e2:γ S5 3=G 1:=Z
 have e3:(cvV xs).set (S9 (i:Int)) [eO v]=cvV (xs.set i v):=by simp[ad,List.map_set]
 unfold aY;simp only[eO,D.cells,e2,hb,e1];rw[<-e3];rfl
theorem cv_inR(hi:i<xs.length):Ps (i:Int) (cvV xs).length=J:=by simp[Ps,ad];omega
noncomputable abbrev tJ(w:eQ)(bO:Int)(eF:Int)(a:uS)(rs:iF)(xs:bV):aT:=[eP (ZQ 2 w bO),.eY (zcL rs 1 a.f7 eF) 2 5,.eY (cvV xs) 0 1,eP (ZL a)]
abbrev zaY(b:Nat)(c:List (bY))(d e f:Nat)(g:bY):ql:=(zhp 0 b c d e f (eP g))
theorem SC(hw:w.ok){rs:iF}(hi:i<xs.length)(hr:ao (i:Int) as_ a.row 5)(oA:fE ((i:Int)<(as_.length:Int))=J)(hwr:S6.wrap ((i:Int)+1)=((i+1:Nat):Int))(hb:rs.length<=999998000):(CW S5 lL (lkH w bO rs0 0) N (sub Zi 0) (cvS w bO eF as_ rs xs i) w8 (cvS w bO eF as_ (rs++rdT 1 a.f7 0 eF) (xs.set i (ac w a.f7 eF bO).1.rep) ((i+1:Nat):Int))):=by let v0:=List.set xs i (ac w a.f7 eF bO).fst.rep;let v1:bY:=(ZQ 1 w bO);let v2:bY:=(ZQ 2 w bO);let v3:bY:=(ZL a);refine yX {t:=qm 36 0 [zdM,(1,ab as_),(2,eO eF),zcU,(14,ab as_),(15,(zdp as_)),(16,(ZZ i))],h:=[eP v1,.eY (zcL rs 1 a.f7 eF) 1 5,.eY (cvV v0) 0 1],m:=[]} Tr (zc9 [0,1,2,8,14,15,16] 1 1 3) [.b oA,.r hr,.c ((fX [0,1] (Ev.upX [0,1] (@qO w hw bO (a.f7) eF rs (by subst v0 v1 v2 v3;grind)) Z ⟨(by subst v0 v1 v2 v3;exact aj _ _),trivial⟩ ⟨(by subst v0 v1 v2 v3;exact aj _ _),trivial⟩) ⟨(by subst v0 v1 v2 v3;exact aj _ _),trivial⟩ ⟨(by subst v0 v1 v2 v3;exact aj _ _),trivial⟩):Ev S5 lL 163 (zbF 0 a.f7 eF) [eP v1,.eY (ad (sU rs)) 1 5,.eY (cvV xs) 0 1,eP v3] (TF (ZC w a.f7 eF bO)) (tJ w bO eF a rs xs)),(?_:Ps (↑i:Int) (S7 (cvV xs))=J),(?_:@Eq (Option (aT)) (aY S5 (tJ w bO eF a rs xs) 3 (zaW 2 i) (eO (ac w a.f7 eF bO).fst.rep)) (G [eP v2,.eY (zcL rs 1 a.f7 eF) 2 5,.eY (cvV v0) 0 1,eP v3])),(vM (zjW rs a.f7 eF) 1 2 1),(?_:S2 (Tz (ar 1 2 1)) (cvV v0)=cvV v0),(rfl:Tl 3 (zaY 1 (ad (zjW rs a.f7 eF)) 1 5 2 v2)=J),(iV 3 (zjW rs a.f7 eF) 1 5),(?_:(zae 3 0 1 (ad (zjW rs a.f7 eF)) 1 5 2 (.eY (cvV v0) 0 1))=J),.a1 (.oh 10029 Zh (lkH w bO (rs++rdT 1 a.f7 0 eF) 2++[.eY (cvV v0) 0 1,eP (S2 Us (Tb a))]))] (by subst v0 v1 v2 v3;grind) (by subst v0 v1 v2 v3;grind)<;>subst v0 v1 v2 v3<;>(first|exact Lz rfl hi|exact cv_inR hi|exact aB _ _|exact br)
theorem SD{rs:iF}(oA:fE ((i:Int)<(as_.length:Int))=N):(CW S5 lL (lkH w bO rs0 0) N (sub Zi 0) (cvS w bO eF as_ rs xs i) (EY 0) {t:=qm 36 0 [(1,ab as_),zcU],h:=lkH w bO rs 1++[.eY (cvV xs) 0 1],m:=[]}):=yx [E6 (IW [1,8])] [.b oA]
def jm(w:eQ)(bO eF:Int)(l:iN):bV:=l.map λa=>(ac w a.f7 eF bO).1.rep
def j8(eF:Int)(l:iN):iF:=l.flatMap λa=>rdT 1 a.f7 0 eF
theorem lM(eF:Int):∀l:iN,(j8 eF l).length<=l.length
 | []=>by simp[j8]
 | a::l=>by have:=lM eF l;have:=fk 1 a.f7 0 eF;grind [j8,List.length_append,List.length_cons]
theorem SE{f:uS->Int}(hi:i<l.length)(ha:l[i]? = some a):((l.take i).map f++Ti (l.length-i) 0).set i (f a)=(l.take (i+1)).map f++Ti (l.length-(i+1)) 0:=by
 have e1:l.length-i=(l.length-(i+1))+1:=by omega
 rw[List.set_append_right _ _ (by simp;omega),List.take_add_one,ha,e1,List.replicate_succ];have:i-((l.take i).map f).length=0:=by simp;omega
 grind
theorem cv_cw{w:eQ}(hw:w.ok){bO eF:Int}{l:iN}(hl:l.length<=90000000){rs0 rs:iF}(hb:rs.length<=900000000){V:List (bY)}(hV:V=cvV (Ti l.length 0)):CW S5 lL (lkH w bO rs0 0) false (.loop (sub Zi 0)) {t:=qm 36 0 [zdM,(zeU 1 l),(2,eO eF),zcU,(14,ab (l.map Tb)),(15,eO (l.map Tb).length),(16,eO 0)],h:=lkH w bO rs 1++[.eY V 0 1],m:=[]} (.exit 0) {t:=qm 36 0 [(zeU 1 l),zcU],h:=lkH w bO (rs++j8 eF l) 1++[.eY (cvV (jm w bO eF l)) 0 1],m:=[]}:=by
 subst hV;have hs:ah l:=by unfold ah;omega
 have:=CW.zmB (P:=S5) (Γ:=lL) (h0:=lkH w bO rs0 0) (rd:=false) (c:=sub Zi 0) l.length
  (λi=>cvS w bO eF (l.map Tb) (rs++j8 eF (l.take i)) ((l.take i).map (λa=>(ac w a.f7 eF bO).1.rep)++Ti (l.length-i) 0) (i:Int)) (e:=.exit 0) (s':={t:=qm 36 0 [(zeU 1 l),zcU],h:=lkH w bO (rs++j8 eF l) 1++[.eY (cvV (jm w bO eF l)) 0 1],m:=[]}) (by simp) ?_ ?_
 ·have e0:rs++j8 eF (l.take 0)=rs:=by simp[j8]
  grind
 ·intro i hi;have ha:l[i]? = some l[i]:=TH hi;have key:=SC hw (bO:=bO) (eF:=eF) (rs0:=rs0) (rs:=rs++j8 eF (l.take i)) (xs:=(l.take i).map (λa=>(ac w a.f7 eF bO).1.rep)++Ti (l.length-i) 0) (i:=i) (by simp;omega) (rowAt ha rfl) (F1 Tb hi) (sV hi hs) (by have:=lM eF (l.take i);grind);rw[SE (f:=λa=>(ac w a.f7 eF bO).1.rep) hi ha] at key;have e2:j8 eF (l.take (i+1))=j8 eF (l.take i)++rdT 1 l[i].f7 0 eF:=by unfold j8;rw[List.take_add_one,ha,Option.toList_some,List.flatMap_append,List.flatMap_singleton]
  grind
 ·have:=SD (w:=w) (bO:=bO) (eF:=eF) (as_:=l.map Tb) (rs0:=rs0) (rs:=rs++j8 eF l) (xs:=jm w bO eF l) (i:=l.length) (aR Tb l);have e3:l.map (λa=>(ac w a.f7 eF bO).1.rep)++Ti (l.length-l.length) 0=jm w bO eF l:=by simp[jm]
  grind
theorem makeV(l:iN):Ti (S9 ((l.map Tb).length:Int)) [eO 0]=cvV (Ti l.length 0):=by simp[ad]
theorem HQ(f:Ref->D)(n:Nat):(Ti n [eO 0]).map (Tz f)=Ti n [eO 0]:=by rw[List.map_replicate];rfl
theorem SF(xs:bV):cvV xs=(zaQ xs).map (S2 Us):=by simp[ad]
noncomputable abbrev rn(w:eQ)(bO:Int)(eF:Int)(l:iN)(rs:iF):aT:=[eP (ZQ 1 w bO),.eY (zct rs (j8 eF l)) 1 5]
theorem B8(hw:w.ok)(hl:l.length<=90000000){rs:iF}(hb:rs.length<=900000000):(Ev S5 lL 92 [gM (qn 0 0),ab (l.map Tb),eO eF] (lkH w bO rs 0) (uN [ab ((nj l (jm w bO eF l)).1.map Tb),eO (nj l (jm w bO eF l)).2]) (lkH w bO (rs++j8 eF l) 1)):=by have xd:=(@cv_cw (w) (hw) (bO) (eF) (l) (hl) (rs) (rs) (hb) (zcH (S7 (S2 Tb l)) (ziz)) (by first|assumption|rfl|omega|exact makeV _|exact HQ _ _|exact SF _|exact aB _ _|exact br|(simp;omega)));let v0:=S7 (S2 Tb l);let v1:=ziz;refine Tw (yF (h':=(rn w bO eF l rs)) (d:=TT [ab (S2 Tb (nj l (jm w bO eF l)).fst),eO (nj l (jm w bO eF l)).2]) [((by subst v0 v1;grind):(fE (0<=(↑v0:Int))&&fE ((↑v0:Int)<=(↑v0:Int))&&fE ((↑v0:Int)*(↑8:Int)<=281474976710656)&&fE ((↑v0:Int)<=281474976710656))=J),(?_:S2 (Tz (ar 1 0 1)) (ad (sU rs))=ad (sU rs)),(?_:S2 (Tz (ar 1 0 1)) (Ti (S9 (↑v0:Int)) v1)=Ti (S9 (↑v0:Int)) v1),.n 3,.o (.ren 1 1),.s [0,1,2,8,14,15,16] xd,((by subst v0 v1;grind):cvV (jm w bO eF l)=S2 (λx=>S2 Us x) (S2 (λn=>[vi n]) (jm w bO eF l))),(?_:S2 (Tz (cw 2 0 (zcd (jm w bO eF l)))) (zct rs (j8 eF l))=ad (sU (rs++j8 eF l))),(rfl:Tl 2 (zib 0 2 0 (zcd (jm w bO eF l)) (eP (ZQ 1 w bO)))=J),(?_:Tl 2 (match 0+1==2 with|true=>.EZ|false=>CV (cw 2 0 (zcd (jm w bO eF l))) (zb8 (rs++j8 eF l) 1))=J),.o (IW [1,8]),.o (Λ 2 (zcd (jm w bO eF l))),.o (zlw 2),.v (Tp (Γ':=lL) (@cnt_ev l (by subst v0 v1;grind) (jm w bO eF l) (rn w bO eF l rs)))]) Fb Fb<;>subst v0 v1<;>(first|exact HQ _ _|exact aB _ _|exact br)
def vD(r:Pq)(eF:Int):Bool:=eK r != 0||!(fE (eF>=0)&&fE (eF<=1023))
def rcX(b:Bool)(e:Int)(L:iN)(rr:iF):iN×iF×Int:=match b with
 |true=>([],[],150)
 |false=>match (e != 0) with
  |true=>([],[],e)
  |false=>(L,rr,0)
noncomputable abbrev yz(w:eQ)(r:Pq)(bO:Int)(rr:iF):aT:=[eP (ZA w),eP (zaM r),eP (zhl 3 1 w bO),.eY (ad (sU rr)) 1 5]
noncomputable abbrev yA(w:eQ)(r:Pq)(bO:Int):aT:=[eP (ZA w),eP (zaM r),eP (zhl 3 0 w bO),.eY [] 0 5]
noncomputable abbrev gk(w:eQ)(r:Pq):aT:=[eP (ZA w),eP (zaM r)]
abbrev zf7(b:Nat)(c:iN)(d:Int):bY:=[gM (qn b 0),ab (S2 Tb c),eO d]
abbrev zjc(a:iN)(b:Int):D:=(TT [ab (S2 Tb a),eO b])
theorem rcnt_a(hr:ah r.a){rr:iF}(hc:Ev S5 lL 92 [gM (qn 0 0),ab (r.a.map Tb),eO eF] (lkH w bO [] 0) (uN [ab (L.map Tb),eO e]) (lkH w bO rr 1))(h:aT):(Ev S5 lL 43 [mS w.l,mS r.l,eO eF,eO bO] h (uN [ab ((rcX (vD r eF) e L rr).1.map Tb),ab (sU (rcX (vD r eF) e L rr).2.1),eO (rcX (vD r eF) e L rr).2.2]) h):=by
 cases sR:eK r != 0||!(fE (eF>=0)&&fE (eF<=1023))
 ·cases Jw:e != 0;·exact Tw (U7 (y0 (d:=TT [ab (S2 Tb L),ab (sU rr),eO 0]) [.v (Tp (Γ':=lL) (@nb r hr (gk w r))),.w (!eK r != 0) (Tp (Γ':=lL) (@bc eF 0 1023 (gk w r))),.b sR,.n 1,.o (.zhs 2 0 5),.c ((fX [2,3] (@hc) ⟨mW,trivial⟩ ⟨(by exact aj _ _),trivial⟩):Ev S5 lL 92 (zf7 2 r.a eF) (yA w r bO) (zjc L e) (yz w r bO rr)),(mW:ad (sU rr)=S2 (λx=>S2 Us x) (sU rr)),.o (Λ 3 (sU rr)),.b Jw] h)) (by(have hh:vD r eF=N:=sR;have h2:(e != 0)=N:=Jw;simp[rcX,hh,h2];rfl)) Fb
  ·exact Tw (U7 (y0 (d:=TT [nq,nq,eO e]) [.v (Tp (Γ':=lL) (@nb r hr (gk w r))),.w (!eK r != 0) (Tp (Γ':=lL) (@bc eF 0 1023 (gk w r))),.b sR,.n 1,.o (.zhs 2 0 5),.c ((fX [2,3] (@hc) ⟨mW,trivial⟩ ⟨(by exact aj _ _),trivial⟩):Ev S5 lL 92 (zf7 2 r.a eF) (yA w r bO) (zjc L e) (yz w r bO rr)),(mW:ad (sU rr)=S2 (λx=>S2 Us x) (sU rr)),.o (Λ 3 (sU rr)),.b Jw] h)) (by(have hh:vD r eF=N:=sR;have h2:(e != 0)=J:=Jw;simp only[rcX,hh,h2];rfl)) Fb
 ·exact Tw (U7 (y0 (d:=TT [nq,nq,eO 150]) [.v (Tp (Γ':=lL) (@nb r hr (gk w r))),.w (!eK r != 0) (Tp (Γ':=lL) (@bc eF 0 1023 (gk w r))),.b sR] h)) (by(have hh:vD r eF=J:=sR;simp only[rcX,hh];rfl)) Fb
def cN(w:eQ)(r:Pq)(eF bO:Int):iN×iF×Int :=rcX (vD r eF) (nj r.a (jm w bO eF r.a)).2 (nj r.a (jm w bO eF r.a)).1 (j8 eF r.a)
theorem HR(hw:w.ok)(hr:r.a.length<=90000000)(h:List ql):Ev S5 lL 43 [.agg w.l,.agg r.l,eO eF,eO bO] h (.Pp [ab ((cN w r eF bO).1.map Tb),ab (sU (cN w r eF bO).2.1),eO (cN w r eF bO).2.2]) h :=
 rcnt_a (by unfold ah;omega) (by have:=B8 hw (bO:=bO) (eF:=eF) (l:=r.a) hr (rs:=[]) (by simp);grind) h
abbrev vwH(w:eQ)(eF bO:Int)(rs:iF)(e:Nat):aT:=[eP [gM (.eY 1 e),ab (w.c.map Tc),ab w.p,ab (w.s.map Tj),ab (w.f.map Ta),eO eF,eO bO],.eY (ad (sU rs)) e 5]
abbrev zhn(a b:Nat)(c:eQ)(d e:Int):bY:=[gM (.eY a b),(ZX c),ab c.p,(ZY c),(ZU c),eO d,eO e]
theorem fJ{w:eQ}{eF bO:Int}{rs qs:iF}(hb:rs.length+qs.length<=1000000000):(Ev S5 lL 122 (zdI qs) (vwH w eF bO rs 0) (uN []) (vwH w eF bO (rs++qs) 1)):=Tw (yF (h':=[eP (zhn 1 1 w eF bO),.eY (zkd rs (ZW qs)) 1 5]) (d:=TT []) [((by(simp only[Qa,uO,Bool.true_and,Bool.and_eq_true,decide_eq_true_eq,List.length_map];omega)):(List.all (S2 (λx=>S2 Us x) (sU qs)) (aL 5)&&uO (S7 (ad (sU rs))+S7 (S2 (λx=>S2 Us x) (sU qs))) 40)=J)]) mW mW
noncomputable abbrev Aj(w:eQ)(eF:Int)(bO:Int)(rs:iF):aT:=[eP (zhn 1 0 w eF bO),.eY (ad (sU rs)) 0 5,eP [nq,nq,nq,nq],eP [nq,nq,nq,nq]]
noncomputable abbrev j5(w:eQ)(eF:Int)(bO:Int)(rs:iF):aT:=[eP (zhn 1 0 w eF bO),.eY (ad (sU rs)) 0 5,eP [nq,nq,nq,nq]]
theorem LA(hw:w.ok){rs:iF}(hb:rs.length<=999999000):(Ev S5 lL 54 za8 (vwH w eF bO rs 0) (ag (bU w eF bO).1.row) (vwH w eF bO (rs++rdT 4 0 0 eF) 1)):=by let v0:bY:=[ab (S2 Cls.row (bU w eF bO).fst.Pr),ab (S2 ν.row (bU w eF bO).fst.zjL),ab (S2 Cls.row (bU w eF bO).fst.ZO),ab (S2 A7.row (bU w eF bO).fst.clauses)];let v1:bY:=(zhn 1 1 w eF bO);refine Tw (Yd (d2:=TF v0) (h2:=[eP v1,.eY (zcL rs 4 0 eF) 1 5]) (φ:=[Tl 2 (eP v1)=J,Tl 2 (zb8 (rs++rdT 4 0 0 eF) 1)=J]) zg3 (yF (h':=[eP v1,.eY (zcL rs 4 0 eF) 1 5,eP v0,eP v0]) (d:=TF v0) [.v (@na w hw eF bO (j5 w eF bO rs)),pe Θ,pe Θ,pe zcM,pe zcM,pe (TF (TC w)),pe (TF (TC w)),pe Θ,pe Θ,pe zdv,pe zdv,po (TO eF),po (TO eF),pe Θ,pe Θ,pe zdw,pe zdw,po (TO bO),po (TO bO),pr (j5 w eF bO rs),(@na w hw eF bO (j5 w eF bO rs)),(@na w hw eF bO (Aj w eF bO rs)),.c ((fX [0,1] (@fJ w eF bO rs (rdT 4 0 0 eF) (by subst v0 v1;(have:=fk 4 0 0 eF;omega))) ⟨?_,trivial⟩ ⟨?_,trivial⟩):Ev S5 lL 122 [gM (qn 0 0),ab (sU (rdT 4 0 0 eF))] [eP (zhn 1 0 w eF bO),.eY (ad (sU rs)) 0 5,eP [nq,nq,nq,nq],eP v0] (TT []) [eP v1,.eY (zcL rs 4 0 eF) 1 5,eP [nq,nq,nq,nq],eP v0])]) Z ⟨rfl,(by subst v0 v1;exact aD _ _),trivial⟩) (by subst v0 v1;rfl) (by subst v0 v1;grind)<;>subst v0 v1<;>(exact aj _ _)
abbrev minE(x:Int):Int:=if N=J then if 10000>x then 10000 else x else if 10000<x then 10000 else x
structure VwX where
 CE:Int
 n:Int
 d:Int
 e:Int
 q:iF
def vwX(q1 q2:iF)(e1 e2 ea CE n d e:Int):VwX:=match e1 != 0 with
 |true=>⟨0,0,0,e1,q1⟩
 |false=>match e2 != 0 with
  |true=>⟨0,0,0,e2,q1++q2⟩
  |false=>match ea != 0 with
   |true=>⟨0,0,0,ea,q1++q2⟩
   |false=>⟨minE CE,n,d,e,q1++q2⟩
noncomputable abbrev dy(w:eQ)(eF:Int)(bO:Int)(rs:iF)(r:Pq)(q1:iF)(q2:iF):aT:=[eP (zhn 1 2 w eF bO),.eY (zdJ rs q1 q2) 2 5,eP [eO 0,eO 0],eP (zaM r)]
noncomputable abbrev ce(w:eQ)(eF:Int)(bO:Int)(rs:iF)(r:Pq)(q1:iF):aT:=[eP (zhn 1 1 w eF bO),.eY (zct rs q1) 1 5,eP [eO 0,eO 0],eP (zaM r)]
noncomputable abbrev jn(w:eQ)(eF:Int)(bO:Int)(rs:iF)(r:Pq):aT:=[eP (zhn 1 0 w eF bO),.eY (ad (sU rs)) 0 5,eP [eO 0,eO 0],eP (zaM r)]
noncomputable abbrev jo(w:eQ)(eF:Int)(bO:Int)(rs:iF):aT:=[eP (zhn 1 0 w eF bO),.eY (ad (sU rs)) 0 5,eP [eO 0,eO 0],eP [eO 0,nq]]
noncomputable abbrev bL(w:eQ)(eF:Int)(bO:Int)(rs:iF):aT:=[eP (zhn 1 0 w eF bO),.eY (ad (sU rs)) 0 5,eP [eO 0,eO 0]]
abbrev zfE:Do:=[E6 (.ren 1 1),E6 (zlw 2)]
abbrev ziZ(a:Int):D:=TT [eO 0,zd6,eO a]
theorem SG{rs:iF}{q1 q2:iF}{e1 e2 ea CE d:Int}(hb:rs.length+q1.length+q2.length<=1000000000)(h1:∀h,Ev S5 lL 41 (zbE w st eF bO) h (uN [mS r.l,ab (sU q1),eO e1]) h)(h2:∀h,Ev S5 lL 43 [mS w.l,mS r.l,eO eF,eO bO] h (uN [ab (L.map Tb),ab (sU q2),eO e2]) h)(h3:∀h,Ev S5 lL 50 (zc5 L) h (uN [eO CE,eO ea]) h)(h4:∀h,Ev S5 lL 51 (zc5 L) h (uN [mS [eO n,eO d],eO e]) h):(Ev S5 lL 56 (zde 0 st) (vwH w eF bO rs 0) (uN [eO (vwX q1 q2 e1 e2 ea CE n d e).CE,mS [eO (vwX q1 q2 e1 e2 ea CE n d e).n,eO (vwX q1 q2 e1 e2 ea CE n d e).d],eO (vwX q1 q2 e1 e2 ea CE n d e).e]) (vwH w eF bO (rs++(vwX q1 q2 e1 e2 ea CE n d e).q) 1)):=by
 cases sR:e1 != 0
 ·cases Jw:e2 != 0
  ·cases hc2:ea != 0;·let v0:bY:=(zhn 1 2 w eF bO);let v1:bY:=[(ZM 10000 CE),TF [eO n,eO d],eO e];refine Tw (Yd (d2:=TT v1) (h2:=[eP (zhn 1 1 w eF bO),.eY (zdJ rs q1 q2) 1 5]) (φ:=[S2 (Tz (ar 1 2 1)) (zdJ rs q1 q2)=ad (sU (rs++q1++q2)),Tl 2 (zaY 1 (ad (sU (rs++q1++q2))) 1 5 2 v0)=J,Tl 2 (ZT 0 1 (ad (sU (rs++q1++q2))) 1 5 2)=J]) zfE (yF (h':=[eP v0,.eY (zdJ rs q1 q2) 2 5,eP [eO n,eO d],eP (zaM r)]) (d:=TT v1) [.v (@h1 (bL w eF bO rs)),pe Θ,pe Θ,pe zcM,pe zcM,pe (TF (TC w)),pe (TF (TC w)),pe Θ,pe Θ,pe zdv,pe zdv,po (TO eF),po (TO eF),pe Θ,pe Θ,pe zdw,pe zdw,po (TO bO),po (TO bO),pr (bL w eF bO rs),(@h1 (bL w eF bO rs)),(@h1 (jo w eF bO rs)),.c ((fX [0,1] (@fJ w eF bO rs q1 (by subst v0 v1;omega)) ⟨?_,trivial⟩ ⟨?_,trivial⟩):Ev S5 lL 122 (zdI q1) (jn w eF bO rs r) (TT []) (ce w eF bO rs r q1)),.b sR,.v (@h2 (ce w eF bO rs r q1)),.c ((fX [0,1] (Ev.upX [0,1] (@fJ w eF bO (rs++q1) q2 (by subst v0 v1;(simp;omega))) Z ⟨?_,trivial⟩ ⟨?_,trivial⟩) ⟨?_,trivial⟩ ⟨?_,trivial⟩):Ev S5 lL 122 (zdI q2) (ce w eF bO rs r q1) (TT []) (dy w eF bO rs r q1 q2)),.b Jw,.v (@h3 (dy w eF bO rs r q1 q2)),.b hc2,.v (@h4 (dy w eF bO rs r q1 q2)),pe (TF [eO n,eO d])]) Z ⟨(by subst v0 v1;exact aB _ _),rfl,(by subst v0 v1;exact aD _ _),trivial⟩) (by subst v0 v1;(simp[vwX,sR,Jw,hc2];first|done|rfl)) (by subst v0 v1;(simp[vwX,sR,Jw,hc2];first|done|rfl))<;>subst v0 v1<;>(exact aj _ _)
   ·refine Tw (Yd (d2:=(ziZ ea)) (h2:=[eP (zhn 1 1 w eF bO),.eY (zdJ rs q1 q2) 1 5]) (φ:=[S2 (Tz (ar 1 2 1)) (zdJ rs q1 q2)=ad (sU (rs++q1++q2)),Tl 2 (zjv 0 1 (zdJ rs q1 q2) 1 5 2 (eP (zhn 1 2 w eF bO)))=J,Tl 2 (ZT 0 1 (ad (sU (rs++q1++q2))) 1 5 2)=J]) zfE (yF (h':=(dy w eF bO rs r q1 q2)) (d:=(ziZ ea)) [.v (@h1 (bL w eF bO rs)),pe Θ,pe Θ,pe zcM,pe zcM,pe (TF (TC w)),pe (TF (TC w)),pe Θ,pe Θ,pe zdv,pe zdv,po (TO eF),po (TO eF),pe Θ,pe Θ,pe zdw,pe zdw,po (TO bO),po (TO bO),pr (bL w eF bO rs),(@h1 (bL w eF bO rs)),(@h1 (jo w eF bO rs)),.c ((fX [0,1] (@fJ w eF bO rs q1 lj) ⟨?_,trivial⟩ ⟨?_,trivial⟩):Ev S5 lL 122 (zdI q1) (jn w eF bO rs r) (TT []) (ce w eF bO rs r q1)),.b sR,.v (@h2 (ce w eF bO rs r q1)),.c ((fX [0,1] (Ev.upX [0,1] (@fJ w eF bO (rs++q1) q2 (by(simp;omega))) Z ⟨?_,trivial⟩ ⟨?_,trivial⟩) ⟨?_,trivial⟩ ⟨?_,trivial⟩):Ev S5 lL 122 (zdI q2) (ce w eF bO rs r q1) (TT []) (dy w eF bO rs r q1 q2)),.b Jw,.v (@h3 (dy w eF bO rs r q1 q2)),.b hc2,pe (zd6)]) Z ⟨(by exact aB _ _),rfl,(by exact aD _ _),trivial⟩) (by(simp[vwX,sR,Jw,hc2];first|done|rfl)) (by(simp[vwX,sR,Jw,hc2];first|done|rfl))<;>(exact aj _ _)
  ·refine Tw (Yd (d2:=(ziZ e2)) (h2:=[eP (zhn 1 1 w eF bO),.eY (zdJ rs q1 q2) 1 5]) (φ:=[S2 (Tz (ar 1 2 1)) (zdJ rs q1 q2)=ad (sU (rs++q1++q2)),Tl 2 (zjv 0 1 (zdJ rs q1 q2) 1 5 2 (eP (zhn 1 2 w eF bO)))=J,Tl 2 (ZT 0 1 (ad (sU (rs++q1++q2))) 1 5 2)=J]) zfE (yF (h':=(dy w eF bO rs r q1 q2)) (d:=(ziZ e2)) [.v (@h1 (bL w eF bO rs)),pe Θ,pe Θ,pe zcM,pe zcM,pe (TF (TC w)),pe (TF (TC w)),pe Θ,pe Θ,pe zdv,pe zdv,po (TO eF),po (TO eF),pe Θ,pe Θ,pe zdw,pe zdw,po (TO bO),po (TO bO),pr (bL w eF bO rs),(@h1 (bL w eF bO rs)),(@h1 (jo w eF bO rs)),.c ((fX [0,1] (@fJ w eF bO rs q1 lj) ⟨?_,trivial⟩ ⟨?_,trivial⟩):Ev S5 lL 122 (zdI q1) (jn w eF bO rs r) (TT []) (ce w eF bO rs r q1)),.b sR,.v (@h2 (ce w eF bO rs r q1)),.c ((fX [0,1] (Ev.upX [0,1] (@fJ w eF bO (rs++q1) q2 (by(simp;omega))) Z ⟨?_,trivial⟩ ⟨?_,trivial⟩) ⟨?_,trivial⟩ ⟨?_,trivial⟩):Ev S5 lL 122 (zdI q2) (ce w eF bO rs r q1) (TT []) (dy w eF bO rs r q1 q2)),.b Jw,pe (zd6)]) Z ⟨(by exact aB _ _),rfl,(by exact aD _ _),trivial⟩) (by(simp[vwX,sR,Jw];first|done|rfl)) (by(simp[vwX,sR,Jw];first|done|rfl))<;>(exact aj _ _)
 ·let v0:bY:=(zhn 1 1 w eF bO);refine Tw (Yd (d2:=(ziZ e1)) (h2:=[eP v0,.eY (zct rs q1) 1 5]) (φ:=[S2 (Tz (ar 1 1 1)) (zct rs q1)=ad (sU (rs++q1)),Tl 2 (zaY 1 (ad (sU (rs++q1))) 1 5 1 v0)=J,Tl 2 (ZT 0 1 (ad (sU (rs++q1))) 1 5 1)=J]) zfE (yF (h':=(ce w eF bO rs r q1)) (d:=(ziZ e1)) [.v (@h1 (bL w eF bO rs)),pe Θ,pe Θ,pe zcM,pe zcM,pe (TF (TC w)),pe (TF (TC w)),pe Θ,pe Θ,pe zdv,pe zdv,po (TO eF),po (TO eF),pe Θ,pe Θ,pe zdw,pe zdw,po (TO bO),po (TO bO),pr (bL w eF bO rs),(@h1 (bL w eF bO rs)),(@h1 (jo w eF bO rs)),.c ((fX [0,1] (@fJ w eF bO rs q1 ?_) ⟨(by subst v0;exact aj _ _),trivial⟩ ⟨(by subst v0;exact aj _ _),trivial⟩):Ev S5 lL 122 (zdI q1) (jn w eF bO rs r) (TT []) (ce w eF bO rs r q1)),.b sR,pe (zd6)]) Z ⟨?_,rfl,?_,trivial⟩) (by subst v0;(simp[vwX,sR];first|done|rfl)) (by subst v0;(simp[vwX,sR];first|done|rfl))<;>subst v0<;>(first|omega|exact aB _ _|exact aD _ _)
def j9(w:eQ)(st eF bO:Int):VwX :=vwX (dP w st eF bO).2.1 (cN w (dP w st eF bO).1 eF bO).2.1 (dP w st eF bO).2.2 (cN w (dP w st eF bO).1 eF bO).2.2
  (cz (cN w (dP w st eF bO).1 eF bO).1).2 (cz (cN w (dP w st eF bO).1 eF bO).1).1
  (bX (cN w (dP w st eF bO).1 eF bO).1).1 (bX (cN w (dP w st eF bO).1 eF bO).1).2.1 (bX (cN w (dP w st eF bO).1 eF bO).1).2.2
theorem vE(hw:w.ok):(gU w bO st eF).length<=70656000:=by have:=tt hw (bO:=bO) (st:=st) (eF:=eF);unfold gU;simpa using this
theorem oK(hw:w.ok):(dP w st eF bO).1.a.length<=70656000/\(dP w st eF bO).2.1.length<=70725001:=by
 unfold dP;split;·simp
 ·exact⟨vE hw,iO hw⟩
theorem SH(m:IM)(e:uS×Nat)(out:iN):(cgF m e out).length<=out.length+1:=by unfold cgF;grind
theorem tK(m:IM):∀(l:List (uS×Nat)) (out:iN),(l.foldl (λout e=>cgF m e out) out).length<=out.length+l.length
 | [],_=>qk
 |e::l,out=>by have h1:=tK m l (cgF m e out);have h2:=SH m e out;grind
theorem HS(l:iN)(m:IM):(Ai l m).length<=l.length:=by have:=tK m l.zipIdx [];simpa[Ai] using this
theorem HT(l:iN)(rp:bV):(nj l rp).1.length<=l.length:=by
 unfold nj;cases fE (eL l=0);·simp
 ·cases fE (rp.length=l.length);·simp
  ·simp;split;·exact HS _ _
   ·simp
theorem SI(b:Bool)(e:Int)(L:iN)(rr:iF):(rcX b e L rr).1.length<=L.length/\(rcX b e L rr).2.1.length<=rr.length:=by unfold rcX;grind
theorem iY:(cN w r eF bO).1.length<=r.a.length/\(cN w r eF bO).2.1.length<=r.a.length:=by unfold cN;have h1:=SI (vD r eF) (nj r.a (jm w bO eF r.a)).2 (nj r.a (jm w bO eF r.a)).1 (j8 eF r.a);have h2:=HT r.a (jm w bO eF r.a);have h3:=lM eF r.a;omega
theorem LB(hw:w.ok){rs:iF}(hb:rs.length<=100000000):Ev S5 lL 56 (zde 0 st) (vwH w eF bO rs 0) (uN [eO (j9 w st eF bO).CE,mS [eO (j9 w st eF bO).n,eO (j9 w st eF bO).d],eO (j9 w st eF bO).e]) (vwH w eF bO (rs++(j9 w st eF bO).q) 1):=by
 have hl:=oK hw (st:=st) (eF:=eF) (bO:=bO);have hc:=iY (w:=w) (r:=(dP w st eF bO).1) (eF:=eF) (bO:=bO);have hs:ah (cN w (dP w st eF bO).1 eF bO).1:=by unfold ah;omega
 exact SG lj (λh=>Mk hw h) (λh=>HR hw lj h) (λh=>Tp (iQ hs h)) (λh=>Tp (lA hs h))
end Go.Vi
