/- A part of the proof; no conditions of its own. -/
import Derived.Test.YtgalafpinkflfaaGreatDoorW8
open Bool renaming true->J,false->N
open Option renaming some->G,none->Y
open Go.Vi.F2 renaming map->Η,var->iI,loop->χ
open Go.Exit renaming normal->NO,exit->η
open Go.Vi.Ans renaming st->δ,ov->zjr,inl->zfF
open Go.Vi.SOp renaming frz->zed,Μ->zmj,mask->τ
open Go.Vi.D renaming Ρ->JV,agg->uT,ref->mW
open Go.Vi.Ref renaming ptr->J0
open Decidable renaming decide -> lL
open Go.Proofs.Tryz renaming f102 -> Wa, prog -> S5, f42 -> Wp, f15 -> TN, f166 -> Vz, f92 -> Zi
open List renaming nodup_nil -> Xg, map -> S2, getD -> Th, length -> S7, getElem?_eq_some_iff -> Td, getElem?_eq_getElem -> TH, replicate -> Ti
open Go.Vi.L9 renaming row -> Tc
open Go.Vi.zcR renaming row -> Tj
open Go.Vi.JX renaming row -> Ta
open Go.Vi.γ renaming row -> Ts
open Go.Vi.JZ renaming row -> Tb
open Go.Vi.Ev renaming zlh -> Tp, zly -> Tw, zkv -> U7, post -> Yd
open Go.Vi.CW renaming preS -> Yx
open Go.Vi.F2 renaming inn -> Tl
open Int renaming toNat -> S9
open Option renaming isSome -> Tx, getD -> TZ
open Go.Vi.D renaming p -> Us, Ρ -> TT, any -> Zh, zbk -> Tz, π -> Ty, agg -> TF
open Go.Vi.Dp renaming v -> Ws
open Go.Value renaming nilFunc -> T5, cells -> Yn
open Go.IntKind renaming i64 -> S6, wrap -> S8
open Go.Exit renaming normal -> Tr, ret -> VM
open Go.Vi.xE renaming fl -> Te
open Go.Vi.kc renaming l -> TC
open Go Go.Proofs
namespace Go.Vi
set_option maxRecDepth 100000
set_option maxHeartbeats 4000000
variable {H:List F2}{L l:iN}{a:JZ}{as_:bv}{b:Bool}{c e en d5 md mn ms n st fI v:Int}{h:aT}{i:Nat}{m m1 m2:IM}{o:DO}{p:oB}{q1 q2 q3 rs:List ZH}{r:Τ}{rp xs:bV}{rs0:iF}{u:Unit}{w:kc}{x1 x3:List (List Dp)}
def cT:Code->Code
 |.cond _ a _=>a
 |c=>c
theorem HK:al Wa=.seq (.region (BU (cL (al Wa))) (bW (cL (al Wa))) N) (.cond (.tmp 5) (.region (BU (cT (cR (al Wa)))) (bW (cT (cR (al Wa)))) N) .skip):=Z
abbrev zer:Nat×D:=(4,kr N)
noncomputable abbrev dm0T(e:Int):bY:=Bn 9 0 [(0,kr N),(1,go e),zer,(5,kr J)]
noncomputable def dm1(e:Int):Option (Exit×bY×aT):=bo S5 mX zno [] (bW (cT (cR (al Wa)))).toList (bW (cT (cR (al Wa)))).toList (dm0T e) []
noncomputable def dmC(e:Int):List PanicEntry:=match dm1 e with
 |some (.panic c,_,_)=>c
 |_=>[]
noncomputable def dmT(e:Int):bY:=match dm1 e with
 |some (_,t,_)=>t
 |_=>[]
theorem Dt(e:Int)(h:aT):znA S5 mX 102 [kr N,go e] h λc h'=>c=dmC e/\h'=h:=by refine znA.zkb (fn:=Wa) (c:=al Wa) rfl rfl λX _=>?_;rw[HK];refine VW.seq (VW.zif (s:={t:=cO Wa [kr N,go e],h:=h,m:=[]}) (t':=dm0T e) (h':=h) (e:=NO) lH Z ?_);refine VW.cond (b:=J) rfl (λ_=>?_) (λhf=>by cases hf);refine VW.zif (s:={t:=dm0T e,h:=h,m:=[]}) (t':=dmT e) (h':=h) (e:=.panic (dmC e)) lH Z ?_;exact⟨_,rfl,rfl,Xg,rfl,rfl⟩
def opFv(o:Oper):Operand:=match o.op with
 |.call {callee:=.value fv,.. }=>fv
 |_=>.tmp 0
def yy(o:Oper):OF:=match o.op with
 |.call {args,.. }=>args
 |_=>#[]
def Sm(o:Oper):ON:=match o.op with
 |.call {argTypes,.. }=>argTypes
 |_=>#[]
theorem Sn{c:Bool}(h:b=c):kr b=kr c:=by rw[h]
theorem Lo:al Wp=.region (BU (al Wp)) (bW (al Wp)) N:=Z
noncomputable abbrev SZ:Oper:=(bW (al Wp)).toList.getLastD default
abbrev zfv(a:Int):bY:=Bn 6 0 [(0,go a),(2,go a),(3,kr (a==0)),(4,go a)]
noncomputable abbrev zfC(a:Int):Exit:=(.panic (dmC a))
theorem So(e:Int)(he:(e==0)=N)(h:aT):znA S5 mX 42 [go e] h λc h'=>c=dmC e/\h'=h:=by
 refine znA.zkb (fn:=Wp) (c:=al Wp) rfl rfl λX hX a w hs=>?_;rw[Lo];have hc:CW S5 mX h N (.region (BU (al Wp)) (bW (al Wp)) N) {t:=cO Wp [go e],h:=h,m:=[]} (zfC e) {t:=(zfv e),h:=h,m:=[]}:=by
  refine CW.zru (os1:=(bW (al Wp)).toList.take 3) (rest:=[]) (o:=SZ) (fv:=opFv SZ) (args:=yy SZ) (ats:=Sm SZ) (h1:=h) Z Z Z Z ?_ rfl;have e1:qI mX (zfv e) (opFv SZ)=.p (zcs 102):=Z
  have e2:(yy SZ).toList.map (qI mX (zfv e))=[kr (e==0),go e]:=Z
  rw[e1,e2,Sn he];exact zmM.zlC pok (f:=102) (fi:=[]) (ca:=[]) rfl Z (Dt e _)
 refine wpIn_mono (hc X Y hX (λ_=>rfl) a w hs) ?_;rintro e a' w' ⟨h1,s,⟨rfl,rfl⟩,h2⟩;exact⟨h1,_,⟨_,rfl,rfl,Xg,rfl,rfl⟩,h2⟩
noncomputable abbrev rg(k:Nat):BY:=bW (cL (be (al TN) k))
noncomputable abbrev rgO(k:Nat):Oper:=(rg k).toList.getLastD default
abbrev paT(e:Int):bY:=Bn 167 0 [WF,zat,zaJ,zaK,(19,go e)]
abbrev paH(w:kc)(A:bY)(rs:iF):aT:=[iI w.l,iI A,iI [kr N],iI [ab (J2 rs)],iI [go 0]]
abbrev zgk(a:Int)(b:Nat):bY:=Κ (paT a) (G b) (go a)
theorem tI{A:bY}{rs:iF}{k x:Nat}(he:(e==0)=N)(hcode:be (al TN) k=.seq (.region (BU (cL (be (al TN) k))) (rg k) N) (cR (be (al TN) k)))(h1:(rg k).toList=(rg k).toList.take 1++rgO k::[])(h2:bo S5 uS pU [] (rg k).toList ((rg k).toList.take 1) (paT e) (paH w A rs)=G (NO,(zgk e x),paH w A rs))(h3:(rgO k).op=.call {callee:=.value (opFv (rgO k)),args:=yy (rgO k),argTypes:=Sm (rgO k)})(h4:(rgO k).guard=Y)
  (e1:qI uS (zgk e x) (opFv (rgO k))=.p (zcs 42)) (e2:(yy (rgO k)).toList.map (qI uS (zgk e x))=[go e]) (h5:uc [10,11,12,13] 0 (zgk e x)=dgO) :
  CW S5 uS (hA w) N (be (al TN) k) {t:=paT e,h:=paH w A rs,m:=[]} (zfC e) {t:=dgO,h:=paH w A rs,m:=[]}:=by
 have h0:CW S5 uS (hA w) N (be (al TN) k) {t:=paT e,h:=paH w A rs,m:=[]} (zfC e) {t:=(zgk e x),h:=paH w A rs,m:=[]}:=by rw[hcode];refine CW.out F1 (CW.zru (os1:=(rg k).toList.take 1) (rest:=[]) (o:=rgO k) (fv:=opFv (rgO k)) (args:=yy (rgO k)) (ats:=Sm (rgO k)) (h1:=paH w A rs) h1 h2 h3 h4 ?_ rfl);rw[e1,e2];exact zmM.zlC pok (f:=42) (fi:=[]) (ca:=[]) rfl Z (So e he _).zlh
 have:=CW.maskE [10,11,12,13] h0
 unfold nT at this
 grind
noncomputable abbrev HL(w:kc)(q1:iF)(p:oB)(r:Τ):aT:=(zhq w [nq,go 0,nq] q1 (ZI p) r)
theorem MM{e:Exit}
  (ht:CW S5 uS (hA w) false (be (al TN) 9) (sgB9 w fI d5 q1 q2 p r) e {t:=dgO,h:=H,m:=[]}):(CW S5 uS (hA w) false (be (al TN) 8) (sgB w fI d5 q1 q2 p r 0) e {t:=dgO,h:=H,m:=[]}):=by
 have Pq:=(@ht)
 exact yx [] [.v (Tp (Γ':=uS) (@gX (HL w q1 p r))),Pq,.a1 (.zlq [3,4,5,10,11,12,13,14,15,16,18] e {t:=Bn 167 0 [(10,.ref (.ptr 1 0)),(11,.ref (.ptr 2 0)),(12,.ref (.ptr 3 0)),(13,.ref (.ptr 4 0))],h:=H})]
theorem Sp(he:(e==0)=false):CW S5 uS (hA w) false (be (al TN) 8) (sgB w fI d5 q1 q2 p r e) (.panic (dmC e)) {t:=dgO,h:=paH w [nq,go 0,nq] q1,m:=[]} :=
 Yx [.st (.mask [10,11,12,13,19]),.st (.frz 5 (J2 q1)),.st (.Μ 5)] (s1:={t:=paT e,h:=paH w [nq,go 0,nq] q1,m:=[]}) (by kernel_rfl) (.c (show ad (J2 q1)=(J2 q1).map (·.map .p) from rfl) (.c (show Tl 5 (.var w.l)=true from rfl) (.c (show Tl 5 (.var [nq,go 0,nq])=true from rfl) (.c (show Tl 5 (.var [kr false])=true from rfl) (.c (show Tl 5 (.var [ab (J2 q1)])=true from rfl) (.c (show Tl 5 (.var [go 0])=true from rfl) .n))))))
  (tI (k:=8) (x:=58) he (by kernel_rfl) (by kernel_rfl) (by kernel_rfl) (by kernel_rfl) (by kernel_rfl) (by kernel_rfl) (by kernel_rfl) (by kernel_rfl))
noncomputable abbrev Du(w:kc)(rs:iF)(p:oB)(r:Τ):aT:=(zhq w [nq,go 0,nq] rs (ZI p) r)
theorem Sq{l:List JZ}{e:Exit}
  (ht:CW S5 uS (hA w) false (be (al TN) 12) (Sf w fI d5 rs q3 p r l) e {t:=dgO,h:=H,m:=[]}):(CW S5 uS (hA w) false (be (al TN) 11) (sgC w fI d5 rs q3 p r l 0) e {t:=dgO,h:=H,m:=[]}):=by
 have Pq:=(@ht)
 exact yx [] [.v (Tp (Γ':=uS) (@gX (Du w rs p r))),Pq,.a1 (.zlq [3,4,5,10,11,12,13,14,15,16,20] e {t:=Bn 167 0 [(10,.ref (.ptr 1 0)),(11,.ref (.ptr 2 0)),(12,.ref (.ptr 3 0)),(13,.ref (.ptr 4 0))],h:=H})]
theorem Lp{l:List JZ}(he:(e==0)=false):CW S5 uS (hA w) false (be (al TN) 11) (sgC w fI d5 rs q3 p r l e) (.panic (dmC e)) {t:=dgO,h:=paH w [nq,go 0,nq] rs,m:=[]} :=
 Yx [.st (.mask [10,11,12,13,19]),.st (.frz 5 (J2 rs)),.st (.Μ 5)] (s1:={t:=paT e,h:=paH w [nq,go 0,nq] rs,m:=[]}) (by kernel_rfl) (.c (show ad (J2 rs)=(J2 rs).map (·.map .p) from rfl) (.c (show Tl 5 (.var w.l)=true from rfl) (.c (show Tl 5 (.var [nq,go 0,nq])=true from rfl) (.c (show Tl 5 (.var [kr false])=true from rfl) (.c (show Tl 5 (.var [ab (J2 rs)])=true from rfl) (.c (show Tl 5 (.var [go 0])=true from rfl) .n))))))
  (tI (k:=11) (x:=72) he (by kernel_rfl) (by kernel_rfl) (by kernel_rfl) (by kernel_rfl) (by kernel_rfl) (by kernel_rfl) (by kernel_rfl) (by kernel_rfl))
noncomputable abbrev Dv(w:kc)(rs:iF)(x1:bv)(x3:bv)(ms:Int)(p:oB)(r:Τ):aT:=(zhq w (zdY x1 ms x3) rs (ZI p) r)
theorem vB{l:List JZ}{e:Exit}
  (ht:CW S5 uS (hA w) false (be (al TN) 30) (sgD30 w rs x1 x3 ms p r l) e {t:=dgO,h:=H,m:=[]}):(CW S5 uS (hA w) false (be (al TN) 29) (sgD w rs x1 x3 ms p r l 0) e {t:=dgO,h:=H,m:=[]}):=by
 have Pq:=(@ht)
 exact yx [] [.v (Tp (Γ':=uS) (@gX (Dv w rs x1 x3 ms p r))),Pq,.a1 (.zlq [10,11,12,13,15,20] e {t:=Bn 167 0 [(10,.ref (.ptr 1 0)),(11,.ref (.ptr 2 0)),(12,.ref (.ptr 3 0)),(13,.ref (.ptr 4 0))],h:=H})]
theorem Lq{l:List JZ}(he:(e==0)=false):CW S5 uS (hA w) false (be (al TN) 29) (sgD w rs x1 x3 ms p r l e) (.panic (dmC e)) {t:=dgO,h:=paH w [ab x1,go ms,ab x3] rs,m:=[]} :=
 Yx [.st (.mask [10,11,12,13,19]),.st (.frz 5 (J2 rs)),.st (.Μ 5)] (s1:={t:=paT e,h:=paH w [ab x1,go ms,ab x3] rs,m:=[]}) (by kernel_rfl) (.c (show ad (J2 rs)=(J2 rs).map (·.map .p) from rfl) (.c (show Tl 5 (.var w.l)=true from rfl) (.c (show Tl 5 (.var [ab x1,go ms,ab x3])=true from rfl) (.c (show Tl 5 (.var [kr false])=true from rfl) (.c (show Tl 5 (.var [ab (J2 rs)])=true from rfl) (.c (show Tl 5 (.var [go 0])=true from rfl) .n))))))
  (tI (k:=29) (x:=127) he (by kernel_rfl) (by kernel_rfl) (by kernel_rfl) (by kernel_rfl) (by kernel_rfl) (by kernel_rfl) (by kernel_rfl) (by kernel_rfl))
noncomputable abbrev Dw(w:kc)(rs:iF)(x1:bv)(x3:bv)(ms:Int)(p:oB)(r:Τ):aT:=(zhq w (zdY x1 ms x3) rs (ZI p) r)
theorem Ah{l:List JZ}{e:Exit}
  (ht:CW S5 uS (hA w) false (be (al TN) 32) (sgE32 w rs x1 x3 ms p r l en) e {t:=dgO,h:=H,m:=[]}):(CW S5 uS (hA w) false (be (al TN) 31) (sgE w rs x1 x3 ms p r l en 0) e {t:=dgO,h:=H,m:=[]}):=by
 have Pq:=(@ht)
 exact yx [] [.v (Tp (Γ':=uS) (@gX (Dw w rs x1 x3 ms p r))),Pq,.a1 (.zlq [10,11,12,13,15,20,28] e {t:=Bn 167 0 [(10,.ref (.ptr 1 0)),(11,.ref (.ptr 2 0)),(12,.ref (.ptr 3 0)),(13,.ref (.ptr 4 0))],h:=H})]
theorem Lr{l:List JZ}(he:(e==0)=false):CW S5 uS (hA w) false (be (al TN) 31) (sgE w rs x1 x3 ms p r l en e) (.panic (dmC e)) {t:=dgO,h:=paH w [ab x1,go ms,ab x3] rs,m:=[]} :=
 Yx [.st (.mask [10,11,12,13,19]),.st (.frz 5 (J2 rs)),.st (.Μ 5)] (s1:={t:=paT e,h:=paH w [ab x1,go ms,ab x3] rs,m:=[]}) (by kernel_rfl) (.c (show ad (J2 rs)=(J2 rs).map (·.map .p) from rfl) (.c (show Tl 5 (.var w.l)=true from rfl) (.c (show Tl 5 (.var [ab x1,go ms,ab x3])=true from rfl) (.c (show Tl 5 (.var [kr false])=true from rfl) (.c (show Tl 5 (.var [ab (J2 rs)])=true from rfl) (.c (show Tl 5 (.var [go 0])=true from rfl) .n))))))
  (tI (k:=31) (x:=134) he (by kernel_rfl) (by kernel_rfl) (by kernel_rfl) (by kernel_rfl) (by kernel_rfl) (by kernel_rfl) (by kernel_rfl) (by kernel_rfl))
noncomputable abbrev Dx(w:kc)(rs:iF)(x1:bv)(x3:bv)(ms:Int)(mn:Int)(md:Int)(p:oB)(r:Τ):aT:=(zhv (ZA w) (zdY x1 ms x3) (ad (J2 rs)) (ZI p) (zaM r) (iI [go mn,go md]))
theorem HM{e:Exit}
  (ht:CW S5 uS (hA w) false (be (al TN) 34) (sgF34 w rs x1 x3 ms p r en mn md) e {t:=dgO,h:=H,m:=[]}):(CW S5 uS (hA w) false (be (al TN) 33) (sgF w rs x1 x3 ms p r en mn md 0) e {t:=dgO,h:=H,m:=[]}):=by
 have Pq:=(@ht)
 exact yx [] [.v (Tp (Γ':=uS) (@gX (Dx w rs x1 x3 ms mn md p r))),Pq,.a1 (.zlq [10,11,12,13,15,28,29] e {t:=Bn 167 0 [(10,.ref (.ptr 1 0)),(11,.ref (.ptr 2 0)),(12,.ref (.ptr 3 0)),(13,.ref (.ptr 4 0))],h:=H})]
theorem Ls(he:(e==0)=false):CW S5 uS (hA w) false (be (al TN) 33) (sgF w rs x1 x3 ms p r en mn md e) (.panic (dmC e)) {t:=dgO,h:=paH w [ab x1,go ms,ab x3] rs,m:=[]} :=
 Yx [.st (.mask [10,11,12,13,19]),.st (.frz 5 (J2 rs)),.st (.Μ 5)] (s1:={t:=paT e,h:=paH w [ab x1,go ms,ab x3] rs,m:=[]}) (by kernel_rfl) (.c (show ad (J2 rs)=(J2 rs).map (·.map .p) from rfl) (.c (show Tl 5 (.var w.l)=true from rfl) (.c (show Tl 5 (.var [ab x1,go ms,ab x3])=true from rfl) (.c (show Tl 5 (.var [kr false])=true from rfl) (.c (show Tl 5 (.var [ab (J2 rs)])=true from rfl) (.c (show Tl 5 (.var [go 0])=true from rfl) .n))))))
  (tI (k:=33) (x:=141) he (by kernel_rfl) (by kernel_rfl) (by kernel_rfl) (by kernel_rfl) (by kernel_rfl) (by kernel_rfl) (by kernel_rfl) (by kernel_rfl))
noncomputable abbrev Dy(w:kc)(rs:iF)(x1:bv)(x3:bv)(ms:Int)(mn:Int)(md:Int)(p:oB)(r:Τ):aT:=(zhv (ZA w) (zdY x1 ms x3) (ad (J2 rs)) (ZI p) (zaM r) (iI [go mn,go md]))
theorem Sr{e:Exit}
  (ht:CW S5 uS (hA w) false (be (al TN) 36) (sgG36 w rs x1 x3 ms p r en mn md c) e {t:=dgO,h:=H,m:=[]}):(CW S5 uS (hA w) false (be (al TN) 35) (sgG w rs x1 x3 ms p r en mn md c 0) e {t:=dgO,h:=H,m:=[]}):=by
 have Pq:=(@ht)
 exact yx [] [.v (Tp (Γ':=uS) (@gX (Dy w rs x1 x3 ms mn md p r))),Pq,.a1 (.zlq [10,11,12,13,15,28,30] e {t:=Bn 167 0 [(10,.ref (.ptr 1 0)),(11,.ref (.ptr 2 0)),(12,.ref (.ptr 3 0)),(13,.ref (.ptr 4 0))],h:=H})]
theorem Lt(he:(e==0)=false):CW S5 uS (hA w) false (be (al TN) 35) (sgG w rs x1 x3 ms p r en mn md c e) (.panic (dmC e)) {t:=dgO,h:=paH w [ab x1,go ms,ab x3] rs,m:=[]} :=
 Yx [.st (.mask [10,11,12,13,19]),.st (.frz 5 (J2 rs)),.st (.Μ 5)] (s1:={t:=paT e,h:=paH w [ab x1,go ms,ab x3] rs,m:=[]}) (by kernel_rfl) (.c (show ad (J2 rs)=(J2 rs).map (·.map .p) from rfl) (.c (show Tl 5 (.var w.l)=true from rfl) (.c (show Tl 5 (.var [ab x1,go ms,ab x3])=true from rfl) (.c (show Tl 5 (.var [kr false])=true from rfl) (.c (show Tl 5 (.var [ab (J2 rs)])=true from rfl) (.c (show Tl 5 (.var [go 0])=true from rfl) .n))))))
  (tI (k:=35) (x:=150) he (by kernel_rfl) (by kernel_rfl) (by kernel_rfl) (by kernel_rfl) (by kernel_rfl) (by kernel_rfl) (by kernel_rfl) (by kernel_rfl))
theorem Lu:al TN=.seq (.region (BU (cL (al TN))) (bW (cL (al TN))) N) (.seq (.region (BU (cL (cR (al TN)))) (bW (cL (cR (al TN)))) N) (cR (cR (al TN)))):=Z
theorem gj:zno.Ok S5 uS:=λ_ _ _ _ h=>by simp[zno] at h
abbrev dg0T(w:kc)(st n fI d5:Int):bY:=Bn 167 0 [(0,uT w.l),(1,go st),(2,go n),(3,go fI),(4,go d5),zbK,WF,zat,zaJ,zaK]
abbrev zgi:bY:=(zie (J0 1 0) 2 3 4)
abbrev dg1T(w:kc)(st n fI d5:Int):bY:=Bn 167 0 [(0,uT w.l),(1,go st),(2,go n),(3,go fI),(4,go d5),zbK,WF,zat,zaJ,zaK,(31,.fn (.func 37) [] zgi)]
abbrev dgCa:bY:=zgi
abbrev zdQ(a:kc)(b c d:Int)(e:D):bY:=[uT a.l,go b,go c,go d,e]
theorem Ss{e:Exit}{s':AS}(zcY:CW S5 uS (hA w) N (cR (cR (al TN))) (sgA w st n fI d5) e s'):zjC S5 uS (al TN) {t:=cO TN (zdQ w st n fI (go d5)),h:=[],m:=[]} e s' (G (37,dgCa)):=by rw[Lu];refine zjC.seq (s1:={t:=dg0T w st n fI d5,h:=(sgA w st n fI d5).h,m:=[]}) (λX=>VW.zif (t':=dg0T w st n fI d5) (h':=(sgA w st n fI d5).h) (e:=NO) gj Z ⟨rfl,rfl⟩) ?_;exact zjC.zqS (os:=(bW (cL (cR (al TN)))).toList.dropLast) (o:=Hf (bW (cL (cR (al TN)))).toList) (fv:=.tmp 31) (args:=#[]) (ats:=#[]) (t1:=dg1T w st n fI d5) (h1:=(sgA w st n fI d5).h) (f:=37) (fi:=[]) (ca:=dgCa) pok gj Z Z Z Z rfl Z Z (CW.pre [1,2,3,4,5,10,11,12,13] zcY)
theorem HN:DfF.Ok S5 uS (ff S5 uS noW 100):=(wo pok (W:=noW) (λ_ _ _ _ h=>by simp[noW] at h) 100).2.2.2.2
noncomputable abbrev HO(e:Exit)(H:aT):Option CR:=pp S5 TN (ff S5 uS noW 100) 0 e {t:=dgO,h:=H,m:=[]} (G (37,dgCa))
theorem Su{rs:List (List Dp)}:HO .ret [.var w.l,.var [ab x1,go ms,ab x3],.var [kr b],.var [ab rs],.var [go 0]]=some (.ret (.Ρ [.agg [ab x1,go ms,ab x3],kr b,ab rs,go 0]) []):=by kernel_rfl
theorem Sv{rs:List (List Dp)}:HO .ret [.var w.l,.var [nq,go 0,nq],.var [kr false],.var [ab rs],.var [go 0]]=some (.ret (.Ρ [.agg [nq,go 0,nq],kr false,ab rs,go 0]) []):=by kernel_rfl
theorem MN:HO (.panic (dmC e)) (paH w [nq,go 0,nq] rs)=some (.ret (.Ρ [.agg [nq,go 0,nq],kr false,nq,go e]) []):=by kernel_rfl
theorem B5:HO (.panic (dmC e)) (paH w [ab x1,go ms,ab x3] rs)=some (.ret (.Ρ [.agg [nq,go 0,nq],kr false,nq,go e]) []):=by kernel_rfl
theorem nO{e:Exit}{d:D}(hr:CW S5 uS (hA w) false (cR (cR (al TN))) (sgA w st n fI d5) e {t:=dgO,h:=H,m:=[]})(he:HO e H=some (.ret d [])):Ev S5 uS 15 [.agg w.l,go st,go n,go fI,go d5] [] d [] :=
 (zkF.zoF (f:=15) (args:=[.agg w.l,go st,go n,go fI,go d5]) (dfn:=ff S5 uS noW 100) (h:=[]) (r:=.ret d []) (fn:=TN) (c:=al TN) pok rfl rfl HN (Ss hr) he).call
abbrev caH(m1 m2:IM):aT:=[iI GI,imB m1,imB m2]
abbrev zeo:Nat×D:=(8,mW (.mp 2))
abbrev zfW:Nat×D:=(7,mW (.mp 1))
abbrev zi7(a:iN)(b:bv)(c d:Int)(e:aT):AS:={t:=Bn 135 0 [(zeU 0 a),(1,ab b),(4,fw),(5,go c),zcT,zfW,zeo,(32,ab (a.map Tb)),(33,go (a.map Tb).length),(34,go d)],h:=e,m:=[]}
abbrev caS(l:iN)(rp:bv)(m1 m2:IM)(i:Int):AS :=(zi7 l rp 0 i (caH m1 m2))
abbrev zjN:D:=(mW (.mp 1))
abbrev zea:D:=zjN
theorem lk1(hb:h[1]?=G (imB m)):aw S5 h 168 zea (go c) J=G (JV (zjR m c)):=yh (kt:=3) (et:=3) Z Z Z hb
theorem lk2(hb:h[2]?=G (imB m)):aw S5 h 168 zcn (go c) J=G (JV (zjR m c)):=yh (kt:=3) (et:=3) Z Z Z hb
theorem up1(hb:h[1]?=G (imB m)):ay S5 h 168 zea (go c) (go v)=G (h.set 1 (imB (a8 m c v))):=ly (kt:=3) (et:=3) Z Z hb
theorem up2(hb:h[2]?=G (imB m)):ay S5 h 168 zcn (go c) (go v)=G (h.set 2 (imB (a8 m c v))):=ly (kt:=3) (et:=3) Z Z hb
def iW(r:Int)(o:DO):Bool:=!(lL (r>=0)&&lL (r<=2))||(o.isSome&&(o.getD 0 != r))
def rep0(a b:JZ):Bool:=lL (a.ZO>b.ZO)||(a.ZO==b.ZO&&lL (a.fI<b.fI))
def rep1(a b:JZ):Bool:=lL (a.fI>=b.fI)
def repB(r:Int)(a b:JZ):Bool:=if r=0 then rep0 a b else rep1 a b
def iX(l:iN)(r:Int)(a:JZ)(o:DO):Bool:=(r==0||r==1)&&(!o.isSome||repB r a (l.getD (S9 (o.getD 0)) default))
def caF(l:iN)(i:Int)(r:Int)(a:JZ)(s:IM×IM):(IM×IM)⊕Unit:=match iW r (ap s.1 a.lm) with
 |true=>.inr ()
 |false=>.inl (a8 s.1 a.lm r,match iX l r a (ap s.2 a.lm) with|true=>a8 s.2 a.lm i|false=>s.2)
abbrev caX:Unit->Exit×AS:=λ_=>(.ret,{t:=Bn 135 0 [(4,fw),(5,go 1)],h:=[],m:=[]})
theorem zuy:iX l 0 a o=(J&&(!Tx o||(lL (a.ZO>(Th l (S9 (TZ o 0)) default).ZO)||(a.ZO==(Th l (S9 (TZ o 0)) default).ZO&&lL (a.fI<(Th l (S9 (TZ o 0)) default).fI))))):=by simp[iX,repB,rep0]
theorem zux:iX l 1 a o=(J&&(!Tx o||lL (a.fI>=(Th l (S9 (TZ o 0)) default).fI))):=by simp[iX,repB,rep1]
theorem MO:iX l 2 a o=N:=by simp[iX]
abbrev Z3:bY:=[kr J,fq 297,kr J,fq 298,kr N,Us (Ws T5)]
abbrev zcu(b:IM)(c:JZ)(d:Int):List (D×D×Nat):=(aG 0 (a8 b c.lm d))
abbrev zi9(b:IM)(c:JZ)(d:Int)(e:Nat)(f:IM):aT:=[iI Z3,Η (zcu b c d) e,Η (aG 0 f) (S7 f),iI (ZL c)]
noncomputable abbrev gY(m1:IM)(m2:IM)(a:JZ):aT:=(zi9 m1 a 0 (S7 (a8 m1 a.lm 0)) m2)
abbrev zh0(b c:IM)(d:F2):aT:=[iI Z3,Η (aG 0 b) (S7 b),Η (aG 0 c) (S7 c),d]
noncomputable abbrev fH(m1:IM)(m2:IM)(a:JZ):aT:=(zh0 m1 m2 (iI (ZL a)))
abbrev zbf(a:IM):F2:=(Η (aG 0 a) (S7 a))
noncomputable def caP(K:Int){l:iN}{rp:List (List Dp)}(m1 m2:IM){a:JZ}{i:Nat}(hr:ao (i:Int) (l.map Tb) a.row 5)(hq:ao (i:Int) rp [vi K] 1)(xD:lL ((i:Int)<((l.map Tb).length:Int))=true):List Stp:=[.b xD,.r hr,lk1 (h:=fH m1 m2 a) (c:=a.lm) rfl,.a1 (.ov 43 (TT (zjR m1 a.lm))),.r hq,.v (@dH K 0 2 (fH m1 m2 a)),zGw (!!(lL (K>=0)&&lL (K<=2))&&Tx (ap m1 a.lm)) hq,.a1 (.row [vi K])]
noncomputable def caQ(K:Int){l:iN}{rp:List (List Dp)}(m1 m2:IM){a:JZ}{i:Nat}(hr:ao (i:Int) (l.map Tb) a.row 5)(hq:ao (i:Int) rp [vi K] 1)(xD:lL ((i:Int)<((l.map Tb).length:Int))=true)(hc:iW K (ap m1 a.lm)=false):List Stp:=caP K m1 m2 hr hq xD++[.b hc,.r hq,up1 (h:=fH m1 m2 a) (v:=K) (c:=a.lm) rfl,pe (.ref (.ptr 3 0)),po (some (go a.lm)),lk2 (h:=caH (a8 m1 a.lm K) m2++[.var (S2 Us (Tb a))]) (c:=a.lm) rfl,.a1 (.oh 10063 .any (caH (a8 m1 a.lm K) m2++[.var (S2 Us (Tb a))])),.a1 (.ov 74 (TT (zjR m2 a.lm)))]
def caT(a b:IM):List Stp:=[bi 3 (.var Z3),ge (n:=3) (l:=a),ge (n:=3) (l:=b)]
theorem caV{l:iN}(hm:∀v,ap m2 a.lm=some v->0<=v/\v<(l.length:Int))(hg:(true&&!!Tx (ap m2 a.lm))=true):ao (TZ (ap m2 a.lm) 0) (S2 Tb l) (Tb (Th l (S9 (TZ (ap m2 a.lm) 0)) default)) 5:=by refine cy (λ_=>rfl) ?_ ?_<;>(cases hz:ap m2 a.lm<;>simp_all)
def caA:List Ans:=[.st (.mask [0,1,4,5,6,7,8,32,33,34]),.st (.Μ 3)]
theorem ca_b0{l:List JZ}{rp:List (List Dp)}(hm:∀v,ap m2 a.lm=some v->0<=v/\v<(l.length:Int))(hr:ao (i:Int) (l.map Tb) a.row 5)(hq:ao (i:Int) rp [vi 0] 1)(xD:lL ((i:Int)<((l.map Tb).length:Int))=true)(hw:S6.wrap ((i:Int)+1)=((i+1:Nat):Int)):(CW S5 mX [] false (sub Vz 0) (caS l rp m1 m2 i) (ai (λs=>caS l rp s.1 s.2 ((i+1:Nat):Int)) caX (caF l i 0 a (m1,m2))).1 (ai (λs=>caS l rp s.1 s.2 ((i+1:Nat):Int)) caX (caF l i 0 a (m1,m2))).2):=by
 let u:=true&&!!Tx (ap m2 a.lm)
 let v:=Th l (S9 (TZ (ap m2 a.lm) 0)) default
 let M:=a8 m1 a.lm 0
 let g:=gY m1 m2 a
 cases F3:iW 0 (ap m1 a.lm)
 ·let Q:=caQ 0 m1 m2 hr hq xD F3++[.a1 (.row [vi 0]),.r hq,(rfl:Φ 0 3=true),zGw u hq,zGw u (rfl:Φ 0 3=true),caV hm,.a1 (.row (Tb v)),.w u (@GG a v g)]
  cases Α:iX l 0 a (ap m2 a.lm)
  ·simp only[caF,F3,Α,<-hw];exact yx caA (Q++[.b (zuy.symm.trans Α)]++caT M m2)
  ·simp only[caF,F3,Α,<-hw];exact yx caA (Q++[.b (zuy.symm.trans Α),up2 (h:=g) (v:=i) (c:=a.lm) rfl]++caT M (a8 m2 a.lm i)++[.a1 (.oh 10103 .any (caH M (a8 m2 a.lm i)++[.var (S2 Us (Tb a))]))])
 ·simp only[caF,F3];exact yx [.st (.mask [4,5]),.st (.Μ 0)] (caP 0 m1 m2 hr hq xD++[.b F3])
noncomputable abbrev gZ(m1:IM)(m2:IM)(a:JZ):aT:=(zi9 m1 a 1 (S7 (a8 m1 a.lm 1)) m2)
theorem ca_b1{l:List JZ}{rp:List (List Dp)}(hm:∀v,ap m2 a.lm=some v->0<=v/\v<(l.length:Int))(hr:ao (i:Int) (l.map Tb) a.row 5)(hq:ao (i:Int) rp [vi 1] 1)(xD:lL ((i:Int)<((l.map Tb).length:Int))=true)(hw:S6.wrap ((i:Int)+1)=((i+1:Nat):Int)):(CW S5 mX [] false (sub Vz 0) (caS l rp m1 m2 i) (ai (λs=>caS l rp s.1 s.2 ((i+1:Nat):Int)) caX (caF l i 1 a (m1,m2))).1 (ai (λs=>caS l rp s.1 s.2 ((i+1:Nat):Int)) caX (caF l i 1 a (m1,m2))).2):=by
 let u:=true&&!!Tx (ap m2 a.lm)
 let v:=Th l (S9 (TZ (ap m2 a.lm) 0)) default
 let M:=a8 m1 a.lm 1
 let g:=gZ m1 m2 a
 cases F3:iW 1 (ap m1 a.lm)
 ·let Q:=caQ 1 m1 m2 hr hq xD F3++[.a1 (.row [vi 1]),.r hq,(rfl:Φ 1 3=true),zGw u hq,zGw u (rfl:Φ 1 3=true),caV hm,.a1 (.row (Tb v)),.w u (@GH a v g)]
  cases Α:iX l 1 a (ap m2 a.lm)
  ·simp only[caF,F3,Α,<-hw];exact yx caA (Q++[.b (zux.symm.trans Α)]++caT M m2)
  ·simp only[caF,F3,Α,<-hw];exact yx caA (Q++[.b (zux.symm.trans Α),up2 (h:=g) (v:=i) (c:=a.lm) rfl]++caT M (a8 m2 a.lm i)++[.a1 (.oh 10103 .any (caH M (a8 m2 a.lm i)++[.var (S2 Us (Tb a))]))])
 ·simp only[caF,F3];exact yx [.st (.mask [4,5]),.st (.Μ 0)] (caP 1 m1 m2 hr hq xD++[.b F3])
theorem ca_b2{l:List JZ}{rp:List (List Dp)}(hr:ao (i:Int) (l.map Tb) a.row 5)(hq:ao (i:Int) rp [vi 2] 1)(xD:lL ((i:Int)<((l.map Tb).length:Int))=true)(hw:S6.wrap ((i:Int)+1)=((i+1:Nat):Int)):(CW S5 mX [] false (sub Vz 0) (caS l rp m1 m2 i) (ai (λs=>caS l rp s.1 s.2 ((i+1:Nat):Int)) caX (caF l i 2 a (m1,m2))).1 (ai (λs=>caS l rp s.1 s.2 ((i+1:Nat):Int)) caX (caF l i 2 a (m1,m2))).2):=by
 let r:=(rfl:false=false)
 cases F3:iW 2 (ap m1 a.lm)
 ·simp only[caF,F3,MO,<-hw];exact yx caA (caQ 2 m1 m2 hr hq xD F3++[.r hq,(rfl:Φ 2 3=true)]++zGn 3 r++.replicate 13 (.g r)++zGn 1 r++zCf 102 r++[.b r]++caT (a8 m1 a.lm 2) m2)
 ·simp only[caF,F3];exact yx [.st (.mask [4,5]),.st (.Μ 0)] (caP 2 m1 m2 hr hq xD++[.b F3])
noncomputable abbrev B6(m1:IM)(m2:IM)(a:JZ):aT:=(zh0 m1 m2 (iI (ZL a)))
theorem ca_bX{l:List JZ}{rp:List (List Dp)}{r:Int}(hx:(!(lL (r>=0)&&lL (r<=2))||Tx (ap m1 a.lm)&&TZ (ap m1 a.lm) 0 != r)=true)(hr:ao (i:Int) (l.map Tb) a.row 5)(hq:ao (i:Int) rp [vi r] 1)(xD:lL ((i:Int)<((l.map Tb).length:Int))=true)(hw:S6.wrap ((i:Int)+1)=((i+1:Nat):Int)):(CW S5 mX [] false (sub Vz 0) (caS l rp m1 m2 i) (ai (λs=>caS l rp s.1 s.2 ((i+1:Nat):Int)) caX (caF l i r a (m1,m2))).1 (ai (λs=>caS l rp s.1 s.2 ((i+1:Nat):Int)) caX (caF l i r a (m1,m2))).2):=by
 let v0:=TT [go (TZ (ap m1 a.lm) 0),kr (Tx (ap m1 a.lm))]
 refine yX {t:=Bn 135 0 [(4,nq),(5,go 1)],h:=[],m:=[]} VM [.st (.mask [4,5]),.st (.Μ 0)] [.b xD,.r hr,((by subst v0;exact lk1 rfl):@Eq (Option D) (aw S5 (B6 m1 m2 a) 168 (.ref (.mp 1)) (go a.lm) true) (some v0)),.a1 (.ov 43 v0),.r hq,.v (@dH r 0 2 (B6 m1 m2 a)),((λhg=>hq):(!!(lL (r>=0)&&lL (r<=2))&&Tx (ap m1 a.lm))=true->ao (↑i:Int) rp [vi r] 1),.a1 (.row [vi r]),.b hx] ?_ ?_<;>subst v0<;>((have h1:iW r (ap m1 a.lm)=true:=hx);simp[caF,h1,ai];done)
theorem Sw{rp:bv}(xD:lL ((i:Int)<((l.map Tb).length:Int))=N):(CW S5 mX [] N (sub Vz 0) (caS l rp m1 m2 i) (η 0) {t:=Bn 135 0 [(zeU 0 l),(4,fw),(5,go 0),zeo],h:=caH m1 m2,m:=[]}):=yx [δ (τ [0,4,5,8])] [.b xD]
abbrev CaE:=(JZ×Int)×Nat
def caE(l:iN)(e:CaE)(s:IM×IM):(IM×IM)⊕Unit:=caF l (e.2:Int) e.1.2 e.1.1 s
def caL(l:iN)(rp:bV):List CaE:=(l.zip rp).zipIdx
abbrev caZ(l:iN)(s:IM×IM):AS:={t:=Bn 135 0 [(zeU 0 l),(4,fw),(5,go 0),zeo],h:=caH s.1 s.2,m:=[]}
def Sx(l:iN)(rp:bV):Exit×AS:=bf (η 0) (caZ l) caX (Pu (caE l) (caL l rp) ([],[]))
theorem ca_cw(hl:ah l)(hr:rp.length=l.length):CW S5 mX [] false (.loop (sub Vz 0)) (caS l (zaQ rp) [] [] 0) (Sx l rp).1 (Sx l rp).2:=by
 have hlen:(caL l rp).length=l.length:=by simp[caL,hr]
 have:=CW.each (P:=S5) (Γ:=mX) (h0:=[]) (rd:=false) (c:=sub Vz 0) (caL l rp) (caE l) (λi s=>caS l (zaQ rp) s.1 s.2 (i:Int)) (.exit 0) (caZ l) caX
  (λ_ s=>∀c v,ap s.2 c=some v->0<=v/\v<(l.length:Int)) (by simp) (λ_=>by simp) ?_ ?_ ([],[]) (by grind [ap])
 ·exact this
 ·rintro i ⟨⟨a,r⟩,n⟩ ⟨m1,m2⟩ hp hinv;obtain⟨hi,he⟩:=Td.1 hp;rw[hlen] at hi;have hi':i<rp.length:=by omega
  have e1:n=i/\a=l[i]/\r=rp[i]:=by have e2:=he.symm;simp[caL] at e2;obtain⟨⟨x1,x2⟩,x3⟩:=e2;exact⟨x3,x1,x2⟩
  obtain⟨rfl,ha,hrr⟩:=e1;have h1:l[n]? = some a:=by rw[ha];exact TH hi
  have h2:rp[n]? = some r:=by rw[hrr];exact TH hi'
  have q1:=rowAt (row:=Tb) (sz:=5) h1 rfl;have q2:=rowAt (row:=λn:Int=>[vi n]) (sz:=1) h2 rfl;have q3:=κ Tb hi;have q4:=J3 hi hl;refine⟨λs' h=>?_,?_⟩;·grind [caE,caF,Sum.inl.injEq,yg,Option.some.injEq]
  ·simp only[caE];by_cases hb:(!(lL (r>=0)&&lL (r<=2)))=true;·exact ca_bX (by rw[hb];rfl) q1 q2 q3 q4
   ·have:r=0\/r=1\/r=2:=by simp at hb;omega
    rcases this with h0|h0|h0;·rw[h0] at q2 ⊢;exact ca_b0 (λv hv=>hinv _ v hv) q1 q2 q3 q4
    ·rw[h0] at q2 ⊢;exact ca_b1 (λv hv=>hinv _ v hv) q1 q2 q3 q4
    ·rw[h0] at q2 ⊢;exact ca_b2 q1 q2 q3 q4
 ·rintro⟨m1,m2⟩ _;rw[hlen];exact Sw (aR Tb l)
abbrev cgH(m1 m2:IM)(out:iN):aT:=[iI GI,imB m1,imB m2,.lk (ad (out.map Tb)) 0 5]
abbrev zjn(a:Nat×D)(b c:D):bY:=Bn 135 0 [zcS,(5,go 0),zeo,a,(109,b),(110,c)]
abbrev cgS(l:iN)(m1 m2:IM)(out:iN)(i:Int):AS :={t:=(zjn (108,ab (l.map Tb)) (go (l.map Tb).length) (go i)),h:=cgH m1 m2 out,m:=[]}
def Sy(m2:IM)(i:Nat)(a:JZ):Bool:=!(ap m2 a.lm).isSome||((ap m2 a.lm).getD 0==(i:Int))
def cgF(m2:IM)(e:JZ×Nat)(out:iN):iN:=bif Sy m2 e.2 e.1 then out++[e.1] else out
theorem Sz{l:List JZ}{out:List JZ}(hr:ao (i:Int) (l.map Tb) a.row 5)(xD:lL ((i:Int)<((l.map Tb).length:Int))=true)(hw:S6.wrap ((i:Int)+1)=((i+1:Nat):Int))(ho:out.length<=1000000000):(CW S5 mX [] false (sub Vz 1) (cgS l m1 m2 out i) .normal (cgS l m1 m2 (cgF m2 (a,i) out) ((i+1:Nat):Int))):=by
 cases F3:!Tx (ap m2 a.lm)||TZ (ap m2 a.lm) 0==(↑i:Int)
 ·let v0:=TT [go (TZ (ap m2 a.lm) 0),kr (Tx (ap m2 a.lm))]
  refine yX {t:=Bn 135 0 [(4,.ref (.lk 3 0)),(5,go 0),(8,.ref (.mp 2)),(108,ab (S2 Tb l)),(109,go (↑(S7 (S2 Tb l)):Int)),(110,go (S8 S6 ((↑i:Int)+1)))],h:=[.var [kr true,fq 297,kr true,fq 298,kr false,Us (Ws T5)],.map (aG 0 m1) (S7 m1),.map (aG 0 m2) (S7 m2),.lk (ad (S2 Tb out)) 0 5],m:=[]} Tr [.st (.mask [4,5,8,108,109,110]),.st (.ren 3 0),.st (.Μ 4)] [.b xD,.r hr,(?_:@Eq (Option D) (aw S5 [.var [kr true,fq 297,kr true,fq 298,kr false,Us (Ws T5)],.map (aG 0 m1) (S7 m1),.map (aG 0 m2) (S7 m2),.lk (ad (S2 Tb out)) 0 5,.var [go a.lm,go a.fI,go a.ZO,go a.Λ,go a.oA]] 168 (.ref (.mp 2)) (go a.lm) true) (some v0)),.a1 (.ov 119 v0),.b F3,(?_:S2 (Tz (ar 3 0 0)) (ad (S2 Tb out))=ad (S2 Tb out)),(?_:S2 (λe=>(Ty (ar 3 0 0) e.fst,Ty (ar 3 0 0) e.2.fst,e.2.2)) (aG 0 m1)=aG 0 m1),(?_:S2 (λe=>(Ty (ar 3 0 0) e.fst,Ty (ar 3 0 0) e.2.fst,e.2.2)) (aG 0 m2)=aG 0 m2),(rfl:Tl 4 (match 0==3 with|true=>.lk (ad (S2 Tb out)) 0 5|false=>ZK (ar 3 0 0) (.var [kr true,fq 297,kr true,fq 298,kr false,Us (Ws T5)]))=true),(?_:Tl 4 (match 0+1==3 with|true=>.lk (ad (S2 Tb out)) 0 5|false=>ZK (ar 3 0 0) (.map (aG 0 m1) (S7 m1)))=true),(?_:Tl 4 (match 0+1+1==3 with|true=>.lk (ad (S2 Tb out)) 0 5|false=>ZK (ar 3 0 0) (.map (aG 0 m2) (S7 m2)))=true),(?_:Tl 4 (match 0+1+1+1==3 with|true=>.lk (ad (S2 Tb out)) 0 5|false=>ZK (ar 3 0 0) (.lk (ad (S2 Tb out)) 0 5))=true)] (by subst v0;grind) (by subst v0;(have hh:Sy m2 i a=false:=F3;simp only[cgF,hh,cond_false,hw];first|done|rfl))<;>subst v0<;>(first|exact lk2 rfl|exact ge|exact aB _ _|exact br|exact cK _ _ _)
 ·let v0:List D:=[go a.lm,go a.fI,go a.ZO,go a.Λ,go a.oA]
  let v1:=TT [go (TZ (ap m2 a.lm) 0),kr (Tx (ap m2 a.lm))]
  refine yX {t:=Bn 135 0 [(4,.ref (.lk 3 0)),(5,go 0),(8,.ref (.mp 2)),(108,ab (S2 Tb l)),(109,go (↑(S7 (S2 Tb l)):Int)),(110,go (S8 S6 ((↑i:Int)+1)))],h:=[.var [kr true,fq 297,kr true,fq 298,kr false,Us (Ws T5)],.map (aG 0 m1) (S7 m1),.map (aG 0 m2) (S7 m2),.lk (ad (S2 Tb out)++[v0]) 0 5],m:=[]} Tr [.st (.mask [4,5,8,108,109,110]),.st (.ren 3 0),.st (.Μ 4)] [.b xD,.r hr,(?_:@Eq (Option D) (aw S5 [.var [kr true,fq 297,kr true,fq 298,kr false,Us (Ws T5)],.map (aG 0 m1) (S7 m1),.map (aG 0 m2) (S7 m2),.lk (ad (S2 Tb out)) 0 5,.var v0] 168 (.ref (.mp 2)) (go a.lm) true) (some v1)),.a1 (.ov 119 v1),.b F3,(?_:(List.all [v0] (aL 5)&&L8 (S7 (ad (S2 Tb out))+S7 [v0]) 40)=true),(?_:S2 (Tz (ar 3 1 0)) (ad (S2 Tb out)++[v0])=ad (S2 Tb out)++[v0]),(?_:S2 (λe=>(Ty (ar 3 1 0) e.fst,Ty (ar 3 1 0) e.2.fst,e.2.2)) (aG 0 m1)=aG 0 m1),(?_:S2 (λe=>(Ty (ar 3 1 0) e.fst,Ty (ar 3 1 0) e.2.fst,e.2.2)) (aG 0 m2)=aG 0 m2),pr [v0],(rfl:Tl 4 (match 0==3 with|true=>.lk (ad (S2 Tb out)++[v0]) 0 5|false=>ZK (ar 3 1 0) (.var [kr true,fq 297,kr true,fq 298,kr false,Us (Ws T5)]))=true),(?_:Tl 4 (match 0+1==3 with|true=>.lk (ad (S2 Tb out)++[v0]) 0 5|false=>ZK (ar 3 1 0) (.map (aG 0 m1) (S7 m1)))=true),(?_:Tl 4 (match 0+1+1==3 with|true=>.lk (ad (S2 Tb out)++[v0]) 0 5|false=>ZK (ar 3 1 0) (.map (aG 0 m2) (S7 m2)))=true),(?_:Tl 4 (match 0+1+1+1==3 with|true=>.lk (ad (S2 Tb out)++[v0]) 0 5|false=>ZK (ar 3 1 0) (.lk (ad (S2 Tb out)++[v0]) 1 5))=true)] (by subst v0 v1;grind) (by subst v0 v1;(have hh:Sy m2 i a=true:=F3;simp only[cgF,hh,cond_true,hw,u7];first|done|rfl))<;>subst v0 v1<;>(first|exact lk2 rfl|exact ge|exact cK _ _ _|(rw[u7];exact aB _ _)|(rw[u7];exact br)|(simp[aL,D.one,Value.oneCell',L8];omega))
abbrev zjg:bY:=Bn 135 0 [zcS,(5,go 0)]
theorem SA{out:iN}(xD:lL ((i:Int)<((l.map Tb).length:Int))=N):(CW S5 mX [] N (sub Vz 1) (cgS l m1 m2 out i) (η 2) {t:=zjg,h:=cgH m1 m2 out,m:=[]}):=yx [δ (τ [4,5])] [.b xD]
def Ai(l:iN)(m2:IM):iN:=l.zipIdx.foldl (λout e=>cgF m2 e out) []
theorem cg_cw{l:iN}(hl:l.length<=900000000){m1 m2:IM}:CW S5 mX [] false (.loop (sub Vz 1)) (cgS l m1 m2 [] 0) (.exit 2) {t:=zjg,h:=cgH m1 m2 (Ai l m2),m:=[]}:=by
 have hs:ah l:=by unfold ah;omega
 have:=CW.each (P:=S5) (Γ:=mX) (h0:=[]) (rd:=false) (c:=sub Vz 1) (σ:=iN) (ρ:=Empty) l.zipIdx (λe out=>.inl (cgF m2 e out))
  (λi out=>cgS l m1 m2 out (i:Int)) (.exit 2) (λout=>{t:=zjg,h:=cgH m1 m2 out,m:=[]}) (λr=>r.elim)
  (λi out=>out.length<=i) (by simp) (λr=>r.elim) ?_ ?_ [] (by simp)
 ·rw[aM (λout e=>cgF m2 e out)] at this;exact this
 ·rintro i ⟨a,n⟩ out hp hout;obtain⟨hi,he⟩:=Td.1 hp;simp at hi;have e1:a=l[i]/\n=i:=by simpa[eq_comm] using he.symm
  obtain⟨ha,rfl⟩:=e1;have h1:l[n]? = some a:=by rw[ha];exact TH hi
  refine⟨λs' h=>?_,Sz (rowAt h1 rfl) (κ Tb hi) (J3 hi hs) (by omega)⟩;grind [cgF]
 ·intro out _;rw[List.length_zipIdx];exact SA (aR Tb l)
def caR(l:iN)(rp:bV):(IM×IM)⊕Unit:=Pu (caE l) (caL l rp) ([],[])
theorem B7:Sx l rp=bf (η 0) (caZ l) caX (caR l rp):=rfl
def nj(l:iN)(rp:bV):iN×Int :=bif lL (eL l=0) then (bif lL (rp.length=l.length) then (match caR l rp with | .inl s=>(Ai l s.2,0) | .inr _=>([],1)) else ([],1)) else ([],eL l)
theorem vC(h:(eL l != 0)=J):nj l rp=([],eL l):=by
 have h':eL l≠0:=by simpa using h
 simp[nj,h']
theorem Lv(h1:(eL l != 0)=N)(h2:rp.length≠l.length):nj l rp=([],1):=by
 have h':eL l=0:=by simpa using h1
 simp[nj,h',h2]
theorem Lw(h1:(eL l != 0)=N)(h2:rp.length=l.length)(h3:caR l rp=.inr u):nj l rp=([],1):=by
 have h':eL l=0:=by simpa using h1
 simp[nj,h',h2,h3]
theorem SB(h1:(eL l != 0)=false)(h2:rp.length=l.length){s:IM×IM}(h3:caR l rp=.inl s):nj l rp=(Ai l s.2,0):=by
 have h':eL l=0:=by simpa using h1
 simp[nj,h',h2,h3]
theorem len_ne(h2:rp.length≠l.length):(((zaQ rp).length:Int) != ((l.map Tb).length:Int))=true:=by simp;omega
theorem MP(h2:rp.length=l.length):(((zaQ rp).length:Int) != ((l.map Tb).length:Int))=false:=by simp;omega
theorem Lx(b n:Nat)(rows:bv)(m:IM)(k:Nat):(aG k m).map (λe=>(Ty (cw b n rows) e.1,Ty (cw b n rows) e.2.1,e.2.2))=aG k m:=by
 induction m generalizing k with
 |nil=>rfl
 |cons e m ih=>simp only[aG,List.map_cons,ih];rfl
theorem cnt_e1(hs:ah l)(hz:(eL l != 0)=J)(h:aT):(Ev S5 mX 166 [ab (l.map Tb),ab (zaQ rp)] h (JV [ab [],go (eL l)]) h):=Tw (U7 (y0 (d:=TT [nq,go (eL l)]) [.v (@eu l hs ([])),.b hz] h)) ο ο
theorem cnt_e2(hs:ah l)(hz:(eL l != 0)=N)(hne:(((zaQ rp).length:Int) != ((l.map Tb).length:Int))=J)(h:aT):(Ev S5 mX 166 [ab (l.map Tb),ab (zaQ rp)] h (JV [ab [],go 1]) h):=Tw (U7 (y0 (d:=TT [nq,go 1]) [.v (@eu l hs ([])),.b hz,.b hne] h)) ο ο
theorem aErr0(hz:(eL l != 0)=N):eL l=0:=by simpa using hz
abbrev caS2(l:iN)(rp:bv)(z:Int):AS :=(zi7 l rp z 0 (caH [] []))
theorem HP{l:iN}(hs:ah l){rp:bV}(hr:rp.length=l.length){u:Unit}(hc:caR l rp=.inr u)(hz:(eL l != 0)=false):CW S5 mX [] false (.loop (sub Vz 0)) (caS2 l (zaQ rp) (eL l)) .ret {t:=Bn 135 0 [(4,fw),(5,go 1)],h:=[],m:=[]}:=by have:=ca_cw hs hr;rw[B7,hc] at this;rw[aErr0 hz];exact this
theorem cnt_e3(hs:ah l)(hr:rp.length=l.length)(hc:caR l rp=.inr u)(hz:(eL l != 0)=N)(hne:(((zaQ rp).length:Int) != ((l.map Tb).length:Int))=N)(h:aT):(Ev S5 mX 166 [ab (l.map Tb),ab (zaQ rp)] h (JV [ab [],go 1]) h):=by have Pq:=(@HP (l) (hs) (rp) (hr) (u) (hc) (hz));exact Tw (U7 (y0 (d:=TT [nq,go 1]) [.v (@eu l hs ([])),.b hz,.b hne,.v (@BA ([])),.s [0,1,4,5,6,7,8,32,33,34] Pq] h)) ο ο
theorem Ly{l:iN}(hs:ah l){rp:bV}(hr:rp.length=l.length){m1 m2:IM}(hc:caR l rp=.inl (m1,m2))(hz:(eL l != 0)=false):CW S5 mX [] false (.loop (sub Vz 0)) (caS2 l (zaQ rp) (eL l)) (.exit 0) (caZ l (m1,m2)):=by have:=ca_cw hs hr;rw[B7,hc] at this;rw[aErr0 hz];exact this
theorem cnt_ok(hs:ah l)(hl:l.length<=900000000)(hr:rp.length=l.length)(hc:caR l rp=.inl (m1,m2))(hz:(eL l != 0)=false)(hne:(((zaQ rp).length:Int) != ((l.map Tb).length:Int))=false)(h:aT):(Ev S5 mX 166 [ab (l.map Tb),ab (zaQ rp)] h (.Ρ [ab ((Ai l m2).map Tb),go 0]) h):=by have Pq:=(@Ly (l) (hs) (rp) (hr) (m1) (m2) (hc) (hz));have hl1:=(@cg_cw (l) (hl) (m1) (m2));let v0:=S2 Tb (Ai l m2);refine Tw (U7 (y0 (d:=TT [ab v0,go 0]) [.v (@eu l hs ([])),.b hz,.b hne,.v (@BA ([])),.s [0,1,4,5,6,7,8,32,33,34] Pq,.n 1,.o (.zpx 4 5),.s [4,5,8,108,109,110] hl1,((by subst v0;grind):ad v0=S2 (λx=>S2 Us x) v0),(?_:(zaC 3 v0 (aG 0 m1))=aG 0 m1),(?_:(zaC 3 v0 (aG 0 m2))=aG 0 m2),.o (.mask [4,5]),.o (.frz 3 v0),.o (.Μ 0)] h)) (by rfl) (by rfl)<;>subst v0<;>(exact Lx _ _ _ _ _)
theorem cnt_ev{l:iN}(hl:l.length<=900000000){rp:bV}(h:aT):Ev S5 mX 166 [ab (l.map Tb),ab (zaQ rp)] h (JV [ab ((nj l rp).1.map Tb),go (nj l rp).2]) h:=by
 have hs:ah l:=by unfold ah;omega
 cases hz:(eL l != 0)
 ·by_cases hr:rp.length=l.length
  ·cases hc:caR l rp with
   |inl s=>obtain⟨m1,m2⟩:=s;rw[SB hz hr hc];exact cnt_ok hs hl hr hc hz (MP hr) h
   |inr u=>rw[Lw hz hr hc];exact cnt_e3 hs hr hc hz (MP hr) h
  ·rw[Lv hz hr];exact cnt_e2 hs hz (len_ne hr) h
 ·rw[vC hz];exact cnt_e1 hs hz h
abbrev cvV(xs:bV):List (bY):=ad (zaQ xs)
abbrev cvS(w:kc)(d5 fI:Int)(as_:bv)(rs:iF)(xs:bV)(i:Int):AS :={t:=Bn 36 0 [zdM,(1,ab as_),(2,go fI),zcU,(14,ab as_),(15,go as_.length),(16,go i)],h:=lkH w d5 rs 1++[.lk (cvV xs) 0 1],m:=[]}
theorem Lz(hb:h[2]?=G (.lk (cvV xs) 0 1))(hi:i<xs.length):aY S5 h 3 (mW (zdi 2 (i:Int))) (go v)=G (h.set 2 (.lk (cvV (xs.set i v)) 0 1)):=by
 have e1:(cvV xs)[S9 (i:Int)]?=G [go xs[i]]:=by simp[ad,hi]
 have e2:zay S5 3=G 1:=Z
 have e3:(cvV xs).set (S9 (i:Int)) [go v]=cvV (xs.set i v):=by simp[ad,List.map_set]
 unfold aY;simp only[go,D.cells,e2,hb,e1];rw[<-e3];rfl
theorem cv_inR(hi:i<xs.length):Φ (i:Int) (cvV xs).length=J:=by simp[Φ,ad];omega
noncomputable abbrev tJ(w:kc)(d5:Int)(fI:Int)(a:JZ)(rs:iF)(xs:bV):aT:=[iI (ZQ 2 w d5),.lk (zcL rs 1 a.lm fI) 2 5,.lk (cvV xs) 0 1,iI (ZL a)]
abbrev zaY(b:Nat)(c:List (bY))(d e f:Nat)(g:bY):F2:=(zhp 0 b c d e f (iI g))
theorem SC(hw:w.ok){rs:iF}(hi:i<xs.length)(hr:ao (i:Int) as_ a.row 5)(xD:lL ((i:Int)<(as_.length:Int))=J)(hwr:S6.wrap ((i:Int)+1)=((i+1:Nat):Int))(hb:rs.length<=999998000):(CW S5 uS (lkH w d5 rs0 0) N (sub Zi 0) (cvS w d5 fI as_ rs xs i) NO (cvS w d5 fI as_ (rs++rdT 1 a.lm 0 fI) (xs.set i (ac w a.lm fI d5).1.rep) ((i+1:Nat):Int))):=by let v0:=List.set xs i (ac w a.lm fI d5).fst.rep;let v1:bY:=(ZQ 1 w d5);let v2:bY:=(ZQ 2 w d5);let v3:bY:=(ZL a);refine yX {t:=Bn 36 0 [zdM,(1,ab as_),(2,go fI),zcU,(14,ab as_),(15,(zdp as_)),(16,(ZZ i))],h:=[iI v1,.lk (zcL rs 1 a.lm fI) 1 5,.lk (cvV v0) 0 1],m:=[]} Tr (zc9 [0,1,2,8,14,15,16] 1 1 3) [.b xD,.r hr,.c ((fX [0,1] (Ev.upX [0,1] (@qO w hw d5 (a.lm) fI rs (by subst v0 v1 v2 v3;grind)) Z ⟨(by subst v0 v1 v2 v3;exact aj _ _),trivial⟩ ⟨(by subst v0 v1 v2 v3;exact aj _ _),trivial⟩) ⟨(by subst v0 v1 v2 v3;exact aj _ _),trivial⟩ ⟨(by subst v0 v1 v2 v3;exact aj _ _),trivial⟩):Ev S5 uS 163 (zbF 0 a.lm fI) [iI v1,.lk (ad (J2 rs)) 1 5,.lk (cvV xs) 0 1,iI v3] (TF (ZC w a.lm fI d5)) (tJ w d5 fI a rs xs)),(?_:Φ (↑i:Int) (S7 (cvV xs))=J),(?_:@Eq (Option (aT)) (aY S5 (tJ w d5 fI a rs xs) 3 (zaW 2 i) (go (ac w a.lm fI d5).fst.rep)) (G [iI v2,.lk (zcL rs 1 a.lm fI) 2 5,.lk (cvV v0) 0 1,iI v3])),(vM (zjW rs a.lm fI) 1 2 1),(?_:S2 (Tz (ar 1 2 1)) (cvV v0)=cvV v0),(rfl:Tl 3 (zaY 1 (ad (zjW rs a.lm fI)) 1 5 2 v2)=J),(iV 3 (zjW rs a.lm fI) 1 5),(?_:(zae 3 0 1 (ad (zjW rs a.lm fI)) 1 5 2 (.lk (cvV v0) 0 1))=J),.a1 (.oh 10029 Zh (lkH w d5 (rs++rdT 1 a.lm 0 fI) 2++[.lk (cvV v0) 0 1,iI (S2 Us (Tb a))]))] (by subst v0 v1 v2 v3;grind) (by subst v0 v1 v2 v3;grind)<;>subst v0 v1 v2 v3<;>(first|exact Lz rfl hi|exact cv_inR hi|exact aB _ _|exact br)
theorem SD{rs:iF}(xD:lL ((i:Int)<(as_.length:Int))=N):(CW S5 uS (lkH w d5 rs0 0) N (sub Zi 0) (cvS w d5 fI as_ rs xs i) (η 0) {t:=Bn 36 0 [(1,ab as_),zcU],h:=lkH w d5 rs 1++[.lk (cvV xs) 0 1],m:=[]}):=yx [δ (τ [1,8])] [.b xD]
def jm(w:kc)(d5 fI:Int)(l:iN):bV:=l.map λa=>(ac w a.lm fI d5).1.rep
def j8(fI:Int)(l:iN):iF:=l.flatMap λa=>rdT 1 a.lm 0 fI
theorem lM(fI:Int):∀l:iN,(j8 fI l).length<=l.length
 | []=>by simp[j8]
 | a::l=>by have:=lM fI l;have:=fk 1 a.lm 0 fI;grind [j8,List.length_append,List.length_cons]
theorem SE{f:JZ->Int}(hi:i<l.length)(ha:l[i]? = some a):((l.take i).map f++Ti (l.length-i) 0).set i (f a)=(l.take (i+1)).map f++Ti (l.length-(i+1)) 0:=by
 have e1:l.length-i=(l.length-(i+1))+1:=by omega
 rw[List.set_append_right _ _ (by simp;omega),List.take_add_one,ha,e1,List.replicate_succ];have:i-((l.take i).map f).length=0:=by simp;omega
 grind
theorem cv_cw{w:kc}(hw:w.ok){d5 fI:Int}{l:iN}(hl:l.length<=90000000){rs0 rs:iF}(hb:rs.length<=900000000){V:List (bY)}(hV:V=cvV (Ti l.length 0)):CW S5 uS (lkH w d5 rs0 0) false (.loop (sub Zi 0)) {t:=Bn 36 0 [zdM,(zeU 1 l),(2,go fI),zcU,(14,ab (l.map Tb)),(15,go (l.map Tb).length),(16,go 0)],h:=lkH w d5 rs 1++[.lk V 0 1],m:=[]} (.exit 0) {t:=Bn 36 0 [(zeU 1 l),zcU],h:=lkH w d5 (rs++j8 fI l) 1++[.lk (cvV (jm w d5 fI l)) 0 1],m:=[]}:=by
 subst hV;have hs:ah l:=by unfold ah;omega
 have:=CW.znq (P:=S5) (Γ:=uS) (h0:=lkH w d5 rs0 0) (rd:=false) (c:=sub Zi 0) l.length
  (λi=>cvS w d5 fI (l.map Tb) (rs++j8 fI (l.take i)) ((l.take i).map (λa=>(ac w a.lm fI d5).1.rep)++Ti (l.length-i) 0) (i:Int)) (e:=.exit 0) (s':={t:=Bn 36 0 [(zeU 1 l),zcU],h:=lkH w d5 (rs++j8 fI l) 1++[.lk (cvV (jm w d5 fI l)) 0 1],m:=[]}) (by simp) ?_ ?_
 ·have e0:rs++j8 fI (l.take 0)=rs:=by simp[j8]
  grind
 ·intro i hi;have ha:l[i]? = some l[i]:=TH hi;have key:=SC hw (d5:=d5) (fI:=fI) (rs0:=rs0) (rs:=rs++j8 fI (l.take i)) (xs:=(l.take i).map (λa=>(ac w a.lm fI d5).1.rep)++Ti (l.length-i) 0) (i:=i) (by simp;omega) (rowAt ha rfl) (κ Tb hi) (J3 hi hs) (by have:=lM fI (l.take i);grind);rw[SE (f:=λa=>(ac w a.lm fI d5).1.rep) hi ha] at key;have e2:j8 fI (l.take (i+1))=j8 fI (l.take i)++rdT 1 l[i].lm 0 fI:=by unfold j8;rw[List.take_add_one,ha,Option.toList_some,List.flatMap_append,List.flatMap_singleton]
  grind
 ·have:=SD (w:=w) (d5:=d5) (fI:=fI) (as_:=l.map Tb) (rs0:=rs0) (rs:=rs++j8 fI l) (xs:=jm w d5 fI l) (i:=l.length) (aR Tb l);have e3:l.map (λa=>(ac w a.lm fI d5).1.rep)++Ti (l.length-l.length) 0=jm w d5 fI l:=by simp[jm]
  grind
theorem makeV(l:iN):Ti (S9 ((l.map Tb).length:Int)) [go 0]=cvV (Ti l.length 0):=by simp[ad]
theorem HQ(f:Ref->D)(n:Nat):(Ti n [go 0]).map (Tz f)=Ti n [go 0]:=by rw[List.map_replicate];rfl
theorem SF(xs:bV):cvV xs=(zaQ xs).map (S2 Us):=by simp[ad]
noncomputable abbrev rn(w:kc)(d5:Int)(fI:Int)(l:iN)(rs:iF):aT:=[iI (ZQ 1 w d5),.lk (zct rs (j8 fI l)) 1 5]
theorem B8(hw:w.ok)(hl:l.length<=90000000){rs:iF}(hb:rs.length<=900000000):(Ev S5 uS 92 [mW (J0 0 0),ab (l.map Tb),go fI] (lkH w d5 rs 0) (JV [ab ((nj l (jm w d5 fI l)).1.map Tb),go (nj l (jm w d5 fI l)).2]) (lkH w d5 (rs++j8 fI l) 1)):=by have Pq:=(@cv_cw (w) (hw) (d5) (fI) (l) (hl) (rs) (rs) (hb) (zcH (S7 (S2 Tb l)) (ziz)) (by first|assumption|rfl|omega|exact makeV _|exact HQ _ _|exact SF _|exact aB _ _|exact br|(simp;omega)));let v0:=S7 (S2 Tb l);let v1:=ziz;refine Tw (yF (h':=(rn w d5 fI l rs)) (d:=TT [ab (S2 Tb (nj l (jm w d5 fI l)).fst),go (nj l (jm w d5 fI l)).2]) [((by subst v0 v1;grind):(lL (0<=(↑v0:Int))&&lL ((↑v0:Int)<=(↑v0:Int))&&lL ((↑v0:Int)*(↑8:Int)<=281474976710656)&&lL ((↑v0:Int)<=281474976710656))=J),(?_:S2 (Tz (ar 1 0 1)) (ad (J2 rs))=ad (J2 rs)),(?_:S2 (Tz (ar 1 0 1)) (Ti (S9 (↑v0:Int)) v1)=Ti (S9 (↑v0:Int)) v1),.n 3,.o (.ren 1 1),.s [0,1,2,8,14,15,16] Pq,((by subst v0 v1;grind):cvV (jm w d5 fI l)=S2 (λx=>S2 Us x) (S2 (λn=>[vi n]) (jm w d5 fI l))),(?_:S2 (Tz (cw 2 0 (zcd (jm w d5 fI l)))) (zct rs (j8 fI l))=ad (J2 (rs++j8 fI l))),(rfl:Tl 2 (zib 0 2 0 (zcd (jm w d5 fI l)) (iI (ZQ 1 w d5)))=J),(?_:Tl 2 (match 0+1==2 with|true=>.ν|false=>ZK (cw 2 0 (zcd (jm w d5 fI l))) (zb8 (rs++j8 fI l) 1))=J),.o (τ [1,8]),.o (zed 2 (zcd (jm w d5 fI l))),.o (zmj 2),.v (Tp (Γ':=uS) (@cnt_ev l (by subst v0 v1;grind) (jm w d5 fI l) (rn w d5 fI l rs)))]) ο ο<;>subst v0 v1<;>(first|exact HQ _ _|exact aB _ _|exact br)
def vD(r:Τ)(fI:Int):Bool:=eK r != 0||!(lL (fI>=0)&&lL (fI<=1023))
def rcX(b:Bool)(e:Int)(L:iN)(rr:iF):iN×iF×Int:=match b with
 |true=>([],[],150)
 |false=>match (e != 0) with
  |true=>([],[],e)
  |false=>(L,rr,0)
noncomputable abbrev yz(w:kc)(r:Τ)(d5:Int)(rr:iF):aT:=[iI (ZA w),iI (zaM r),iI (zhl 3 1 w d5),.lk (ad (J2 rr)) 1 5]
noncomputable abbrev yA(w:kc)(r:Τ)(d5:Int):aT:=[iI (ZA w),iI (zaM r),iI (zhl 3 0 w d5),.lk [] 0 5]
noncomputable abbrev gk(w:kc)(r:Τ):aT:=[iI (ZA w),iI (zaM r)]
abbrev zf7(b:Nat)(c:iN)(d:Int):bY:=[mW (J0 b 0),ab (S2 Tb c),go d]
abbrev zjc(a:iN)(b:Int):D:=(TT [ab (S2 Tb a),go b])
theorem rcnt_a(hr:ah r.a){rr:iF}(hc:Ev S5 uS 92 [mW (J0 0 0),ab (r.a.map Tb),go fI] (lkH w d5 [] 0) (JV [ab (L.map Tb),go e]) (lkH w d5 rr 1))(h:aT):(Ev S5 uS 43 [uT w.l,uT r.l,go fI,go d5] h (JV [ab ((rcX (vD r fI) e L rr).1.map Tb),ab (J2 (rcX (vD r fI) e L rr).2.1),go (rcX (vD r fI) e L rr).2.2]) h):=by
 cases F3:eK r != 0||!(lL (fI>=0)&&lL (fI<=1023))
 ·cases Α:e != 0;·exact Tw (U7 (y0 (d:=TT [ab (S2 Tb L),ab (J2 rr),go 0]) [.v (Tp (Γ':=uS) (@nb r hr (gk w r))),.w (!eK r != 0) (Tp (Γ':=uS) (@bc fI 0 1023 (gk w r))),.b F3,.n 1,.o (.zjT 2 0 5),.c ((fX [2,3] (@hc) ⟨uU,trivial⟩ ⟨(by exact aj _ _),trivial⟩):Ev S5 uS 92 (zf7 2 r.a fI) (yA w r d5) (zjc L e) (yz w r d5 rr)),(uU:ad (J2 rr)=S2 (λx=>S2 Us x) (J2 rr)),.o (zed 3 (J2 rr)),.b Α] h)) (by(have hh:vD r fI=N:=F3;have h2:(e != 0)=N:=Α;simp[rcX,hh,h2];rfl)) ο
  ·exact Tw (U7 (y0 (d:=TT [nq,nq,go e]) [.v (Tp (Γ':=uS) (@nb r hr (gk w r))),.w (!eK r != 0) (Tp (Γ':=uS) (@bc fI 0 1023 (gk w r))),.b F3,.n 1,.o (.zjT 2 0 5),.c ((fX [2,3] (@hc) ⟨uU,trivial⟩ ⟨(by exact aj _ _),trivial⟩):Ev S5 uS 92 (zf7 2 r.a fI) (yA w r d5) (zjc L e) (yz w r d5 rr)),(uU:ad (J2 rr)=S2 (λx=>S2 Us x) (J2 rr)),.o (zed 3 (J2 rr)),.b Α] h)) (by(have hh:vD r fI=N:=F3;have h2:(e != 0)=J:=Α;simp only[rcX,hh,h2];rfl)) ο
 ·exact Tw (U7 (y0 (d:=TT [nq,nq,go 150]) [.v (Tp (Γ':=uS) (@nb r hr (gk w r))),.w (!eK r != 0) (Tp (Γ':=uS) (@bc fI 0 1023 (gk w r))),.b F3] h)) (by(have hh:vD r fI=J:=F3;simp only[rcX,hh];rfl)) ο
def cN(w:kc)(r:Τ)(fI d5:Int):iN×iF×Int :=rcX (vD r fI) (nj r.a (jm w d5 fI r.a)).2 (nj r.a (jm w d5 fI r.a)).1 (j8 fI r.a)
theorem HR(hw:w.ok)(hr:r.a.length<=90000000)(h:List F2):Ev S5 uS 43 [.agg w.l,.agg r.l,go fI,go d5] h (.Ρ [ab ((cN w r fI d5).1.map Tb),ab (J2 (cN w r fI d5).2.1),go (cN w r fI d5).2.2]) h :=
 rcnt_a (by unfold ah;omega) (by have:=B8 hw (d5:=d5) (fI:=fI) (l:=r.a) hr (rs:=[]) (by simp);grind) h
abbrev vwH(w:kc)(fI d5:Int)(rs:iF)(e:Nat):aT:=[iI [mW (.lk 1 e),ab (w.c.map Tc),ab w.p,ab (w.s.map Tj),ab (w.f.map Ta),go fI,go d5],.lk (ad (J2 rs)) e 5]
abbrev zhn(a b:Nat)(c:kc)(d e:Int):bY:=[mW (.lk a b),(ZX c),ab c.p,(ZY c),(ZU c),go d,go e]
theorem fJ{w:kc}{fI d5:Int}{rs qs:iF}(hb:rs.length+qs.length<=1000000000):(Ev S5 uS 122 (zdI qs) (vwH w fI d5 rs 0) (JV []) (vwH w fI d5 (rs++qs) 1)):=Tw (yF (h':=[iI (zhn 1 1 w fI d5),.lk (zkd rs (ZW qs)) 1 5]) (d:=TT []) [((by(simp only[Qa,L8,Bool.true_and,Bool.and_eq_true,decide_eq_true_eq,List.length_map];omega)):(List.all (S2 (λx=>S2 Us x) (J2 qs)) (aL 5)&&L8 (S7 (ad (J2 rs))+S7 (S2 (λx=>S2 Us x) (J2 qs))) 40)=J)]) uU uU
noncomputable abbrev Aj(w:kc)(fI:Int)(d5:Int)(rs:iF):aT:=[iI (zhn 1 0 w fI d5),.lk (ad (J2 rs)) 0 5,iI [nq,nq,nq,nq],iI [nq,nq,nq,nq]]
noncomputable abbrev j5(w:kc)(fI:Int)(d5:Int)(rs:iF):aT:=[iI (zhn 1 0 w fI d5),.lk (ad (J2 rs)) 0 5,iI [nq,nq,nq,nq]]
theorem LA(hw:w.ok){rs:iF}(hb:rs.length<=999999000):(Ev S5 uS 54 za8 (vwH w fI d5 rs 0) (ag (bU w fI d5).1.row) (vwH w fI d5 (rs++rdT 4 0 0 fI) 1)):=by let v0:bY:=[ab (S2 Cls.row (bU w fI d5).fst.Υ),ab (S2 zbv.row (bU w fI d5).fst.zkQ),ab (S2 Cls.row (bU w fI d5).fst.zas),ab (S2 ZB.row (bU w fI d5).fst.clauses)];let v1:bY:=(zhn 1 1 w fI d5);refine Tw (Yd (d2:=TF v0) (h2:=[iI v1,.lk (zcL rs 4 0 fI) 1 5]) (φ:=[Tl 2 (iI v1)=J,Tl 2 (zb8 (rs++rdT 4 0 0 fI) 1)=J]) zg3 (yF (h':=[iI v1,.lk (zcL rs 4 0 fI) 1 5,iI v0,iI v0]) (d:=TF v0) [.v (@na w hw fI d5 (j5 w fI d5 rs)),pe zab,pe zab,pe zcM,pe zcM,pe (TF (TC w)),pe (TF (TC w)),pe zab,pe zab,pe zdv,pe zdv,po (Ω fI),po (Ω fI),pe zab,pe zab,pe zdw,pe zdw,po (Ω d5),po (Ω d5),pr (j5 w fI d5 rs),(@na w hw fI d5 (j5 w fI d5 rs)),(@na w hw fI d5 (Aj w fI d5 rs)),.c ((fX [0,1] (@fJ w fI d5 rs (rdT 4 0 0 fI) (by subst v0 v1;(have:=fk 4 0 0 fI;omega))) ⟨?_,trivial⟩ ⟨?_,trivial⟩):Ev S5 uS 122 [mW (J0 0 0),ab (J2 (rdT 4 0 0 fI))] [iI (zhn 1 0 w fI d5),.lk (ad (J2 rs)) 0 5,iI [nq,nq,nq,nq],iI v0] (TT []) [iI v1,.lk (zcL rs 4 0 fI) 1 5,iI [nq,nq,nq,nq],iI v0])]) Z ⟨rfl,(by subst v0 v1;exact aD _ _),trivial⟩) (by subst v0 v1;rfl) (by subst v0 v1;grind)<;>subst v0 v1<;>(exact aj _ _)
abbrev minE(x:Int):Int:=if N=J then if 10000>x then 10000 else x else if 10000<x then 10000 else x
structure VwX where
 ZD:Int
 n:Int
 d:Int
 e:Int
 q:iF
def vwX(q1 q2:iF)(e1 e2 ea ZD n d e:Int):VwX:=match e1 != 0 with
 |true=>⟨0,0,0,e1,q1⟩
 |false=>match e2 != 0 with
  |true=>⟨0,0,0,e2,q1++q2⟩
  |false=>match ea != 0 with
   |true=>⟨0,0,0,ea,q1++q2⟩
   |false=>⟨minE ZD,n,d,e,q1++q2⟩
noncomputable abbrev dy(w:kc)(fI:Int)(d5:Int)(rs:iF)(r:Τ)(q1:iF)(q2:iF):aT:=[iI (zhn 1 2 w fI d5),.lk (zdJ rs q1 q2) 2 5,iI [go 0,go 0],iI (zaM r)]
noncomputable abbrev ce(w:kc)(fI:Int)(d5:Int)(rs:iF)(r:Τ)(q1:iF):aT:=[iI (zhn 1 1 w fI d5),.lk (zct rs q1) 1 5,iI [go 0,go 0],iI (zaM r)]
noncomputable abbrev jn(w:kc)(fI:Int)(d5:Int)(rs:iF)(r:Τ):aT:=[iI (zhn 1 0 w fI d5),.lk (ad (J2 rs)) 0 5,iI [go 0,go 0],iI (zaM r)]
noncomputable abbrev jo(w:kc)(fI:Int)(d5:Int)(rs:iF):aT:=[iI (zhn 1 0 w fI d5),.lk (ad (J2 rs)) 0 5,iI [go 0,go 0],iI [go 0,nq]]
noncomputable abbrev bL(w:kc)(fI:Int)(d5:Int)(rs:iF):aT:=[iI (zhn 1 0 w fI d5),.lk (ad (J2 rs)) 0 5,iI [go 0,go 0]]
abbrev zfE:Do:=[δ (.ren 1 1),δ (zmj 2)]
abbrev ziZ(a:Int):D:=TT [go 0,zd6,go a]
theorem SG{rs:iF}{q1 q2:iF}{e1 e2 ea ZD d:Int}(hb:rs.length+q1.length+q2.length<=1000000000)(h1:∀h,Ev S5 uS 41 (zbE w st fI d5) h (JV [uT r.l,ab (J2 q1),go e1]) h)(h2:∀h,Ev S5 uS 43 [uT w.l,uT r.l,go fI,go d5] h (JV [ab (L.map Tb),ab (J2 q2),go e2]) h)(h3:∀h,Ev S5 uS 50 (zc5 L) h (JV [go ZD,go ea]) h)(h4:∀h,Ev S5 uS 51 (zc5 L) h (JV [uT [go n,go d],go e]) h):(Ev S5 uS 56 (zde 0 st) (vwH w fI d5 rs 0) (JV [go (vwX q1 q2 e1 e2 ea ZD n d e).ZD,uT [go (vwX q1 q2 e1 e2 ea ZD n d e).n,go (vwX q1 q2 e1 e2 ea ZD n d e).d],go (vwX q1 q2 e1 e2 ea ZD n d e).e]) (vwH w fI d5 (rs++(vwX q1 q2 e1 e2 ea ZD n d e).q) 1)):=by
 cases F3:e1 != 0
 ·cases Α:e2 != 0
  ·cases hc2:ea != 0;·let v0:bY:=(zhn 1 2 w fI d5);let v1:bY:=[(ZM 10000 ZD),TF [go n,go d],go e];refine Tw (Yd (d2:=TT v1) (h2:=[iI (zhn 1 1 w fI d5),.lk (zdJ rs q1 q2) 1 5]) (φ:=[S2 (Tz (ar 1 2 1)) (zdJ rs q1 q2)=ad (J2 (rs++q1++q2)),Tl 2 (zaY 1 (ad (J2 (rs++q1++q2))) 1 5 2 v0)=J,Tl 2 (ZT 0 1 (ad (J2 (rs++q1++q2))) 1 5 2)=J]) zfE (yF (h':=[iI v0,.lk (zdJ rs q1 q2) 2 5,iI [go n,go d],iI (zaM r)]) (d:=TT v1) [.v (@h1 (bL w fI d5 rs)),pe zab,pe zab,pe zcM,pe zcM,pe (TF (TC w)),pe (TF (TC w)),pe zab,pe zab,pe zdv,pe zdv,po (Ω fI),po (Ω fI),pe zab,pe zab,pe zdw,pe zdw,po (Ω d5),po (Ω d5),pr (bL w fI d5 rs),(@h1 (bL w fI d5 rs)),(@h1 (jo w fI d5 rs)),.c ((fX [0,1] (@fJ w fI d5 rs q1 (by subst v0 v1;omega)) ⟨?_,trivial⟩ ⟨?_,trivial⟩):Ev S5 uS 122 (zdI q1) (jn w fI d5 rs r) (TT []) (ce w fI d5 rs r q1)),.b F3,.v (@h2 (ce w fI d5 rs r q1)),.c ((fX [0,1] (Ev.upX [0,1] (@fJ w fI d5 (rs++q1) q2 (by subst v0 v1;(simp;omega))) Z ⟨?_,trivial⟩ ⟨?_,trivial⟩) ⟨?_,trivial⟩ ⟨?_,trivial⟩):Ev S5 uS 122 (zdI q2) (ce w fI d5 rs r q1) (TT []) (dy w fI d5 rs r q1 q2)),.b Α,.v (@h3 (dy w fI d5 rs r q1 q2)),.b hc2,.v (@h4 (dy w fI d5 rs r q1 q2)),pe (TF [go n,go d])]) Z ⟨(by subst v0 v1;exact aB _ _),rfl,(by subst v0 v1;exact aD _ _),trivial⟩) (by subst v0 v1;(simp[vwX,F3,Α,hc2];first|done|rfl)) (by subst v0 v1;(simp[vwX,F3,Α,hc2];first|done|rfl))<;>subst v0 v1<;>(exact aj _ _)
   ·refine Tw (Yd (d2:=(ziZ ea)) (h2:=[iI (zhn 1 1 w fI d5),.lk (zdJ rs q1 q2) 1 5]) (φ:=[S2 (Tz (ar 1 2 1)) (zdJ rs q1 q2)=ad (J2 (rs++q1++q2)),Tl 2 (zjv 0 1 (zdJ rs q1 q2) 1 5 2 (iI (zhn 1 2 w fI d5)))=J,Tl 2 (ZT 0 1 (ad (J2 (rs++q1++q2))) 1 5 2)=J]) zfE (yF (h':=(dy w fI d5 rs r q1 q2)) (d:=(ziZ ea)) [.v (@h1 (bL w fI d5 rs)),pe zab,pe zab,pe zcM,pe zcM,pe (TF (TC w)),pe (TF (TC w)),pe zab,pe zab,pe zdv,pe zdv,po (Ω fI),po (Ω fI),pe zab,pe zab,pe zdw,pe zdw,po (Ω d5),po (Ω d5),pr (bL w fI d5 rs),(@h1 (bL w fI d5 rs)),(@h1 (jo w fI d5 rs)),.c ((fX [0,1] (@fJ w fI d5 rs q1 tj) ⟨?_,trivial⟩ ⟨?_,trivial⟩):Ev S5 uS 122 (zdI q1) (jn w fI d5 rs r) (TT []) (ce w fI d5 rs r q1)),.b F3,.v (@h2 (ce w fI d5 rs r q1)),.c ((fX [0,1] (Ev.upX [0,1] (@fJ w fI d5 (rs++q1) q2 (by(simp;omega))) Z ⟨?_,trivial⟩ ⟨?_,trivial⟩) ⟨?_,trivial⟩ ⟨?_,trivial⟩):Ev S5 uS 122 (zdI q2) (ce w fI d5 rs r q1) (TT []) (dy w fI d5 rs r q1 q2)),.b Α,.v (@h3 (dy w fI d5 rs r q1 q2)),.b hc2,pe (zd6)]) Z ⟨(by exact aB _ _),rfl,(by exact aD _ _),trivial⟩) (by(simp[vwX,F3,Α,hc2];first|done|rfl)) (by(simp[vwX,F3,Α,hc2];first|done|rfl))<;>(exact aj _ _)
  ·refine Tw (Yd (d2:=(ziZ e2)) (h2:=[iI (zhn 1 1 w fI d5),.lk (zdJ rs q1 q2) 1 5]) (φ:=[S2 (Tz (ar 1 2 1)) (zdJ rs q1 q2)=ad (J2 (rs++q1++q2)),Tl 2 (zjv 0 1 (zdJ rs q1 q2) 1 5 2 (iI (zhn 1 2 w fI d5)))=J,Tl 2 (ZT 0 1 (ad (J2 (rs++q1++q2))) 1 5 2)=J]) zfE (yF (h':=(dy w fI d5 rs r q1 q2)) (d:=(ziZ e2)) [.v (@h1 (bL w fI d5 rs)),pe zab,pe zab,pe zcM,pe zcM,pe (TF (TC w)),pe (TF (TC w)),pe zab,pe zab,pe zdv,pe zdv,po (Ω fI),po (Ω fI),pe zab,pe zab,pe zdw,pe zdw,po (Ω d5),po (Ω d5),pr (bL w fI d5 rs),(@h1 (bL w fI d5 rs)),(@h1 (jo w fI d5 rs)),.c ((fX [0,1] (@fJ w fI d5 rs q1 tj) ⟨?_,trivial⟩ ⟨?_,trivial⟩):Ev S5 uS 122 (zdI q1) (jn w fI d5 rs r) (TT []) (ce w fI d5 rs r q1)),.b F3,.v (@h2 (ce w fI d5 rs r q1)),.c ((fX [0,1] (Ev.upX [0,1] (@fJ w fI d5 (rs++q1) q2 (by(simp;omega))) Z ⟨?_,trivial⟩ ⟨?_,trivial⟩) ⟨?_,trivial⟩ ⟨?_,trivial⟩):Ev S5 uS 122 (zdI q2) (ce w fI d5 rs r q1) (TT []) (dy w fI d5 rs r q1 q2)),.b Α,pe (zd6)]) Z ⟨(by exact aB _ _),rfl,(by exact aD _ _),trivial⟩) (by(simp[vwX,F3,Α];first|done|rfl)) (by(simp[vwX,F3,Α];first|done|rfl))<;>(exact aj _ _)
 ·let v0:bY:=(zhn 1 1 w fI d5);refine Tw (Yd (d2:=(ziZ e1)) (h2:=[iI v0,.lk (zct rs q1) 1 5]) (φ:=[S2 (Tz (ar 1 1 1)) (zct rs q1)=ad (J2 (rs++q1)),Tl 2 (zaY 1 (ad (J2 (rs++q1))) 1 5 1 v0)=J,Tl 2 (ZT 0 1 (ad (J2 (rs++q1))) 1 5 1)=J]) zfE (yF (h':=(ce w fI d5 rs r q1)) (d:=(ziZ e1)) [.v (@h1 (bL w fI d5 rs)),pe zab,pe zab,pe zcM,pe zcM,pe (TF (TC w)),pe (TF (TC w)),pe zab,pe zab,pe zdv,pe zdv,po (Ω fI),po (Ω fI),pe zab,pe zab,pe zdw,pe zdw,po (Ω d5),po (Ω d5),pr (bL w fI d5 rs),(@h1 (bL w fI d5 rs)),(@h1 (jo w fI d5 rs)),.c ((fX [0,1] (@fJ w fI d5 rs q1 ?_) ⟨(by subst v0;exact aj _ _),trivial⟩ ⟨(by subst v0;exact aj _ _),trivial⟩):Ev S5 uS 122 (zdI q1) (jn w fI d5 rs r) (TT []) (ce w fI d5 rs r q1)),.b F3,pe (zd6)]) Z ⟨?_,rfl,?_,trivial⟩) (by subst v0;(simp[vwX,F3];first|done|rfl)) (by subst v0;(simp[vwX,F3];first|done|rfl))<;>subst v0<;>(first|omega|exact aB _ _|exact aD _ _)
def j9(w:kc)(st fI d5:Int):VwX :=vwX (dP w st fI d5).2.1 (cN w (dP w st fI d5).1 fI d5).2.1 (dP w st fI d5).2.2 (cN w (dP w st fI d5).1 fI d5).2.2
  (cz (cN w (dP w st fI d5).1 fI d5).1).2 (cz (cN w (dP w st fI d5).1 fI d5).1).1
  (bX (cN w (dP w st fI d5).1 fI d5).1).1 (bX (cN w (dP w st fI d5).1 fI d5).1).2.1 (bX (cN w (dP w st fI d5).1 fI d5).1).2.2
theorem vE(hw:w.ok):(gU w d5 st fI).length<=70656000:=by have:=tt hw (d5:=d5) (st:=st) (fI:=fI);unfold gU;simpa using this
theorem oK(hw:w.ok):(dP w st fI d5).1.a.length<=70656000/\(dP w st fI d5).2.1.length<=70725001:=by
 unfold dP;split;·simp
 ·exact⟨vE hw,iO hw⟩
theorem SH(m:IM)(e:JZ×Nat)(out:iN):(cgF m e out).length<=out.length+1:=by unfold cgF;grind
theorem tK(m:IM):∀(l:List (JZ×Nat)) (out:iN),(l.foldl (λout e=>cgF m e out) out).length<=out.length+l.length
 | [],_=>F1
 |e::l,out=>by have h1:=tK m l (cgF m e out);have h2:=SH m e out;grind
theorem HS(l:iN)(m:IM):(Ai l m).length<=l.length:=by have:=tK m l.zipIdx [];simpa[Ai] using this
theorem HT(l:iN)(rp:bV):(nj l rp).1.length<=l.length:=by
 unfold nj;cases lL (eL l=0);·simp
 ·cases lL (rp.length=l.length);·simp
  ·simp;split;·exact HS _ _
   ·simp
theorem SI(b:Bool)(e:Int)(L:iN)(rr:iF):(rcX b e L rr).1.length<=L.length/\(rcX b e L rr).2.1.length<=rr.length:=by unfold rcX;grind
theorem iY:(cN w r fI d5).1.length<=r.a.length/\(cN w r fI d5).2.1.length<=r.a.length:=by unfold cN;have h1:=SI (vD r fI) (nj r.a (jm w d5 fI r.a)).2 (nj r.a (jm w d5 fI r.a)).1 (j8 fI r.a);have h2:=HT r.a (jm w d5 fI r.a);have h3:=lM fI r.a;omega
theorem LB(hw:w.ok){rs:iF}(hb:rs.length<=100000000):Ev S5 uS 56 (zde 0 st) (vwH w fI d5 rs 0) (JV [go (j9 w st fI d5).ZD,uT [go (j9 w st fI d5).n,go (j9 w st fI d5).d],go (j9 w st fI d5).e]) (vwH w fI d5 (rs++(j9 w st fI d5).q) 1):=by
 have hl:=oK hw (st:=st) (fI:=fI) (d5:=d5);have hc:=iY (w:=w) (r:=(dP w st fI d5).1) (fI:=fI) (d5:=d5);have hs:ah (cN w (dP w st fI d5).1 fI d5).1:=by unfold ah;omega
 exact SG tj (λh=>Mk hw h) (λh=>HR hw tj h) (λh=>Tp (iQ hs h)) (λh=>Tp (lA hs h))
end Go.Vi
