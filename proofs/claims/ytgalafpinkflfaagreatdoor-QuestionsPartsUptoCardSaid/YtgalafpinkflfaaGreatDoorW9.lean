/- A part of the proof; no conditions of its own. -/
import Derived.Test.YtgalafpinkflfaaGreatDoorW8
open Bool renaming true->J,false->N
open Option renaming some->G,none->Y
open Go.Vi.mX renaming map->J2,var->eF,loop->Fa
open Go.Exit renaming normal->w8,exit->E8
open Go.Vi.S4 renaming st->CE,ov->zcB,inl->Α
open Go.Vi.SOp renaming frz->τ,Ju->zld,mask->EZ
open Go.Vi.D renaming JY->tf,agg->kb,ref->fE
open Go.Vi.Ref renaming ptr->ql
open Decidable renaming decide -> eY
open Go.Proofs.Tryz renaming f102 -> Wa, prog -> S5, f42 -> Wp, f15 -> TN, f166 -> Vz, f92 -> Zi
open List renaming nodup_nil -> Xg, map -> S2, getD -> Th, length -> S7, getElem?_eq_some_iff -> Td, getElem?_eq_getElem -> TH, replicate -> Ti
open Go.Vi.uU renaming row -> Tc
open Go.Vi.η renaming row -> Tj
open Go.Vi.uN renaming row -> Ta
open Go.Vi.CS renaming row -> Ts
open Go.Vi.uB renaming row -> Tb
open Go.Vi.Ev renaming zjM -> Tp, zkp -> Tw, zhC -> U7, post -> Yd
open Go.Vi.CW renaming preS -> Yx
open Go.Vi.mX renaming inn -> Tl
open Int renaming toNat -> S9
open Option renaming isSome -> Tx, getD -> TZ
open Go.Vi.D renaming p -> Us, JY -> TT, any -> Zh, TO -> Tz, EY -> Ty, agg -> TF
open Go.Vi.Dp renaming v -> Ws
open Go.Value renaming nilFunc -> T5, cells -> Yn
open Go.IntKind renaming i64 -> S6, wrap -> S8
open Go.Exit renaming normal -> Tr, ret -> VM
open Go.Vi.lm renaming fl -> Te
open Go.Vi.eO renaming l -> TC
open Go Go.Proofs
namespace Go.Vi
set_option maxRecDepth 100000
set_option maxHeartbeats 4000000
variable {H:List mX}{L l:iN}{a:uB}{as_:bv}{b:Bool}{c e en bO md mn ms n st d5 v:Int}{h:aT}{i:Nat}{m m1 m2:IM}{o:DO}{p:gM}{q1 q2 q3 rs:List CX}{r:JZ}{rp xs:bV}{rs0:iF}{u:Unit}{w:eO}{x1 x3:List (List Dp)}
def cT:Code->Code
 |.cond _ a _=>a
 |c=>c
theorem HK:al Wa=.seq (.region (BU (cL (al Wa))) (bW (cL (al Wa))) N) (.cond (.tmp 5) (.region (BU (cT (cR (al Wa)))) (bW (cT (cR (al Wa)))) N) .skip):=Z
abbrev zer:Nat×D:=(4,eP N)
noncomputable abbrev dm0T(e:Int):bY:=oz 9 0 [(0,eP N),(1,dd e),zer,(5,eP J)]
noncomputable def dm1(e:Int):Option (Exit×bY×aT):=bo S5 fI zme [] (bW (cT (cR (al Wa)))).toList (bW (cT (cR (al Wa)))).toList (dm0T e) []
noncomputable def dmC(e:Int):List PanicEntry:=match dm1 e with
 |some (.panic c,_,_)=>c
 |_=>[]
noncomputable def dmT(e:Int):bY:=match dm1 e with
 |some (_,t,_)=>t
 |_=>[]
theorem Dt(e:Int)(h:aT):zmq S5 fI 102 [eP N,dd e] h λc h'=>c=dmC e/\h'=h:=by refine zmq.zfN (fn:=Wa) (c:=al Wa) rfl rfl λX _=>?_;rw[HK];refine VW.seq (VW.zaN (s:={t:=cO Wa [eP N,dd e],h:=h,m:=[]}) (t':=dm0T e) (h':=h) (e:=w8) lH Z ?_);refine VW.cond (b:=J) rfl (λ_=>?_) (λhf=>by cases hf);refine VW.zaN (s:={t:=dm0T e,h:=h,m:=[]}) (t':=dmT e) (h':=h) (e:=.panic (dmC e)) lH Z ?_;exact⟨_,rfl,rfl,Xg,rfl,rfl⟩
def opFv(o:Oper):Operand:=match o.op with
 |.call {callee:=.value fv,.. }=>fv
 |_=>.tmp 0
def yy(o:Oper):OF:=match o.op with
 |.call {args,.. }=>args
 |_=>#[]
def Sm(o:Oper):ON:=match o.op with
 |.call {argTypes,.. }=>argTypes
 |_=>#[]
theorem Sn{c:Bool}(h:b=c):eP b=eP c:=by rw[h]
theorem Lo:al Wp=.region (BU (al Wp)) (bW (al Wp)) N:=Z
noncomputable abbrev SZ:Oper:=(bW (al Wp)).toList.getLastD default
abbrev zfv(a:Int):bY:=oz 6 0 [(0,dd a),(2,dd a),(3,eP (a==0)),(4,dd a)]
noncomputable abbrev zfC(a:Int):Exit:=(.panic (dmC a))
theorem So(e:Int)(he:(e==0)=N)(h:aT):zmq S5 fI 42 [dd e] h λc h'=>c=dmC e/\h'=h:=by
 refine zmq.zfN (fn:=Wp) (c:=al Wp) rfl rfl λX hX a w hs=>?_;rw[Lo];have hc:CW S5 fI h N (.region (BU (al Wp)) (bW (al Wp)) N) {t:=cO Wp [dd e],h:=h,m:=[]} (zfC e) {t:=(zfv e),h:=h,m:=[]}:=by
  refine CW.zqo (os1:=(bW (al Wp)).toList.take 3) (rest:=[]) (o:=SZ) (fv:=opFv SZ) (args:=yy SZ) (ats:=Sm SZ) (h1:=h) Z Z Z Z ?_ rfl;have e1:iI fI (zfv e) (opFv SZ)=.p (zcs 102):=Z
  have e2:(yy SZ).toList.map (iI fI (zfv e))=[eP (e==0),dd e]:=Z
  rw[e1,e2,Sn he];exact zlE.zku ZK (f:=102) (fi:=[]) (ca:=[]) rfl Z (Dt e _)
 refine wpIn_mono (hc X Y hX (λ_=>rfl) a w hs) ?_;rintro e a' w' ⟨h1,s,⟨rfl,rfl⟩,h2⟩;exact⟨h1,_,⟨_,rfl,rfl,Xg,rfl,rfl⟩,h2⟩
noncomputable abbrev rg(k:Nat):BY:=bW (cL (be (al TN) k))
noncomputable abbrev rgO(k:Nat):Oper:=(rg k).toList.getLastD default
abbrev paT(e:Int):bY:=oz 167 0 [WF,zat,zaJ,zaK,(19,dd e)]
abbrev paH(w:eO)(A:bY)(rs:iF):aT:=[eF w.l,eF A,eF [eP N],eF [ab (qm rs)],eF [dd 0]]
abbrev zgk(a:Int)(b:Nat):bY:=J4 (paT a) (G b) (dd a)
theorem tI{A:bY}{rs:iF}{k x:Nat}(he:(e==0)=N)(hcode:be (al TN) k=.seq (.region (BU (cL (be (al TN) k))) (rg k) N) (cR (be (al TN) k)))(h1:(rg k).toList=(rg k).toList.take 1++rgO k::[])(h2:bo S5 jV pU [] (rg k).toList ((rg k).toList.take 1) (paT e) (paH w A rs)=G (w8,(zgk e x),paH w A rs))(h3:(rgO k).op=.call {callee:=.value (opFv (rgO k)),args:=yy (rgO k),argTypes:=Sm (rgO k)})(h4:(rgO k).guard=Y)
  (e1:iI jV (zgk e x) (opFv (rgO k))=.p (zcs 42)) (e2:(yy (rgO k)).toList.map (iI jV (zgk e x))=[dd e]) (h5:uc [10,11,12,13] 0 (zgk e x)=dgO) :
  CW S5 jV (hA w) N (be (al TN) k) {t:=paT e,h:=paH w A rs,m:=[]} (zfC e) {t:=dgO,h:=paH w A rs,m:=[]}:=by
 have h0:CW S5 jV (hA w) N (be (al TN) k) {t:=paT e,h:=paH w A rs,m:=[]} (zfC e) {t:=(zgk e x),h:=paH w A rs,m:=[]}:=by rw[hcode];refine CW.out qk (CW.zqo (os1:=(rg k).toList.take 1) (rest:=[]) (o:=rgO k) (fv:=opFv (rgO k)) (args:=yy (rgO k)) (ats:=Sm (rgO k)) (h1:=paH w A rs) h1 h2 h3 h4 ?_ rfl);rw[e1,e2];exact zlE.zku ZK (f:=42) (fi:=[]) (ca:=[]) rfl Z (So e he _).zjM
 have:=CW.maskE [10,11,12,13] h0
 unfold nT at this
 grind
noncomputable abbrev HL(w:eO)(q1:iF)(p:gM)(r:JZ):aT:=(zhq w [nq,dd 0,nq] q1 (ZI p) r)
theorem MM{e:Exit}
  (ht:CW S5 jV (hA w) false (be (al TN) 9) (sgB9 w d5 bO q1 q2 p r) e {t:=dgO,h:=H,m:=[]}):(CW S5 jV (hA w) false (be (al TN) 8) (sgB w d5 bO q1 q2 p r 0) e {t:=dgO,h:=H,m:=[]}):=by
 have xd:=(@ht)
 exact yx [] [.v (Tp (Γ':=jV) (@gX (HL w q1 p r))),xd,.a1 (.zkf [3,4,5,10,11,12,13,14,15,16,18] e {t:=oz 167 0 [(10,.ref (.ptr 1 0)),(11,.ref (.ptr 2 0)),(12,.ref (.ptr 3 0)),(13,.ref (.ptr 4 0))],h:=H})]
theorem Sp(he:(e==0)=false):CW S5 jV (hA w) false (be (al TN) 8) (sgB w d5 bO q1 q2 p r e) (.panic (dmC e)) {t:=dgO,h:=paH w [nq,dd 0,nq] q1,m:=[]} :=
 Yx [.st (.mask [10,11,12,13,19]),.st (.frz 5 (qm q1)),.st (.Ju 5)] (s1:={t:=paT e,h:=paH w [nq,dd 0,nq] q1,m:=[]}) (by kernel_rfl) (.c (show ad (qm q1)=(qm q1).map (·.map .p) from rfl) (.c (show Tl 5 (.var w.l)=true from rfl) (.c (show Tl 5 (.var [nq,dd 0,nq])=true from rfl) (.c (show Tl 5 (.var [eP false])=true from rfl) (.c (show Tl 5 (.var [ab (qm q1)])=true from rfl) (.c (show Tl 5 (.var [dd 0])=true from rfl) .n))))))
  (tI (k:=8) (x:=58) he (by kernel_rfl) (by kernel_rfl) (by kernel_rfl) (by kernel_rfl) (by kernel_rfl) (by kernel_rfl) (by kernel_rfl) (by kernel_rfl))
noncomputable abbrev Du(w:eO)(rs:iF)(p:gM)(r:JZ):aT:=(zhq w [nq,dd 0,nq] rs (ZI p) r)
theorem Sq{l:List uB}{e:Exit}
  (ht:CW S5 jV (hA w) false (be (al TN) 12) (Sf w d5 bO rs q3 p r l) e {t:=dgO,h:=H,m:=[]}):(CW S5 jV (hA w) false (be (al TN) 11) (sgC w d5 bO rs q3 p r l 0) e {t:=dgO,h:=H,m:=[]}):=by
 have xd:=(@ht)
 exact yx [] [.v (Tp (Γ':=jV) (@gX (Du w rs p r))),xd,.a1 (.zkf [3,4,5,10,11,12,13,14,15,16,20] e {t:=oz 167 0 [(10,.ref (.ptr 1 0)),(11,.ref (.ptr 2 0)),(12,.ref (.ptr 3 0)),(13,.ref (.ptr 4 0))],h:=H})]
theorem Lp{l:List uB}(he:(e==0)=false):CW S5 jV (hA w) false (be (al TN) 11) (sgC w d5 bO rs q3 p r l e) (.panic (dmC e)) {t:=dgO,h:=paH w [nq,dd 0,nq] rs,m:=[]} :=
 Yx [.st (.mask [10,11,12,13,19]),.st (.frz 5 (qm rs)),.st (.Ju 5)] (s1:={t:=paT e,h:=paH w [nq,dd 0,nq] rs,m:=[]}) (by kernel_rfl) (.c (show ad (qm rs)=(qm rs).map (·.map .p) from rfl) (.c (show Tl 5 (.var w.l)=true from rfl) (.c (show Tl 5 (.var [nq,dd 0,nq])=true from rfl) (.c (show Tl 5 (.var [eP false])=true from rfl) (.c (show Tl 5 (.var [ab (qm rs)])=true from rfl) (.c (show Tl 5 (.var [dd 0])=true from rfl) .n))))))
  (tI (k:=11) (x:=72) he (by kernel_rfl) (by kernel_rfl) (by kernel_rfl) (by kernel_rfl) (by kernel_rfl) (by kernel_rfl) (by kernel_rfl) (by kernel_rfl))
noncomputable abbrev Dv(w:eO)(rs:iF)(x1:bv)(x3:bv)(ms:Int)(p:gM)(r:JZ):aT:=(zhq w (zdY x1 ms x3) rs (ZI p) r)
theorem vB{l:List uB}{e:Exit}
  (ht:CW S5 jV (hA w) false (be (al TN) 30) (sgD30 w rs x1 x3 ms p r l) e {t:=dgO,h:=H,m:=[]}):(CW S5 jV (hA w) false (be (al TN) 29) (sgD w rs x1 x3 ms p r l 0) e {t:=dgO,h:=H,m:=[]}):=by
 have xd:=(@ht)
 exact yx [] [.v (Tp (Γ':=jV) (@gX (Dv w rs x1 x3 ms p r))),xd,.a1 (.zkf [10,11,12,13,15,20] e {t:=oz 167 0 [(10,.ref (.ptr 1 0)),(11,.ref (.ptr 2 0)),(12,.ref (.ptr 3 0)),(13,.ref (.ptr 4 0))],h:=H})]
theorem Lq{l:List uB}(he:(e==0)=false):CW S5 jV (hA w) false (be (al TN) 29) (sgD w rs x1 x3 ms p r l e) (.panic (dmC e)) {t:=dgO,h:=paH w [ab x1,dd ms,ab x3] rs,m:=[]} :=
 Yx [.st (.mask [10,11,12,13,19]),.st (.frz 5 (qm rs)),.st (.Ju 5)] (s1:={t:=paT e,h:=paH w [ab x1,dd ms,ab x3] rs,m:=[]}) (by kernel_rfl) (.c (show ad (qm rs)=(qm rs).map (·.map .p) from rfl) (.c (show Tl 5 (.var w.l)=true from rfl) (.c (show Tl 5 (.var [ab x1,dd ms,ab x3])=true from rfl) (.c (show Tl 5 (.var [eP false])=true from rfl) (.c (show Tl 5 (.var [ab (qm rs)])=true from rfl) (.c (show Tl 5 (.var [dd 0])=true from rfl) .n))))))
  (tI (k:=29) (x:=127) he (by kernel_rfl) (by kernel_rfl) (by kernel_rfl) (by kernel_rfl) (by kernel_rfl) (by kernel_rfl) (by kernel_rfl) (by kernel_rfl))
noncomputable abbrev Dw(w:eO)(rs:iF)(x1:bv)(x3:bv)(ms:Int)(p:gM)(r:JZ):aT:=(zhq w (zdY x1 ms x3) rs (ZI p) r)
theorem Ah{l:List uB}{e:Exit}
  (ht:CW S5 jV (hA w) false (be (al TN) 32) (sgE32 w rs x1 x3 ms p r l en) e {t:=dgO,h:=H,m:=[]}):(CW S5 jV (hA w) false (be (al TN) 31) (sgE w rs x1 x3 ms p r l en 0) e {t:=dgO,h:=H,m:=[]}):=by
 have xd:=(@ht)
 exact yx [] [.v (Tp (Γ':=jV) (@gX (Dw w rs x1 x3 ms p r))),xd,.a1 (.zkf [10,11,12,13,15,20,28] e {t:=oz 167 0 [(10,.ref (.ptr 1 0)),(11,.ref (.ptr 2 0)),(12,.ref (.ptr 3 0)),(13,.ref (.ptr 4 0))],h:=H})]
theorem Lr{l:List uB}(he:(e==0)=false):CW S5 jV (hA w) false (be (al TN) 31) (sgE w rs x1 x3 ms p r l en e) (.panic (dmC e)) {t:=dgO,h:=paH w [ab x1,dd ms,ab x3] rs,m:=[]} :=
 Yx [.st (.mask [10,11,12,13,19]),.st (.frz 5 (qm rs)),.st (.Ju 5)] (s1:={t:=paT e,h:=paH w [ab x1,dd ms,ab x3] rs,m:=[]}) (by kernel_rfl) (.c (show ad (qm rs)=(qm rs).map (·.map .p) from rfl) (.c (show Tl 5 (.var w.l)=true from rfl) (.c (show Tl 5 (.var [ab x1,dd ms,ab x3])=true from rfl) (.c (show Tl 5 (.var [eP false])=true from rfl) (.c (show Tl 5 (.var [ab (qm rs)])=true from rfl) (.c (show Tl 5 (.var [dd 0])=true from rfl) .n))))))
  (tI (k:=31) (x:=134) he (by kernel_rfl) (by kernel_rfl) (by kernel_rfl) (by kernel_rfl) (by kernel_rfl) (by kernel_rfl) (by kernel_rfl) (by kernel_rfl))
noncomputable abbrev Dx(w:eO)(rs:iF)(x1:bv)(x3:bv)(ms:Int)(mn:Int)(md:Int)(p:gM)(r:JZ):aT:=(zhv (ZA w) (zdY x1 ms x3) (ad (qm rs)) (ZI p) (zaM r) (eF [dd mn,dd md]))
theorem HM{e:Exit}
  (ht:CW S5 jV (hA w) false (be (al TN) 34) (sgF34 w rs x1 x3 ms p r en mn md) e {t:=dgO,h:=H,m:=[]}):(CW S5 jV (hA w) false (be (al TN) 33) (sgF w rs x1 x3 ms p r en mn md 0) e {t:=dgO,h:=H,m:=[]}):=by
 have xd:=(@ht)
 exact yx [] [.v (Tp (Γ':=jV) (@gX (Dx w rs x1 x3 ms mn md p r))),xd,.a1 (.zkf [10,11,12,13,15,28,29] e {t:=oz 167 0 [(10,.ref (.ptr 1 0)),(11,.ref (.ptr 2 0)),(12,.ref (.ptr 3 0)),(13,.ref (.ptr 4 0))],h:=H})]
theorem Ls(he:(e==0)=false):CW S5 jV (hA w) false (be (al TN) 33) (sgF w rs x1 x3 ms p r en mn md e) (.panic (dmC e)) {t:=dgO,h:=paH w [ab x1,dd ms,ab x3] rs,m:=[]} :=
 Yx [.st (.mask [10,11,12,13,19]),.st (.frz 5 (qm rs)),.st (.Ju 5)] (s1:={t:=paT e,h:=paH w [ab x1,dd ms,ab x3] rs,m:=[]}) (by kernel_rfl) (.c (show ad (qm rs)=(qm rs).map (·.map .p) from rfl) (.c (show Tl 5 (.var w.l)=true from rfl) (.c (show Tl 5 (.var [ab x1,dd ms,ab x3])=true from rfl) (.c (show Tl 5 (.var [eP false])=true from rfl) (.c (show Tl 5 (.var [ab (qm rs)])=true from rfl) (.c (show Tl 5 (.var [dd 0])=true from rfl) .n))))))
  (tI (k:=33) (x:=141) he (by kernel_rfl) (by kernel_rfl) (by kernel_rfl) (by kernel_rfl) (by kernel_rfl) (by kernel_rfl) (by kernel_rfl) (by kernel_rfl))
noncomputable abbrev Dy(w:eO)(rs:iF)(x1:bv)(x3:bv)(ms:Int)(mn:Int)(md:Int)(p:gM)(r:JZ):aT:=(zhv (ZA w) (zdY x1 ms x3) (ad (qm rs)) (ZI p) (zaM r) (eF [dd mn,dd md]))
theorem Sr{e:Exit}
  (ht:CW S5 jV (hA w) false (be (al TN) 36) (sgG36 w rs x1 x3 ms p r en mn md c) e {t:=dgO,h:=H,m:=[]}):(CW S5 jV (hA w) false (be (al TN) 35) (sgG w rs x1 x3 ms p r en mn md c 0) e {t:=dgO,h:=H,m:=[]}):=by
 have xd:=(@ht)
 exact yx [] [.v (Tp (Γ':=jV) (@gX (Dy w rs x1 x3 ms mn md p r))),xd,.a1 (.zkf [10,11,12,13,15,28,30] e {t:=oz 167 0 [(10,.ref (.ptr 1 0)),(11,.ref (.ptr 2 0)),(12,.ref (.ptr 3 0)),(13,.ref (.ptr 4 0))],h:=H})]
theorem Lt(he:(e==0)=false):CW S5 jV (hA w) false (be (al TN) 35) (sgG w rs x1 x3 ms p r en mn md c e) (.panic (dmC e)) {t:=dgO,h:=paH w [ab x1,dd ms,ab x3] rs,m:=[]} :=
 Yx [.st (.mask [10,11,12,13,19]),.st (.frz 5 (qm rs)),.st (.Ju 5)] (s1:={t:=paT e,h:=paH w [ab x1,dd ms,ab x3] rs,m:=[]}) (by kernel_rfl) (.c (show ad (qm rs)=(qm rs).map (·.map .p) from rfl) (.c (show Tl 5 (.var w.l)=true from rfl) (.c (show Tl 5 (.var [ab x1,dd ms,ab x3])=true from rfl) (.c (show Tl 5 (.var [eP false])=true from rfl) (.c (show Tl 5 (.var [ab (qm rs)])=true from rfl) (.c (show Tl 5 (.var [dd 0])=true from rfl) .n))))))
  (tI (k:=35) (x:=150) he (by kernel_rfl) (by kernel_rfl) (by kernel_rfl) (by kernel_rfl) (by kernel_rfl) (by kernel_rfl) (by kernel_rfl) (by kernel_rfl))
theorem Lu:al TN=.seq (.region (BU (cL (al TN))) (bW (cL (al TN))) N) (.seq (.region (BU (cL (cR (al TN)))) (bW (cL (cR (al TN)))) N) (cR (cR (al TN)))):=Z
theorem gj:zme.Ok S5 jV:=λ_ _ _ _ h=>by simp[zme] at h
abbrev dg0T(w:eO)(st n d5 bO:Int):bY:=oz 167 0 [(0,kb w.l),(1,dd st),(2,dd n),(3,dd d5),(4,dd bO),zbK,WF,zat,zaJ,zaK]
abbrev zgi:bY:=(zie (ql 1 0) 2 3 4)
abbrev dg1T(w:eO)(st n d5 bO:Int):bY:=oz 167 0 [(0,kb w.l),(1,dd st),(2,dd n),(3,dd d5),(4,dd bO),zbK,WF,zat,zaJ,zaK,(31,.fn (.func 37) [] zgi)]
abbrev dgCa:bY:=zgi
abbrev zdQ(a:eO)(b c d:Int)(e:D):bY:=[kb a.l,dd b,dd c,dd d,e]
theorem Ss{e:Exit}{s':AS}(κ:CW S5 jV (hA w) N (cR (cR (al TN))) (sgA w st n d5 bO) e s'):zdU S5 jV (al TN) {t:=cO TN (zdQ w st n d5 (dd bO)),h:=[],m:=[]} e s' (G (37,dgCa)):=by rw[Lu];refine zdU.seq (s1:={t:=dg0T w st n d5 bO,h:=(sgA w st n d5 bO).h,m:=[]}) (λX=>VW.zaN (t':=dg0T w st n d5 bO) (h':=(sgA w st n d5 bO).h) (e:=w8) gj Z ⟨rfl,rfl⟩) ?_;exact zdU.zpM (os:=(bW (cL (cR (al TN)))).toList.dropLast) (o:=Hf (bW (cL (cR (al TN)))).toList) (fv:=.tmp 31) (args:=#[]) (ats:=#[]) (t1:=dg1T w st n d5 bO) (h1:=(sgA w st n d5 bO).h) (f:=37) (fi:=[]) (ca:=dgCa) ZK gj Z Z Z Z rfl Z Z (CW.pre [1,2,3,4,5,10,11,12,13] κ)
theorem HN:DfF.Ok S5 jV (ff S5 jV noW 100):=(wo ZK (W:=noW) (λ_ _ _ _ h=>by simp[noW] at h) 100).2.2.2.2
noncomputable abbrev HO(e:Exit)(H:aT):Option CR:=pp S5 TN (ff S5 jV noW 100) 0 e {t:=dgO,h:=H,m:=[]} (G (37,dgCa))
theorem Su{rs:List (List Dp)}:HO .ret [.var w.l,.var [ab x1,dd ms,ab x3],.var [eP b],.var [ab rs],.var [dd 0]]=some (.ret (.JY [.agg [ab x1,dd ms,ab x3],eP b,ab rs,dd 0]) []):=by kernel_rfl
theorem Sv{rs:List (List Dp)}:HO .ret [.var w.l,.var [nq,dd 0,nq],.var [eP false],.var [ab rs],.var [dd 0]]=some (.ret (.JY [.agg [nq,dd 0,nq],eP false,ab rs,dd 0]) []):=by kernel_rfl
theorem MN:HO (.panic (dmC e)) (paH w [nq,dd 0,nq] rs)=some (.ret (.JY [.agg [nq,dd 0,nq],eP false,nq,dd e]) []):=by kernel_rfl
theorem B5:HO (.panic (dmC e)) (paH w [ab x1,dd ms,ab x3] rs)=some (.ret (.JY [.agg [nq,dd 0,nq],eP false,nq,dd e]) []):=by kernel_rfl
theorem nO{e:Exit}{d:D}(hr:CW S5 jV (hA w) false (cR (cR (al TN))) (sgA w st n d5 bO) e {t:=dgO,h:=H,m:=[]})(he:HO e H=some (.ret d [])):Ev S5 jV 15 [.agg w.l,dd st,dd n,dd d5,dd bO] [] d [] :=
 (zhZ.znx (f:=15) (args:=[.agg w.l,dd st,dd n,dd d5,dd bO]) (dfn:=ff S5 jV noW 100) (h:=[]) (r:=.ret d []) (fn:=TN) (c:=al TN) ZK rfl rfl HN (Ss hr) he).call
abbrev caH(m1 m2:IM):aT:=[eF GI,imB m1,imB m2]
abbrev zeo:Nat×D:=(8,fE (.mp 2))
abbrev zfW:Nat×D:=(7,fE (.mp 1))
abbrev zi7(a:iN)(b:bv)(c d:Int)(e:aT):AS:={t:=oz 135 0 [(zeU 0 a),(1,ab b),(4,fw),(5,dd c),zcT,zfW,zeo,(32,ab (a.map Tb)),(33,dd (a.map Tb).length),(34,dd d)],h:=e,m:=[]}
abbrev caS(l:iN)(rp:bv)(m1 m2:IM)(i:Int):AS :=(zi7 l rp 0 i (caH m1 m2))
abbrev zjN:D:=(fE (.mp 1))
abbrev zea:D:=zjN
theorem lk1(hb:h[1]?=G (imB m)):aw S5 h 168 zea (dd c) J=G (tf (zjR m c)):=yh (kt:=3) (et:=3) Z Z Z hb
theorem lk2(hb:h[2]?=G (imB m)):aw S5 h 168 zcn (dd c) J=G (tf (zjR m c)):=yh (kt:=3) (et:=3) Z Z Z hb
theorem up1(hb:h[1]?=G (imB m)):ay S5 h 168 zea (dd c) (dd v)=G (h.set 1 (imB (a8 m c v))):=ly (kt:=3) (et:=3) Z Z hb
theorem up2(hb:h[2]?=G (imB m)):ay S5 h 168 zcn (dd c) (dd v)=G (h.set 2 (imB (a8 m c v))):=ly (kt:=3) (et:=3) Z Z hb
def iW(r:Int)(o:DO):Bool:=!(eY (r>=0)&&eY (r<=2))||(o.isSome&&(o.getD 0 != r))
def rep0(a b:uB):Bool:=eY (a.Bn>b.Bn)||(a.Bn==b.Bn&&eY (a.d5<b.d5))
def rep1(a b:uB):Bool:=eY (a.d5>=b.d5)
def repB(r:Int)(a b:uB):Bool:=if r=0 then rep0 a b else rep1 a b
def iX(l:iN)(r:Int)(a:uB)(o:DO):Bool:=(r==0||r==1)&&(!o.isSome||repB r a (l.getD (S9 (o.getD 0)) default))
def caF(l:iN)(i:Int)(r:Int)(a:uB)(s:IM×IM):(IM×IM)⊕Unit:=match iW r (ap s.1 a.eR) with
 |true=>.inr ()
 |false=>.inl (a8 s.1 a.eR r,match iX l r a (ap s.2 a.eR) with|true=>a8 s.2 a.eR i|false=>s.2)
abbrev caX:Unit->Exit×AS:=λ_=>(.ret,{t:=oz 135 0 [(4,fw),(5,dd 1)],h:=[],m:=[]})
theorem ztt:iX l 0 a o=(J&&(!Tx o||(eY (a.Bn>(Th l (S9 (TZ o 0)) default).Bn)||(a.Bn==(Th l (S9 (TZ o 0)) default).Bn&&eY (a.d5<(Th l (S9 (TZ o 0)) default).d5))))):=by simp[iX,repB,rep0]
theorem zts:iX l 1 a o=(J&&(!Tx o||eY (a.d5>=(Th l (S9 (TZ o 0)) default).d5))):=by simp[iX,repB,rep1]
theorem MO:iX l 2 a o=N:=by simp[iX]
abbrev Z3:bY:=[eP J,fq 297,eP J,fq 298,eP N,Us (Ws T5)]
abbrev zcu(b:IM)(c:uB)(d:Int):List (D×D×Nat):=(aG 0 (a8 b c.eR d))
abbrev zi9(b:IM)(c:uB)(d:Int)(e:Nat)(f:IM):aT:=[eF Z3,J2 (zcu b c d) e,J2 (aG 0 f) (S7 f),eF (ZL c)]
noncomputable abbrev gY(m1:IM)(m2:IM)(a:uB):aT:=(zi9 m1 a 0 (S7 (a8 m1 a.eR 0)) m2)
abbrev zh0(b c:IM)(d:mX):aT:=[eF Z3,J2 (aG 0 b) (S7 b),J2 (aG 0 c) (S7 c),d]
noncomputable abbrev fH(m1:IM)(m2:IM)(a:uB):aT:=(zh0 m1 m2 (eF (ZL a)))
abbrev zbf(a:IM):mX:=(J2 (aG 0 a) (S7 a))
noncomputable def caP(K:Int){l:iN}{rp:List (List Dp)}(m1 m2:IM){a:uB}{i:Nat}(hr:ao (i:Int) (l.map Tb) a.row 5)(hq:ao (i:Int) rp [vi K] 1)(lL:eY ((i:Int)<((l.map Tb).length:Int))=true):List Stp:=[.b lL,.r hr,lk1 (h:=fH m1 m2 a) (c:=a.eR) rfl,.a1 (.ov 43 (TT (zjR m1 a.eR))),.r hq,.v (@dH K 0 2 (fH m1 m2 a)),zGw (!!(eY (K>=0)&&eY (K<=2))&&Tx (ap m1 a.eR)) hq,.a1 (.row [vi K])]
noncomputable def caQ(K:Int){l:iN}{rp:List (List Dp)}(m1 m2:IM){a:uB}{i:Nat}(hr:ao (i:Int) (l.map Tb) a.row 5)(hq:ao (i:Int) rp [vi K] 1)(lL:eY ((i:Int)<((l.map Tb).length:Int))=true)(hc:iW K (ap m1 a.eR)=false):List Stp:=caP K m1 m2 hr hq lL++[.b hc,.r hq,up1 (h:=fH m1 m2 a) (v:=K) (c:=a.eR) rfl,pe (.ref (.ptr 3 0)),po (some (dd a.eR)),lk2 (h:=caH (a8 m1 a.eR K) m2++[.var (S2 Us (Tb a))]) (c:=a.eR) rfl,.a1 (.oh 10063 .any (caH (a8 m1 a.eR K) m2++[.var (S2 Us (Tb a))])),.a1 (.ov 74 (TT (zjR m2 a.eR)))]
def caT(a b:IM):List Stp:=[bi 3 (.var Z3),ge (n:=3) (l:=a),ge (n:=3) (l:=b)]
theorem caV{l:iN}(hm:∀v,ap m2 a.eR=some v->0<=v/\v<(l.length:Int))(hg:(true&&!!Tx (ap m2 a.eR))=true):ao (TZ (ap m2 a.eR) 0) (S2 Tb l) (Tb (Th l (S9 (TZ (ap m2 a.eR) 0)) default)) 5:=by refine cy (λ_=>rfl) ?_ ?_<;>(cases hz:ap m2 a.eR<;>simp_all)
def caA:List S4:=[.st (.mask [0,1,4,5,6,7,8,32,33,34]),.st (.Ju 3)]
theorem ca_b0{l:List uB}{rp:List (List Dp)}(hm:∀v,ap m2 a.eR=some v->0<=v/\v<(l.length:Int))(hr:ao (i:Int) (l.map Tb) a.row 5)(hq:ao (i:Int) rp [vi 0] 1)(lL:eY ((i:Int)<((l.map Tb).length:Int))=true)(hw:S6.wrap ((i:Int)+1)=((i+1:Nat):Int)):(CW S5 fI [] false (sub Vz 0) (caS l rp m1 m2 i) (ai (λs=>caS l rp s.1 s.2 ((i+1:Nat):Int)) caX (caF l i 0 a (m1,m2))).1 (ai (λs=>caS l rp s.1 s.2 ((i+1:Nat):Int)) caX (caF l i 0 a (m1,m2))).2):=by
 let u:=true&&!!Tx (ap m2 a.eR)
 let v:=Th l (S9 (TZ (ap m2 a.eR) 0)) default
 let M:=a8 m1 a.eR 0
 let g:=gY m1 m2 a
 cases sQ:iW 0 (ap m1 a.eR)
 ·let Q:=caQ 0 m1 m2 hr hq lL sQ++[.a1 (.row [vi 0]),.r hq,(rfl:L9 0 3=true),zGw u hq,zGw u (rfl:L9 0 3=true),caV hm,.a1 (.row (Tb v)),.w u (@GG a v g)]
  cases FL:iX l 0 a (ap m2 a.eR)
  ·simp only[caF,sQ,FL,<-hw];exact yx caA (Q++[.b (ztt.symm.trans FL)]++caT M m2)
  ·simp only[caF,sQ,FL,<-hw];exact yx caA (Q++[.b (ztt.symm.trans FL),up2 (h:=g) (v:=i) (c:=a.eR) rfl]++caT M (a8 m2 a.eR i)++[.a1 (.oh 10103 .any (caH M (a8 m2 a.eR i)++[.var (S2 Us (Tb a))]))])
 ·simp only[caF,sQ];exact yx [.st (.mask [4,5]),.st (.Ju 0)] (caP 0 m1 m2 hr hq lL++[.b sQ])
noncomputable abbrev gZ(m1:IM)(m2:IM)(a:uB):aT:=(zi9 m1 a 1 (S7 (a8 m1 a.eR 1)) m2)
theorem ca_b1{l:List uB}{rp:List (List Dp)}(hm:∀v,ap m2 a.eR=some v->0<=v/\v<(l.length:Int))(hr:ao (i:Int) (l.map Tb) a.row 5)(hq:ao (i:Int) rp [vi 1] 1)(lL:eY ((i:Int)<((l.map Tb).length:Int))=true)(hw:S6.wrap ((i:Int)+1)=((i+1:Nat):Int)):(CW S5 fI [] false (sub Vz 0) (caS l rp m1 m2 i) (ai (λs=>caS l rp s.1 s.2 ((i+1:Nat):Int)) caX (caF l i 1 a (m1,m2))).1 (ai (λs=>caS l rp s.1 s.2 ((i+1:Nat):Int)) caX (caF l i 1 a (m1,m2))).2):=by
 let u:=true&&!!Tx (ap m2 a.eR)
 let v:=Th l (S9 (TZ (ap m2 a.eR) 0)) default
 let M:=a8 m1 a.eR 1
 let g:=gZ m1 m2 a
 cases sQ:iW 1 (ap m1 a.eR)
 ·let Q:=caQ 1 m1 m2 hr hq lL sQ++[.a1 (.row [vi 1]),.r hq,(rfl:L9 1 3=true),zGw u hq,zGw u (rfl:L9 1 3=true),caV hm,.a1 (.row (Tb v)),.w u (@GH a v g)]
  cases FL:iX l 1 a (ap m2 a.eR)
  ·simp only[caF,sQ,FL,<-hw];exact yx caA (Q++[.b (zts.symm.trans FL)]++caT M m2)
  ·simp only[caF,sQ,FL,<-hw];exact yx caA (Q++[.b (zts.symm.trans FL),up2 (h:=g) (v:=i) (c:=a.eR) rfl]++caT M (a8 m2 a.eR i)++[.a1 (.oh 10103 .any (caH M (a8 m2 a.eR i)++[.var (S2 Us (Tb a))]))])
 ·simp only[caF,sQ];exact yx [.st (.mask [4,5]),.st (.Ju 0)] (caP 1 m1 m2 hr hq lL++[.b sQ])
theorem ca_b2{l:List uB}{rp:List (List Dp)}(hr:ao (i:Int) (l.map Tb) a.row 5)(hq:ao (i:Int) rp [vi 2] 1)(lL:eY ((i:Int)<((l.map Tb).length:Int))=true)(hw:S6.wrap ((i:Int)+1)=((i+1:Nat):Int)):(CW S5 fI [] false (sub Vz 0) (caS l rp m1 m2 i) (ai (λs=>caS l rp s.1 s.2 ((i+1:Nat):Int)) caX (caF l i 2 a (m1,m2))).1 (ai (λs=>caS l rp s.1 s.2 ((i+1:Nat):Int)) caX (caF l i 2 a (m1,m2))).2):=by
 let r:=(rfl:false=false)
 cases sQ:iW 2 (ap m1 a.eR)
 ·simp only[caF,sQ,MO,<-hw];exact yx caA (caQ 2 m1 m2 hr hq lL sQ++[.r hq,(rfl:L9 2 3=true)]++zGn 3 r++.replicate 13 (.g r)++zGn 1 r++zCf 102 r++[.b r]++caT (a8 m1 a.eR 2) m2)
 ·simp only[caF,sQ];exact yx [.st (.mask [4,5]),.st (.Ju 0)] (caP 2 m1 m2 hr hq lL++[.b sQ])
noncomputable abbrev B6(m1:IM)(m2:IM)(a:uB):aT:=(zh0 m1 m2 (eF (ZL a)))
theorem ca_bX{l:List uB}{rp:List (List Dp)}{r:Int}(hx:(!(eY (r>=0)&&eY (r<=2))||Tx (ap m1 a.eR)&&TZ (ap m1 a.eR) 0 != r)=true)(hr:ao (i:Int) (l.map Tb) a.row 5)(hq:ao (i:Int) rp [vi r] 1)(lL:eY ((i:Int)<((l.map Tb).length:Int))=true)(hw:S6.wrap ((i:Int)+1)=((i+1:Nat):Int)):(CW S5 fI [] false (sub Vz 0) (caS l rp m1 m2 i) (ai (λs=>caS l rp s.1 s.2 ((i+1:Nat):Int)) caX (caF l i r a (m1,m2))).1 (ai (λs=>caS l rp s.1 s.2 ((i+1:Nat):Int)) caX (caF l i r a (m1,m2))).2):=by
 let v0:=TT [dd (TZ (ap m1 a.eR) 0),eP (Tx (ap m1 a.eR))]
 refine yX {t:=oz 135 0 [(4,nq),(5,dd 1)],h:=[],m:=[]} VM [.st (.mask [4,5]),.st (.Ju 0)] [.b lL,.r hr,((by subst v0;exact lk1 rfl):@Eq (Option D) (aw S5 (B6 m1 m2 a) 168 (.ref (.mp 1)) (dd a.eR) true) (some v0)),.a1 (.ov 43 v0),.r hq,.v (@dH r 0 2 (B6 m1 m2 a)),((λhg=>hq):(!!(eY (r>=0)&&eY (r<=2))&&Tx (ap m1 a.eR))=true->ao (↑i:Int) rp [vi r] 1),.a1 (.row [vi r]),.b hx] ?_ ?_<;>subst v0<;>((have h1:iW r (ap m1 a.eR)=true:=hx);simp[caF,h1,ai];done)
theorem Sw{rp:bv}(lL:eY ((i:Int)<((l.map Tb).length:Int))=N):(CW S5 fI [] N (sub Vz 0) (caS l rp m1 m2 i) (E8 0) {t:=oz 135 0 [(zeU 0 l),(4,fw),(5,dd 0),zeo],h:=caH m1 m2,m:=[]}):=yx [CE (EZ [0,4,5,8])] [.b lL]
abbrev CaE:=(uB×Int)×Nat
def caE(l:iN)(e:CaE)(s:IM×IM):(IM×IM)⊕Unit:=caF l (e.2:Int) e.1.2 e.1.1 s
def caL(l:iN)(rp:bV):List CaE:=(l.zip rp).zipIdx
abbrev caZ(l:iN)(s:IM×IM):AS:={t:=oz 135 0 [(zeU 0 l),(4,fw),(5,dd 0),zeo],h:=caH s.1 s.2,m:=[]}
def Sx(l:iN)(rp:bV):Exit×AS:=bf (E8 0) (caZ l) caX (zj (caE l) (caL l rp) ([],[]))
theorem ca_cw(hl:ah l)(hr:rp.length=l.length):CW S5 fI [] false (.loop (sub Vz 0)) (caS l (zaQ rp) [] [] 0) (Sx l rp).1 (Sx l rp).2:=by
 have hlen:(caL l rp).length=l.length:=by simp[caL,hr]
 have:=CW.each (P:=S5) (Γ:=fI) (h0:=[]) (rd:=false) (c:=sub Vz 0) (caL l rp) (caE l) (λi s=>caS l (zaQ rp) s.1 s.2 (i:Int)) (.exit 0) (caZ l) caX
  (λ_ s=>∀c v,ap s.2 c=some v->0<=v/\v<(l.length:Int)) (by simp) (λ_=>by simp) ?_ ?_ ([],[]) (by grind [ap])
 ·exact this
 ·rintro i ⟨⟨a,r⟩,n⟩ ⟨m1,m2⟩ hp hinv;obtain⟨hi,he⟩:=Td.1 hp;rw[hlen] at hi;have hi':i<rp.length:=by omega
  have e1:n=i/\a=l[i]/\r=rp[i]:=by have e2:=he.symm;simp[caL] at e2;obtain⟨⟨x1,x2⟩,x3⟩:=e2;exact⟨x3,x1,x2⟩
  obtain⟨rfl,ha,hrr⟩:=e1;have h1:l[n]? = some a:=by rw[ha];exact TH hi
  have h2:rp[n]? = some r:=by rw[hrr];exact TH hi'
  have q1:=rowAt (row:=Tb) (sz:=5) h1 rfl;have q2:=rowAt (row:=λn:Int=>[vi n]) (sz:=1) h2 rfl;have q3:=EV Tb hi;have q4:=sR hi hl;refine⟨λs' h=>?_,?_⟩;·grind [caE,caF,Sum.inl.injEq,yg,Option.some.injEq]
  ·simp only[caE];by_cases hb:(!(eY (r>=0)&&eY (r<=2)))=true;·exact ca_bX (by rw[hb];rfl) q1 q2 q3 q4
   ·have:r=0\/r=1\/r=2:=by simp at hb;omega
    rcases this with h0|h0|h0;·rw[h0] at q2 ⊢;exact ca_b0 (λv hv=>hinv _ v hv) q1 q2 q3 q4
    ·rw[h0] at q2 ⊢;exact ca_b1 (λv hv=>hinv _ v hv) q1 q2 q3 q4
    ·rw[h0] at q2 ⊢;exact ca_b2 q1 q2 q3 q4
 ·rintro⟨m1,m2⟩ _;rw[hlen];exact Sw (aR Tb l)
abbrev cgH(m1 m2:IM)(out:iN):aT:=[eF GI,imB m1,imB m2,.eQ (ad (out.map Tb)) 0 5]
abbrev zjn(a:Nat×D)(b c:D):bY:=oz 135 0 [zcS,(5,dd 0),zeo,a,(109,b),(110,c)]
abbrev cgS(l:iN)(m1 m2:IM)(out:iN)(i:Int):AS :={t:=(zjn (108,ab (l.map Tb)) (dd (l.map Tb).length) (dd i)),h:=cgH m1 m2 out,m:=[]}
def Sy(m2:IM)(i:Nat)(a:uB):Bool:=!(ap m2 a.eR).isSome||((ap m2 a.eR).getD 0==(i:Int))
def cgF(m2:IM)(e:uB×Nat)(out:iN):iN:=bif Sy m2 e.2 e.1 then out++[e.1] else out
theorem Sz{l:List uB}{out:List uB}(hr:ao (i:Int) (l.map Tb) a.row 5)(lL:eY ((i:Int)<((l.map Tb).length:Int))=true)(hw:S6.wrap ((i:Int)+1)=((i+1:Nat):Int))(ho:out.length<=1000000000):(CW S5 fI [] false (sub Vz 1) (cgS l m1 m2 out i) .normal (cgS l m1 m2 (cgF m2 (a,i) out) ((i+1:Nat):Int))):=by
 cases sQ:!Tx (ap m2 a.eR)||TZ (ap m2 a.eR) 0==(↑i:Int)
 ·let v0:=TT [dd (TZ (ap m2 a.eR) 0),eP (Tx (ap m2 a.eR))]
  refine yX {t:=oz 135 0 [(4,.ref (.eQ 3 0)),(5,dd 0),(8,.ref (.mp 2)),(108,ab (S2 Tb l)),(109,dd (↑(S7 (S2 Tb l)):Int)),(110,dd (S8 S6 ((↑i:Int)+1)))],h:=[.var [eP true,fq 297,eP true,fq 298,eP false,Us (Ws T5)],.map (aG 0 m1) (S7 m1),.map (aG 0 m2) (S7 m2),.eQ (ad (S2 Tb out)) 0 5],m:=[]} Tr [.st (.mask [4,5,8,108,109,110]),.st (.ren 3 0),.st (.Ju 4)] [.b lL,.r hr,(?_:@Eq (Option D) (aw S5 [.var [eP true,fq 297,eP true,fq 298,eP false,Us (Ws T5)],.map (aG 0 m1) (S7 m1),.map (aG 0 m2) (S7 m2),.eQ (ad (S2 Tb out)) 0 5,.var [dd a.eR,dd a.d5,dd a.Bn,dd a.Js,dd a.go]] 168 (.ref (.mp 2)) (dd a.eR) true) (some v0)),.a1 (.ov 119 v0),.b sQ,(?_:S2 (Tz (ar 3 0 0)) (ad (S2 Tb out))=ad (S2 Tb out)),(?_:S2 (λe=>(Ty (ar 3 0 0) e.fst,Ty (ar 3 0 0) e.2.fst,e.2.2)) (aG 0 m1)=aG 0 m1),(?_:S2 (λe=>(Ty (ar 3 0 0) e.fst,Ty (ar 3 0 0) e.2.fst,e.2.2)) (aG 0 m2)=aG 0 m2),(rfl:Tl 4 (match 0==3 with|true=>.eQ (ad (S2 Tb out)) 0 5|false=>A7 (ar 3 0 0) (.var [eP true,fq 297,eP true,fq 298,eP false,Us (Ws T5)]))=true),(?_:Tl 4 (match 0+1==3 with|true=>.eQ (ad (S2 Tb out)) 0 5|false=>A7 (ar 3 0 0) (.map (aG 0 m1) (S7 m1)))=true),(?_:Tl 4 (match 0+1+1==3 with|true=>.eQ (ad (S2 Tb out)) 0 5|false=>A7 (ar 3 0 0) (.map (aG 0 m2) (S7 m2)))=true),(?_:Tl 4 (match 0+1+1+1==3 with|true=>.eQ (ad (S2 Tb out)) 0 5|false=>A7 (ar 3 0 0) (.eQ (ad (S2 Tb out)) 0 5))=true)] (by subst v0;grind) (by subst v0;(have hh:Sy m2 i a=false:=sQ;simp only[cgF,hh,cond_false,hw];first|done|rfl))<;>subst v0<;>(first|exact lk2 rfl|exact ge|exact aB _ _|exact br|exact cK _ _ _)
 ·let v0:List D:=[dd a.eR,dd a.d5,dd a.Bn,dd a.Js,dd a.go]
  let v1:=TT [dd (TZ (ap m2 a.eR) 0),eP (Tx (ap m2 a.eR))]
  refine yX {t:=oz 135 0 [(4,.ref (.eQ 3 0)),(5,dd 0),(8,.ref (.mp 2)),(108,ab (S2 Tb l)),(109,dd (↑(S7 (S2 Tb l)):Int)),(110,dd (S8 S6 ((↑i:Int)+1)))],h:=[.var [eP true,fq 297,eP true,fq 298,eP false,Us (Ws T5)],.map (aG 0 m1) (S7 m1),.map (aG 0 m2) (S7 m2),.eQ (ad (S2 Tb out)++[v0]) 0 5],m:=[]} Tr [.st (.mask [4,5,8,108,109,110]),.st (.ren 3 0),.st (.Ju 4)] [.b lL,.r hr,(?_:@Eq (Option D) (aw S5 [.var [eP true,fq 297,eP true,fq 298,eP false,Us (Ws T5)],.map (aG 0 m1) (S7 m1),.map (aG 0 m2) (S7 m2),.eQ (ad (S2 Tb out)) 0 5,.var v0] 168 (.ref (.mp 2)) (dd a.eR) true) (some v1)),.a1 (.ov 119 v1),.b sQ,(?_:(List.all [v0] (aL 5)&&uO (S7 (ad (S2 Tb out))+S7 [v0]) 40)=true),(?_:S2 (Tz (ar 3 1 0)) (ad (S2 Tb out)++[v0])=ad (S2 Tb out)++[v0]),(?_:S2 (λe=>(Ty (ar 3 1 0) e.fst,Ty (ar 3 1 0) e.2.fst,e.2.2)) (aG 0 m1)=aG 0 m1),(?_:S2 (λe=>(Ty (ar 3 1 0) e.fst,Ty (ar 3 1 0) e.2.fst,e.2.2)) (aG 0 m2)=aG 0 m2),pr [v0],(rfl:Tl 4 (match 0==3 with|true=>.eQ (ad (S2 Tb out)++[v0]) 0 5|false=>A7 (ar 3 1 0) (.var [eP true,fq 297,eP true,fq 298,eP false,Us (Ws T5)]))=true),(?_:Tl 4 (match 0+1==3 with|true=>.eQ (ad (S2 Tb out)++[v0]) 0 5|false=>A7 (ar 3 1 0) (.map (aG 0 m1) (S7 m1)))=true),(?_:Tl 4 (match 0+1+1==3 with|true=>.eQ (ad (S2 Tb out)++[v0]) 0 5|false=>A7 (ar 3 1 0) (.map (aG 0 m2) (S7 m2)))=true),(?_:Tl 4 (match 0+1+1+1==3 with|true=>.eQ (ad (S2 Tb out)++[v0]) 0 5|false=>A7 (ar 3 1 0) (.eQ (ad (S2 Tb out)++[v0]) 1 5))=true)] (by subst v0 v1;grind) (by subst v0 v1;(have hh:Sy m2 i a=true:=sQ;simp only[cgF,hh,cond_true,hw,u7];first|done|rfl))<;>subst v0 v1<;>(first|exact lk2 rfl|exact ge|exact cK _ _ _|(rw[u7];exact aB _ _)|(rw[u7];exact br)|(simp[aL,D.one,Value.oneCell',uO];omega))
abbrev zjg:bY:=oz 135 0 [zcS,(5,dd 0)]
theorem SA{out:iN}(lL:eY ((i:Int)<((l.map Tb).length:Int))=N):(CW S5 fI [] N (sub Vz 1) (cgS l m1 m2 out i) (E8 2) {t:=zjg,h:=cgH m1 m2 out,m:=[]}):=yx [CE (EZ [4,5])] [.b lL]
def Ai(l:iN)(m2:IM):iN:=l.zipIdx.foldl (λout e=>cgF m2 e out) []
theorem cg_cw{l:iN}(hl:l.length<=900000000){m1 m2:IM}:CW S5 fI [] false (.loop (sub Vz 1)) (cgS l m1 m2 [] 0) (.exit 2) {t:=zjg,h:=cgH m1 m2 (Ai l m2),m:=[]}:=by
 have hs:ah l:=by unfold ah;omega
 have:=CW.each (P:=S5) (Γ:=fI) (h0:=[]) (rd:=false) (c:=sub Vz 1) (σ:=iN) (ρ:=Empty) l.zipIdx (λe out=>.inl (cgF m2 e out))
  (λi out=>cgS l m1 m2 out (i:Int)) (.exit 2) (λout=>{t:=zjg,h:=cgH m1 m2 out,m:=[]}) (λr=>r.elim)
  (λi out=>out.length<=i) (by simp) (λr=>r.elim) ?_ ?_ [] (by simp)
 ·rw[aM (λout e=>cgF m2 e out)] at this;exact this
 ·rintro i ⟨a,n⟩ out hp hout;obtain⟨hi,he⟩:=Td.1 hp;simp at hi;have e1:a=l[i]/\n=i:=by simpa[eq_comm] using he.symm
  obtain⟨ha,rfl⟩:=e1;have h1:l[n]? = some a:=by rw[ha];exact TH hi
  refine⟨λs' h=>?_,Sz (rowAt h1 rfl) (EV Tb hi) (sR hi hs) (by omega)⟩;grind [cgF]
 ·intro out _;rw[List.length_zipIdx];exact SA (aR Tb l)
def caR(l:iN)(rp:bV):(IM×IM)⊕Unit:=zj (caE l) (caL l rp) ([],[])
theorem B7:Sx l rp=bf (E8 0) (caZ l) caX (caR l rp):=rfl
def nj(l:iN)(rp:bV):iN×Int :=bif eY (eL l=0) then (bif eY (rp.length=l.length) then (match caR l rp with | .inl s=>(Ai l s.2,0) | .inr _=>([],1)) else ([],1)) else ([],eL l)
theorem vC(h:(eL l != 0)=J):nj l rp=([],eL l):=by
 have h':eL l≠0:=by simpa using h
 simp[nj,h']
theorem Lv(h1:(eL l != 0)=N)(h2:rp.length≠l.length):nj l rp=([],1):=by
 have h':eL l=0:=by simpa using h1
 simp[nj,h',h2]
theorem Lw(h1:(eL l != 0)=N)(h2:rp.length=l.length)(h3:caR l rp=.inr u):nj l rp=([],1):=by
 have h':eL l=0:=by simpa using h1
 simp[nj,h',h2,h3]
theorem SB(h1:(eL l != 0)=false)(h2:rp.length=l.length){s:IM×IM}(h3:caR l rp=.inl s):nj l rp=(Ai l s.2,0):=by
 have h':eL l=0:=by simpa using h1
 simp[nj,h',h2,h3]
theorem len_ne(h2:rp.length≠l.length):(((zaQ rp).length:Int) != ((l.map Tb).length:Int))=true:=by simp;omega
theorem MP(h2:rp.length=l.length):(((zaQ rp).length:Int) != ((l.map Tb).length:Int))=false:=by simp;omega
theorem Lx(b n:Nat)(rows:bv)(m:IM)(k:Nat):(aG k m).map (λe=>(Ty (cw b n rows) e.1,Ty (cw b n rows) e.2.1,e.2.2))=aG k m:=by
 induction m generalizing k with
 |nil=>rfl
 |cons e m ih=>simp only[aG,List.map_cons,ih];rfl
theorem cnt_e1(hs:ah l)(hz:(eL l != 0)=J)(h:aT):(Ev S5 fI 166 [ab (l.map Tb),ab (zaQ rp)] h (tf [ab [],dd (eL l)]) h):=Tw (U7 (y0 (d:=TT [nq,dd (eL l)]) [.v (@eu l hs ([])),.b hz] h)) EX EX
theorem cnt_e2(hs:ah l)(hz:(eL l != 0)=N)(hne:(((zaQ rp).length:Int) != ((l.map Tb).length:Int))=J)(h:aT):(Ev S5 fI 166 [ab (l.map Tb),ab (zaQ rp)] h (tf [ab [],dd 1]) h):=Tw (U7 (y0 (d:=TT [nq,dd 1]) [.v (@eu l hs ([])),.b hz,.b hne] h)) EX EX
theorem aErr0(hz:(eL l != 0)=N):eL l=0:=by simpa using hz
abbrev caS2(l:iN)(rp:bv)(z:Int):AS :=(zi7 l rp z 0 (caH [] []))
theorem HP{l:iN}(hs:ah l){rp:bV}(hr:rp.length=l.length){u:Unit}(hc:caR l rp=.inr u)(hz:(eL l != 0)=false):CW S5 fI [] false (.loop (sub Vz 0)) (caS2 l (zaQ rp) (eL l)) .ret {t:=oz 135 0 [(4,fw),(5,dd 1)],h:=[],m:=[]}:=by have:=ca_cw hs hr;rw[B7,hc] at this;rw[aErr0 hz];exact this
theorem cnt_e3(hs:ah l)(hr:rp.length=l.length)(hc:caR l rp=.inr u)(hz:(eL l != 0)=N)(hne:(((zaQ rp).length:Int) != ((l.map Tb).length:Int))=N)(h:aT):(Ev S5 fI 166 [ab (l.map Tb),ab (zaQ rp)] h (tf [ab [],dd 1]) h):=by have xd:=(@HP (l) (hs) (rp) (hr) (u) (hc) (hz));exact Tw (U7 (y0 (d:=TT [nq,dd 1]) [.v (@eu l hs ([])),.b hz,.b hne,.v (@BA ([])),.s [0,1,4,5,6,7,8,32,33,34] xd] h)) EX EX
theorem Ly{l:iN}(hs:ah l){rp:bV}(hr:rp.length=l.length){m1 m2:IM}(hc:caR l rp=.inl (m1,m2))(hz:(eL l != 0)=false):CW S5 fI [] false (.loop (sub Vz 0)) (caS2 l (zaQ rp) (eL l)) (.exit 0) (caZ l (m1,m2)):=by have:=ca_cw hs hr;rw[B7,hc] at this;rw[aErr0 hz];exact this
theorem cnt_ok(hs:ah l)(hl:l.length<=900000000)(hr:rp.length=l.length)(hc:caR l rp=.inl (m1,m2))(hz:(eL l != 0)=false)(hne:(((zaQ rp).length:Int) != ((l.map Tb).length:Int))=false)(h:aT):(Ev S5 fI 166 [ab (l.map Tb),ab (zaQ rp)] h (.JY [ab ((Ai l m2).map Tb),dd 0]) h):=by have xd:=(@Ly (l) (hs) (rp) (hr) (m1) (m2) (hc) (hz));have hl1:=(@cg_cw (l) (hl) (m1) (m2));let v0:=S2 Tb (Ai l m2);refine Tw (U7 (y0 (d:=TT [ab v0,dd 0]) [.v (@eu l hs ([])),.b hz,.b hne,.v (@BA ([])),.s [0,1,4,5,6,7,8,32,33,34] xd,.n 1,.o (.zor 4 5),.s [4,5,8,108,109,110] hl1,((by subst v0;grind):ad v0=S2 (λx=>S2 Us x) v0),(?_:(zaC 3 v0 (aG 0 m1))=aG 0 m1),(?_:(zaC 3 v0 (aG 0 m2))=aG 0 m2),.o (.mask [4,5]),.o (.frz 3 v0),.o (.Ju 0)] h)) (by rfl) (by rfl)<;>subst v0<;>(exact Lx _ _ _ _ _)
theorem cnt_ev{l:iN}(hl:l.length<=900000000){rp:bV}(h:aT):Ev S5 fI 166 [ab (l.map Tb),ab (zaQ rp)] h (tf [ab ((nj l rp).1.map Tb),dd (nj l rp).2]) h:=by
 have hs:ah l:=by unfold ah;omega
 cases hz:(eL l != 0)
 ·by_cases hr:rp.length=l.length
  ·cases hc:caR l rp with
   |inl s=>obtain⟨m1,m2⟩:=s;rw[SB hz hr hc];exact cnt_ok hs hl hr hc hz (MP hr) h
   |inr u=>rw[Lw hz hr hc];exact cnt_e3 hs hr hc hz (MP hr) h
  ·rw[Lv hz hr];exact cnt_e2 hs hz (len_ne hr) h
 ·rw[vC hz];exact cnt_e1 hs hz h
abbrev cvV(xs:bV):List (bY):=ad (zaQ xs)
abbrev cvS(w:eO)(bO d5:Int)(as_:bv)(rs:iF)(xs:bV)(i:Int):AS :={t:=oz 36 0 [zdM,(1,ab as_),(2,dd d5),zcU,(14,ab as_),(15,dd as_.length),(16,dd i)],h:=lkH w bO rs 1++[.eQ (cvV xs) 0 1],m:=[]}
theorem Lz(hb:h[2]?=G (.eQ (cvV xs) 0 1))(hi:i<xs.length):aY S5 h 3 (fE (zdi 2 (i:Int))) (dd v)=G (h.set 2 (.eQ (cvV (xs.set i v)) 0 1)):=by
 have e1:(cvV xs)[S9 (i:Int)]?=G [dd xs[i]]:=by simp[ad,hi]
 have e2:P1 S5 3=G 1:=Z
 have e3:(cvV xs).set (S9 (i:Int)) [dd v]=cvV (xs.set i v):=by simp[ad,List.map_set]
 unfold aY;simp only[dd,D.cells,e2,hb,e1];rw[<-e3];rfl
theorem cv_inR(hi:i<xs.length):L9 (i:Int) (cvV xs).length=J:=by simp[L9,ad];omega
noncomputable abbrev tJ(w:eO)(bO:Int)(d5:Int)(a:uB)(rs:iF)(xs:bV):aT:=[eF (ZQ 2 w bO),.eQ (zcL rs 1 a.eR d5) 2 5,.eQ (cvV xs) 0 1,eF (ZL a)]
abbrev zaY(b:Nat)(c:List (bY))(d e f:Nat)(g:bY):mX:=(zhp 0 b c d e f (eF g))
theorem SC(hw:w.ok){rs:iF}(hi:i<xs.length)(hr:ao (i:Int) as_ a.row 5)(lL:eY ((i:Int)<(as_.length:Int))=J)(hwr:S6.wrap ((i:Int)+1)=((i+1:Nat):Int))(hb:rs.length<=999998000):(CW S5 jV (lkH w bO rs0 0) N (sub Zi 0) (cvS w bO d5 as_ rs xs i) w8 (cvS w bO d5 as_ (rs++rdT 1 a.eR 0 d5) (xs.set i (ac w a.eR d5 bO).1.rep) ((i+1:Nat):Int))):=by let v0:=List.set xs i (ac w a.eR d5 bO).fst.rep;let v1:bY:=(ZQ 1 w bO);let v2:bY:=(ZQ 2 w bO);let v3:bY:=(ZL a);refine yX {t:=oz 36 0 [zdM,(1,ab as_),(2,dd d5),zcU,(14,ab as_),(15,(zdp as_)),(16,(ZZ i))],h:=[eF v1,.eQ (zcL rs 1 a.eR d5) 1 5,.eQ (cvV v0) 0 1],m:=[]} Tr (zc9 [0,1,2,8,14,15,16] 1 1 3) [.b lL,.r hr,.c ((fX [0,1] (Ev.upX [0,1] (@qO w hw bO (a.eR) d5 rs (by subst v0 v1 v2 v3;grind)) Z ⟨(by subst v0 v1 v2 v3;exact aj _ _),trivial⟩ ⟨(by subst v0 v1 v2 v3;exact aj _ _),trivial⟩) ⟨(by subst v0 v1 v2 v3;exact aj _ _),trivial⟩ ⟨(by subst v0 v1 v2 v3;exact aj _ _),trivial⟩):Ev S5 jV 163 (zbF 0 a.eR d5) [eF v1,.eQ (ad (qm rs)) 1 5,.eQ (cvV xs) 0 1,eF v3] (TF (ZC w a.eR d5 bO)) (tJ w bO d5 a rs xs)),(?_:L9 (↑i:Int) (S7 (cvV xs))=J),(?_:@Eq (Option (aT)) (aY S5 (tJ w bO d5 a rs xs) 3 (zaW 2 i) (dd (ac w a.eR d5 bO).fst.rep)) (G [eF v2,.eQ (zcL rs 1 a.eR d5) 2 5,.eQ (cvV v0) 0 1,eF v3])),(vM (zjW rs a.eR d5) 1 2 1),(?_:S2 (Tz (ar 1 2 1)) (cvV v0)=cvV v0),(rfl:Tl 3 (zaY 1 (ad (zjW rs a.eR d5)) 1 5 2 v2)=J),(iV 3 (zjW rs a.eR d5) 1 5),(?_:(zae 3 0 1 (ad (zjW rs a.eR d5)) 1 5 2 (.eQ (cvV v0) 0 1))=J),.a1 (.oh 10029 Zh (lkH w bO (rs++rdT 1 a.eR 0 d5) 2++[.eQ (cvV v0) 0 1,eF (S2 Us (Tb a))]))] (by subst v0 v1 v2 v3;grind) (by subst v0 v1 v2 v3;grind)<;>subst v0 v1 v2 v3<;>(first|exact Lz rfl hi|exact cv_inR hi|exact aB _ _|exact br)
theorem SD{rs:iF}(lL:eY ((i:Int)<(as_.length:Int))=N):(CW S5 jV (lkH w bO rs0 0) N (sub Zi 0) (cvS w bO d5 as_ rs xs i) (E8 0) {t:=oz 36 0 [(1,ab as_),zcU],h:=lkH w bO rs 1++[.eQ (cvV xs) 0 1],m:=[]}):=yx [CE (EZ [1,8])] [.b lL]
def jm(w:eO)(bO d5:Int)(l:iN):bV:=l.map λa=>(ac w a.eR d5 bO).1.rep
def j8(d5:Int)(l:iN):iF:=l.flatMap λa=>rdT 1 a.eR 0 d5
theorem lM(d5:Int):∀l:iN,(j8 d5 l).length<=l.length
 | []=>by simp[j8]
 | a::l=>by have:=lM d5 l;have:=fk 1 a.eR 0 d5;grind [j8,List.length_append,List.length_cons]
theorem SE{f:uB->Int}(hi:i<l.length)(ha:l[i]? = some a):((l.take i).map f++Ti (l.length-i) 0).set i (f a)=(l.take (i+1)).map f++Ti (l.length-(i+1)) 0:=by
 have e1:l.length-i=(l.length-(i+1))+1:=by omega
 rw[List.set_append_right _ _ (by simp;omega),List.take_add_one,ha,e1,List.replicate_succ];have:i-((l.take i).map f).length=0:=by simp;omega
 grind
theorem cv_cw{w:eO}(hw:w.ok){bO d5:Int}{l:iN}(hl:l.length<=90000000){rs0 rs:iF}(hb:rs.length<=900000000){V:List (bY)}(hV:V=cvV (Ti l.length 0)):CW S5 jV (lkH w bO rs0 0) false (.loop (sub Zi 0)) {t:=oz 36 0 [zdM,(zeU 1 l),(2,dd d5),zcU,(14,ab (l.map Tb)),(15,dd (l.map Tb).length),(16,dd 0)],h:=lkH w bO rs 1++[.eQ V 0 1],m:=[]} (.exit 0) {t:=oz 36 0 [(zeU 1 l),zcU],h:=lkH w bO (rs++j8 d5 l) 1++[.eQ (cvV (jm w bO d5 l)) 0 1],m:=[]}:=by
 subst hV;have hs:ah l:=by unfold ah;omega
 have:=CW.zmg (P:=S5) (Γ:=jV) (h0:=lkH w bO rs0 0) (rd:=false) (c:=sub Zi 0) l.length
  (λi=>cvS w bO d5 (l.map Tb) (rs++j8 d5 (l.take i)) ((l.take i).map (λa=>(ac w a.eR d5 bO).1.rep)++Ti (l.length-i) 0) (i:Int)) (e:=.exit 0) (s':={t:=oz 36 0 [(zeU 1 l),zcU],h:=lkH w bO (rs++j8 d5 l) 1++[.eQ (cvV (jm w bO d5 l)) 0 1],m:=[]}) (by simp) ?_ ?_
 ·have e0:rs++j8 d5 (l.take 0)=rs:=by simp[j8]
  grind
 ·intro i hi;have ha:l[i]? = some l[i]:=TH hi;have key:=SC hw (bO:=bO) (d5:=d5) (rs0:=rs0) (rs:=rs++j8 d5 (l.take i)) (xs:=(l.take i).map (λa=>(ac w a.eR d5 bO).1.rep)++Ti (l.length-i) 0) (i:=i) (by simp;omega) (rowAt ha rfl) (EV Tb hi) (sR hi hs) (by have:=lM d5 (l.take i);grind);rw[SE (f:=λa=>(ac w a.eR d5 bO).1.rep) hi ha] at key;have e2:j8 d5 (l.take (i+1))=j8 d5 (l.take i)++rdT 1 l[i].eR 0 d5:=by unfold j8;rw[List.take_add_one,ha,Option.toList_some,List.flatMap_append,List.flatMap_singleton]
  grind
 ·have:=SD (w:=w) (bO:=bO) (d5:=d5) (as_:=l.map Tb) (rs0:=rs0) (rs:=rs++j8 d5 l) (xs:=jm w bO d5 l) (i:=l.length) (aR Tb l);have e3:l.map (λa=>(ac w a.eR d5 bO).1.rep)++Ti (l.length-l.length) 0=jm w bO d5 l:=by simp[jm]
  grind
theorem makeV(l:iN):Ti (S9 ((l.map Tb).length:Int)) [dd 0]=cvV (Ti l.length 0):=by simp[ad]
theorem HQ(f:Ref->D)(n:Nat):(Ti n [dd 0]).map (Tz f)=Ti n [dd 0]:=by rw[List.map_replicate];rfl
theorem SF(xs:bV):cvV xs=(zaQ xs).map (S2 Us):=by simp[ad]
noncomputable abbrev rn(w:eO)(bO:Int)(d5:Int)(l:iN)(rs:iF):aT:=[eF (ZQ 1 w bO),.eQ (zct rs (j8 d5 l)) 1 5]
theorem B8(hw:w.ok)(hl:l.length<=90000000){rs:iF}(hb:rs.length<=900000000):(Ev S5 jV 92 [fE (ql 0 0),ab (l.map Tb),dd d5] (lkH w bO rs 0) (tf [ab ((nj l (jm w bO d5 l)).1.map Tb),dd (nj l (jm w bO d5 l)).2]) (lkH w bO (rs++j8 d5 l) 1)):=by have xd:=(@cv_cw (w) (hw) (bO) (d5) (l) (hl) (rs) (rs) (hb) (zcH (S7 (S2 Tb l)) (ziz)) (by first|assumption|rfl|omega|exact makeV _|exact HQ _ _|exact SF _|exact aB _ _|exact br|(simp;omega)));let v0:=S7 (S2 Tb l);let v1:=ziz;refine Tw (yF (h':=(rn w bO d5 l rs)) (d:=TT [ab (S2 Tb (nj l (jm w bO d5 l)).fst),dd (nj l (jm w bO d5 l)).2]) [((by subst v0 v1;grind):(eY (0<=(↑v0:Int))&&eY ((↑v0:Int)<=(↑v0:Int))&&eY ((↑v0:Int)*(↑8:Int)<=281474976710656)&&eY ((↑v0:Int)<=281474976710656))=J),(?_:S2 (Tz (ar 1 0 1)) (ad (qm rs))=ad (qm rs)),(?_:S2 (Tz (ar 1 0 1)) (Ti (S9 (↑v0:Int)) v1)=Ti (S9 (↑v0:Int)) v1),.n 3,.o (.ren 1 1),.s [0,1,2,8,14,15,16] xd,((by subst v0 v1;grind):cvV (jm w bO d5 l)=S2 (λx=>S2 Us x) (S2 (λn=>[vi n]) (jm w bO d5 l))),(?_:S2 (Tz (cw 2 0 (zcd (jm w bO d5 l)))) (zct rs (j8 d5 l))=ad (qm (rs++j8 d5 l))),(rfl:Tl 2 (zib 0 2 0 (zcd (jm w bO d5 l)) (eF (ZQ 1 w bO)))=J),(?_:Tl 2 (match 0+1==2 with|true=>.EU|false=>A7 (cw 2 0 (zcd (jm w bO d5 l))) (zb8 (rs++j8 d5 l) 1))=J),.o (EZ [1,8]),.o (τ 2 (zcd (jm w bO d5 l))),.o (zld 2),.v (Tp (Γ':=jV) (@cnt_ev l (by subst v0 v1;grind) (jm w bO d5 l) (rn w bO d5 l rs)))]) EX EX<;>subst v0 v1<;>(first|exact HQ _ _|exact aB _ _|exact br)
def vD(r:JZ)(d5:Int):Bool:=eK r != 0||!(eY (d5>=0)&&eY (d5<=1023))
def rcX(b:Bool)(e:Int)(L:iN)(rr:iF):iN×iF×Int:=match b with
 |true=>([],[],150)
 |false=>match (e != 0) with
  |true=>([],[],e)
  |false=>(L,rr,0)
noncomputable abbrev yz(w:eO)(r:JZ)(bO:Int)(rr:iF):aT:=[eF (ZA w),eF (zaM r),eF (zhl 3 1 w bO),.eQ (ad (qm rr)) 1 5]
noncomputable abbrev yA(w:eO)(r:JZ)(bO:Int):aT:=[eF (ZA w),eF (zaM r),eF (zhl 3 0 w bO),.eQ [] 0 5]
noncomputable abbrev gk(w:eO)(r:JZ):aT:=[eF (ZA w),eF (zaM r)]
abbrev zf7(b:Nat)(c:iN)(d:Int):bY:=[fE (ql b 0),ab (S2 Tb c),dd d]
abbrev zjc(a:iN)(b:Int):D:=(TT [ab (S2 Tb a),dd b])
theorem rcnt_a(hr:ah r.a){rr:iF}(hc:Ev S5 jV 92 [fE (ql 0 0),ab (r.a.map Tb),dd d5] (lkH w bO [] 0) (tf [ab (L.map Tb),dd e]) (lkH w bO rr 1))(h:aT):(Ev S5 jV 43 [kb w.l,kb r.l,dd d5,dd bO] h (tf [ab ((rcX (vD r d5) e L rr).1.map Tb),ab (qm (rcX (vD r d5) e L rr).2.1),dd (rcX (vD r d5) e L rr).2.2]) h):=by
 cases sQ:eK r != 0||!(eY (d5>=0)&&eY (d5<=1023))
 ·cases FL:e != 0;·exact Tw (U7 (y0 (d:=TT [ab (S2 Tb L),ab (qm rr),dd 0]) [.v (Tp (Γ':=jV) (@nb r hr (gk w r))),.w (!eK r != 0) (Tp (Γ':=jV) (@bc d5 0 1023 (gk w r))),.b sQ,.n 1,.o (.zfG 2 0 5),.c ((fX [2,3] (@hc) ⟨lj,trivial⟩ ⟨(by exact aj _ _),trivial⟩):Ev S5 jV 92 (zf7 2 r.a d5) (yA w r bO) (zjc L e) (yz w r bO rr)),(lj:ad (qm rr)=S2 (λx=>S2 Us x) (qm rr)),.o (τ 3 (qm rr)),.b FL] h)) (by(have hh:vD r d5=N:=sQ;have h2:(e != 0)=N:=FL;simp[rcX,hh,h2];rfl)) EX
  ·exact Tw (U7 (y0 (d:=TT [nq,nq,dd e]) [.v (Tp (Γ':=jV) (@nb r hr (gk w r))),.w (!eK r != 0) (Tp (Γ':=jV) (@bc d5 0 1023 (gk w r))),.b sQ,.n 1,.o (.zfG 2 0 5),.c ((fX [2,3] (@hc) ⟨lj,trivial⟩ ⟨(by exact aj _ _),trivial⟩):Ev S5 jV 92 (zf7 2 r.a d5) (yA w r bO) (zjc L e) (yz w r bO rr)),(lj:ad (qm rr)=S2 (λx=>S2 Us x) (qm rr)),.o (τ 3 (qm rr)),.b FL] h)) (by(have hh:vD r d5=N:=sQ;have h2:(e != 0)=J:=FL;simp only[rcX,hh,h2];rfl)) EX
 ·exact Tw (U7 (y0 (d:=TT [nq,nq,dd 150]) [.v (Tp (Γ':=jV) (@nb r hr (gk w r))),.w (!eK r != 0) (Tp (Γ':=jV) (@bc d5 0 1023 (gk w r))),.b sQ] h)) (by(have hh:vD r d5=J:=sQ;simp only[rcX,hh];rfl)) EX
def cN(w:eO)(r:JZ)(d5 bO:Int):iN×iF×Int :=rcX (vD r d5) (nj r.a (jm w bO d5 r.a)).2 (nj r.a (jm w bO d5 r.a)).1 (j8 d5 r.a)
theorem HR(hw:w.ok)(hr:r.a.length<=90000000)(h:List mX):Ev S5 jV 43 [.agg w.l,.agg r.l,dd d5,dd bO] h (.JY [ab ((cN w r d5 bO).1.map Tb),ab (qm (cN w r d5 bO).2.1),dd (cN w r d5 bO).2.2]) h :=
 rcnt_a (by unfold ah;omega) (by have:=B8 hw (bO:=bO) (d5:=d5) (l:=r.a) hr (rs:=[]) (by simp);grind) h
abbrev vwH(w:eO)(d5 bO:Int)(rs:iF)(e:Nat):aT:=[eF [fE (.eQ 1 e),ab (w.c.map Tc),ab w.p,ab (w.s.map Tj),ab (w.f.map Ta),dd d5,dd bO],.eQ (ad (qm rs)) e 5]
abbrev zhn(a b:Nat)(c:eO)(d e:Int):bY:=[fE (.eQ a b),(ZX c),ab c.p,(ZY c),(ZU c),dd d,dd e]
theorem fJ{w:eO}{d5 bO:Int}{rs qs:iF}(hb:rs.length+qs.length<=1000000000):(Ev S5 jV 122 (zdI qs) (vwH w d5 bO rs 0) (tf []) (vwH w d5 bO (rs++qs) 1)):=Tw (yF (h':=[eF (zhn 1 1 w d5 bO),.eQ (zkd rs (ZW qs)) 1 5]) (d:=TT []) [((by(simp only[Qa,uO,Bool.true_and,Bool.and_eq_true,decide_eq_true_eq,List.length_map];omega)):(List.all (S2 (λx=>S2 Us x) (qm qs)) (aL 5)&&uO (S7 (ad (qm rs))+S7 (S2 (λx=>S2 Us x) (qm qs))) 40)=J)]) lj lj
noncomputable abbrev Aj(w:eO)(d5:Int)(bO:Int)(rs:iF):aT:=[eF (zhn 1 0 w d5 bO),.eQ (ad (qm rs)) 0 5,eF [nq,nq,nq,nq],eF [nq,nq,nq,nq]]
noncomputable abbrev j5(w:eO)(d5:Int)(bO:Int)(rs:iF):aT:=[eF (zhn 1 0 w d5 bO),.eQ (ad (qm rs)) 0 5,eF [nq,nq,nq,nq]]
theorem LA(hw:w.ok){rs:iF}(hb:rs.length<=999999000):(Ev S5 jV 54 za8 (vwH w d5 bO rs 0) (ag (bU w d5 bO).1.row) (vwH w d5 bO (rs++rdT 4 0 0 d5) 1)):=by let v0:bY:=[ab (S2 Cls.row (bU w d5 bO).fst.L4),ab (S2 Z5.row (bU w d5 bO).fst.ziQ),ab (S2 Cls.row (bU w d5 bO).fst.NN),ab (S2 zl.row (bU w d5 bO).fst.clauses)];let v1:bY:=(zhn 1 1 w d5 bO);refine Tw (Yd (d2:=TF v0) (h2:=[eF v1,.eQ (zcL rs 4 0 d5) 1 5]) (φ:=[Tl 2 (eF v1)=J,Tl 2 (zb8 (rs++rdT 4 0 0 d5) 1)=J]) zg3 (yF (h':=[eF v1,.eQ (zcL rs 4 0 d5) 1 5,eF v0,eF v0]) (d:=TF v0) [.v (@na w hw d5 bO (j5 w d5 bO rs)),pe Β,pe Β,pe zcM,pe zcM,pe (TF (TC w)),pe (TF (TC w)),pe Β,pe Β,pe zdv,pe zdv,po (NJ d5),po (NJ d5),pe Β,pe Β,pe zdw,pe zdw,po (NJ bO),po (NJ bO),pr (j5 w d5 bO rs),(@na w hw d5 bO (j5 w d5 bO rs)),(@na w hw d5 bO (Aj w d5 bO rs)),.c ((fX [0,1] (@fJ w d5 bO rs (rdT 4 0 0 d5) (by subst v0 v1;(have:=fk 4 0 0 d5;omega))) ⟨?_,trivial⟩ ⟨?_,trivial⟩):Ev S5 jV 122 [fE (ql 0 0),ab (qm (rdT 4 0 0 d5))] [eF (zhn 1 0 w d5 bO),.eQ (ad (qm rs)) 0 5,eF [nq,nq,nq,nq],eF v0] (TT []) [eF v1,.eQ (zcL rs 4 0 d5) 1 5,eF [nq,nq,nq,nq],eF v0])]) Z ⟨rfl,(by subst v0 v1;exact aD _ _),trivial⟩) (by subst v0 v1;rfl) (by subst v0 v1;grind)<;>subst v0 v1<;>(exact aj _ _)
abbrev minE(x:Int):Int:=if N=J then if 10000>x then 10000 else x else if 10000<x then 10000 else x
structure VwX where
 zm:Int
 n:Int
 d:Int
 e:Int
 q:iF
def vwX(q1 q2:iF)(e1 e2 ea zm n d e:Int):VwX:=match e1 != 0 with
 |true=>⟨0,0,0,e1,q1⟩
 |false=>match e2 != 0 with
  |true=>⟨0,0,0,e2,q1++q2⟩
  |false=>match ea != 0 with
   |true=>⟨0,0,0,ea,q1++q2⟩
   |false=>⟨minE zm,n,d,e,q1++q2⟩
noncomputable abbrev dy(w:eO)(d5:Int)(bO:Int)(rs:iF)(r:JZ)(q1:iF)(q2:iF):aT:=[eF (zhn 1 2 w d5 bO),.eQ (zdJ rs q1 q2) 2 5,eF [dd 0,dd 0],eF (zaM r)]
noncomputable abbrev ce(w:eO)(d5:Int)(bO:Int)(rs:iF)(r:JZ)(q1:iF):aT:=[eF (zhn 1 1 w d5 bO),.eQ (zct rs q1) 1 5,eF [dd 0,dd 0],eF (zaM r)]
noncomputable abbrev jn(w:eO)(d5:Int)(bO:Int)(rs:iF)(r:JZ):aT:=[eF (zhn 1 0 w d5 bO),.eQ (ad (qm rs)) 0 5,eF [dd 0,dd 0],eF (zaM r)]
noncomputable abbrev jo(w:eO)(d5:Int)(bO:Int)(rs:iF):aT:=[eF (zhn 1 0 w d5 bO),.eQ (ad (qm rs)) 0 5,eF [dd 0,dd 0],eF [dd 0,nq]]
noncomputable abbrev bL(w:eO)(d5:Int)(bO:Int)(rs:iF):aT:=[eF (zhn 1 0 w d5 bO),.eQ (ad (qm rs)) 0 5,eF [dd 0,dd 0]]
abbrev zfE:Do:=[CE (.ren 1 1),CE (zld 2)]
abbrev ziZ(a:Int):D:=TT [dd 0,zd6,dd a]
theorem SG{rs:iF}{q1 q2:iF}{e1 e2 ea zm d:Int}(hb:rs.length+q1.length+q2.length<=1000000000)(h1:∀h,Ev S5 jV 41 (zbE w st d5 bO) h (tf [kb r.l,ab (qm q1),dd e1]) h)(h2:∀h,Ev S5 jV 43 [kb w.l,kb r.l,dd d5,dd bO] h (tf [ab (L.map Tb),ab (qm q2),dd e2]) h)(h3:∀h,Ev S5 jV 50 (zc5 L) h (tf [dd zm,dd ea]) h)(h4:∀h,Ev S5 jV 51 (zc5 L) h (tf [kb [dd n,dd d],dd e]) h):(Ev S5 jV 56 (zde 0 st) (vwH w d5 bO rs 0) (tf [dd (vwX q1 q2 e1 e2 ea zm n d e).zm,kb [dd (vwX q1 q2 e1 e2 ea zm n d e).n,dd (vwX q1 q2 e1 e2 ea zm n d e).d],dd (vwX q1 q2 e1 e2 ea zm n d e).e]) (vwH w d5 bO (rs++(vwX q1 q2 e1 e2 ea zm n d e).q) 1)):=by
 cases sQ:e1 != 0
 ·cases FL:e2 != 0
  ·cases Φ:ea != 0;·let v0:bY:=(zhn 1 2 w d5 bO);let v1:bY:=[(ZM 10000 zm),TF [dd n,dd d],dd e];refine Tw (Yd (d2:=TT v1) (h2:=[eF (zhn 1 1 w d5 bO),.eQ (zdJ rs q1 q2) 1 5]) (φ:=[S2 (Tz (ar 1 2 1)) (zdJ rs q1 q2)=ad (qm (rs++q1++q2)),Tl 2 (zaY 1 (ad (qm (rs++q1++q2))) 1 5 2 v0)=J,Tl 2 (ZT 0 1 (ad (qm (rs++q1++q2))) 1 5 2)=J]) zfE (yF (h':=[eF v0,.eQ (zdJ rs q1 q2) 2 5,eF [dd n,dd d],eF (zaM r)]) (d:=TT v1) [.v (@h1 (bL w d5 bO rs)),pe Β,pe Β,pe zcM,pe zcM,pe (TF (TC w)),pe (TF (TC w)),pe Β,pe Β,pe zdv,pe zdv,po (NJ d5),po (NJ d5),pe Β,pe Β,pe zdw,pe zdw,po (NJ bO),po (NJ bO),pr (bL w d5 bO rs),(@h1 (bL w d5 bO rs)),(@h1 (jo w d5 bO rs)),.c ((fX [0,1] (@fJ w d5 bO rs q1 (by subst v0 v1;omega)) ⟨?_,trivial⟩ ⟨?_,trivial⟩):Ev S5 jV 122 (zdI q1) (jn w d5 bO rs r) (TT []) (ce w d5 bO rs r q1)),.b sQ,.v (@h2 (ce w d5 bO rs r q1)),.c ((fX [0,1] (Ev.upX [0,1] (@fJ w d5 bO (rs++q1) q2 (by subst v0 v1;(simp;omega))) Z ⟨?_,trivial⟩ ⟨?_,trivial⟩) ⟨?_,trivial⟩ ⟨?_,trivial⟩):Ev S5 jV 122 (zdI q2) (ce w d5 bO rs r q1) (TT []) (dy w d5 bO rs r q1 q2)),.b FL,.v (@h3 (dy w d5 bO rs r q1 q2)),.b Φ,.v (@h4 (dy w d5 bO rs r q1 q2)),pe (TF [dd n,dd d])]) Z ⟨(by subst v0 v1;exact aB _ _),rfl,(by subst v0 v1;exact aD _ _),trivial⟩) (by subst v0 v1;(simp[vwX,sQ,FL,Φ];first|done|rfl)) (by subst v0 v1;(simp[vwX,sQ,FL,Φ];first|done|rfl))<;>subst v0 v1<;>(exact aj _ _)
   ·refine Tw (Yd (d2:=(ziZ ea)) (h2:=[eF (zhn 1 1 w d5 bO),.eQ (zdJ rs q1 q2) 1 5]) (φ:=[S2 (Tz (ar 1 2 1)) (zdJ rs q1 q2)=ad (qm (rs++q1++q2)),Tl 2 (zjv 0 1 (zdJ rs q1 q2) 1 5 2 (eF (zhn 1 2 w d5 bO)))=J,Tl 2 (ZT 0 1 (ad (qm (rs++q1++q2))) 1 5 2)=J]) zfE (yF (h':=(dy w d5 bO rs r q1 q2)) (d:=(ziZ ea)) [.v (@h1 (bL w d5 bO rs)),pe Β,pe Β,pe zcM,pe zcM,pe (TF (TC w)),pe (TF (TC w)),pe Β,pe Β,pe zdv,pe zdv,po (NJ d5),po (NJ d5),pe Β,pe Β,pe zdw,pe zdw,po (NJ bO),po (NJ bO),pr (bL w d5 bO rs),(@h1 (bL w d5 bO rs)),(@h1 (jo w d5 bO rs)),.c ((fX [0,1] (@fJ w d5 bO rs q1 ji) ⟨?_,trivial⟩ ⟨?_,trivial⟩):Ev S5 jV 122 (zdI q1) (jn w d5 bO rs r) (TT []) (ce w d5 bO rs r q1)),.b sQ,.v (@h2 (ce w d5 bO rs r q1)),.c ((fX [0,1] (Ev.upX [0,1] (@fJ w d5 bO (rs++q1) q2 (by(simp;omega))) Z ⟨?_,trivial⟩ ⟨?_,trivial⟩) ⟨?_,trivial⟩ ⟨?_,trivial⟩):Ev S5 jV 122 (zdI q2) (ce w d5 bO rs r q1) (TT []) (dy w d5 bO rs r q1 q2)),.b FL,.v (@h3 (dy w d5 bO rs r q1 q2)),.b Φ,pe (zd6)]) Z ⟨(by exact aB _ _),rfl,(by exact aD _ _),trivial⟩) (by(simp[vwX,sQ,FL,Φ];first|done|rfl)) (by(simp[vwX,sQ,FL,Φ];first|done|rfl))<;>(exact aj _ _)
  ·refine Tw (Yd (d2:=(ziZ e2)) (h2:=[eF (zhn 1 1 w d5 bO),.eQ (zdJ rs q1 q2) 1 5]) (φ:=[S2 (Tz (ar 1 2 1)) (zdJ rs q1 q2)=ad (qm (rs++q1++q2)),Tl 2 (zjv 0 1 (zdJ rs q1 q2) 1 5 2 (eF (zhn 1 2 w d5 bO)))=J,Tl 2 (ZT 0 1 (ad (qm (rs++q1++q2))) 1 5 2)=J]) zfE (yF (h':=(dy w d5 bO rs r q1 q2)) (d:=(ziZ e2)) [.v (@h1 (bL w d5 bO rs)),pe Β,pe Β,pe zcM,pe zcM,pe (TF (TC w)),pe (TF (TC w)),pe Β,pe Β,pe zdv,pe zdv,po (NJ d5),po (NJ d5),pe Β,pe Β,pe zdw,pe zdw,po (NJ bO),po (NJ bO),pr (bL w d5 bO rs),(@h1 (bL w d5 bO rs)),(@h1 (jo w d5 bO rs)),.c ((fX [0,1] (@fJ w d5 bO rs q1 ji) ⟨?_,trivial⟩ ⟨?_,trivial⟩):Ev S5 jV 122 (zdI q1) (jn w d5 bO rs r) (TT []) (ce w d5 bO rs r q1)),.b sQ,.v (@h2 (ce w d5 bO rs r q1)),.c ((fX [0,1] (Ev.upX [0,1] (@fJ w d5 bO (rs++q1) q2 (by(simp;omega))) Z ⟨?_,trivial⟩ ⟨?_,trivial⟩) ⟨?_,trivial⟩ ⟨?_,trivial⟩):Ev S5 jV 122 (zdI q2) (ce w d5 bO rs r q1) (TT []) (dy w d5 bO rs r q1 q2)),.b FL,pe (zd6)]) Z ⟨(by exact aB _ _),rfl,(by exact aD _ _),trivial⟩) (by(simp[vwX,sQ,FL];first|done|rfl)) (by(simp[vwX,sQ,FL];first|done|rfl))<;>(exact aj _ _)
 ·let v0:bY:=(zhn 1 1 w d5 bO);refine Tw (Yd (d2:=(ziZ e1)) (h2:=[eF v0,.eQ (zct rs q1) 1 5]) (φ:=[S2 (Tz (ar 1 1 1)) (zct rs q1)=ad (qm (rs++q1)),Tl 2 (zaY 1 (ad (qm (rs++q1))) 1 5 1 v0)=J,Tl 2 (ZT 0 1 (ad (qm (rs++q1))) 1 5 1)=J]) zfE (yF (h':=(ce w d5 bO rs r q1)) (d:=(ziZ e1)) [.v (@h1 (bL w d5 bO rs)),pe Β,pe Β,pe zcM,pe zcM,pe (TF (TC w)),pe (TF (TC w)),pe Β,pe Β,pe zdv,pe zdv,po (NJ d5),po (NJ d5),pe Β,pe Β,pe zdw,pe zdw,po (NJ bO),po (NJ bO),pr (bL w d5 bO rs),(@h1 (bL w d5 bO rs)),(@h1 (jo w d5 bO rs)),.c ((fX [0,1] (@fJ w d5 bO rs q1 ?_) ⟨(by subst v0;exact aj _ _),trivial⟩ ⟨(by subst v0;exact aj _ _),trivial⟩):Ev S5 jV 122 (zdI q1) (jn w d5 bO rs r) (TT []) (ce w d5 bO rs r q1)),.b sQ,pe (zd6)]) Z ⟨?_,rfl,?_,trivial⟩) (by subst v0;(simp[vwX,sQ];first|done|rfl)) (by subst v0;(simp[vwX,sQ];first|done|rfl))<;>subst v0<;>(first|omega|exact aB _ _|exact aD _ _)
def j9(w:eO)(st d5 bO:Int):VwX :=vwX (dP w st d5 bO).2.1 (cN w (dP w st d5 bO).1 d5 bO).2.1 (dP w st d5 bO).2.2 (cN w (dP w st d5 bO).1 d5 bO).2.2
  (cz (cN w (dP w st d5 bO).1 d5 bO).1).2 (cz (cN w (dP w st d5 bO).1 d5 bO).1).1
  (bX (cN w (dP w st d5 bO).1 d5 bO).1).1 (bX (cN w (dP w st d5 bO).1 d5 bO).1).2.1 (bX (cN w (dP w st d5 bO).1 d5 bO).1).2.2
theorem vE(hw:w.ok):(gU w bO st d5).length<=70656000:=by have:=tt hw (bO:=bO) (st:=st) (d5:=d5);unfold gU;simpa using this
theorem oK(hw:w.ok):(dP w st d5 bO).1.a.length<=70656000/\(dP w st d5 bO).2.1.length<=70725001:=by
 unfold dP;split;·simp
 ·exact⟨vE hw,iO hw⟩
theorem SH(m:IM)(e:uB×Nat)(out:iN):(cgF m e out).length<=out.length+1:=by unfold cgF;grind
theorem tK(m:IM):∀(l:List (uB×Nat)) (out:iN),(l.foldl (λout e=>cgF m e out) out).length<=out.length+l.length
 | [],_=>qk
 |e::l,out=>by have h1:=tK m l (cgF m e out);have h2:=SH m e out;grind
theorem HS(l:iN)(m:IM):(Ai l m).length<=l.length:=by have:=tK m l.zipIdx [];simpa[Ai] using this
theorem HT(l:iN)(rp:bV):(nj l rp).1.length<=l.length:=by
 unfold nj;cases eY (eL l=0);·simp
 ·cases eY (rp.length=l.length);·simp
  ·simp;split;·exact HS _ _
   ·simp
theorem SI(b:Bool)(e:Int)(L:iN)(rr:iF):(rcX b e L rr).1.length<=L.length/\(rcX b e L rr).2.1.length<=rr.length:=by unfold rcX;grind
theorem iY:(cN w r d5 bO).1.length<=r.a.length/\(cN w r d5 bO).2.1.length<=r.a.length:=by unfold cN;have h1:=SI (vD r d5) (nj r.a (jm w bO d5 r.a)).2 (nj r.a (jm w bO d5 r.a)).1 (j8 d5 r.a);have h2:=HT r.a (jm w bO d5 r.a);have h3:=lM d5 r.a;omega
theorem LB(hw:w.ok){rs:iF}(hb:rs.length<=100000000):Ev S5 jV 56 (zde 0 st) (vwH w d5 bO rs 0) (tf [dd (j9 w st d5 bO).zm,kb [dd (j9 w st d5 bO).n,dd (j9 w st d5 bO).d],dd (j9 w st d5 bO).e]) (vwH w d5 bO (rs++(j9 w st d5 bO).q) 1):=by
 have hl:=oK hw (st:=st) (d5:=d5) (bO:=bO);have hc:=iY (w:=w) (r:=(dP w st d5 bO).1) (d5:=d5) (bO:=bO);have hs:ah (cN w (dP w st d5 bO).1 d5 bO).1:=by unfold ah;omega
 exact SG ji (λh=>Mk hw h) (λh=>HR hw ji h) (λh=>Tp (iQ hs h)) (λh=>Tp (lA hs h))
end Go.Vi
