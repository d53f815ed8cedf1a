/- A part of the proof; no conditions of its own. -/
import Derived.Test.YtgalafpinkflfaaGreatDoorW8
open Decidable renaming decide -> Zd
open Go.Proofs.Tryz renaming f102 -> PK, prog -> MK, f42 -> PX, f15 -> Nj, f166 -> Pg, f92 -> SY
open List renaming nodup_nil -> QJ, map -> ML, getD -> MT, length -> MO, getElem?_eq_some_iff -> MR, getElem?_eq_getElem -> Nh, replicate -> MU
open Go.Vi.IS renaming row -> MX
open Go.Vi.TK renaming row -> M4
open Go.Vi.If renaming row -> MY
open Go.Vi.T2 renaming row -> M5
open Go.Vi.tO renaming row -> MQ
open Go.Vi.Ev renaming Xj -> M9, WB -> Na, W9 -> OL, post -> RJ
open Go.Vi.CW renaming preS -> R7
open Go.Vi.iN renaming UV -> MZ
open Int renaming toNat -> MP
open Option renaming isSome -> Nb, getD -> Nv
open Go.Vi.D renaming p -> PS, Tt -> Nt, any -> SX, U7 -> Nm, Tz -> NA, agg -> Nk
open Go.Vi.Dp renaming v -> PZ
open Go.Value renaming nilFunc -> NF, cells -> RS
open Go.IntKind renaming i64 -> MM, wrap -> MN
open Go.Exit renaming normal -> M8, ret -> PL
open Go.Vi.BV renaming fl -> M1
open Go.Vi.iS renaming l -> Nz
open Go Go.Proofs
namespace Go.Vi
set_option maxRecDepth 100000
set_option maxHeartbeats 4000000
def cT:Code->Code
 | .cond _ a _=>a
 | c=>c
theorem DC:ar PK=.seq (.region (C4 (cL (ar PK))) (ci (cL (ar PK))) false) (.cond (.tmp 5) (.region (C4 (cT (cR (ar PK)))) (ci (cT (cR (ar PK)))) false) .skip):=by kernel_rfl
noncomputable abbrev dm0T(e:Int):List D:=DO 9 0 [(0,iF false),(1,aT e),(4,iF false),(5,iF true)]
noncomputable def dm1(e:Int):Option (Exit×List D×List iN):=bb MK At XL [] (ci (cT (cR (ar PK)))).toList (ci (cT (cR (ar PK)))).toList (dm0T e) []
noncomputable def Ξ(e:Int):List PanicEntry:=match dm1 e with
 | some (.panic c,_,_)=>c
 | _=>[]
noncomputable def dmT(e:Int):List D:=match dm1 e with
 | some (_,t,_)=>t
 | _=>[]
theorem zX(e:Int)(h:List iN):XW MK At 102 [iF false,aT e] h λc h'=>c=Ξ e/\h'=h:=by
 refine XW.Vo (fn:=PK) (c:=ar PK) rfl rfl λX _=>?_
 rw[DC]
 refine VW.seq (VW.Va (s:={t:=cC PK [iF false,aT e],h:=h,m:=[]}) (t':=dm0T e) (h':=h) (e:=.normal) jV (by kernel_rfl) ?_)
 refine VW.cond (b:=true) rfl (λ_=>?_) (λhf=>by cases hf)
 refine VW.Va (s:={t:=dm0T e,h:=h,m:=[]}) (t':=dmT e) (h':=h) (e:=.panic (Ξ e)) jV (by kernel_rfl) ?_
 exact⟨_,rfl,rfl,QJ,rfl,rfl⟩
def opFv(o:Oper):Operand:=match o.op with
 | .call {callee:=.value fv,.. }=>fv
 | _=>.tmp 0
def u3(o:Oper):Array Operand:=match o.op with
 | .call {args,.. }=>args
 | _=>#[]
def Ma(o:Oper):Array TypeId:=match o.op with
 | .call {argTypes,.. }=>argTypes
 | _=>#[]
theorem Mb{b c:Bool}(h:b=c):iF b=iF c:=by rw[h]
theorem GJ:ar PX=.region (C4 (ar PX)) (ci (ar PX)) false:=by kernel_rfl
noncomputable abbrev MJ:Oper:=(ci (ar PX)).toList.getLastD default
theorem Mc(e:Int)(he:(e==0)=false)(h:List iN):XW MK At 42 [aT e] h λc h'=>c=Ξ e/\h'=h:=by
 refine XW.Vo (fn:=PX) (c:=ar PX) rfl rfl λX hX a w hs=>?_
 rw[GJ]
 have hc:CW MK At h false (.region (C4 (ar PX)) (ci (ar PX)) false) {t:=cC PX [aT e],h:=h,m:=[]} (.panic (Ξ e)) {t:=DO 6 0 [(0,aT e),(2,aT e),(3,iF (e==0)),(4,aT e)],h:=h,m:=[]}:=by
  refine CW.Ρ (os1:=(ci (ar PX)).toList.take 3) (rest:=[]) (o:=MJ) (fv:=opFv MJ) (args:=u3 MJ) (ats:=Ma MJ) (h1:=h) (by kernel_rfl) (by kernel_rfl) (by kernel_rfl) (by kernel_rfl) ?_ rfl
  have e1:Bv At (DO 6 0 [(0,aT e),(2,aT e),(3,iF (e==0)),(4,aT e)]) (opFv MJ)=.p (.v (.func (.func 102) #[] #[])):=by kernel_rfl
  have e2:(u3 MJ).toList.map (Bv At (DO 6 0 [(0,aT e),(2,aT e),(3,iF (e==0)),(4,aT e)]))=[iF (e==0),aT e]:=by kernel_rfl
  rw[e1,e2,Mb he]
  exact Xn.Wt Ug (f:=102) (fi:=[]) (ca:=[]) rfl (by kernel_rfl) (zX e _)
 refine wpIn_mono (hc X none hX (λ_=>rfl) a w hs) ?_
 rintro e a' w' ⟨h1,s,⟨rfl,rfl⟩,h2⟩
 exact⟨h1,_,⟨_,rfl,rfl,QJ,rfl,rfl⟩,h2⟩
noncomputable abbrev rg(k:Nat):Array Oper:=ci (cL (bc (ar Nj) k))
noncomputable abbrev rgO(k:Nat):Oper:=(rg k).toList.getLastD default
abbrev ω(e:Int):List D:=DO 167 0 [(10,.ref (.ptr 1 0)),(11,.ref (.ptr 2 0)),(12,.ref (.ptr 3 0)),(13,.ref (.ptr 4 0)),(19,aT e)]
abbrev Yd(w:iS)(A:List D)(rs:List BY):List iN:=[.var w.l,.var A,.var [iF false],.var [ab (M2 rs)],.var [aT 0]]
theorem qF{w:iS}{A:List D}{rs:List BY}{k x:Nat}{e:Int}(he:(e==0)=false)
  (hcode:bc (ar Nj) k=.seq (.region (C4 (cL (bc (ar Nj) k))) (rg k) false) (cR (bc (ar Nj) k)))
  (h1:(rg k).toList=(rg k).toList.take 1++rgO k::[]) (h2:bb MK Or nM [] (rg k).toList ((rg k).toList.take 1) (ω e) (Yd w A rs)=some (.normal,TO (ω e) (some x) (aT e),Yd w A rs))
  (h3:(rgO k).op=.call {callee:=.value (opFv (rgO k)),args:=u3 (rgO k),argTypes:=Ma (rgO k)}) (h4:(rgO k).guard=none)
  (e1:Bv Or (TO (ω e) (some x) (aT e)) (opFv (rgO k))=.p (.v (.func (.func 42) #[] #[]))) (e2:(u3 (rgO k)).toList.map (Bv Or (TO (ω e) (some x) (aT e)))=[aT e]) (h5:ro [10,11,12,13] 0 (TO (ω e) (some x) (aT e))=VT) :
  CW MK Or (hA w) false (bc (ar Nj) k) {t:=ω e,h:=Yd w A rs,m:=[]} (.panic (Ξ e)) {t:=VT,h:=Yd w A rs,m:=[]}:=by
 have h0:CW MK Or (hA w) false (bc (ar Nj) k) {t:=ω e,h:=Yd w A rs,m:=[]} (.panic (Ξ e)) {t:=TO (ω e) (some x) (aT e),h:=Yd w A rs,m:=[]}:=by
  rw[hcode]
  refine CW.out (by simp) (CW.Ρ (os1:=(rg k).toList.take 1) (rest:=[]) (o:=rgO k) (fv:=opFv (rgO k)) (args:=u3 (rgO k)) (ats:=Ma (rgO k)) (h1:=Yd w A rs) h1 h2 h3 h4 ?_ rfl)
  rw[e1,e2]
  exact Xn.Wt Ug (f:=42) (fi:=[]) (ca:=[]) rfl (by kernel_rfl) (Mc e he _).Xj
 have:=CW.maskE [10,11,12,13] h0
 unfold lP at this
 grind
noncomputable abbrev DD(w:iS)(q1:List BY)(p:oN)(r:TC):List iN:=[.var [ab (ML MX w.c),ab w.p,ab (ML M4 w.s),ab (ML MY w.f)],.var [nq,aT 0,nq],.var [iF false],.var [.ref (.bY 5 0)],.var [aT 0],.bY (ad (M2 q1)) 0 5,.var [aq p.nm,aT p.number,aT p.T3,aT p.ON,aT p.num,aT p.den,ab (ML M5 p.reqs)],.var [aT r.st,ab (ML MQ r.a)]]
theorem H1{w:iS}{bV bv:Int}{q1 q2:List BY}{p:oN}{r:TC}{e:Exit}{H:List iN}
  (ht:CW MK Or (hA w) false (bc (ar Nj) 9) (sgB9 w bV bv q1 q2 p r) e {t:=VT,h:=H,m:=[]}):(CW MK Or (hA w) false (bc (ar Nj) 8) (sgB w bV bv q1 q2 p r 0) e {t:=VT,h:=H,m:=[]}):=by
 have Tv:=(@ht)
 exact yx [] [.v (M9 (Γ':=Or) (@fY (DD w q1 p r))),Tv,.a1 (.WE [3,4,5,10,11,12,13,14,15,16,18] e {t:=DO 167 0 [(10,.ref (.ptr 1 0)),(11,.ref (.ptr 2 0)),(12,.ref (.ptr 3 0)),(13,.ref (.ptr 4 0))],h:=H})]
theorem Md{w:iS}{bV bv:Int}{q1 q2:List BY}{p:oN}{r:TC}{e:Int}(he:(e==0)=false):CW MK Or (hA w) false (bc (ar Nj) 8) (sgB w bV bv q1 q2 p r e) (.panic (Ξ e)) {t:=VT,h:=Yd w [nq,aT 0,nq] q1,m:=[]} :=
 R7 [.st (.mask [10,11,12,13,19]),.st (.Vw 5 (M2 q1)),.st (.TD 5)] (s1:={t:=ω e,h:=Yd w [nq,aT 0,nq] q1,m:=[]}) (by kernel_rfl) (.c (show ad (M2 q1)=(M2 q1).map (·.map .p) from rfl) (.c (show MZ 5 (.var w.l)=true from rfl) (.c (show MZ 5 (.var [nq,aT 0,nq])=true from rfl) (.c (show MZ 5 (.var [iF false])=true from rfl) (.c (show MZ 5 (.var [ab (M2 q1)])=true from rfl) (.c (show MZ 5 (.var [aT 0])=true from rfl) .n))))))
  (qF (k:=8) (x:=58) he (by kernel_rfl) (by kernel_rfl) (by kernel_rfl) (by kernel_rfl) (by kernel_rfl) (by kernel_rfl) (by kernel_rfl) (by kernel_rfl))
noncomputable abbrev zY(w:iS)(rs:List BY)(p:oN)(r:TC):List iN:=[.var [ab (ML MX w.c),ab w.p,ab (ML M4 w.s),ab (ML MY w.f)],.var [nq,aT 0,nq],.var [iF false],.var [.ref (.bY 5 0)],.var [aT 0],.bY (ad (M2 rs)) 0 5,.var [aq p.nm,aT p.number,aT p.T3,aT p.ON,aT p.num,aT p.den,ab (ML M5 p.reqs)],.var [aT r.st,ab (ML MQ r.a)]]
theorem Me{w:iS}{bV bv:Int}{rs q3:List BY}{p:oN}{r:TC}{l:List tO}{e:Exit}{H:List iN}
  (ht:CW MK Or (hA w) false (bc (ar Nj) 12) (L0 w bV bv rs q3 p r l) e {t:=VT,h:=H,m:=[]}):(CW MK Or (hA w) false (bc (ar Nj) 11) (sgC w bV bv rs q3 p r l 0) e {t:=VT,h:=H,m:=[]}):=by
 have Tv:=(@ht)
 exact yx [] [.v (M9 (Γ':=Or) (@fY (zY w rs p r))),Tv,.a1 (.WE [3,4,5,10,11,12,13,14,15,16,20] e {t:=DO 167 0 [(10,.ref (.ptr 1 0)),(11,.ref (.ptr 2 0)),(12,.ref (.ptr 3 0)),(13,.ref (.ptr 4 0))],h:=H})]
theorem GK{w:iS}{bV bv:Int}{rs q3:List BY}{p:oN}{r:TC}{l:List tO}{e:Int}(he:(e==0)=false):CW MK Or (hA w) false (bc (ar Nj) 11) (sgC w bV bv rs q3 p r l e) (.panic (Ξ e)) {t:=VT,h:=Yd w [nq,aT 0,nq] rs,m:=[]} :=
 R7 [.st (.mask [10,11,12,13,19]),.st (.Vw 5 (M2 rs)),.st (.TD 5)] (s1:={t:=ω e,h:=Yd w [nq,aT 0,nq] rs,m:=[]}) (by kernel_rfl) (.c (show ad (M2 rs)=(M2 rs).map (·.map .p) from rfl) (.c (show MZ 5 (.var w.l)=true from rfl) (.c (show MZ 5 (.var [nq,aT 0,nq])=true from rfl) (.c (show MZ 5 (.var [iF false])=true from rfl) (.c (show MZ 5 (.var [ab (M2 rs)])=true from rfl) (.c (show MZ 5 (.var [aT 0])=true from rfl) .n))))))
  (qF (k:=11) (x:=72) he (by kernel_rfl) (by kernel_rfl) (by kernel_rfl) (by kernel_rfl) (by kernel_rfl) (by kernel_rfl) (by kernel_rfl) (by kernel_rfl))
noncomputable abbrev zZ(w:iS)(rs:List BY)(x1:List (List Dp))(x3:List (List Dp))(ms:Int)(p:oN)(r:TC):List iN:=[.var [ab (ML MX w.c),ab w.p,ab (ML M4 w.s),ab (ML MY w.f)],.var [ab x1,aT ms,ab x3],.var [iF false],.var [.ref (.bY 5 0)],.var [aT 0],.bY (ad (M2 rs)) 0 5,.var [aq p.nm,aT p.number,aT p.T3,aT p.ON,aT p.num,aT p.den,ab (ML M5 p.reqs)],.var [aT r.st,ab (ML MQ r.a)]]
theorem sy{w:iS}{rs:List BY}{x1 x3:List (List Dp)}{ms:Int}{p:oN}{r:TC}{l:List tO}{e:Exit}{H:List iN}
  (ht:CW MK Or (hA w) false (bc (ar Nj) 30) (sgD30 w rs x1 x3 ms p r l) e {t:=VT,h:=H,m:=[]}):(CW MK Or (hA w) false (bc (ar Nj) 29) (sgD w rs x1 x3 ms p r l 0) e {t:=VT,h:=H,m:=[]}):=by
 have Tv:=(@ht)
 exact yx [] [.v (M9 (Γ':=Or) (@fY (zZ w rs x1 x3 ms p r))),Tv,.a1 (.WE [10,11,12,13,15,20] e {t:=DO 167 0 [(10,.ref (.ptr 1 0)),(11,.ref (.ptr 2 0)),(12,.ref (.ptr 3 0)),(13,.ref (.ptr 4 0))],h:=H})]
theorem GL{w:iS}{rs:List BY}{x1 x3:List (List Dp)}{ms:Int}{p:oN}{r:TC}{l:List tO}{e:Int}(he:(e==0)=false):CW MK Or (hA w) false (bc (ar Nj) 29) (sgD w rs x1 x3 ms p r l e) (.panic (Ξ e)) {t:=VT,h:=Yd w [ab x1,aT ms,ab x3] rs,m:=[]} :=
 R7 [.st (.mask [10,11,12,13,19]),.st (.Vw 5 (M2 rs)),.st (.TD 5)] (s1:={t:=ω e,h:=Yd w [ab x1,aT ms,ab x3] rs,m:=[]}) (by kernel_rfl) (.c (show ad (M2 rs)=(M2 rs).map (·.map .p) from rfl) (.c (show MZ 5 (.var w.l)=true from rfl) (.c (show MZ 5 (.var [ab x1,aT ms,ab x3])=true from rfl) (.c (show MZ 5 (.var [iF false])=true from rfl) (.c (show MZ 5 (.var [ab (M2 rs)])=true from rfl) (.c (show MZ 5 (.var [aT 0])=true from rfl) .n))))))
  (qF (k:=29) (x:=127) he (by kernel_rfl) (by kernel_rfl) (by kernel_rfl) (by kernel_rfl) (by kernel_rfl) (by kernel_rfl) (by kernel_rfl) (by kernel_rfl))
noncomputable abbrev z6(w:iS)(rs:List BY)(x1:List (List Dp))(x3:List (List Dp))(ms:Int)(p:oN)(r:TC):List iN:=[.var [ab (ML MX w.c),ab w.p,ab (ML M4 w.s),ab (ML MY w.f)],.var [ab x1,aT ms,ab x3],.var [iF false],.var [.ref (.bY 5 0)],.var [aT 0],.bY (ad (M2 rs)) 0 5,.var [aq p.nm,aT p.number,aT p.T3,aT p.ON,aT p.num,aT p.den,ab (ML M5 p.reqs)],.var [aT r.st,ab (ML MQ r.a)]]
theorem wL{w:iS}{rs:List BY}{x1 x3:List (List Dp)}{ms en:Int}{p:oN}{r:TC}{l:List tO}{e:Exit}{H:List iN}
  (ht:CW MK Or (hA w) false (bc (ar Nj) 32) (sgE32 w rs x1 x3 ms p r l en) e {t:=VT,h:=H,m:=[]}):(CW MK Or (hA w) false (bc (ar Nj) 31) (sgE w rs x1 x3 ms p r l en 0) e {t:=VT,h:=H,m:=[]}):=by
 have Tv:=(@ht)
 exact yx [] [.v (M9 (Γ':=Or) (@fY (z6 w rs x1 x3 ms p r))),Tv,.a1 (.WE [10,11,12,13,15,20,28] e {t:=DO 167 0 [(10,.ref (.ptr 1 0)),(11,.ref (.ptr 2 0)),(12,.ref (.ptr 3 0)),(13,.ref (.ptr 4 0))],h:=H})]
theorem GM{w:iS}{rs:List BY}{x1 x3:List (List Dp)}{ms en:Int}{p:oN}{r:TC}{l:List tO}{e:Int}(he:(e==0)=false):CW MK Or (hA w) false (bc (ar Nj) 31) (sgE w rs x1 x3 ms p r l en e) (.panic (Ξ e)) {t:=VT,h:=Yd w [ab x1,aT ms,ab x3] rs,m:=[]} :=
 R7 [.st (.mask [10,11,12,13,19]),.st (.Vw 5 (M2 rs)),.st (.TD 5)] (s1:={t:=ω e,h:=Yd w [ab x1,aT ms,ab x3] rs,m:=[]}) (by kernel_rfl) (.c (show ad (M2 rs)=(M2 rs).map (·.map .p) from rfl) (.c (show MZ 5 (.var w.l)=true from rfl) (.c (show MZ 5 (.var [ab x1,aT ms,ab x3])=true from rfl) (.c (show MZ 5 (.var [iF false])=true from rfl) (.c (show MZ 5 (.var [ab (M2 rs)])=true from rfl) (.c (show MZ 5 (.var [aT 0])=true from rfl) .n))))))
  (qF (k:=31) (x:=134) he (by kernel_rfl) (by kernel_rfl) (by kernel_rfl) (by kernel_rfl) (by kernel_rfl) (by kernel_rfl) (by kernel_rfl) (by kernel_rfl))
noncomputable abbrev z7(w:iS)(rs:List BY)(x1:List (List Dp))(x3:List (List Dp))(ms:Int)(mn:Int)(md:Int)(p:oN)(r:TC):List iN:=[.var [ab (ML MX w.c),ab w.p,ab (ML M4 w.s),ab (ML MY w.f)],.var [ab x1,aT ms,ab x3],.var [iF false],.var [.ref (.bY 5 0)],.var [aT 0],.bY (ad (M2 rs)) 0 5,.var [aq p.nm,aT p.number,aT p.T3,aT p.ON,aT p.num,aT p.den,ab (ML M5 p.reqs)],.var [aT r.st,ab (ML MQ r.a)],.var [aT mn,aT md]]
theorem DE{w:iS}{rs:List BY}{x1 x3:List (List Dp)}{ms en mn md:Int}{p:oN}{r:TC}{e:Exit}{H:List iN}
  (ht:CW MK Or (hA w) false (bc (ar Nj) 34) (sgF34 w rs x1 x3 ms p r en mn md) e {t:=VT,h:=H,m:=[]}):(CW MK Or (hA w) false (bc (ar Nj) 33) (sgF w rs x1 x3 ms p r en mn md 0) e {t:=VT,h:=H,m:=[]}):=by
 have Tv:=(@ht)
 exact yx [] [.v (M9 (Γ':=Or) (@fY (z7 w rs x1 x3 ms mn md p r))),Tv,.a1 (.WE [10,11,12,13,15,28,29] e {t:=DO 167 0 [(10,.ref (.ptr 1 0)),(11,.ref (.ptr 2 0)),(12,.ref (.ptr 3 0)),(13,.ref (.ptr 4 0))],h:=H})]
theorem GN{w:iS}{rs:List BY}{x1 x3:List (List Dp)}{ms en mn md:Int}{p:oN}{r:TC}{e:Int}(he:(e==0)=false):CW MK Or (hA w) false (bc (ar Nj) 33) (sgF w rs x1 x3 ms p r en mn md e) (.panic (Ξ e)) {t:=VT,h:=Yd w [ab x1,aT ms,ab x3] rs,m:=[]} :=
 R7 [.st (.mask [10,11,12,13,19]),.st (.Vw 5 (M2 rs)),.st (.TD 5)] (s1:={t:=ω e,h:=Yd w [ab x1,aT ms,ab x3] rs,m:=[]}) (by kernel_rfl) (.c (show ad (M2 rs)=(M2 rs).map (·.map .p) from rfl) (.c (show MZ 5 (.var w.l)=true from rfl) (.c (show MZ 5 (.var [ab x1,aT ms,ab x3])=true from rfl) (.c (show MZ 5 (.var [iF false])=true from rfl) (.c (show MZ 5 (.var [ab (M2 rs)])=true from rfl) (.c (show MZ 5 (.var [aT 0])=true from rfl) .n))))))
  (qF (k:=33) (x:=141) he (by kernel_rfl) (by kernel_rfl) (by kernel_rfl) (by kernel_rfl) (by kernel_rfl) (by kernel_rfl) (by kernel_rfl) (by kernel_rfl))
noncomputable abbrev z8(w:iS)(rs:List BY)(x1:List (List Dp))(x3:List (List Dp))(ms:Int)(mn:Int)(md:Int)(p:oN)(r:TC):List iN:=[.var [ab (ML MX w.c),ab w.p,ab (ML M4 w.s),ab (ML MY w.f)],.var [ab x1,aT ms,ab x3],.var [iF false],.var [.ref (.bY 5 0)],.var [aT 0],.bY (ad (M2 rs)) 0 5,.var [aq p.nm,aT p.number,aT p.T3,aT p.ON,aT p.num,aT p.den,ab (ML M5 p.reqs)],.var [aT r.st,ab (ML MQ r.a)],.var [aT mn,aT md]]
theorem Mf{w:iS}{rs:List BY}{x1 x3:List (List Dp)}{ms en mn md c:Int}{p:oN}{r:TC}{e:Exit}{H:List iN}
  (ht:CW MK Or (hA w) false (bc (ar Nj) 36) (sgG36 w rs x1 x3 ms p r en mn md c) e {t:=VT,h:=H,m:=[]}):(CW MK Or (hA w) false (bc (ar Nj) 35) (sgG w rs x1 x3 ms p r en mn md c 0) e {t:=VT,h:=H,m:=[]}):=by
 have Tv:=(@ht)
 exact yx [] [.v (M9 (Γ':=Or) (@fY (z8 w rs x1 x3 ms mn md p r))),Tv,.a1 (.WE [10,11,12,13,15,28,30] e {t:=DO 167 0 [(10,.ref (.ptr 1 0)),(11,.ref (.ptr 2 0)),(12,.ref (.ptr 3 0)),(13,.ref (.ptr 4 0))],h:=H})]
theorem GO{w:iS}{rs:List BY}{x1 x3:List (List Dp)}{ms en mn md c:Int}{p:oN}{r:TC}{e:Int}(he:(e==0)=false):CW MK Or (hA w) false (bc (ar Nj) 35) (sgG w rs x1 x3 ms p r en mn md c e) (.panic (Ξ e)) {t:=VT,h:=Yd w [ab x1,aT ms,ab x3] rs,m:=[]} :=
 R7 [.st (.mask [10,11,12,13,19]),.st (.Vw 5 (M2 rs)),.st (.TD 5)] (s1:={t:=ω e,h:=Yd w [ab x1,aT ms,ab x3] rs,m:=[]}) (by kernel_rfl) (.c (show ad (M2 rs)=(M2 rs).map (·.map .p) from rfl) (.c (show MZ 5 (.var w.l)=true from rfl) (.c (show MZ 5 (.var [ab x1,aT ms,ab x3])=true from rfl) (.c (show MZ 5 (.var [iF false])=true from rfl) (.c (show MZ 5 (.var [ab (M2 rs)])=true from rfl) (.c (show MZ 5 (.var [aT 0])=true from rfl) .n))))))
  (qF (k:=35) (x:=150) he (by kernel_rfl) (by kernel_rfl) (by kernel_rfl) (by kernel_rfl) (by kernel_rfl) (by kernel_rfl) (by kernel_rfl) (by kernel_rfl))
theorem GP:ar Nj=.seq (.region (C4 (cL (ar Nj))) (ci (cL (ar Nj))) false) (.seq (.region (C4 (cL (cR (ar Nj)))) (ci (cL (cR (ar Nj)))) false) (cR (cR (ar Nj)))):=by kernel_rfl
theorem qG:XL.Ok MK Or:=λ_ _ _ _ h=>by simp[XL] at h
abbrev dg0T(w:iS)(st n bV bv:Int):List D:=DO 167 0 [(0,.agg w.l),(1,aT st),(2,aT n),(3,aT bV),(4,aT bv),(5,.ref (.ptr 0 0)),(10,.ref (.ptr 1 0)),(11,.ref (.ptr 2 0)),(12,.ref (.ptr 3 0)),(13,.ref (.ptr 4 0))]
abbrev dg1T(w:iS)(st n bV bv:Int):List D:=DO 167 0 [(0,.agg w.l),(1,aT st),(2,aT n),(3,aT bV),(4,aT bv),(5,.ref (.ptr 0 0)),(10,.ref (.ptr 1 0)),(11,.ref (.ptr 2 0)),(12,.ref (.ptr 3 0)),(13,.ref (.ptr 4 0)),(31,.fn (.func 37) [] [.ref (.ptr 1 0),.ref (.ptr 2 0),.ref (.ptr 3 0),.ref (.ptr 4 0)])]
abbrev dgCa:List D:=[.ref (.ptr 1 0),.ref (.ptr 2 0),.ref (.ptr 3 0),.ref (.ptr 4 0)]
theorem Mg{w:iS}{st n bV bv:Int}{e:Exit}{s':AS}(Up:CW MK Or (hA w) false (cR (cR (ar Nj))) (sgA w st n bV bv) e s'):
  Vp MK Or (ar Nj) {t:=cC Nj [.agg w.l,aT st,aT n,aT bV,aT bv],h:=[],m:=[]} e s' (some (37,dgCa)):=by
 rw[GP]
 refine Vp.seq (s1:={t:=dg0T w st n bV bv,h:=(sgA w st n bV bv).h,m:=[]}) (λX=>VW.Va (t':=dg0T w st n bV bv) (h':=(sgA w st n bV bv).h) (e:=.normal) qG (by kernel_rfl) ⟨rfl,rfl⟩) ?_
 exact Vp.zbT (os:=(ci (cL (cR (ar Nj)))).toList.dropLast) (o:=HS (ci (cL (cR (ar Nj)))).toList) (fv:=.tmp 31) (args:=#[]) (ats:=#[]) (t1:=dg1T w st n bV bv) (h1:=(sgA w st n bV bv).h) (f:=37) (fi:=[]) (ca:=dgCa) Ug qG (by kernel_rfl) (by kernel_rfl) (by kernel_rfl) (by kernel_rfl) rfl (by kernel_rfl) (by kernel_rfl) (CW.pre [1,2,3,4,5,10,11,12,13] Up)
theorem Mh:DfF.Ok MK Or (fb MK Or Zr 100):=(tj Ug (W:=Zr) (λ_ _ _ _ h=>by simp[Zr] at h) 100).2.2.2.2
noncomputable abbrev DF(e:Exit)(H:List iN):Option CR:=pG MK Nj (fb MK Or Zr 100) 0 e {t:=VT,h:=H,m:=[]} (some (37,dgCa))
theorem Mi{w:iS}{x1 x3 rs:List (List Dp)}{ms:Int}{b:Bool}:DF .ret [.var w.l,.var [ab x1,aT ms,ab x3],.var [iF b],.var [ab rs],.var [aT 0]]=some (.ret (.Tt [.agg [ab x1,aT ms,ab x3],iF b,ab rs,aT 0]) []):=by kernel_rfl
theorem Mj{w:iS}{rs:List (List Dp)}:DF .ret [.var w.l,.var [nq,aT 0,nq],.var [iF false],.var [ab rs],.var [aT 0]]=some (.ret (.Tt [.agg [nq,aT 0,nq],iF false,ab rs,aT 0]) []):=by kernel_rfl
theorem H2{w:iS}{rs:List BY}{e:Int}:DF (.panic (Ξ e)) (Yd w [nq,aT 0,nq] rs)=some (.ret (.Tt [.agg [nq,aT 0,nq],iF false,nq,aT e]) []):=by kernel_rfl
theorem yN{w:iS}{rs:List BY}{x1 x3:List (List Dp)}{ms e:Int}:DF (.panic (Ξ e)) (Yd w [ab x1,aT ms,ab x3] rs)=some (.ret (.Tt [.agg [nq,aT 0,nq],iF false,nq,aT e]) []):=by kernel_rfl
theorem lJ{w:iS}{st n bV bv:Int}{e:Exit}{H:List iN}{d:D}(hr:CW MK Or (hA w) false (cR (cR (ar Nj))) (sgA w st n bV bv) e {t:=VT,h:=H,m:=[]})(he:DF e H=some (.ret d [])):Ev MK Or 15 [.agg w.l,aT st,aT n,aT bV,aT bv] [] d [] :=
 (VN.ZL (f:=15) (args:=[.agg w.l,aT st,aT n,aT bV,aT bv]) (dfn:=fb MK Or Zr 100) (h:=[]) (r:=.ret d []) (fn:=Nj) (c:=ar Nj) Ug rfl rfl Mh (Mg hr) he).call
abbrev caH(m1 m2:IM):List iN:=[.var Cv,Zt m1,Zt m2]
abbrev ν(l:List tO)(rp:List (List Dp))(m1 m2:IM)(i:Int):AS :=
 {t:=DO 135 0 [(0,ab (l.map MQ)),(1,ab rp),(4,t7),(5,aT 0),(6,.ref (.ptr 0 0)),(7,.ref (.mp 1)),(8,.ref (.mp 2)),(32,ab (l.map MQ)),(33,aT (l.map MQ).length),(34,aT i)],h:=caH m1 m2,m:=[]}
theorem lk1{h:List iN}{m:IM}{c:Int}(hb:h[1]? = some (Zt m)):aA MK h 168 (.ref (.mp 1)) (aT c) true=some (.Tt [aT ((am m c).getD 0),iF (am m c).isSome]):=uM (kt:=3) (et:=3) (by kernel_rfl) (by kernel_rfl) (by kernel_rfl) hb
theorem lk2{h:List iN}{m:IM}{c:Int}(hb:h[2]? = some (Zt m)):aA MK h 168 (.ref (.mp 2)) (aT c) true=some (.Tt [aT ((am m c).getD 0),iF (am m c).isSome]):=uM (kt:=3) (et:=3) (by kernel_rfl) (by kernel_rfl) (by kernel_rfl) hb
theorem up1{h:List iN}{m:IM}{c v:Int}(hb:h[1]? = some (Zt m)):aH MK h 168 (.ref (.mp 1)) (aT c) (aT v)=some (h.set 1 (Zt (aV m c v))):=uN (kt:=3) (et:=3) (by kernel_rfl) (by kernel_rfl) hb
theorem up2{h:List iN}{m:IM}{c v:Int}(hb:h[2]? = some (Zt m)):aH MK h 168 (.ref (.mp 2)) (aT c) (aT v)=some (h.set 2 (Zt (aV m c v))):=uN (kt:=3) (et:=3) (by kernel_rfl) (by kernel_rfl) hb
def iU(r:Int)(o:Option Int):Bool:=!(Zd (r>=0)&&Zd (r<=2))||(o.isSome&&(o.getD 0 != r))
def rep0(a b:tO):Bool:=Zd (a.IF>b.IF)||(a.IF==b.IF&&Zd (a.bV<b.bV))
def rep1(a b:tO):Bool:=Zd (a.bV>=b.bV)
def repB(r:Int)(a b:tO):Bool:=if r=0 then rep0 a b else rep1 a b
def gK(l:List tO)(r:Int)(a:tO)(o:Option Int):Bool:=(r==0||r==1)&&(!o.isSome||repB r a (l.getD (MP (o.getD 0)) default))
def XB(l:List tO)(i:Int)(r:Int)(a:tO)(s:IM×IM):(IM×IM)⊕Unit:=match iU r (am s.1 a.dO) with
 | true=>.inr ()
 | false=>.inl (aV s.1 a.dO r,match gK l r a (am s.2 a.dO) with|true=>aV s.2 a.dO i|false=>s.2)
abbrev caX:Unit->Exit×AS:=λ_=>(.ret,{t:=DO 135 0 [(4,t7),(5,aT 1)],h:=[],m:=[]})
theorem YK{l:List tO}{a:tO}{o:Option Int}:gK l 0 a o=(true&&(!Nb o||(Zd (a.IF>(MT l (MP (Nv o 0)) default).IF)||(a.IF==(MT l (MP (Nv o 0)) default).IF&&Zd (a.bV<(MT l (MP (Nv o 0)) default).bV))))):=by simp[gK,repB,rep0]
theorem YJ{l:List tO}{a:tO}{o:Option Int}:gK l 1 a o=(true&&(!Nb o||Zd (a.bV>=(MT l (MP (Nv o 0)) default).bV))):=by simp[gK,repB,rep1]
theorem H3{l:List tO}{a:tO}{o:Option Int}:gK l 2 a o=false:=by simp[gK]
noncomputable abbrev fZ(m1:IM)(m2:IM)(a:tO):List iN:=[.var [iF true,fq 297,iF true,fq 298,iF false,PS (PZ NF)],.map (bE 0 (aV m1 a.dO 0)) (MO (aV m1 a.dO 0)),.map (bE 0 m2) (MO m2),.var [aT a.dO,aT a.bV,aT a.IF,aT a.SW,aT a.oF]]
noncomputable abbrev eM(m1:IM)(m2:IM)(a:tO):List iN:=[.var [iF true,fq 297,iF true,fq 298,iF false,PS (PZ NF)],.map (bE 0 m1) (MO m1),.map (bE 0 m2) (MO m2),.var [aT a.dO,aT a.bV,aT a.IF,aT a.SW,aT a.oF]]
theorem ca_b0{l:List tO}{rp:List (List Dp)}{m1 m2:IM}{i:Nat}{a:tO}(hm:∀v,am m2 a.dO=some v->0<=v/\v<(l.length:Int))(hr:ap (i:Int) (l.map MQ) a.row 5)(hq:ap (i:Int) rp [vi 0] 1)(IN:Zd ((i:Int)<((l.map MQ).length:Int))=true)(hw:MM.wrap ((i:Int)+1)=((i+1:Nat):Int)):(CW MK At [] false (sub Pg 0) (ν l rp m1 m2 i) (af (λs=>ν l rp s.1 s.2 ((i+1:Nat):Int)) caX (XB l i 0 a (m1,m2))).1 (af (λs=>ν l rp s.1 s.2 ((i+1:Nat):Int)) caX (XB l i 0 a (m1,m2))).2):=by
 cases Of:!(Zd (0>=0)&&Zd (0<=2))||Nb (am m1 a.dO)&&Nv (am m1 a.dO) 0 != 0
 ·cases TH:true&&(!Nb (am m2 a.dO)||(Zd (a.IF>(MT l (MP (Nv (am m2 a.dO) 0)) default).IF)||a.IF==(MT l (MP (Nv (am m2 a.dO) 0)) default).IF&&Zd (a.bV<(MT l (MP (Nv (am m2 a.dO) 0)) default).bV)))
  ·let v0:=MT l (MP (Nv (am m2 a.dO) 0)) default
   let v1:=Nt [aT (Nv (am m1 a.dO) 0),iF (Nb (am m1 a.dO))]
   let v2:=Nt [aT (Nv (am m2 a.dO) 0),iF (Nb (am m2 a.dO))]
   refine yX {t:=DO 135 0 [(0,ab (ML MQ l)),(1,ab rp),(4,nq),(5,aT 0),(6,.ref (.ptr 0 0)),(7,.ref (.mp 1)),(8,.ref (.mp 2)),(32,ab (ML MQ l)),(33,aT (↑(MO (ML MQ l)):Int)),(34,aT (MN MM ((↑i:Int)+1)))],h:=[.var [iF true,fq 297,iF true,fq 298,iF false,PS (PZ NF)],.map (bE 0 (aV m1 a.dO 0)) (MO (aV m1 a.dO 0)),.map (bE 0 m2) (MO m2)],m:=[]} M8 [.st (.mask [0,1,4,5,6,7,8,32,33,34]),.st (.TD 3)] [.b IN,.r hr,(?_:@Eq (Option D) (aA MK (eM m1 m2 a) 168 (.ref (.mp 1)) (aT a.dO) true) (some v1)),.a1 (.ov 43 v1),.r hq,.v (@c9 0 0 2 (eM m1 m2 a)),((λhg=>hq):(!!(Zd (0>=0)&&Zd (0<=2))&&Nb (am m1 a.dO))=true->ap (↑i:Int) rp [vi 0] 1),.a1 (.row [vi 0]),.b Of,.r hq,(?_:@Eq (Option (List iN)) (aH MK (eM m1 m2 a) 168 (.ref (.mp 1)) (aT a.dO) (aT 0)) (some (fZ m1 m2 a))),pe (.ref (.ptr 3 0)),po (some (aT a.dO)),(?_:@Eq (Option D) (aA MK (fZ m1 m2 a) 168 (.ref (.mp 2)) (aT a.dO) true) (some v2)),.a1 (.oh 10063 SX (caH (aV m1 a.dO 0) m2++[.var (ML PS (MQ a))])),.a1 (.ov 74 v2),.a1 (.row [vi 0]),.r hq,(rfl:TU 0 3=true),((λhg=>hq):(true&&!!Nb (am m2 a.dO))=true->ap (↑i:Int) rp [vi 0] 1),((λhg=>rfl):(true&&!!Nb (am m2 a.dO))=true->TU 0 3=true),((λhg=>?_):(true&&!!Nb (am m2 a.dO))=true->ap (Nv (am m2 a.dO) 0) (ML MQ l) (MQ v0) 5),.a1 (.row (MQ v0)),.w (true&&!!Nb (am m2 a.dO)) (@Ct a v0 (fZ m1 m2 a)),.b TH,bi 3 (.var [iF true,fq 297,iF true,fq 298,iF false,PS (PZ NF)]),(?_:MZ 3 (.map (bE 0 (aV m1 a.dO 0)) (MO (aV m1 a.dO 0)))=true),(?_:MZ 3 (.map (bE 0 m2) (MO m2))=true)] (by subst v0 v1 v2;(have h1:iU 0 (am m1 a.dO)=false:=Of;have h2:gK l 0 a (am m2 a.dO)=false:=YK.trans TH;simp[XB,h1,af];first|done|rfl)) (by subst v0 v1 v2;(have h1:iU 0 (am m1 a.dO)=false:=Of;have h2:gK l 0 a (am m2 a.dO)=false:=YK.trans TH;simp only[XB,h1,h2,af,hw];first|done|rfl))<;>subst v0 v1 v2<;>(first|exact lk1 rfl|exact lk2 rfl|exact up1 rfl|exact ou|(refine bW (λ_=>rfl) ?_ ?_<;>(cases hz:am m2 a.dO<;>simp_all;done)))
  ·let v0:=MT l (MP (Nv (am m2 a.dO) 0)) default
   let v1:=Nt [aT (Nv (am m1 a.dO) 0),iF (Nb (am m1 a.dO))]
   let v2:=Nt [aT (Nv (am m2 a.dO) 0),iF (Nb (am m2 a.dO))]
   let v3:=MO (aV m1 a.dO 0)
   refine yX {t:=DO 135 0 [(0,ab (ML MQ l)),(1,ab rp),(4,nq),(5,aT 0),(6,.ref (.ptr 0 0)),(7,.ref (.mp 1)),(8,.ref (.mp 2)),(32,ab (ML MQ l)),(33,aT (↑(MO (ML MQ l)):Int)),(34,aT (MN MM ((↑i:Int)+1)))],h:=[.var [iF true,fq 297,iF true,fq 298,iF false,PS (PZ NF)],.map (bE 0 (aV m1 a.dO 0)) v3,.map (bE 0 (aV m2 a.dO (↑i:Int))) (MO (aV m2 a.dO (↑i:Int)))],m:=[]} M8 [.st (.mask [0,1,4,5,6,7,8,32,33,34]),.st (.TD 3)] [.b IN,.r hr,(?_:@Eq (Option D) (aA MK (eM m1 m2 a) 168 (.ref (.mp 1)) (aT a.dO) true) (some v1)),.a1 (.ov 43 v1),.r hq,.v (@c9 0 0 2 (eM m1 m2 a)),((λhg=>hq):(!!(Zd (0>=0)&&Zd (0<=2))&&Nb (am m1 a.dO))=true->ap (↑i:Int) rp [vi 0] 1),.a1 (.row [vi 0]),.b Of,.r hq,(?_:@Eq (Option (List iN)) (aH MK (eM m1 m2 a) 168 (.ref (.mp 1)) (aT a.dO) (aT 0)) (some (fZ m1 m2 a))),pe (.ref (.ptr 3 0)),po (some (aT a.dO)),(?_:@Eq (Option D) (aA MK (fZ m1 m2 a) 168 (.ref (.mp 2)) (aT a.dO) true) (some v2)),.a1 (.oh 10063 SX (caH (aV m1 a.dO 0) m2++[.var (ML PS (MQ a))])),.a1 (.ov 74 v2),.a1 (.row [vi 0]),.r hq,(rfl:TU 0 3=true),((λhg=>hq):(true&&!!Nb (am m2 a.dO))=true->ap (↑i:Int) rp [vi 0] 1),((λhg=>rfl):(true&&!!Nb (am m2 a.dO))=true->TU 0 3=true),((λhg=>?_):(true&&!!Nb (am m2 a.dO))=true->ap (Nv (am m2 a.dO) 0) (ML MQ l) (MQ v0) 5),.a1 (.row (MQ v0)),.w (true&&!!Nb (am m2 a.dO)) (@Ct a v0 (fZ m1 m2 a)),.b TH,(?_:@Eq (Option (List iN)) (aH MK (fZ m1 m2 a) 168 (.ref (.mp 2)) (aT a.dO) (aT (↑i:Int))) (some [.var [iF true,fq 297,iF true,fq 298,iF false,PS (PZ NF)],.map (bE 0 (aV m1 a.dO 0)) v3,.map (bE 0 (aV m2 a.dO (↑i:Int))) (MO (aV m2 a.dO (↑i:Int))),.var [aT a.dO,aT a.bV,aT a.IF,aT a.SW,aT a.oF]])),bi 3 (.var [iF true,fq 297,iF true,fq 298,iF false,PS (PZ NF)]),(?_:MZ 3 (.map (bE 0 (aV m1 a.dO 0)) v3)=true),(?_:MZ 3 (.map (bE 0 (aV m2 a.dO (↑i:Int))) (MO (aV m2 a.dO (↑i:Int))))=true),.a1 (.oh 10103 SX (caH (aV m1 a.dO 0) (aV m2 a.dO (↑i:Int))++[.var (ML PS (MQ a))]))] (by subst v0 v1 v2 v3;(have h1:iU 0 (am m1 a.dO)=false:=Of;have h2:gK l 0 a (am m2 a.dO)=true:=YK.trans TH;simp[XB,h1,af];first|done|rfl)) (by subst v0 v1 v2 v3;(have h1:iU 0 (am m1 a.dO)=false:=Of;have h2:gK l 0 a (am m2 a.dO)=true:=YK.trans TH;simp only[XB,h1,h2,af,hw];first|done|rfl))<;>subst v0 v1 v2 v3<;>(first|exact lk1 rfl|exact lk2 rfl|exact up1 rfl|exact up2 rfl|exact ou|(refine bW (λ_=>rfl) ?_ ?_<;>(cases hz:am m2 a.dO<;>simp_all;done)))
 ·let v0:=Nt [aT (Nv (am m1 a.dO) 0),iF (Nb (am m1 a.dO))]
  refine yX {t:=DO 135 0 [(4,nq),(5,aT 1)],h:=[],m:=[]} PL [.st (.mask [4,5]),.st (.TD 0)] [.b IN,.r hr,((by subst v0;exact lk1 rfl):@Eq (Option D) (aA MK (eM m1 m2 a) 168 (.ref (.mp 1)) (aT a.dO) true) (some v0)),.a1 (.ov 43 v0),.r hq,.v (@c9 0 0 2 (eM m1 m2 a)),((λhg=>hq):(!!(Zd (0>=0)&&Zd (0<=2))&&Nb (am m1 a.dO))=true->ap (↑i:Int) rp [vi 0] 1),.a1 (.row [vi 0]),.b Of] ?_ ?_<;>subst v0<;>(have h1:iU 0 (am m1 a.dO)=true:=Of;simp[XB,h1,af];first|done|rfl)
noncomputable abbrev f7(m1:IM)(m2:IM)(a:tO):List iN:=[.var [iF true,fq 297,iF true,fq 298,iF false,PS (PZ NF)],.map (bE 0 (aV m1 a.dO 1)) (MO (aV m1 a.dO 1)),.map (bE 0 m2) (MO m2),.var [aT a.dO,aT a.bV,aT a.IF,aT a.SW,aT a.oF]]
noncomputable abbrev eN(m1:IM)(m2:IM)(a:tO):List iN:=[.var [iF true,fq 297,iF true,fq 298,iF false,PS (PZ NF)],.map (bE 0 m1) (MO m1),.map (bE 0 m2) (MO m2),.var [aT a.dO,aT a.bV,aT a.IF,aT a.SW,aT a.oF]]
theorem ca_b1{l:List tO}{rp:List (List Dp)}{m1 m2:IM}{i:Nat}{a:tO}(hm:∀v,am m2 a.dO=some v->0<=v/\v<(l.length:Int))(hr:ap (i:Int) (l.map MQ) a.row 5)(hq:ap (i:Int) rp [vi 1] 1)(IN:Zd ((i:Int)<((l.map MQ).length:Int))=true)(hw:MM.wrap ((i:Int)+1)=((i+1:Nat):Int)):(CW MK At [] false (sub Pg 0) (ν l rp m1 m2 i) (af (λs=>ν l rp s.1 s.2 ((i+1:Nat):Int)) caX (XB l i 1 a (m1,m2))).1 (af (λs=>ν l rp s.1 s.2 ((i+1:Nat):Int)) caX (XB l i 1 a (m1,m2))).2):=by
 cases Of:!(Zd (1>=0)&&Zd (1<=2))||Nb (am m1 a.dO)&&Nv (am m1 a.dO) 0 != 1
 ·cases TH:true&&(!Nb (am m2 a.dO)||Zd (a.bV>=(MT l (MP (Nv (am m2 a.dO) 0)) default).bV))
  ·let v0:=MT l (MP (Nv (am m2 a.dO) 0)) default
   let v1:=Nt [aT (Nv (am m1 a.dO) 0),iF (Nb (am m1 a.dO))]
   let v2:=Nt [aT (Nv (am m2 a.dO) 0),iF (Nb (am m2 a.dO))]
   refine yX {t:=DO 135 0 [(0,ab (ML MQ l)),(1,ab rp),(4,nq),(5,aT 0),(6,.ref (.ptr 0 0)),(7,.ref (.mp 1)),(8,.ref (.mp 2)),(32,ab (ML MQ l)),(33,aT (↑(MO (ML MQ l)):Int)),(34,aT (MN MM ((↑i:Int)+1)))],h:=[.var [iF true,fq 297,iF true,fq 298,iF false,PS (PZ NF)],.map (bE 0 (aV m1 a.dO 1)) (MO (aV m1 a.dO 1)),.map (bE 0 m2) (MO m2)],m:=[]} M8 [.st (.mask [0,1,4,5,6,7,8,32,33,34]),.st (.TD 3)] [.b IN,.r hr,(?_:@Eq (Option D) (aA MK (eN m1 m2 a) 168 (.ref (.mp 1)) (aT a.dO) true) (some v1)),.a1 (.ov 43 v1),.r hq,.v (@c9 1 0 2 (eN m1 m2 a)),((λhg=>hq):(!!(Zd (1>=0)&&Zd (1<=2))&&Nb (am m1 a.dO))=true->ap (↑i:Int) rp [vi 1] 1),.a1 (.row [vi 1]),.b Of,.r hq,(?_:@Eq (Option (List iN)) (aH MK (eN m1 m2 a) 168 (.ref (.mp 1)) (aT a.dO) (aT 1)) (some (f7 m1 m2 a))),pe (.ref (.ptr 3 0)),po (some (aT a.dO)),(?_:@Eq (Option D) (aA MK (f7 m1 m2 a) 168 (.ref (.mp 2)) (aT a.dO) true) (some v2)),.a1 (.oh 10063 SX (caH (aV m1 a.dO 1) m2++[.var (ML PS (MQ a))])),.a1 (.ov 74 v2),.a1 (.row [vi 1]),.r hq,(rfl:TU 1 3=true),((λhg=>hq):(true&&!!Nb (am m2 a.dO))=true->ap (↑i:Int) rp [vi 1] 1),((λhg=>rfl):(true&&!!Nb (am m2 a.dO))=true->TU 1 3=true),((λhg=>?_):(true&&!!Nb (am m2 a.dO))=true->ap (Nv (am m2 a.dO) 0) (ML MQ l) (MQ v0) 5),.a1 (.row (MQ v0)),.w (true&&!!Nb (am m2 a.dO)) (@Cu a v0 (f7 m1 m2 a)),.b TH,bi 3 (.var [iF true,fq 297,iF true,fq 298,iF false,PS (PZ NF)]),(?_:MZ 3 (.map (bE 0 (aV m1 a.dO 1)) (MO (aV m1 a.dO 1)))=true),(?_:MZ 3 (.map (bE 0 m2) (MO m2))=true)] (by subst v0 v1 v2;(have h1:iU 1 (am m1 a.dO)=false:=Of;have h2:gK l 1 a (am m2 a.dO)=false:=YJ.trans TH;simp[XB,h1,af];first|done|rfl)) (by subst v0 v1 v2;(have h1:iU 1 (am m1 a.dO)=false:=Of;have h2:gK l 1 a (am m2 a.dO)=false:=YJ.trans TH;simp only[XB,h1,h2,af,hw];first|done|rfl))<;>subst v0 v1 v2<;>(first|exact lk1 rfl|exact lk2 rfl|exact up1 rfl|exact ou|(refine bW (λ_=>rfl) ?_ ?_<;>(cases hz:am m2 a.dO<;>simp_all;done)))
  ·let v0:=MT l (MP (Nv (am m2 a.dO) 0)) default
   let v1:=Nt [aT (Nv (am m1 a.dO) 0),iF (Nb (am m1 a.dO))]
   let v2:=Nt [aT (Nv (am m2 a.dO) 0),iF (Nb (am m2 a.dO))]
   let v3:=MO (aV m1 a.dO 1)
   refine yX {t:=DO 135 0 [(0,ab (ML MQ l)),(1,ab rp),(4,nq),(5,aT 0),(6,.ref (.ptr 0 0)),(7,.ref (.mp 1)),(8,.ref (.mp 2)),(32,ab (ML MQ l)),(33,aT (↑(MO (ML MQ l)):Int)),(34,aT (MN MM ((↑i:Int)+1)))],h:=[.var [iF true,fq 297,iF true,fq 298,iF false,PS (PZ NF)],.map (bE 0 (aV m1 a.dO 1)) v3,.map (bE 0 (aV m2 a.dO (↑i:Int))) (MO (aV m2 a.dO (↑i:Int)))],m:=[]} M8 [.st (.mask [0,1,4,5,6,7,8,32,33,34]),.st (.TD 3)] [.b IN,.r hr,(?_:@Eq (Option D) (aA MK (eN m1 m2 a) 168 (.ref (.mp 1)) (aT a.dO) true) (some v1)),.a1 (.ov 43 v1),.r hq,.v (@c9 1 0 2 (eN m1 m2 a)),((λhg=>hq):(!!(Zd (1>=0)&&Zd (1<=2))&&Nb (am m1 a.dO))=true->ap (↑i:Int) rp [vi 1] 1),.a1 (.row [vi 1]),.b Of,.r hq,(?_:@Eq (Option (List iN)) (aH MK (eN m1 m2 a) 168 (.ref (.mp 1)) (aT a.dO) (aT 1)) (some (f7 m1 m2 a))),pe (.ref (.ptr 3 0)),po (some (aT a.dO)),(?_:@Eq (Option D) (aA MK (f7 m1 m2 a) 168 (.ref (.mp 2)) (aT a.dO) true) (some v2)),.a1 (.oh 10063 SX (caH (aV m1 a.dO 1) m2++[.var (ML PS (MQ a))])),.a1 (.ov 74 v2),.a1 (.row [vi 1]),.r hq,(rfl:TU 1 3=true),((λhg=>hq):(true&&!!Nb (am m2 a.dO))=true->ap (↑i:Int) rp [vi 1] 1),((λhg=>rfl):(true&&!!Nb (am m2 a.dO))=true->TU 1 3=true),((λhg=>?_):(true&&!!Nb (am m2 a.dO))=true->ap (Nv (am m2 a.dO) 0) (ML MQ l) (MQ v0) 5),.a1 (.row (MQ v0)),.w (true&&!!Nb (am m2 a.dO)) (@Cu a v0 (f7 m1 m2 a)),.b TH,(?_:@Eq (Option (List iN)) (aH MK (f7 m1 m2 a) 168 (.ref (.mp 2)) (aT a.dO) (aT (↑i:Int))) (some [.var [iF true,fq 297,iF true,fq 298,iF false,PS (PZ NF)],.map (bE 0 (aV m1 a.dO 1)) v3,.map (bE 0 (aV m2 a.dO (↑i:Int))) (MO (aV m2 a.dO (↑i:Int))),.var [aT a.dO,aT a.bV,aT a.IF,aT a.SW,aT a.oF]])),bi 3 (.var [iF true,fq 297,iF true,fq 298,iF false,PS (PZ NF)]),(?_:MZ 3 (.map (bE 0 (aV m1 a.dO 1)) v3)=true),(?_:MZ 3 (.map (bE 0 (aV m2 a.dO (↑i:Int))) (MO (aV m2 a.dO (↑i:Int))))=true),.a1 (.oh 10103 SX (caH (aV m1 a.dO 1) (aV m2 a.dO (↑i:Int))++[.var (ML PS (MQ a))]))] (by subst v0 v1 v2 v3;(have h1:iU 1 (am m1 a.dO)=false:=Of;have h2:gK l 1 a (am m2 a.dO)=true:=YJ.trans TH;simp[XB,h1,af];first|done|rfl)) (by subst v0 v1 v2 v3;(have h1:iU 1 (am m1 a.dO)=false:=Of;have h2:gK l 1 a (am m2 a.dO)=true:=YJ.trans TH;simp only[XB,h1,h2,af,hw];first|done|rfl))<;>subst v0 v1 v2 v3<;>(first|exact lk1 rfl|exact lk2 rfl|exact up1 rfl|exact up2 rfl|exact ou|(refine bW (λ_=>rfl) ?_ ?_<;>(cases hz:am m2 a.dO<;>simp_all;done)))
 ·let v0:=Nt [aT (Nv (am m1 a.dO) 0),iF (Nb (am m1 a.dO))]
  refine yX {t:=DO 135 0 [(4,nq),(5,aT 1)],h:=[],m:=[]} PL [.st (.mask [4,5]),.st (.TD 0)] [.b IN,.r hr,((by subst v0;exact lk1 rfl):@Eq (Option D) (aA MK (eN m1 m2 a) 168 (.ref (.mp 1)) (aT a.dO) true) (some v0)),.a1 (.ov 43 v0),.r hq,.v (@c9 1 0 2 (eN m1 m2 a)),((λhg=>hq):(!!(Zd (1>=0)&&Zd (1<=2))&&Nb (am m1 a.dO))=true->ap (↑i:Int) rp [vi 1] 1),.a1 (.row [vi 1]),.b Of] ?_ ?_<;>subst v0<;>(have h1:iU 1 (am m1 a.dO)=true:=Of;simp[XB,h1,af];first|done|rfl)
noncomputable abbrev jY(m1:IM)(m2:IM)(a:tO):List iN:=[.var [iF true,fq 297,iF true,fq 298,iF false,PS (PZ NF)],.map (bE 0 m1) (MO m1),.map (bE 0 m2) (MO m2),.var [aT a.dO,aT a.bV,aT a.IF,aT a.SW,aT a.oF]]
theorem ca_b2{l:List tO}{rp:List (List Dp)}{m1 m2:IM}{i:Nat}{a:tO}(hr:ap (i:Int) (l.map MQ) a.row 5)(hq:ap (i:Int) rp [vi 2] 1)(IN:Zd ((i:Int)<((l.map MQ).length:Int))=true)(hw:MM.wrap ((i:Int)+1)=((i+1:Nat):Int)):(CW MK At [] false (sub Pg 0) (ν l rp m1 m2 i) (af (λs=>ν l rp s.1 s.2 ((i+1:Nat):Int)) caX (XB l i 2 a (m1,m2))).1 (af (λs=>ν l rp s.1 s.2 ((i+1:Nat):Int)) caX (XB l i 2 a (m1,m2))).2):=by
 cases Of:!(Zd (2>=0)&&Zd (2<=2))||Nb (am m1 a.dO)&&Nv (am m1 a.dO) 0 != 2
 ·let v1:=Nt [aT (Nv (am m1 a.dO) 0),iF (Nb (am m1 a.dO))]
  let v2:=Nt [aT (Nv (am m2 a.dO) 0),iF (Nb (am m2 a.dO))]
  let v3:=MO (aV m1 a.dO 2)
  let v0:List iN:=[.var [iF true,fq 297,iF true,fq 298,iF false,PS (PZ NF)],.map (bE 0 (aV m1 a.dO 2)) v3,.map (bE 0 m2) (MO m2),.var [aT a.dO,aT a.bV,aT a.IF,aT a.SW,aT a.oF]]
  refine yX {t:=DO 135 0 [(0,ab (ML MQ l)),(1,ab rp),(4,nq),(5,aT 0),(6,.ref (.ptr 0 0)),(7,.ref (.mp 1)),(8,.ref (.mp 2)),(32,ab (ML MQ l)),(33,aT (↑(MO (ML MQ l)):Int)),(34,aT (MN MM ((↑i:Int)+1)))],h:=[.var [iF true,fq 297,iF true,fq 298,iF false,PS (PZ NF)],.map (bE 0 (aV m1 a.dO 2)) v3,.map (bE 0 m2) (MO m2)],m:=[]} M8 [.st (.mask [0,1,4,5,6,7,8,32,33,34]),.st (.TD 3)] [.b IN,.r hr,(?_:@Eq (Option D) (aA MK (jY m1 m2 a) 168 (.ref (.mp 1)) (aT a.dO) true) (some v1)),.a1 (.ov 43 v1),.r hq,.v (@c9 2 0 2 (jY m1 m2 a)),((λhg=>hq):(!!(Zd (2>=0)&&Zd (2<=2))&&Nb (am m1 a.dO))=true->ap (↑i:Int) rp [vi 2] 1),.a1 (.row [vi 2]),.b Of,.r hq,(?_:@Eq (Option (List iN)) (aH MK (jY m1 m2 a) 168 (.ref (.mp 1)) (aT a.dO) (aT 2)) (some v0)),pe (.ref (.ptr 3 0)),po (some (aT a.dO)),(?_:@Eq (Option D) (aA MK v0 168 (.ref (.mp 2)) (aT a.dO) true) (some v2)),.a1 (.oh 10063 SX (caH (aV m1 a.dO 2) m2++[.var (ML PS (MQ a))])),.a1 (.ov 74 v2),.r hq,(rfl:TU 2 3=true),.g (rfl:(false==true)=false),.g (rfl:(false==true)=false),.g (rfl:(false==true)=false),.g (rfl:false=false),.g (rfl:false=false),.g (rfl:false=false),.g (rfl:false=false),.g (rfl:false=false),.g (rfl:false=false),.g (rfl:false=false),.g (rfl:false=false),.g (rfl:false=false),.g (rfl:false=false),.g (rfl:false=false),.g (rfl:false=false),.g (rfl:false=false),.g (rfl:(false==true)=false),((bX rfl rfl):aZ (iF false) (PS (PZ (Value.tuple {toList:=[]}))) (iF false) (iF false)),.a1 (.ov 102 (iF false)),.b (rfl:false=false),bi 3 (.var [iF true,fq 297,iF true,fq 298,iF false,PS (PZ NF)]),(?_:MZ 3 (.map (bE 0 (aV m1 a.dO 2)) v3)=true),(?_:MZ 3 (.map (bE 0 m2) (MO m2))=true)] (by subst v1 v2 v3 v0;(have h1:iU 2 (am m1 a.dO)=false:=Of;have h2:gK l 2 a (am m2 a.dO)=false:=H3;simp[XB,h1,af];first|done|rfl)) (by subst v1 v2 v3 v0;(have h1:iU 2 (am m1 a.dO)=false:=Of;have h2:gK l 2 a (am m2 a.dO)=false:=H3;simp only[XB,h1,h2,af,hw];first|done|rfl))<;>subst v1 v2 v3 v0<;>(first|exact lk1 rfl|exact lk2 rfl|exact up1 rfl|exact ou)
 ·let v0:=Nt [aT (Nv (am m1 a.dO) 0),iF (Nb (am m1 a.dO))]
  refine yX {t:=DO 135 0 [(4,nq),(5,aT 1)],h:=[],m:=[]} PL [.st (.mask [4,5]),.st (.TD 0)] [.b IN,.r hr,((by subst v0;exact lk1 rfl):@Eq (Option D) (aA MK (jY m1 m2 a) 168 (.ref (.mp 1)) (aT a.dO) true) (some v0)),.a1 (.ov 43 v0),.r hq,.v (@c9 2 0 2 (jY m1 m2 a)),((λhg=>hq):(!!(Zd (2>=0)&&Zd (2<=2))&&Nb (am m1 a.dO))=true->ap (↑i:Int) rp [vi 2] 1),.a1 (.row [vi 2]),.b Of] ?_ ?_<;>subst v0<;>(have h1:iU 2 (am m1 a.dO)=true:=Of;simp[XB,h1,af];first|done|rfl)
noncomputable abbrev yO(m1:IM)(m2:IM)(a:tO):List iN:=[.var [iF true,fq 297,iF true,fq 298,iF false,PS (PZ NF)],.map (bE 0 m1) (MO m1),.map (bE 0 m2) (MO m2),.var [aT a.dO,aT a.bV,aT a.IF,aT a.SW,aT a.oF]]
theorem ca_bX{l:List tO}{rp:List (List Dp)}{m1 m2:IM}{i:Nat}{a:tO}{r:Int}(hx:(!(Zd (r>=0)&&Zd (r<=2))||Nb (am m1 a.dO)&&Nv (am m1 a.dO) 0 != r)=true)(hr:ap (i:Int) (l.map MQ) a.row 5)(hq:ap (i:Int) rp [vi r] 1)(IN:Zd ((i:Int)<((l.map MQ).length:Int))=true)(hw:MM.wrap ((i:Int)+1)=((i+1:Nat):Int)):(CW MK At [] false (sub Pg 0) (ν l rp m1 m2 i) (af (λs=>ν l rp s.1 s.2 ((i+1:Nat):Int)) caX (XB l i r a (m1,m2))).1 (af (λs=>ν l rp s.1 s.2 ((i+1:Nat):Int)) caX (XB l i r a (m1,m2))).2):=by
 let v0:=Nt [aT (Nv (am m1 a.dO) 0),iF (Nb (am m1 a.dO))]
 refine yX {t:=DO 135 0 [(4,nq),(5,aT 1)],h:=[],m:=[]} PL [.st (.mask [4,5]),.st (.TD 0)] [.b IN,.r hr,((by subst v0;exact lk1 rfl):@Eq (Option D) (aA MK (yO m1 m2 a) 168 (.ref (.mp 1)) (aT a.dO) true) (some v0)),.a1 (.ov 43 v0),.r hq,.v (@c9 r 0 2 (yO m1 m2 a)),((λhg=>hq):(!!(Zd (r>=0)&&Zd (r<=2))&&Nb (am m1 a.dO))=true->ap (↑i:Int) rp [vi r] 1),.a1 (.row [vi r]),.b hx] ?_ ?_<;>subst v0<;>((have h1:iU r (am m1 a.dO)=true:=hx);simp[XB,h1,af];done)
theorem Mk{l:List tO}{rp:List (List Dp)}{m1 m2:IM}{i:Nat}(IN:Zd ((i:Int)<((l.map MQ).length:Int))=false):(CW MK At [] false (sub Pg 0) (ν l rp m1 m2 i) (.exit 0) {t:=DO 135 0 [(0,ab (l.map MQ)),(4,t7),(5,aT 0),(8,.ref (.mp 2))],h:=caH m1 m2,m:=[]}):=by
 exact yx [.st (.mask [0,4,5,8])] [.b IN]
abbrev CaE:=(tO×Int)×Nat
def caE(l:List tO)(e:CaE)(s:IM×IM):(IM×IM)⊕Unit:=XB l (e.2:Int) e.1.2 e.1.1 s
def caL(l:List tO)(rp:List Int):List CaE:=(l.zip rp).zipIdx
abbrev caZ(l:List tO)(s:IM×IM):AS:={t:=DO 135 0 [(0,ab (l.map MQ)),(4,t7),(5,aT 0),(8,.ref (.mp 2))],h:=caH s.1 s.2,m:=[]}
def Ml(l:List tO)(rp:List Int):Exit×AS:=bu (.exit 0) (caZ l) caX (Tq (caE l) (caL l rp) ([],[]))
theorem ca_cw{l:List tO}(hl:ah l){rp:List Int}(hr:rp.length=l.length):
  CW MK At [] false (.loop (sub Pg 0)) (ν l (rp.map λn=>[vi n]) [] [] 0) (Ml l rp).1 (Ml l rp).2:=by
 have hlen:(caL l rp).length=l.length:=by simp[caL,hr]
 have:=CW.each (P:=MK) (Γ:=At) (h0:=[]) (rd:=false) (c:=sub Pg 0) (caL l rp) (caE l) (λi s=>ν l (rp.map λn=>[vi n]) s.1 s.2 (i:Int)) (.exit 0) (caZ l) caX
  (λ_ s=>∀c v,am s.2 c=some v->0<=v/\v<(l.length:Int)) (by simp) (λ_=>by simp) ?_ ?_ ([],[]) (by grind [am])
 ·exact this
 ·rintro i ⟨⟨a,r⟩,n⟩ ⟨m1,m2⟩ hp hinv
  obtain⟨hi,he⟩:=MR.1 hp
  rw[hlen] at hi
  have Ι:i<rp.length:=by omega
  have e1:n=i/\a=l[i]/\r=rp[i]:=by
   have e2:=he.symm
   simp[caL] at e2
   obtain⟨⟨x1,x2⟩,x3⟩:=e2
   exact⟨x3,x1,x2⟩
  obtain⟨rfl,ha,Y5⟩:=e1
  have h1:l[n]? = some a:=by rw[ha];exact Nh hi
  have h2:rp[n]? = some r:=by rw[Y5];exact Nh Ι
  have q1:=rowAt (row:=MQ) (sz:=5) h1 rfl
  have q2:=rowAt (row:=λn:Int=>[vi n]) (sz:=1) h2 rfl
  have q3:=TG MQ hi
  have q4:=T4 hi hl
  refine⟨λs' h=>?_,?_⟩
  ·grind [caE,XB,Sum.inl.injEq,Cr,Option.some.injEq]
  ·simp only[caE]
   by_cases hb:(!(Zd (r>=0)&&Zd (r<=2)))=true
   ·exact ca_bX (by rw[hb];rfl) q1 q2 q3 q4
   ·have:r=0\/r=1\/r=2:=by simp at hb;omega
    rcases this with h0|h0|h0
    ·rw[h0] at q2 ⊢;exact ca_b0 (λv hv=>hinv _ v hv) q1 q2 q3 q4
    ·rw[h0] at q2 ⊢;exact ca_b1 (λv hv=>hinv _ v hv) q1 q2 q3 q4
    ·rw[h0] at q2 ⊢;exact ca_b2 q1 q2 q3 q4
 ·rintro⟨m1,m2⟩ _
  rw[hlen]
  exact Mk (be MQ l)
abbrev cgH(m1 m2:IM)(out:List tO):List iN:=[.var Cv,Zt m1,Zt m2,.bY (ad (out.map MQ)) 0 5]
abbrev cgS(l:List tO)(m1 m2:IM)(out:List tO)(i:Int):AS :=
 {t:=DO 135 0 [(4,.ref (.bY 3 0)),(5,aT 0),(8,.ref (.mp 2)),(108,ab (l.map MQ)),(109,aT (l.map MQ).length),(110,aT i)],h:=cgH m1 m2 out,m:=[]}
def Mm(m2:IM)(i:Nat)(a:tO):Bool:=!(am m2 a.dO).isSome||((am m2 a.dO).getD 0==(i:Int))
def cgF(m2:IM)(e:tO×Nat)(out:List tO):List tO:=bif Mm m2 e.2 e.1 then out++[e.1] else out
theorem Mn{l:List tO}{m1 m2:IM}{out:List tO}{i:Nat}{a:tO}(hr:ap (i:Int) (l.map MQ) a.row 5)(IN:Zd ((i:Int)<((l.map MQ).length:Int))=true)(hw:MM.wrap ((i:Int)+1)=((i+1:Nat):Int))(ho:out.length<=1000000000):(CW MK At [] false (sub Pg 1) (cgS l m1 m2 out i) .normal (cgS l m1 m2 (cgF m2 (a,i) out) ((i+1:Nat):Int))):=by
 cases Of:!Nb (am m2 a.dO)||Nv (am m2 a.dO) 0==(↑i:Int)
 ·let v0:=Nt [aT (Nv (am m2 a.dO) 0),iF (Nb (am m2 a.dO))]
  refine yX {t:=DO 135 0 [(4,.ref (.bY 3 0)),(5,aT 0),(8,.ref (.mp 2)),(108,ab (ML MQ l)),(109,aT (↑(MO (ML MQ l)):Int)),(110,aT (MN MM ((↑i:Int)+1)))],h:=[.var [iF true,fq 297,iF true,fq 298,iF false,PS (PZ NF)],.map (bE 0 m1) (MO m1),.map (bE 0 m2) (MO m2),.bY (ad (ML MQ out)) 0 5],m:=[]} M8 [.st (.mask [4,5,8,108,109,110]),.st (.Vz 3 0),.st (.TD 4)] [.b IN,.r hr,(?_:@Eq (Option D) (aA MK [.var [iF true,fq 297,iF true,fq 298,iF false,PS (PZ NF)],.map (bE 0 m1) (MO m1),.map (bE 0 m2) (MO m2),.bY (ad (ML MQ out)) 0 5,.var [aT a.dO,aT a.bV,aT a.IF,aT a.SW,aT a.oF]] 168 (.ref (.mp 2)) (aT a.dO) true) (some v0)),.a1 (.ov 119 v0),.b Of,(?_:ML (Nm (ax 3 0 0)) (ad (ML MQ out))=ad (ML MQ out)),(?_:ML (λe=>(NA (ax 3 0 0) e.fst,NA (ax 3 0 0) e.2.fst,e.2.2)) (bE 0 m1)=bE 0 m1),(?_:ML (λe=>(NA (ax 3 0 0) e.fst,NA (ax 3 0 0) e.2.fst,e.2.2)) (bE 0 m2)=bE 0 m2),(rfl:MZ 4 (match 0==3 with|true=>.bY (ad (ML MQ out)) 0 5|false=>ST (ax 3 0 0) (.var [iF true,fq 297,iF true,fq 298,iF false,PS (PZ NF)]))=true),(?_:MZ 4 (match 0+1==3 with|true=>.bY (ad (ML MQ out)) 0 5|false=>ST (ax 3 0 0) (.map (bE 0 m1) (MO m1)))=true),(?_:MZ 4 (match 0+1+1==3 with|true=>.bY (ad (ML MQ out)) 0 5|false=>ST (ax 3 0 0) (.map (bE 0 m2) (MO m2)))=true),(?_:MZ 4 (match 0+1+1+1==3 with|true=>.bY (ad (ML MQ out)) 0 5|false=>ST (ax 3 0 0) (.bY (ad (ML MQ out)) 0 5))=true)] (by subst v0;grind) (by subst v0;(have hh:Mm m2 i a=false:=Of;simp only[cgF,hh,cond_false,hw];first|done|rfl))<;>subst v0<;>(first|exact lk2 rfl|exact ou|exact aX _ _|exact b9|exact sc _ _ _)
 ·let v0:List D:=[aT a.dO,aT a.bV,aT a.IF,aT a.SW,aT a.oF]
  let v1:=Nt [aT (Nv (am m2 a.dO) 0),iF (Nb (am m2 a.dO))]
  refine yX {t:=DO 135 0 [(4,.ref (.bY 3 0)),(5,aT 0),(8,.ref (.mp 2)),(108,ab (ML MQ l)),(109,aT (↑(MO (ML MQ l)):Int)),(110,aT (MN MM ((↑i:Int)+1)))],h:=[.var [iF true,fq 297,iF true,fq 298,iF false,PS (PZ NF)],.map (bE 0 m1) (MO m1),.map (bE 0 m2) (MO m2),.bY (ad (ML MQ out)++[v0]) 0 5],m:=[]} M8 [.st (.mask [4,5,8,108,109,110]),.st (.Vz 3 0),.st (.TD 4)] [.b IN,.r hr,(?_:@Eq (Option D) (aA MK [.var [iF true,fq 297,iF true,fq 298,iF false,PS (PZ NF)],.map (bE 0 m1) (MO m1),.map (bE 0 m2) (MO m2),.bY (ad (ML MQ out)) 0 5,.var v0] 168 (.ref (.mp 2)) (aT a.dO) true) (some v1)),.a1 (.ov 119 v1),.b Of,(?_:(List.all [v0] (bf 5)&&Tw (MO (ad (ML MQ out))+MO [v0]) 40)=true),(?_:ML (Nm (ax 3 1 0)) (ad (ML MQ out)++[v0])=ad (ML MQ out)++[v0]),(?_:ML (λe=>(NA (ax 3 1 0) e.fst,NA (ax 3 1 0) e.2.fst,e.2.2)) (bE 0 m1)=bE 0 m1),(?_:ML (λe=>(NA (ax 3 1 0) e.fst,NA (ax 3 1 0) e.2.fst,e.2.2)) (bE 0 m2)=bE 0 m2),pr [v0],(rfl:MZ 4 (match 0==3 with|true=>.bY (ad (ML MQ out)++[v0]) 0 5|false=>ST (ax 3 1 0) (.var [iF true,fq 297,iF true,fq 298,iF false,PS (PZ NF)]))=true),(?_:MZ 4 (match 0+1==3 with|true=>.bY (ad (ML MQ out)++[v0]) 0 5|false=>ST (ax 3 1 0) (.map (bE 0 m1) (MO m1)))=true),(?_:MZ 4 (match 0+1+1==3 with|true=>.bY (ad (ML MQ out)++[v0]) 0 5|false=>ST (ax 3 1 0) (.map (bE 0 m2) (MO m2)))=true),(?_:MZ 4 (match 0+1+1+1==3 with|true=>.bY (ad (ML MQ out)++[v0]) 0 5|false=>ST (ax 3 1 0) (.bY (ad (ML MQ out)++[v0]) 1 5))=true)] (by subst v0 v1;grind) (by subst v0 v1;(have hh:Mm m2 i a=true:=Of;simp only[cgF,hh,cond_true,hw,sa];first|done|rfl))<;>subst v0 v1<;>(first|exact lk2 rfl|exact ou|exact sc _ _ _|(rw[sa];exact aX _ _)|(rw[sa];exact b9)|(simp[bf,D.one,Value.oneCell',Tw];omega))
theorem Mo{l:List tO}{m1 m2:IM}{out:List tO}{i:Nat}(IN:Zd ((i:Int)<((l.map MQ).length:Int))=false):(CW MK At [] false (sub Pg 1) (cgS l m1 m2 out i) (.exit 2) {t:=DO 135 0 [(4,.ref (.bY 3 0)),(5,aT 0)],h:=cgH m1 m2 out,m:=[]}):=by
 exact yx [.st (.mask [4,5])] [.b IN]
def wM(l:List tO)(m2:IM):List tO:=l.zipIdx.foldl (λout e=>cgF m2 e out) []
theorem cg_cw{l:List tO}(hl:l.length<=900000000){m1 m2:IM}:
  CW MK At [] false (.loop (sub Pg 1)) (cgS l m1 m2 [] 0) (.exit 2) {t:=DO 135 0 [(4,.ref (.bY 3 0)),(5,aT 0)],h:=cgH m1 m2 (wM l m2),m:=[]}:=by
 have hs:ah l:=by unfold ah;omega
 have:=CW.each (P:=MK) (Γ:=At) (h0:=[]) (rd:=false) (c:=sub Pg 1) (σ:=List tO) (ρ:=Empty) l.zipIdx (λe out=>.inl (cgF m2 e out))
  (λi out=>cgS l m1 m2 out (i:Int)) (.exit 2) (λout=>{t:=DO 135 0 [(4,.ref (.bY 3 0)),(5,aT 0)],h:=cgH m1 m2 out,m:=[]}) (λr=>r.elim)
  (λi out=>out.length<=i) (by simp) (λr=>r.elim) ?_ ?_ [] (by simp)
 ·rw[aP (λout e=>cgF m2 e out)] at this
  exact this
 ·rintro i ⟨a,n⟩ out hp hout
  obtain⟨hi,he⟩:=MR.1 hp
  simp at hi
  have e1:a=l[i]/\n=i:=by simpa[eq_comm] using he.symm
  obtain⟨ha,rfl⟩:=e1
  have h1:l[n]? = some a:=by rw[ha];exact Nh hi
  refine⟨λs' h=>?_,Mn (rowAt h1 rfl) (TG MQ hi) (T4 hi hs) (by omega)⟩
  grind [cgF]
 ·intro out _
  rw[List.length_zipIdx]
  exact Mo (be MQ l)
def caR(l:List tO)(rp:List Int):(IM×IM)⊕Unit:=Tq (caE l) (caL l rp) ([],[])
theorem yP{l:List tO}{rp:List Int}:Ml l rp=bu (.exit 0) (caZ l) caX (caR l rp):=rfl
def qH(l:List tO)(rp:List Int):List tO×Int :=
 bif Zd (eW l=0) then (bif Zd (rp.length=l.length) then (match caR l rp with | .inl s=>(wM l s.2,0) | .inr _=>([],1)) else ([],1)) else ([],eW l)
theorem GQ{l:List tO}{rp:List Int}(h:(eW l != 0)=true):qH l rp=([],eW l):=by
 have h':eW l≠0:=by simpa using h
 simp[qH,h']
theorem GR{l:List tO}{rp:List Int}(h1:(eW l != 0)=false)(h2:rp.length≠l.length):qH l rp=([],1):=by
 have h':eW l=0:=by simpa using h1
 simp[qH,h',h2]
theorem GS{l:List tO}{rp:List Int}(h1:(eW l != 0)=false)(h2:rp.length=l.length){u:Unit}(h3:caR l rp=.inr u):qH l rp=([],1):=by
 have h':eW l=0:=by simpa using h1
 simp[qH,h',h2,h3]
theorem Mp{l:List tO}{rp:List Int}(h1:(eW l != 0)=false)(h2:rp.length=l.length){s:IM×IM}(h3:caR l rp=.inl s):qH l rp=(wM l s.2,0):=by
 have h':eW l=0:=by simpa using h1
 simp[qH,h',h2,h3]
theorem len_ne{l:List tO}{rp:List Int}(h2:rp.length≠l.length):(((rp.map λn=>[vi n]).length:Int) != ((l.map MQ).length:Int))=true:=by
 simp;omega
theorem H4{l:List tO}{rp:List Int}(h2:rp.length=l.length):(((rp.map λn=>[vi n]).length:Int) != ((l.map MQ).length:Int))=false:=by
 simp;omega
theorem GT(b n:Nat)(rows:List (List Dp))(m:IM)(k:Nat):(bE k m).map (λe=>(NA (ed b n rows) e.1,NA (ed b n rows) e.2.1,e.2.2))=bE k m:=by
 induction m generalizing k with
 | nil=>rfl
 | cons e m ih=>simp only[bE,List.map_cons,ih];rfl
theorem cnt_e1{l:List tO}{rp:List Int}(hs:ah l)(hz:(eW l != 0)=true)(h:List iN):(Ev MK At 166 [ab (l.map MQ),ab (rp.map λn=>[vi n])] h (.Tt [ab [],aT (eW l)]) h):=by
 exact Na (OL (y0 (d:=Nt [nq,aT (eW l)]) [.v (@dN l hs ([])),.b hz] h)) (by rfl) (by rfl)
theorem cnt_e2{l:List tO}{rp:List Int}(hs:ah l)(hz:(eW l != 0)=false)(UQ:(((rp.map λn=>[vi n]).length:Int) != ((l.map MQ).length:Int))=true)(h:List iN):(Ev MK At 166 [ab (l.map MQ),ab (rp.map λn=>[vi n])] h (.Tt [ab [],aT 1]) h):=by
 exact Na (OL (y0 (d:=Nt [nq,aT 1]) [.v (@dN l hs ([])),.b hz,.b UQ] h)) (by rfl) (by rfl)
theorem aErr0{l:List tO}(hz:(eW l != 0)=false):eW l=0:=by simpa using hz
abbrev caS2(l:List tO)(rp:List (List Dp))(z:Int):AS :=
 {t:=DO 135 0 [(0,ab (l.map MQ)),(1,ab rp),(4,t7),(5,aT z),(6,.ref (.ptr 0 0)),(7,.ref (.mp 1)),(8,.ref (.mp 2)),(32,ab (l.map MQ)),(33,aT (l.map MQ).length),(34,aT 0)],h:=caH [] [],m:=[]}
theorem DG{l:List tO}(hs:ah l){rp:List Int}(hr:rp.length=l.length){u:Unit}(hc:caR l rp=.inr u)(hz:(eW l != 0)=false):
  CW MK At [] false (.loop (sub Pg 0)) (caS2 l (rp.map λn=>[vi n]) (eW l)) .ret {t:=DO 135 0 [(4,t7),(5,aT 1)],h:=[],m:=[]}:=by
 have:=ca_cw hs hr
 rw[yP,hc] at this
 rw[aErr0 hz]
 exact this
theorem cnt_e3{l:List tO}{rp:List Int}(hs:ah l)(hr:rp.length=l.length){u:Unit}(hc:caR l rp=.inr u)(hz:(eW l != 0)=false)(UQ:(((rp.map λn=>[vi n]).length:Int) != ((l.map MQ).length:Int))=false)(h:List iN):(Ev MK At 166 [ab (l.map MQ),ab (rp.map λn=>[vi n])] h (.Tt [ab [],aT 1]) h):=by
 have Tv:=(@DG (l) (hs) (rp) (hr) (u) (hc) (hz))
 exact Na (OL (y0 (d:=Nt [nq,aT 1]) [.v (@dN l hs ([])),.b hz,.b UQ,.v (@yb ([])),.s [0,1,4,5,6,7,8,32,33,34] Tv] h)) (by rfl) (by rfl)
theorem GU{l:List tO}(hs:ah l){rp:List Int}(hr:rp.length=l.length){m1 m2:IM}(hc:caR l rp=.inl (m1,m2))(hz:(eW l != 0)=false):
  CW MK At [] false (.loop (sub Pg 0)) (caS2 l (rp.map λn=>[vi n]) (eW l)) (.exit 0) (caZ l (m1,m2)):=by
 have:=ca_cw hs hr
 rw[yP,hc] at this
 rw[aErr0 hz]
 exact this
theorem cnt_ok{l:List tO}{rp:List Int}(hs:ah l)(hl:l.length<=900000000)(hr:rp.length=l.length){m1 m2:IM}(hc:caR l rp=.inl (m1,m2))(hz:(eW l != 0)=false)(UQ:(((rp.map λn=>[vi n]).length:Int) != ((l.map MQ).length:Int))=false)(h:List iN):(Ev MK At 166 [ab (l.map MQ),ab (rp.map λn=>[vi n])] h (.Tt [ab ((wM l m2).map MQ),aT 0]) h):=by
 have Tv:=(@GU (l) (hs) (rp) (hr) (m1) (m2) (hc) (hz))
 have W1:=(@cg_cw (l) (hl) (m1) (m2))
 let v0:=ML MQ (wM l m2)
 refine Na (OL (y0 (d:=Nt [ab v0,aT 0]) [.v (@dN l hs ([])),.b hz,.b UQ,.v (@yb ([])),.s [0,1,4,5,6,7,8,32,33,34] Tv,.n 1,.o (.ZN 4 5),.s [4,5,8,108,109,110] W1,((by subst v0;grind):ad v0=ML (λx=>ML PS x) v0),(?_:ML (λe=>(NA (ed 3 0 v0) e.fst,NA (ed 3 0 v0) e.2.fst,e.2.2)) (bE 0 m1)=bE 0 m1),(?_:ML (λe=>(NA (ed 3 0 v0) e.fst,NA (ed 3 0 v0) e.2.fst,e.2.2)) (bE 0 m2)=bE 0 m2),.o (.mask [4,5]),.o (.Vw 3 v0),.o (.TD 0)] h)) (by rfl) (by rfl)<;>subst v0<;>(exact GT _ _ _ _ _)
theorem cnt_ev{l:List tO}(hl:l.length<=900000000){rp:List Int}(h:List iN):Ev MK At 166 [ab (l.map MQ),ab (rp.map λn=>[vi n])] h (.Tt [ab ((qH l rp).1.map MQ),aT (qH l rp).2]) h:=by
 have hs:ah l:=by unfold ah;omega
 cases hz:(eW l != 0)
 ·by_cases hr:rp.length=l.length
  ·cases hc:caR l rp with
   | inl s=>obtain⟨m1,m2⟩:=s;rw[Mp hz hr hc];exact cnt_ok hs hl hr hc hz (H4 hr) h
   | inr u=>rw[GS hz hr hc];exact cnt_e3 hs hr hc hz (H4 hr) h
  ·rw[GR hz hr];exact cnt_e2 hs hz (len_ne hr) h
 ·rw[GQ hz];exact cnt_e1 hs hz h
abbrev XV(xs:List Int):List (List D):=ad (xs.map λn=>[vi n])
abbrev cvS(w:iS)(bv bV:Int)(as_:List (List Dp))(rs:List BY)(xs:List Int)(i:Int):AS :=
 {t:=DO 36 0 [(0,.ref (.ptr 0 0)),(1,ab as_),(2,aT bV),(8,.ref (.bY 2 0)),(14,ab as_),(15,aT as_.length),(16,aT i)],h:=VF w bv rs 1++[.bY (XV xs) 0 1],m:=[]}
theorem GV{h:List iN}{xs:List Int}{i:Nat}{v:Int}(hb:h[2]? = some (.bY (XV xs) 0 1))(hi:i<xs.length):aN MK h 3 (.ref (.vp 2 0 (MP (i:Int)) 0)) (aT v)=some (h.set 2 (.bY (XV (xs.set i v)) 0 1)):=by
 have e1:(XV xs)[MP (i:Int)]? = some [aT xs[i]]:=by simp[ad,hi]
 have e2:U2 MK 3=some 1:=by kernel_rfl
 have e3:(XV xs).set (MP (i:Int)) [aT v]=XV (xs.set i v):=by simp[ad,List.map_set]
 unfold aN
 simp only[aT,D.cells,e2,hb,e1]
 rw[<-e3]
 rfl
theorem cv_inR{xs:List Int}{i:Nat}(hi:i<xs.length):TU (i:Int) (XV xs).length=true:=by
 simp[TU,ad];omega
noncomputable abbrev qI(w:iS)(bv:Int)(bV:Int)(a:tO)(rs:List BY)(xs:List Int):List iN:=[.var [.ref (.bY 1 2),ab (ML MX w.c),ab w.p,ab (ML M4 w.s),ab (ML MY w.f),aT bv],.bY (ad (M2 (rs++Vm 1 a.dO 0 bV))) 2 5,.bY (XV xs) 0 1,.var [aT a.dO,aT a.bV,aT a.IF,aT a.SW,aT a.oF]]
theorem Mq{w:iS}(hw:w.ok){bv bV:Int}{as_:List (List Dp)}{a:tO}{rs0 rs:List BY}{xs:List Int}{i:Nat}(hi:i<xs.length)(hr:ap (i:Int) as_ a.row 5)(IN:Zd ((i:Int)<(as_.length:Int))=true)(Yr:MM.wrap ((i:Int)+1)=((i+1:Nat):Int))(hb:rs.length<=999998000):(CW MK Or (VF w bv rs0 0) false (sub SY 0) (cvS w bv bV as_ rs xs i) .normal (cvS w bv bV as_ (rs++Vm 1 a.dO 0 bV) (xs.set i (ac w a.dO bV bv).1.rep) ((i+1:Nat):Int))):=by
 let v0:=List.set xs i (ac w a.dO bV bv).fst.rep
 let v1:List D:=[.ref (.bY 1 1),ab (ML MX w.c),ab w.p,ab (ML M4 w.s),ab (ML MY w.f),aT bv]
 let v2:List D:=[.ref (.bY 1 2),ab (ML MX w.c),ab w.p,ab (ML M4 w.s),ab (ML MY w.f),aT bv]
 let v3:List D:=[aT a.dO,aT a.bV,aT a.IF,aT a.SW,aT a.oF]
 refine yX {t:=DO 36 0 [(0,.ref (.ptr 0 0)),(1,ab as_),(2,aT bV),(8,.ref (.bY 2 0)),(14,ab as_),(15,aT (↑(MO as_):Int)),(16,aT (MN MM ((↑i:Int)+1)))],h:=[.var v1,.bY (ad (M2 (rs++Vm 1 a.dO 0 bV))) 1 5,.bY (XV v0) 0 1],m:=[]} M8 [.st (.mask [0,1,2,8,14,15,16]),.st (.Vz 1 1),.st (.TD 3)] [.b IN,.r hr,.c ((fX [0,1] (Ev.upX [0,1] (@oj w hw bv (a.dO) bV rs (by subst v0 v1 v2 v3;grind)) (by kernel_rfl) ⟨(by subst v0 v1 v2 v3;exact ak _ _),trivial⟩ ⟨(by subst v0 v1 v2 v3;exact ak _ _),trivial⟩) ⟨(by subst v0 v1 v2 v3;exact ak _ _),trivial⟩ ⟨(by subst v0 v1 v2 v3;exact ak _ _),trivial⟩):Ev MK Or 163 [.ref (.ptr 0 0),aT a.dO,aT bV] [.var v1,.bY (ad (M2 rs)) 1 5,.bY (XV xs) 0 1,.var v3] (Nk [aq (ac w a.dO bV bv).fst.name,aT (ac w a.dO bV bv).fst.number,aT (ac w a.dO bV bv).fst.oF,aT (ac w a.dO bV bv).fst.rep,aT (M1 (ac w a.dO bV bv).fst.T0).op,aT (M1 (ac w a.dO bV bv).fst.T0).c,aq (M1 (ac w a.dO bV bv).fst.T0).nm,aT (M1 (ac w a.dO bV bv).fst.T0).n,aT (M1 (ac w a.dO bV bv).fst.T0).d,ab (M1 (ac w a.dO bV bv).fst.T0).ks,aT (M1 (ac w a.dO bV bv).fst.TM).op,aT (M1 (ac w a.dO bV bv).fst.TM).c,aq (M1 (ac w a.dO bV bv).fst.TM).nm,aT (M1 (ac w a.dO bV bv).fst.TM).n,aT (M1 (ac w a.dO bV bv).fst.TM).d,ab (M1 (ac w a.dO bV bv).fst.TM).ks]) (qI w bv bV a rs xs)),(?_:TU (↑i:Int) (MO (XV xs))=true),(?_:@Eq (Option (List iN)) (aN MK (qI w bv bV a rs xs) 3 (.ref (.vp 2 0 (MP (↑i:Int)) 0)) (aT (ac w a.dO bV bv).fst.rep)) (some [.var v2,.bY (ad (M2 (rs++Vm 1 a.dO 0 bV))) 2 5,.bY (XV v0) 0 1,.var v3])),(vM (M2 (rs++Vm 1 a.dO 0 bV)) 1 2 1),(?_:ML (Nm (ax 1 2 1)) (XV v0)=XV v0),(rfl:MZ 3 (match 0==1 with|true=>.bY (ad (M2 (rs++Vm 1 a.dO 0 bV))) 1 5|false=>ST (ax 1 2 1) (.var v2))=true),(iV 3 (M2 (rs++Vm 1 a.dO 0 bV)) 1 5),(?_:MZ 3 (match 0+1+1==1 with|true=>.bY (ad (M2 (rs++Vm 1 a.dO 0 bV))) 1 5|false=>ST (ax 1 2 1) (.bY (XV v0) 0 1))=true),.a1 (.oh 10029 SX (VF w bv (rs++Vm 1 a.dO 0 bV) 2++[.bY (XV v0) 0 1,.var (ML PS (MQ a))]))] (by subst v0 v1 v2 v3;grind) (by subst v0 v1 v2 v3;grind)<;>subst v0 v1 v2 v3<;>(first|exact GV rfl hi|exact cv_inR hi|exact aX _ _|exact b9)
theorem Mr{w:iS}{bv bV:Int}{as_:List (List Dp)}{rs0 rs:List BY}{xs:List Int}{i:Nat}(IN:Zd ((i:Int)<(as_.length:Int))=false):(CW MK Or (VF w bv rs0 0) false (sub SY 0) (cvS w bv bV as_ rs xs i) (.exit 0) {t:=DO 36 0 [(1,ab as_),(8,.ref (.bY 2 0))],h:=VF w bv rs 1++[.bY (XV xs) 0 1],m:=[]}):=by
 exact yx [.st (.mask [1,8])] [.b IN]
def pk(w:iS)(bv bV:Int)(l:List tO):List Int:=l.map λa=>(ac w a.dO bV bv).1.rep
def qJ(bV:Int)(l:List tO):List BY:=l.flatMap λa=>Vm 1 a.dO 0 bV
theorem sA(bV:Int):∀l:List tO,(qJ bV l).length<=l.length
 | []=>by simp[qJ]
 | a::l=>by have:=sA bV l;have:=fV 1 a.dO 0 bV;grind[qJ,List.length_append,List.length_cons]
theorem Ms{f:tO->Int}{l:List tO}{i:Nat}{a:tO}(hi:i<l.length)(ha:l[i]? = some a):((l.take i).map f++MU (l.length-i) 0).set i (f a)=(l.take (i+1)).map f++MU (l.length-(i+1)) 0:=by
 have e1:l.length-i=(l.length-(i+1))+1:=by omega
 rw[List.set_append_right _ _ (by simp;omega),List.take_add_one,ha,e1,List.replicate_succ]
 have:i-((l.take i).map f).length=0:=by simp;omega
 grind
theorem cv_cw{w:iS}(hw:w.ok){bv bV:Int}{l:List tO}(hl:l.length<=90000000){rs0 rs:List BY}(hb:rs.length<=900000000){V:List (List D)}(hV:V=XV (MU l.length 0)):
  CW MK Or (VF w bv rs0 0) false (.loop (sub SY 0)) {t:=DO 36 0 [(0,.ref (.ptr 0 0)),(1,ab (l.map MQ)),(2,aT bV),(8,.ref (.bY 2 0)),(14,ab (l.map MQ)),(15,aT (l.map MQ).length),(16,aT 0)],h:=VF w bv rs 1++[.bY V 0 1],m:=[]} (.exit 0) {t:=DO 36 0 [(1,ab (l.map MQ)),(8,.ref (.bY 2 0))],h:=VF w bv (rs++qJ bV l) 1++[.bY (XV (pk w bv bV l)) 0 1],m:=[]}:=by
 subst hV
 have hs:ah l:=by unfold ah;omega
 have:=CW.Z8 (P:=MK) (Γ:=Or) (h0:=VF w bv rs0 0) (rd:=false) (c:=sub SY 0) l.length
  (λi=>cvS w bv bV (l.map MQ) (rs++qJ bV (l.take i)) ((l.take i).map (λa=>(ac w a.dO bV bv).1.rep)++MU (l.length-i) 0) (i:Int)) (e:=.exit 0) (s':={t:=DO 36 0 [(1,ab (l.map MQ)),(8,.ref (.bY 2 0))],h:=VF w bv (rs++qJ bV l) 1++[.bY (XV (pk w bv bV l)) 0 1],m:=[]}) (by simp) ?_ ?_
 ·have e0:rs++qJ bV (l.take 0)=rs:=by simp[qJ]
  grind
 ·intro i hi
  have ha:l[i]? = some l[i]:=Nh hi
  have key:=Mq hw (bv:=bv) (bV:=bV) (rs0:=rs0) (rs:=rs++qJ bV (l.take i)) (xs:=(l.take i).map (λa=>(ac w a.dO bV bv).1.rep)++MU (l.length-i) 0) (i:=i) (by simp;omega) (rowAt ha rfl) (TG MQ hi) (T4 hi hs) (by have:=sA bV (l.take i);grind)
  rw[Ms (f:=λa=>(ac w a.dO bV bv).1.rep) hi ha] at key
  have e2:qJ bV (l.take (i+1))=qJ bV (l.take i)++Vm 1 l[i].dO 0 bV:=by
   unfold qJ;rw[List.take_add_one,ha,Option.toList_some,List.flatMap_append,List.flatMap_singleton]
  grind
 ·have:=Mr (w:=w) (bv:=bv) (bV:=bV) (as_:=l.map MQ) (rs0:=rs0) (rs:=rs++qJ bV l) (xs:=pk w bv bV l) (i:=l.length) (be MQ l)
  have e3:l.map (λa=>(ac w a.dO bV bv).1.rep)++MU (l.length-l.length) 0=pk w bv bV l:=by simp[pk]
  grind
theorem makeV(l:List tO):MU (MP ((l.map MQ).length:Int)) [aT 0]=XV (MU l.length 0):=by simp[ad]
theorem DH(f:Ref->D)(n:Nat):(MU n [aT 0]).map (Nm f)=MU n [aT 0]:=by rw[List.map_replicate];rfl
theorem Mt(xs:List Int):XV xs=(xs.map λn=>[vi n]).map (ML PS):=by simp[ad]
noncomputable abbrev oM(w:iS)(bv:Int)(bV:Int)(l:List tO)(rs:List BY):List iN:=[.var [.ref (.bY 1 1),ab (ML MX w.c),ab w.p,ab (ML M4 w.s),ab (ML MY w.f),aT bv],.bY (ad (M2 (rs++qJ bV l))) 1 5]
theorem GW{w:iS}(hw:w.ok){bv bV:Int}{l:List tO}(hl:l.length<=90000000){rs:List BY}(hb:rs.length<=900000000):(Ev MK Or 92 [.ref (.ptr 0 0),ab (l.map MQ),aT bV] (VF w bv rs 0) (.Tt [ab ((qH l (pk w bv bV l)).1.map MQ),aT (qH l (pk w bv bV l)).2]) (VF w bv (rs++qJ bV l) 1)):=by
 have Tv:=(@cv_cw (w) (hw) (bv) (bV) (l) (hl) (rs) (rs) (hb) (MU (MP (↑(MO (ML MQ l)):Int)) (ML lit (RS (Value.int MM 0)).toList)) (by first|assumption|rfl|omega|exact makeV _|exact DH _ _|exact Mt _|exact aX _ _|exact b9|(simp;omega)))
 let v0:=MO (ML MQ l)
 let v1:=ML lit (RS (Value.int MM 0)).toList
 refine Na (yF (h':=(oM w bv bV l rs)) (d:=Nt [ab (ML MQ (qH l (pk w bv bV l)).fst),aT (qH l (pk w bv bV l)).2]) [((by subst v0 v1;grind):(Zd (0<=(↑v0:Int))&&Zd ((↑v0:Int)<=(↑v0:Int))&&Zd ((↑v0:Int)*(↑8:Int)<=281474976710656)&&Zd ((↑v0:Int)<=281474976710656))=true),(?_:ML (Nm (ax 1 0 1)) (ad (M2 rs))=ad (M2 rs)),(?_:ML (Nm (ax 1 0 1)) (MU (MP (↑v0:Int)) v1)=MU (MP (↑v0:Int)) v1),.n 3,.o (.Vz 1 1),.s [0,1,2,8,14,15,16] Tv,((by subst v0 v1;grind):XV (pk w bv bV l)=ML (λx=>ML PS x) (ML (λn=>[vi n]) (pk w bv bV l))),(?_:ML (Nm (ed 2 0 (ML (λn=>[vi n]) (pk w bv bV l)))) (ad (M2 (rs++qJ bV l)))=ad (M2 (rs++qJ bV l))),(rfl:MZ 2 (match 0==2 with|true=>.T1|false=>ST (ed 2 0 (ML (λn=>[vi n]) (pk w bv bV l))) (.var [.ref (.bY 1 1),ab (ML MX w.c),ab w.p,ab (ML M4 w.s),ab (ML MY w.f),aT bv]))=true),(?_:MZ 2 (match 0+1==2 with|true=>.T1|false=>ST (ed 2 0 (ML (λn=>[vi n]) (pk w bv bV l))) (.bY (ad (M2 (rs++qJ bV l))) 1 5))=true),.o (.mask [1,8]),.o (.Vw 2 (ML (λn=>[vi n]) (pk w bv bV l))),.o (.TD 2),.v (M9 (Γ':=Or) (@cnt_ev l (by subst v0 v1;grind) (pk w bv bV l) (oM w bv bV l rs)))]) (by rfl) (by rfl)<;>subst v0 v1<;>(first|exact DH _ _|exact aX _ _|exact b9)
def u4(r:TC)(bV:Int):Bool:=dY r != 0||!(Zd (bV>=0)&&Zd (bV<=1023))
def rcX(b:Bool)(e:Int)(L:List tO)(rr:List BY):List tO×List BY×Int:=match b with
 | true=>([],[],150)
 | false=>match (e != 0) with
  | true=>([],[],e)
  | false=>(L,rr,0)
noncomputable abbrev u5(w:iS)(r:TC)(bv:Int)(rr:List BY):List iN:=[.var [ab (ML MX w.c),ab w.p,ab (ML M4 w.s),ab (ML MY w.f)],.var [aT r.st,ab (ML MQ r.a)],.var [.ref (.bY 3 1),ab (ML MX w.c),ab w.p,ab (ML M4 w.s),ab (ML MY w.f),aT bv],.bY (ad (M2 rr)) 1 5]
noncomputable abbrev u6(w:iS)(r:TC)(bv:Int):List iN:=[.var [ab (ML MX w.c),ab w.p,ab (ML M4 w.s),ab (ML MY w.f)],.var [aT r.st,ab (ML MQ r.a)],.var [.ref (.bY 3 0),ab (ML MX w.c),ab w.p,ab (ML M4 w.s),ab (ML MY w.f),aT bv],.bY [] 0 5]
noncomputable abbrev fm(w:iS)(r:TC):List iN:=[.var [ab (ML MX w.c),ab w.p,ab (ML M4 w.s),ab (ML MY w.f)],.var [aT r.st,ab (ML MQ r.a)]]
theorem rcnt_a{w:iS}{r:TC}(hr:ah r.a){bV bv e:Int}{rr:List BY}{L:List tO}(hc:Ev MK Or 92 [.ref (.ptr 0 0),ab (r.a.map MQ),aT bV] (VF w bv [] 0) (.Tt [ab (L.map MQ),aT e]) (VF w bv rr 1))(h:List iN):(Ev MK Or 43 [.agg w.l,.agg r.l,aT bV,aT bv] h (.Tt [ab ((rcX (u4 r bV) e L rr).1.map MQ),ab (M2 (rcX (u4 r bV) e L rr).2.1),aT (rcX (u4 r bV) e L rr).2.2]) h):=by
 cases Of:dY r != 0||!(Zd (bV>=0)&&Zd (bV<=1023))
 ·cases TH:e != 0
  ·exact Na (OL (y0 (d:=Nt [ab (ML MQ L),ab (M2 rr),aT 0]) [.v (M9 (Γ':=Or) (@kZ r hr (fm w r))),.w (!dY r != 0) (M9 (Γ':=Or) (@br bV 0 1023 (fm w r))),.b Of,.n 1,.o (.WS 2 0 5),.c ((fX [2,3] (@hc) ⟨(by grind),trivial⟩ ⟨(by exact ak _ _),trivial⟩):Ev MK Or 92 [.ref (.ptr 2 0),ab (ML MQ r.a),aT bV] (u6 w r bv) (Nt [ab (ML MQ L),aT e]) (u5 w r bv rr)),((by grind):ad (M2 rr)=ML (λx=>ML PS x) (M2 rr)),.o (.Vw 3 (M2 rr)),.b TH] h)) (by(have hh:u4 r bV=false:=Of;have h2:(e != 0)=false:=TH;simp[rcX,hh,h2];rfl)) (by rfl)
  ·exact Na (OL (y0 (d:=Nt [nq,nq,aT e]) [.v (M9 (Γ':=Or) (@kZ r hr (fm w r))),.w (!dY r != 0) (M9 (Γ':=Or) (@br bV 0 1023 (fm w r))),.b Of,.n 1,.o (.WS 2 0 5),.c ((fX [2,3] (@hc) ⟨(by grind),trivial⟩ ⟨(by exact ak _ _),trivial⟩):Ev MK Or 92 [.ref (.ptr 2 0),ab (ML MQ r.a),aT bV] (u6 w r bv) (Nt [ab (ML MQ L),aT e]) (u5 w r bv rr)),((by grind):ad (M2 rr)=ML (λx=>ML PS x) (M2 rr)),.o (.Vw 3 (M2 rr)),.b TH] h)) (by(have hh:u4 r bV=false:=Of;have h2:(e != 0)=true:=TH;simp only[rcX,hh,h2];rfl)) (by rfl)
 ·exact Na (OL (y0 (d:=Nt [nq,nq,aT 150]) [.v (M9 (Γ':=Or) (@kZ r hr (fm w r))),.w (!dY r != 0) (M9 (Γ':=Or) (@br bV 0 1023 (fm w r))),.b Of] h)) (by(have hh:u4 r bV=true:=Of;simp only[rcX,hh];rfl)) (by rfl)
def eI(w:iS)(r:TC)(bV bv:Int):List tO×List BY×Int :=
 rcX (u4 r bV) (qH r.a (pk w bv bV r.a)).2 (qH r.a (pk w bv bV r.a)).1 (qJ bV r.a)
theorem DI{w:iS}(hw:w.ok){r:TC}(hr:r.a.length<=90000000){bV bv:Int}(h:List iN):Ev MK Or 43 [.agg w.l,.agg r.l,aT bV,aT bv] h (.Tt [ab ((eI w r bV bv).1.map MQ),ab (M2 (eI w r bV bv).2.1),aT (eI w r bV bv).2.2]) h :=
 rcnt_a (by unfold ah;omega) (by have:=GW hw (bv:=bv) (bV:=bV) (l:=r.a) hr (rs:=[]) (by simp);grind) h
abbrev vwH(w:iS)(bV bv:Int)(rs:List BY)(e:Nat):List iN:=[.var [.ref (.bY 1 e),ab (w.c.map MX),ab w.p,ab (w.s.map M4),ab (w.f.map MY),aT bV,aT bv],.bY (ad (M2 rs)) e 5]
theorem eO{w:iS}{bV bv:Int}{rs qs:List BY}(hb:rs.length+qs.length<=1000000000):(Ev MK Or 122 [.ref (.ptr 0 0),ab (M2 qs)] (vwH w bV bv rs 0) (.Tt []) (vwH w bV bv (rs++qs) 1)):=by
 exact Na (yF (h':=[.var [.ref (.bY 1 1),ab (ML MX w.c),ab w.p,ab (ML M4 w.s),ab (ML MY w.f),aT bV,aT bv],.bY (ad (M2 rs)++ML (λx=>ML PS x) (M2 qs)) 1 5]) (d:=Nt []) [((by(simp only[J6,Tw,Bool.true_and,Bool.and_eq_true,decide_eq_true_eq,List.length_map];omega)):(List.all (ML (λx=>ML PS x) (M2 qs)) (bf 5)&&Tw (MO (ad (M2 rs))+MO (ML (λx=>ML PS x) (M2 qs))) 40)=true)]) (by grind) (by grind)
noncomputable abbrev wN(w:iS)(bV:Int)(bv:Int)(rs:List BY):List iN:=[.var [.ref (.bY 1 0),ab (ML MX w.c),ab w.p,ab (ML M4 w.s),ab (ML MY w.f),aT bV,aT bv],.bY (ad (M2 rs)) 0 5,.var [nq,nq,nq,nq],.var [nq,nq,nq,nq]]
noncomputable abbrev iW(w:iS)(bV:Int)(bv:Int)(rs:List BY):List iN:=[.var [.ref (.bY 1 0),ab (ML MX w.c),ab w.p,ab (ML M4 w.s),ab (ML MY w.f),aT bV,aT bv],.bY (ad (M2 rs)) 0 5,.var [nq,nq,nq,nq]]
theorem GX{w:iS}(hw:w.ok){bV bv:Int}{rs:List BY}(hb:rs.length<=999999000):(Ev MK Or 54 [.ref (.ptr 0 0)] (vwH w bV bv rs 0) (ag (dv w bV bv).1.row) (vwH w bV bv (rs++Vm 4 0 0 bV) 1)):=by
 let v0:List D:=[ab (ML UA.row (dv w bV bv).fst.Ty),ab (ML TV.row (dv w bV bv).fst.UJ),ab (ML UA.row (dv w bV bv).fst.TA),ab (ML T5.row (dv w bV bv).fst.clauses)]
 let v1:List D:=[.ref (.bY 1 1),ab (ML MX w.c),ab w.p,ab (ML M4 w.s),ab (ML MY w.f),aT bV,aT bv]
 refine Na (RJ (d2:=Nk v0) (h2:=[.var v1,.bY (ad (M2 (rs++Vm 4 0 0 bV))) 1 5]) (φ:=[MZ 2 (.var v1)=true,MZ 2 (.bY (ad (M2 (rs++Vm 4 0 0 bV))) 1 5)=true]) [.st (.TD 2)] (yF (h':=[.var v1,.bY (ad (M2 (rs++Vm 4 0 0 bV))) 1 5,.var v0,.var v0]) (d:=Nk v0) [.v (@kY w hw bV bv (iW w bV bv rs)),pe (.ref (.ptr 0 0)),pe (.ref (.ptr 0 0)),pe (.ref (.ptr 0 1)),pe (.ref (.ptr 0 1)),pe (Nk (Nz w)),pe (Nk (Nz w)),pe (.ref (.ptr 0 0)),pe (.ref (.ptr 0 0)),pe (.ref (.ptr 0 5)),pe (.ref (.ptr 0 5)),po (some (aT bV)),po (some (aT bV)),pe (.ref (.ptr 0 0)),pe (.ref (.ptr 0 0)),pe (.ref (.ptr 0 6)),pe (.ref (.ptr 0 6)),po (some (aT bv)),po (some (aT bv)),pr (iW w bV bv rs),(@kY w hw bV bv (iW w bV bv rs)),(@kY w hw bV bv (wN w bV bv rs)),.c ((fX [0,1] (@eO w bV bv rs (Vm 4 0 0 bV) (by subst v0 v1;(have:=fV 4 0 0 bV;omega))) ⟨?_,trivial⟩ ⟨?_,trivial⟩):Ev MK Or 122 [.ref (.ptr 0 0),ab (M2 (Vm 4 0 0 bV))] [.var [.ref (.bY 1 0),ab (ML MX w.c),ab w.p,ab (ML M4 w.s),ab (ML MY w.f),aT bV,aT bv],.bY (ad (M2 rs)) 0 5,.var [nq,nq,nq,nq],.var v0] (Nt []) [.var v1,.bY (ad (M2 (rs++Vm 4 0 0 bV))) 1 5,.var [nq,nq,nq,nq],.var v0])]) (by kernel_rfl) ⟨rfl,(by subst v0 v1;exact bZ _ _),trivial⟩) (by subst v0 v1;rfl) (by subst v0 v1;grind)<;>subst v0 v1<;>(exact ak _ _)
abbrev minE(x:Int):Int:=if false=true then if 10000>x then 10000 else x else if 10000<x then 10000 else x
structure VwX where
 ON:Int
 n:Int
 d:Int
 e:Int
 q:List BY
def Yv(q1 q2:List BY)(e1 e2 ea ON n d e:Int):VwX:=match e1 != 0 with
 | true=>⟨0,0,0,e1,q1⟩
 | false=>match e2 != 0 with
  | true=>⟨0,0,0,e2,q1++q2⟩
  | false=>match ea != 0 with
   | true=>⟨0,0,0,ea,q1++q2⟩
   | false=>⟨minE ON,n,d,e,q1++q2⟩
noncomputable abbrev cP(w:iS)(bV:Int)(bv:Int)(rs:List BY)(r:TC)(q1:List BY)(q2:List BY):List iN:=[.var [.ref (.bY 1 2),ab (ML MX w.c),ab w.p,ab (ML M4 w.s),ab (ML MY w.f),aT bV,aT bv],.bY (ad (M2 (rs++q1++q2))) 2 5,.var [aT 0,aT 0],.var [aT r.st,ab (ML MQ r.a)]]
noncomputable abbrev bK(w:iS)(bV:Int)(bv:Int)(rs:List BY)(r:TC)(q1:List BY):List iN:=[.var [.ref (.bY 1 1),ab (ML MX w.c),ab w.p,ab (ML M4 w.s),ab (ML MY w.f),aT bV,aT bv],.bY (ad (M2 (rs++q1))) 1 5,.var [aT 0,aT 0],.var [aT r.st,ab (ML MQ r.a)]]
noncomputable abbrev hJ(w:iS)(bV:Int)(bv:Int)(rs:List BY)(r:TC):List iN:=[.var [.ref (.bY 1 0),ab (ML MX w.c),ab w.p,ab (ML M4 w.s),ab (ML MY w.f),aT bV,aT bv],.bY (ad (M2 rs)) 0 5,.var [aT 0,aT 0],.var [aT r.st,ab (ML MQ r.a)]]
noncomputable abbrev hZ(w:iS)(bV:Int)(bv:Int)(rs:List BY):List iN:=[.var [.ref (.bY 1 0),ab (ML MX w.c),ab w.p,ab (ML M4 w.s),ab (ML MY w.f),aT bV,aT bv],.bY (ad (M2 rs)) 0 5,.var [aT 0,aT 0],.var [aT 0,nq]]
noncomputable abbrev bw(w:iS)(bV:Int)(bv:Int)(rs:List BY):List iN:=[.var [.ref (.bY 1 0),ab (ML MX w.c),ab w.p,ab (ML M4 w.s),ab (ML MY w.f),aT bV,aT bv],.bY (ad (M2 rs)) 0 5,.var [aT 0,aT 0]]
theorem Mu{w:iS}{bV bv st:Int}{rs:List BY}{r:TC}{q1 q2:List BY}{L:List tO}{e1 e2 ea ON n d e:Int}(hb:rs.length+q1.length+q2.length<=1000000000)
 (h1:∀h,Ev MK Or 41 [.agg w.l,aT st,aT bV,aT bv] h (.Tt [.agg r.l,ab (M2 q1),aT e1]) h)
 (h2:∀h,Ev MK Or 43 [.agg w.l,.agg r.l,aT bV,aT bv] h (.Tt [ab (L.map MQ),ab (M2 q2),aT e2]) h)
 (h3:∀h,Ev MK Or 50 [ab (L.map MQ)] h (.Tt [aT ON,aT ea]) h)
 (h4:∀h,Ev MK Or 51 [ab (L.map MQ)] h (.Tt [.agg [aT n,aT d],aT e]) h):(Ev MK Or 56 [.ref (.ptr 0 0),aT st] (vwH w bV bv rs 0) (.Tt [aT (Yv q1 q2 e1 e2 ea ON n d e).ON,.agg [aT (Yv q1 q2 e1 e2 ea ON n d e).n,aT (Yv q1 q2 e1 e2 ea ON n d e).d],aT (Yv q1 q2 e1 e2 ea ON n d e).e]) (vwH w bV bv (rs++(Yv q1 q2 e1 e2 ea ON n d e).q) 1)):=by
 cases Of:e1 != 0
 ·cases TH:e2 != 0
  ·cases UU:ea != 0
   ·let v0:List D:=[.ref (.bY 1 2),ab (ML MX w.c),ab w.p,ab (ML M4 w.s),ab (ML MY w.f),aT bV,aT bv]
    let v1:List D:=[aT (if false=true then if 10000>ON then 10000 else ON else if 10000<ON then 10000 else ON),Nk [aT n,aT d],aT e]
    refine Na (RJ (d2:=Nt v1) (h2:=[.var [.ref (.bY 1 1),ab (ML MX w.c),ab w.p,ab (ML M4 w.s),ab (ML MY w.f),aT bV,aT bv],.bY (ad (M2 (rs++q1++q2))) 1 5]) (φ:=[ML (Nm (ax 1 2 1)) (ad (M2 (rs++q1++q2)))=ad (M2 (rs++q1++q2)),MZ 2 (match 0==1 with|true=>.bY (ad (M2 (rs++q1++q2))) 1 5|false=>ST (ax 1 2 1) (.var v0))=true,MZ 2 (match 0+1==1 with|true=>.bY (ad (M2 (rs++q1++q2))) 1 5|false=>ST (ax 1 2 1) (.bY (ad (M2 (rs++q1++q2))) 2 5))=true]) [.st (.Vz 1 1),.st (.TD 2)] (yF (h':=[.var v0,.bY (ad (M2 (rs++q1++q2))) 2 5,.var [aT n,aT d],.var [aT r.st,ab (ML MQ r.a)]]) (d:=Nt v1) [.v (@h1 (bw w bV bv rs)),pe (.ref (.ptr 0 0)),pe (.ref (.ptr 0 0)),pe (.ref (.ptr 0 1)),pe (.ref (.ptr 0 1)),pe (Nk (Nz w)),pe (Nk (Nz w)),pe (.ref (.ptr 0 0)),pe (.ref (.ptr 0 0)),pe (.ref (.ptr 0 5)),pe (.ref (.ptr 0 5)),po (some (aT bV)),po (some (aT bV)),pe (.ref (.ptr 0 0)),pe (.ref (.ptr 0 0)),pe (.ref (.ptr 0 6)),pe (.ref (.ptr 0 6)),po (some (aT bv)),po (some (aT bv)),pr (bw w bV bv rs),(@h1 (bw w bV bv rs)),(@h1 (hZ w bV bv rs)),.c ((fX [0,1] (@eO w bV bv rs q1 (by subst v0 v1;omega)) ⟨?_,trivial⟩ ⟨?_,trivial⟩):Ev MK Or 122 [.ref (.ptr 0 0),ab (M2 q1)] (hJ w bV bv rs r) (Nt []) (bK w bV bv rs r q1)),.b Of,.v (@h2 (bK w bV bv rs r q1)),.c ((fX [0,1] (Ev.upX [0,1] (@eO w bV bv (rs++q1) q2 (by subst v0 v1;(simp;omega))) (by kernel_rfl) ⟨?_,trivial⟩ ⟨?_,trivial⟩) ⟨?_,trivial⟩ ⟨?_,trivial⟩):Ev MK Or 122 [.ref (.ptr 0 0),ab (M2 q2)] (bK w bV bv rs r q1) (Nt []) (cP w bV bv rs r q1 q2)),.b TH,.v (@h3 (cP w bV bv rs r q1 q2)),.b UU,.v (@h4 (cP w bV bv rs r q1 q2)),pe (Nk [aT n,aT d])]) (by kernel_rfl) ⟨(by subst v0 v1;exact aX _ _),rfl,(by subst v0 v1;exact bZ _ _),trivial⟩) (by subst v0 v1;(simp[Yv,Of,TH,UU];first|done|rfl)) (by subst v0 v1;(simp[Yv,Of,TH,UU];first|done|rfl))<;>subst v0 v1<;>(exact ak _ _)
   ·refine Na (RJ (d2:=Nt [aT 0,Nk [aT 0,aT 0],aT ea]) (h2:=[.var [.ref (.bY 1 1),ab (ML MX w.c),ab w.p,ab (ML M4 w.s),ab (ML MY w.f),aT bV,aT bv],.bY (ad (M2 (rs++q1++q2))) 1 5]) (φ:=[ML (Nm (ax 1 2 1)) (ad (M2 (rs++q1++q2)))=ad (M2 (rs++q1++q2)),MZ 2 (match 0==1 with|true=>.bY (ad (M2 (rs++q1++q2))) 1 5|false=>ST (ax 1 2 1) (.var [.ref (.bY 1 2),ab (ML MX w.c),ab w.p,ab (ML M4 w.s),ab (ML MY w.f),aT bV,aT bv]))=true,MZ 2 (match 0+1==1 with|true=>.bY (ad (M2 (rs++q1++q2))) 1 5|false=>ST (ax 1 2 1) (.bY (ad (M2 (rs++q1++q2))) 2 5))=true]) [.st (.Vz 1 1),.st (.TD 2)] (yF (h':=(cP w bV bv rs r q1 q2)) (d:=Nt [aT 0,Nk [aT 0,aT 0],aT ea]) [.v (@h1 (bw w bV bv rs)),pe (.ref (.ptr 0 0)),pe (.ref (.ptr 0 0)),pe (.ref (.ptr 0 1)),pe (.ref (.ptr 0 1)),pe (Nk (Nz w)),pe (Nk (Nz w)),pe (.ref (.ptr 0 0)),pe (.ref (.ptr 0 0)),pe (.ref (.ptr 0 5)),pe (.ref (.ptr 0 5)),po (some (aT bV)),po (some (aT bV)),pe (.ref (.ptr 0 0)),pe (.ref (.ptr 0 0)),pe (.ref (.ptr 0 6)),pe (.ref (.ptr 0 6)),po (some (aT bv)),po (some (aT bv)),pr (bw w bV bv rs),(@h1 (bw w bV bv rs)),(@h1 (hZ w bV bv rs)),.c ((fX [0,1] (@eO w bV bv rs q1 (by omega)) ⟨?_,trivial⟩ ⟨?_,trivial⟩):Ev MK Or 122 [.ref (.ptr 0 0),ab (M2 q1)] (hJ w bV bv rs r) (Nt []) (bK w bV bv rs r q1)),.b Of,.v (@h2 (bK w bV bv rs r q1)),.c ((fX [0,1] (Ev.upX [0,1] (@eO w bV bv (rs++q1) q2 (by(simp;omega))) (by kernel_rfl) ⟨?_,trivial⟩ ⟨?_,trivial⟩) ⟨?_,trivial⟩ ⟨?_,trivial⟩):Ev MK Or 122 [.ref (.ptr 0 0),ab (M2 q2)] (bK w bV bv rs r q1) (Nt []) (cP w bV bv rs r q1 q2)),.b TH,.v (@h3 (cP w bV bv rs r q1 q2)),.b UU,pe (Nk [aT 0,aT 0])]) (by kernel_rfl) ⟨(by exact aX _ _),rfl,(by exact bZ _ _),trivial⟩) (by(simp[Yv,Of,TH,UU];first|done|rfl)) (by(simp[Yv,Of,TH,UU];first|done|rfl))<;>(exact ak _ _)
  ·refine Na (RJ (d2:=Nt [aT 0,Nk [aT 0,aT 0],aT e2]) (h2:=[.var [.ref (.bY 1 1),ab (ML MX w.c),ab w.p,ab (ML M4 w.s),ab (ML MY w.f),aT bV,aT bv],.bY (ad (M2 (rs++q1++q2))) 1 5]) (φ:=[ML (Nm (ax 1 2 1)) (ad (M2 (rs++q1++q2)))=ad (M2 (rs++q1++q2)),MZ 2 (match 0==1 with|true=>.bY (ad (M2 (rs++q1++q2))) 1 5|false=>ST (ax 1 2 1) (.var [.ref (.bY 1 2),ab (ML MX w.c),ab w.p,ab (ML M4 w.s),ab (ML MY w.f),aT bV,aT bv]))=true,MZ 2 (match 0+1==1 with|true=>.bY (ad (M2 (rs++q1++q2))) 1 5|false=>ST (ax 1 2 1) (.bY (ad (M2 (rs++q1++q2))) 2 5))=true]) [.st (.Vz 1 1),.st (.TD 2)] (yF (h':=(cP w bV bv rs r q1 q2)) (d:=Nt [aT 0,Nk [aT 0,aT 0],aT e2]) [.v (@h1 (bw w bV bv rs)),pe (.ref (.ptr 0 0)),pe (.ref (.ptr 0 0)),pe (.ref (.ptr 0 1)),pe (.ref (.ptr 0 1)),pe (Nk (Nz w)),pe (Nk (Nz w)),pe (.ref (.ptr 0 0)),pe (.ref (.ptr 0 0)),pe (.ref (.ptr 0 5)),pe (.ref (.ptr 0 5)),po (some (aT bV)),po (some (aT bV)),pe (.ref (.ptr 0 0)),pe (.ref (.ptr 0 0)),pe (.ref (.ptr 0 6)),pe (.ref (.ptr 0 6)),po (some (aT bv)),po (some (aT bv)),pr (bw w bV bv rs),(@h1 (bw w bV bv rs)),(@h1 (hZ w bV bv rs)),.c ((fX [0,1] (@eO w bV bv rs q1 (by omega)) ⟨?_,trivial⟩ ⟨?_,trivial⟩):Ev MK Or 122 [.ref (.ptr 0 0),ab (M2 q1)] (hJ w bV bv rs r) (Nt []) (bK w bV bv rs r q1)),.b Of,.v (@h2 (bK w bV bv rs r q1)),.c ((fX [0,1] (Ev.upX [0,1] (@eO w bV bv (rs++q1) q2 (by(simp;omega))) (by kernel_rfl) ⟨?_,trivial⟩ ⟨?_,trivial⟩) ⟨?_,trivial⟩ ⟨?_,trivial⟩):Ev MK Or 122 [.ref (.ptr 0 0),ab (M2 q2)] (bK w bV bv rs r q1) (Nt []) (cP w bV bv rs r q1 q2)),.b TH,pe (Nk [aT 0,aT 0])]) (by kernel_rfl) ⟨(by exact aX _ _),rfl,(by exact bZ _ _),trivial⟩) (by(simp[Yv,Of,TH];first|done|rfl)) (by(simp[Yv,Of,TH];first|done|rfl))<;>(exact ak _ _)
 ·let v0:List D:=[.ref (.bY 1 1),ab (ML MX w.c),ab w.p,ab (ML M4 w.s),ab (ML MY w.f),aT bV,aT bv]
  refine Na (RJ (d2:=Nt [aT 0,Nk [aT 0,aT 0],aT e1]) (h2:=[.var v0,.bY (ad (M2 (rs++q1))) 1 5]) (φ:=[ML (Nm (ax 1 1 1)) (ad (M2 (rs++q1)))=ad (M2 (rs++q1)),MZ 2 (match 0==1 with|true=>.bY (ad (M2 (rs++q1))) 1 5|false=>ST (ax 1 1 1) (.var v0))=true,MZ 2 (match 0+1==1 with|true=>.bY (ad (M2 (rs++q1))) 1 5|false=>ST (ax 1 1 1) (.bY (ad (M2 (rs++q1))) 1 5))=true]) [.st (.Vz 1 1),.st (.TD 2)] (yF (h':=(bK w bV bv rs r q1)) (d:=Nt [aT 0,Nk [aT 0,aT 0],aT e1]) [.v (@h1 (bw w bV bv rs)),pe (.ref (.ptr 0 0)),pe (.ref (.ptr 0 0)),pe (.ref (.ptr 0 1)),pe (.ref (.ptr 0 1)),pe (Nk (Nz w)),pe (Nk (Nz w)),pe (.ref (.ptr 0 0)),pe (.ref (.ptr 0 0)),pe (.ref (.ptr 0 5)),pe (.ref (.ptr 0 5)),po (some (aT bV)),po (some (aT bV)),pe (.ref (.ptr 0 0)),pe (.ref (.ptr 0 0)),pe (.ref (.ptr 0 6)),pe (.ref (.ptr 0 6)),po (some (aT bv)),po (some (aT bv)),pr (bw w bV bv rs),(@h1 (bw w bV bv rs)),(@h1 (hZ w bV bv rs)),.c ((fX [0,1] (@eO w bV bv rs q1 ?_) ⟨(by subst v0;exact ak _ _),trivial⟩ ⟨(by subst v0;exact ak _ _),trivial⟩):Ev MK Or 122 [.ref (.ptr 0 0),ab (M2 q1)] (hJ w bV bv rs r) (Nt []) (bK w bV bv rs r q1)),.b Of,pe (Nk [aT 0,aT 0])]) (by kernel_rfl) ⟨?_,rfl,?_,trivial⟩) (by subst v0;(simp[Yv,Of];first|done|rfl)) (by subst v0;(simp[Yv,Of];first|done|rfl))<;>subst v0<;>(first|omega|exact aX _ _|exact bZ _ _)
def u7(w:iS)(st bV bv:Int):VwX :=
 Yv (g9 w st bV bv).2.1 (eI w (g9 w st bV bv).1 bV bv).2.1 (g9 w st bV bv).2.2 (eI w (g9 w st bV bv).1 bV bv).2.2
  (pi (eI w (g9 w st bV bv).1 bV bv).1).2 (pi (eI w (g9 w st bV bv).1 bV bv).1).1
  (gj (eI w (g9 w st bV bv).1 bV bv).1).1 (gj (eI w (g9 w st bV bv).1 bV bv).1).2.1 (gj (eI w (g9 w st bV bv).1 bV bv).1).2.2
theorem GY{w:iS}(hw:w.ok){bv st bV:Int}:(Kh w bv st bV).length<=70656000:=by
 have:=qu hw (bv:=bv) (st:=st) (bV:=bV)
 unfold Kh
 simpa using this
theorem mA{w:iS}(hw:w.ok){st bV bv:Int}:(g9 w st bV bv).1.a.length<=70656000/\(g9 w st bV bv).2.1.length<=70725001:=by
 unfold g9
 split
 ·simp
 ·exact⟨GY hw,uL hw⟩
theorem Mv(m:IM)(e:tO×Nat)(out:List tO):(cgF m e out).length<=out.length+1:=by
 unfold cgF;grind
theorem qK(m:IM):∀(l:List (tO×Nat)) (out:List tO),(l.foldl (λout e=>cgF m e out) out).length<=out.length+l.length
 | [],_=>by simp
 | e::l,out=>by
  have h1:=qK m l (cgF m e out)
  have h2:=Mv m e out
  grind
theorem DJ(l:List tO)(m:IM):(wM l m).length<=l.length:=by
 have:=qK m l.zipIdx []
 simpa[wM] using this
theorem Mw(l:List tO)(rp:List Int):(qH l rp).1.length<=l.length:=by
 unfold qH
 cases Zd (eW l=0)
 ·simp
 ·cases Zd (rp.length=l.length)
  ·simp
  ·simp
   split
   ·exact DJ _ _
   ·simp
theorem Mx(b:Bool)(e:Int)(L:List tO)(rr:List BY):(rcX b e L rr).1.length<=L.length/\(rcX b e L rr).2.1.length<=rr.length:=by
 unfold rcX
 grind
theorem gL{w:iS}{r:TC}{bV bv:Int}:(eI w r bV bv).1.length<=r.a.length/\(eI w r bV bv).2.1.length<=r.a.length:=by
 unfold eI
 have h1:=Mx (u4 r bV) (qH r.a (pk w bv bV r.a)).2 (qH r.a (pk w bv bV r.a)).1 (qJ bV r.a)
 have h2:=Mw r.a (pk w bv bV r.a)
 have h3:=sA bV r.a
 omega
theorem GZ{w:iS}(hw:w.ok){bV bv st:Int}{rs:List BY}(hb:rs.length<=100000000):Ev MK Or 56 [.ref (.ptr 0 0),aT st] (vwH w bV bv rs 0) (.Tt [aT (u7 w st bV bv).ON,.agg [aT (u7 w st bV bv).n,aT (u7 w st bV bv).d],aT (u7 w st bV bv).e]) (vwH w bV bv (rs++(u7 w st bV bv).q) 1):=by
 have hl:=mA hw (st:=st) (bV:=bV) (bv:=bv)
 have hc:=gL (w:=w) (r:=(g9 w st bV bv).1) (bV:=bV) (bv:=bv)
 have hs:ah (eI w (g9 w st bV bv).1 bV bv).1:=by unfold ah;omega
 exact Mu (by omega) (λh=>Hz hw h) (λh=>DI hw (by omega) h) (λh=>M9 (uR hs h)) (λh=>M9 (uQ hs h))
end Go.Vi
