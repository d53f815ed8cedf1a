/- A part of the proof; no conditions of its own. -/
import Derived.Test.YtelhocjibmofiaaGreatDoorW7
open Decidable renaming decide -> Zd
open Go.Vi.Uu renaming row -> Nc
open List renaming map -> MK, length -> MO, replicate -> MS, set -> OZ, getElem?_eq_some_iff -> MR, mem_append -> NY, getD -> Nb, getElem_mem -> Qg, mem_singleton -> OM, foldl_cons -> Nn, length_cons -> Nq, mem_replicate -> Sn, mem_of_getElem? -> NX, getElem?_replicate -> PH, length_singleton -> PY, mem_cons_self -> OI, getD_cons_zero -> RU, mem_cons -> NF, foldl -> ND, length_map -> N1
open Go.Proofs.Tryz renaming prog -> MJ, f47 -> QO, f13 -> Nw, f110 -> Pi
open Go.Vi.D renaming UI -> NG, zcN -> Ob, YK -> N8, fn -> Oe
open Go.Vi.Ev renaming zfO -> Na
open Int renaming toNat -> MU, tdiv_eq_ediv_of_nonneg -> SL, tmod -> Qw, tmod_eq_emod_of_nonneg -> PZ, toNat_natCast -> N4
open Go.IntKind renaming i64 -> ML, wrap -> MN
open Go.Exit renaming normal -> M6, exit -> NR
open Go.Vi.CW renaming each -> PU
open Nat renaming le_refl -> M5, not_lt_zero -> Qj, lt_succ_self -> So
open Go.Vi.Uj renaming row -> MQ
open Go.Vi.UA renaming row -> M0
open Go.LoopState renaming busy -> NJ, ready -> Nl
open Go.Fn renaming func -> M7
open Go.Vi.Uc renaming inn -> MY
open Go.Vi.zfQ renaming zjP -> TA
open Bool renaming not_eq_false' -> T0, and_eq_true -> MT
open Go Go.Proofs
namespace Go.Vi
set_option maxRecDepth 100000
set_option maxHeartbeats 4000000
abbrev VM:Nat×D:=(6,.ref (.ptr 0 0))
abbrev zay:Nat×D:=(zcj 12 5)
abbrev xT(n:Int):bY:=Ue 65 0 [(0,SW n),VM,(7,.ref (.ptr 1 0)),zay]
abbrev zdf(a b:Int)(c:List (bY))(d:bY):aT:=[.var [SW a],.var [SW b],.T7 (c) 0 1,.U7,.var d,.var Ya]
abbrev xH(es:tO)(A:bv)(fs:bV)(U3 to:Int):aT:=(zdf U3 to (ao fs) (Wh es 2 A))
abbrev xS(es:tO)(A:bv)(fs:bV)(n U3 to:Int):AS:={t:=xT n,h:=xH es A fs U3 to,m:=[]}
noncomputable abbrev xl(es:tO)(A:bv)(fs:bV)(by':bV)(U3:Int)(to:Int)(l2:Int):aT:=(zcf U3 to fs es A by' l2)
noncomputable abbrev pI(es:tO)(A:bv)(fs:bV)(U3:Int)(to:Int):aT:=(zdf U3 to (ao fs) (ZI es 2 A))
abbrev Yf:bY:=(zdp 9)
abbrev zbN:D:=(.ref (.T7 9 0))
abbrev zdE(a b:Int)(c:bV)(d:bY)(e:bV):aT:=[.var [SW a],.var [SW b],.T7 (ao c) 0 1,.U7,.var d,.var Ya,.var [SW b],.var Yf,.T7 [[SW (-1)]] 0 1,.T7 (ao e) 0 1]
abbrev zeA(a b:Int)(c:bV)(d:bY)(e:bV):aT:=[.var [SW a],.var [SW b],.T7 (ao c) 0 1,.U7,.var d,.var Ya,.var [SW b],.var Yf,.T7 [[SW (-1)]] 0 1,.T7 (ao e) 0 1,.var Yf]
theorem G7{es:tO}{A:bv}{fs fs2 by':bV}{n U3 to x l2:Int}(h0:0<=to)(hx:by'[to.toNat]? = some x)(hg:Zd (x<0)=false)
  (hs:Ev MJ U2 103 (YO 2 U3 to) (fwH es A fs) zao (Z2 es A fs to by'))
  (h1:Ev MJ U2 104 (Vy d72) (mH es A fs U3 to by' 1073741824) (.UI []) (mH es A fs U3 to by' l2))
  (h2:Ev MJ U2 104 (Vy d74) (mH es A fs U3 to by' l2) (.UI []) (mH es A fs2 U3 to by' l2)):(CW MJ U2 [] false (sub QO 0) (xS es A fs n U3 to) .normal (xS es A fs2 n U3 to)):=by
 let v1:bY:=(ZI es 2 A)
 let v0:aT:=(zdE U3 to fs v1 by')
 refine zx (YV [0,6,7,12] 6) [.call zbN v0,.ov 36 (SW x),.b false,.call (NG []) (xl es A fs by' U3 to l2),.call (NG []) (Zh U3 to fs2 v1 by' (.var [SW l2]))] (.c (show Ev MJ U2 103 (YO 4 U3 to) (pI es A fs U3 to) zbN v0 from(Na (Ev.zeY (args:=(YO 4 U3 to)) (H:=(pI es A fs U3 to)) [2,3,4] (@hs) (by kernel_rfl) (by kernel_rfl) (by kernel_rfl) ⟨?_,trivial⟩ ⟨?_,?_,?_,trivial⟩) (by kernel_rfl) (by kernel_rfl))) (.c (show UU to (MO (ao by'))=true from(by subst v1 v0;first|assumption|rfl|exact gb h0 hx|exact bA rfl hx|exact jc hx|exact aB _ _|exact aw _ _)) (.c (show @Eq (oN) (aN MJ (zeA U3 to fs v1 by') 3 (.ref (Wf 9 to))) (Yc x) from(by subst v1 v0;first|assumption|rfl|exact gb h0 hx|exact bA rfl hx|exact jc hx|exact aB _ _|exact aw _ _)) (.c hg (.c (@h1) (.c (@h2) (.c (show List.all (ao fs2) (Ob 6)=true from(by subst v1 v0;first|assumption|rfl|exact gb h0 hx|exact bA rfl hx|exact jc hx|exact aB _ _|exact aw _ _)) .n)))))))<;>subst v1 v0<;>(first|rfl|exact al _ _|first|assumption|rfl|exact gb h0 hx|exact bA rfl hx|exact jc hx|exact aB _ _|exact aw _ _)
def nv(l:Bv):List (bY):=l.map λb=>[T6 b]
abbrev ce(l:Bv):bv:=l.map λb=>[.v (.bool b)]
theorem kM(f:Ref->D)(l:Bv):(nv l).map (N8 f)=nv l:=by simp[nv,N8,D.UG]
theorem kN(n:Nat)(l:Bv):(nv l).all (Ob n)=true:=by simp[nv,Ob,D.inn]
theorem kO(l:Bv):nv l=(ce l).map (·.map .p):=by simp[nv]
theorem G8(n:Nat):MS n [T6 false]=nv (MS n false):=by simp[nv]
theorem G9{l:Bv}{b i:Nat}{a:Bool}{h:aT}(hb:h[b]? = some (.T7 (nv l) 0 1))(hi:i<l.length):aX MJ h 4 (.ref (.vp b 0 i 0)) (T6 a)=some (h.set b (.T7 (nv (l.set i a)) 0 1)):=by
 have e1:(nv l)[i]? = some [T6 l[i]]:=by simp[nv,hi]
 unfold aX
 simp only[hb,e1,if_true]
 simp[nv,List.map_set]
 rfl
abbrev kH(es:tO)(A:bv)(fs:bV)(U3 to:Int)(by':bV)(cut:Bv):aT:=xH es A fs U3 to++[.var [SW to],.var Yf,.T7 [[SW (-1)]] 0 1,.T7 (ao by') 0 1,.var Yf,.T7 (nv cut) 0 1]
abbrev zel:Nat×D:=(9,.ref (.T7 11 0))
abbrev WK(a b:Int):bY:=Ue 65 0 [zel,(zcj 12 5),(40,.ref (.T7 9 0)),(41,SW a),(42,SW b)]
abbrev kS(es:tO)(A:bv)(fs:bV)(U3 to:Int)(by':bV)(cut:Bv)(i:Int):AS:={t:=(WK (by'.length:Int) i),h:=kH es A fs U3 to by' cut,m:=[]}
abbrev kE(es:tO)(A:bv)(fs:bV)(U3 to:Int)(by':bV)(cut:Bv):AS:=(zb6 65 [zel,zay] (kH es A fs U3 to by' cut))
theorem LT{es:tO}{A:bv}{fs by':bV}{U3 to x:Int}{cut:Bv}{i:Nat}(hx:by'[MU (i:Int)]? = some x)(U8:Zd ((i:Int)<(by'.length:Int))=true)(hw:ML.wrap ((i:Int)+1)=((i+1:Nat):Int))(hi:UU (i:Int) (ao by').length=true)(hc:UU (i:Int) (nv cut).length=true)(hcl:MU (i:Int)<cut.length):(CW MJ U2 [] false (sub QO 1) (kS es A fs U3 to by' cut i) .normal (kS es A fs U3 to by' (cut.set (MU (i:Int)) (Zd (x>=0))) ((i+1:Nat):Int))):=by
 let v1:bY:=[ab (MK Nc es),.ref (.T7 2 0),ab A]
 let v0:aT:=[.var [SW U3],.var [SW to],.T7 (ao fs) 0 1,.U7,.var v1,.var [.ref (.ptr 4 0)],.var [SW to],.var [.ref (.T7 9 0)],.T7 [[SW (-1)]] 0 1,.T7 (ao by') 0 1,.var [.ref (.T7 9 0)],.T7 (nv cut) 0 1]
 refine zX {t:=Ue 65 0 [(9,.ref (.T7 11 0)),(12,.ref (.ptr 5 0)),(40,.ref (.T7 9 0)),(41,SW (↑(MO by'):Int)),(42,SW (MN ML ((↑i:Int)+1)))],h:=[.var [SW U3],.var [SW to],.T7 (ao fs) 0 1,.U7,.var v1,.var [.ref (.ptr 4 0)],.var [SW to],.var [.ref (.T7 9 0)],.T7 [[SW (-1)]] 0 1,.T7 (ao by') 0 1,.var [.ref (.T7 9 0)],.T7 (nv (OZ cut (MU (↑i:Int)) (Zd (x>=0)))) 0 1],m:=[]} M6 [.st (.mask [9,12,40,41,42])] [.b true,.ov 46 (SW x),.oh 10051 D.any (kH es A fs U3 to by' (OZ cut (MU (↑i:Int)) (Zd (x>=0))))] (.c U8 (.c hi (.c (show @Eq (oN) (aN MJ v0 3 (.ref (.vp 9 0 (MU (↑i:Int)) 0))) (some (SW x)) from ?_) (.c hc (.c (show @Eq (Option (aT)) (aX MJ v0 4 (.ref (.vp 11 0 (MU (↑i:Int)) 0)) (T6 (Zd (x>=0)))) (some [.var [SW U3],.var [SW to],.T7 (ao fs) 0 1,.U7,.var v1,.var [.ref (.ptr 4 0)],.var [SW to],.var [.ref (.T7 9 0)],.T7 [[SW (-1)]] 0 1,.T7 (ao by') 0 1,.var [.ref (.T7 9 0)],.T7 (nv (OZ cut (MU (↑i:Int)) (Zd (x>=0)))) 0 1]) from ?_) .n))))) (by subst v1 v0;first|rfl|(rw[hw]<;>rfl)) (by subst v1 v0;first|rfl|(rw[hw]<;>rfl))<;>subst v1 v0<;>(first|assumption|rfl|exact bA rfl hx|exact jc hx|exact G9 rfl hcl|exact aB _ _|exact aw _ _)
theorem LU{es:tO}{A:bv}{fs by':bV}{U3 to:Int}{cut:Bv}{i:Nat}(U8:Zd ((i:Int)<(by'.length:Int))=false):(CW MJ U2 [] false (sub QO 1) (kS es A fs U3 to by' cut i) (.exit 2) (kE es A fs U3 to by' cut)):=by
 exact zx [.st (.mask [9,12])] [.b false] (.c U8 .n)
def MI(s:Bv×Nat)(x:Int):Bv×Nat:=(s.1.set s.2 (Zd (x>=0)),s.2+1)
def El(by':bV):Bv:=(by'.foldl MI (MS by'.length false,0)).1
theorem LV{es:tO}{A:bv}{fs by':bV}{U3 to:Int}(hb:by'.length<=5000):CW MJ U2 [] false (.loop (sub QO 1)) (kS es A fs U3 to by' (MS by'.length false) 0) (.exit 2) (kE es A fs U3 to by' (El by')):=by
 have:=PU (P:=MJ) (Γ:=U2) (h0:=[]) (rd:=false) (c:=sub QO 1) (σ:=Bv×Nat) (ρ:=Empty) by' (λx s=>.inl (MI s x))
  (λi s=>kS es A fs U3 to by' s.1 (i:Int)) (.exit 2) (λs=>kE es A fs U3 to by' s.1) (λr=>r.elim) (λi s=>s.2=i/\s.1.length=by'.length) (by simp) (λr=>r.elim) ?_ ?_ (MS by'.length false,0) (by simp)
 ·rw[aY] at this
  exact this
 ·rintro i x ⟨cut,k⟩ hx ⟨hk,hc⟩
  simp only at hk hc
  subst hk
  have hi:=(MR.1 hx).1
  refine⟨λs' h=>?_,LT (by simpa using hx) (by simp;omega) (Uo hi (by omega)) (by simp[UU,ao];omega) (by simp[UU,nv];omega) (by simp;omega)⟩
  cases h
  simpa[MI] using hc
 ·intro s _
  exact LU (by simp)
abbrev kS0(es:tO)(A:bv)(fs:bV)(n U3 to:Int)(by':bV):AS:={t:=(WK ((ao by').length:Int) 0),h:=xH es A fs U3 to++[.var [SW to],.var Yf,.T7 [[SW (-1)]] 0 1,.T7 (ao by') 0 1,.var Yf,.T7 (MS (MU n) [T6 false]) 0 1],m:=[]}
theorem kS0_eq{es:tO}{A:bv}{fs:bV}{n U3 to:Int}{by':bV}(hn:MU n=by'.length):kS0 es A fs n U3 to by'=kS es A fs U3 to by' (MS by'.length false) 0:=by
 unfold kS0 kS kH
 rw[hn,G8,dv]
theorem kP{m:Nat}{r:bY}(f:Ref->D)(h:N8 f r=r):(MS m r).map (N8 f)=MS m r:=by simp[h]
noncomputable abbrev vC(es:tO)(A:bv)(fs:bV)(U3:Int)(to:Int):aT:=(zdf U3 to (ao fs) (ZI es 2 A))
abbrev XY(a:bV)(b:Bv):AS:=(zb6 65 [(8,ab (aW a)),(9,ab (ce b)),(10,SW 0)] [])
theorem mx_end{es:tO}{A:bv}{fs by':bV}{n U3 to x:Int}{cut:Bv}(h0:0<=to)(hx:by'[to.toNat]? = some x)(hg:Zd (x<0)=true)(hn0:0<=n)(hn1:n<=4096)
  (hs:Ev MJ U2 103 (YO 2 U3 to) (fwH es A fs) zao (Z2 es A fs to by'))
  (hcw:CW MJ U2 [] false (.loop (sub QO 1)) (kS0 es A fs n U3 to by') (.exit 2) (kE es A fs U3 to by' cut)):(CW MJ U2 [] false (sub QO 0) (xS es A fs n U3 to) .ret (XY fs cut)):=by
 have UE:=(@hcw)
 let v1:bY:=(ZI es 2 A)
 let v0:aT:=(zdE U3 to fs v1 by')
 refine zx [.st (.mask [8,9,10]),.st (.frz 2 (aW fs)),.st (.frz 11 (ce cut)),.st (.trim 0)] [.call zbN v0,.ov 36 (SW x),.b true,.sum [9,12,40,41,42] (NR 2) {t:=Ue 65 0 [zel,zay],h:=(Zh U3 to fs v1 by' (.T7 (nv cut) 0 1)),m:=[]}] (.c (show Ev MJ U2 103 (YO 4 U3 to) (vC es A fs U3 to) zbN v0 from(Na (Ev.zeY (args:=(YO 4 U3 to)) (H:=(vC es A fs U3 to)) [2,3,4] (@hs) (by kernel_rfl) (by kernel_rfl) (by kernel_rfl) ⟨(by subst v1 v0;first|rfl|exact al _ _|first|assumption|rfl|exact gb h0 hx|exact bA rfl hx|exact jc hx|exact gL _|exact kO _|exact aB _ _|exact aw _ _|exact kM _ _|exact kN _ _|exact kP _ rfl|(simp;omega)),trivial⟩ ⟨(by subst v1 v0;first|rfl|exact al _ _|first|assumption|rfl|exact gb h0 hx|exact bA rfl hx|exact jc hx|exact gL _|exact kO _|exact aB _ _|exact aw _ _|exact kM _ _|exact kN _ _|exact kP _ rfl|(simp;omega)),(by subst v1 v0;first|rfl|exact al _ _|first|assumption|rfl|exact gb h0 hx|exact bA rfl hx|exact jc hx|exact gL _|exact kO _|exact aB _ _|exact aw _ _|exact kM _ _|exact kN _ _|exact kP _ rfl|(simp;omega)),(by subst v1 v0;first|rfl|exact al _ _|first|assumption|rfl|exact gb h0 hx|exact bA rfl hx|exact jc hx|exact gL _|exact kO _|exact aB _ _|exact aw _ _|exact kM _ _|exact kN _ _|exact kP _ rfl|(simp;omega)),trivial⟩) (by kernel_rfl) (by kernel_rfl))) (.c (show UU to (MO (ao by'))=true from ?_) (.c (show @Eq (oN) (aN MJ (zeA U3 to fs v1 by') 3 (.ref (Wf 9 to))) (Yc x) from ?_) (.c hg (.c (show(Zd (0<=n)&&Zd (n<=n)&&Zd (n*(↑1:Int)<=281474976710656)&&Zd (n<=281474976710656))=true from ?_) (.c UE (.c (show ao fs=(W8 (aW fs)) from ?_) (.er [[SW (-1)]] (.c (show MK (N8 (ez 2 0 (aW fs))) (ao by')=ao by' from ?_) (.c (show MK (N8 (ez 2 0 (aW fs))) (nv cut)=nv cut from ?_) (.c (show nv cut=(W8 (ce cut)) from ?_) (.er [[SW (-1)]] (.c (show MK (N8 (ez 11 0 (ce cut))) (ao by')=ao by' from ?_) .n)))))))))))))<;>subst v1 v0<;>(first|assumption|rfl|exact gb h0 hx|exact bA rfl hx|exact jc hx|exact gL _|exact kO _|exact aB _ _|exact aw _ _|exact kM _ _|exact kN _ _|exact kP _ rfl|(simp;omega))
abbrev xS0(es:tO)(A:bv)(n U3 to:Int):AS:={t:=xT n,h:=(zdf U3 to (flR es) (Wh es 2 A)),m:=[]}
theorem flR_eq(es:tO):flR es=ao (MS es.length 0):=by simp[flR,ao]
theorem xS0_eq{es:tO}{A:bv}{n U3 to:Int}:xS0 es A n U3 to=xS es A (MS es.length 0) n U3 to:=by
 unfold xS0 xS xH
 rw[flR_eq]
abbrev WO(a:tO):D:=ab (a.map Nc)
abbrev zdN(a b:Int)(c:tO)(d:bY):aT:=[.var [SW a],.var [SW b],.T7 (flR c) 0 1,.U7,.var d]
theorem nn2_a{n:Nat}{es:tO}{U3 to:Int}(hn:n<=10000)(hes:es.length<=65536)(UY:∀x∈es,ef n x):Ev MJ U2 102 [SW (n:Int),(WO es)] (Vj U3 (SW to)) VV (zdN U3 to es (Wh es 2 (i6 (jb n es)))):=by
 have h1:=Ev.zmJ (nn_ev hn hes UY) rfl rfl (Vj U3 (SW to))
 have e:[Uc.T7 (flR es) 0 1,.U7,.var (Wh es 0 (i6 (jb n es)))].map (Uc.UG (MD 2))=[.T7 (flR es) 0 1,.U7,.var (Wh es 2 (i6 (jb n es)))]:=by
  simp only[List.map_cons,List.map_nil,Uc.UG,Dx]
  rfl
 exact Na h1 rfl (by rw[show [Uc.var [SW U3],.var [SW to]].length=2 from rfl,e];rfl)
abbrev zbc(a:bV)(b:Bv):bY:=[ab (aW a),ab (ce b),SW 0]
abbrev zdC(a:Nat)(b:tO)(c d:Int):bY:=[SW (a:Int),(WO b),SW c,SW d]
theorem max_a{es:tO}{n:Nat}{U3 to:Int}{fs:bV}{cut:Bv}
  (hnn:Ev MJ U2 102 [SW (n:Int),(WO es)] (Vj U3 (SW to)) VV (zdN U3 to es (Wh es 2 (i6 (jb n es)))))
  (hc:∀h,Ev MJ U2 101 (zdC n es U3 to) h (SW 0) h)
  (hcw:CW MJ U2 [] false (.loop (sub QO 0)) (xS0 es (i6 (jb n es)) (n:Int) U3 to) .ret (XY fs cut)) (h:aT):(Ev MJ U2 47 (zdC n es U3 to) h (.UI (zbc fs cut)) h):=by
 have UE:=(@hcw)
 exact Na (Ev.zfp (z0 (d:=NG (zbc fs cut)) [.val (SW 0),.b false,.call VV (zdN U3 to es (ZI es 2 (i6 (jb n es)))),.sum [0,6,7,12] (Exit.ret) (XY fs cut)] (.c (@hc (Vj U3 (SW to))) (.c (show(0 != 0)=false from rfl) (.c (@hnn) (.c UE .n)))) h)) (by rfl) (by rfl)
theorem LW{es:tO}{n:Nat}{U3 to e:Int}(hc:∀h,Ev MJ U2 101 (zdC n es U3 to) h (SW e) h)(he:(e != 0)=true)(h:aT):(Ev MJ U2 47 (zdC n es U3 to) h (.UI [ab [],ab [],SW e]) h):=by
 exact Na (Ev.zfp (z0 (d:=NG [nq,nq,SW e]) (zax e) (.c (@hc (Vj U3 (SW to))) (.c he .n)) h)) (by rfl) (by rfl)
abbrev bs0(n m:Nat)(U3:Int):bV×QF:=(by0 n m U3,⟨false,0,0,[U3]⟩)
abbrev lsR(es:tO)(fs:bV)(rs:bV):Int:=rs.foldl (lsF es fs) 1073741824
abbrev puR(es:tO)(fs:bV)(rs:bV):bV:=rs.foldl (puF (lsR es fs rs)) fs
inductive ziJ (adj:List (bV)) (es:tO) (n:Nat) (U3 to:Int):Nat->bV->bV×bV->Prop
 | done {fs k f}:Bfs adj es fs to k (bs0 n es.length U3) f->f.1.getD to.toNat 0<0->ziJ adj es n U3 to 0 fs (fs,f.1)
 | step {fs k f rs g j}:Bfs adj es fs to k (bs0 n es.length U3) f->¬f.1.getD to.toNat 0<0->Path es f.1 U3 to rs->ziJ adj es n U3 to j (puR es fs rs) g->ziJ adj es n U3 to (j+1) fs g
def AN{α:Type}:α⊕α->α
 | .inl s=>s
 | .inr s=>s
theorem LX(to r u:Int)(s:bV×QF):(AN (usY to r u s)).1.length=s.1.length:=by
 unfold usY
 cases Zd (s.1.getD u.toNat 0>=0) with
 | true=>rfl
 | false=>cases u==to<;>simp[AN]
theorem LY(es:tO)(fs:bV)(to r:Int)(s:bV×QF):(AN (usG es fs to r s)).1.length=s.1.length:=by
 unfold usG
 cases Zd (zeO es fs r>0) with
 | true=>exact LX _ _ _ _
 | false=>rfl
theorem ta{es:tO}{fs:bV}{to:Int}:∀(B:bV) (s:bV×QF),(AN (UD (usG es fs to) B s)).1.length=s.1.length
 | [],s=>rfl
 | r::B,s=>by
  have h1:=LY es fs to r s
  simp only[UD]
  cases hg:usG es fs to r s with
  | inl s1 =>
   rw[hg] at h1
   exact(ta B s1).trans h1
  | inr s1 =>
   rw[hg] at h1
   exact h1
theorem Bfs.len{adj:List (bV)}{es:tO}{fs:bV}{to:Int}{k:Nat}{s f:bV×QF}(h:Bfs adj es fs to k s f):f.1.length=s.1.length:=by
 induction h with
 | done _=>rfl
 | stop _ hg =>
  have:=congrArg (λx=>(AN x).1.length) hg
  simp only[ta] at this
  exact this.symm
 | step _ hg _ ih =>
  have:=congrArg (λx=>(AN x).1.length) hg
  simp only[ta] at this
  rw[ih];exact this.symm
def ResL(m:Nat)(A:List (bV)):Prop:=∀B∈A,∀r∈B,cA m r
theorem ResL.set{m:Nat}{A:List (bV)}(h:ResL m A){u:Nat}{v:Int}(hv:cA m v):ResL m (A.set u (A.getD u []++[v])):=by
 intro B hB r hr
 rcases List.mem_or_eq_of_mem_set hB with hB|rfl
 ·exact h B hB r hr
 ·rcases NY.1 hr with hr|hr
  ·by_cases hu:u<A.length
   ·have:A.getD u []=A[u]:=by simp[Nb,hu]
    rw[this] at hr
    exact h _ (Qg hu) r hr
   ·have:A.getD u []=[]:=by simp[Nb,hu]
    rw[this] at hr;simp at hr
  ·simp only[OM] at hr
   subst hr;exact hv
theorem DF(m:Nat)(hm:m<=1000000):∀(l:tO) (s:List (bV)×Int) (i:Nat),s.2=i->i+l.length<=m->ResL m s.1->ResL m (l.foldl kV s).1
 | [],s,_,_,_,h=>h
 | x::l,s,i,hi,hm2,h=>by
  rw[Nn]
  simp only[Nq] at hm2
  have e1:ML.wrap (2*s.2)=2*s.2:=wrap_i64 (by omega) (by omega)
  have e2:ML.wrap (2*s.2+1)=2*s.2+1:=wrap_i64 (by omega) (by omega)
  refine DF m hm l (kV s x) (i+1) (by simp[kV,hi]) (by omega) ?_
  unfold kV
  rw[e1,e2]
  exact(h.set ⟨by omega,by omega⟩).set ⟨by omega,by omega⟩
theorem ny(n:Nat)(es:tO):(jb n es).length=n:=by unfold jb;rw[xi];simp
theorem xm(n:Nat){es:tO}(hm:es.length<=65536):∀B∈jb n es,(∀r∈B,cA es.length r)/\B.length<=200000:=by
 have h1:ResL es.length (jb n es):=DF es.length (by omega) es _ 0 rfl (by omega) (λB hB r hr=>by rw[(Sn.1 hB).2] at hr;simp at hr)
 have h2:Lim (jb n es) (0+2*es.length):=xj es _ 0 (λj B hB=>by
  have:=NX hB
  rw[(Sn.1 this).2];simp)
 intro B hB
 refine⟨h1 B hB,?_⟩
 obtain⟨j,hj⟩:=List.getElem?_of_mem hB
 have:=h2 j B hj
 omega
section
variable {es:tO} {n:Nat} {U3 to:Int}
theorem LZ(hm:es.length<=65536)(h2:2<=n)(hn:n<=4096)(UY:∀x∈es,ef n x)(hfr:0<=U3/\U3.toNat<n)(hto:0<=to/\to.toNat<n){j:Nat}{fs:bV}{g:bV×bV}(hl:fs.length=es.length)(hR:ziJ (jb n es) es n U3 to j fs g):
  CW MJ U2 [] false (.loop (sub QO 0)) (xS es (i6 (jb n es)) fs (n:Int) U3 to) .ret (XY (g.1) (El g.2)):=by
 refine CW.loop (ι:={p:Nat×bV // p.2.length=es.length/\ziJ (jb n es) es n U3 to p.1 p.2 g}) (λp=>xS es (i6 (jb n es)) p.1.2 (n:Int) U3 to) (λ_=>(.ret,(XY (g.1) (El g.2)))) (λp=>p.1.1) ?_ ⟨(j,fs),hl,hR⟩
 rintro⟨⟨j,fs⟩,hl,hR⟩
 simp only at hl hR
 cases hR with
 | done hb hx =>
  rename_i k f
  have hlen:f.1.length=n:=by rw[hb.len];simp[by0]
  have hs:=y9 hl hm h2 hn UY (ny n es) (xm n hm) hfr hb
  have hg:f.1[to.toNat]? = some (f.1.getD to.toNat 0):=by simp[Nb,hlen,hto.2]
  have hk:=LV (es:=es) (A:=i6 (jb n es)) (fs:=fs) (by':=f.1) (U3:=U3) (to:=to) (by omega)
  rw[<-kS0_eq (n:=(n:Int)) (by simp[hlen])] at hk
  exact .inr ⟨by simp,mx_end hto.1 hg (by simpa using hx) (by omega) (by omega) hs hk⟩
 | step hb hx hp hr =>
  rename_i k f rs j
  have hlen:f.1.length=n:=by rw[hb.len];simp[by0]
  have hs:=y9 hl hm h2 hn UY (ny n es) (xm n hm) hfr hb
  have hg:f.1[to.toNat]? = some (f.1.getD to.toNat 0):=by simp[Nb,hlen,hto.2]
  refine .inl ⟨⟨(j,puR es fs rs),by rw[zb];exact hl,hr⟩,by simp,rfl,?_⟩
  exact G7 (fs2:=puR es fs rs) (l2:=lsR es fs rs) hto.1 hg (by simpa using hx) hs (al_a (G5 hl hm hp)) (al_a (G6 hm hl hp))
theorem L0(hm:es.length<=65536)(h2:2<=n)(hn:n<=4096)(UY:∀x∈es,ef n x)(hfr:0<=U3/\U3.toNat<n)(hto:0<=to/\to.toNat<n)
  (hc:∀h,Ev MJ U2 101 (zdC n es U3 to) h (SW 0) h) {j:Nat} {g:bV×bV} (hR:ziJ (jb n es) es n U3 to j (MS es.length 0) g) (h:aT) :
  Ev MJ U2 47 (zdC n es U3 to) h (.UI (zbc (g.1) (El g.2))) h:=by
 refine max_a (nn2_a (by omega) (by omega) UY) hc ?_ h
 rw[xS0_eq]
 exact LZ hm h2 hn UY hfr hto (by simp) hR
end
structure ziL (es:tO) (fs:bV):Prop where
 len:fs.length=es.length
 sz:es.length<=65536
 lo:∀i,i<es.length->0<=fs.getD i 0
 hi:∀i,i<es.length->fs.getD i 0<=(es.getD i ⟨0,0,0⟩).most
 most:∀i,i<es.length->(es.getD i ⟨0,0,0⟩).most<=1073741824
theorem pJ{m:Nat}{r:Int}(h:cA m r):∃i:Nat,i<m/\(r=2*(i:Int)\/r=2*(i:Int)+1):=by
 obtain⟨h0,h1⟩:=h
 refine⟨(r / 2).toNat,by omega,?_⟩
 omega
section
variable {es:tO} {fs:bV} {i:Nat}
theorem ix0(hi:i<100000):ixR (2*(i:Int))=(i:Int):=by
 unfold ixR
 rw[SL (by omega),wrap_i64 (by omega) (by omega)];omega
theorem ix1(hi:i<100000):ixR (2*(i:Int)+1)=(i:Int):=by
 unfold ixR
 rw[SL (by omega),wrap_i64 (by omega) (by omega)];omega
theorem tm0:(Qw (2*(i:Int)) 2==0)=true:=by
 rw[PZ (by omega)];simp
theorem tm1:(Qw (2*(i:Int)+1) 2==0)=false:=by
 rw[PZ (by omega)]<;>simp
theorem tn0:(Qw (2*(i:Int)) 2==1)=false:=by
 rw[PZ (by omega)];simp
theorem tn1:(Qw (2*(i:Int)+1) 2==1)=true:=by
 rw[PZ (by omega)]<;>simp
theorem end0(hi:i<100000):gi es (2*(i:Int))=(es.getD i ⟨0,0,0⟩).to:=by
 unfold gi qj exA
 rw[tm0,ix0 hi,N4]
theorem end1(hi:i<100000):gi es (2*(i:Int)+1)=(es.getD i ⟨0,0,0⟩).U3:=by
 unfold gi qj exA
 rw[tm1,ix1 hi,N4]
theorem cap1(hi:i<100000):zeO es fs (2*(i:Int)+1)=fs.getD i 0:=by
 unfold zeO fe fA
 rw[tm1,ix1 hi,N4]
theorem cap0(h:ziL es fs)(hi:i<es.length):zeO es fs (2*(i:Int))=(es.getD i ⟨0,0,0⟩).most-fs.getD i 0:=by
 have h1:=h.lo i hi
 have h2:=h.hi i hi
 have h3:=h.most i hi
 have h4:=h.sz
 unfold zeO fe fA exA
 rw[tm0,ix0 (by omega),N4]
 exact wrap_i64 (by omega) (by omega)
theorem xr0{m:Nat}(hi:i<m)(hm:m<=1000000):xr (2*(i:Int))=2*(i:Int)+1:=by
 rw[LR (m:=m) ⟨by omega,by omega⟩ (by omega),if_pos (by omega)]
theorem xr1{m:Nat}(hi:i<m)(hm:m<=1000000):xr (2*(i:Int)+1)=2*(i:Int):=by
 rw[LR (m:=m) ⟨by omega,by omega⟩ (by omega),if_neg (by omega)];omega
end
def zks(es:tO)(A:List (bV)):Prop:=∀(v:Nat) (r:Int),r∈A.getD v []->gi es (xr r)=(v:Int)
theorem Ha{A:List (bV)}{u v:Nat}{B:bV}:(A.set u B).getD v []=if u=v/\u<A.length then B else A.getD v []:=by
 simp only[Nb,List.getElem?_set]
 by_cases h:u=v
 ·subst h
  by_cases h2:u<A.length
  ·simp[h2]
  ·simp[h2]
 ·simp[h]
theorem zks.set{es:tO}{A:List (bV)}(h:zks es A){u:Nat}{r:Int}(hr:gi es (xr r)=(u:Int)):zks es (A.set u (A.getD u []++[r])):=by
 intro v x hx
 rw[Ha] at hx
 split at hx
 ·rename_i hc
  obtain⟨rfl,_⟩:=hc
  rcases NY.1 hx with hx|hx
  ·exact h u x hx
  ·simp only[OM] at hx
   subst hx;exact hr
 ·exact h v x hx
theorem DG{es:tO}(hm:es.length<=65536)(n:Nat)(UY:∀x∈es,ef n x):∀(l:tO) (s:List (bV)×Int) (i:Nat),s.2=i->es.drop i=l->zks es s.1->zks es (l.foldl kV s).1
 | [],s,_,_,_,h=>h
 | x::l,s,i,hi,hd,h=>by
  rw[Nn]
  have U8:i<es.length:=by
   have:=congrArg MO hd
   simp only[List.length_drop,Nq] at this
   omega
  have hx:es[i]? = some x:=by
   have:=congrArg (λy=>y[0]?) hd
   simpa using this
  have hg:es.getD i ⟨0,0,0⟩=x:=by simp[Nb,hx]
  obtain⟨x1,x2,x3,x4⟩:=UY x (NX hx)
  have e1:ML.wrap (2*s.2)=2*(i:Int):=by rw[hi];exact wrap_i64 (by omega) (by omega)
  have e2:ML.wrap (2*(i:Int)+1)=2*(i:Int)+1:=wrap_i64 (by omega) (by omega)
  refine DG hm n UY l (kV s x) (i+1) (by simp[kV,hi]) (by rw[<-List.drop_drop,hd];rfl) ?_
  unfold kV
  rw[e1,e2]
  refine(h.set ?_).set ?_
  ·rw[xr0 U8 (by omega),end1 (by omega),hg];omega
  ·rw[xr1 U8 (by omega),end0 (by omega),hg];omega
theorem Hb{es:tO}(hm:es.length<=65536){n:Nat}(UY:∀x∈es,ef n x):zks es (jb n es):=by
 refine DG hm n UY es (MS n [],0) 0 rfl rfl ?_
 intro v r hr
 have:(MS n ([]:bV)).getD v []=[]:=by
  simp only[Nb,PH]
  split<;>rfl
 rw[this] at hr;simp at hr
def muS(s:bV×QF):Nat:=2*unm s.1+s.2.list.length
theorem usY_mu{n:Nat}{to r u:Int}{s s':bV×QF}(h:SOk n s)(hr:0<=r)(hu:u.toNat<n)(hy:usY to r u s=.inl s'):muS s'<=muS s:=by
 unfold usY at hy
 split at hy
 ·cases hy;exact M5 _
 ·rename_i hg
  split at hy
  ·cases hy
  ·cases hy
   have h1:=DC (l:=s.1) (by rw[h.len];exact hu) (by simpa using hg) hr
   simp only[muS,QF.push,QF.list,List.length_append,PY]
   have:s.2.list.length=(match s.2.vs with|true=>s.2.l.drop s.2.i|false=>s.2.l).length:=rfl
   omega
theorem DH{es:tO}{fs:bV}{to:Int}{n:Nat}(hm:es.length<=65536)(UY:∀x∈es,ef n x):∀(B:bV) (s s':bV×QF),(∀r∈B,cA es.length r)->SOk n s->UD (usG es fs to) B s=.inl s'->muS s'<=muS s
 | [],s,s',_,h,hf=>by cases hf;exact M5 _
 | r::B,s,s',hB,h,hf=>by
  simp only[UD] at hf
  have hr:=hB r (by simp)
  have he:=pH hr (by omega) UY
  split at hf
  ·rename_i s1 h1
   have h2:SOk n s1/\muS s1<=muS s:=by
    unfold usG at h1
    split at h1
    ·exact⟨h.usY hr.1 he.1 he.2 h1,usY_mu h hr.1 he.2 h1⟩
    ·cases h1;exact⟨h,M5 _⟩
   exact Nat.le_trans (DH hm UY B s1 s' (λx hx=>hB x (by simp[hx])) h2.1 hf) h2.2
  ·cases hf
theorem Id{es:tO}{fs:bV}{to:Int}{n:Nat}(hm:es.length<=65536)(UY:∀x∈es,ef n x){adj:List (bV)}(ha:adj.length=n)(hB:∀B∈adj,∀r∈B,cA es.length r):
  ∀(m:Nat) (s:bV×QF),muS s<m->SOk n s->∃k f,Bfs adj es fs to k s f
 | 0,s,h,_=>absurd h (Qj _)
 | m+1,s,h,hs=>by
  cases hl:s.2.list with
  | nil=>exact⟨0,s,.done hl⟩
  | cons v rest =>
   obtain⟨v0,v1⟩:=hs.mem v (by rw[hl];simp)
   have hr:∀r∈adj.getD v.toNat [],cA es.length r:=by
    have:adj.getD v.toNat []=adj[v.toNat]'(by omega):=by simp[Nb,ha,v1]
    rw[this]
    exact hB _ (Qg _)
   cases hf:UD (usG es fs to) (adj.getD v.toNat []) (s.1,s.2.pop) with
   | inr f=>exact⟨0,f,.stop hl hf⟩
   | inl s' =>
    have h1:=hs.pop hl
    have h2:=SOk.UD hm UY _ _ _ hr h1 hf
    have h3:=DH hm UY _ _ _ hr h1 hf
    have h4:muS (s.1,s.2.pop)+1=muS s:=by
     simp only[muS,QF.zhp hl,hl,Nq];omega
    obtain⟨k,f,hb⟩:=Id hm UY ha hB m s' (by omega) h2
    exact⟨k+1,f,.step hl hf hb⟩
theorem d9{l:bV}{u w:Nat}{r d:Int}:(l.set u r).getD w d=if u=w/\u<l.length then r else l.getD w d:=by
 simp only[Nb,List.getElem?_set]
 by_cases h:u=w
 ·subst h
  by_cases h2:u<l.length
  ·simp[h2]
  ·simp[h2]
 ·simp[h]
theorem Hc{to r u:Int}{s:bV×QF}{w:Nat}(h:0<=s.1.getD w 0):(AN (usY to r u s)).1.getD w 0=s.1.getD w 0:=by
 have key:s.1.getD u.toNat 0<0->(s.1.set u.toNat r).getD w 0=s.1.getD w 0:=by
  intro hx
  rw[d9,if_neg]
  rintro⟨rfl,_⟩
  omega
 unfold usY
 cases hg:Zd (s.1.getD u.toNat 0>=0) with
 | true=>rfl
 | false =>
  have hx:s.1.getD u.toNat 0<0:=by simpa using hg
  cases u==to with
  | true=>exact key hx
  | false=>exact key hx
theorem Hd{es:tO}{fs:bV}{to r:Int}{s:bV×QF}{w:Nat}(h:0<=s.1.getD w 0):(AN (usG es fs to r s)).1.getD w 0=s.1.getD w 0:=by
 unfold usG
 cases Zd (zeO es fs r>0) with
 | true=>exact Hc h
 | false=>rfl
structure TI (es:tO) (fs:bV) (n:Nat) (U3:Int) (ρ:Nat->Nat) (s:bV×QF):Prop where
 len:s.1.length=n
 src:0<=s.1.getD U3.toNat 0
 q:∀v∈s.2.list,0<=s.1.getD v.toNat 0
 t:∀v:Nat,v<n->0<=s.1.getD v 0->(v:Int)≠U3->cA es.length (s.1.getD v 0)/\0<zeO es fs (s.1.getD v 0)/\gi es (s.1.getD v 0)=(v:Int)/\0<=s.1.getD (gi es (xr (s.1.getD v 0))).toNat 0/\ρ (gi es (xr (s.1.getD v 0))).toNat<ρ v
section
variable {es:tO} {fs:bV} {n:Nat} {U3 to:Int} {ρ:Nat->Nat} {s:bV×QF}
theorem TI.set(h:TI es fs n U3 ρ s){v:Nat}(hv:v<n)(hm:0<=s.1.getD v 0){r u:Int}(hr:cA es.length r)(hc:0<zeO es fs r)(ho:gi es (xr r)=(v:Int))(hu:gi es r=u)(h0:0<=u)(hun:u.toNat<n)(hx:s.1.getD u.toNat 0<0){q:QF}
  (hq:∀w∈q.list,w=u\/w∈s.2.list):TI es fs n U3 (λw=>if w=u.toNat then ρ v+1 else ρ w) (s.1.set u.toNat r,q):=by
 have U8:u.toNat<s.1.length:=by rw[h.len];exact hun
 have hs:(s.1.set u.toNat r).getD u.toNat 0=r:=by rw[d9,if_pos ⟨rfl,U8⟩]
 have hk:∀w,w≠u.toNat->(s.1.set u.toNat r).getD w 0=s.1.getD w 0:=λw hw=>by rw[d9,if_neg (λe=>hw e.1.symm)]
 have hmk:∀w,0<=s.1.getD w 0->(s.1.set u.toNat r).getD w 0=s.1.getD w 0:=λw hw=>hk w (by rintro rfl;omega)
 refine⟨by simpa using h.len,?_,?_,?_⟩
 ·simp only;rw[hmk _ h.src];exact h.src
 ·intro w hw
  simp only
  rcases hq w hw with rfl|hw
  ·rw[hs];exact hr.1
  ·rw[hmk _ (h.q w hw)];exact h.q w hw
 ·intro w hw hwm hwf
  simp only at hwm ⊢
  by_cases he:w=u.toNat
  ·subst he
   rw[hs]
   have hvu:v≠u.toNat:=by rintro rfl;omega
   refine⟨hr,hc,by omega,?_,?_⟩
   ·rw[ho,N4,hmk _ hm];exact hm
   ·rw[ho,N4,if_neg hvu,if_pos rfl];omega
  ·rw[hk w he] at hwm ⊢
   obtain⟨t1,t2,t3,t4,t5⟩:=h.t w hw hwm hwf
   have Μ:(gi es (xr (s.1.getD w 0))).toNat≠u.toNat:=by
    intro e;rw[e] at t4;omega
   refine⟨t1,t2,t3,?_,?_⟩
   ·rw[hmk _ t4];exact t4
   ·rw[if_neg Μ,if_neg he];exact t5
theorem TI.usG(hm:es.length<=65536)(UY:∀x∈es,ef n x)(h:TI es fs n U3 ρ s){v:Nat}(hv:v<n)(hmk:0<=s.1.getD v 0){r:Int}(hr:cA es.length r)(ho:gi es (xr r)=(v:Int)):∃ρ',TI es fs n U3 ρ' (AN (usG es fs to r s)):=by
 unfold Vi.usG
 cases hc:Zd (zeO es fs r>0) with
 | false=>exact⟨ρ,h⟩
 | true =>
  have hc':0<zeO es fs r:=by simpa using hc
  obtain⟨e0,e1⟩:=pH hr (by omega) UY
  show ∃ρ',TI es fs n U3 ρ' (AN (usY to r (gi es r) s))
  unfold usY
  cases hg:Zd (s.1.getD (gi es r).toNat 0>=0) with
  | true=>exact⟨ρ,h⟩
  | false =>
   have hx:s.1.getD (gi es r).toNat 0<0:=by simpa using hg
   cases gi es r==to with
   | true=>exact⟨_,h.set hv hmk hr hc' ho rfl e0 e1 hx (λw hw=>.inr hw)⟩
   | false =>
    refine⟨_,h.set hv hmk hr hc' ho rfl e0 e1 hx (λw hw=>?_)⟩
    simp only[QF.push,QF.list,NY,OM] at hw
    rcases hw with hw|hw
    ·exact .inr hw
    ·exact .inl hw
theorem TI.UD(hm:es.length<=65536)(UY:∀x∈es,ef n x){v:Nat}(hv:v<n):∀(B:bV) (ρ:Nat->Nat) (s:bV×QF),(∀r∈B,cA es.length r/\gi es (xr r)=(v:Int))->TI es fs n U3 ρ s->0<=s.1.getD v 0->∃ρ',TI es fs n U3 ρ' (AN (UD (Vi.usG es fs to) B s))
 | [],ρ,s,_,h,_=>⟨ρ,h⟩
 | r::B,ρ,s,hB,h,hmk=>by
  obtain⟨hr,ho⟩:=hB r (by simp)
  obtain⟨ρ1,h1⟩:=h.usG (to:=to) hm UY hv hmk hr ho
  have hk:=Hd (es:=es) (fs:=fs) (to:=to) (r:=r) hmk
  simp only[Vi.UD]
  cases hg:Vi.usG es fs to r s with
  | inr s1=>rw[hg] at h1;exact⟨ρ1,h1⟩
  | inl s1 =>
   rw[hg] at h1 hk
   exact TI.UD hm UY hv B ρ1 s1 (λx hx=>hB x (by simp[hx])) h1 (by simp only[AN] at hk;rw[hk];exact hmk)
theorem TI.bfs(hm:es.length<=65536)(UY:∀x∈es,ef n x){adj:List (bV)}(ha:adj.length=n)(hB:∀B∈adj,∀r∈B,cA es.length r)(hA:zks es adj){k:Nat}{s f:bV×QF}(hb:Bfs adj es fs to k s f):
  ∀{ρ:Nat->Nat},SOk n s->TI es fs n U3 ρ s->∃ρ',TI es fs n U3 ρ' f:=by
 have key:∀{s:bV×QF} {v:Int} {rest:bV},SOk n s->s.2.list=v::rest->v.toNat<n/\(∀r∈adj.getD v.toNat [],cA es.length r/\gi es (xr r)=(v.toNat:Int)):=by
  intro s v rest hs hl
  obtain⟨v0,v1⟩:=hs.mem v (by rw[hl];simp)
  refine⟨v1,λr hr=>⟨?_,hA v.toNat r hr⟩⟩
  have:adj.getD v.toNat []=adj[v.toNat]'(by omega):=by simp[Nb,ha,v1]
  rw[this] at hr
  exact hB _ (Qg _) r hr
 have pop:∀{s:bV×QF} {v:Int} {rest:bV} {ρ:Nat->Nat},s.2.list=v::rest->TI es fs n U3 ρ s->TI es fs n U3 ρ (s.1,s.2.pop):=by
  intro s v rest ρ hl h
  exact⟨h.len,h.src,λw hw=>h.q w (by rw[QF.zhp hl] at hw;rw[hl];simp[hw]),h.t⟩
 induction hb with
 | done _=>exact λ_ h=>⟨_,h⟩
 | stop hl hf =>
  intro ρ hs h
  obtain⟨k1,k2⟩:=key hs hl
  have hm0:=h.q _ (by rw[hl];exact OI)
  obtain⟨ρ',h'⟩:=TI.UD (to:=to) hm UY k1 _ ρ _ k2 (pop hl h) hm0
  rw[hf] at h'
  exact⟨ρ',h'⟩
 | step hl hf _ ih =>
  intro ρ hs h
  obtain⟨k1,k2⟩:=key hs hl
  have hm0:=h.q _ (by rw[hl];exact OI)
  obtain⟨ρ',h'⟩:=TI.UD (to:=to) hm UY k1 _ ρ _ k2 (pop hl h) hm0
  rw[hf] at h'
  exact ih (SOk.UD hm UY _ _ _ (λr hr=>(k2 r hr).1) (hs.pop hl) hf) h'
end
inductive zfi (es:tO) (fs by':bV) (U3:Int) (ρ:Nat->Nat):Int->bV->Prop
 | nil:zfi es fs by' U3 ρ U3 []
 | cons {v r rs}:v≠U3->0<=v->by'[v.toNat]? = some r->cA es.length r->0<zeO es fs r->gi es r=v->ρ (gi es (xr r)).toNat<ρ v.toNat->zfi es fs by' U3 ρ (gi es (xr r)) rs->zfi es fs by' U3 ρ v (r::rs)
theorem zfi.path{es:tO}{fs by':bV}{U3:Int}{ρ:Nat->Nat}{v:Int}{rs:bV}(h:zfi es fs by' U3 ρ v rs):Path es by' U3 v rs:=by
 induction h with
 | nil=>exact .nil
 | cons h1 h2 h3 h4 _ _ _ _ ih=>exact .cons h1 h2 h3 h4 ih
theorem DI{es:tO}{fs:bV}{n:Nat}{U3:Int}{ρ:Nat->Nat}{s:bV×QF}(hm:es.length<=65536)(UY:∀x∈es,ef n x)(h:TI es fs n U3 ρ s):∀(m:Nat) (v:Int),ρ v.toNat<m->0<=v->v.toNat<n->0<=s.1.getD v.toNat 0->∃rs,zfi es fs s.1 U3 ρ v rs
 | 0,v,h,_,_,_=>absurd h (Qj _)
 | m+1,v,hρ,v0,v1,hmk=>by
  by_cases hv:v=U3
  ·subst hv;exact⟨[],.nil⟩
  ·obtain⟨t1,t2,t3,t4,t5⟩:=h.t v.toNat v1 hmk (by omega)
   have hx:=LS t1 (by omega)
   obtain⟨e0,e1⟩:=pH hx (by omega) UY
   obtain⟨rs,hp⟩:=DI hm UY h m (gi es (xr (s.1.getD v.toNat 0))) (by omega) e0 e1 t4
   have hg:s.1[v.toNat]? = some (s.1.getD v.toNat 0):=by simp[Nb,h.len,v1]
   exact⟨_,.cons hv v0 hg t1 t2 (by rw[t3];omega) t5 hp⟩
def zfd:tO->bV->Int->Int
 | x::es,f::fs,w=>(if x.U3=w then f else 0)-(if x.to=w then f else 0)+zfd es fs w
 | _,_,_=>0
theorem tb:∀(es:tO) (fs:bV) (i:Nat) (d w:Int),fs.length=es.length->i<es.length ->
  zfd es (fs.set i (fs.getD i 0+d)) w=zfd es fs w+((if (es.getD i ⟨0,0,0⟩).U3=w then d else 0)-(if (es.getD i ⟨0,0,0⟩).to=w then d else 0))
 | [],_,i,_,_,_,hi=>absurd hi (Qj _)
 | x::es,[],_,_,_,hl,_=>by simp at hl
 | x::es,f::fs,0,d,w,_,_=>by
  simp only[List.set_cons_zero,RU,zfd]
  split<;>split<;>omega
 | x::es,f::fs,i+1,d,w,hl,hi=>by
  simp only[List.set_cons_succ,List.getD_cons_succ,zfd]
  rw[tb es fs i d w (by simpa using hl) (by simpa using hi)]
  omega
theorem DJ{es:tO}{fs:bV}:∀(rs:bV) (l0:Int),0<l0->(∀r∈rs,0<zeO es fs r)->0<rs.foldl (lsF es fs) l0/\rs.foldl (lsF es fs) l0<=l0/\∀r∈rs,rs.foldl (lsF es fs) l0<=zeO es fs r
 | [],l0,h,_=>⟨h,Int.le_refl _,by simp⟩
 | r::rs,l0,h,hc=>by
  have hr:=hc r (by simp)
  have h1:0<lsF es fs l0 r/\lsF es fs l0 r<=l0/\lsF es fs l0 r<=zeO es fs r:=by
   unfold lsF dmnI
   split<;>omega
  obtain⟨a,b,c⟩:=DJ rs (lsF es fs l0 r) h1.1 (λx hx=>hc x (by simp[hx]))
  rw[Nn]
  refine⟨a,by omega,λx hx=>?_⟩
  rcases NF.1 hx with rfl|hx
  ·omega
  ·exact c x hx
section
variable {es:tO} {fs by':bV} {U3:Int} {ρ:Nat->Nat}
theorem zfi.rank{v:Int}{rs:bV}(h:zfi es fs by' U3 ρ v rs):∀r∈rs,cA es.length r/\0<zeO es fs r/\ρ (gi es r).toNat<=ρ v.toNat/\ρ (gi es (xr r)).toNat<ρ (gi es r).toNat:=by
 induction h with
 | nil=>simp
 | cons h1 h2 h3 h4 h5 h6 h7 _ ih =>
  intro r hr
  rcases NF.1 hr with rfl|hr
  ·exact⟨h4,h5,by rw[h6];exact M5 _,by rw[h6];exact h7⟩
  ·obtain⟨a,b,c,d⟩:=ih r hr
   exact⟨a,b,by omega,d⟩
theorem zfi.dist(hm:es.length<=65536){v r:Int}{rs:bV}(h:zfi es fs by' U3 ρ v (r::rs)):∀x∈rs,ixR x≠ixR r:=by
 cases h with
 | cons h1 h2 h3 h4 h5 h6 h7 h8 =>
  intro x hx e
  obtain⟨a,_,c,d⟩:=h8.rank x hx
  obtain⟨i,hi,ri⟩:=pJ h4
  obtain⟨j,hj,rj⟩:=pJ a
  have hij:i=j:=by
   rcases ri with rfl|rfl<;>rcases rj with rfl|rfl
   ·rw[ix0 (by omega),ix0 (by omega)] at e;omega
   ·rw[ix0 (by omega),ix1 (by omega)] at e;omega
   ·rw[ix1 (by omega),ix0 (by omega)] at e;omega
   ·rw[ix1 (by omega),ix1 (by omega)] at e;omega
  subst hij
  rcases ri with rfl|rfl<;>rcases rj with rfl|rfl
  ·rw[h6] at c;omega
  ·rw[xr0 hi (by omega)] at h7 c
   rw[xr1 hi (by omega),h6] at d
   omega
  ·rw[xr1 hi (by omega)] at h7 c
   rw[xr0 hi (by omega),h6] at d
   omega
  ·rw[h6] at c;omega
theorem He{gs:bV}(h:ziL es gs){r least:Int}(hr:cA es.length r)(hl:0<least)(hc:least<=zeO es gs r):
  ziL es (puF least gs r)/\∀w,zfd es (puF least gs r) w=zfd es gs w+((if gi es (xr r)=w then least else 0)-(if gi es r=w then least else 0)):=by
 have hs:=h.sz
 obtain⟨i,hi,hri⟩:=pJ hr
 have h1:=h.lo i hi
 have h2:=h.hi i hi
 have h3:=h.most i hi
 have hlen:=h.len
 have key:∀d:Int,0<=gs.getD i 0+d->gs.getD i 0+d<=(es.getD i ⟨0,0,0⟩).most->ziL es (gs.set i (gs.getD i 0+d)):=by
  intro d d0 d1
  refine⟨by simpa using hlen,hs,?_,?_,h.most⟩
  ·intro j hj
   rw[d9]
   split
   ·exact d0
   ·exact h.lo j hj
  ·intro j hj
   rw[d9]
   split
   ·rename_i hc;rw[<-hc.1];exact d1
   ·exact h.hi j hj
 rcases hri with rfl|rfl
 ·rw[cap0 h hi] at hc
  have e:puF least gs (2*(i:Int))=gs.set i (gs.getD i 0+least):=by
   unfold puF fA gZ
   rw[ix0 (by omega),N4,tn0]
   simp only
   rw[wrap_i64 (by omega) (by omega)]
  rw[e]
  refine⟨key least (by omega) (by omega),λw=>?_⟩
  rw[tb es gs i least w hlen hi,xr0 hi (by omega),end0 (by omega),end1 (by omega)]
 ·rw[cap1 (by omega)] at hc
  have e:puF least gs (2*(i:Int)+1)=gs.set i (gs.getD i 0+(-least)):=by
   unfold puF fA gZ
   rw[ix1 (by omega),N4,tn1]
   simp only
   rw[wrap_i64 (n:=0-least) (by omega) (by omega),wrap_i64 (by omega) (by omega)]
   congr 1;omega
  rw[e]
  refine⟨key (-least) (by omega) (by omega),λw=>?_⟩
  rw[tb es gs i (-least) w hlen hi,xr1 hi (by omega),end0 (by omega),end1 (by omega)]
  split<;>split<;>omega
theorem fA_pu{gs:bV}{least r x:Int}(hr:cA es.length r)(hx:cA es.length x)(hm:es.length<=65536)(Μ:ixR x≠ixR r):fA (puF least gs r) x=fA gs x:=by
 unfold fA puF
 rw[d9,if_neg]
 rintro⟨e,_⟩
 have h1:=(kL hr (by omega)).1
 have h2:=(kL hx (by omega)).1
 rw[h1,h2] at e
 rw[h1,h2] at Μ
 simp only[N4] at e
 exact Μ (by rw[e])
theorem L4{gs:bV}{x:Int}(h:fA gs x=fA fs x):zeO es gs x=zeO es fs x:=by unfold zeO;rw[h]
theorem vD(least:Int)(hl:0<least):∀(rs:bV) (v:Int) (gs:bV),zfi es fs by' U3 ρ v rs->ziL es gs->(∀r∈rs,fA gs r=fA fs r)->(∀r∈rs,least<=zeO es fs r) ->
  ziL es (rs.foldl (puF least) gs)/\∀w,zfd es (rs.foldl (puF least) gs) w=zfd es gs w+((if U3=w then least else 0)-(if v=w then least else 0))
 | [],v,gs,hp,h,_,_=>by
  cases hp
  exact⟨h,λw=>by simp only[List.foldl_nil];omega⟩
 | r::rs,v,gs,hp,h,hf,hc=>by
  have hd:=hp.dist h.sz
  have hk:=hp.rank
  cases hp with
  | cons h1 h2 h3 h4 h5 h6 h7 h8 =>
   obtain⟨a,b⟩:=He h h4 hl (by rw[L4 (hf r (by simp))];exact hc r (by simp))
   obtain⟨c,d⟩:=vD least hl rs _ (puF least gs r) h8 a (λx hx=>by
    rw[fA_pu h4 (hk x (by simp[hx])).1 h.sz (hd x hx)];exact hf x (by simp[hx])) (λx hx=>hc x (by simp[hx]))
   rw[Nn]
   refine⟨c,λw=>?_⟩
   rw[d w,b w,h6]
   omega
theorem Ie(h:ziL es fs){v:Int}{rs:bV}(hp:zfi es fs by' U3 ρ v rs):0<lsR es fs rs/\ziL es (puR es fs rs)/\∀w,zfd es (puR es fs rs) w=zfd es fs w+((if U3=w then lsR es fs rs else 0)-(if v=w then lsR es fs rs else 0)):=by
 obtain⟨a,_,c⟩:=DJ (es:=es) (fs:=fs) rs 1073741824 (by omega) (λr hr=>(hp.rank r hr).2.1)
 exact⟨a,vD _ a rs v fs hp h (λ_ _=>rfl) c⟩
end
def sumM:tO->Int
 | []=>0
 | x::es=>x.most+sumM es
theorem xn:∀(es:tO) (fs:bV) (w:Int),(∀i,i<es.length->0<=fs.getD i 0/\fs.getD i 0<=(es.getD i ⟨0,0,0⟩).most)->zfd es fs w<=sumM es
 | [],fs,w,_=>by cases fs<;>simp[zfd,sumM]
 | x::es,[],w,h=>by
  have h0:=h 0 (by simp)
  have h1:=xn es [] w (λi hi=>by have:=h (i+1) (by simpa using hi);simpa using this)
  simp only[RU,List.getD_nil] at h0
  have e:zfd es [] w=0:=by cases es<;>rfl
  simp only[zfd,sumM]
  omega
 | x::es,f::fs,w,h=>by
  have h0:=h 0 (by simp)
  have h1:=xn es fs w (λi hi=>by have:=h (i+1) (by simpa using hi);simpa using this)
  simp only[RU] at h0
  simp only[zfd,sumM]
  split<;>split<;>omega
section
variable {es:tO} {n:Nat} {U3 to:Int}
theorem Ig(hfr:0<=U3/\U3.toNat<n):SOk n (bs0 n es.length U3):=by
 refine⟨by simp[by0],by simp,by simp,?_,?_⟩
 ·intro v hv
  simp only[QF.list,OM] at hv
  subst hv;exact hfr
 ·have h1:unm (by0 n es.length U3)<=n:=by
   have:=List.countP_le_length (p:=λx:Int=>Zd (x<0)) (l:=by0 n es.length U3)
   unfold unm
   simpa[by0] using this
  simp only[PY];omega
theorem bs0_ti{fs:bV}(hm:es.length<=65536)(hfr:0<=U3/\U3.toNat<n):TI es fs n U3 (λ_=>0) (bs0 n es.length U3):=by
 have h0:(by0 n es.length U3).getD U3.toNat 0=2*(es.length:Int):=by
  unfold by0
  rw[d9,if_pos ⟨rfl,by simpa using hfr.2⟩,wrap_i64 (by omega) (by omega)];omega
 refine⟨by simp[by0],?_,?_,?_⟩
 ·simp only;rw[h0];omega
 ·intro v hv
  simp only[QF.list,OM] at hv
  subst hv
  simp only;rw[h0];omega
 ·intro v hv hmk Μ
  simp only at hmk
  unfold by0 at hmk
  rw[d9,if_neg (by rintro⟨e,_⟩;omega)] at hmk
  have:(MS n (-1:Int)).getD v 0 = -1:=by simp[Nb,hv]
  rw[this] at hmk
  omega
theorem L5(hm:es.length<=65536)(UY:∀x∈es,ef n x)(hfr:0<=U3/\U3.toNat<n)(fs:bV):∃k f ρ,Bfs (jb n es) es fs to k (bs0 n es.length U3) f/\TI es fs n U3 ρ f:=by
 have hB:∀B∈jb n es,∀r∈B,cA es.length r:=λB hb=>(xm n hm B hb).1
 obtain⟨k,f,hb⟩:=Id (fs:=fs) (to:=to) hm UY (ny n es) hB _ (bs0 n es.length U3) (So _) (Ig hfr)
 obtain⟨ρ,hT⟩:=TI.bfs (U3:=U3) hm UY (ny n es) hB (Hb hm UY) hb (Ig hfr) (bs0_ti hm hfr)
 exact⟨k,f,ρ,hb,hT⟩
structure zkp (es:tO) (U3 to:Int) (fs:bV):Prop where
 ok:ziL es fs
 cons:∀w,w≠U3->w≠to->zfd es fs w=0
theorem zkp.aug{fs by':bV}{ρ:Nat->Nat}{rs:bV}(h:zkp es U3 to fs)(hp:zfi es fs by' U3 ρ to rs):zkp es U3 to (puR es fs rs):=by
 obtain⟨_,b,c⟩:=Ie h.ok hp
 refine⟨b,λw h1 h2=>?_⟩
 rw[c w,if_neg (λe=>h1 e.symm),if_neg (λe=>h2 e.symm),h.cons w h1 h2]
 rfl
theorem Ih(hm:es.length<=65536)(UY:∀x∈es,ef n x)(hfr:0<=U3/\U3.toNat<n)(hto:0<=to/\to.toNat<n)(Μ:U3≠to):∀(m:Nat) (fs:bV),(sumM es-zfd es fs U3).toNat<m->zkp es U3 to fs ->
  ∃j g,ziJ (jb n es) es n U3 to j fs g/\zkp es U3 to g.1/\∃k f ρ,Bfs (jb n es) es g.1 to k (bs0 n es.length U3) f/\TI es g.1 n U3 ρ f/\f.1=g.2/\g.2.getD to.toNat 0<0
 | 0,fs,h,_=>absurd h (Qj _)
 | m+1,fs,h,hF=>by
  obtain⟨k,f,ρ,hb,hT⟩:=L5 (to:=to) hm UY hfr fs
  by_cases hx:f.1.getD to.toNat 0<0
  ·exact⟨0,(fs,f.1),.done hb hx,hF,k,f,ρ,hb,hT,rfl,hx⟩
  ·obtain⟨rs,hp⟩:=DI hm UY hT _ to (So _) hto.1 hto.2 (by omega)
   obtain⟨a,b,c⟩:=Ie hF.ok hp
   have hle:=xn es (puR es fs rs) U3 (λi hi=>⟨b.lo i hi,b.hi i hi⟩)
   have hc:=c U3
   rw[if_pos rfl,if_neg (λe=>Μ e.symm)] at hc
   obtain⟨j,g,h1,h2⟩:=Ih hm UY hfr hto Μ m (puR es fs rs) (by omega) (hF.aug hp)
   exact⟨j+1,g,.step hb hx hp.path h1,h2⟩
theorem flow0(hm:es.length<=65536)(h0:∀x∈es,0<=x.most/\x.most<=1073741824):zkp es U3 to (MS es.length 0):=by
 have hg:∀i,(MS es.length (0:Int)).getD i 0=0:=by
  intro i
  simp only[Nb,PH]
  split<;>rfl
 have hx:∀i,i<es.length->es.getD i ⟨0,0,0⟩∈es:=by
  intro i hi
  have:es.getD i ⟨0,0,0⟩=es[i]:=by simp[Nb,hi]
  rw[this];exact Qg hi
 refine⟨⟨by simp,hm,λi _=>by rw[hg];exact Int.le_refl _,λi hi=>by rw[hg];exact(h0 _ (hx i hi)).1,λi hi=>(h0 _ (hx i hi)).2⟩,λw _ _=>?_⟩
 have:∀(l:tO),zfd l (MS l.length 0) w=0:=by
  intro l
  induction l with
  | nil=>rfl
  | cons x l ih=>simp only[Nq,List.replicate_succ,zfd,ih];split<;>split<;>rfl
 exact this es
theorem L6(hm:es.length<=65536)(UY:∀x∈es,ef n x)(h0:∀x∈es,0<=x.most/\x.most<=1073741824)(hfr:0<=U3/\U3.toNat<n)(hto:0<=to/\to.toNat<n)(Μ:U3≠to):
  ∃j g,ziJ (jb n es) es n U3 to j (MS es.length 0) g/\zkp es U3 to g.1/\∃k f ρ,Bfs (jb n es) es g.1 to k (bs0 n es.length U3) f/\TI es g.1 n U3 ρ f/\f.1=g.2/\g.2.getD to.toNat 0<0 :=
 Ih hm UY hfr hto Μ _ _ (So _) (flow0 hm h0)
end
structure zfY where
 att:Int
 req:Int
 cr:Int
def zfY.row(e:zfY):dO:=[vi e.att,vi e.req,vi e.cr]
def jk(l:List zfY):List (bY):=l.map λe=>[SW e.att,SW e.req,SW e.cr]
theorem tc(l:List zfY)(a b c:Int):jk l++[(Zw a b c)]=jk (l++[⟨a,b,c⟩]):=by simp[jk]
theorem Hf(l:List zfY):(jk l).length=l.length:=by simp[jk]
theorem gM(f:Ref->D)(l:List zfY):(jk l).map (N8 f)=jk l:=by simp[jk,N8,D.UG]
theorem kQ(n:Nat)(l:List zfY):(jk l).all (Ob n)=true:=by simp[jk,Ob,D.inn]
theorem Hg(l:List zfY):jk l=(l.map zfY.row).map (·.map .p):=by simp[jk,zfY.row]
abbrev auH(p:TO)(fl:bV)(ms:Int)(cut:Bv):aT:=[.var p.l,.var [nq,SW 0,nq],.var [SW 0],.var [ab (aW fl)],.var [nq,SW ms,ab (ce cut)]]
abbrev YX:Nat×D:=(4,.ref (.ptr 1 0))
abbrev Xq:Nat×D:=(10,.ref (.ptr 4 0))
abbrev auS(p:TO)(l:iF)(fl:bV)(ms:Int)(cut:Bv)(i:Int):AS:={t:=Ue 84 0 [(VE 1 l),ZP,YX,ZJ,ZW,Xq,(41,ab (XE p)),(42,(zcS (XE p))),(43,SW i)],h:=auH p fl ms cut,m:=[]}
abbrev auE(p:TO)(l:iF)(fl:bV)(ms:Int)(cut:Bv):AS:={t:=Ue 84 0 [(VE 1 l),ZP,YX,ZJ,ZW,Xq],h:=auH p fl ms cut,m:=[]}
def auF(ms:Int)(q:UA):Int:=ML.wrap (ms+q.To)
abbrev zdq(c:bY)(d:Int):aT:=[.var c,.var [nq,SW 0,nq],.var [SW d]]
abbrev VF(a:TO)(b:Int):aT:=(zdq a.l b)
theorem L7{p:TO}{l:iF}{fl:bV}{cut:Bv}{ms:Int}{q:UA}{i:Nat}{h0:aT}(_:h0.length<=5)(hr:ax (i:Int) (p.reqs.map M0) q.row 6)(U8:Zd ((i:Int)<((p.reqs.map M0).length:Int))=true)(hw:ML.wrap ((i:Int)+1)=((i+1:Nat):Int)):(CW MJ U2 [.var p.l,.var [nq,SW 0,nq],.var [SW 0]] false (sub Nw 0) (auS p l fl ms cut i) .normal (auS p l fl (auF ms q) cut ((i+1:Nat):Int))):=by
 refine zX {t:=Ue 84 0 [(1,ab (MK MQ l)),(2,.ref (.ptr 0 0)),(4,.ref (.ptr 1 0)),(5,.ref (.ptr 2 0)),(8,.ref (.ptr 3 0)),(10,.ref (.ptr 4 0)),(41,ab (MK M0 p.reqs)),(42,SW (↑(MO (MK M0 p.reqs)):Int)),(43,SW (MN ML ((↑i:Int)+1)))],h:=[.var [ak p.nm,SW p.number,SW p.UC,SW p.UL,SW p.num,SW p.den,ab (MK M0 p.reqs)],.var [nq,SW 0,nq],.var [SW 0],.var [ab (aW fl)],.var [nq,SW (MN ML (ms+q.To)),ab (ce cut)]],m:=[]} M6 [.st (.mask [1,2,4,5,8,10,41,42,43]),.st (.trim 5)] [.b true,.row [vs q.nm,vi q.To,vi q.Uf,Dp.v (Value.bool q.home),Dp.sl q.names,Dp.sl (aW q.U3)]] (.c U8 (.c hr .n)) ?_ ?_<;>(first|rfl|(rw[hw]<;>rfl))
theorem L8{p:TO}{l:iF}{fl:bV}{cut:Bv}{ms:Int}{i:Nat}(U8:Zd ((i:Int)<((XE p).length:Int))=false):(CW MJ U2 (VF p 0) false (sub Nw 0) (auS p l fl ms cut i) (.exit 0) (auE p l fl ms cut)):=by
 exact zx [.st (.mask [1,2,4,5,8,10])] [.b false] (.c U8 .n)
theorem au_cw{p:TO}{l:iF}{fl:bV}{cut:Bv}(hn:p.reqs.length<=100):CW MJ U2 (VF p 0) false (.loop (sub Nw 0)) (auS p l fl 0 cut 0) (.exit 0) (auE p l fl (p.reqs.foldl auF 0) cut):=by
 have:=PU (P:=MJ) (Γ:=U2) (h0:=(VF p 0)) (rd:=false) (c:=sub Nw 0) (σ:=Int) (ρ:=Empty) p.reqs (λq s=>.inl (auF s q))
  (λi s=>auS p l fl s cut (i:Int)) (.exit 0) (λs=>auE p l fl s cut) (λr=>r.elim) (λ_ _=>True) (by simp) (λr=>r.elim) ?_ ?_ 0 trivial
 ·rw[aY] at this
  exact this
 ·intro i q s hq _
  have hi:=(MR.1 hq).1
  exact⟨λ_ _=>trivial,L7 (h0:=[]) (by simp) (rowAt hq rfl) (UO M0 hi) (Uo hi (by omega))⟩
 ·intro s _
  exact L8 (bl M0 p.reqs)
structure AuS where
 us:List zfY
 ms:Int
 at_:Int
abbrev Xo:bY:=(zcB 8 7)
abbrev X6:Nat×D:=(13,.ref (.ptr 5 0))
abbrev apT:bY:=Ue 84 0 [YX,ZJ,ZW,Xq,X6,(58,.fn (.func 110) [] Xo)]
noncomputable abbrev apL(st:LoopState):Uc:=.loop st none 0 apT #[59,60] (ar (sub Nw 1)) (af (sub Nw 1))
abbrev XL(a:Nat)(b:Int)(c:Bv):bY:=[.ref (.T7 6 a),SW b,ab (ce c)]
noncomputable abbrev apH(p:TO)(l:iF)(fl:bV)(cut:Bv)(s:AuS)(e:Nat)(st:LoopState)(more:aT):aT:=[.var p.l,.var [nq,SW 0,nq],.var [SW 0],.var [ab (aW fl)],.var (XL e s.ms cut),.var [SW s.at_],.T7 (jk s.us) e 3,.var p.l,.var (Wr l),.Ut,apL st]++more
abbrev apU(i k:Int):bY:=Ue 84 0 [YX,ZJ,ZW,Xq,X6,(14,SW i),(15,SW k)]
def apF(_:bV)(i k f:Int)(s:AuS):AuS:=match Zd (f>0) with
 | true=>⟨s.us++[⟨i,k,f⟩],ML.wrap (s.ms-f),ML.wrap (s.at_+1)⟩
 | false=>⟨s.us,s.ms,ML.wrap (s.at_+1)⟩
theorem Ii{p:TO}{l:iF}{fl:bV}{cut:Bv}{s:AuS}{i k:Int}{a:Uj}:(CW MJ U2 (apH p l fl cut s 1 .ready (YU a)) true (ar (sub Nw 1)) {t:=dW apT [(59,SW i),(60,SW k)],h:=apH p l fl cut s 1 .ready (YU a),m:=[]} .normal {t:=apU i k,h:=apH p l fl cut s 1 .ready (YU a),m:=[]}):=by
 exact zx [.st (.mask [4,5,8,10,13,14,15])] [] .n
theorem ap_no{p:TO}{l:iF}{fl:bV}{cut:Bv}{s:AuS}{i k f:Int}{a:Uj}(hf:ax s.at_ (aW fl) [vi f] 1)(hg:Zd (f>0)=false):(CW MJ U2 (apH p l fl cut s 1 .ready (YU a)) true (af (sub Nw 1)) {t:=apU i k,h:=apH p l fl cut s 1 .busy (YU a),m:=[]} .normal {t:=Ue 84 0 [],h:=apH p l fl cut ⟨s.us,s.ms,ML.wrap (s.at_+1)⟩ 2 .busy (YU a),m:=[]}):=by
 exact zx [.st (.mask []),.st (.ren 6 2)] [.row [vi f],.b false] (.c hf (.c hg (.c (show MK (N8 (a8 6 1 2)) (jk s.us)=jk s.us from(by first|assumption|rfl|exact gM _ _)) .n)))
abbrev Vf:Uc:=(.var [nq,SW 0,nq])
abbrev Vr:Uc:=(.var [SW 0])
abbrev zdT:bY:=(Ue 84 0 [YX,ZJ,ZW,Xq,X6,(58,Oe (M7 110) [] Xo)])
abbrev zcs:bY:=zdT
theorem ap_yes{p:TO}{l:iF}{fl:bV}{cut:Bv}{s:AuS}{i k f:Int}{a:Uj}(hf:ax s.at_ (aW fl) [vi f] 1)(hg:Zd (f>0)=true)(hl:s.us.length<=1000000):(CW MJ U2 (apH p l fl cut s 1 .ready (YU a)) true (af (sub Nw 1)) {t:=apU i k,h:=apH p l fl cut s 1 .busy (YU a),m:=[]} .normal {t:=Ue 84 0 [],h:=apH p l fl cut ⟨s.us++[⟨i,k,f⟩],ML.wrap (s.ms-f),ML.wrap (s.at_+1)⟩ 2 .busy (YU a),m:=[]}):=by
 let v0:=MK M0 p.reqs
 let v1:bY:=(XL 2 (MN ML (s.ms-f)) cut)
 let v2:bY:=(Zf a)
 refine zX {t:=Ue 84 0 [],h:=[.var (Zb p v0),.var [nq,SW 0,nq],.var [SW 0],.var [ab (aW fl)],.var v1,.var [(WJ s.at_)],.T7 (jk s.us++[(Zw i k f)]) 2 3,.var (Zb p v0),.var (WC l),.Ut,.loop NJ none 0 zdT Xe (ar (sub Nw 1)) (af (sub Nw 1)),.var v2],m:=[]} M6 (za8 12) [.row [vi f],.b true] (.c hf (.c hg (.c (show(List.all [(Zw i k f)] (aR 3)&&Um (MO (jk s.us)+MO [(Zw i k f)]) 24)=true from ?_) (.c (iqT 12 (.var (Zb p v0))) (.c (iqT 12 Vf) (.c (iqT 12 Vr) (.c (iqT 12 (.var [ab (aW fl)])) (.c (iqT 12 (.var v1)) (.c (iqT 12 (.var [(WJ s.at_)])) (.c (show MY 12 (.T7 (jk s.us++[(Zw i k f)]) 2 3)=true from ?_) (.c (iqT 12 (.var (Zb p v0))) (.c (iqT 12 (.var (WC l))) (.c (iqT 12 .Ut) (.c (iqT 12 (.loop NJ none 0 zcs Xe (ar (sub Nw 1)) (af (sub Nw 1)))) (.c (iqT 12 (.var v2)) .n))))))))))))))) (by subst v0 v1 v2;simp only[];first|done|rfl) (by subst v0 v1 v2;simp only[tc];first|done|rfl)<;>subst v0 v1 v2<;>(first|assumption|rfl|exact gM _ _|exact kQ _ _|(rw[tc];exact gM _ _)|(rw[tc];exact kQ _ _)|(simp[aR,D.one,Value.oneCell',Um,Hf];omega))
theorem L9{p:TO}{l:iF}{fl:bV}{cut:Bv}{s:AuS}{i k f:Int}{a:Uj}(hf:ax s.at_ (aW fl) [vi f] 1)(hl:s.us.length<=1000000):Iv MJ U2 (.ref (.yl 10)) [SW i,SW k] (apH p l fl cut s 1 .ready (YU a)) (T6 true) (apH p l fl cut (apF fl i k f s) 2 .ready (YU a)):=by
 unfold apF
 cases hg:Zd (f>0) with
 | true=>exact Iv.round (h1:=apH p l fl cut s 1 .ready (YU a)) rfl rfl Ii rfl (ap_yes hf hg hl) rfl
 | false=>exact Iv.round (h1:=apH p l fl cut s 1 .ready (YU a)) rfl rfl Ii rfl (ap_no hf hg) rfl
abbrev zaE:Nat×D:=(1,.ref (.ptr 8 0))
abbrev zaF:Nat×D:=(2,.ref (.ptr 7 0))
noncomputable abbrev a2S(p:TO)(l:iF)(fl:bV)(cut:Bv)(a:Uj)(ks:bV)(i:Int)(s:AuS)(j:Int):AS:={t:=Ue 30 0 [(zc4 10),zaE,zaF,(4,SW i),(VE 8 l),(9,(WP l)),(10,SW i),(17,ab (aW ks)),(18,(zcS (aW ks))),(19,SW j)],h:=apH p l fl cut s 1 .ready (YU a),m:=[]}
noncomputable abbrev a2E(p:TO)(l:iF)(fl:bV)(cut:Bv)(a:Uj)(i:Int)(s:AuS):AS:={t:=(Xb 10 8 7 l i),h:=apH p l fl cut s 1 .ready (YU a),m:=[]}
theorem Ma{p:TO}{l:iF}{fl:bV}{cut:Bv}{a:Uj}{ks:bV}{s0 s:AuS}{i k f:Int}{j:Nat}(hf:ax s.at_ (aW fl) [vi f] 1)(hk:ax (j:Int) (aW ks) [vi k] 1)(U8:Zd ((j:Int)<((aW ks).length:Int))=true)(hw:ML.wrap ((j:Int)+1)=((j+1:Nat):Int))(hl:s.us.length<=1000000):(CW MJ U2 (apH p l fl cut s0 0 .ready []) false (sub Pi 1) (a2S p l fl cut a ks i s j) .normal (a2S p l fl cut a ks i (apF fl i k f s) ((j+1:Nat):Int))):=by
 let v0:=MK M0 p.reqs
 let v1:bY:=[SW a.T5,SW a.T4,SW a.Uf,SW a.UK,SW a.To]
 refine zX {t:=Ue 30 0 [(0,.ref (.yl 10)),(1,.ref (.ptr 8 0)),(2,.ref (.ptr 7 0)),(4,SW i),(8,ab (MK MQ l)),(9,SW (↑(MO (MK MQ l)):Int)),(10,SW i),(17,ab (aW ks)),(18,SW (↑(MO (aW ks)):Int)),(19,SW (MN ML ((↑j:Int)+1)))],h:=[.var [ak p.nm,SW p.number,SW p.UC,SW p.UL,SW p.num,SW p.den,ab v0],.var [nq,SW 0,nq],.var [SW 0],.var [ab (aW fl)],.var [.ref (.T7 6 1),SW (apF fl i k f s).ms,ab (ce cut)],.var [SW (apF fl i k f s).at_],.T7 (jk (apF fl i k f s).us) 1 3,.var [ak p.nm,SW p.number,SW p.UC,SW p.UL,SW p.num,SW p.den,ab v0],.var [ab (MK MQ l)],.Ut,.loop Nl none 0 (Ue 84 0 [(4,.ref (.ptr 1 0)),(5,.ref (.ptr 2 0)),(8,.ref (.ptr 3 0)),(10,.ref (.ptr 4 0)),(13,.ref (.ptr 5 0)),(58,Oe (M7 110) [] [.ref (.ptr 8 0),.ref (.ptr 7 0)])]) {toList:=[59,60]} (ar (sub Nw 1)) (af (sub Nw 1)),.var v1],m:=[]} M6 [.st (.mask [0,1,2,4,8,9,10,17,18,19]),.st (.ren 6 1)] [.b true,.row [vi k],.inv (T6 true) [.var [ak p.nm,SW p.number,SW p.UC,SW p.UL,SW p.num,SW p.den,ab v0],.var [nq,SW 0,nq],.var [SW 0],.var [ab (aW fl)],.var [.ref (.T7 6 2),SW (apF fl i k f s).ms,ab (ce cut)],.var [SW (apF fl i k f s).at_],.T7 (jk (apF fl i k f s).us) 2 3,.var [ak p.nm,SW p.number,SW p.UC,SW p.UL,SW p.num,SW p.den,ab v0],.var [ab (MK MQ l)],.Ut,.loop Nl none 0 (Ue 84 0 [(4,.ref (.ptr 1 0)),(5,.ref (.ptr 2 0)),(8,.ref (.ptr 3 0)),(10,.ref (.ptr 4 0)),(13,.ref (.ptr 5 0)),(58,Oe (M7 110) [] [.ref (.ptr 8 0),.ref (.ptr 7 0)])]) {toList:=[59,60]} (ar (sub Nw 1)) (af (sub Nw 1)),.var v1],.b false] (.c U8 (.c hk (.c (@L9 p l fl cut s i k f a hf hl) (.c (show(!true)=false from rfl) (.c (show MK (N8 (a8 6 2 1)) (jk (apF fl i k f s).us)=jk (apF fl i k f s).us from(by subst v0 v1;first|assumption|rfl|exact gM _ _|exact kQ _ _|omega)) .n))))) ?_ ?_<;>subst v0 v1<;>(first|rfl|(rw[hw]<;>rfl))
theorem Mb{p:TO}{l:iF}{fl:bV}{cut:Bv}{a:Uj}{ks:bV}{s0 s:AuS}{i:Int}{j:Nat}(U8:Zd ((j:Int)<((aW ks).length:Int))=false):(CW MJ U2 (apH p l fl cut s0 0 .ready []) false (sub Pi 1) (a2S p l fl cut a ks i s j) (.exit 2) (a2E p l fl cut a i s)):=by
 exact zx [.st (.mask [0,1,2,8,9,10])] [.b false] (.c U8 .n)
def apG(fl:bV)(i:Int)(s:AuS)(k:Int):AuS:=apF fl i k (fl.getD s.at_.toNat 0) s
theorem Ij{fl:bV}{i k:Int}{s:AuS}{c:Nat}(h:s.at_=c)(hc:c<=1000000):(apG fl i s k).at_=((c+1:Nat):Int):=by
 have hw:ML.wrap (s.at_+1)=((c+1:Nat):Int):=by rw[h];exact wrap_i64 (by omega) (by omega)
 unfold apG apF
 split<;>exact hw
theorem Ik{fl:bV}{i k:Int}{s:AuS}:(apG fl i s k).us.length<=s.us.length+1:=by
 unfold apG apF
 split
 ·simp
 ·simp only;omega
theorem apGs{fl:bV}{i:Int}:∀(ks:bV) (s:AuS) (c:Nat),s.at_=c->c+ks.length<=1000000->(ks.foldl (apG fl i) s).at_=((c+ks.length:Nat):Int)/\(ks.foldl (apG fl i) s).us.length<=s.us.length+ks.length
 | [],s,c,h,_=>⟨h,by simp⟩
 | k::ks,s,c,h,hc=>by
  simp only[Nq] at hc
  obtain⟨a,b⟩:=apGs ks (apG fl i s k) (c+1) (Ij h (by omega)) (by omega)
  have:=Ik (fl:=fl) (i:=i) (k:=k) (s:=s)
  rw[Nn]
  refine⟨by rw[a,Nq];congr 1;omega,?_⟩
  simp only[Nq];omega
theorem a2_cw{p:TO}{l:iF}{fl:bV}{cut:Bv}{a:Uj}{ks:bV}{s0 s:AuS}{i:Int}{c:Nat}(hs:s.at_=c)(hb:c+ks.length<=fl.length)(hfl:fl.length<=100000)(hus:s.us.length<=100000):CW MJ U2 (apH p l fl cut s0 0 .ready []) false (.loop (sub Pi 1)) (a2S p l fl cut a ks i s 0) (.exit 2) (a2E p l fl cut a i (ks.foldl (apG fl i) s)):=by
 have:=PU (P:=MJ) (Γ:=U2) (h0:=apH p l fl cut s0 0 .ready []) (rd:=false) (c:=sub Pi 1) (σ:=AuS) (ρ:=Empty) ks (λk s=>.inl (apG fl i s k))
  (λj s=>a2S p l fl cut a ks i s (j:Int)) (.exit 2) (λs=>a2E p l fl cut a i s) (λr=>r.elim) (λj s=>s.at_=((c+j:Nat):Int)/\s.us.length<=100000+j) (by simp) (λr=>r.elim) ?_ ?_ s ⟨by simpa using hs,by omega⟩
 ·rw[aY] at this
  exact this
 ·rintro j k s hk ⟨h1,h2⟩
  have hi:=(MR.1 hk).1
  have hg:fl[c+j]? = some (fl.getD s.at_.toNat 0):=by
   rw[h1,N4]
   simp only[Nb,List.getElem?_eq_getElem (show c+j<fl.length by omega),Option.getD_some]
  have hf:=rowAt (row:=λn:Int=>[vi n]) (sz:=1) hg rfl
  rw[<-h1] at hf
  refine⟨λs' h=>?_,Ma hf (rowAt (row:=λn:Int=>[vi n]) hk rfl) (UO (λn:Int=>[vi n]) hi) (Uo hi (by omega)) (by omega)⟩
  cases h
  refine⟨Ij h1 (show c+j<=1000000 by omega),?_⟩
  have:=Ik (fl:=fl) (i:=i) (k:=k) (s:=s)
  omega
 ·intro s _
  exact Mb (bl (λn:Int=>[vi n]) ks)
noncomputable abbrev a3S(p:TO)(l:iF)(fl:bV)(cut:Bv)(s:AuS)(i:Int):AS:=(Y4 10 8 7 l i (apH p l fl cut s 1 .ready []))
noncomputable abbrev a3E(p:TO)(l:iF)(fl:bV)(cut:Bv)(s:AuS):AS:=(Xy 30 (apH p l fl cut s 1 .ready []))
def a3F(p:TO)(fl:bV)(s:AuS×Int)(a:Uj):AuS×Int:=((elR p a).foldl (apG fl s.2) s.1,s.2+1)
noncomputable abbrev AD(p:TO)(l:iF)(fl:bV)(cut:Bv)(a:Uj)(s:AuS):aT:=[.var (Zc p),.var [nq,SW 0,nq],.var [SW 0],.var [ab (aW fl)],.var (XL 1 s.ms cut),.var [SW s.at_],.T7 (jk s.us) 1 3,.var (Zc p),.var (WC l),.Ut,.loop Nl none 0 zdT Xe (ar (sub Nw 1)) (af (sub Nw 1)),.var (Zf a)]
abbrev zd4(a:bY):bY:=Ue 84 0 [YX,ZJ,ZW,Xq,X6,(Vo a)]
theorem Mc{p:TO}{l:iF}{fl:bV}{cut:Bv}{a:Uj}{s0 s:AuS}{i:Nat}(hp:p.ok)(hn:p.reqs.length<=1000)(hr:ax (i:Int) (l.map MQ) a.row 5)(U8:Zd ((i:Int)<((l.map MQ).length:Int))=true)(hw:ML.wrap ((i:Int)+1)=((i+1:Nat):Int))
  (hcw:CW MJ U2 (apH p l fl cut s0 0 .ready []) false (.loop (sub Pi 1)) (a2S p l fl cut a (elR p a) i s 0) (.exit 2) (a2E p l fl cut a i ((elR p a).foldl (apG fl (i:Int)) s))):(CW MJ U2 (apH p l fl cut s0 0 .ready []) false (sub Pi 0) (a3S p l fl cut s i) .normal (a3S p l fl cut (a3F p fl (s,(i:Int)) a).1 ((i+1:Nat):Int))):=by
 have UE:=(@hcw)
 let v0:=MK M0 p.reqs
 let v1:bY:=[.ref (.ptr 8 0),.ref (.ptr 7 0)]
 refine zX {t:=Ue 30 0 [(0,.ref (.yl 10)),(1,.ref (.ptr 8 0)),(2,.ref (.ptr 7 0)),(8,ab (MK MQ l)),(9,SW (↑(MO (MK MQ l)):Int)),(10,SW (MN ML ((↑i:Int)+1)))],h:=[.var [ak p.nm,SW p.number,SW p.UC,SW p.UL,SW p.num,SW p.den,ab v0],.var [nq,SW 0,nq],.var [SW 0],.var [ab (aW fl)],.var [.ref (.T7 6 1),SW (ND (apG fl (↑i:Int)) s (elR p a)).ms,ab (ce cut)],.var [SW (ND (apG fl (↑i:Int)) s (elR p a)).at_],.T7 (jk (ND (apG fl (↑i:Int)) s (elR p a)).us) 1 3,.var [ak p.nm,SW p.number,SW p.UC,SW p.UL,SW p.num,SW p.den,ab v0],.var [ab (MK MQ l)],.Ut,.loop Nl none 0 (Ue 84 0 [(4,.ref (.ptr 1 0)),(5,.ref (.ptr 2 0)),(8,.ref (.ptr 3 0)),(10,.ref (.ptr 4 0)),(13,.ref (.ptr 5 0)),(58,Oe (M7 110) [] v1)]) {toList:=[59,60]} (ar (sub Nw 1)) (af (sub Nw 1))],m:=[]} M6 [.st (.mask [0,1,2,8,9,10]),.st (.UN 11)] [.b true,.row (MQ a),.val (ab (aW (elR p a))),.sum [0,1,2,4,8,9,10,17,18,19] (NR 2) {t:=Ue 30 0 [(0,.ref (.yl 10)),(1,.ref (.ptr 8 0)),(2,.ref (.ptr 7 0)),(8,ab (MK MQ l)),(9,SW (↑(MO (MK MQ l)):Int)),(10,SW (↑i:Int))],h:=[.var [ak p.nm,SW p.number,SW p.UC,SW p.UL,SW p.num,SW p.den,ab v0],.var [nq,SW 0,nq],.var [SW 0],.var [ab (aW fl)],.var [.ref (.T7 6 1),SW (ND (apG fl (↑i:Int)) s (elR p a)).ms,ab (ce cut)],.var [SW (ND (apG fl (↑i:Int)) s (elR p a)).at_],.T7 (jk (ND (apG fl (↑i:Int)) s (elR p a)).us) 1 3,.var [ak p.nm,SW p.number,SW p.UC,SW p.UL,SW p.num,SW p.den,ab v0],.var [ab (MK MQ l)],.Ut,.loop Nl none 0 (Ue 84 0 [(4,.ref (.ptr 1 0)),(5,.ref (.ptr 2 0)),(8,.ref (.ptr 3 0)),(10,.ref (.ptr 4 0)),(13,.ref (.ptr 5 0)),(58,Oe (M7 110) [] v1)]) {toList:=[59,60]} (ar (sub Nw 1)) (af (sub Nw 1)),.var [SW a.T5,SW a.T4,SW a.Uf,SW a.UK,SW a.To]],m:=[]}] (.c U8 (.c hr (.c (@pE p hp hn a (AD p l fl cut a s)) (.c UE (.c (iqT 11 (.var [ak p.nm,SW p.number,SW p.UC,SW p.UL,SW p.num,SW p.den,ab v0])) (.c (iqT 11 (.var [nq,SW 0,nq])) (.c (iqT 11 (.var [SW 0])) (.c (iqT 11 (.var [ab (aW fl)])) (.c (iqT 11 (.var [.ref (.T7 6 1),SW (ND (apG fl (↑i:Int)) s (elR p a)).ms,ab (ce cut)])) (.c (iqT 11 (.var [SW (ND (apG fl (↑i:Int)) s (elR p a)).at_])) (.c (show MY 11 (.T7 (jk (ND (apG fl (↑i:Int)) s (elR p a)).us) 1 3)=true from(by subst v0 v1;first|assumption|rfl|exact gM _ _|exact kQ _ _|omega)) (.c (iqT 11 (.var [ak p.nm,SW p.number,SW p.UC,SW p.UL,SW p.num,SW p.den,ab v0])) (.c (iqT 11 (.var [ab (MK MQ l)])) (.c (iqT 11 .Ut) (.c (iqT 11 (.loop Nl none 0 (Ue 84 0 [(4,.ref (.ptr 1 0)),(5,.ref (.ptr 2 0)),(8,.ref (.ptr 3 0)),(10,.ref (.ptr 4 0)),(13,.ref (.ptr 5 0)),(58,Oe (M7 110) [] v1)]) {toList:=[59,60]} (ar (sub Nw 1)) (af (sub Nw 1)))) .n))))))))))))))) ?_ ?_<;>subst v0 v1<;>(first|rfl|(simp only[a3F,hw];first|done|rfl))
theorem Md{p:TO}{l:iF}{fl:bV}{cut:Bv}{s0 s:AuS}{i:Nat}(U8:Zd ((i:Int)<((l.map MQ).length:Int))=false):(CW MJ U2 (apH p l fl cut s0 0 .ready []) false (sub Pi 0) (a3S p l fl cut s i) (.exit 0) (a3E p l fl cut s)):=by
 exact zx Xd [.b false] (.c U8 .n)
def gg(p:TO)(l:iF):Nat:=(l.map λa=>(elR p a).length).sum
theorem a3_cw{p:TO}(hp:p.ok){l:iF}{fl:bV}{cut:Bv}{s0 s:AuS}{c:Nat}(hn:p.reqs.length<=100)(hl:l.length<=4096)(hs:s.at_=c)(hb:c+gg p l<=fl.length)(hfl:fl.length<=65536)(hus:s.us=[]):CW MJ U2 (apH p l fl cut s0 0 .ready []) false (.loop (sub Pi 0)) (a3S p l fl cut s 0) (.exit 0) (a3E p l fl cut (l.foldl (a3F p fl) (s,0)).1):=by
 have:=PU (P:=MJ) (Γ:=U2) (h0:=apH p l fl cut s0 0 .ready []) (rd:=false) (c:=sub Pi 0) (σ:=AuS×Int) (ρ:=Empty) l (λa s=>.inl (a3F p fl s a))
  (λi s=>a3S p l fl cut s.1 (i:Int)) (.exit 0) (λs=>a3E p l fl cut s.1) (λr=>r.elim) (λi s=>s.2=i/\∃c:Nat,s.1.at_=c/\c+gg p (l.drop i)<=fl.length/\s.1.us.length<=c) (by simp) (λr=>r.elim) ?_ ?_ (s,0) ⟨by simp,c,hs,by simpa using hb,by simp[hus]⟩
 ·rw[aY] at this
  exact this
 ·rintro i a ⟨s,k⟩ hc ⟨hk,c,h1,h2,h3⟩
  simp only at hk h1 h3
  subst hk
  have hi:=(MR.1 hc).1
  have hd:l.drop i=a::l.drop (i+1):=by
   rw[List.drop_eq_getElem_cons hi]
   congr 1
   exact(MR.1 hc).2
  have h4:gg p (l.drop i)=(elR p a).length+gg p (l.drop (i+1)):=by rw[hd];simp[gg]
  have h5:=sZ p a
  refine⟨λs' h=>?_,Mc hp (by omega) (rowAt hc rfl) (UO MQ hi) (Uo hi (by omega)) (a2_cw (s:=s) h1 (show c+(elR p a).length<=fl.length by omega) (by omega) (show s.us.length<=100000 by omega))⟩
  cases h
  obtain⟨g1,g2⟩:=apGs (fl:=fl) (i:=(i:Int)) (elR p a) s c h1 (by omega)
  exact⟨by simp[a3F],c+(elR p a).length,g1,by omega,by simp only[a3F];omega⟩
 ·intro s _
  exact Md (bl MQ l)
theorem Hh{p:TO}{l:iF}{fl:bV}{cut:Bv}{s0 s:AuS}
  (hcw:CW MJ U2 (apH p l fl cut s0 0 .ready []) false (.loop (sub Pi 0)) (a3S p l fl cut s0 0) (.exit 0) (a3E p l fl cut s)):(Ev MJ U2 110 (WT 10 8 7) (apH p l fl cut s0 0 .ready []) (.UI []) (apH p l fl cut s 1 .ready [])):=by
 have UE:=(@hcw)
 let v0:aT:=[.var (Zc p),.var [nq,SW 0,nq],.var [SW 0],.var [ab (aW fl)],.var (XL 1 s.ms cut),.var [SW s.at_],.T7 (jk s.us) 1 3,.var (Zc p),.var (WC l),.Ut,.loop Nl none 0 zdT Xe (ar (sub Nw 1)) (af (sub Nw 1))]
 exact Na (Ev.zet (h':=v0) (d:=NG []) UR [.nx 1,.st (.ren 6 1),.sum [0,1,2,8,9,10] (NR 0) (Yn 30 v0)] (by kernel_rfl) (.c (show MK (N8 (a8 6 0 1)) (jk s0.us)=jk s0.us from(by subst v0;first|assumption|rfl|exact gM _ _|exact kQ _ _|omega)) (.c UE .n))) (by rfl) (by rfl)
abbrev zc2(a:TO)(b:bV)(c:Int)(d:Bv)(e:D)(f:List (bY))(g:iF):aT:=[.var a.l,.var [nq,SW 0,nq],.var [SW 0],.var [ab (aW b)],.var (XL 0 c d),.var [e],.T7 f 0 3,.var a.l,.var (Wr g)]
noncomputable abbrev apH0(p:TO)(l:iF)(fl:bV)(cut:Bv)(s:AuS):aT:=(zc2 p fl s.ms cut (SW s.at_) (jk s.us) l)
theorem Me{p:TO}(hp:p.ok){l:iF}{fl:bV}{cut:Bv}{s:AuS}{c:Nat}{h0:aT}(hn:p.reqs.length<=100)(hl:l.length<=4096)(hs:s.at_=c)(hb:c+gg p l<=fl.length)(hfl:fl.length<=65536)(hus:s.us=[]):CW MJ U2 h0 false (sub Nw 1) {t:=apT,h:=apH0 p l fl cut s,m:=[]} .normal
  {t:=apT,h:=apH p l fl cut (l.foldl (a3F p fl) (s,0)).1 1 .exhausted [],m:=[9]} :=
 CW.rangeFunc (f:=110) (fi:=[]) (ca:=Xo) UR (s:={t:=apT,h:=apH0 p l fl cut s,m:=[]}) (g:=.tmp 58) (ps:=#[59,60]) (asg:=ar (sub Nw 1)) (body:=af (sub Nw 1)) rfl (by kernel_rfl) (Hh (a3_cw hp hn hl hs hb hfl hus)) rfl
theorem gN(h:aT):(Ev MJ U2 25 [SW 0] h (.UI []) h):=by
 exact z0 [.inl,.b false] (.c (show(!0==0)=false from rfl) .n) h
abbrev adT(l:iF):bY:=Ue 84 0 [(VE 1 l),ZP,YX,ZJ]
abbrev adH(p:TO)(e:Int):aT:=(VF p e)
noncomputable abbrev Hi(p:TO)(fl:bV):aT:=[.var (Zc p),.var [nq,SW 0,nq],.var [SW 0],.var [ab (aW fl)]]
noncomputable abbrev te(p:TO):aT:=(zdq (Zc p) 0)
abbrev Vq(a:AuS)(b:Bv):bY:=[ab (a.us.map zfY.row),SW a.ms,ab (ce b)]
abbrev zbA(a:iF)(b:TO):AS:={t:=adT a,h:=adH b 0,m:=[]}
abbrev zdl(a:Int)(b:tO):bY:=[SW a,(WO b),SW 0,SW (ML.wrap (a-1))]
abbrev zdD(a:Int)(b:tO)(c:Int):D:=(.UI [SW a,(WO b),SW c])
theorem ad_ok{p:TO}{l:iF}{es:tO}{n ms:Int}{fl:bV}{cut:Bv}{s:AuS}
  (zhy:∀h,Ev MJ U2 14 (XD p l) h (zdD n es 0) h)
  (zkb:∀h,Ev MJ U2 47 (zdl n es) h (.UI (zbc fl cut)) h)
  (hl1:CW MJ U2 (adH p 0) false (.loop (sub Nw 0)) (auS p l fl 0 cut 0) (.exit 0) (auE p l fl ms cut))
  (hrf:CW MJ U2 (adH p 0) false (sub Nw 1) {t:=apT,h:=(zc2 p fl ms cut (WP l) [] l),m:=[]} .normal {t:=apT,h:=apH p l fl cut s 1 .exhausted [],m:=[9]}):(CW MJ U2 (adH p 0) false (cR (cR (au Nw))) (zbA l p) .ret
   {t:=Ue 84 0 [YX,ZJ],h:=[.var p.l,.var (Vq s cut),.var [SW 0],.var [ab (aW fl)],.var (Vq s cut),.var [SW s.at_],.U7,.var p.l,.var (Wr l),.Ut,apL .exhausted],m:=[9]}):=by
 have UE:=(@hl1)
 have hl1:=(@hrf)
 let v0:=MK M0 p.reqs
 let v1:bY:=Xo
 let v2:bY:=(X5 (MK zfY.row s.us) s.ms (ce cut))
 exact zx [.st (.mask [4,5]),.st (.frz 6 (MK zfY.row s.us))] [.val (NG [SW n,ab (MK Nc es),SW 0]),.val (NG []),.val (NG (zbc fl cut)),.val (NG []),.sum [1,2,4,5,8,10,41,42,43] (NR 0) {t:=Ue 84 0 [(Wq 1 l),ZP,YX,ZJ,ZW,Xq],h:=[.var (Zb p v0),.var [nq,SW 0,nq],.var [SW 0],.var [ab (aW fl)],.var [nq,SW ms,ab (ce cut)]],m:=[]},.nx 1,.st (.zhX 4 0 3),.inl,.sum [4,5,8,10,13,58] (M6) {t:=(zd4 v1),h:=[.var (Zb p v0),.var [nq,SW 0,nq],.var [SW 0],.var [ab (aW fl)],.var (XL 1 s.ms cut),.var [SW s.at_],.T7 (jk s.us) 1 3,.var (Zb p v0),.var (WC l),.Ut,.loop LoopState.exhausted none 0 (zd4 v1) Xe (ar (sub Nw 1)) (af (sub Nw 1))],m:=[9]}] (.c (@zhy (te p)) (.c (@gN (te p)) (.c (@zkb (te p)) (.c (@gN (Hi p fl)) (.c UE (.c hl1 (.c (show jk s.us=(W8 (MK zfY.row s.us)) from(by subst v0 v1 v2;first|assumption|rfl|exact Hg _|exact gM _ _)) .n)))))))
def cC:Code->Is
 | .region _ o _=>o
 | _=>#[]
def DK:Code->Nat
 | .region i _ _=>i
 | _=>0
theorem Hj:au Nw=.seq (.region (DK (cL (au Nw))) (cC (cL (au Nw))) false) (.seq (.region (DK (cL (cR (au Nw)))) (cC (cL (cR (au Nw)))) false) (cR (cR (au Nw)))):=by kernel_rfl
def zhr:ο:=λ_ _ _=>none
theorem kR:zhr.Ok MJ U2:=λ_ _ _ _ h=>by simp[zhr] at h
def Il(o:oR):Oper:=o.getLastD default
abbrev a0T(p:TO)(l:iF):bY:=Ue 84 0 [(0,.agg p.l),(VE 1 l),ZP,YX,ZJ]
abbrev a1T(p:TO)(l:iF):bY:=Ue 84 0 [(0,.agg p.l),(VE 1 l),ZP,YX,ZJ,(17,.fn (.func 46) [] Ym)]
theorem pK{p:TO}{l:iF}{e:Exit}{s':AS}(ν:CW MJ U2 (adH p 0) false (cR (cR (au Nw))) (zbA l p) e s'):
  zeG MJ U2 (au Nw) {t:=cM Nw (XD p l),h:=[],m:=[]} e s' (some (46,Ym)):=by
 rw[Hj]
 refine zeG.seq (s1:={t:=a0T p l,h:=adH p 0,m:=[]}) (λX=>VW.zdS (t':=a0T p l) (h':=adH p 0) (e:=.normal) kR (by kernel_rfl) ⟨rfl,rfl⟩) ?_
 exact zeG.zmO (os:=(cC (cL (cR (au Nw)))).toList.dropLast) (o:=Il (cC (cL (cR (au Nw)))).toList) (fv:=.tmp 17) (args:=#[]) (ats:=#[]) (t1:=a1T p l) (h1:=adH p 0) (f:=46) (fi:=[]) (ca:=Ym) UR kR (by kernel_rfl) (by kernel_rfl) (by kernel_rfl) (by kernel_rfl) rfl (by kernel_rfl) (by kernel_rfl) (CW.pre [1,2,4,5] ν)
theorem DL:DfF.Ok MJ U2 (fS MJ U2 noW 100):=(uj UR (W:=noW) (λ_ _ _ _ h=>by simp[noW] at h) 100).2.2.2.2
theorem Mf{p:TO}{l:iF}{es:tO}{n ms:Int}{fl:bV}{cut:Bv}{s:AuS}
  (zhy:∀h,Ev MJ U2 14 (XD p l) h (zdD n es 0) h)
  (zkb:∀h,Ev MJ U2 47 (zdl n es) h (.UI (zbc fl cut)) h)
  (hl1:CW MJ U2 (adH p 0) false (.loop (sub Nw 0)) (auS p l fl 0 cut 0) (.exit 0) (auE p l fl ms cut))
  (hrf:CW MJ U2 (adH p 0) false (sub Nw 1) {t:=apT,h:=(zc2 p fl ms cut (WP l) [] l),m:=[]} .normal {t:=apT,h:=apH p l fl cut s 1 .exhausted [],m:=[9]}) (h:aT) :
  Ev MJ U2 13 (XD p l) h (.UI [.agg (Vq s cut),SW 0]) h:=by
 have h1:=TA (f:=13) (args:=(XD p l)) (dfn:=fS MJ U2 noW 100) (h:=[]) (r:=.ret (.UI [.agg (Vq s cut),SW 0]) []) (fn:=Nw) (c:=au Nw) UR rfl rfl DL (pK (ad_ok zhy zkb hl1 hrf)) (by kernel_rfl)
 exact Ev.zfM rfl h1.call h
abbrev bT:bY:=Ue 84 0 [YX,ZJ]
noncomputable abbrev DM(p:TO):aT:=(zdq (Zc p) 0)
abbrev zbP(a:TO)(b:Int):AS:={t:=bT,h:=adH a b,m:=[]}
theorem ad_net{p:TO}{l:iF}{es:tO}{n e:Int}(zhy:∀h,Ev MJ U2 14 (XD p l) h (zdD n es e) h):(CW MJ U2 (adH p 0) false (cL (cR (cR (au Nw)))) (zbA l p) .normal (zbP p e)):=by
 exact zx [.st (.mask [4,5])] [.val (NG [SW n,ab (MK Nc es),SW e])] (.c (@zhy (DM p)) .n)
noncomputable abbrev c3:Code:=cL (cR (cR (cR (au Nw))))
theorem DN:cR (cR (au Nw))=.seq (cL (cR (cR (au Nw)))) (.seq (.region (DK c3) (cC c3) false) (cR (cR (cR (cR (au Nw)))))):=by kernel_rfl
noncomputable def zmS:ο:=ol (om MJ U2 noW 100) (λ_ _ _=>none)
theorem zc:zmS.Ok MJ U2:=ui UR (uj UR (W:=noW) (λ_ _ _ _ h=>by simp[noW] at h) 100).2.2.1 (λ_ _ _ _ _ h=>by simp at h)
noncomputable def r3R(p:TO)(e:Int):Option (Exit×bY×aT):=bi MJ U2 zmS [] (cC c3).toList (cC c3).toList bT (adH p e)
noncomputable def r3(p:TO)(e:Int):Exit×bY×aT:=(r3R p e).getD (.normal,[],[])
theorem r3_eq{p:TO}{e:Int}(he:e=150\/e=190\/e=180):r3R p e=some (r3 p e):=by
 rcases he with rfl|rfl|rfl<;>kernel_rfl
def Im:Exit->Bool
 | .normal=>true
 | _=>false
theorem r3_ne{p:TO}{e:Int}(he:e=150\/e=190\/e=180):(r3 p e).1≠.normal:=by
 intro h
 have:Im (r3 p e).1=false:=by rcases he with rfl|rfl|rfl<;>kernel_rfl
 rw[h] at this
 cases this
abbrev Wj(a:Int):D:=(.UI [.agg [nq,SW 0,nq],SW a])
theorem r3_end{p:TO}{e:Int}(he:e=150\/e=190\/e=180):qC MJ Nw (fS MJ U2 noW 100) 0 (r3 p e).1 {t:=(r3 p e).2.1,h:=(r3 p e).2.2,m:=[]} (some (46,Ym))=some (.ret (Wj e) []):=by
 rcases he with rfl|rfl|rfl<;>kernel_rfl
theorem DP{p:TO}{l:iF}{es:tO}{n e:Int}(he:e=150\/e=190\/e=180)(zhy:∀h,Ev MJ U2 14 (XD p l) h (zdD n es e) h)(h:aT):
  Ev MJ U2 13 (XD p l) h (Wj e) h:=by
 have ν:CW MJ U2 (adH p 0) false (cR (cR (au Nw))) (zbA l p) (r3 p e).1 {t:=(r3 p e).2.1,h:=(r3 p e).2.2,m:=[]}:=by
  rw[DN]
  exact CW.seq (ad_net zhy) (CW.out (r3_ne he) (CW.zdS (s:=(zbP p e)) zc (r3_eq he)))
 have h1:=TA (f:=13) (args:=(XD p l)) (dfn:=fS MJ U2 noW 100) (h:=[]) (r:=.ret (Wj e) []) (fn:=Nw) (c:=au Nw) UR rfl rfl DL (pK ν) (r3_end he)
 exact Ev.zfM rfl h1.call h
structure zgt (n:Nat) (x:Uu):Prop where
 f0:0<=x.U3
 ft:x.U3<x.to
 tn:x.to<n
 m0:0<=x.most
 m1:x.most<=1073741824
structure η (p:TO) (l:iF):Prop where
 pe:rF p=0
 ae:dN l=0
 rs:p.reqs.length<=64
 ls:l.length<=50000
theorem bif0{b:Bool}{x:Int}(h:(bif b then x else 0)=0)(hx:x≠0):b=false:=by cases b<;>simp_all
theorem Io:∀(rs:NE),(match UD ckF rs () with | .inl _=>(0:Int) | .inr _=>190)=0->∀q∈rs,Ax q=true
 | [],_,_,hq=>by simp at hq
 | q::rs,h,x,hx=>by
  simp only[UD,ckF] at h
  cases hq:Ax q with
  | false=>rw[hq] at h;simp at h
  | true =>
   rw[hq] at h
   simp only[cond_true] at h
   rcases NF.1 hx with rfl|hx
   ·exact hq
   ·exact Io rs h x hx
section
variable {p:TO} {l:iF}
theorem η.req(h:η p l):1<=p.UC/\p.UC<=4/\∀q∈p.reqs,1<=q.To/\q.To<=10000:=by
 have h1:=h.pe
 unfold rF at h1
 cases hh:zgb p with
 | true=>rw[hh] at h1;simp at h1
 | false =>
  rw[hh] at h1
  simp only[cond_false] at h1
  have h2:=Io _ h1
  unfold zgb at hh
  simp only[Bool.or_eq_false_iff,T0,Xl,MT,decide_eq_true_eq] at hh
  refine⟨by omega,by omega,λq hq=>?_⟩
  have h3:=h2 q hq
  unfold Ax at h3
  simp only[Xl,MT,decide_eq_true_eq] at h3
  omega
theorem η.att(h:η p l):∀a∈l,0<=a.To/\a.To<=60:=by
 have h1:=bif0 h.ae (by decide)
 intro a ha
 have h2:=List.any_eq_false.1 h1 a ha
 simp only[Bool.not_eq_true,T0] at h2
 unfold zP at h2
 simp only[Xl,MT,decide_eq_true_eq] at h2
 omega
end
theorem DQ(a:Uj):∀(rs:NE) (s:bV×Int) (i:Nat),s.2=i->(∀k∈s.1,0<=k/\k<i)->∀k∈(rs.foldl (elF a) s).1,0<=k/\k<(i+rs.length:Nat)
 | [],s,i,_,h,k,hk=>by simpa using h k hk
 | q::rs,s,i,hi,h,k,hk=>by
  rw[Nn] at hk
  have:=DQ a rs (elF a s q) (i+1) (by simp[elF,hi]) (λx hx=>by
   unfold elF at hx
   cases hb:elB q a with
   | true =>
    rw[hb] at hx
    simp only[cond_true,NY,OM] at hx
    rcases hx with hx|rfl
    ·have:=h x hx;omega
    ·omega
   | false =>
    rw[hb] at hx
    have:=h x hx;omega) k hk
  simp only[Nq];omega
section
variable {p:TO} {l:iF}
theorem DR(h:η p l){n:Nat}(hn:n=2+l.length+p.reqs.length):∀(bs:iF) (s:tO×Int) (i:Nat),s.2=i->i+bs.length=l.length->(∀a∈bs,0<=a.To/\a.To<=60)->(∀x∈s.1,zgt n x)->∀x∈(bs.foldl (n1F p) s).1,zgt n x
 | [],s,i,_,_,_,hs=>hs
 | a::bs,s,i,hi,hl,ha,hs=>by
  rw[Nn]
  simp only[Nq] at hl
  have hls:=h.ls
  have hrs:=h.rs
  obtain⟨u1,u2,_⟩:=h.req
  obtain⟨c0,c1⟩:=ha a (by simp)
  have hm0:0<=a.To*p.UC:=Int.mul_nonneg c0 (by omega)
  have hm1:a.To*p.UC<=60*4:=Int.mul_le_mul c1 u2 (by omega) (by omega)
  refine DR h hn bs (n1F p s a) (i+1) (by simp[n1F,hi]) (by omega) (λx hx=>ha x (by simp[hx])) ?_
  intro x hx
  simp only[n1F,NY,OM] at hx
  rcases hx with hx|rfl
  ·exact hs x hx
  ·have e1:ML.wrap (1+s.2)=1+s.2:=wrap_i64 (by omega) (by omega)
   have e2:ML.wrap (a.To*p.UC)=a.To*p.UC:=wrap_i64 (by omega) (by omega)
   refine⟨?_,?_,?_,?_,?_⟩<;>simp only[e1,e2]<;>omega
theorem DS(h:η p l):AA l=1+(l.length:Int):=by
 have:=h.ls
 unfold AA
 rw[N1]
 exact wrap_i64 (by omega) (by omega)
theorem DT(h:η p l):xh p l=1+(l.length:Int)+(p.reqs.length:Int):=by
 have:=h.ls
 have:=h.rs
 unfold xh
 rw[DS h,N1]
 exact wrap_i64 (by omega) (by omega)
theorem DU(h:η p l){n:Nat}(hn:n=2+l.length+p.reqs.length){i:Nat}(hi:i<l.length){cr:Int}(c0:0<=cr)(c1:cr<=60):∀(ks:bV) (es:tO),(∀k∈ks,0<=k/\k<p.reqs.length)->(∀x∈es,zgt n x)->∀x∈ks.foldl (n2F (AA l) i cr) es,zgt n x
 | [],es,_,hs=>hs
 | k::ks,es,hk,hs=>by
  have hls:=h.ls
  have hrs:=h.rs
  rw[Nn]
  refine DU h hn hi c0 c1 ks _ (λx hx=>hk x (by simp[hx])) ?_
  intro x hx
  simp only[n2F,NY,OM] at hx
  rcases hx with hx|rfl
  ·exact hs x hx
  ·obtain⟨k0,k1⟩:=hk k (by simp)
   have e1:ML.wrap (1+(i:Int))=1+i:=wrap_i64 (by omega) (by omega)
   have e2:ML.wrap (AA l+k)=1+l.length+k:=by rw[DS h];exact wrap_i64 (by omega) (by omega)
   refine⟨?_,?_,?_,?_,?_⟩<;>simp only[e1,e2]<;>omega
theorem DV(h:η p l){n:Nat}(hn:n=2+l.length+p.reqs.length):∀(bs:iF) (s:tO×Int) (i:Nat),s.2=i->i+bs.length=l.length->(∀a∈bs,0<=a.To/\a.To<=60)->(∀x∈s.1,zgt n x)->∀x∈(bs.foldl (n3F p (AA l)) s).1,zgt n x
 | [],s,i,_,_,_,hs=>hs
 | a::bs,s,i,hi,hl,ha,hs=>by
  rw[Nn]
  simp only[Nq] at hl
  obtain⟨c0,c1⟩:=ha a (by simp)
  refine DV h hn bs (n3F p (AA l) s a) (i+1) (by simp[n3F,hi]) (by omega) (λx hx=>ha x (by simp[hx])) ?_
  simp only[n3F,hi]
  exact DU h hn (by omega) c0 c1 _ _ (λk hk=>by have:=DQ a p.reqs ([],0) 0 rfl (by simp) k hk;simpa using this) hs
theorem DW(h:η p l){n:Nat}(hn:n=2+l.length+p.reqs.length):∀(qs:NE) (s:tO×Int) (i:Nat),s.2=i->i+qs.length=p.reqs.length->(∀q∈qs,1<=q.To/\q.To<=10000)->(∀x∈s.1,zgt n x)->∀x∈(qs.foldl (n4F (AA l) (xh p l)) s).1,zgt n x
 | [],s,i,_,_,_,hs=>hs
 | q::qs,s,i,hi,hl,hq,hs=>by
  rw[Nn]
  simp only[Nq] at hl
  have hls:=h.ls
  have hrs:=h.rs
  obtain⟨c0,c1⟩:=hq q (by simp)
  refine DW h hn qs (n4F (AA l) (xh p l) s q) (i+1) (by simp[n4F,hi]) (by omega) (λx hx=>hq x (by simp[hx])) ?_
  intro x hx
  simp only[n4F,NY,OM] at hx
  rcases hx with hx|rfl
  ·exact hs x hx
  ·have e2:ML.wrap (AA l+s.2)=1+l.length+s.2:=by rw[DS h];exact wrap_i64 (by omega) (by omega)
   have e3:=DT h
   refine⟨?_,?_,?_,?_,?_⟩<;>simp only[e2,e3]<;>omega
theorem kT(h:η p l):∀x∈np p l,zgt (2+l.length+p.reqs.length) x:=by
 have h1:∀x∈LC p l,zgt (2+l.length+p.reqs.length) x:=DR h rfl l ([],0) 0 rfl (by simp) h.att (by simp)
 have h2:∀x∈LD p l,zgt (2+l.length+p.reqs.length) x:=DV h rfl l (LC p l,0) 0 rfl (by simp) h.att h1
 exact DW h rfl p.reqs (LD p l,0) 0 rfl (by simp) h.req.2.2 h2
end
abbrev bH(p:TO)(e:Int):aT:=[.var p.l,.var [nq,SW 0,nq],.var [SW e],.var [ab []]]
noncomputable abbrev pL(p:TO):aT:=(zdq (Zc p) 0)
theorem ad_max{p:TO}{l:iF}{es:tO}{n e:Int}{x:Exit}{H:aT}
  (zhy:∀h,Ev MJ U2 14 (XD p l) h (zdD n es 0) h)
  (zkb:∀h,Ev MJ U2 47 (zdl n es) h (.UI [ab [],ab [],SW e]) h)
  (ht:CW MJ U2 (adH p 0) false (bg (au Nw) 5) {t:=bT,h:=bH p e,m:=[]} x {t:=bT,h:=H,m:=[]}):(CW MJ U2 (adH p 0) false (cR (cR (au Nw))) (zbA l p) x {t:=bT,h:=H,m:=[]}):=by
 have UE:=(@ht)
 exact zx [] [.val (NG [SW n,ab (MK Nc es),SW 0]),.val (NG []),.val (NG [ab [],ab [],SW e]),.zgg [4,5] x {t:=Ue 84 0 [YX,ZJ],h:=H}] (.c (@zhy (pL p)) (.c (@gN (pL p)) (.c (@zkb (pL p)) (.c UE .n))))
theorem CW.maskE{P:Program}{Γ:aq}{h0:aT}{rd:Bool}{c:Code}{s s':AS}{e:Exit}(ks:iS)(hw:CW P Γ h0 rd c s e s'):CW P Γ h0 rd c s e (oz ks s'):=by
 intro X r hn hrd a w hs
 refine wpIn_mono (hw X r hn hrd a w hs) ?_
 rintro e2 a2 w2 ⟨h2,s2,⟨rfl,rfl⟩,h4⟩
 obtain⟨k1,k2⟩:=na ks 0 s2.t
 exact⟨h2,_,⟨rfl,rfl⟩,h4.wk k1 k2⟩
theorem CW.preS{P:Program}{Γ:aq}{h0:aT}{rd:Bool}{c:Code}{s s1 s':AS}{e:Exit}{φ:AT}(az:BY)(hp:Go.Vi.pre h0 s az=some (s1,[],φ))(hφ:Uw φ)(hw:CW P Γ h0 rd c s1 e s'):CW P Γ h0 rd c s e s':=by
 intro X r hX hr a w hs
 subst hX
 exact hw X r rfl hr a w (qN _ _ _ _ _ hp hφ a w hs)
noncomputable abbrev c5:Code:=cL (bg (au Nw) 5)
theorem DX:bg (au Nw) 5=.seq (.region (DK c5) (cC c5) false) (cR (bg (au Nw) 5)):=by kernel_rfl
noncomputable def r5R(p:TO):Option (Exit×bY×aT):=bi MJ U2 zmS [] (cC c5).toList (cC c5).toList bT (adH p 180)
noncomputable def r5(p:TO):Exit×bY×aT:=(r5R p).getD (.normal,[],[])
theorem r5_eq{p:TO}:r5R p=some (r5 p):=by kernel_rfl
theorem r5_ne{p:TO}:(r5 p).1≠.normal:=by
 intro h
 have:Im (r5 p).1=false:=by kernel_rfl
 rw[h] at this
 cases this
theorem Mg{p:TO}:se [4,5] 0 (r5 p).2.1=bT:=by kernel_rfl
theorem r5_end{p:TO}:qC MJ Nw (fS MJ U2 noW 100) 0 (r5 p).1 {t:=bT,h:=(r5 p).2.2,m:=[]} (some (46,Ym))=some (.ret (Wj 180) []):=by kernel_rfl
theorem DY{p:TO}{l:iF}{es:tO}{n:Int}(zhy:∀h,Ev MJ U2 14 (XD p l) h (zdD n es 0) h)
  (zkb:∀h,Ev MJ U2 47 (zdl n es) h (.UI [ab [],ab [],SW 180]) h) (h:aT) :
  Ev MJ U2 13 (XD p l) h (Wj 180) h:=by
 have ht:CW MJ U2 (adH p 0) false (bg (au Nw) 5) {t:=bT,h:=bH p 180,m:=[]} (r5 p).1 {t:=bT,h:=(r5 p).2.2,m:=[]}:=by
  refine CW.preS [.st (.UN 3)] (s1:=(zbP p 180)) (by kernel_rfl) (.c (iqT 3 (.var p.l)) (.c (iqT 3 Vf) (.c (iqT 3 (.var [SW 180])) .n))) ?_
  have h0:CW MJ U2 (adH p 0) false (bg (au Nw) 5) (zbP p 180) (r5 p).1 {t:=(r5 p).2.1,h:=(r5 p).2.2,m:=[]}:=by
   rw[DX]
   exact CW.out r5_ne (CW.zdS (s:=(zbP p 180)) zc r5_eq)
  have h1:=CW.maskE [4,5] h0
  unfold oz at h1
  rw[Mg] at h1
  exact h1
 have h1:=TA (f:=13) (args:=(XD p l)) (dfn:=fS MJ U2 noW 100) (h:=[]) (r:=.ret (Wj 180) []) (fn:=Nw) (c:=au Nw) UR rfl rfl DL (pK (ad_max zhy zkb ht)) r5_end
 exact Ev.zfM rfl h1.call h
end Go.Vi
