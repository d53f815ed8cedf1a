/- A part of the proof; no conditions of its own. -/
import Derived.Test.YtelhocjibmofiaaGreatDoorW6
open Decidable renaming decide -> Zd
open Go.IntKind renaming i64 -> ML, wrap -> MN
open Int renaming tdiv -> Nz, toNat -> MU, toNat_natCast -> N4
open Go.Vi.Uu renaming row -> Nc
open Go.Proofs.Tryz renaming prog -> MJ, f103 -> Nh, f193 -> QK, f104 -> RK
open List renaming map -> MK, length -> MO, drop_zero -> Pk, getElem?_eq_some_iff -> MR, length_singleton -> PY, set -> OZ, drop -> Oz, getD -> Nb, getElem?_eq_getElem -> Nd, mem_of_getElem? -> NX, replicate -> MS, length_drop -> OE, length_cons -> Nq, mem_singleton -> OM
open Go.LoopState renaming ready -> Nl, done -> PJ, busy -> NJ, exhausted -> NM
open Go.Vi.D renaming fn -> Oe, ref -> Qe, UI -> NG, zcN -> Ob
open Go.Fn renaming func -> M7
open Go.Exit renaming normal -> M6, exit -> NR
open Go.Vi.Ev renaming zfO -> Na, zeY -> Ov, zet -> Oc
open Go.Code renaming exit -> SZ
open Prod.mk renaming injEq -> MP
open Bool renaming false_eq_true -> NC, and_self -> Ow
open Go.Operand renaming tmp -> PN, const -> RC
open Go.Vi.Uc renaming inn -> MY
open Go.Vi.Iv renaming round -> TZ
open Nat renaming add_sub_cancel' -> RY
open Option renaming getD_some -> OA, map_some -> Nr, isNone_none -> Ty, map -> Ss
open Go.Builtin renaming len -> Rk
open Go.Value renaming int -> Ox
open Go.Vi.MW renaming run -> RT, seq -> Tz
open BitVec renaming ofInt -> Ng, toNat -> OD
open Go Go.Proofs
namespace Go.Vi
set_option maxRecDepth 100000
set_option maxHeartbeats 4000000
variable {A B:bv}{Q Q2:D}{X:Ctx}{b3 b4 b5 b6 b7 b8 c6 c7 c8 d6 d7 d8:Uc}{by' by2 fs gs l l2 rest rs:bV}{c:Do}{e e2 i j k m n q:Nat}{f U3 l0 least r to u v x:Int}{h0:aT}{y:Uu}
abbrev tO:=List Uu
variable {es:tO}
theorem y5{es:tO}{A:bv}{fs:bV}{r f:Int}{x:Uu}{q:Nat}(hq:ML.wrap (Nz r 2)=(q:Int))(hx:ax (ML.wrap (Nz r 2)) (es.map Nc) x.row 3)(hf:fs[MU (ML.wrap (Nz r 2))]? = some f)(hl:q<fs.length):Ev MJ U2 107 (XX r) (fwH es A fs) (SW (fe r x f)) (fwH es A fs):=cap_a hq hx hf hl
theorem y6{es:tO}{A:bv}{fs:bV}{r:Int}{x:Uu}(hx:ax (ML.wrap (Nz r 2)) (es.map Nc) x.row 3):Ev MJ U2 105 (XX r) (fwH es A fs) (SW (qj r x)) (fwH es A fs):=end_a hx
abbrev ZV:bY:=(zcB 9 10)
abbrev ZX:Nat×D:=(6,.ref (.ptr 4 0))
abbrev ZZ:Nat×D:=(5,.ref (.ptr 3 0))
abbrev Z4:Nat×D:=(7,.ref (.ptr 8 0))
abbrev Z5:Nat×D:=(0,.ref (.ptr 2 0))
abbrev zdM(a:Int):bY:=Ue 59 0 [Z5,ZZ,ZX,Z4,(8,SW a),(39,.fn (.func 193) [] ZV)]
noncomputable abbrev usL(v:Int)(st:LoopState)(pd:Of):Uc:=.loop st pd 0 (zdM v) #[40,41] (ar (sub Nh 1)) (af (sub Nh 1))
abbrev Wh(a:tO)(b:Nat)(c:bv):bY:=[ab (a.map Nc),.ref (.T7 b 0),ab c]
noncomputable abbrev usH(es:tO)(A:bv)(fs:bV)(v:Int)(b3 b4 b5 b6 b7 b8:Uc)(st:LoopState)(pd:Of):aT:=[.T7 (ao fs) 0 1,.U7,.var (Wh es 0 A),b3,b4,b5,b6,b7,b8,.var Ym,.var [SW v],.Ut,usL v st pd]
abbrev zen(a:bv)(b:Nat×D)(c:D):bY:=Ue 32 0 [(zc4 12),(zan 9),(zaV 2),(12,ab a),b,(14,c)]
noncomputable abbrev usS(es:tO)(A:bv)(fs:bV)(v:Int)(B:bv)(b3 b4 b5 b6 b7 b8:Uc)(j:Int):AS:={t:=(zen B (13,SW (B.length:Int)) (SW j)),h:=usH es A fs v b3 b4 b5 b6 b7 b8 .ready none,m:=[]}
abbrev zdQ(a:Int)(d:bY):bY:=Ue 59 0 [(0,.ref (.ptr 2 0)),(5,.ref (.ptr 3 0)),(6,.ref (.ptr 4 0)),(7,.ref (.ptr 8 0)),(8,SW a),(39,Oe (M7 193) [] d)]
abbrev zb3(b:Int)(c:bY):bY:=(zdQ b c)
abbrev Ze(a:Int):bY:=(zb3 a [.ref (.ptr 9 0),.ref (.ptr 10 0)])
abbrev ZI(a:tO)(b:Nat)(c:bv):bY:=[ab (MK Nc a),.ref (.T7 b 0),ab c]
abbrev zei:Array Tmp:={toList:=[40,41]}
abbrev Y8:Array Tmp:=zei
noncomputable abbrev nt(es:tO)(A:bv)(fs:bV)(v:Int)(b3:Uc)(b4:Uc)(b5:Uc)(c6:Uc)(c7:Uc)(c8:Uc):aT:=[.T7 (ao fs) 0 1,.U7,.var (ZI es 0 A),b3,b4,b5,c6,c7,c8,.var Ym,.var [SW v],.Ut,.loop Nl none 0 (Ze v) Y8 (ar (sub Nh 1)) (af (sub Nh 1))]
theorem us_no{x:Uu}(hq:ML.wrap (Nz r 2)=(q:Int))(hx:ax (ML.wrap (Nz r 2)) (es.map Nc) x.row 3)(hf:fs[MU (ML.wrap (Nz r 2))]? = some f)(hl:q<fs.length)
  (hr:ax (j:Int) B [vi r] 1) (U8:Zd ((j:Int)<(B.length:Int))=true) (hw:ML.wrap ((j:Int)+1)=((j+1:Nat):Int)) (hc:Zd (fe r x f>0)=false):(CW MJ U2 (usH es A fs v b3 b4 b5 b6 b7 b8 .ready none) false (sub QK 0) (usS es A fs v B b3 b4 b5 c6 c7 c8 j) .normal (usS es A fs v B b3 b4 b5 c6 c7 c8 ((j+1:Nat):Int))):=by
 refine zX {t:=Ue 32 0 [(0,.ref (.yl 12)),(1,.ref (.ptr 9 0)),(2,.ref (.ptr 10 0)),(12,ab B),(13,SW (↑(MO B):Int)),(14,SW (MN ML ((↑j:Int)+1)))],h:=(nt es A fs v b3 b4 b5 c6 c7 c8),m:=[]} M6 [.st (.mask [0,1,2,12,13,14])] [.b true,.row [vi r],.val (SW (fe r x f)),.g false,.g false,.g false,.g false,.g false,.g false,.g false,.ov 30 (T6 false),.b false] (.c U8 (.c hr (.c (show Ev MJ U2 107 [.ref (.ptr 2 0),SW r] (nt es A fs v b3 b4 b5 c6 c7 c8) (SW (fe r x f)) (nt es A fs v b3 b4 b5 c6 c7 c8) from(Na (Ov (args:=[.ref (.ptr 2 0),SW r]) (H:=(nt es A fs v b3 b4 b5 c6 c7 c8)) [0,1,2] (@y5 es A fs r f x q hq hx hf hl) (by kernel_rfl) (by kernel_rfl) (by kernel_rfl) ⟨?_,trivial⟩ ⟨?_,trivial⟩) (by kernel_rfl) (by kernel_rfl))) (.c (show(Zd (fe r x f>0)==true)=false from(by rw[hc]<;>rfl)) (.c (show(Zd (fe r x f>0)==true)=false from(by rw[hc]<;>rfl)) (.c (show(Zd (fe r x f>0)==true)=false from(by rw[hc]<;>rfl)) (.c (show(Zd (fe r x f>0)==true)=false from(by rw[hc]<;>rfl)) (.c (show(Zd (fe r x f>0)==true)=false from(by rw[hc]<;>rfl)) (.c (show(Zd (fe r x f>0)==true)=false from(by rw[hc]<;>rfl)) (.c (show(Zd (fe r x f>0)==true)=false from(by rw[hc]<;>rfl)) (.c (pkf (D.p (Dp.v (Value.tuple {toList:=[]}))) (T6 false) hc) (.er false .n)))))))))))) (by first|rfl|(rw[hw]<;>rfl)) (by first|rfl|(rw[hw]<;>rfl))<;>(first|rfl|exact al _ _|first|assumption|rfl|exact aB _ _|exact aw _ _)
noncomputable abbrev vB(es:tO)(A:bv)(fs:bV)(v:Int)(b3:Uc)(b4:Uc)(b5:Uc)(d6:Uc)(d7:Uc)(d8:Uc):aT:=[.T7 (ao fs) 0 1,.U7,.var (ZI es 0 A),b3,b4,b5,d6,d7,d8,.var Ym,.var [SW v],.Ut,.loop Nl none 0 (Ze v) Y8 (ar (sub Nh 1)) (af (sub Nh 1))]
noncomputable abbrev ga(es:tO)(A:bv)(fs:bV)(v:Int)(b3:Uc)(b4:Uc)(b5:Uc)(c6:Uc)(c7:Uc)(c8:Uc):aT:=[.T7 (ao fs) 0 1,.U7,.var (ZI es 0 A),b3,b4,b5,c6,c7,c8,.var Ym,.var [SW v],.Ut,.loop Nl none 0 (Ze v) Y8 (ar (sub Nh 1)) (af (sub Nh 1))]
abbrev zas(a:Int)(c:Uu)(d:Int)(e:Bool)(h:aT)(i:Bool):BY:=[.b true,.row [vi a],.val (SW (fe a c d)),.g true,.g true,.g true,.g true,.g true,.val (SW (qj a c)),.g true,.inv (T6 e) (h),.g true,.ov 30 (T6 !e),.b i]
theorem us_yes{x:Uu}(hq:ML.wrap (Nz r 2)=(q:Int))(hx:ax (ML.wrap (Nz r 2)) (es.map Nc) x.row 3)(hf:fs[MU (ML.wrap (Nz r 2))]? = some f)(hl:q<fs.length)
  (hr:ax (j:Int) B [vi r] 1) (U8:Zd ((j:Int)<(B.length:Int))=true) (hw:ML.wrap ((j:Int)+1)=((j+1:Nat):Int)) (hc:Zd (fe r x f>0)=true) (_:qj r x=u)
  (hy:Iv MJ U2 (.ref (.yl 12)) [SW r,SW (qj r x)] (usH es A fs v b3 b4 b5 c6 c7 c8 .ready none) (T6 true) (usH es A fs v b3 b4 b5 d6 d7 d8 .ready none)):(CW MJ U2 (usH es A fs v b3 b4 b5 b6 b7 b8 .ready none) false (sub QK 0) (usS es A fs v B b3 b4 b5 c6 c7 c8 j) .normal (usS es A fs v B b3 b4 b5 d6 d7 d8 ((j+1:Nat):Int))):=by
 refine zX {t:=Ue 32 0 [(0,.ref (.yl 12)),(1,.ref (.ptr 9 0)),(2,.ref (.ptr 10 0)),(12,ab B),(13,SW (↑(MO B):Int)),(14,SW (MN ML ((↑j:Int)+1)))],h:=(vB es A fs v b3 b4 b5 d6 d7 d8),m:=[]} M6 [.st (.mask [0,1,2,12,13,14])] [.b true,.row [vi r],.val (SW (fe r x f)),.g true,.g true,.g true,.g true,.g true,.val (SW (qj r x)),.g true,.inv (T6 true) (vB es A fs v b3 b4 b5 d6 d7 d8),.g true,.ov 30 (T6 !true),.b false] (.c U8 (.c hr (.c (show Ev MJ U2 107 [.ref (.ptr 2 0),SW r] (ga es A fs v b3 b4 b5 c6 c7 c8) (SW (fe r x f)) (ga es A fs v b3 b4 b5 c6 c7 c8) from(Na (Ov (args:=[.ref (.ptr 2 0),SW r]) (H:=(ga es A fs v b3 b4 b5 c6 c7 c8)) [0,1,2] (@y5 es A fs r f x q hq hx hf hl) (by kernel_rfl) (by kernel_rfl) (by kernel_rfl) ⟨?_,trivial⟩ ⟨?_,trivial⟩) (by kernel_rfl) (by kernel_rfl))) (.c (show(Zd (fe r x f>0)==true)=true from(by rw[hc]<;>rfl)) (.c (show(Zd (fe r x f>0)==true)=true from(by rw[hc]<;>rfl)) (.c (show(Zd (fe r x f>0)==true)=true from(by rw[hc]<;>rfl)) (.c (show(Zd (fe r x f>0)==true)=true from(by rw[hc]<;>rfl)) (.c (show(Zd (fe r x f>0)==true)=true from(by rw[hc]<;>rfl)) (.c (show Ev MJ U2 105 [.ref (.ptr 2 0),SW r] (ga es A fs v b3 b4 b5 c6 c7 c8) (SW (qj r x)) (ga es A fs v b3 b4 b5 c6 c7 c8) from(Na (Ov (args:=[.ref (.ptr 2 0),SW r]) (H:=(ga es A fs v b3 b4 b5 c6 c7 c8)) [0,1,2] (@y6 es A fs r x hx) (by kernel_rfl) (by kernel_rfl) (by kernel_rfl) ⟨?_,trivial⟩ ⟨?_,trivial⟩) (by kernel_rfl) (by kernel_rfl))) (.c (show(Zd (fe r x f>0)==true)=true from(by rw[hc]<;>rfl)) (.c (@hy) (.c (show(Zd (fe r x f>0)==true)=true from(by rw[hc]<;>rfl)) (.c (pkt (T6 !true) (T6 false) hc) (.c (show(!true)=false from rfl) .n)))))))))))))) (by first|rfl|(rw[hw]<;>rfl)) (by first|rfl|(rw[hw]<;>rfl))<;>(first|rfl|exact al _ _|first|assumption|rfl|exact aB _ _|exact aw _ _)
noncomputable abbrev AB(es:tO)(A:bv)(fs:bV)(v:Int)(b3:Uc)(b4:Uc)(b5:Uc)(d6:Uc)(d7:Uc)(d8:Uc):aT:=[.T7 (ao fs) 0 1,.U7,.var (ZI es 0 A),b3,b4,b5,d6,d7,d8,.var Ym,.var [SW v],.Ut,.loop PJ (some (SZ 0)) 0 (Ze v) Y8 (ar (sub Nh 1)) (af (sub Nh 1))]
noncomputable abbrev eI(es:tO)(A:bv)(fs:bV)(v:Int)(b3:Uc)(b4:Uc)(b5:Uc)(c6:Uc)(c7:Uc)(c8:Uc):aT:=[.T7 (ao fs) 0 1,.U7,.var (ZI es 0 A),b3,b4,b5,c6,c7,c8,.var Ym,.var [SW v],.Ut,.loop Nl none 0 (Ze v) Y8 (ar (sub Nh 1)) (af (sub Nh 1))]
theorem us_stop{x:Uu}(hq:ML.wrap (Nz r 2)=(q:Int))(hx:ax (ML.wrap (Nz r 2)) (es.map Nc) x.row 3)(hf:fs[MU (ML.wrap (Nz r 2))]? = some f)(hl:q<fs.length)
  (hr:ax (j:Int) B [vi r] 1) (U8:Zd ((j:Int)<(B.length:Int))=true) (hc:Zd (fe r x f>0)=true)
  (hy:Iv MJ U2 (.ref (.yl 12)) [SW r,SW (qj r x)] (usH es A fs v b3 b4 b5 c6 c7 c8 .ready none) (T6 false) (usH es A fs v b3 b4 b5 d6 d7 d8 .done (some (.exit 0)))):(CW MJ U2 (usH es A fs v b3 b4 b5 b6 b7 b8 .ready none) false (sub QK 0) (usS es A fs v B b3 b4 b5 c6 c7 c8 j) .ret (Yn 32 (usH es A fs v b3 b4 b5 d6 d7 d8 .done (some (.exit 0))))):=by
 refine zx Xd (zas r x f false (AB es A fs v b3 b4 b5 d6 d7 d8) true) (.c U8 (.c hr (.c (show Ev MJ U2 107 (XX r) (eI es A fs v b3 b4 b5 c6 c7 c8) (SW (fe r x f)) (eI es A fs v b3 b4 b5 c6 c7 c8) from(Na (Ov (args:=(XX r)) (H:=(eI es A fs v b3 b4 b5 c6 c7 c8)) [0,1,2] (@y5 es A fs r f x q hq hx hf hl) (by kernel_rfl) (by kernel_rfl) (by kernel_rfl) ⟨?_,trivial⟩ ⟨?_,trivial⟩) (by kernel_rfl) (by kernel_rfl))) (.c (show(Zd (fe r x f>0)==true)=true from(by rw[hc]<;>rfl)) (.c (show(Zd (fe r x f>0)==true)=true from(by rw[hc]<;>rfl)) (.c (show(Zd (fe r x f>0)==true)=true from(by rw[hc]<;>rfl)) (.c (show(Zd (fe r x f>0)==true)=true from(by rw[hc]<;>rfl)) (.c (show(Zd (fe r x f>0)==true)=true from(by rw[hc]<;>rfl)) (.c (show Ev MJ U2 105 (XX r) (eI es A fs v b3 b4 b5 c6 c7 c8) (SW (qj r x)) (eI es A fs v b3 b4 b5 c6 c7 c8) from(Na (Ov (args:=(XX r)) (H:=(eI es A fs v b3 b4 b5 c6 c7 c8)) [0,1,2] (@y6 es A fs r x hx) (by kernel_rfl) (by kernel_rfl) (by kernel_rfl) ⟨?_,trivial⟩ ⟨?_,trivial⟩) (by kernel_rfl) (by kernel_rfl))) (.c (show(Zd (fe r x f>0)==true)=true from(by rw[hc]<;>rfl)) (.c (@hy) (.c (show(Zd (fe r x f>0)==true)=true from(by rw[hc]<;>rfl)) (.c (pkt (T6 !false) (T6 false) hc) (.c (show(!false)=true from rfl) .n))))))))))))))<;>(first|rfl|exact al _ _|first|assumption|rfl|exact aB _ _|exact aw _ _)
theorem LJ(U8:Zd ((j:Int)<(B.length:Int))=false):(CW MJ U2 (usH es A fs v b3 b4 b5 b6 b7 b8 .ready none) false (sub QK 0) (usS es A fs v B b3 b4 b5 c6 c7 c8 j) (.exit 0) (zb6 32 [] (usH es A fs v b3 b4 b5 c6 c7 c8 .ready none))):=by
 exact zx Xd [.b false] (.c U8 .n)
section
variable {l:bV} {b i e:Nat} {a u:Int} {h:aT}
theorem bA(hb:h[b]? = some (.T7 (ao l) e 1))(ha:l[i]? = some a):aN MJ h 3 (.ref (.vp b e i 0))=some (SW a):=by
 have e1:(ao l)[i]? = some [SW a]:=by simp[ao,ha]
 unfold aN
 simp only[hb,e1,if_true,Pk]
 rfl
theorem nu(hb:h[b]? = some (.T7 (ao l) 0 1))(hi:i<l.length):aX MJ h 3 (.ref (.vp b 0 i 0)) (SW a)=some (h.set b (.T7 (ao (l.set i a)) 0 1)):=by
 have e1:(ao l)[i]? = some [SW l[i]]:=by simp[ao,hi]
 unfold aX
 simp only[hb,e1,if_true]
 simp[ao,List.map_set]
 rfl
theorem gb(h0:0<=u)(ha:l[u.toNat]? = some a):UU u (ao l).length=true:=by
 have:=(MR.1 ha).1
 simp[UU,ao];omega
theorem G0(ha:l[i]? = some a):i<l.length:=(MR.1 ha).1
theorem jc(ha:l[i]? = some a):EO MJ 3 (ao l) 0 0 i 0 (SW a):=by
 have e1:(ao l)[i]? = some [SW a]:=by simp[ao,ha]
 unfold EO
 simp only[e1,if_true,Pk]
 rfl
theorem room8(hn:n<=1000000000):Um n 8=true:=by simp[Um];omega
abbrev zbq(b:Int):List (bY):=([[SW b]]:List (bY))
theorem vg_app(hb:h[b]? = some (.T7 (ao l) e 1))(hk:h[k]? = some (.T7 [[SW a]] 0 1))(hl:l.length<=1000000):
  UH MJ h .append [55,55] [.ref (.T7 b e),.ref (.T7 k 0)]=some (true,Qe (.T7 b (e+1)),h.set b (.T7 (ao (l++[a])) (e+1) 1)):=by
 have h1:(zbq a).all (aR 1)=true:=rfl
 have h2:Um ((ao l).length+1) 8=true:=room8 (by rw[dv];omega)
 have h3:(dz MJ 55,MJ.underlying 55,VB MJ 3,bytesOf MJ 3,dC MJ 3)=(some 3,some (.slice 3),some 1,some 8,some [SW 0]):=by kernel_rfl
 simp only[MP] at h3
 obtain⟨h3,h4,h5,h6,h7⟩:=h3
 simp only[UH,nC,h3,h4,h5,h6,h7,ziw,ZK,hk,hb,if_true,PY,NC,if_false,h1,h2,Ow,and_self,eu]
theorem vs_app(hb:h[b]? = some (.T7 (ao l) e 1)){i:Nat}(hk:h[k]? = some (.T7 [[SW a]] 0 1))(hl:l.length<=1000000)(UY:i+n=l.length):
  UH MJ h .append [55,55] [.ref (.vs b e i n none),.ref (.T7 k 0)]=some (true,Qe (.T7 b (e+1)),h.set b (.T7 (ao (l.drop i++[a])) (e+1) 1)):=by
 have h1:(zbq a).all (aR 1)=true:=rfl
 have h2:Um (n+1) 8=true:=room8 (by omega)
 have h3:(dz MJ 55,MJ.underlying 55,VB MJ 3,bytesOf MJ 3,dC MJ 3)=(some 3,some (.slice 3),some 1,some 8,some [SW 0]):=by kernel_rfl
 simp only[MP] at h3
 obtain⟨h3,h4,h5,h6,h7⟩:=h3
 have h8:(ao l).drop i++[[SW a]]=ao (l.drop i++[a]):=by simp[ao,List.map_drop]
 simp only[UH,nC,h3,h4,h5,h6,h7,ziw,ZK,hk,hb,if_true,PY,NC,if_false,h1,h2,Ow,and_self,dv,UY,h8,List.isEmpty_cons,Bool.not_false]
end
abbrev usT(v:Int):bY:=(zdM v)
abbrev usU(_ r u:Int):bY:=Ue 59 0 [ZZ,ZX,Z4,(9,SW r),(10,SW u)]
abbrev zdp(a:Nat):bY:=[.ref (.T7 a 0)]
abbrev Ye:bY:=(zdp 6)
abbrev za9:Uc:=(.T7 [[SW (-1)]] 0 1)
noncomputable abbrev ubH(es:tO)(A:bv)(fs:bV)(v to:Int)(by':bV)(l:bV)(e:Nat)(Q:D)(st:LoopState)(pd:Of):aT:=usH es A fs v (V7 to) (.var Ye) za9 (.T7 (ao by') 0 1) (.T7 (ao l) e 1) (.var [Q]) st pd
theorem y7:(CW MJ U2 (ubH es A fs v to by' l e Q .ready none) true (ar (sub Nh 1)) {t:=dW (usT v) [(40,SW r),(41,SW u)],h:=ubH es A fs v to by' l e Q .ready none,m:=[]} .normal {t:=usU v r u,h:=ubH es A fs v to by' l e Q .ready none,m:=[]}):=by
 exact zx [.st (.mask [5,6,7,9,10])] [] .n
abbrev zd2(a:Nat)(b:Int):D:=(.ref (.vp a 0 (MU b) 0))
theorem LK(h0:0<=u)(hx:by'[u.toNat]? = some x)(hg:Zd (x>=0)=true):(CW MJ U2 (ubH es A fs v to by' l e Q .ready none) true (af (sub Nh 1)) {t:=usU v r u,h:=ubH es A fs v to by' l e Q .busy none,m:=[]} .normal {t:=Ue 59 0 [],h:=ubH es A fs v to by' l e Q .busy none,m:=[]}):=by
 let v0:aT:=[.T7 (ao fs) 0 1,.U7,.var (ZI es 0 A),.var [SW to],.var Ye,.T7 [[SW (-1)]] 0 1,.T7 (ao by') 0 1,.T7 (ao l) e 1,.var [Q],.var Ym,.var [SW v],.Ut,.loop NJ none 0 (Ze v) Y8 (ar (sub Nh 1)) (af (sub Nh 1))]
 refine zx Xd [.ov 45 (SW x),.b true] (.c (show UU u (MO (ao by'))=true from ?_) (.c (show @Eq (oN) (aN MJ v0 3 (zd2 6 u)) (Yc x) from ?_) (.c hg .n)))<;>subst v0<;>(first|assumption|rfl|exact gb h0 hx|exact bA rfl hx)
theorem ub_hit(h0:0<=u)(hx:by'[u.toNat]? = some x)(hg:Zd (x>=0)=false)(ht:(u==to)=true):(CW MJ U2 (ubH es A fs v to by' l e Q .ready none) true (af (sub Nh 1)) {t:=usU v r u,h:=ubH es A fs v to by' l e Q .busy none,m:=[]} (.exit 0) (Yn 59 (ubH es A fs v to (by'.set u.toNat r) l e Q .busy none))):=by
 let v0:aT:=[.T7 (ao fs) 0 1,.U7,.var (ZI es 0 A),.var [SW to],.var Ye,.T7 [[SW (-1)]] 0 1,.T7 (ao (OZ by' (MU u) r)) 0 1,.T7 (ao l) e 1,.var [Q],.var Ym,.var [SW v],.Ut,.loop NJ none 0 (Ze v) Y8 (ar (sub Nh 1)) (af (sub Nh 1))]
 let v1:aT:=[.T7 (ao fs) 0 1,.U7,.var (ZI es 0 A),.var [SW to],.var Ye,.T7 [[SW (-1)]] 0 1,.T7 (ao by') 0 1,.T7 (ao l) e 1,.var [Q],.var Ym,.var [SW v],.Ut,.loop NJ none 0 (Ze v) Y8 (ar (sub Nh 1)) (af (sub Nh 1))]
 refine zx Xd [.ov 45 (SW x),.b false,.oh 10050 D.any (ubH es A fs v to (OZ by' (MU u) r) l e Q NJ none),.b true] (.c (show UU u (MO (ao by'))=true from ?_) (.c (show @Eq (oN) (aN MJ v1 3 (zd2 6 u)) (Yc x) from ?_) (.c hg (.c (show UU u (MO (ao by'))=true from ?_) (.c (show @Eq (Option (aT)) (aX MJ v1 3 (.ref (Wf 6 u)) (SW r)) (some v0) from ?_) (.c ht .n))))))<;>subst v0 v1<;>(first|assumption|rfl|exact gb h0 hx|exact bA rfl hx|exact nu rfl (G0 hx))
abbrev ZE(a:Int)(b:bY):bY:=(zb3 a b)
abbrev Va(a:Nat):D:=(.ref (.T7 7 a))
abbrev zco(a b c d:Int)(f:Ref):bY:=(MK (U0 U2 (Ue 59 0 [ZZ,ZX,Z4,(9,SW a),(10,SW b),(42,.ref (.T7 6 0)),(43,SW b),(44,.ref (Wf 6 b)),(45,SW c),(46,T6 (Zd (c>=0))),(47,.ref (.T7 6 0)),(48,SW b),(49,SW a),(50,.ref (Wf 6 b)),(51,SW b),(52,SW d),(53,T6 (b==d)),(54,.ref f),(55,SW b),(56,.ref (.T7 13 0))])) [PN 54,PN 56])
theorem ub_vec(h0:0<=u)(hx:by'[u.toNat]? = some x)(hg:Zd (x>=0)=false)(ht:(u==to)=false)(hl:l.length<=1000000):(CW MJ U2 (ubH es A fs v to by' l e (Va e) .ready none) true (af (sub Nh 1)) {t:=usU v r u,h:=ubH es A fs v to by' l e (Va e) .busy none,m:=[]} .normal (Yn 59 (ubH es A fs v to (by'.set u.toNat r) (l++[u]) (e+1) (.ref (.T7 7 (e+1))) .busy none))):=by
 let v1:bY:=(ZI es 0 A)
 let v2:=OZ by' (MU u) r
 let v3:bY:=ZV
 let v0:aT:=[.T7 (ao fs) 0 1,.U7,.var v1,.var [SW to],.var [.ref (.T7 6 0)],.T7 [[SW (-1)]] 0 1,.T7 (ao by') 0 1,.T7 (ao l) e 1,.var [.ref (.T7 7 e)],.var zeh,.var [SW v],.Ut,.loop NJ none 0 (zdQ v v3) zei (ar (sub Nh 1)) (af (sub Nh 1))]
 refine zx (za8 13) [.ov 45 (SW x),.b false,.oh 10050 D.any (ubH es A fs v to v2 l e (Va e) NJ none),.b false,.oh 57 (.ref (.T7 7 (e+1))) (ubH es A fs v to v2 (l++[u]) (e+1) (Va e) NJ none++[.T7 [[SW u]] 0 1])] (.c (show UU u (MO (ao by'))=true from ?_) (.c (show @Eq (oN) (aN MJ v0 3 (zd2 6 u)) (Yc x) from ?_) (.c hg (.c (show UU u (MO (ao by'))=true from ?_) (.c (show @Eq (Option (aT)) (aX MJ v0 3 (.ref (Wf 6 u)) (SW r)) (some [.T7 (ao fs) 0 1,.U7,.var v1,.var [SW to],.var [.ref (.T7 6 0)],.T7 [[SW (-1)]] 0 1,.T7 (ao v2) 0 1,.T7 (ao l) e 1,.var [.ref (.T7 7 e)],.var zeh,.var [SW v],.Ut,.loop NJ none 0 (zdQ v v3) zei (ar (sub Nh 1)) (af (sub Nh 1))]) from ?_) (.c ht (.c (show @Eq (Option (Bool×D×aT)) (UH MJ [.T7 (ao fs) 0 1,.U7,.var v1,.var [SW to],.var Ye,.T7 [[SW (-1)]] 0 1,.T7 (ao v2) 0 1,.T7 (ao l) e 1,.var (XI 7 e),.var Ym,.var [SW v],.Ut,.loop NJ none 0 (ZE v v3) Y8 (ar (sub Nh 1)) (af (sub Nh 1)),.T7 [[SW u]] 0 1] Builtin.append [55,55] (zco r u x to (.T7 7 e))) (some (true,Qe (.T7 7 (e+1)),[.T7 (ao fs) 0 1,.U7,.var v1,.var [SW to],.var Ye,.T7 [[SW (-1)]] 0 1,.T7 (ao v2) 0 1,.T7 (ao (l++[u])) (e+1) 1,.var (XI 7 e),.var Ym,.var [SW v],.Ut,.loop NJ none 0 (ZE v v3) Y8 (ar (sub Nh 1)) (af (sub Nh 1)),.T7 [[SW u]] 0 1])) from ?_) (.c (show MY 13 (.T7 (ao fs) 0 1)=true from ?_) (.c (iqT 13 .U7) (.c (iqT 13 (.var v1)) (.c (iqT 13 (V7 to)) (.c (iqT 13 (.var Ye)) (.c (iqT 13 za9) (.c (show MY 13 (.T7 (ao v2) 0 1)=true from ?_) (.c (show MY 13 (.T7 (ao (l++[u])) (e+1) 1)=true from ?_) (.c (iqT 13 (.var (XI 7 (e+1)))) (.c (iqT 13 (.var Ym)) (.c (iqT 13 (V7 v)) (.c (iqT 13 .Ut) (.c (iqT 13 (zcJ NJ (ZE v v3) Y8 (sub Nh 1))) .n))))))))))))))))))))<;>subst v1 v2 v3 v0<;>(first|assumption|rfl|exact gb h0 hx|exact bA rfl hx|exact nu rfl (G0 hx)|exact vg_app rfl rfl hl|exact aB _ _|exact aw _ _)
abbrev Y7(a b c:Nat):Ref:=(.vs 7 a b c none)
abbrev zcY(a b c:Nat):D:=(.ref (Y7 a b c))
theorem ub_vs(h0:0<=u)(hx:by'[u.toNat]? = some x)(hg:Zd (x>=0)=false)(ht:(u==to)=false)(hl:l.length<=1000000)(UY:i+n=l.length):(CW MJ U2 (ubH es A fs v to by' l e (zcY e i n) .ready none) true (af (sub Nh 1)) {t:=usU v r u,h:=ubH es A fs v to by' l e (zcY e i n) .busy none,m:=[]} .normal {t:=Ue 59 0 [],h:=ubH es A fs v to (by'.set u.toNat r) (l.drop i++[u]) (e+1) (.ref (.T7 7 (e+1))) .busy none,m:=[]}):=by
 let v1:bY:=(ZI es 0 A)
 let v2:=OZ by' (MU u) r
 let v3:bY:=ZV
 let v0:aT:=[.T7 (ao fs) 0 1,.U7,.var v1,.var [SW to],.var [.ref (.T7 6 0)],.T7 [[SW (-1)]] 0 1,.T7 (ao by') 0 1,.T7 (ao l) e 1,.var [.ref (.vs 7 e i n none)],.var zeh,.var [SW v],.Ut,.loop NJ none 0 (zdQ v v3) zei (ar (sub Nh 1)) (af (sub Nh 1))]
 refine zx (za8 13) [.ov 45 (SW x),.b false,.oh 10050 D.any (ubH es A fs v to v2 l e (zcY e i n) NJ none),.b false,.oh 57 (.ref (.T7 7 (e+1))) (ubH es A fs v to v2 (Oz i l++[u]) (e+1) (zcY e i n) NJ none++[.T7 [[SW u]] 0 1])] (.c (show UU u (MO (ao by'))=true from ?_) (.c (show @Eq (oN) (aN MJ v0 3 (zd2 6 u)) (Yc x) from ?_) (.c hg (.c (show UU u (MO (ao by'))=true from ?_) (.c (show @Eq (Option (aT)) (aX MJ v0 3 (.ref (Wf 6 u)) (SW r)) (some [.T7 (ao fs) 0 1,.U7,.var v1,.var [SW to],.var (zdp 6),.T7 [[SW (-1)]] 0 1,.T7 (ao v2) 0 1,.T7 (ao l) e 1,.var [.ref (.vs 7 e i n none)],.var zeh,.var [SW v],.Ut,.loop NJ none 0 (zb3 v v3) zei (ar (sub Nh 1)) (af (sub Nh 1))]) from ?_) (.c ht (.c (show @Eq (Option (Bool×D×aT)) (UH MJ [.T7 (ao fs) 0 1,.U7,.var v1,.var [SW to],.var Ye,.T7 [[SW (-1)]] 0 1,.T7 (ao v2) 0 1,.T7 (ao l) e 1,.var [.ref (Y7 e i n)],.var Ym,.var [SW v],.Ut,.loop NJ none 0 (ZE v v3) Y8 (ar (sub Nh 1)) (af (sub Nh 1)),.T7 [[SW u]] 0 1] Builtin.append [55,55] (zco r u x to (Y7 e i n))) (some (true,Qe (.T7 7 (e+1)),[.T7 (ao fs) 0 1,.U7,.var v1,.var [SW to],.var Ye,.T7 [[SW (-1)]] 0 1,.T7 (ao v2) 0 1,.T7 (ao (Oz i l++[u])) (e+1) 1,.var [.ref (Y7 e i n)],.var Ym,.var [SW v],.Ut,.loop NJ none 0 (ZE v v3) Y8 (ar (sub Nh 1)) (af (sub Nh 1)),.T7 [[SW u]] 0 1])) from ?_) (.c (show MY 13 (.T7 (ao fs) 0 1)=true from ?_) (.c (iqT 13 .U7) (.c (iqT 13 (.var v1)) (.c (iqT 13 (V7 to)) (.c (iqT 13 (.var Ye)) (.c (iqT 13 za9) (.c (show MY 13 (.T7 (ao v2) 0 1)=true from ?_) (.c (show MY 13 (.T7 (ao (Oz i l++[u])) (e+1) 1)=true from ?_) (.c (iqT 13 (.var (XI 7 (e+1)))) (.c (iqT 13 (.var Ym)) (.c (iqT 13 (V7 v)) (.c (iqT 13 .Ut) (.c (iqT 13 (zcJ NJ (ZE v v3) Y8 (sub Nh 1))) .n))))))))))))))))))))<;>subst v1 v2 v3 v0<;>(first|assumption|rfl|exact gb h0 hx|exact bA rfl hx|exact nu rfl (G0 hx)|exact vs_app rfl rfl hl UY|exact aB _ _|exact aw _ _)
noncomputable abbrev usX(es:tO)(A:bv)(fs:bV)(v to:Int)(B:bv)(by':bV)(l:bV)(e:Nat)(Q:D)(j:Int):AS:=usS es A fs v B (V7 to) (.var Ye) za9 (.T7 (ao by') 0 1) (.T7 (ao l) e 1) (.var [Q]) j
theorem usl_a(hA:ax v A [.sl B] 1)
  (hcw:CW MJ U2 (ubH es A fs v to by' l e Q .ready none) false (.loop (sub QK 0)) (usX es A fs v to B by' l e Q 0) (.exit 0) (zb6 32 [] (ubH es A fs v to by2 l2 e2 Q2 .ready none))):(Ev MJ U2 193 (WT 12 9 10) (ubH es A fs v to by' l e Q .ready none) (.UI []) (ubH es A fs v to by2 l2 e2 Q2 .ready none)):=by
 have UE:=(@hcw)
 let v0:aT:=[.T7 (ao fs) 0 1,.U7,.var (ZI es 0 A),.var [SW to],.var Ye,.T7 [[SW (-1)]] 0 1,.T7 (ao by2) 0 1,.T7 (ao l2) e2 1,.var [Q2],.var Ym,.var [SW v],.Ut,.loop Nl none 0 (Ze v) Y8 (ar (sub Nh 1)) (af (sub Nh 1))]
 exact Na (Oc (h':=v0) (d:=NG []) UR [.row [Dp.sl B],.sum [0,1,2,12,13,14] (NR 0) (Xy 32 v0)] (by kernel_rfl) (.c hA (.c UE .n))) (by rfl) (by rfl)
theorem usr_a(hA:ax v A [.sl B] 1)
  (hcw:CW MJ U2 (ubH es A fs v to by' l e Q .ready none) false (.loop (sub QK 0)) (usX es A fs v to B by' l e Q 0) .ret (Yn 32 (ubH es A fs v to by2 l2 e2 Q2 .done (some (.exit 0))))):(Ev MJ U2 193 (WT 12 9 10) (ubH es A fs v to by' l e Q .ready none) (.UI []) (ubH es A fs v to by2 l2 e2 Q2 .done (some (.exit 0)))):=by
 have UE:=(@hcw)
 let v0:aT:=[.T7 (ao fs) 0 1,.U7,.var (ZI es 0 A),.var [SW to],.var Ye,.T7 [[SW (-1)]] 0 1,.T7 (ao by2) 0 1,.T7 (ao l2) e2 1,.var [Q2],.var Ym,.var [SW v],.Ut,.loop PJ (some (SZ 0)) 0 (Ze v) Y8 (ar (sub Nh 1)) (af (sub Nh 1))]
 exact Na (Oc (h':=v0) (d:=NG []) UR [.row [Dp.sl B],.sum [0,1,2,12,13,14] (Exit.ret) (Xy 32 v0)] (by kernel_rfl) (.c hA (.c UE .n))) (by rfl) (by rfl)
structure QF where
 vs:Bool
 e:Nat
 i:Nat
 l:bV
variable {s s' s0:bV×QF}
def QF.d(q:QF):D:=match q.vs with
 | true=>.ref (Y7 q.e q.i (q.l.length-q.i))
 | false=>.ref (.T7 7 q.e)
def QF.list(q:QF):bV:=match q.vs with
 | true=>q.l.drop q.i
 | false=>q.l
def QF.push(q:QF)(u:Int):QF:=⟨false,q.e+1,0,q.list++[u]⟩
def QF.Ok(q:QF)(k:Nat):Prop:=(q.vs=true->q.i<=q.l.length)/\q.l.length<=k
theorem QF.Ok.push{q:QF}(h:q.Ok k):(q.push u).Ok (k+1):=by
 obtain⟨vs,e,i,l⟩:=q
 obtain⟨h1,h2⟩:=h
 refine⟨by simp[QF.push],?_⟩
 cases vs<;>simp_all[QF.push,QF.list]<;>omega
theorem QF.Ok.le{q:QF}{k':Nat}(h:q.Ok k)(hk:k<=k'):q.Ok k':=⟨h.1,Nat.le_trans h.2 hk⟩
noncomputable abbrev ubS(es:tO)(A:bv)(fs:bV)(v to:Int)(s:bV×QF)(st:LoopState)(pd:Of):aT:=ubH es A fs v to s.1 s.2.l s.2.e s.2.d st pd
def usY(to r u:Int)(s:bV×QF):(bV×QF)⊕(bV×QF):=match Zd (s.1.getD u.toNat 0>=0) with
 | true=>.inl s
 | false=>match u==to with
  | true=>.inr (s.1.set u.toNat r,s.2)
  | false=>.inl (s.1.set u.toNat r,s.2.push u)
section
variable {es:tO} {A:bv} {fs:bV} {v to r u:Int} {s s':bV×QF}
theorem ub_ivl(h0:0<=u)(hu:u.toNat<s.1.length)(hq:s.2.Ok 1000000)(h:usY to r u s=.inl s'):
  Iv MJ U2 (.ref (.yl 12)) [SW r,SW u] (ubS es A fs v to s .ready none) (T6 true) (ubS es A fs v to s' .ready none):=by
 have hx:s.1[u.toNat]? = some (s.1.getD u.toNat 0):=by simp[Nb,hu]
 unfold usY at h
 split at h
 ·rename_i hg
  cases h
  exact TZ (h1:=ubS es A fs v to s .ready none) rfl rfl y7 rfl (LK h0 hx hg) rfl
 ·rename_i hg
  split at h
  ·cases h
  ·rename_i ht
   cases h
   obtain⟨by',vs,e,i,l⟩:=s
   cases vs with
   | false=>exact TZ (h1:=ubH es A fs v to by' l e (Va e) .ready none) rfl rfl y7 rfl (ub_vec h0 hx hg ht hq.2) rfl
   | true =>
    have hi:=hq.1 rfl
    exact TZ (h1:=ubH es A fs v to by' l e (.ref (Y7 e i (l.length-i))) .ready none) rfl rfl y7 rfl (ub_vs h0 hx hg ht hq.2 (RY hi)) rfl
theorem ub_ivr(h0:0<=u)(hu:u.toNat<s.1.length)(h:usY to r u s=.inr s'):
  Iv MJ U2 (.ref (.yl 12)) [SW r,SW u] (ubS es A fs v to s .ready none) (T6 false) (ubS es A fs v to s' .done (some (.exit 0))):=by
 have hx:s.1[u.toNat]? = some (s.1.getD u.toNat 0):=by simp[Nb,hu]
 unfold usY at h
 split at h
 ·cases h
 ·rename_i hg
  split at h
  ·rename_i ht
   cases h
   exact TZ (h1:=ubS es A fs v to s .ready none) rfl rfl y7 rfl (ub_hit h0 hx hg ht) rfl
  ·cases h
end
def ixR(r:Int):Int:=ML.wrap (Nz r 2)
def exA(es:tO)(r:Int):Uu:=es.getD (ixR r).toNat ⟨0,0,0⟩
def fA(fs:bV)(r:Int):Int:=fs.getD (ixR r).toNat 0
def zeO(es:tO)(fs:bV)(r:Int):Int:=fe r (exA es r) (fA fs r)
def gi(es:tO)(r:Int):Int:=qj r (exA es r)
def cA(m:Nat)(r:Int):Prop:=0<=r/\r<2*m
theorem kL(h:cA m r)(hm:m<=1000000):ixR r=((r.toNat / 2:Nat):Int)/\r.toNat / 2<m:=by
 obtain⟨h1,h2⟩:=h
 have e:Nz r 2=((r.toNat / 2:Nat):Int):=by
  rw[Int.tdiv_eq_ediv_of_nonneg h1];omega
 refine⟨?_,by omega⟩
 unfold ixR
 rw[e,wrap_i64 (by omega) (by omega)]
section
variable {es:tO} {fs:bV} {r:Int}
theorem Dy(h:cA es.length r)(hm:es.length<=1000000):es[(ixR r).toNat]? = some (exA es r):=by
 obtain⟨h1,h2⟩:=kL h hm
 unfold exA
 rw[h1,N4]
 simp only[Nb,Nd h2,OA]
theorem Dz(h:cA es.length r)(hm:es.length<=1000000)(hl:fs.length=es.length):fs[(ixR r).toNat]? = some (fA fs r):=by
 obtain⟨h1,h2⟩:=kL h hm
 unfold fA
 rw[h1,N4]
 simp only[Nb,Nd (show r.toNat / 2<fs.length by omega),OA]
theorem s9(h:cA es.length r)(hm:es.length<=1000000):ax (ML.wrap (Nz r 2)) (es.map Nc) (exA es r).row 3:=by
 obtain⟨h1,h2⟩:=kL h hm
 have h3:=Dy h hm
 show ax (ixR r) _ _ _
 rw[h1] at h3 ⊢
 rw[N4] at h3
 exact rowAt h3 rfl
theorem pH(h:cA es.length r)(hm:es.length<=1000000)(UY:∀x∈es,ef n x):0<=gi es r/\(gi es r).toNat<n:=by
 have:=UY _ (NX (Dy h hm))
 obtain⟨a,b,c,d⟩:=this
 unfold gi qj
 split<;>omega
end
def usG(es:tO)(fs:bV)(to r:Int)(s:bV×QF):(bV×QF)⊕(bV×QF):=match Zd (zeO es fs r>0) with
 | true=>usY to r (gi es r) s
 | false=>.inl s
noncomputable def usFin(es:tO)(A:bv)(fs:bV)(v to:Int):(bV×QF)⊕(bV×QF)->Exit×AS:=bJ (.exit 0) (λs=>{t:=Ue 32 0 [],h:=ubS es A fs v to s .ready none,m:=[]}) (λs=>(.ret,{t:=Ue 32 0 [],h:=ubS es A fs v to s .done (some (.exit 0)),m:=[]}))
theorem LL(h:usY to r u s=.inl s')(h1:s.1.length=n)(h2:s.2.Ok k):s'.1.length=n/\s'.2.Ok (k+1):=by
 unfold usY at h
 split at h
 ·cases h;exact⟨h1,h2.le (by omega)⟩
 ·split at h
  ·cases h
  ·cases h;exact⟨by simpa using h1,h2.push⟩
theorem DA(hl:fs.length=es.length)(hm:es.length<=65536)(UY:∀x∈es,ef n x){B:bV}(hB:∀r∈B,cA es.length r)(hBl:B.length<=200000)
   (h1:s0.1.length=n) (h2:s0.2.Ok 100000) :
  CW MJ U2 (ubS es A fs v to s0 .ready none) false (.loop (sub QK 0)) (usX es A fs v to (aW B) s0.1 s0.2.l s0.2.e s0.2.d 0) (usFin es A fs v to (UD (usG es fs to) B s0)).1 (usFin es A fs v to (UD (usG es fs to) B s0)).2:=by
 refine CW.each (P:=MJ) (Γ:=U2) (h0:=ubS es A fs v to s0 .ready none) (rd:=false) (c:=sub QK 0) (σ:=bV×QF) (ρ:=bV×QF) B (usG es fs to)
  (λj s=>usX es A fs v to (aW B) s.1 s.2.l s.2.e s.2.d (j:Int)) (.exit 0) (λs=>{t:=Ue 32 0 [],h:=ubS es A fs v to s .ready none,m:=[]}) (λs=>(.ret,(zb6 32 [] (ubS es A fs v to s .done (some (.exit 0))))))
  (λj s=>s.1.length=n/\s.2.Ok (100000+j)) (by simp) (by simp) ?_ ?_ s0 ⟨h1,h2⟩
 ·rintro j r s hj ⟨g1,g2⟩
  have hi:=(MR.1 hj).1
  have hr:=hB r (NX hj)
  have hq:=(kL hr (by omega)).1
  have hql:=(kL hr (by omega)).2
  have hx:=s9 hr (by omega)
  have hf:=Dz (fs:=fs) hr (by omega) hl
  have he:=pH hr (by omega) UY
  have zgk:=rowAt (row:=λn:Int=>[vi n]) hj rfl
  have U8:=UO (λn:Int=>[vi n]) hi
  have hw:=Uo (i:=j) hi (by omega)
  cases hc:Zd (zeO es fs r>0) with
  | false =>
   have e:usG es fs to r s=.inl s:=by unfold usG;rw[hc]
   rw[e]
   refine⟨λs' h=>?_,us_no (x:=exA es r) (f:=fA fs r) hq hx hf (by omega) zgk U8 hw hc⟩
   cases h
   exact⟨g1,g2.le (by omega)⟩
  | true =>
   have e:usG es fs to r s=usY to r (gi es r) s:=by unfold usG;rw[hc]
   rw[e]
   have hu:(gi es r).toNat<s.1.length:=by omega
   cases hy:usY to r (gi es r) s with
   | inl s' =>
    refine⟨λs2 h=>?_,us_yes (x:=exA es r) (f:=fA fs r) hq hx hf (by omega) zgk U8 hw hc rfl (ub_ivl (u:=gi es r) he.1 hu (g2.le (by omega)) hy)⟩
    cases h
    exact LL hy g1 g2
   | inr s' =>
    refine⟨λs2 h=>(by cases h),us_stop (x:=exA es r) (f:=fA fs r) hq hx hf (by omega) zgk U8 hc (ub_ivr (u:=gi es r) he.1 hu hy)⟩
 ·intro s _
  exact LJ (bl (λn:Int=>[vi n]) B)
section
variable {es:tO} {A:bv} {fs:bV} {v to:Int}
noncomputable abbrev Ib(es:tO)(A:bv)(fs:bV)(v to:Int)(by':bV)(l:bV)(e:Nat)(Q:D):aT:=[.T7 (ao fs) 0 1,.U7,.var (Wh es 0 A),.var [SW to],.var Ye,.T7 [[SW (-1)]] 0 1,.T7 (ao by') 0 1,.T7 (ao l) e 1,.var [Q],.var Ym,.var [SW v]]
noncomputable abbrev zbX(a:Int)(b:tO)(c:bv)(f:bV)(g:Int)(i:bV×QF):AS:={t:=usT a,h:=Ib b c f a g i.1 i.2.l i.2.e i.2.d,m:=[]}
theorem us_rfl(hl:fs.length=es.length)(hm:es.length<=65536)(UY:∀x∈es,ef n x){B:bV}(hA:ax v A [.sl (aW B)] 1)(hB:∀r∈B,cA es.length r)(hBl:B.length<=200000)
   (h1:s0.1.length=n) (h2:s0.2.Ok 100000) (hf:UD (usG es fs to) B s0=.inl s') :
  CW MJ U2 h0 false (sub Nh 1) (zbX v es A fs to s0) .normal {t:=usT v,h:=ubS es A fs v to s' .exhausted none,m:=[11]}:=by
 have:=DA (A:=A) (v:=v) (to:=to) hl hm UY hB hBl h1 h2
 rw[hf] at this
 exact CW.rangeFunc (f:=193) (fi:=[]) (ca:=ZV) UR (s:=(zbX v es A fs to s0)) (g:=.tmp 39) (ps:=#[40,41]) (asg:=ar (sub Nh 1)) (body:=af (sub Nh 1)) rfl (by kernel_rfl) (usl_a hA this) rfl
theorem us_rfr(hl:fs.length=es.length)(hm:es.length<=65536)(UY:∀x∈es,ef n x){B:bV}(hA:ax v A [.sl (aW B)] 1)(hB:∀r∈B,cA es.length r)(hBl:B.length<=200000)
   (h1:s0.1.length=n) (h2:s0.2.Ok 100000) (hf:UD (usG es fs to) B s0=.inr s') :
  CW MJ U2 h0 false (sub Nh 1) (zbX v es A fs to s0) (.exit 0) {t:=usT v,h:=ubS es A fs v to s' .exhausted (some (.exit 0)),m:=[11]}:=by
 have:=DA (A:=A) (v:=v) (to:=to) hl hm UY hB hBl h1 h2
 rw[hf] at this
 exact CW.rangeFunc (f:=193) (fi:=[]) (ca:=ZV) UR (s:=(zbX v es A fs to s0)) (g:=.tmp 39) (ps:=#[40,41]) (asg:=ar (sub Nh 1)) (body:=af (sub Nh 1)) rfl (by kernel_rfl) (usr_a hA this) rfl
end
section
variable {l:bV} {b i e n:Nat} {a u:Int} {h:aT}
theorem MH:(dz MJ 55,MJ.underlying 55,VB MJ 3)=(some 3,some (.slice 3),some 1):=by kernel_rfl
theorem DB(hb:h[b]? = some (.T7 (ao l) e 1)):UH MJ h .len [55] [.ref (.vs b e i n c)]=some (true,SW (n:Int),h):=by
 have h3:=MH
 simp only[MP] at h3
 simp only[UH,tA,h3.2.1,zdP,hb,if_true,Nr,keep]
theorem Ic(hb:h[b]? = some (.T7 (ao l) e 1)):UH MJ h .len [55] (XI b e)=some (true,SW (l.length:Int),h):=by
 have h3:=MH
 simp only[MP] at h3
 simp only[UH,tA,h3.2.1,zdP,hb,if_true,Nr,keep,dv]
theorem vs_ia(hb:h[b]? = some (.T7 (ao l) e 1))(hn:0<n):ba MJ h 55 (.ref (.vs b e i n c)) (SW 0)=some (true,Qe (.vp b e i 0)):=by
 have h3:=MH
 simp only[MP] at h3
 have h4:UU 0 n=true:=by simp[UU];omega
 simp only[ba,VC,h3.2.1,h3.2.2,hb,if_true,and_self,h4,Int.toNat_zero,Nat.add_zero]
theorem vg_ia(hb:h[b]? = some (.T7 (ao l) e 1))(hn:0<l.length):ba MJ h 55 (.ref (.T7 b e)) (SW 0)=some (true,Qe (.vp b e 0 0)):=by
 have h3:=MH
 simp only[MP] at h3
 have h4:UU 0 l.length=true:=by simp[UU];omega
 simp only[ba,VC,h3.2.1,h3.2.2,hb,if_true,and_self,dv,h4,Int.toNat_zero]
theorem vs_sl(hb:h[b]? = some (.T7 (ao l) e 1))(hn:0<n)(UY:i+n=l.length):dT MJ h 55 (.ref (.vs b e i n none)) (some (SW 1)) none none=some (true,Qe (.vs b e (i+1) (n-1) none)):=by
 have h3:=MH
 simp only[MP] at h3
 have h4:nD 1 n n=true:=by simp[nD];omega
 have h5:¬((n:Int)=1/\¬(i+n=l.length/\True)):=by simp[UY]
 simp only[dT,bZ,AJ,h3.2.1,h3.2.2,zdP,hb,if_true,Yx,and_self,Nr,VC,h4,fM,dv,N4,h5,if_false,bI,Ow,Ty,Bool.true_or]
 rfl
theorem vg_sl(hb:h[b]? = some (.T7 (ao l) e 1))(hn:0<l.length):dT MJ h 55 (.ref (.T7 b e)) (some (SW 1)) none none=some (true,Qe (.vs b e 1 (l.length-1) none)):=by
 have h3:=MH
 simp only[MP] at h3
 have h4:nD 1 l.length l.length=true:=by simp[nD];omega
 have h5:¬((l.length:Int)=1/\¬True):=by simp
 simp only[dT,bZ,AJ,h3.2.1,h3.2.2,zdP,hb,if_true,Yx,and_self,Nr,VC,h4,fM,dv,N4,h5,if_false,bI,Ow,Ty,Bool.true_or,and_true,Int.reduceEq]
 rfl
end
abbrev sT:bY:=Ue 59 0 [Z5,ZZ,ZX,Z4]
abbrev zca(a:bV)(b:bY)(c:Int)(d f:bV)(g:Nat)(h:bY):aT:=[.T7 (ao a) 0 1,.U7,.var b,.var [SW c],.var Ye,.T7 [[SW (-1)]] 0 1,.T7 (ao d) 0 1,.T7 (ao f) g 1,.var h]
abbrev sH(es:tO)(A:bv)(fs:bV)(to:Int)(by':bV)(l:bV)(e:Nat)(Q:D):aT:=(zca fs (Wh es 0 A) to by' l e [Q])
abbrev sS(es:tO)(A:bv)(fs:bV)(to:Int)(by':bV)(l:bV)(e:Nat)(Q:D):AS:={t:=sT,h:=sH es A fs to by' l e Q,m:=[]}
abbrev VA:BY:=[.st (.mask [0,5,6,7])]
abbrev zcz(a:Ref):bY:=(MK (U0 U2 (Ue 59 0 [Z5,ZZ,ZX,Z4,(29,.ref a)])) [PN 29])
theorem sh_end(hn:Zd ((n:Int)>0)=false):(CW MJ U2 (sH es A fs to by' l e (zcY e i n)) false (sub Nh 0) (sS es A fs to by' l e (zcY e i n)) (.exit 0) (sS es A fs to by' l e (zcY e i n))):=by
 let v0:aT:=(zca fs (ZI es 0 A) to by' l e [.ref (Y7 e i n)])
 exact zx VA [.ov 30 (ZO n),.b false] (.c (show @Eq (Option (Bool×D×aT)) (UH MJ v0 Rk [55] (zcz (Y7 e i n))) (some (true,(ZO n),v0)) from(by subst v0;first|assumption|rfl|exact DB rfl)) (.c hn .n))
abbrev ZN(a:Int)(b:Ref)(c d f:Nat):oN:=(Ss (U0 U2 (Ue 59 0 [(0,.ref (.ptr 2 0)),(5,.ref (.ptr 3 0)),(6,.ref (.ptr 4 0)),(7,.ref (.ptr 8 0)),(8,SW a),(29,.ref (b)),(30,SW (↑c:Int)),(31,T6 (Zd ((↑c:Int)>0))),(32,.ref (b)),(33,.ref (.vp 7 d f 0)),(34,SW a),(35,.ref (b))])) (some (RC (Ox ML 1))))
abbrev za1(a b:Nat):D:=(.ref (.vp 7 a b 0))
abbrev zck(a c d:Nat)(f:Int)(g j:Nat)(k:Exit)(l:aT):BY:=[.ov 30 (ZO a),.b true,.ov 33 (za1 c d),.ov 34 (SW f),.ov 36 (.ref (Y7 c g (j-1))),.inl,.sum [0,5,6,7,8,39] (k) {t:=(Ze f),h:=l,m:=[11]}]
theorem sh_vs(hn:Zd ((n:Int)>0)=true)(hn0:0<n)(UY:i+n=l.length)(hv:l[i]? = some v)
  (hcw:CW MJ U2 (sH es A fs to by' l e (zcY e i n)) false (sub Nh 1) {t:=usT v,h:=Ib es A fs v to by' l e (zcY e (i+1) (n-1)),m:=[]} .normal {t:=usT v,h:=ubH es A fs v to by2 l2 e2 Q2 .exhausted none,m:=[11]}):(CW MJ U2 (sH es A fs to by' l e (zcY e i n)) false (sub Nh 0) (sS es A fs to by' l e (zcY e i n)) .normal {t:=sT,h:=ubH es A fs v to by2 l2 e2 Q2 .exhausted none,m:=[11]}):=by
 have UE:=(@hcw)
 let v0:aT:=(zca fs (ZI es 0 A) to by' l e [.ref (Y7 e i n)])
 let v1:aT:=[.T7 (ao fs) 0 1,.U7,.var (ZI es 0 A),.var [SW to],.var Ye,.T7 [[SW (-1)]] 0 1,.T7 (ao by2) 0 1,.T7 (ao l2) e2 1,.var [Q2],.var Ym,.var [SW v],.Ut,.loop NM none 0 (Ze v) Y8 (ar (sub Nh 1)) (af (sub Nh 1))]
 refine zx VA (zck n e i v (i+1) n M6 v1) (.c (show @Eq (Option (Bool×D×aT)) (UH MJ v0 Rk [55] (zcz (Y7 e i n))) (some (true,(ZO n),v0)) from ?_) (.c hn (.c (show @Eq (Option (Bool×D)) (ba MJ v0 55 (zcY e i n) (SW 0)) (some (true,Qe (.vp 7 e i 0))) from ?_) (.c (show @Eq (oN) (aN MJ v0 3 (za1 e i)) (Yc v) from ?_) (.c (show @Eq (Option (Bool×D)) (dT MJ v0 55 (zcY e i n) (ZN v (.vs 7 e i n none) n e i) none none) (some (true,Qe (Y7 e (i+1) (n-1)))) from ?_) (.c UE .n))))))<;>subst v0 v1<;>(first|assumption|rfl|exact DB rfl|exact vs_ia rfl hn0|exact bA rfl hv|exact vs_sl rfl hn0 UY)
theorem sh_vsx(hn:Zd ((n:Int)>0)=true)(hn0:0<n)(UY:i+n=l.length)(hv:l[i]? = some v)
  (hcw:CW MJ U2 (sH es A fs to by' l e (zcY e i n)) false (sub Nh 1) {t:=usT v,h:=Ib es A fs v to by' l e (zcY e (i+1) (n-1)),m:=[]} (.exit 0) {t:=usT v,h:=ubH es A fs v to by2 l2 e2 Q2 .exhausted (some (.exit 0)),m:=[11]}):(CW MJ U2 (sH es A fs to by' l e (zcY e i n)) false (sub Nh 0) (sS es A fs to by' l e (zcY e i n)) (.exit 0) {t:=sT,h:=ubH es A fs v to by2 l2 e2 Q2 .exhausted (some (.exit 0)),m:=[11]}):=by
 have UE:=(@hcw)
 let v0:aT:=(zca fs (ZI es 0 A) to by' l e [.ref (Y7 e i n)])
 let v1:aT:=[.T7 (ao fs) 0 1,.U7,.var (ZI es 0 A),.var [SW to],.var Ye,.T7 [[SW (-1)]] 0 1,.T7 (ao by2) 0 1,.T7 (ao l2) e2 1,.var [Q2],.var Ym,.var [SW v],.Ut,.loop NM (some (SZ 0)) 0 (Ze v) Y8 (ar (sub Nh 1)) (af (sub Nh 1))]
 refine zx VA (zck n e i v (i+1) n (NR 0) v1) (.c (show @Eq (Option (Bool×D×aT)) (UH MJ v0 Rk [55] (zcz (Y7 e i n))) (some (true,(ZO n),v0)) from ?_) (.c hn (.c (show @Eq (Option (Bool×D)) (ba MJ v0 55 (zcY e i n) (SW 0)) (some (true,Qe (.vp 7 e i 0))) from ?_) (.c (show @Eq (oN) (aN MJ v0 3 (za1 e i)) (Yc v) from ?_) (.c (show @Eq (Option (Bool×D)) (dT MJ v0 55 (zcY e i n) (ZN v (.vs 7 e i n none) n e i) none none) (some (true,Qe (Y7 e (i+1) (n-1)))) from ?_) (.c UE .n))))))<;>subst v0 v1<;>(first|assumption|rfl|exact DB rfl|exact vs_ia rfl hn0|exact bA rfl hv|exact vs_sl rfl hn0 UY)
theorem sh_vg(hn:Zd ((l.length:Int)>0)=true)(hn0:0<l.length)(hv:l[0]? = some v)
  (hcw:CW MJ U2 (sH es A fs to by' l e (Va e)) false (sub Nh 1) {t:=usT v,h:=Ib es A fs v to by' l e (zcY e 1 (l.length-1)),m:=[]} .normal {t:=usT v,h:=ubH es A fs v to by2 l2 e2 Q2 .exhausted none,m:=[11]}):(CW MJ U2 (sH es A fs to by' l e (Va e)) false (sub Nh 0) (sS es A fs to by' l e (Va e)) .normal {t:=sT,h:=ubH es A fs v to by2 l2 e2 Q2 .exhausted none,m:=[11]}):=by
 have UE:=(@hcw)
 let v0:aT:=(zca fs (ZI es 0 A) to by' l e (XI 7 e))
 let v1:aT:=[.T7 (ao fs) 0 1,.U7,.var (ZI es 0 A),.var [SW to],.var Ye,.T7 [[SW (-1)]] 0 1,.T7 (ao by2) 0 1,.T7 (ao l2) e2 1,.var [Q2],.var Ym,.var [SW v],.Ut,.loop NM none 0 (Ze v) Y8 (ar (sub Nh 1)) (af (sub Nh 1))]
 refine zx VA (zck (MO l) e 0 v 1 (MO l) M6 v1) (.c (show @Eq (Option (Bool×D×aT)) (UH MJ v0 Rk [55] (zcz (.T7 7 e))) (some (true,(ZO (MO l)),v0)) from ?_) (.c hn (.c (show @Eq (Option (Bool×D)) (ba MJ v0 55 (Va e) (SW 0)) (some (true,Qe (.vp 7 e 0 0))) from ?_) (.c (show @Eq (oN) (aN MJ v0 3 (za1 e 0)) (Yc v) from ?_) (.c (show @Eq (Option (Bool×D)) (dT MJ v0 55 (Va e) (ZN v (.T7 7 e) (MO l) e 0) none none) (some (true,Qe (Y7 e 1 (MO l-1)))) from ?_) (.c UE .n))))))<;>subst v0 v1<;>(first|assumption|rfl|exact Ic rfl|exact vg_ia rfl hn0|exact bA rfl hv|exact vg_sl rfl hn0)
theorem sh_vgx(hn:Zd ((l.length:Int)>0)=true)(hn0:0<l.length)(hv:l[0]? = some v)
  (hcw:CW MJ U2 (sH es A fs to by' l e (Va e)) false (sub Nh 1) {t:=usT v,h:=Ib es A fs v to by' l e (zcY e 1 (l.length-1)),m:=[]} (.exit 0) {t:=usT v,h:=ubH es A fs v to by2 l2 e2 Q2 .exhausted (some (.exit 0)),m:=[11]}):(CW MJ U2 (sH es A fs to by' l e (Va e)) false (sub Nh 0) (sS es A fs to by' l e (Va e)) (.exit 0) {t:=sT,h:=ubH es A fs v to by2 l2 e2 Q2 .exhausted (some (.exit 0)),m:=[11]}):=by
 have UE:=(@hcw)
 let v0:aT:=(zca fs (ZI es 0 A) to by' l e (XI 7 e))
 let v1:aT:=[.T7 (ao fs) 0 1,.U7,.var (ZI es 0 A),.var [SW to],.var Ye,.T7 [[SW (-1)]] 0 1,.T7 (ao by2) 0 1,.T7 (ao l2) e2 1,.var [Q2],.var Ym,.var [SW v],.Ut,.loop NM (some (SZ 0)) 0 (Ze v) Y8 (ar (sub Nh 1)) (af (sub Nh 1))]
 refine zx VA (zck (MO l) e 0 v 1 (MO l) (NR 0) v1) (.c (show @Eq (Option (Bool×D×aT)) (UH MJ v0 Rk [55] (zcz (.T7 7 e))) (some (true,(ZO (MO l)),v0)) from ?_) (.c hn (.c (show @Eq (Option (Bool×D)) (ba MJ v0 55 (Va e) (SW 0)) (some (true,Qe (.vp 7 e 0 0))) from ?_) (.c (show @Eq (oN) (aN MJ v0 3 (za1 e 0)) (Yc v) from ?_) (.c (show @Eq (Option (Bool×D)) (dT MJ v0 55 (Va e) (ZN v (.T7 7 e) (MO l) e 0) none none) (some (true,Qe (Y7 e 1 (MO l-1)))) from ?_) (.c UE .n))))))<;>subst v0 v1<;>(first|assumption|rfl|exact Ic rfl|exact vg_ia rfl hn0|exact bA rfl hv|exact vg_sl rfl hn0)
def cS:Code->Code
 | .scope c=>c
 | c=>c
theorem G1(n:Nat):(zdO n)=ao (MS n (-1)):=by simp[ao]
theorem LM{n:Nat}(h1:2<=n)(hn:n<=4096):Ev MJ U2 156 [.ref (.T7 0 0),SW (n:Int)] Ve YW (Yb (ao (MS n (-1)))):=by
 rw[<-G1];exact rep_a h1 hn
abbrev qT(U3:Int):bY:=Ue 59 0 [Z5,(1,SW U3),ZZ,ZX]
theorem sr_0:(CW MJ U2 (fwH es A fs) false (cL (au Nh)) {t:=cM Nh (YO 2 U3 to),h:=fwH es A fs,m:=[]} .normal
  {t:=qT U3,h:=fwH es A fs++(Vj to nq),m:=[]}):=by
 exact zx [.st (.mask [0,1,5,6])] [] .n
abbrev Z2(a:tO)(b:bv)(c:bV)(d:Int)(e:bV):aT:=fwH a b c++[.var [SW d],.var (zdp 6),.T7 [[SW (-1)]] 0 1,.T7 (ao e) 0 1]
abbrev zao:D:=(.ref (.T7 6 0))
theorem sr_1(h1:2<=A.length)(hn:A.length<=4096):(CW MJ U2 (fwH es A fs++(Vj to nq)) false (cL (cS (cR (au Nh)))) {t:=qT U3,h:=fwH es A fs++(Vj to nq),m:=[]} .normal
  {t:=qT U3,h:=(Z2 es A fs to (MS A.length (-1))),m:=[]}):=by
 let v0:bY:=(ZI es 0 A)
 let v1:aT:=[.T7 (ao fs) 0 1,.U7,.var v0,.var [SW to],.var [nq],.T7 [[SW (-1)]] 0 1,.T7 (ao (MS (MO A) (-1))) 0 1]
 let v2:aT:=[.T7 (ao fs) 0 1,.U7,.var v0,.var [SW to],.var [nq],.T7 [[SW (-1)]] 0 1]
 refine zx [.st (.mask [0,1,5,6])] [.call zao v1] (.c (show Ev MJ U2 156 [.ref (.T7 5 0),SW (↑(MO A):Int)] v2 zao v1 from(Na (Ov (args:=[.ref (.T7 5 0),SW (↑(MO A):Int)]) (H:=v2) [5] (@LM (MO A) h1 hn) (by kernel_rfl) (by kernel_rfl) (by kernel_rfl) ⟨?_,trivial⟩ ⟨?_,?_,trivial⟩) (by kernel_rfl) (by kernel_rfl))) .n)<;>subst v0 v1 v2<;>(first|rfl|exact al _ _|first|assumption|rfl|exact aB _ _|exact aw _ _)
theorem sr_2(h0:0<=U3)(hx:by'[U3.toNat]? = some x):(CW MJ U2 (Z2 es A fs to by') false (cL (cR (cS (cR (au Nh))))) {t:=qT U3,h:=(Z2 es A fs to by'),m:=[]} .normal
  {t:=qT U3,h:=(Z2 es A fs to (by'.set U3.toNat (ML.wrap (((es.map Nc).length:Int)*2)))),m:=[]}):=by
 let v0:bY:=(ZI es 0 A)
 let v1:=MO (MK Nc es)
 refine zx [.st (.mask [0,1,5,6])] [.oh 10026 D.any (Z2 es A fs to (OZ by' (MU U3) (MN ML ((↑v1:Int)*2))))] (.c (show UU U3 (MO (ao by'))=true from ?_) (.c (show @Eq (Option (aT)) (aX MJ [.T7 (ao fs) 0 1,.U7,.var v0,.var [SW to],.var Ye,.T7 [[SW (-1)]] 0 1,.T7 (ao by') 0 1] 3 (.ref (Wf 6 U3)) (SW (MN ML ((↑v1:Int)*2)))) (some [.T7 (ao fs) 0 1,.U7,.var v0,.var [SW to],.var Ye,.T7 [[SW (-1)]] 0 1,.T7 (ao (OZ by' (MU U3) (MN ML ((↑v1:Int)*2)))) 0 1]) from ?_) (.c (show @Eq (oN) (Y5 6) (Y5 6) from rfl) (.e Xs (.e Xs (.c (show @Eq (oN) (some (ab (MK Nc es))) (some (ab (MK Nc es))) from rfl) (.c (show UU U3 (MO (ao by'))=true from ?_) (.e (.ref (Wf 6 U3)) .n))))))))<;>subst v0 v1<;>(first|assumption|rfl|exact gb h0 hx|exact nu rfl (G0 hx)|exact aB _ _|exact aw _ _)
theorem sr_3:(CW MJ U2 (Z2 es A fs to by') false (cL (cR (cR (cS (cR (au Nh)))))) {t:=qT U3,h:=(Z2 es A fs to by'),m:=[]} .normal
  (sS es A fs to by' [U3] 0 (.ref (.T7 7 0)))):=by
 exact zx VA [] .n
theorem sr_4:(CW MJ U2 (sH es A fs to by' l e Q) false (cR (cR (cR (cR (cR (cS (cR (au Nh)))))))) (sS es A fs to by' l e Q) .ret (sS es A fs to by' l e Q)):=by
 exact zx VA [] .n
def QF.pop(q:QF):QF:=match q.vs with
 | true=>⟨true,q.e,q.i+1,q.l⟩
 | false=>⟨true,q.e,1,q.l⟩
theorem QF.zhp{q:QF}(h:q.list=v::rest):q.pop.list=rest:=by
 obtain⟨vs,e,i,l⟩:=q
 cases vs with
 | true =>
  simp only[QF.list,QF.pop] at h ⊢
  rw[<-List.drop_drop,h]
  rfl
 | false =>
  simp only[QF.list,QF.pop] at h ⊢
  rw[h]
  rfl
inductive Bfs (adj:List (bV)) (es:tO) (fs:bV) (to:Int):Nat->bV×QF->bV×QF->Prop
 | done {s:bV×QF}:s.2.list=[]->Bfs adj es fs to 0 s s
 | stop {s:bV×QF}{v:Int}{rest:bV}{f:bV×QF}:s.2.list=v::rest->UD (usG es fs to) (adj.getD v.toNat []) (s.1,s.2.pop)=.inr f->Bfs adj es fs to 0 s f
 | step {s:bV×QF}{v:Int}{rest:bV}{s':bV×QF}{f:bV×QF}{k:Nat}:s.2.list=v::rest->UD (usG es fs to) (adj.getD v.toNat []) (s.1,s.2.pop)=.inl s'->Bfs adj es fs to k s' f->Bfs adj es fs to (k+1) s f
def unm(l:bV):Nat:=l.countP λx=>Zd (x<0)
structure SOk (n:Nat) (s:bV×QF):Prop where
 len:s.1.length=n
 i:s.2.vs=true->s.2.i<=s.2.l.length
 ne:s.2.vs=false->s.2.l≠[]
 mem:∀v∈s.2.list,0<=v/\v.toNat<n
 sz:s.2.l.length+unm s.1<=n+1
theorem DC(hi:i<l.length)(hx:l.getD i 0<0)(hr:0<=r):unm (l.set i r)+1=unm l:=by
 have hg:l.getD i 0=l[i]:=by simp[Nb,hi]
 rw[hg] at hx
 unfold unm
 rw[List.countP_set hi]
 have h1:Zd (l[i]<0)=true:=by simpa using hx
 have h2:Zd (r<0)=false:=by simpa using hr
 have h3:0<l.countP λx=>Zd (x<0):=List.countP_pos_iff.2 ⟨l[i],List.getElem_mem hi,h1⟩
 simp only[h1,h2,if_true]
 simp only[NC,if_false]
 omega
theorem SOk.pop(h:SOk n s)(hv:s.2.list=v::rest):SOk n (s.1,s.2.pop):=by
 have hp:=QF.zhp hv
 refine⟨h.len,?_,?_,?_,?_⟩
 ·intro _
  obtain⟨by',vs,e,i,l⟩:=s
  cases vs with
  | true =>
   have:=congrArg MO hv
   simp only[QF.list,OE,Nq] at this
   simp only[QF.pop];omega
  | false =>
   have:=congrArg MO hv
   simp only[QF.list,Nq] at this
   simp only[QF.pop];omega
 ·intro hf
  obtain⟨by',vs,e,i,l⟩:=s
  cases vs<;>simp[QF.pop] at hf
 ·intro u hu
  simp only[hp] at hu
  exact h.mem u (by rw[hv];exact List.mem_cons_of_mem _ hu)
 ·have:s.2.pop.l=s.2.l:=by
   obtain⟨by',vs,e,i,l⟩:=s
   cases vs<;>rfl
  simp only[this];exact h.sz
theorem SOk.usY(h:SOk n s)(hr:0<=r)(h0:0<=u)(hu:u.toNat<n)(hy:usY to r u s=.inl s'):SOk n s':=by
 unfold Vi.usY at hy
 split at hy
 ·cases hy;exact h
 ·rename_i hg
  split at hy
  ·cases hy
  ·cases hy
   have hx:s.1.getD u.toNat 0<0:=by simpa using hg
   have h1:=DC (by rw[h.len];exact hu) hx hr
   have h2:s.2.list.length<=s.2.l.length:=by
    obtain⟨by',vs,e,i,l⟩:=s
    cases vs<;>simp[QF.list]
   refine⟨by simpa using h.len,by simp[QF.push],by simp[QF.push],?_,?_⟩
   ·intro v hv
    simp only[QF.push,QF.list,List.mem_append,OM] at hv
    rcases hv with hv|rfl
    ·exact h.mem v hv
    ·exact⟨h0,hu⟩
   ·have h3:=h.sz
    simp only[QF.push,List.length_append,PY]
    omega
theorem SOk.UD(hm:es.length<=65536)(UY:∀x∈es,ef n x):∀(B:bV) (s s':bV×QF),(∀r∈B,cA es.length r)->SOk n s->UD (usG es fs to) B s=.inl s'->SOk n s'
 | [],s,s',_,h,hf=>by cases hf;exact h
 | r::B,s,s',hB,h,hf=>by
  simp only[Vi.UD] at hf
  have hr:=hB r (by simp)
  have he:=pH hr (by omega) UY
  split at hf
  ·rename_i s1 h1
   refine SOk.UD hm UY B s1 s' (λx hx=>hB x (by simp[hx])) ?_ hf
   unfold usG at h1
   split at h1
   ·exact h.usY hr.1 he.1 he.2 h1
   ·cases h1;exact h
  ·cases hf
section
variable {es:tO} {adj:List (bV)} {fs:bV} {to:Int} {n:Nat}
theorem y8{pd:Of}(hX:X.h=fwH es A fs){a:Act}{w:World}(hm:MB U2 X {t:=sT,h:=ubS es A fs v to s .exhausted pd,m:=[11]} a w):MB U2 X (sS es A fs to s.1 s.2.l s.2.e s.2.d) a w:=by
 have h1:=MB.drop (b:=11) rfl hm
 obtain⟨by',vs,e,i,l⟩:=s
 cases vs with
 | true=>exact MB.sop (o:=.trim 9) (φ:=[(ao fs).all (Ob 9)=true,(zbq (-1)).all (Ob 9)=true,(ao by').all (Ob 9)=true,(ao l).all (Ob 9)=true]) (by rw[hX];rfl) ⟨aw _ _,rfl,aw _ _,aw _ _,trivial⟩ h1
 | false=>exact MB.sop (o:=.trim 9) (φ:=[(ao fs).all (Ob 9)=true,(zbq (-1)).all (Ob 9)=true,(ao by').all (Ob 9)=true,(ao l).all (Ob 9)=true]) (by rw[hX];rfl) ⟨aw _ _,rfl,aw _ _,aw _ _,trivial⟩ h1
theorem LN(hl:fs.length=es.length)(hm:es.length<=65536)(hn:n<=4096)(UY:∀x∈es,ef n x)(ha:adj.length=n)(hB:∀B∈adj,(∀r∈B,cA es.length r)/\B.length<=200000){X:Ctx}(hX:X.h=fwH es (i6 adj) fs)
  {k:Nat} {s f:bV×QF} (hf:Bfs adj es fs to k s f) (hs:SOk n s) :
  MW MJ U2 X (.loop (sub Nh 0)) (sS es (i6 adj) fs to s.1 s.2.l s.2.e s.2.d) (Det (.exit 0) (sS es (i6 adj) fs to f.1 f.2.l f.2.e f.2.d)):=by
 refine MW.loop (ι:=Nat×(bV×QF)) (λp=>sS es (i6 adj) fs to p.2.1 p.2.2.l p.2.2.e p.2.2.d) (λ_=>(.exit 0,sS es (i6 adj) fs to f.1 f.2.l f.2.e f.2.d)) (λp=>p.1) (λp=>Bfs adj es fs to p.1 p.2 f/\SOk n p.2) ?_ (k,s) ⟨hf,hs⟩
 rintro⟨k,s⟩ ⟨hf,hs⟩
 have key:∀{v:Int} {rest:bV},s.2.list=v::rest->ax v (i6 adj) [.sl (aW (adj.getD v.toNat []))] 1/\(∀r∈adj.getD v.toNat [],cA es.length r)/\(adj.getD v.toNat []).length<=200000/\(s.1,s.2.pop).2.Ok 100000:=by
  intro v rest hv
  obtain⟨v0,v1⟩:=hs.mem v (by rw[hv];simp)
  have hg:adj[v.toNat]? = some (adj.getD v.toNat []):=by simp[Nb,ha,v1]
  obtain⟨b1,b2⟩:=hB _ (NX hg)
  have hr:=rowAt (row:=λB:bV=>[Dp.sl (mQ B)]) (sz:=1) hg rfl
  rw[Int.toNat_of_nonneg v0] at hr
  have hp:=hs.pop hv
  exact⟨hr,b1,b2,hp.i,by have:=hp.sz;simp only at this ⊢;omega⟩
 cases hf with
 | done he =>
  refine .inr ⟨by simp,?_⟩
  obtain⟨by',vs,e,i,l⟩:=s
  cases vs with
  | true =>
   have h0:l.length-i=0:=by
    have:=congrArg MO he
    simpa[QF.list] using this
   have:=sh_end (es:=es) (A:=i6 adj) (fs:=fs) (by':=by') (l:=l) (to:=to) (e:=e) (i:=i) (n:=l.length-i) (by simp[h0])
   exact RT this ⟨rfl,rfl⟩
  | false=>exact absurd he (hs.ne rfl)
 | stop hv hg =>
  rename_i v rest
  obtain⟨r1,r2,r3,r4⟩:=key hv
  refine .inr ⟨by simp,?_⟩
  have hcw:=us_rfr (A:=i6 adj) (s0:=(s.1,s.2.pop)) (h0:=sH es (i6 adj) fs to s.1 s.2.l s.2.e s.2.d) hl hm UY r1 r2 r3 hs.len r4 hg
  refine MW.then (e:=.exit 0) (s1:={t:=sT,h:=ubS es (i6 adj) fs v to f .exhausted (some (.exit 0)),m:=[11]}) ?_ (λa w hmb=>y8 hX hmb) ⟨rfl,rfl⟩
  obtain⟨by',vs,e,i,l⟩:=s
  cases vs with
  | true =>
   simp only[QF.list] at hv
   have hlen:=congrArg MO hv
   simp only[OE,Nq] at hlen
   have hi:i<=l.length:=hs.i rfl
   have hv0:l[i]? = some v:=by
    have:=congrArg (λx=>x[0]?) hv
    simpa using this
   exact RT (sh_vsx (i:=i) (l:=l) (n:=l.length-i) (by simp;omega) (by omega) (RY hi) hv0 hcw) ⟨rfl,rfl⟩
  | false =>
   simp only[QF.list] at hv
   have hv0:l[0]? = some v:=by rw[hv];rfl
   have hlen:0<l.length:=by rw[hv];simp
   exact RT (sh_vgx (by simpa using hlen) hlen hv0 hcw) ⟨rfl,rfl⟩
 | step hv hg hk =>
  rename_i v rest s' k'
  obtain⟨r1,r2,r3,r4⟩:=key hv
  refine .inl ⟨(k',s'),⟨hk,SOk.UD hm UY _ _ _ r2 (hs.pop hv) hg⟩,by simp,rfl,?_⟩
  have hcw:=us_rfl (A:=i6 adj) (s0:=(s.1,s.2.pop)) (h0:=sH es (i6 adj) fs to s.1 s.2.l s.2.e s.2.d) hl hm UY r1 r2 r3 hs.len r4 hg
  refine MW.then (e:=.normal) (s1:={t:=sT,h:=ubS es (i6 adj) fs v to s' .exhausted none,m:=[11]}) ?_ (λa w hmb=>y8 hX hmb) ⟨rfl,rfl⟩
  obtain⟨by',vs,e,i,l⟩:=s
  cases vs with
  | true =>
   simp only[QF.list] at hv
   have hlen:=congrArg MO hv
   simp only[OE,Nq] at hlen
   have hi:i<=l.length:=hs.i rfl
   have hv0:l[i]? = some v:=by
    have:=congrArg (λx=>x[0]?) hv
    simpa using this
   exact RT (sh_vs (i:=i) (l:=l) (n:=l.length-i) (by simp;omega) (by omega) (RY hi) hv0 hcw) ⟨rfl,rfl⟩
  | false =>
   simp only[QF.list] at hv
   have hv0:l[0]? = some v:=by rw[hv];rfl
   have hlen:0<l.length:=by rw[hv];simp
   exact RT (sh_vg (by simpa using hlen) hlen hv0 hcw) ⟨rfl,rfl⟩
end
theorem MW.label{P:Program}{Γ:aq}{s:AS}{Q:Exit->AS->Prop}(h:Q .normal s):MW P Γ X (.label k) s Q:=λ_ _ hs=>wpIn_label ⟨by simp,s,h,hs⟩
noncomputable abbrev cQ:Code:=cS (cR (au Nh))
theorem G2:au Nh=.seq (cL (au Nh)) (.scope (.seq (cL cQ) (.seq (cL (cR cQ)) (.seq (cL (cR (cR cQ))) (.seq (.label 0) (.seq (.block 0 (.loop (sub Nh 0))) (cR (cR (cR (cR (cR cQ))))))))))):=by kernel_rfl
def by0(n m:Nat)(U3:Int):bV:=(MS n (-1)).set U3.toNat (ML.wrap ((m:Int)*2))
theorem y9{es:tO}{adj:List (bV)}{fs:bV}{U3 to:Int}{n:Nat}(hl:fs.length=es.length)(hm:es.length<=65536)(h2:2<=n)(hn:n<=4096)(UY:∀x∈es,ef n x)(ha:adj.length=n)(hB:∀B∈adj,(∀r∈B,cA es.length r)/\B.length<=200000)
  (hfr:0<=U3/\U3.toNat<n) {k:Nat} {f:bV×QF} (hf:Bfs adj es fs to k (by0 n es.length U3,⟨false,0,0,[U3]⟩) f) :
  Ev MJ U2 103 (YO 2 U3 to) (fwH es (i6 adj) fs) zao (Z2 es (i6 adj) fs to (f.1)):=by
 have hA:(i6 adj).length=n:=by simpa using ha
 have zgl:(MS (i6 adj).length (-1:Int))[U3.toNat]? = some (-1):=by
  rw[List.getElem?_replicate,if_pos (by rw[hA];exact hfr.2)]
 have hby:(MS (i6 adj).length (-1:Int)).set U3.toNat (ML.wrap (((es.map Nc).length:Int)*2))=by0 n es.length U3:=by
  unfold by0;rw[hA,List.length_map]
 have hs0:SOk n (by0 n es.length U3,⟨false,0,0,[U3]⟩):=by
  refine⟨by simp[by0],by simp,by simp,?_,?_⟩
  ·intro v hv
   simp only[QF.list,OM] at hv
   subst hv;exact hfr
  ·have h1:unm (by0 n es.length U3)<=n:=by
    have:=List.countP_le_length (p:=λx:Int=>Zd (x<0)) (l:=by0 n es.length U3)
    unfold unm
    simpa[by0] using this
   simp only[PY];omega
 refine Ev.of_mb (fn:=Nh) (c:=au Nh) (e:=.ret) (s:={t:=Ue 59 0 [ZX],h:=(Z2 es (i6 adj) fs to (f.1)),m:=[]}) rfl rfl ?_
  ⟨.inr rfl,rfl,List.nodup_nil,Ye,rfl,rfl,rfl⟩
 intro X hX
 rw[G2]
 refine Tz (RT sr_0 ?_)
 show MW _ _ _ _ _ _
 refine MW.scope (Tz (RT (sr_1 (by omega) (by omega)) ?_))
 show MW _ _ _ _ _ _
 refine Tz (RT (sr_2 hfr.1 zgl) ?_)
 show MW _ _ _ _ _ _
 rw[hby]
 refine Tz (RT sr_3 ?_)
 show MW _ _ _ _ _ _
 refine Tz (MW.label ?_)
 show MW _ _ _ _ _ _
 refine Tz (MW.block (MW.mono (LN hl hm (by omega) UY ha hB hX hf hs0) ?_))
 rintro e s ⟨rfl,rfl⟩
 show MW _ _ _ _ _ _
 refine MW.then (RT sr_4 ⟨rfl,rfl⟩) (λa w hmb=>?_) ⟨by simp,rfl,rfl⟩
 have h3:=MB.sop (o:=.mask [6]) (φ:=[]) rfl trivial hmb
 exact MB.sop (o:=.trim 7) (φ:=[(ao fs).all (Ob 7)=true,(zbq (-1)).all (Ob 7)=true,(ao f.1).all (Ob 7)=true]) (by rw[hX];rfl) ⟨aw _ _,rfl,aw _ _,trivial⟩ h3
def dmnI(a b:Int):Int:=if b<a then b else a
abbrev Zh(a b:Int)(c:bV)(d:bY)(e:bV)(f:Uc):aT:=[.var [SW a],.var [SW b],.T7 (ao c) 0 1,.U7,.var d,.var (zez 4),.var [SW b],.var (zdp 9),.T7 [[SW (-1)]] 0 1,.T7 (ao e) 0 1,.var (zdp 9),f]
abbrev mH(es:tO)(A:bv)(fs:bV)(U3 to:Int)(by':bV)(least:Int):aT :=
 (Zh U3 to fs [ab (es.map Nc),.ref (.T7 2 0),ab A] by' (.var [SW least]))
abbrev zcf(a b:Int)(c:bV)(d:tO)(e:bv)(f:bV)(g:Int):aT:=(Zh a b c [ab (MK Nc d),.ref (.T7 2 0),ab e] f (.var [SW g]))
noncomputable abbrev jI(es:tO)(A:bv)(fs:bV)(by':bV)(U3:Int)(to:Int)(least:Int):aT:=(zcf U3 to fs es A by' least)
theorem G3{es:tO}{A:bv}{fs by':bV}{U3 to least r f:Int}{x:Uu}{q:Nat}(hq:ML.wrap (Nz r 2)=(q:Int))(hx:ax (ML.wrap (Nz r 2)) (es.map Nc) x.row 3)(hf:fs[MU (ML.wrap (Nz r 2))]? = some f)(hl:q<fs.length):(Ev MJ U2 106 [SW r,.ref (.ptr 11 0),.ref (.ptr 5 0)] (mH es A fs U3 to by' least) (.UI []) (mH es A fs U3 to by' (dmnI least (fe r x f)))):=by
 refine Na (Oc (h':=(zcf U3 to fs es A by' (if false=true then if fe r x f>least then fe r x f else least else if fe r x f<least then fe r x f else least))) (d:=NG []) UR [.val (SW (fe r x f))] (by kernel_rfl) (.c (show Ev MJ U2 107 [.ref (.ptr 4 0),SW r] (jI es A fs by' U3 to least) (SW (fe r x f)) (jI es A fs by' U3 to least) from(Na (Ov (args:=[.ref (.ptr 4 0),SW r]) (H:=(jI es A fs by' U3 to least)) [2,3,4] (@y5 es A fs r f x q hq hx hf hl) (by kernel_rfl) (by kernel_rfl) (by kernel_rfl) ⟨?_,trivial⟩ ⟨?_,trivial⟩) (by kernel_rfl) (by kernel_rfl))) (.c (show @Eq (oN) (Yc least) (Yc least) from rfl) (.c (show @Eq (oN) (Yc least) (Yc least) from rfl) (.c (show @Eq (oN) (some VV) (some VV) from rfl) .n))))) (by rfl) (by rfl)<;>(first|rfl|exact al _ _|first|assumption|rfl|exact aB _ _|exact aw _ _)
theorem LO{es:tO}{A:bv}{fs:bV}{r f d:Int}{q:Nat}(hq:ML.wrap (Nz r 2)=(q:Int))(hf:fs[MU (ML.wrap (Nz r 2))]? = some f)(hl:q<fs.length)(hl2:MU (ML.wrap (Nz r 2))<fs.length):Ev MJ U2 109 (YO 2 r d) (fwH es A fs) (.UI []) (fwH es A (fs.set (MU (ML.wrap (Nz r 2))) (ML.wrap (f+gZ r d)))):=push_a hq hf hl hl2
noncomputable abbrev iG(es:tO)(A:bv)(fs:bV)(by':bV)(U3:Int)(to:Int)(least:Int)(r:Int)(f:Int):aT:=(zcf U3 to (zd6 fs r f least) es A by' least)
noncomputable abbrev mI(es:tO)(A:bv)(fs:bV)(by':bV)(U3:Int)(to:Int)(least:Int):aT:=(zcf U3 to fs es A by' least)
theorem DD{es:tO}{A:bv}{fs by':bV}{U3 to least r f:Int}{q:Nat}(hq:ML.wrap (Nz r 2)=(q:Int))(hf:fs[MU (ML.wrap (Nz r 2))]? = some f)(hl:q<fs.length)(hl2:MU (ML.wrap (Nz r 2))<fs.length):(Ev MJ U2 108 [SW r,.ref (.ptr 5 0),.ref (.ptr 11 0)] (mH es A fs U3 to by' least) (.UI []) (mH es A (fs.set (MU (ML.wrap (Nz r 2))) (ML.wrap (f+gZ r least))) U3 to by' least)):=by
 refine Na (Oc (h':=(iG es A fs by' U3 to least r f)) (d:=NG []) UR [.call (NG []) (iG es A fs by' U3 to least r f)] (by kernel_rfl) (.c (show Ev MJ U2 109 (YO 4 r least) (mI es A fs by' U3 to least) (NG []) (iG es A fs by' U3 to least r f) from(Na (Ov (args:=(YO 4 r least)) (H:=(mI es A fs by' U3 to least)) [2,3,4] (@LO es A fs r f least q hq hf hl hl2) (by kernel_rfl) (by kernel_rfl) (by kernel_rfl) ⟨?_,trivial⟩ ⟨?_,trivial⟩) (by kernel_rfl) (by kernel_rfl))) .n)) (by rfl) (by rfl)<;>(first|rfl|exact al _ _|first|assumption|rfl|exact aB _ _|exact aw _ _)
def xr(r:Int):Int:=ML.wrap (Ng ML.bits r ^^^ Ng ML.bits 1).toNat
abbrev aS(es:tO)(A:bv)(fs:bV)(U3 to:Int)(by':bV)(least v:Int)(d:D):AS:={t:=Ue 24 0 [(0,d),(1,.ref (.ptr 1 0)),ZP,(3,.ref (.ptr 5 0)),(4,.ref (.ptr 10 0)),(6,SW v)],h:=mH es A fs U3 to by' least,m:=[]}
abbrev d72:D:=.fn (.func 106) [] (zcB 11 5)
abbrev d74:D:=.fn (.func 108) [] (zcB 5 11)
theorem za{d:D}(hv:(v != U3)=false):(CW MJ U2 (mH es A gs U3 to by' l0) false (sub RK 0) (aS es A fs U3 to by' least v d) (.exit 0) (Xy 24 (mH es A fs U3 to by' least))):=by
 exact zx Xd [.b false] (.c hv .n)
noncomputable abbrev fc(es:tO)(A:bv)(fs:bV)(by':bV)(U3:Int)(to:Int)(least:Int)(r:Int)(f:Int)(x:Uu):aT:=(zcf U3 to fs es A by' (dmnI least (fe r x f)))
noncomputable abbrev xk(es:tO)(A:bv)(fs:bV)(by':bV)(U3:Int)(to:Int)(least:Int):aT:=(zcf U3 to fs es A by' least)
abbrev Wv(a:Int):bY:=[.ref (.ptr 4 0),SW (MN ML (↑(OD (Ng 64 a ^^^ Ng 64 1)):Int))]
abbrev Vl(a:Int)(b:Uu):D:=(SW (qj (MN ML (↑(OD (Ng 64 a ^^^ Ng 64 1)):Int)) b))
theorem G4{x:Uu}(hv:(v != U3)=true)(h0:0<=v)(hb:by'[v.toNat]? = some r)(hq:ML.wrap (Nz r 2)=(q:Int))(hx:ax (ML.wrap (Nz r 2)) (es.map Nc) x.row 3)(hf:fs[MU (ML.wrap (Nz r 2))]? = some f)(hl:q<fs.length)
  (hy:ax (ML.wrap (Nz (xr r) 2)) (es.map Nc) y.row 3):(CW MJ U2 (mH es A gs U3 to by' l0) false (sub RK 0) (aS es A fs U3 to by' least v d72) .normal (aS es A fs U3 to by' (dmnI least (fe r x f)) (qj (xr r) y) d72)):=by
 refine zx [.st (.mask [0,1,2,3,4,6])] [.b true,.ov 22 (SW r),.call (NG []) (fc es A fs by' U3 to least r f x),.ov 15 (SW r),.val (Vl r y)] (.c hv (.c (show UU v (MO (ao by'))=true from ?_) (.c (show @Eq (oN) (aN MJ (xk es A fs by' U3 to least) 3 (zd2 9 v)) (Yc r) from ?_) (.c (@G3 es A fs by' U3 to least r f x q hq hx hf hl) (.c (show UU v (MO (ao by'))=true from ?_) (.c (show @Eq (oN) (aN MJ (fc es A fs by' U3 to least r f x) 3 (zd2 9 v)) (Yc r) from ?_) (.c (show Ev MJ U2 105 (Wv r) (fc es A fs by' U3 to least r f x) (Vl r y) (fc es A fs by' U3 to least r f x) from(Na (Ov (args:=(Wv r)) (H:=(fc es A fs by' U3 to least r f x)) [2,3,4] (@y6 es A fs (MN ML (↑(OD (Ng 64 r ^^^ Ng 64 1)):Int)) y hy) (by kernel_rfl) (by kernel_rfl) (by kernel_rfl) ⟨(by first|rfl|exact al _ _|first|assumption|rfl|exact gb h0 hb|exact bA rfl hb|exact jc hb|exact aB _ _|exact aw _ _),trivial⟩ ⟨(by first|rfl|exact al _ _|first|assumption|rfl|exact gb h0 hb|exact bA rfl hb|exact jc hb|exact aB _ _|exact aw _ _),trivial⟩) (by kernel_rfl) (by kernel_rfl))) .n)))))))<;>(first|assumption|rfl|exact gb h0 hb|exact bA rfl hb|exact jc hb|exact aB _ _|exact aw _ _)
noncomputable abbrev ge(es:tO)(A:bv)(fs:bV)(by':bV)(U3:Int)(to:Int)(least:Int)(r:Int)(f:Int):aT:=(zcf U3 to (zd6 fs r f least) es A by' least)
noncomputable abbrev AC(es:tO)(A:bv)(fs:bV)(by':bV)(U3:Int)(to:Int)(least:Int):aT:=(zcf U3 to fs es A by' least)
theorem LP(hv:(v != U3)=true)(h0:0<=v)(hb:by'[v.toNat]? = some r)(hq:ML.wrap (Nz r 2)=(q:Int))(hf:fs[MU (ML.wrap (Nz r 2))]? = some f)(hl:q<fs.length)(hl2:MU (ML.wrap (Nz r 2))<fs.length)
  (hy:ax (ML.wrap (Nz (xr r) 2)) (es.map Nc) y.row 3):(CW MJ U2 (mH es A gs U3 to by' l0) false (sub RK 0) (aS es A fs U3 to by' least v d74) .normal (aS es A (fs.set (MU (ML.wrap (Nz r 2))) (ML.wrap (f+gZ r least))) U3 to by' least (qj (xr r) y) d74)):=by
 refine zx [.st (.mask [0,1,2,3,4,6])] [.b true,.ov 22 (SW r),.call (NG []) (ge es A fs by' U3 to least r f),.ov 15 (SW r),.val (Vl r y)] (.c hv (.c (show UU v (MO (ao by'))=true from ?_) (.c (show @Eq (oN) (aN MJ (AC es A fs by' U3 to least) 3 (zd2 9 v)) (Yc r) from ?_) (.c (@DD es A fs by' U3 to least r f q hq hf hl hl2) (.c (show UU v (MO (ao by'))=true from ?_) (.c (show @Eq (oN) (aN MJ (ge es A fs by' U3 to least r f) 3 (zd2 9 v)) (Yc r) from ?_) (.c (show Ev MJ U2 105 (Wv r) (ge es A fs by' U3 to least r f) (Vl r y) (ge es A fs by' U3 to least r f) from(Na (Ov (args:=(Wv r)) (H:=(ge es A fs by' U3 to least r f)) [2,3,4] (@y6 es A (zd6 fs r f least) (MN ML (↑(OD (Ng 64 r ^^^ Ng 64 1)):Int)) y hy) (by kernel_rfl) (by kernel_rfl) (by kernel_rfl) ⟨(by first|rfl|exact al _ _|first|assumption|rfl|exact gb h0 hb|exact bA rfl hb|exact jc hb|exact aB _ _|exact aw _ _),trivial⟩ ⟨(by first|rfl|exact al _ _|first|assumption|rfl|exact gb h0 hb|exact bA rfl hb|exact jc hb|exact aB _ _|exact aw _ _),trivial⟩) (by kernel_rfl) (by kernel_rfl))) .n)))))))<;>(first|assumption|rfl|exact gb h0 hb|exact bA rfl hb|exact jc hb|exact aB _ _|exact aw _ _)
theorem LQ(k:Nat):k ^^^ 1=if k % 2=0 then k+1 else k-1:=by
 have h1:(k ^^^ 1) / 2=k / 2:=by rw[Nat.xor_div_two];simp
 have h2:(k ^^^ 1) % 2=(k+1) % 2:=by
  have:=@Nat.xor_mod_two_eq_one k 1
  omega
 split<;>omega
theorem LR(h:cA m r)(hm:m<=1000000):xr r=if r.toNat % 2=0 then r+1 else r-1:=by
 obtain⟨h0,h1⟩:=h
 obtain⟨k,rfl⟩:=Int.eq_ofNat_of_zero_le h0
 have hk:k<2000000:=by omega
 have e:(Ng ML.bits (k:Int) ^^^ Ng ML.bits 1).toNat=k ^^^ 1:=by
  rw[BitVec.toNat_xor]
  have e1:(Ng ML.bits (k:Int)).toNat=k:=by
   show(Ng 64 (k:Int)).toNat=k
   rw[BitVec.toNat_ofInt];omega
  have e2:(Ng ML.bits 1).toNat=1:=rfl
  rw[e1,e2]
 unfold xr
 rw[e,LQ]
 simp only[N4]
 split
 ·rw[wrap_i64 (by omega) (by omega)];omega
 ·rw[wrap_i64 (by omega) (by omega)];omega
theorem LS(h:cA m r)(hm:m<=1000000):cA m (xr r):=by
 rw[LR h hm]
 obtain⟨h0,h1⟩:=h
 split<;>constructor<;>omega
inductive Path (es:tO) (by':bV) (U3:Int):Int->bV->Prop
 | nil:Path es by' U3 U3 []
 | cons {v r:Int}{rs:bV}:v≠U3->0<=v->by'[v.toNat]? = some r->cA es.length r->Path es by' U3 (gi es (xr r)) rs->Path es by' U3 v (r::rs)
def lsF(es:tO)(fs:bV)(least r:Int):Int:=dmnI least (zeO es fs r)
def puF(least:Int)(fs:bV)(r:Int):bV:=fs.set (ixR r).toNat (ML.wrap (fA fs r+gZ r least))
theorem DE(least:Int)(fs:bV)(r:Int):(puF least fs r).length=fs.length:=by simp[puF]
theorem zb(least:Int):∀(rs:bV) (fs:bV),(rs.foldl (puF least) fs).length=fs.length
 | [],_=>rfl
 | r::rs,fs=>by rw[List.foldl_cons,zb least rs,DE]
section
variable {es:tO} {A:bv} {fs by':bV} {U3 to:Int}
theorem G5(hl:fs.length=es.length)(hm:es.length<=65536){gs:bV}{l0 least v:Int}{rs:bV}(hp:Path es by' U3 v rs):
  CW MJ U2 (mH es A gs U3 to by' l0) false (.loop (sub RK 0)) (aS es A fs U3 to by' least v d72) (.exit 0) (Yn 24 (mH es A fs U3 to by' (rs.foldl (lsF es fs) least))):=by
 refine CW.loop (ι:={p:Int×Int×bV // Path es by' U3 p.1 p.2.2}) (λp=>aS es A fs U3 to by' p.1.2.1 p.1.1 d72) (λp=>(.exit 0,(Yn 24 (mH es A fs U3 to by' (p.1.2.2.foldl (lsF es fs) p.1.2.1))))) (λp=>p.1.2.2.length) ?_ ⟨(v,least,rs),hp⟩
 rintro⟨⟨v,least,rs⟩,hp⟩
 cases hp with
 | nil=>exact .inr ⟨by simp,za (by simp)⟩
 | cons h1 h2 h3 h4 h5 =>
  rename_i r rs
  have hq:=kL h4 (by omega)
  refine .inl ⟨⟨(gi es (xr r),lsF es fs least r,rs),h5⟩,by simp,rfl,?_⟩
  exact G4 (x:=exA es r) (f:=fA fs r) (by simpa using h1) h2 h3 hq.1 (s9 h4 (by omega)) (Dz h4 (by omega) hl) (by omega) (s9 (LS h4 (by omega)) (by omega))
theorem G6(hm:es.length<=65536){gs:bV}{l0 least v:Int}{rs:bV}(hl:fs.length=es.length)(hp:Path es by' U3 v rs):
  CW MJ U2 (mH es A gs U3 to by' l0) false (.loop (sub RK 0)) (aS es A fs U3 to by' least v d74) (.exit 0) (Yn 24 (mH es A (rs.foldl (puF least) fs) U3 to by' least)):=by
 refine CW.loop (ι:={p:Int×bV×bV // Path es by' U3 p.1 p.2.2/\p.2.1.length=es.length}) (λp=>aS es A p.1.2.1 U3 to by' least p.1.1 d74) (λp=>(.exit 0,(Yn 24 (mH es A (p.1.2.2.foldl (puF least) p.1.2.1) U3 to by' least)))) (λp=>p.1.2.2.length) ?_ ⟨(v,fs,rs),hp,hl⟩
 rintro⟨⟨v,fs,rs⟩,hp,hl⟩
 simp only at hl
 cases hp with
 | nil=>exact .inr ⟨by simp,za (by simp)⟩
 | cons h1 h2 h3 h4 h5 =>
  rename_i r rs
  have hq:=kL h4 (by omega)
  have hf:=Dz (fs:=fs) h4 (by omega) hl
  refine .inl ⟨⟨(gi es (xr r),puF least fs r,rs),h5,by rw[DE];exact hl⟩,by simp,rfl,?_⟩
  exact LP (f:=fA fs r) (y:=exA es (xr r)) (by simpa using h1) h2 h3 hq.1 hf (show r.toNat / 2<fs.length by omega) (MR.1 hf).1 (s9 (LS h4 (by omega)) (by omega))
end
abbrev Vy(a:D):bY:=[a,.ref (.ptr 1 0),.ref (.ptr 0 0),.ref (.ptr 5 0),.ref (.ptr 10 0)]
theorem al_a{fs2:bV}{zjS:Int}{d:D}
  (hcw:CW MJ U2 (mH es A fs U3 to by' least) false (.loop (sub RK 0)) (aS es A fs U3 to by' least to d) (.exit 0) (Xy 24 (mH es A fs2 U3 to by' zjS))):(Ev MJ U2 104 (Vy d) (mH es A fs U3 to by' least) (.UI []) (mH es A fs2 U3 to by' zjS)):=by
 have UE:=(@hcw)
 let v0:aT:=(zcf U3 to fs2 es A by' zjS)
 exact Na (Oc (h':=v0) (d:=NG []) UR [.sum [0,1,2,3,4,6] (NR 0) (Xy 24 v0)] (by kernel_rfl) (.c UE .n)) (by rfl) (by rfl)
end Go.Vi
