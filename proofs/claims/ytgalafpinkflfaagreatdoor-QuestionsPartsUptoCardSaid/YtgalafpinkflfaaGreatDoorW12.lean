/- A part of the proof; no conditions of its own. -/
import Derived.Test.YtgalafpinkflfaaGreatDoorW11
open Bool renaming true->J,false->N
open Option renaming some->G,none->Y
open Go.Vi.S4 renaming st->CE,inl->Α
open Go.Exit renaming normal->w8,exit->E8
open Go.Vi.D renaming JY->tf,agg->kb,ref->fE
open Go.LoopState renaming exhausted->zap,ready->E6,busy->ω
open Go.Vi.SOp renaming frz->τ,trim->zgF,mask->EZ
open Go.Vi.mX renaming var->eF,loop->Fa,P2->J1,EU->xy
open Go.Vi.Ref renaming ptr->ql
open Decidable renaming decide -> eY
open Go.Vi.FK renaming row -> TQ
open Go.IntKind renaming i64 -> S6, wrap -> S8
open Go.Proofs.Tryz renaming prog -> S5, f171 -> VA, f34 -> VP, f169 -> U2, f86 -> UQ, f14 -> UI
open List renaming map -> S2, length -> S7, getElem?_eq_some_iff -> Td, foldl_cons -> TG, all -> Tq, range -> T1, map_append -> Uh, map_cons -> U5, map_nil -> Yi, range_succ -> Xe, foldl_append -> Ym
open Go.Exit renaming normal -> Tr
open Go.Vi.CW renaming each -> UR
open Go.Vi.lm renaming row -> Wy, fl -> Te
open Go.Vi.Ev renaming zjM -> Tp, zkp -> Tw
open Go.Vi.D renaming Υ -> TL, fn -> UL, one -> Zk, TO -> Tz, p -> Us
open Go.Vi.uU renaming row -> Tc
open Go.Vi.η renaming row -> Tj
open Go.Vi.uN renaming row -> Ta
open Go.LoopState renaming ready -> TJ, busy -> TX
open Go.Fn renaming func -> TM
open Go.Vi.Ξ renaming row -> V2
open Go.Value renaming oneCell' -> Up
open Go.Vi.CX renaming row -> Xd
open Go.Vi.zdU renaming seq -> Zl
open Go Go.Proofs
namespace Go.Vi
set_option maxRecDepth 100000
set_option maxHeartbeats 4000000
structure P3 where
 seen:If
 zm:Int
 n:Int
 d:Int
variable {c d m n op:Int}{i:Nat}{ks:bv}{nm:ByteArray}{s:P3}
def P3.l(s:P3):bY:=[ab (s.seen.map TQ),dd s.zm,dd s.n,dd s.d]
structure P3.ok (x:P3):Prop where
 s:ah x.seen
 n:NI x.n
 d:NI x.d
abbrev zgq(a:bY):aT:=[eF a,eF [dd 0,dd 0,dd 0,eP N]]
abbrev abS(s:P3)(c i:Int):AS:={t:=oz 22 0 [(1,dd c),zbG,(8,ab (s.seen.map TQ)),(9,dd (s.seen.map TQ).length),(10,dd i)],h:=(zgq s.l),m:=[]}
abbrev abE(s:P3)(c:Int):AS:={t:=oz 22 0 [(1,dd c),zbG],h:=(zgq s.l),m:=[]}
abbrev abX(s:P3)(x:FK):Exit×AS:=(.ret,{t:=oz 22 0 [(4,.ref (.ptr 1 0))],h:=[.var s.l,.var (x.row.map .p)],m:=[]})
def abF(c:Int)(x:FK)(_:Unit):Unit⊕FK:=bif x.eR==c then .inr x else .inl ()
abbrev zah(a:P3):bY:=[ab (S2 TQ a.seen),dd a.zm,dd a.n,dd a.d]
theorem Oh{x:FK}(hr:ao (i:Int) (s.seen.map TQ) x.row 4)(lL:eY ((i:Int)<((s.seen.map TQ).length:Int))=true)(hw:S6.wrap ((i:Int)+1)=((i+1:Nat):Int)):(CW S5 fI [] false (sub Tryz.f365 0) (abS s c i) (ai (λ_=>abS s c ((i+1:Nat):Int)) (abX s) (abF c x ())).1 (ai (λ_=>abS s c ((i+1:Nat):Int)) (abX s) (abF c x ())).2):=by
 cases sQ:x.eR==c
 ·let v0:=S2 TQ s.seen
  exact yX {t:=oz 22 0 [(1,dd c),(4,.ref (.ptr 1 0)),(8,ab v0),(9,dd (↑(S7 v0):Int)),(10,dd (S8 S6 ((↑i:Int)+1)))],h:=[.var [ab v0,dd s.zm,dd s.n,dd s.d],.var [dd 0,dd 0,dd 0,eP false]],m:=[]} Tr [.st (.mask [1,4,8,9,10]),.st (.trim 2)] [.b lL,.r hr,.b sQ] (by subst v0;simp[abF,sQ,ai];done) (by subst v0;simp only[abF,sQ,cond_false,ai,hw];rfl)
 ·exact yX {t:=oz 22 0 [(4,.ref (.ptr 1 0))],h:=[.var [ab (S2 TQ s.seen),dd s.zm,dd s.n,dd s.d],.var [dd x.eR,dd x.tries,dd x.tj,eP x.now]],m:=[]} Exit.ret [.st (.mask [4]),.st (.trim 2)] [.b lL,.r hr,.b sQ] (by simp[abF,sQ,ai];done) (by simp only[abF,sQ,cond_true,ai];rfl)
theorem Oi(lL:eY ((i:Int)<((s.seen.map TQ).length:Int))=N):(CW S5 fI [] N (sub Tryz.f365 0) (abS s c i) (E8 0) (abE s c)):=yx [CE (EZ [1,4])] [.b lL]
def Oj(s:P3)(c:Int):Exit×AS:=bf (E8 0) (λ_:Unit=>abE s c) (abX s) (zj (abF c) s.seen ())
theorem ab_cw{s:P3}(hs:ah s.seen){c:Int}:CW S5 fI [] false (.loop (sub Tryz.f365 0)) (abS s c 0) (Oj s c).1 (Oj s c).2:=by
 refine UR s.seen (abF c) (λi _=>abS s c (i:Int)) (.exit 0) (λ_=>abE s c) (abX s) (λ_ _=>True) (by simp) (λ_=>by simp[abX]) ?_ ?_ () trivial;·intro i x _ hx _;have hi:=(Td.1 hx).1;exact⟨λ_ _=>trivial,Oh (rowAt hx rfl) (EV TQ hi) (sR hi hs)⟩
 ·intro _ _;exact Oi (aR TQ s.seen)
def abR(s:P3)(c:Int):FK:=match zj (abF c) s.seen () with
 |.inr x=>x
 |.inl _=>⟨c,0,-1,N⟩
theorem uK{s:P3}(hs:ah s.seen){c:Int}(h:aT):(Ev S5 fI 365 [kb s.l,dd c] h (ag (abR s c).row) h):=by
 have xd:=(@ab_cw (s) (hs) (c));unfold Oj at xd;revert xd;cases Χ:zj (abF c) s.seen () with
 |inl EW=>intro xd;exact yD (D.agg [dd c,dd 0,dd (-1),eP N]) [.s [1,4,8,9,10] xd] h (by simp only[abR,Χ];rfl)
 |inr ζ=>intro xd;exact yD (D.agg (zaX ζ)) [.s [1,4,8,9,10] xd] h (by simp only[abR,Χ];rfl)
attribute [local irreducible] abR
theorem kh1_ev{op c m:Int}{nm:ByteArray}{n d:Int}{ks:bv}{s:P3}(h:aT):(Ev S5 fI 355 [ruD op c nm n d ks,kb s.l,dd m] h (eP (m==(ks.length:Int))) h):=y0 [] h
theorem kh2_ev{op c m:Int}{nm:ByteArray}{n d:Int}{ks:bv}{s:P3}(h:aT):(Ev S5 fI 357 [ruD op c nm n d ks,kb s.l,dd m] h (eP (eY (m>0))) h):=y0 [] h
theorem kh3_ev{op c m:Int}{nm:ByteArray}{n d:Int}{ks:bv}{s:P3}(h:aT):(Ev S5 fI 359 [ruD op c nm n d ks,kb s.l,dd m] h (eP (eY (m>=n))) h):=y0 [] h
theorem kh4_ev{op c m:Int}{nm:ByteArray}{n d:Int}{ks:bv}{s:P3}(h:aT):(Ev S5 fI 361 [ruD op c nm n d ks,kb s.l,dd m] h (eP (m==0)) h):=y0 [] h
abbrev Z4(a b:Int)(e:ByteArray)(f g:Int)(h:bv)(i:P3):aT:=[eF [dd a,dd b,am e,dd f,dd g,ab h],eF [ab (S2 TQ i.seen),dd i.zm,dd i.n,dd i.d]]
noncomputable abbrev Fk(op:Int)(c:Int)(nm:ByteArray)(n:Int)(d:Int)(ks:bv)(s:P3):aT:=(Z4 op c nm n d ks s)
theorem kh5_ev{op c m:Int}{nm:ByteArray}{n d:Int}{ks:bv}{s:P3}(hs:ah s.seen)(h:aT):(Ev S5 fI 364 [ruD op c nm n d ks,kb s.l,dd m] h (eP (eY ((abR s c).tj>=n))) h):=y0 [.v (@uK s hs c (Fk op c nm n d ks s))] h
noncomputable abbrev Fl(op:Int)(c:Int)(nm:ByteArray)(n:Int)(d:Int)(ks:bv)(s:P3):aT:=(Z4 op c nm n d ks s)
theorem kh6_ev{op c m:Int}{nm:ByteArray}{n d:Int}{ks:bv}{s:P3}(hs:ah s.seen)(h:aT):(Ev S5 fI 367 [ruD op c nm n d ks,kb s.l,dd m] h (eP (eY ((abR s c).tries>=n))) h):=y0 [.v (@uK s hs c (Fl op c nm n d ks s))] h
theorem kh7_ev{op c m:Int}{nm:ByteArray}{n d:Int}{ks:bv}{s:P3}(h:aT):(Ev S5 fI 369 [ruD op c nm n d ks,kb s.l,dd m] h (eP (eY (s.zm>=n))) h):=y0 [] h
noncomputable abbrev Fm(op:Int)(c:Int)(nm:ByteArray)(n:Int)(d:Int)(ks:bv)(s:P3):aT:=(Z4 op c nm n d ks s)
theorem kh8_ev{op c m:Int}{nm:ByteArray}{n d:Int}{ks:bv}{s:P3}(h1:NI s.n)(h2:NI s.d)(hn:NI n)(hd:NI d)(h:aT):(Ev S5 fI 371 [ruD op c nm n d ks,kb s.l,dd m] h (eP (eY ((nW s.n s.d n d).1>=0))) h):=y0 [.v (@mF (s.n) (s.d) n d h1 h2 hn hd (Fm op c nm n d ks s))] h
noncomputable abbrev Fo(op:Int)(c:Int)(nm:ByteArray)(n:Int)(d:Int)(ks:bv)(s:P3):aT:=(Z4 op c nm n d ks s)
theorem kh9_ev{op c m:Int}{nm:ByteArray}{n d:Int}{ks:bv}{s:P3}(hs:ah s.seen)(h:aT):(Ev S5 fI 372 [ruD op c nm n d ks,kb s.l,dd m] h (eP (abR s c).now) h):=y0 [.v (@uK s hs c (Fo op c nm n d ks s))] h
def rK(op c n d:Int)(kn:Nat)(s:P3)(m:Int):Bool :=
 if op=1 then m==(kn:Int) else if op=2 then eY (m>0) else if op=3 then eY (m>=n) else if op=4 then m==0 else if op=5 then eY ((abR s c).tj>=n)
 else if op=6 then eY ((abR s c).tries>=n) else if op=7 then eY (s.zm>=n) else if op=8 then eY ((nW s.n s.d n d).1>=0) else (abR s c).now
abbrev vuS(op c:Int)(nm:ByteArray)(n d:Int)(ks:bv)(s:P3)(m i:Int):AS:={t:=oz 30 0 [zaU,zbr,(5,dd m),(9,ab ks),(10,dd ks.length),(11,dd i)],h:=[eF (zam op c nm n d ks),eF s.l],m:=[]}
abbrev vuE(op c:Int)(nm:ByteArray)(n d:Int)(ks:bv)(s:P3)(m:Int):AS:={t:=oz 30 0 [zaU,zbr,(5,dd m)],h:=[eF (zam op c nm n d ks),eF s.l],m:=[]}
def LW(b:Bool)(m:Int):Int:=bif b then m+1 else m
noncomputable abbrev ta(op:Int)(c:Int)(nm:ByteArray)(n:Int)(d:Int)(ks:bv)(s:P3)(a1:Int)(a2:Int)(a4:Int)(a5:Int)(a3:ByteArray)(a6:bv):aT:=[eF (zam op c nm n d ks),eF (zah s),eF (zam a1 a2 a3 a4 a5 a6)]
theorem Ol{ks:List (List Dp)}{a1 a2 a4 a5:Int}{a3:ByteArray}{a6:List (List Dp)}{b:Bool}(hr:ao (i:Int) ks [vi a1,vi a2,vs a3,vi a4,vi a5,.sl a6] 6)(lL:eY ((i:Int)<(ks.length:Int))=true)(hw:S6.wrap ((i:Int)+1)=((i+1:Nat):Int))(hm:S6.wrap (m+1)=m+1)(hv:∀h,Ev S5 jV 171 [ruD a1 a2 a3 a4 a5 a6,.agg s.l] h (eP b) h):(CW S5 jV [] false (sub VA 0) (vuS op c nm n d ks s m i) .normal (vuS op c nm n d ks s (LW b m) ((i+1:Nat):Int))):=by
 cases sQ:b
 ·exact yX {t:=oz 30 0 [(2,.ref (.ptr 0 0)),(3,.ref (.ptr 1 0)),(5,dd m),(9,ab ks),(10,dd (↑(S7 ks):Int)),(11,dd (S8 S6 ((↑i:Int)+1)))],h:=[.var [dd op,dd c,am nm,dd n,dd d,ab ks],.var [ab (S2 TQ s.seen),dd s.zm,dd s.n,dd s.d]],m:=[]} Tr [.st (.mask [2,3,5,9,10,11]),.st (.trim 2)] [.b lL,.r hr,.v (@hv (ta op c nm n d ks s a1 a2 a4 a5 a3 a6)),.b sQ] (by grind) (by(have hh:b=false:=sQ;subst hh;simp only[LW,cond_false,hw];first|done|rfl))
 ·exact yX {t:=oz 30 0 [(2,.ref (.ptr 0 0)),(3,.ref (.ptr 1 0)),(5,dd (S8 S6 (m+1))),(9,ab ks),(10,dd (↑(S7 ks):Int)),(11,dd (S8 S6 ((↑i:Int)+1)))],h:=[.var [dd op,dd c,am nm,dd n,dd d,ab ks],.var [ab (S2 TQ s.seen),dd s.zm,dd s.n,dd s.d]],m:=[]} Tr [.st (.mask [2,3,5,9,10,11]),.st (.trim 2)] [.b lL,.r hr,.v (@hv (ta op c nm n d ks s a1 a2 a4 a5 a3 a6)),.b sQ] (by grind) (by(have hh:b=true:=sQ;subst hh;simp only[LW,cond_true,hw,hm];first|done|rfl))
theorem Om(lL:eY ((i:Int)<(ks.length:Int))=N):(CW S5 jV [] N (sub VA 0) (vuS op c nm n d ks s m i) (E8 0) (vuE op c nm n d ks s m)):=yx [CE (EZ [2,3,5])] [.b lL]
mutual
def Jg(s:P3):lm->Bool
 |.mk op c _ n d ks=>rK op c n d ks.length s (valN s ks 0)
def valN(s:P3):List lm->Int->Int
 | [],m=>m
 |k::ks,m=>valN s ks (LW (Jg s k) m)
end
theorem xq(s:P3):∀(ks:List lm) (m:Int),valN s ks m=ks.foldl (λm k=>LW (Jg s k) m) m
 | [],_=>rfl
 |k::ks,m=>by rw[valN,TG];exact xq s ks _
theorem vu_all{ks:List lm}(hs:ah ks)(hv:∀k∈ks,∀h,Ev S5 jV 171 [ag k.row,.agg s.l] h (eP (Jg s k)) h):CW S5 jV [] false (.loop (sub VA 0)) (vuS op c nm n d (fG ks) s 0 0) (.exit 0) (vuE op c nm n d (fG ks) s (valN s ks 0)):=by
 rw[xq,dm]
 have:=UR (P:=S5) (Γ:=jV) (h0:=[]) (rd:=false) (c:=sub VA 0) (σ:=Int) (ρ:=Empty) ks (λk m=>.inl (LW (Jg s k) m))
  (λi m=>vuS op c nm n d (ks.map Wy) s m (i:Int)) (.exit 0) (λm=>vuE op c nm n d (ks.map Wy) s m) (λr=>r.elim)
  (λi m=>0<=m/\m<=(i:Int)) (by simp) (λr=>r.elim) ?_ ?_ 0 (by simp)
 ·rw[aM (λm k=>LW (Jg s k) m)] at this;exact this
 ·intro i k m hk hm;have hi:=(Td.1 hk).1;have zlo:k∈ks:=List.mem_of_getElem? hk;have hsi:(i:Int)<140737488355328+1:=by unfold ah at hs;omega
  refine⟨λm' e=>?_,?_⟩;·grind [LW]
  ·cases k with
   | mk a1 a2 a3 a4 a5 kk =>have h1:=rowAt (row:=Wy) hk rfl;rw[Wy] at h1;have h2:=hv _ zlo;rw[Wy] at h2;exact Ol (i:=i) h1 (EV Wy hi) (sR hi hs) (wrap_i64 (by omega) (by omega)) h2
 ·intro m _;exact Om (aR Wy ks)
noncomputable abbrev Fp(c:Int)(nm:ByteArray)(n:Int)(d:Int)(ks:bv)(s:P3):aT:=(Z4 1 c nm n d ks s)
theorem val1_a(hc:CW S5 jV [] false (.loop (sub VA 0)) (vuS 1 c nm n d ks s 0 0) (.exit 0) (vuE 1 c nm n d ks s m))(h:aT):(Ev S5 jV 171 [ruD 1 c nm n d ks,.agg s.l] h (eP (rK 1 c n d ks.length s m)) h):=by have xd:=(@hc);exact y0 [.s [2,3,5,9,10,11] xd,(rfl:L9 1 10=true),.v (Tp (Γ':=jV) (@kh1_ev 1 c m nm n d ks s (Fp c nm n d ks s)))] h
noncomputable abbrev Fq(c:Int)(nm:ByteArray)(n:Int)(d:Int)(ks:bv)(s:P3):aT:=(Z4 2 c nm n d ks s)
theorem val2_a(hc:CW S5 jV [] false (.loop (sub VA 0)) (vuS 2 c nm n d ks s 0 0) (.exit 0) (vuE 2 c nm n d ks s m))(h:aT):(Ev S5 jV 171 [ruD 2 c nm n d ks,.agg s.l] h (eP (rK 2 c n d ks.length s m)) h):=by have xd:=(@hc);exact y0 [.s [2,3,5,9,10,11] xd,(rfl:L9 2 10=true),.v (Tp (Γ':=jV) (@kh2_ev 2 c m nm n d ks s (Fq c nm n d ks s)))] h
noncomputable abbrev Fr(c:Int)(nm:ByteArray)(n:Int)(d:Int)(ks:bv)(s:P3):aT:=(Z4 3 c nm n d ks s)
theorem val3_a(hc:CW S5 jV [] false (.loop (sub VA 0)) (vuS 3 c nm n d ks s 0 0) (.exit 0) (vuE 3 c nm n d ks s m))(h:aT):(Ev S5 jV 171 [ruD 3 c nm n d ks,.agg s.l] h (eP (rK 3 c n d ks.length s m)) h):=by have xd:=(@hc);exact y0 [.s [2,3,5,9,10,11] xd,(rfl:L9 3 10=true),.v (Tp (Γ':=jV) (@kh3_ev 3 c m nm n d ks s (Fr c nm n d ks s)))] h
noncomputable abbrev Fs(c:Int)(nm:ByteArray)(n:Int)(d:Int)(ks:bv)(s:P3):aT:=(Z4 4 c nm n d ks s)
theorem val4_a(hc:CW S5 jV [] false (.loop (sub VA 0)) (vuS 4 c nm n d ks s 0 0) (.exit 0) (vuE 4 c nm n d ks s m))(h:aT):(Ev S5 jV 171 [ruD 4 c nm n d ks,.agg s.l] h (eP (rK 4 c n d ks.length s m)) h):=by have xd:=(@hc);exact y0 [.s [2,3,5,9,10,11] xd,(rfl:L9 4 10=true),.v (Tp (Γ':=jV) (@kh4_ev 4 c m nm n d ks s (Fs c nm n d ks s)))] h
noncomputable abbrev Ft(c:Int)(nm:ByteArray)(n:Int)(d:Int)(ks:bv)(s:P3):aT:=(Z4 5 c nm n d ks s)
theorem val5_a(hs:ah s.seen)(hc:CW S5 jV [] false (.loop (sub VA 0)) (vuS 5 c nm n d ks s 0 0) (.exit 0) (vuE 5 c nm n d ks s m))(h:aT):(Ev S5 jV 171 [ruD 5 c nm n d ks,.agg s.l] h (eP (rK 5 c n d ks.length s m)) h):=by have xd:=(@hc);exact y0 [.s [2,3,5,9,10,11] xd,(rfl:L9 5 10=true),.v (Tp (Γ':=jV) (@kh5_ev 5 c m nm n d ks s hs (Ft c nm n d ks s)))] h
noncomputable abbrev Fu(c:Int)(nm:ByteArray)(n:Int)(d:Int)(ks:bv)(s:P3):aT:=(Z4 6 c nm n d ks s)
theorem val6_a(hs:ah s.seen)(hc:CW S5 jV [] false (.loop (sub VA 0)) (vuS 6 c nm n d ks s 0 0) (.exit 0) (vuE 6 c nm n d ks s m))(h:aT):(Ev S5 jV 171 [ruD 6 c nm n d ks,.agg s.l] h (eP (rK 6 c n d ks.length s m)) h):=by have xd:=(@hc);exact y0 [.s [2,3,5,9,10,11] xd,(rfl:L9 6 10=true),.v (Tp (Γ':=jV) (@kh6_ev 6 c m nm n d ks s hs (Fu c nm n d ks s)))] h
noncomputable abbrev Fv(c:Int)(nm:ByteArray)(n:Int)(d:Int)(ks:bv)(s:P3):aT:=(Z4 7 c nm n d ks s)
theorem val7_a(hc:CW S5 jV [] false (.loop (sub VA 0)) (vuS 7 c nm n d ks s 0 0) (.exit 0) (vuE 7 c nm n d ks s m))(h:aT):(Ev S5 jV 171 [ruD 7 c nm n d ks,.agg s.l] h (eP (rK 7 c n d ks.length s m)) h):=by have xd:=(@hc);exact y0 [.s [2,3,5,9,10,11] xd,(rfl:L9 7 10=true),.v (Tp (Γ':=jV) (@kh7_ev 7 c m nm n d ks s (Fv c nm n d ks s)))] h
noncomputable abbrev Fw(c:Int)(nm:ByteArray)(n:Int)(d:Int)(ks:bv)(s:P3):aT:=(Z4 8 c nm n d ks s)
theorem val8_a(h1:NI s.n)(h2:NI s.d)(hn:NI n)(hd:NI d)(hc:CW S5 jV [] false (.loop (sub VA 0)) (vuS 8 c nm n d ks s 0 0) (.exit 0) (vuE 8 c nm n d ks s m))(h:aT):(Ev S5 jV 171 [ruD 8 c nm n d ks,.agg s.l] h (eP (rK 8 c n d ks.length s m)) h):=by have xd:=(@hc);exact y0 [.s [2,3,5,9,10,11] xd,(rfl:L9 8 10=true),.v (Tp (Γ':=jV) (@kh8_ev 8 c m nm n d ks s h1 h2 hn hd (Fw c nm n d ks s)))] h
noncomputable abbrev Fy(c:Int)(nm:ByteArray)(n:Int)(d:Int)(ks:bv)(s:P3):aT:=(Z4 9 c nm n d ks s)
theorem val9_a(hs:ah s.seen)(hc:CW S5 jV [] false (.loop (sub VA 0)) (vuS 9 c nm n d ks s 0 0) (.exit 0) (vuE 9 c nm n d ks s m))(h:aT):(Ev S5 jV 171 [ruD 9 c nm n d ks,.agg s.l] h (eP (rK 9 c n d ks.length s m)) h):=by have xd:=(@hc);exact y0 [.s [2,3,5,9,10,11] xd,(rfl:L9 9 10=true),.v (Tp (Γ':=jV) (@kh9_ev 9 c m nm n d ks s hs (Fy c nm n d ks s)))] h
end Go.Vi
open Go Go.Proofs
namespace Go.Vi
set_option maxRecDepth 100000
set_option maxHeartbeats 4000000
inductive lm.fine:lm->Prop
 |mk {op c:Int} {nm:ByteArray} {n d:Int} {ks:List lm} (h1:1<=op) (h9:op<=9) (hn:NI n) (hd:NI d) (hs:ah ks) (hk:∀k∈ks,k.fine):lm.fine (.mk op c nm n d ks)
variable {b:Bool}{c d e bO n ob op sc st d5 P4 v:Int}{i:Nat}{ks:bv}{nm:ByteArray}{r:lm}{s:P3}{w:eO}
theorem Fz{k:Int}(h:aP op c n d k=J):1<=op/\op<=9:=by
 unfold aP at h;split at h;·simp at h
 ·by_cases h1:op=1;·omega
  grind
mutual
theorem xt:∀(r:lm) (dep m:Int),r.ok->(r.walk dep m).2=N->r.fine
 |.mk op c nm n d ks,dep,m,hr,h=>by
  simp[lm.ok] at hr;simp[lm.walk] at h;split at h;·simp at h
  ·rename_i hs;have hf:aP op c n d ks.length=J:=by simp only[nY,Bool.or_eq_false_iff,Bool.not_eq_false'] at hs;exact hs.2
   have ho:=Fz hf;exact .mk ho.1 ho.2 hr.1.2.2.1 hr.1.2.2.2.1 hr.1.2.2.2.2 (tb ks _ _ hr.2 h)
theorem tb:∀(ks:List lm) (dep m:Int),gP ks->(zkR ks dep m).2=N->∀k∈ks,k.fine
 | [],_,_,_,_=>qk
 |a::ks,dep,m,hr,h=>by
  simp[gP] at hr;simp[zkR] at h;cases hw:a.walk dep m with
  |mk m' b=>
   rw[hw] at h;cases b with
   |true=>simp at h
   |false=>have ha:a.fine:=xt a dep m hr.1 (by rw[hw]);have hk2:=tb ks dep m' hr.2 h;grind
end
theorem Jh(hs:s.ok)(hr:r.fine):∀h,Ev S5 jV 171 [ag r.row,kb s.l] h (eP (Jg s r)) h:=by
 induction hr with
 | @mk op c nm n d ks h1 h9 hn hd hsh _ ih=>
  intro h;have hc:=vu_all (s:=s) (op:=op) (c:=c) (nm:=nm) (n:=n) (d:=d) hsh ih;rw[Wy,Jg];have hl:ks.length=(fG ks).length:=by rw[dm,List.length_map]
  rw[hl];have:op=1\/op=2\/op=3\/op=4\/op=5\/op=6\/op=7\/op=8\/op=9:=ji
  rcases this with rfl|rfl|rfl|rfl|rfl|rfl|rfl|rfl|rfl;·exact val1_a hc h
  ·exact val2_a hc h
  ·exact val3_a hc h
  ·exact val4_a hc h
  ·exact val5_a hs.s hc h
  ·exact val6_a hs.s hc h
  ·exact val7_a hc h
  ·exact val8_a hs.n hs.d hn hd hc h
  ·exact val9_a hs.s hc h
def qw(r:lm)(s:P3):Bool×Int:=match r.bad with
 |true=>(N,120)
 |false=>match uJ s.seen s.zm s.n s.d != 0 with
  |true=>(N,uJ s.seen s.zm s.n s.d)
  |false=>(Jg s r,0)
noncomputable abbrev CM(op:Int)(c:Int)(n:Int)(d:Int)(nm:ByteArray)(ks:bv)(s:P3):aT:=(Z4 op c nm n d ks s)
theorem Oo(hz:(e != 0)=J)(hk:∀h,Ev S5 jV 161 [ruD op c nm n d ks] h (dd e) h)(h:aT):(Ev S5 jV 98 [ruD op c nm n d ks,kb s.l] h (tf [eP N,dd e]) h):=y0 [.v (@hk (CM op c n d nm ks s)),.b hz] h
noncomputable abbrev tc(op:Int)(c:Int)(n:Int)(d:Int)(nm:ByteArray)(ks:bv)(s:P3):aT:=(Z4 op c nm n d ks s)
theorem Oq(hz:(e != 0)=J)(hk:∀h,Ev S5 jV 161 [ruD op c nm n d ks] h (dd 0) h)(hf:∀h,Ev S5 jV 170 [kb s.l] h (dd e) h)(h:aT):(Ev S5 jV 98 [ruD op c nm n d ks,kb s.l] h (tf [eP N,dd e]) h):=y0 [.v (@hk (tc op c n d nm ks s)),.e,.v (@hf (tc op c n d nm ks s)),.b hz] h
noncomputable abbrev mR(op:Int)(c:Int)(n:Int)(d:Int)(nm:ByteArray)(ks:bv)(s:P3):aT:=(Z4 op c nm n d ks s)
theorem Ot(hk:∀h,Ev S5 jV 161 [ruD op c nm n d ks] h (dd 0) h)(hf:∀h,Ev S5 jV 170 [kb s.l] h (dd 0) h)(hv:∀h,Ev S5 jV 171 [ruD op c nm n d ks,kb s.l] h (eP b) h)(h:aT):(Ev S5 jV 98 [ruD op c nm n d ks,kb s.l] h (tf [eP b,dd 0]) h):=y0 [.v (@hk (mR op c n d nm ks s)),.e,.v (@hf (mR op c n d nm ks s)),.e,.v (@hv (mR op c n d nm ks s))] h
theorem xu(hr:r.ok)(hs:s.ok)(h:aT):Ev S5 jV 98 [kb r.fl.l,kb s.l] h (tf [eP (qw r s).1,dd (qw r s).2]) h:=by
 have hf:∀h,Ev S5 jV 170 [kb s.l] h (dd (uJ s.seen s.zm s.n s.d)) h:=λh=>Tp (Jf hs.s hs.n hs.d h);have hk:∀h,Ev S5 jV 161 [kb r.fl.l] h (dd (iJ r.bad)) h:=λh=>gQ hr h;have hv:r.bad=N->∀h,Ev S5 jV 171 [kb r.fl.l,kb s.l] h (eP (Jg s r)) h:=λhb h=>by have h1:=Jh hs (xt r 1 0 hr hb) h;cases r;exact h1
 unfold qw;cases r with
 |mk op c nm n d ks=>
  cases hb:(lm.mk op c nm n d ks).bad with
  |true=>rw[hb] at hk;exact Oo rfl hk h
  |false=>
   rw[hb] at hk;cases hz:uJ s.seen s.zm s.n s.d != 0 with
   |true=>exact Oq hz hk hf h
   |false=>
    have e0:uJ s.seen s.zm s.n s.d=0:=by simpa using hz
    rw[e0] at hf;exact Ot hk hf (hv hb) h
noncomputable abbrev uL(x:RuF)(s:P3):aT:=(Z4 x.op x.c x.nm x.n x.d x.ks s)
theorem te{x:RuF}(hk:∀h,Ev S5 jV 98 [kb x.l,kb s.l] h (tf [eP b,dd e]) h)(h:aT):(Ev S5 jV 35 [kb x.l,kb s.l] h (eP b) h):=y0 [.v (@hk (uL x s))] h
abbrev zb7:bY:=(zie (ql 5 0) 6 4 7)
abbrev acT:bY:=oz 40 0 [(zeX 1),(ziy 14),(25,.fn (.func 169) [] zb7)]
noncomputable abbrev acL(st:LoopState):mX:=Fa st Y 0 acT #[26,27] (ax (sub VP 0)) (ak (sub VP 0))
noncomputable abbrev acH0(w:eO)(sc st ob d5 bO num:Int)(rd:D):aT :=[eF w.l,eF [dd num],eF [rd],.eQ [(Z8 sc st ob)] 0 3,eF w.l,eF zga,eF [dd d5],eF [dd bO]]
noncomputable abbrev acH(w:eO)(sc st ob d5 bO num:Int)(rd:D)(ls:LoopState)(more:aT):aT :=[eF w.l,eF [dd num],eF [rd],.eQ [(Z8 sc st ob)] 0 3,eF w.l,eF zga,eF [dd d5],eF [dd bO],J1,acL ls]++more
abbrev zew(a b c d e f:Int):bY:=[dd a,dd b,dd c,dd d,dd e,dd f]
abbrev acX(sc st ob d5 P4 v:Int):bY:=(zew sc st ob d5 P4 v)
abbrev acM(sc st ob d5 P4 v:Int):aT:=[eF (Z8 sc st ob),eF (acX sc st ob d5 P4 v)]
abbrev acU:bY:=oz 40 0 [(zeX 1),(ziy 14),(16,fE (ql 12 0))]
noncomputable abbrev zb1(a:eO)(b c d e f g h:Int):aT:=acH a b c d e f 0 nq E6 (acM b c d e g h)
abbrev zdh(a b c d e f:Int):aT:=(acM a b c d e f++[eF (acX a b c d e f)])
theorem ac_asg:(CW S5 fI (zb1 w sc st ob d5 bO P4 v) J (ax (sub VP 0)) {t:=dD acT [(26,dd 0),(27,kb (acX sc st ob d5 P4 v))],h:=(zb1 w sc st ob d5 bO P4 v),m:=[]} w8 {t:=acU,h:=acH w sc st ob d5 bO 0 nq E6 (zdh sc st ob d5 P4 v),m:=[]}):=yx [CE (EZ [12,14,16])] []
def mx0(v:Int):Int:=if J=J then if 0>v then 0 else v else if 0<v then 0 else v
abbrev acR(sc st ob d5 P4:Int):bY:=[dd sc,dd st,dd ob,dd d5,dd P4]
abbrev H0(sc st ob d5 P4 v:Int):aT:=acM sc st ob d5 P4 v++[eF (acX sc st ob d5 P4 v),.eQ [acR sc st ob d5 P4] 1 5]
abbrev zeh:D:=(fE (.eQ 13 1))
theorem Ou:(CW S5 fI (zb1 w sc st ob d5 bO P4 v) J (ak (sub VP 0)) {t:=acU,h:=acH w sc st ob d5 bO 0 nq ω (zdh sc st ob d5 P4 v),m:=[]} w8 {t:=oz 40 0 [],h:=acH w sc st ob d5 bO (mx0 v) zeh ω (H0 sc st ob d5 P4 v),m:=[]}):=by let v0:bY:=[dd sc,dd st,dd ob,dd d5,dd P4];exact yx (zbU [] 14) [(rfl:(Tq [v0] (aL 5)&&uO (S7 zdP+S7 [v0]) 40)=J),pe (fE (ql 12 5)),pe (fE (ql 12 5)),pe (fE (ql 12 5)),po (NJ v),po (NJ v),po (NJ v),po (zcl 13),po (zcl 13),pe (fE (ql 12 0)),pe (D.agg v0),(rfl:Tq [(Z8 sc st ob)] (TL 14)=J),(rfl:Tq [v0] (TL 14)=J),.o (.zfG 2 0 5)]
theorem Ov{w:eO}{sc st ob d5 bO P4 v:Int}:Iv S5 fI (fE (.yl 9)) [dd 0,kb (acX sc st ob d5 P4 v)] (zb1 w sc st ob d5 bO P4 v) (eP J) (acH w sc st ob d5 bO (mx0 v) zeh E6 (H0 sc st ob d5 P4 v)) :=Iv.round (h1:=acH w sc st ob d5 bO 0 nq E6 (zdh sc st ob d5 P4 v)) rfl rfl ac_asg rfl Ou rfl
abbrev zeE(a:Nat):Nat×D:=(8,fE (ql a 0))
abbrev zfx(a:Nat):Nat×D:=(4,fE (ql a 0))
abbrev ziN(a:bv)(b:Nat×D)(c:D):bY:=oz 47 0 [(zfJ 9),(zb9 5),(zda 6),zfR,(zfx 7),(6,dd 0),(zf8 7),(zeE 11),(zeq 11 3),(12,dd 1),(13,dd 0),(31,ab a),b,(33,c)]
abbrev aqT(ps:bv)(i:Int):bY:=(ziN ps (32,dd ps.length) (dd i))
abbrev aqE:bY:=oz 47 0 [(zfJ 9),(zb9 5),(zda 6),zfR,(zfx 7),(6,dd 0),(zf8 7),(zeE 11),(zeq 11 3),(12,dd 1),(13,dd 0)]
abbrev zbV:bY:=(oz 40 0 [(12,fE (ql 1 0)),(ziy 14),(25,UL (TM 169) [] (zie (ql 5 0) 6 4 7))])
noncomputable abbrev zfA(a:eO)(b c d e f:Int):aT:=acH a b c d e f 0 nq E6 []
theorem Ow{ps:List (List Dp)}{p:Ξ}(hr:ao (i:Int) ps p.row 2)(lL:eY ((i:Int)<(ps.length:Int))=true)(hw:S6.wrap ((i:Int)+1)=((i+1:Nat):Int)):(CW S5 fI (acH w sc st ob d5 bO 0 nq .ready []) false (sub U2 1) {t:=aqT ps i,h:=acH w sc st ob d5 bO 0 nq .ready (acM sc st ob d5 P4 v),m:=[]} .normal {t:=aqT ps ((i+1:Nat):Int),h:=acH w sc st ob d5 bO 0 nq .ready (acM sc st ob d5 P4 p.value),m:=[]}):=by
 let v0:List D:=[ab (S2 Tc w.c),ab w.p,ab (S2 Tj w.s),ab (S2 Ta w.f)]
 exact yX {t:=oz 47 0 [(0,.ref (.yl 9)),(1,.ref (.ptr 5 0)),(2,.ref (.ptr 6 0)),(3,.ref (.ptr 4 0)),(4,.ref (.ptr 7 0)),(6,dd 0),(7,.ref (.ptr 10 0)),(8,.ref (.ptr 11 0)),(11,.ref (.eQ 3 0)),(12,dd 1),(13,dd 0),(31,ab ps),(32,dd (↑(S7 ps):Int)),(33,dd (S8 S6 ((↑i:Int)+1)))],h:=[.var v0,.var [dd 0],.var [nq],.eQ [[dd sc,dd st,dd ob]] 0 3,.var v0,.var [.ref (.eQ 3 0)],.var [dd d5],.var [dd bO],.P2,.loop TJ none 0 (oz 40 0 [(12,.ref (.ptr 1 0)),(14,.ref (.ptr 2 0)),(25,UL (TM 169) [] [.ref (.ptr 5 0),.ref (.ptr 6 0),.ref (.ptr 4 0),.ref (.ptr 7 0)])]) {toList:=[26,27]} (ax (sub VP 0)) (ak (sub VP 0)),.var [dd sc,dd st,dd ob],.var [dd sc,dd st,dd ob,dd d5,dd P4,dd p.value]],m:=[]} Tr [.st (.mask [0,1,2,3,4,6,7,8,11,12,13,31,32,33]),.st (.trim 12)] [.b lL,.r hr,(rfl:Tq [[dd sc,dd st,dd ob]] (TL 12)=true)] (by subst v0;grind) (by subst v0;(rw[hw];rfl))
theorem Ox{ps:bv}(lL:eY ((i:Int)<(ps.length:Int))=N):(CW S5 fI (zfA w sc st ob d5 bO) N (sub U2 1) {t:=aqT ps i,h:=(zb1 w sc st ob d5 bO P4 v),m:=[]} (E8 2) {t:=aqE,h:=(zb1 w sc st ob d5 bO P4 v),m:=[]}):=yx [CE (EZ [0,1,2,3,4,6,7,8,11,12,13])] [.b lL]
def fF(ps:List Ξ)(v:Int):Int:=ps.foldl (λ_ p=>p.value) v
theorem aq_cw{w:eO}{sc st ob d5 bO P4 v:Int}{ps:List Ξ}(hl:ah ps):CW S5 fI (zfA w sc st ob d5 bO) false (.loop (sub U2 1)) {t:=aqT (ps.map V2) 0,h:=(zb1 w sc st ob d5 bO P4 v),m:=[]} (.exit 2) {t:=aqE,h:=(zb1 w sc st ob d5 bO P4 (fF ps v)),m:=[]}:=by
 have:=UR (P:=S5) (Γ:=fI) (h0:=(zfA w sc st ob d5 bO)) (rd:=false) (c:=sub U2 1) (σ:=Int) (ρ:=Empty) ps (λp _=>.inl p.value)
  (λi v=>{t:=aqT (ps.map V2) (i:Int),h:=(zb1 w sc st ob d5 bO P4 v),m:=[]}) (.exit 2) (λv=>{t:=aqE,h:=(zb1 w sc st ob d5 bO P4 v),m:=[]}) (λr=>r.elim)
  (λ_ _=>True) (by simp) (λr=>r.elim) ?_ ?_ v trivial
 ·rw[aM (λ_ p=>Ξ.value p)] at this;exact this
 ·intro i p s hp _;have hi:=(Td.1 hp).1;exact⟨λ_ _=>trivial,Ow (rowAt hp rfl) (EV _ hi) (sR hi hl)⟩
 ·intro s _;exact Ox (aR _ ps)
abbrev ptV(sc st ob d5 bO:Int)(fs:AT):Int:=fF (aH sc st ob d5 (S6.wrap (d5+1)) bO fs) 0
abbrev acO(i:Int):bY:=oz 47 0 [(zfJ 9),(zb9 5),(zda 6),zfR,(zfx 7),(zeq 11 3),(12,dd 1),(13,dd i)]
attribute [local irreducible] fF aH mx0
noncomputable abbrev zq(w:eO)(sc:Int)(st:Int)(ob:Int)(d5:Int)(bO:Int):aT:=[eF (ZA w),eF [dd 0],eF [nq],.eQ [(Z8 sc st ob)] 0 3,eF (ZA w),eF zga,eF [dd d5],eF [dd bO],J1,Fa TJ Y 0 zbV {toList:=[26,27]} (ax (sub VP 0)) (ak (sub VP 0)),eF (Z8 sc st ob),eF [dd sc,dd st,dd ob,dd d5,(za1 d5),dd 0]]
theorem ztz(hf:ah w.f)(hl:ah (aH sc st ob d5 (S6.wrap (d5+1)) bO w.f)):(CW S5 fI (zfA w sc st ob d5 bO) N (sub U2 0) {t:=acO 0,h:=(zfA w sc st ob d5 bO),m:=[]} w8 {t:=acO 1,h:=acH w sc st ob d5 bO (mx0 (ptV sc st ob d5 bO w.f)) zeh E6 (H0 sc st ob d5 (S6.wrap (d5+1)) (ptV sc st ob d5 bO w.f)),m:=[]}):=by have xd:=(@aq_cw (w) (sc) (st) (ob) (d5) (bO) (S8 S6 (d5+1)) (0) (aH sc st ob d5 (S8 S6 (d5+1)) bO w.f) (hl));exact yx [CE (EZ [0,1,2,3,4,11,12,13])] [(rfl:L9 0 (S7 [(Z8 sc st ob)])=J),.e,.v (@iM sc st ob d5 (S8 S6 (d5+1)) bO (w.f) hf (zq w sc st ob d5 bO)),.s [0,1,2,3,4,6,7,8,11,12,13,31,32,33] xd,.j (@Ov w sc st ob d5 bO (S8 S6 (d5+1)) (fF (aH sc st ob d5 (S8 S6 (d5+1)) bO w.f) 0)),.e]
theorem Oy{num:Int}:(CW S5 fI (zfA w sc st ob d5 bO) N (sub U2 0) {t:=acO 1,h:=acH w sc st ob d5 bO num zeh E6 (H0 sc st ob d5 P4 v),m:=[]} (E8 0) {t:=oz 47 0 [],h:=acH w sc st ob d5 bO num zeh E6 (H0 sc st ob d5 P4 v),m:=[]}):=yx zbN [.e]
theorem ac_cw{w:eO}(hf:ah w.f){sc st ob d5 bO:Int}(hl:ah (aH sc st ob d5 (S6.wrap (d5+1)) bO w.f)):CW S5 fI (zfA w sc st ob d5 bO) false (.loop (sub U2 0)) {t:=acO 0,h:=(zfA w sc st ob d5 bO),m:=[]} (.exit 0) {t:=oz 47 0 [],h:=acH w sc st ob d5 bO (mx0 (ptV sc st ob d5 bO w.f)) zeh .ready (H0 sc st ob d5 (S6.wrap (d5+1)) (ptV sc st ob d5 bO w.f)),m:=[]}:=by
 have:=UR (P:=S5) (Γ:=fI) (h0:=(zfA w sc st ob d5 bO)) (rd:=false) (c:=sub U2 0) (σ:=Bool) (ρ:=Empty) [()] (λ_ _=>.inl true)
  (λi b=>match b with
   | false=>{t:=acO (i:Int),h:=(zfA w sc st ob d5 bO),m:=[]}
   | true=>{t:=acO (i:Int),h:=acH w sc st ob d5 bO (mx0 (ptV sc st ob d5 bO w.f)) zeh .ready (H0 sc st ob d5 (S6.wrap (d5+1)) (ptV sc st ob d5 bO w.f)),m:=[]})
  (.exit 0) (λ_=>{t:=oz 47 0 [],h:=acH w sc st ob d5 bO (mx0 (ptV sc st ob d5 bO w.f)) zeh .ready (H0 sc st ob d5 (S6.wrap (d5+1)) (ptV sc st ob d5 bO w.f)),m:=[]}) (λr=>r.elim)
  (λi b=>b=eY (i=1)) (by simp) (λr=>r.elim) ?_ ?_ false rfl
 ·exact this
 ·intro i p b hp hb;have hi:i=0:=by have:=(Td.1 hp).1;simpa using this
  subst hi;simp at hb;subst hb;exact⟨λ_ h=>by cases h;rfl,ztz hf hl⟩
 ·intro b hb;simp at hb;subst hb;exact Oy
theorem FA(hf:ah w.f)(hl:ah (aH sc st ob d5 (S6.wrap (d5+1)) bO w.f)):(Ev S5 fI 169 [fE (.yl 9),fE (ql 5 0),fE (ql 6 0),fE (ql 4 0),fE (ql 7 0)] (zfA w sc st ob d5 bO) (tf []) (acH w sc st ob d5 bO (mx0 (ptV sc st ob d5 bO w.f)) zeh E6 (H0 sc st ob d5 (S6.wrap (d5+1)) (ptV sc st ob d5 bO w.f)))):=by have xd:=(@ac_cw (w) (hf) (sc) (st) (ob) (d5) (bO) (hl));let v0:bY:=(ZA w);let v1:bY:=[dd sc,dd st,dd ob,dd d5,(za1 d5),dd (ptV sc st ob d5 bO w.f)];exact Tw (yF (h':=[eF v0,eF [dd (mx0 (ptV sc st ob d5 bO w.f))],eF (zbn 13 1),.eQ [(Z8 sc st ob)] 0 3,eF v0,eF zga,eF [dd d5],eF [dd bO],J1,Fa TJ Y 0 zbV {toList:=[26,27]} (ax (sub VP 0)) (ak (sub VP 0)),eF (Z8 sc st ob),eF v1,eF v1,.eQ (zhI sc st ob d5) 1 5]) (d:=D.JY []) [.s [0,1,2,3,4,11,12,13] xd]) EX EX
theorem Ji{w:eO}(hf:ah w.f){sc st ob d5 bO:Int}(hl:ah (aH sc st ob d5 (S6.wrap (d5+1)) bO w.f)):CW S5 fI [] N (sub VP 0) {t:=acT,h:=acH0 w sc st ob d5 bO 0 nq,m:=[]} w8
  {t:=acT,h:=acH w sc st ob d5 bO (mx0 (ptV sc st ob d5 bO w.f)) zeh zap (H0 sc st ob d5 (S6.wrap (d5+1)) (ptV sc st ob d5 bO w.f)),m:=[8]}:=by
 exact CW.rangeFunc (f:=169) (fi:=[]) (ca:=zb7) ZK (s:={t:=acT,h:=acH0 w sc st ob d5 bO 0 nq,m:=[]}) (g:=.tmp 25) (ps:=#[26,27]) (asg:=ax (sub VP 0)) (body:=ak (sub VP 0)) rfl Z (FA hf hl) rfl
theorem Jj(hf:ah w.f)(hl:ah (aH sc st ob d5 (S6.wrap (d5+1)) bO w.f))(h:aT):(Ev S5 fI 34 (zb5 w sc st ob d5 (dd bO)) h (tf [dd (mx0 (ptV sc st ob d5 bO w.f)),eP (eY (mx0 (ptV sc st ob d5 bO w.f)>0)),ab [[vi sc,vi st,vi ob,vi d5,vi (S6.wrap (d5+1))]]]) h):=by have xd:=(@Ji (w) (hf) (sc) (st) (ob) (d5) (bO) (hl));let v0:=ab (zbz sc st ob d5);exact y0 [.a1 Α,.s [12,14,25] xd,pr (zhI sc st ob d5),pr [(Z8 sc st ob)],po (NJ (mx0 (ptV sc st ob d5 bO w.f))),po (NJ (mx0 (ptV sc st ob d5 bO w.f))),pr (G v0),pr (G v0),.o (τ 13 (zbz sc st ob d5))] h
end Go.Vi
open Go Go.Proofs
namespace Go.Vi
set_option maxRecDepth 100000
set_option maxHeartbeats 4000000
variable {L R ks ls rs:bv}{a b c i k bO n st d5 P4 v:Int}{l0 r0:List (List Dp)}{w:eO}
def hkR(kd st:Int)(n:Nat):bv:=(T1 n).map λk:Nat=>[vi kd,vi st,vi (k:Int)]
theorem FB(kd st:Int)(n:Nat):(hkR kd st n).length=n:=by simp[hkR]
theorem FC(ks:List (List Dp))(a b c:Int):ad ks++[[dd a,dd b,dd c]]=ad (ks++[[vi a,vi b,vi c]]):=u4 ks [vi a,vi b,vi c]
abbrev zi3(a:List (Nat×D))(b:bY)(c:List (bY)):AS:={t:=oz 48 0 a,h:=[eF b,eF [nq],eF [nq],.eQ (c) 0 3],m:=[]}
abbrev hkS(w:eO)(kd st d5 bO:Int)(ks:List (List Dp))(n:Int):AS:={t:=oz 48 0 [(1,dd kd),(2,dd st),(3,dd d5),(4,dd bO),(5,.ref (.ptr 0 0)),(10,.ref (.ptr 1 0)),(11,.ref (.ptr 2 0)),(12,.ref (.eQ 3 0)),(16,dd n)],h:=[.var w.l,.var [nq],.var [nq],.eQ (ad ks) 0 3],m:=[]}
abbrev hkE(w:eO)(kd st d5 bO:Int)(ks:bv):AS:=(zi3 [(1,dd kd),(2,dd st),(3,dd d5),(4,dd bO),zbK,WF,zat,(zeq 12 3)] w.l (ad ks))
theorem Oz{kd:Int}{n:Nat}{ks:List (List Dp)}(hk:ks.length<=100)(lL:eY ((n:Int)<8)=true)(hw:S6.wrap ((n:Int)+1)=((n+1:Nat):Int)):(CW S5 fI [] false (sub UQ 0) (hkS w kd st d5 bO ks n) .normal (hkS w kd st d5 bO (ks++[[vi kd,vi st,vi (n:Int)]]) ((n+1:Nat):Int))):=by
 refine yX {t:=oz 48 0 [(1,dd kd),(2,dd st),(3,dd d5),(4,dd bO),(5,.ref (.ptr 0 0)),(10,.ref (.ptr 1 0)),(11,.ref (.ptr 2 0)),(12,.ref (.eQ 3 0)),(16,dd (S8 S6 ((↑n:Int)+1)))],h:=[.var [ab (S2 Tc w.c),ab w.p,ab (S2 Tj w.s),ab (S2 Ta w.f)],.var [nq],.var [nq],.eQ (ad ks++[[dd kd,dd st,dd (↑n:Int)]]) 0 3],m:=[]} Tr [.st (.mask [1,2,3,4,5,10,11,12,16]),.st (.ren 3 0),.st (.trim 4)] [.b lL,((by grind [aL,Zk,Up,uO]):(Tq [[dd kd,dd st,dd (↑n:Int)]] (aL 3)&&uO (S7 (ad ks)+S7 [[dd kd,dd st,dd (↑n:Int)]]) 24)=true),(?_:S2 (Tz (ar 3 1 0)) (ad ks++[[dd kd,dd st,dd (↑n:Int)]])=ad ks++[[dd kd,dd st,dd (↑n:Int)]]),pr [[dd kd,dd st,dd (↑n:Int)]],(?_:Tq (ad ks++[[dd kd,dd st,dd (↑n:Int)]]) (TL 4)=true)] (by grind) (by simp only[hw,hkS,ad,Uh,U5,Yi];rfl)<;>(first|(rw[FC];exact aB _ _)|(rw[FC];exact aD _ _))
theorem OA{kd:Int}:(CW S5 fI [] N (sub UQ 0) (hkS w kd st d5 bO ks 8) (E8 0) (hkE w kd st d5 bO ks)):=yx [CE (EZ [1,2,3,4,5,10,11,12])] [.e]
theorem hk_cw{kd:Int}:CW S5 fI [] false (.loop (sub UQ 0)) (hkS w kd st d5 bO [] 0) (.exit 0) (hkE w kd st d5 bO (hkR kd st 8)):=by
 refine CW.zmg 8 (λi=>hkS w kd st d5 bO (hkR kd st i) (i:Int)) (by simp[hkR]) (λi hi=>?_) OA;have e:hkR kd st (i+1)=hkR kd st i++[[vi kd,vi st,vi (i:Int)]]:=by simp[hkR,Xe]
 rw[e];exact Oz (by rw[FB];omega) (decide_eq_true (by omega)) (by rw[wrap_i64 (by omega) (by omega)];omega)
abbrev zbh:bY:=(zie (ql 7 0) 8 6 9)
abbrev hdT:bY:=oz 48 0 [WF,zat,(31,.fn (.func 169) [] zbh)]
noncomputable abbrev hdL(st:LoopState):mX:=Fa st Y 0 hdT #[32,33] (ax (sub UQ 1)) (ak (sub UQ 1))
noncomputable abbrev hdH0(w:eO)(ks:bv)(d5 bO:Int)(e:Nat)(ls rs:bv):aT :=[eF w.l,eF (zbn 4 e),eF (zbn 5 e),xy,.eQ (ad ls) e 1,.eQ (ad rs) e 5,eF w.l,eF [ab ks],eF [dd d5],eF [dd bO]]
noncomputable abbrev hdH(w:eO)(ks:List (List Dp))(d5 bO:Int)(e:Nat)(ls rs:List (List Dp))(lp:LoopState)(more:List mX):List mX :=
 [.var w.l,.var [.ref (.eQ 4 e)],.var [.ref (.eQ 5 e)],.EU,.eQ (ad ls) e 1,.eQ (ad rs) e 5,.var w.l,.var [ab ks],.var [dd d5],.var [dd bO],.P2,hdL lp]++more
abbrev hdU(i:Int):bY:=oz 48 0 [WF,zat,(14,dd i),(15,fE (ql 14 0))]
theorem hd_asg:(CW S5 fI (hdH w ks d5 bO 1 ls rs E6 (acM a b c d5 P4 v)) J (ax (sub UQ 1)) {t:=dD hdT [(32,dd i),(33,kb (acX a b c d5 P4 v))],h:=hdH w ks d5 bO 1 ls rs E6 (acM a b c d5 P4 v),m:=[]} w8 {t:=hdU i,h:=hdH w ks d5 bO 1 ls rs E6 (zdh a b c d5 P4 v),m:=[]}):=yx [CE (EZ [10,11,14,15])] []
def hlF(v i:Int)(ls:bv):bv:=bif v==1 then ls++[[vi i]] else ls
theorem uM(ks:bv)(a b c d e:Int):ad ks++[[dd a,dd b,dd c,dd d,dd e]]=ad (ks++[[vi a,vi b,vi c,vi d,vi e]]):=u4 ks [vi a,vi b,vi c,vi d,vi e]
theorem LX(ks:bv)(a:Int):ad ks++[[dd a]]=ad (ks++[[vi a]]):=u4 ks [vi a]
abbrev zgf:Array Tmp:={toList:=[32,33]}
abbrev zgj(a:iS)(b c:Nat):Do:=[CE (EZ a),CE (.ren 4 b),CE (.ren 5 b),CE (zgF c)]
abbrev zhY:bY:=(oz 48 0 [WF,zat,(31,UL (TM 169) [] zbh)])
theorem OB(hl:ls.length<=100)(hr:rs.length<=100):(CW S5 fI (hdH w ks d5 bO 1 ls rs E6 (acM a b c d5 P4 v)) J (ak (sub UQ 1)) {t:=hdU i,h:=hdH w ks d5 bO 1 ls rs ω (zdh a b c d5 P4 v),m:=[]} w8 {t:=oz 48 0 [],h:=hdH w ks d5 bO 2 (hlF v i ls) (rs++[[vi a,vi b,vi c,vi d5,vi P4]]) ω (zdh a b c d5 P4 v),m:=[]}):=by
 cases sQ:v==1;·let v0:bY:=[dd a,dd b,dd c,dd d5,dd P4];let v1:bY:=(ZA w);refine yX {t:=oz 48 0 [],h:=[eF v1,eF (zbn 4 2),eF (zbn 5 2),xy,.eQ (ad ls) 2 1,.eQ (ad rs++[v0]) 2 5,eF v1,eF [ab ks],eF [dd d5],eF [dd bO],J1,Fa TX Y 0 zhY zgf (ax (sub UQ 1)) (ak (sub UQ 1)),eF (Z8 a b c),eF (zew a b c d5 P4 v),eF (zew a b c d5 P4 v)],m:=[]} Tr (zgj [] 2 15) [(?_:(Tq [v0] (aL 5)&&uO (S7 (ad rs)+S7 [v0]) 40)=J),.b sQ,(?_:S2 (Tz (ar 4 1 2)) (ad ls)=ad ls),(?_:S2 (Tz (ar 4 1 2)) (ad rs++[v0])=ad rs++[v0]),pr [v0],(?_:S2 (Tz (ar 5 2 2)) (ad rs++[v0])=ad rs++[v0]),(?_:S2 (Tz (ar 5 2 2)) (ad ls)=ad ls),pr [v0],(?_:Tq (ad ls) (TL 15)=J),(?_:Tq (ad rs++[v0]) (TL 15)=J)] (by subst v0 v1;grind) (by subst v0 v1;(have hh:(v==1)=N:=sQ;simp only[hlF,hh,cond_false,hdH,ad,Uh,U5,Yi];first|done|rfl))<;>subst v0 v1<;>(first|exact aB _ _|exact aD _ _|(rw[uM];exact aB _ _)|(rw[uM];exact aD _ _)|(simp[aL,Zk,Up,uO];omega))
 ·let v0:bY:=[dd a,dd b,dd c,dd d5,dd P4];let v1:bY:=(ZA w);refine yX (zkk 48 [eF v1,eF (zbn 4 2),eF (zbn 5 2),xy,.eQ (ad ls++[[dd i]]) 2 1,.eQ (ad rs++[v0]) 2 5,eF v1,eF [ab ks],eF [dd d5],eF [dd bO],J1,Fa TX Y 0 zhY zgf (ax (sub UQ 1)) (ak (sub UQ 1)),eF (Z8 a b c),eF (zew a b c d5 P4 v),eF (zew a b c d5 P4 v)]) Tr (zgj [] 2 15) [(?_:(Tq [v0] (aL 5)&&uO (S7 (ad rs)+S7 [v0]) 40)=J),.b sQ,((by subst v0 v1;grind [aL,Zk,Up,uO]):(Tq [[dd i]] (aL 1)&&uO (S7 (ad ls)+S7 [[dd i]]) 8)=J),(?_:S2 (Tz (ar 4 2 2)) (ad ls++[[dd i]])=ad ls++[[dd i]]),(?_:S2 (Tz (ar 4 2 2)) (ad rs++[v0])=ad rs++[v0]),pr [v0],pr [[dd i]],(?_:S2 (Tz (ar 5 2 2)) (ad rs++[v0])=ad rs++[v0]),(?_:S2 (Tz (ar 5 2 2)) (ad ls++[[dd i]])=ad ls++[[dd i]]),pr [v0],pr [[dd i]],(?_:Tq (ad ls++[[dd i]]) (TL 15)=J),(?_:Tq (ad rs++[v0]) (TL 15)=J)] (by subst v0 v1;grind) (by subst v0 v1;(have hh:(v==1)=J:=sQ;simp only[hlF,hh,cond_true,hdH,ad,Uh,U5,Yi];first|done|rfl))<;>subst v0 v1<;>(first|(rw[uM];exact aB _ _)|(rw[uM];exact aD _ _)|(rw[LX];exact aB _ _)|(rw[LX];exact aD _ _)|(simp[aL,Zk,Up,uO];omega))
theorem OC{w:eO}{ks ls rs:bv}{d5 bO i a b c P4 v:Int}(hl:ls.length<=100)(hr:rs.length<=100):Iv S5 fI (fE (.yl 11)) [dd i,kb (acX a b c d5 P4 v)] (hdH w ks d5 bO 1 ls rs E6 (acM a b c d5 P4 v)) (eP J) (hdH w ks d5 bO 2 (hlF v i ls) (rs++[[vi a,vi b,vi c,vi d5,vi P4]]) E6 (zdh a b c d5 P4 v)) :=Iv.round (h1:=hdH w ks d5 bO 1 ls rs E6 (zdh a b c d5 P4 v)) rfl rfl hd_asg rfl (OB hl hr) rfl
abbrev zgT:Nat×D:=(0,fE (.yl 11))
abbrev bqT(ks:bv)(n:Int)(k:Int)(ps:bv)(i:Int):bY:=oz 47 0 [zgT,(zb9 7),(zda 8),zds,(zfx 9),(6,dd k),(zfb 12),(zeE 13),(11,ab ks),(12,dd n),(13,dd k),(31,ab ps),(32,dd ps.length),(33,dd i)]
abbrev bqE(ks:bv)(n:Int)(k:Int):bY:=oz 47 0 [zgT,(zb9 7),(zda 8),zds,(zfx 9),(6,dd k),(zfb 12),(zeE 13),(11,ab ks),(12,dd n),(13,dd k)]
theorem OD{ks ls rs:List (List Dp)}{ps:List (List Dp)}{p:Ξ}{i:Nat}(hr:ao (i:Int) ps p.row 2)(lL:eY ((i:Int)<(ps.length:Int))=true)(hw:S6.wrap ((i:Int)+1)=((i+1:Nat):Int)):(CW S5 fI (hdH w ks d5 bO 0 l0 r0 .ready []) false (sub U2 1) {t:=bqT ks n k ps i,h:=hdH w ks d5 bO 1 ls rs .ready (acM a b c d5 P4 v),m:=[]} .normal {t:=bqT ks n k ps ((i+1:Nat):Int),h:=hdH w ks d5 bO 1 ls rs .ready (acM a b c d5 P4 p.value),m:=[]}):=by
 let v0:List D:=[ab (S2 Tc w.c),ab w.p,ab (S2 Tj w.s),ab (S2 Ta w.f)]
 refine yX {t:=oz 47 0 [(0,.ref (.yl 11)),(1,.ref (.ptr 7 0)),(2,.ref (.ptr 8 0)),(3,.ref (.ptr 6 0)),(4,.ref (.ptr 9 0)),(6,dd k),(7,.ref (.ptr 12 0)),(8,.ref (.ptr 13 0)),(11,ab ks),(12,dd n),(13,dd k),(31,ab ps),(32,dd (↑(S7 ps):Int)),(33,dd (S8 S6 ((↑i:Int)+1)))],h:=[.var v0,.var [.ref (.eQ 4 1)],.var [.ref (.eQ 5 1)],.EU,.eQ (ad ls) 1 1,.eQ (ad rs) 1 5,.var v0,.var [ab ks],.var [dd d5],.var [dd bO],.P2,.loop TJ none 0 (oz 48 0 [(10,.ref (.ptr 1 0)),(11,.ref (.ptr 2 0)),(31,UL (TM 169) [] [.ref (.ptr 7 0),.ref (.ptr 8 0),.ref (.ptr 6 0),.ref (.ptr 9 0)])]) {toList:=[32,33]} (ax (sub UQ 1)) (ak (sub UQ 1)),.var [dd a,dd b,dd c],.var [dd a,dd b,dd c,dd d5,dd P4,dd p.value]],m:=[]} Tr [.st (.mask [0,1,2,3,4,6,7,8,11,12,13,31,32,33]),.st (.trim 14)] [.b lL,.r hr,(?_:Tq (ad ls) (TL 14)=true),(?_:Tq (ad rs) (TL 14)=true)] (by subst v0;grind) (by subst v0;(rw[hw];rfl))<;>subst v0<;>(exact aD _ _)
theorem OE{l0 r0:bv}{ps:bv}{i:Nat}(lL:eY ((i:Int)<(ps.length:Int))=N):(CW S5 fI (hdH w ks d5 bO 0 l0 r0 E6 []) N (sub U2 1) {t:=bqT ks n k ps i,h:=hdH w ks d5 bO 1 ls rs E6 (acM a b c d5 P4 v),m:=[]} (E8 2) {t:=bqE ks n k,h:=hdH w ks d5 bO 1 ls rs E6 (acM a b c d5 P4 v),m:=[]}):=yx [CE (EZ [0,1,2,3,4,6,7,8,11,12,13])] [.b lL]
theorem bq_cw{w:eO}{ks ls rs l0 r0:bv}{n k a b c d5 bO P4 v:Int}{ps:List Ξ}(hl:ah ps):CW S5 fI (hdH w ks d5 bO 0 l0 r0 .ready []) false (.loop (sub U2 1)) {t:=bqT ks n k (ps.map V2) 0,h:=hdH w ks d5 bO 1 ls rs .ready (acM a b c d5 P4 v),m:=[]} (.exit 2) {t:=bqE ks n k,h:=hdH w ks d5 bO 1 ls rs .ready (acM a b c d5 P4 (fF ps v)),m:=[]}:=by
 have:=UR (P:=S5) (Γ:=fI) (h0:=hdH w ks d5 bO 0 l0 r0 .ready []) (rd:=false) (c:=sub U2 1) (σ:=Int) (ρ:=Empty) ps (λp _=>.inl p.value)
  (λi v=>{t:=bqT ks n k (ps.map V2) (i:Int),h:=hdH w ks d5 bO 1 ls rs .ready (acM a b c d5 P4 v),m:=[]}) (.exit 2) (λv=>{t:=bqE ks n k,h:=hdH w ks d5 bO 1 ls rs .ready (acM a b c d5 P4 v),m:=[]}) (λr=>r.elim)
  (λ_ _=>True) (by simp) (λr=>r.elim) ?_ ?_ v trivial
 ·rw[aM (λ_ p=>Ξ.value p)] at this;exact this
 ·intro i p s hp _;have hi:=(Td.1 hp).1;exact⟨λ_ _=>trivial,OD (rowAt hp rfl) (EV _ hi) (sR hi hl)⟩
 ·intro s _;exact OE (aR _ ps)
abbrev hdO(ks:bv)(n i:Int):bY:=oz 47 0 [zgT,(zb9 7),(zda 8),zds,(zfx 9),(11,ab ks),(12,dd n),(13,dd i)]
attribute [local irreducible] fF aH hlF
abbrev rdW(kd st:Int)(i:Nat)(d5:Int):dO:=[vi kd,vi st,vi (i:Int),vi d5,vi (S6.wrap (d5+1))]
noncomputable abbrev zr(w:eO)(ks:bv)(ls:bv)(rs:bv)(kd:Int)(st:Int)(d5:Int)(bO:Int)(i:Nat):aT:=[eF (ZA w),eF zcr,eF zel,xy,.eQ (ad ls) 1 1,.eQ (ad rs) 1 5,eF (ZA w),eF [ab ks],eF [dd d5],eF [dd bO],J1,Fa TJ Y 0 zhY zgf (ax (sub UQ 1)) (ak (sub UQ 1)),eF [dd kd,dd st,(zaS i)],eF [dd kd,dd st,(zaS i),dd d5,(za1 d5),dd 0]]
theorem Jk(hf:ah w.f){ks ls rs:List (List Dp)}{kd:Int}{i:Nat}(hr:ao (i:Int) ks [vi kd,vi st,vi (i:Int)] 3)(lL:eY ((i:Int)<n)=true)(hw:S6.wrap ((i:Int)+1)=((i+1:Nat):Int))(hl:ah (aH kd st i d5 (S6.wrap (d5+1)) bO w.f))(hll:ls.length<=100)(hrr:rs.length<=100):(CW S5 fI (hdH w ks d5 bO 0 l0 r0 .ready []) false (sub U2 0) {t:=hdO ks n i,h:=hdH w ks d5 bO 1 ls rs .ready [],m:=[]} .normal {t:=hdO ks n ((i+1:Nat):Int),h:=hdH w ks d5 bO 1 (hlF (ptV kd st i d5 bO w.f) i ls) (rs++[rdW kd st i d5]) .ready [],m:=[]}):=by
 have xd:=(@bq_cw (w) (ks) (ls) (rs) (l0) (r0) (n) ((↑i:Int)) (kd) (st) ((↑i:Int)) (d5) (bO) (S8 S6 (d5+1)) (0) (aH kd st (↑i:Int) d5 (S8 S6 (d5+1)) bO w.f) (hl))
 let v0:List D:=[ab (S2 Tc w.c),ab w.p,ab (S2 Tj w.s),ab (S2 Ta w.f)]
 refine yX {t:=oz 47 0 [(0,.ref (.yl 11)),(1,.ref (.ptr 7 0)),(2,.ref (.ptr 8 0)),(3,.ref (.ptr 6 0)),(4,.ref (.ptr 9 0)),(11,ab ks),(12,dd n),(13,dd (S8 S6 ((↑i:Int)+1)))],h:=[.var v0,.var [.ref (.eQ 4 1)],.var [.ref (.eQ 5 1)],.EU,.eQ (ad (hlF (fF (aH kd st (↑i:Int) d5 (S8 S6 (d5+1)) bO w.f) 0) (↑i:Int) ls)) 1 1,.eQ (ad (rs++[[vi kd,vi st,vi (↑i:Int),vi d5,vi (S8 S6 (d5+1))]])) 1 5,.var v0,.var [ab ks],.var [dd d5],.var [dd bO],.P2,.loop TJ none 0 (oz 48 0 [(10,.ref (.ptr 1 0)),(11,.ref (.ptr 2 0)),(31,UL (TM 169) [] [.ref (.ptr 7 0),.ref (.ptr 8 0),.ref (.ptr 6 0),.ref (.ptr 9 0)])]) {toList:=[32,33]} (ax (sub UQ 1)) (ak (sub UQ 1))],m:=[]} Tr [.st (.mask [0,1,2,3,4,11,12,13]),.st (.ren 4 1),.st (.ren 5 1),.st (.trim 12)] [.b lL,.r hr,.v (@iM kd st (↑i:Int) d5 (S8 S6 (d5+1)) bO (w.f) hf (zr w ks ls rs kd st d5 bO i)),.s [0,1,2,3,4,6,7,8,11,12,13,31,32,33] xd,.j (@OC w ks ls rs d5 bO (↑i:Int) kd st (↑i:Int) (S8 S6 (d5+1)) (fF (aH kd st (↑i:Int) d5 (S8 S6 (d5+1)) bO w.f) 0) hll hrr),.b (rfl:(!true)=false),(?_:S2 (Tz (ar 4 2 1)) (ad (hlF (fF (aH kd st (↑i:Int) d5 (S8 S6 (d5+1)) bO w.f) 0) (↑i:Int) ls))=ad (hlF (fF (aH kd st (↑i:Int) d5 (S8 S6 (d5+1)) bO w.f) 0) (↑i:Int) ls)),(?_:S2 (Tz (ar 4 2 1)) (ad (rs++[[vi kd,vi st,vi (↑i:Int),vi d5,vi (S8 S6 (d5+1))]]))=ad (rs++[[vi kd,vi st,vi (↑i:Int),vi d5,vi (S8 S6 (d5+1))]])),(?_:S2 (Tz (ar 5 2 1)) (ad (rs++[[vi kd,vi st,vi (↑i:Int),vi d5,vi (S8 S6 (d5+1))]]))=ad (rs++[[vi kd,vi st,vi (↑i:Int),vi d5,vi (S8 S6 (d5+1))]])),(?_:S2 (Tz (ar 5 2 1)) (ad (hlF (fF (aH kd st (↑i:Int) d5 (S8 S6 (d5+1)) bO w.f) 0) (↑i:Int) ls))=ad (hlF (fF (aH kd st (↑i:Int) d5 (S8 S6 (d5+1)) bO w.f) 0) (↑i:Int) ls)),(?_:Tq (ad (hlF (fF (aH kd st (↑i:Int) d5 (S8 S6 (d5+1)) bO w.f) 0) (↑i:Int) ls)) (TL 12)=true),(?_:Tq (ad (rs++[[vi kd,vi st,vi (↑i:Int),vi d5,vi (S8 S6 (d5+1))]])) (TL 12)=true)] (by subst v0;grind) (by subst v0;(rw[hw];rfl))<;>subst v0<;>(first|exact aD _ _|exact aB _ _)
theorem OG{l0 r0:bv}(lL:eY (i<n)=N):(CW S5 fI (hdH w ks d5 bO 0 l0 r0 E6 []) N (sub U2 0) {t:=hdO ks n i,h:=hdH w ks d5 bO 1 ls rs E6 [],m:=[]} (E8 0) {t:=oz 47 0 [],h:=hdH w ks d5 bO 1 ls rs E6 [],m:=[]}):=yx zbN [.b lL]
def hlR(kd st d5 bO:Int)(fs:AT)(n:Nat):bv:=(T1 n).foldl (λls k=>hlF (ptV kd st (k:Nat) d5 bO fs) (k:Nat) ls) []
def hrR(kd st d5:Int)(n:Nat):bv:=(T1 n).map λk=>rdW kd st k d5
theorem OH(v i:Int)(ls:bv):(hlF v i ls).length<=ls.length+1:=by unfold hlF;grind
theorem FD{kd st d5 bO:Int}{fs:AT}:∀n:Nat,(hlR kd st d5 bO fs n).length<=n
 |0=>by simp[hlR]
 |n+1=>by have h:=FD (kd:=kd) (st:=st) (d5:=d5) (bO:=bO) (fs:=fs) n;unfold hlR at h ⊢;rw[Xe,Ym];simp only[TG,List.foldl_nil];exact Nat.le_trans (OH _ _ _) ji
noncomputable abbrev ze1(a:bv)(b:eO)(c d:Int):AS:={t:=hdO a a.length 0,h:=hdH b a c d 1 [] [] E6 [],m:=[]}
theorem hd_cw(hf:ah w.f){kd:Int}{ks:List (List Dp)}(hk:ks=hkR kd st 8)(hl:∀i:Nat,ah (aH kd st i d5 (S6.wrap (d5+1)) bO w.f)):CW S5 fI (hdH w ks d5 bO 0 [] [] .ready []) false (.loop (sub U2 0)) {t:=hdO ks ks.length 0,h:=hdH w ks d5 bO 1 [] [] .ready [],m:=[]} (.exit 0) {t:=oz 47 0 [],h:=hdH w ks d5 bO 1 (hlR kd st d5 bO w.f 8) (hrR kd st d5 8) .ready [],m:=[]}:=by
 have h8:ks.length=8:=by rw[hk,FB]
 rw[h8]
 refine CW.zmg 8 (λi=>{t:=hdO ks (8:Nat) (i:Int),h:=hdH w ks d5 bO 1 (hlR kd st d5 bO w.f i) (hrR kd st d5 i) .ready [],m:=[]}) (by simp) (λi hi=>?_) (OG (by simp))
 have e1:hlR kd st d5 bO w.f (i+1)=hlF (ptV kd st i d5 bO w.f) i (hlR kd st d5 bO w.f i):=by unfold hlR;rw[Xe,Ym];rfl
 have e2:hrR kd st d5 (i+1)=hrR kd st d5 i++[rdW kd st i d5]:=by simp[hrR,Xe]
 rw[e1,e2]
 have h1:=FD (kd:=kd) (st:=st) (d5:=d5) (bO:=bO) (fs:=w.f) i
 refine Jk hf ?_ (decide_eq_true (by omega)) (by rw[wrap_i64 (by omega) (by omega)];omega) (hl i) (by omega) (by simp[hrR];omega)
 have:(T1 8)[i]? = some i:=by simp[hi]
 rw[hk]
 exact rowAt (row:=λk:Nat=>[vi kd,vi st,vi (k:Int)]) this rfl
theorem FE(hc:CW S5 fI (hdH w ks d5 bO 0 [] [] .ready []) false (.loop (sub U2 0)) (ze1 ks w d5 bO) (.exit 0) (zkk 47 (hdH w ks d5 bO 1 L R .ready []))):(Ev S5 fI 169 [.ref (.yl 11),.ref (.ptr 7 0),.ref (.ptr 8 0),.ref (.ptr 6 0),.ref (.ptr 9 0)] (hdH w ks d5 bO 0 [] [] .ready []) (.JY []) (hdH w ks d5 bO 1 L R .ready [])):=by have xd:=(@hc);let v0:bY:=(ZA w);exact Tw (yF (h':=[.var v0,.var zcr,.var zel,.EU,.eQ (ad L) 1 1,.eQ (ad R) 1 5,.var v0,.var [ab ks],.var [dd d5],.var [dd bO],.P2,.loop TJ none 0 zhY zgf (ax (sub UQ 1)) (ak (sub UQ 1))]) (d:=D.JY []) [(rfl:zdP=[]),(rfl:zdP=[]),(rfl:zdP=[]),(rfl:zdP=[]),.o (.ren 4 1),.o (.ren 5 1),.s [0,1,2,3,4,11,12,13] xd]) (by rfl) (by rfl)
theorem Jl{w:eO}{d5 bO:Int}{ks L R:bv}(hc:CW S5 fI (hdH w ks d5 bO 0 [] [] .ready []) false (.loop (sub U2 0)) (ze1 ks w d5 bO) (.exit 0) (zkk 47 (hdH w ks d5 bO 1 L R .ready []))):CW S5 fI [] false (sub UQ 1) {t:=hdT,h:=hdH0 w ks d5 bO 0 [] [],m:=[]} .normal
  {t:=hdT,h:=hdH w ks d5 bO 1 L R .exhausted [],m:=[10]}:=by
 exact CW.rangeFunc (f:=169) (fi:=[]) (ca:=zbh) ZK (s:={t:=hdT,h:=hdH0 w ks d5 bO 0 [] [],m:=[]}) (g:=.tmp 31) (ps:=#[32,33]) (asg:=ax (sub UQ 1)) (body:=ak (sub UQ 1)) rfl (by kernel_rfl) (FE hc) rfl
theorem of86_a{kd:Int}(hk:CW S5 fI [] false (.loop (sub UQ 0)) (hkS w kd st d5 bO [] 0) (.exit 0) (hkE w kd st d5 bO ks))(hc:CW S5 fI (hdH w ks d5 bO 0 [] [] .ready []) false (.loop (sub U2 0)) (ze1 ks w d5 bO) (.exit 0) (zkk 47 (hdH w ks d5 bO 1 L R .ready [])))(h:aT):(Ev S5 fI 86 (zdQ w kd st d5 (dd bO)) h (.JY [ab L,ab R]) h):=by have xd:=(@hk);have hl1:=(@Jl (w) (d5) (bO) (ks) (L) (R) (hc));refine y0 [.n 3,.o (.zor 12 3),.s [1,2,3,4,5,10,11,12,16] xd,(?_:ad ks=S2 (λx=>S2 Us x) ks),.o (.frz 3 ks),.o (.zfG 1 0 1),.o (.zfG 2 0 5),.a1 .inl,.s [10,11,31] hl1,(?_:ad L=S2 (λx=>S2 Us x) L),(?_:S2 (Tz (cw 4 1 L)) (ad R)=ad R),(?_:ad R=S2 (λx=>S2 Us x) R),po (some (ab L)),po (some (ab R)),po (some (ab R)),.o (.frz 4 L),.o (.frz 5 R)] h<;>(first|rfl|exact aB _ _)
end Go.Vi
open Go Go.Proofs
namespace Go.Vi
set_option maxRecDepth 100000
set_option maxHeartbeats 4000000
variable {L nm nw rs:bv}{b1 b2 ok pet:Bool}{c:uU}{e bO last n num ob st d5:Int}{h0:aT}{i:Nat}{q1 q2 q3 q4:iF}{s:P3}{s':AS}{w:eO}
theorem xw{kk ks ko jW to:Int}{l:AT}:ah (aH kk ks ko jW to bO l):=by have:=dq (kk:=kk) (ks:=ks) (ko:=ko) (jW:=jW) (to:=to) (bO:=bO) (l:=l);unfold ah;omega
theorem OI{w:eO}(hf:ah w.f){kd st d5 bO:Int}(h:aT):Ev S5 fI 86 (zdQ w kd st d5 (dd bO)) h (tf [ab (hlR kd st d5 bO w.f 8),ab (hrR kd st d5 8)]) h :=of86_a hk_cw (hd_cw hf rfl λ_=>xw) h
noncomputable abbrev CN(w:eO):aT:=[eF (ZA w)]
theorem OJ(hf:ah w.f)(h:aT):(Ev S5 fI 31 (zbE w st d5 bO) h (tf [ab (hlR 6 st d5 bO w.f 8),ab (hrR 6 st d5 8)]) h):=y0 [.v (@OI w hf 6 st d5 bO (CN w))] h
def CO(sc st ob d5 bO:Int)(fs:AT):Int:=mx0 (ptV sc st ob d5 bO fs)
abbrev actQ(sc st ob d5:Int):bv:=[[vi sc,vi st,vi ob,vi d5,vi (S6.wrap (d5+1))]]
theorem FF(hf:ah w.f){sc:Int}(h:aT):Ev S5 fI 34 (zb5 w sc st ob d5 (dd bO)) h (tf [dd (CO sc st ob d5 bO w.f),eP (eY (CO sc st ob d5 bO w.f>0)),ab (actQ sc st ob d5)]) h :=Jj hf xw h
abbrev akS(st ob d5:Int)(nw:bv)(last i:Int):AS:={t:=oz 49 0 [(0,dd st),(1,dd ob),(2,dd d5),(9,dd last),(12,ab nw),(13,dd nw.length),(14,dd i)],h:=[],m:=[]}
abbrev akE(st ob d5:Int):AS:={t:=oz 49 0 [(0,dd st),(1,dd ob),(2,dd d5)],h:=[],m:=[]}
abbrev akX:Unit->Exit×AS:=λ_=>(.ret,{t:=oz 49 0 [(8,eP N)],h:=[],m:=[]})
def akF(c:Int)(last:Int):Int⊕Unit:=bif eY (c<=last)||eY (c>=4096) then .inr () else .inl c
theorem OK{c:Int}{nw:List (List Dp)}(hr:ao (i:Int) nw [vi c] 1)(lL:eY ((i:Int)<(nw.length:Int))=true)(hw:S6.wrap ((i:Int)+1)=((i+1:Nat):Int)):(CW S5 fI [] false (sub Tryz.f28 0) (akS st ob d5 nw last i) (ai (λl=>akS st ob d5 nw l ((i+1:Nat):Int)) akX (akF c last)).1 (ai (λl=>akS st ob d5 nw l ((i+1:Nat):Int)) akX (akF c last)).2):=by
 cases sQ:eY (c<=last)||eY (c>=4096)
 ·exact yX {t:=oz 49 0 [(0,dd st),(1,dd ob),(2,dd d5),(9,dd c),(12,ab nw),(13,dd (↑(S7 nw):Int)),(14,dd (S8 S6 ((↑i:Int)+1)))],h:=[],m:=[]} Tr [.st (.mask [0,1,2,9,12,13,14])] [.b lL,.r hr,.b sQ] (by simp[akF,sQ,ai];done) (by simp[akF,sQ,ai,hw];done)
 ·refine yX {t:=oz 49 0 [(8,eP false)],h:=[],m:=[]} Exit.ret [.st (.mask [8])] [.b lL,.r hr,.b sQ] ?_ ?_<;>(simp[akF,sQ,ai];done)
theorem OL(lL:eY ((i:Int)<(nw.length:Int))=N):(CW S5 fI [] N (sub Tryz.f28 0) (akS st ob d5 nw last i) (E8 0) (akE st ob d5)):=yx [CE (EZ [0,1,2])] [.b lL]
def OM(st ob d5:Int)(nw:bV):Exit×AS:=bf (E8 0) (λ_:Int=>akE st ob d5) akX (zj akF nw (-1))
theorem ak_cw{st ob d5:Int}{nw:bV}(hl:ah nw):CW S5 fI [] false (.loop (sub Tryz.f28 0)) (akS st ob d5 (zaQ nw) (-1) 0) (OM st ob d5 nw).1 (OM st ob d5 nw).2:=by
 refine UR nw akF (λi l=>akS st ob d5 (zaQ nw) l (i:Int)) (.exit 0) (λ_=>akE st ob d5) akX (λ_ _=>True) (by simp) (λ_=>by simp[akX]) ?_ ?_ (-1) trivial;·intro i c l hc _;have hi:=(Td.1 hc).1;exact⟨λ_ _=>trivial,OK (rowAt (row:=λn:Int=>[vi n]) hc rfl) (EV (λn:Int=>[vi n]) hi) (sR hi hl)⟩
 ·intro l _;exact OL (aR (λn:Int=>[vi n]) nw)
def qx(st ob d5:Int)(nw:bV):Bool:=match zj akF nw (-1) with
 |.inl _=>eY (st>=0)&&eY (st<20000)&&eY (ob>=0)&&eY (ob<4096)&&eY (d5>=0)&&eY (d5<1024)
 |.inr _=>N
theorem Jm{nw:bV}(hl:ah nw)(h:aT):(Ev S5 fI 28 [dd st,dd ob,dd d5,ab (zaQ nw)] h (eP (qx st ob d5 nw)) h):=by
 have xd:=(@ak_cw (st) (ob) (d5) (nw) (hl));unfold OM at xd;revert xd;cases Χ:zj akF nw (-1) with
 |inl EW=>intro xd;exact yD (eP (eY (st>=0)&&eY (st<20000)&&eY (ob>=0)&&eY (ob<4096)&&eY (d5>=0)&&eY (d5<1024))) [.s [0,1,2,9,12,13,14] xd] h (by simp[qx,Χ];done)
 |inr ζ=>intro xd;exact yD (eP N) [.s [0,1,2,9,12,13,14] xd] h (by simp[qx,Χ];done)
def Bg(ok:Bool)(n:Int):bV:=bif ok then [n] else []
theorem OO(h:aT):(Ev S5 fI 36 [eP N,dd n] h (ab []) h):=Tw (Ev.zhC (y0 (d:=nq) [.e] h)) EX EX
theorem OP:(Ev S5 fI 36 [eP J,dd n] [] (ab [[vi n]]) []):=Tw (Ev.post (d2:=ab [[vi n]]) (h2:=[]) (φ:=[[[dd n]]=[[dd n]]]) [CE (τ 0 [[vi n]]),CE (zgF 0)] (yF (h':=[.eQ [[dd n]] 0 1]) (d:=fE (.eQ 0 0)) [.e]) Z ⟨rfl,trivial⟩) EX EX
theorem Jn(h:aT):Ev S5 fI 36 [eP ok,dd n] h (ab ((Bg ok n).map λn=>[vi n])) h:=by
 cases ok;·exact OO h
 ·exact Ev.zhU rfl OP h
abbrev amZ:bY:=ZR
abbrev amH(w:eO)(st ob d5 bO:Int)(nw:bv)(dc:bY)(e:Int)(rd:D):aT :=[eF w.l,eF [dd st],eF [dd ob],eF [dd d5],eF [dd bO],eF [ab nw],eF dc,eF [dd e],eF [rd]]
abbrev amA(w:eO)(st ob d5 bO:Int)(nw:bv):aT:=amH w st ob d5 bO nw amZ 0 nq
abbrev zbI(a:Nat)(b:D):bY:=oz 116 0 [(zhA 6 0),(7,fE (ql 1 0)),(8,fE (ql 2 0)),(zhA 9 3),(zjk 4),(11,fE (ql 5 0)),(zhA 12 6),(zhA 13 7),(a,b)]
abbrev amS(w:eO)(st ob d5 bO:Int)(nw:bv):AS:={t:=(zbI 15 (.fn (.func 29) [] (zjG 8))),h:=amA w st ob d5 bO nw,m:=[]}
abbrev zfc:Nat×D:=(zhA 12 6)
abbrev zfd:Nat×D:=(zhA 13 7)
abbrev amO:bY:=oz 116 0 [zfc,zfd]
abbrev amD(ans:Int)(nm:bv):bY:=[dd 0,dd 0,dd 0,dd 0,dd ans,dd 0,dd 0,nq,nq,ab nm]
abbrev ZJ(a:uU):bY:=[am a.name,dd a.number,dd a.go,dd a.rep,dd (Te a.J3).op,dd (Te a.J3).c,am (Te a.J3).nm,dd (Te a.J3).n,dd (Te a.J3).d,ab (Te a.J3).ks,dd (Te a.Ω).op,dd (Te a.Ω).c,am (Te a.Ω).nm,dd (Te a.Ω).n,dd (Te a.Ω).d,ab (Te a.Ω).ks]
abbrev zhF(a:eO)(b d e f:Int)(g:bv)(h i:iF)(j:uU):aT:=[eF (ZA a),eF [dd b],eF [dd d],eF [dd e],eF [dd f],eF [ab g],eF ZR,eF [dd 0],eF (zbn 9 2),.eQ ((ZW h)++(ZW i)) 2 5,eF (ZJ j)]
noncomputable abbrev am1_x0(w:eO)(st:Int)(ob:Int)(d5:Int)(bO:Int)(nw:bv)(q1:iF)(q2:iF)(c:uU):aT:=(zhF w st ob d5 bO nw q1 q2 c)
abbrev zhr(a:eO)(b c d e:Int)(f:bv)(g:bY)(h:List (bY))(i:Nat):aT:=[eF (ZA a),eF [dd b],eF [dd c],eF [dd d],eF [dd e],eF [ab f],eF ZR,eF [dd 0],eF g,.eQ h i 5]
noncomputable abbrev am1_x1(w:eO)(st:Int)(ob:Int)(d5:Int)(bO:Int)(nw:bv)(q1:iF):aT:=(zhr w st ob d5 bO nw (zbn 9 1) (ZW q1) 1)
noncomputable abbrev am1_x2(w:eO)(st:Int)(ob:Int)(d5:Int)(bO:Int)(nw:bv):aT:=(zhr w st ob d5 bO nw za5 [] 0)
abbrev zeZ(a:bv):Do:=[CE (EZ [12,13]),CE (τ 9 (a)),CE (zgF 9)]
theorem am1(hl:q1.length+q2.length+q3.length<=1000000000000)(he:(e != 0)=J)(hh:∀h,Ev S5 fI 31 (zbE w st d5 bO) h (zjh L q1) h)(hc:∀h,Ev S5 jV 32 (zbE w ob d5 bO) h (tf [ag c.row,ab (qm q2),eP ok]) h)(hs:∀h,Ev S5 jV 33 (zdQ w st d5 bO (ab nw)) h (tf [kb s.l,ab (qm q3),dd e]) h):(CW S5 jV (amA w st ob d5 bO nw) N (be (al UI) 6) (amS w st ob d5 bO nw) .ret {t:=amO,h:=amH w st ob d5 bO nw amZ e (ab (qm (q1++q2))),m:=[]}):=by refine yx (zeZ (qm (q1++q2))) [.o (.zfG 8 0 5),.v (Tp (Γ':=jV) (@hh (am1_x2 w st ob d5 bO nw))),(?_:(Tq (ZW q1) (aL 5)&&uO (S7 zdP+S7 (ZW q1)) 40)=J),.a1 Α,.v (@hc (am1_x1 w st ob d5 bO nw q1)),(?_:(Tq (ZW q2) (aL 5)&&uO (S7 (ZW q1)+S7 (ZW q2)) 40)=J),.a1 Α,.v (@hs (am1_x0 w st ob d5 bO nw q1 q2 c)),.b he,pe (D.agg ZR),po (NJ e),po (NJ e),(lj:S2 (λx=>S2 Us x) (qm q1)++S2 (λx=>S2 Us x) (qm q2)=S2 (λx=>S2 Us x) (qm (q1++q2)))]<;>(simp[aL,Zk,Up,uO,Xd];omega)
noncomputable abbrev am2_x0(w:eO)(st:Int)(ob:Int)(d5:Int)(bO:Int)(nw:bv)(q1:iF)(q2:iF)(q3:iF)(c:uU)(s:P3):aT:=[eF (ZA w),eF [dd st],eF [dd ob],eF [dd d5],eF [dd bO],eF [ab nw],eF ZR,eF [dd 0],eF (zbn 9 3),.eQ ((ZW q1)++(ZW q2)++(ZW q3)) 3 5,eF (ZJ c),eF (zah s)]
noncomputable abbrev am2_x1(w:eO)(st:Int)(ob:Int)(d5:Int)(bO:Int)(nw:bv)(q1:iF)(q2:iF)(c:uU):aT:=(zhF w st ob d5 bO nw q1 q2 c)
noncomputable abbrev am2_x2(w:eO)(st:Int)(ob:Int)(d5:Int)(bO:Int)(nw:bv)(q1:iF):aT:=(zhr w st ob d5 bO nw (zbn 9 1) (ZW q1) 1)
noncomputable abbrev am2_x3(w:eO)(st:Int)(ob:Int)(d5:Int)(bO:Int)(nw:bv):aT:=(zhr w st ob d5 bO nw za5 [] 0)
theorem am2(hl:q1.length+q2.length+q3.length+q4.length<=1000000000000)(hh:∀h,Ev S5 fI 31 (zbE w st d5 bO) h (zjh L q1) h)(hc:∀h,Ev S5 jV 32 (zbE w ob d5 bO) h (tf [ag c.row,ab (qm q2),eP ok]) h)(hs:∀h,Ev S5 jV 33 (zdQ w st d5 bO (ab nw)) h (tf [kb s.l,ab (qm q3),dd 0]) h)(ha:∀h,Ev S5 fI 34 (zb5 w 7 st ob d5 (dd bO)) h (tf [dd num,eP pet,ab (qm q4)]) h)(hz:(eY ((L.length:Int)>0)||!ok)=J):(CW S5 jV (amA w st ob d5 bO nw) N (be (al UI) 6) (amS w st ob d5 bO nw) .ret {t:=amO,h:=amH w st ob d5 bO nw amZ 0 (ab (qm (q1++q2++q3++q4))),m:=[]}):=by refine yx (zeZ (qm (q1++q2++q3++q4))) [.o (.zfG 8 0 5),.v (Tp (Γ':=jV) (@hh (am2_x3 w st ob d5 bO nw))),(?_:(Tq (ZW q1) (aL 5)&&uO (S7 zdP+S7 (ZW q1)) 40)=J),.a1 Α,.v (@hc (am2_x2 w st ob d5 bO nw q1)),(?_:(Tq (ZW q2) (aL 5)&&uO (S7 (ZW q1)+S7 (ZW q2)) 40)=J),.a1 Α,.v (@hs (am2_x1 w st ob d5 bO nw q1 q2 c)),.b (rfl:(0 != 0)=N),(?_:(Tq (ZW q3) (aL 5)&&uO (S7 ((ZW q1)++(ZW q2))+S7 (ZW q3)) 40)=J),.a1 Α,.v (Tp (Γ':=jV) (@ha (am2_x0 w st ob d5 bO nw q1 q2 q3 c s))),(?_:(Tq (ZW q4) (aL 5)&&uO (S7 ((ZW q1)++(ZW q2)++(ZW q3))+S7 (ZW q4)) 40)=J),.a1 Α,.b hz,(lj:S2 (λx=>S2 Us x) (qm q1)++S2 (λx=>S2 Us x) (qm q2)++S2 (λx=>S2 Us x) (qm q3)++S2 (λx=>S2 Us x) (qm q4)=S2 (λx=>S2 Us x) (qm (q1++q2++q3++q4)))]<;>(simp[aL,Zk,Up,uO,Xd];omega)
noncomputable abbrev LY(w:eO)(st:Int)(ob:Int)(d5:Int)(bO:Int)(nw:bv)(q1:iF)(q2:iF)(q3:iF)(q4:iF)(c:uU)(s:P3):aT:=[eF (ZA w),eF [dd st],eF [dd ob],eF [dd d5],eF [dd bO],eF [ab nw],eF ZR,eF [dd 0],eF (zbn 9 4),.eQ ((ZW q1)++(ZW q2)++(ZW q3)++(ZW q4)) 4 5,eF (ZJ c),eF (zah s)]
noncomputable abbrev am3_x1(w:eO)(st:Int)(ob:Int)(d5:Int)(bO:Int)(nw:bv)(q1:iF)(q2:iF)(q3:iF)(c:uU)(s:P3):aT:=[eF (ZA w),eF [dd st],eF [dd ob],eF [dd d5],eF [dd bO],eF [ab nw],eF ZR,eF [dd 0],eF (zbn 9 3),.eQ ((ZW q1)++(ZW q2)++(ZW q3)) 3 5,eF (ZJ c),eF (zah s)]
noncomputable abbrev am3_x2(w:eO)(st:Int)(ob:Int)(d5:Int)(bO:Int)(nw:bv)(q1:iF)(q2:iF)(c:uU):aT:=(zhF w st ob d5 bO nw q1 q2 c)
noncomputable abbrev am3_x3(w:eO)(st:Int)(ob:Int)(d5:Int)(bO:Int)(nw:bv)(q1:iF):aT:=(zhr w st ob d5 bO nw (zbn 9 1) (ZW q1) 1)
noncomputable abbrev am3_x4(w:eO)(st:Int)(ob:Int)(d5:Int)(bO:Int)(nw:bv):aT:=(zhr w st ob d5 bO nw za5 [] 0)
theorem am3(hl:q1.length+q2.length+q3.length+q4.length<=1000000000000)(hh:∀h,Ev S5 fI 31 (zbE w st d5 bO) h (zjh L q1) h)(hc:∀h,Ev S5 jV 32 (zbE w ob d5 bO) h (tf [ag c.row,ab (qm q2),eP ok]) h)(hs:∀h,Ev S5 jV 33 (zdQ w st d5 bO (ab nw)) h (tf [kb s.l,ab (qm q3),dd 0]) h)(ha:∀h,Ev S5 fI 34 (zb5 w 7 st ob d5 (dd bO)) h (tf [dd num,eP pet,ab (qm q4)]) h)(hn:∀h,Ev S5 jV 35 [kb c.J3.fl.l,kb s.l] h (eP b1) h)(hb:∀h,Ev S5 jV 35 [kb c.Ω.fl.l,kb s.l] h (eP b2) h)(hz:(eY ((L.length:Int)>0)||!ok)=N)(hy:((b1&&!b2)||pet)=N):(CW S5 jV (amA w st ob d5 bO nw) N (be (al UI) 6) (amS w st ob d5 bO nw) .ret {t:=amO,h:=amH w st ob d5 bO nw amZ 0 (ab (qm (q1++q2++q3++q4))),m:=[]}):=by refine yx (zeZ (qm (q1++q2++q3++q4))) [.o (.zfG 8 0 5),.v (Tp (Γ':=jV) (@hh (am3_x4 w st ob d5 bO nw))),(?_:(Tq (ZW q1) (aL 5)&&uO (S7 zdP+S7 (ZW q1)) 40)=J),.a1 Α,.v (@hc (am3_x3 w st ob d5 bO nw q1)),(?_:(Tq (ZW q2) (aL 5)&&uO (S7 (ZW q1)+S7 (ZW q2)) 40)=J),.a1 Α,.v (@hs (am3_x2 w st ob d5 bO nw q1 q2 c)),.b (rfl:(0 != 0)=N),(?_:(Tq (ZW q3) (aL 5)&&uO (S7 ((ZW q1)++(ZW q2))+S7 (ZW q3)) 40)=J),.a1 Α,.v (Tp (Γ':=jV) (@ha (am3_x1 w st ob d5 bO nw q1 q2 q3 c s))),(?_:(Tq (ZW q4) (aL 5)&&uO (S7 ((ZW q1)++(ZW q2)++(ZW q3))+S7 (ZW q4)) 40)=J),.a1 Α,.b hz,.v (@hn (LY w st ob d5 bO nw q1 q2 q3 q4 c s)),.w b1 (@hb (LY w st ob d5 bO nw q1 q2 q3 q4 c s)),.b hy,(lj:S2 (λx=>S2 Us x) (qm q1)++S2 (λx=>S2 Us x) (qm q2)++S2 (λx=>S2 Us x) (qm q3)++S2 (λx=>S2 Us x) (qm q4)=S2 (λx=>S2 Us x) (qm (q1++q2++q3++q4)))]<;>(simp[aL,Zk,Up,uO,Xd];omega)
noncomputable abbrev LZ(w:eO)(st:Int)(ob:Int)(d5:Int)(bO:Int)(nw:bv)(q1:iF)(q2:iF)(q3:iF)(q4:iF)(c:uU)(s:P3):aT:=[eF (ZA w),eF [dd st],eF [dd ob],eF [dd d5],eF [dd bO],eF [ab nw],eF ZR,eF [dd 0],eF (zbn 9 4),.eQ ((ZW q1)++(ZW q2)++(ZW q3)++(ZW q4)) 4 5,eF (ZJ c),eF (zah s)]
noncomputable abbrev am4_x1(w:eO)(st:Int)(ob:Int)(d5:Int)(bO:Int)(nw:bv)(q1:iF)(q2:iF)(q3:iF)(q4:iF)(c:uU)(s:P3):aT:=[eF (ZA w),eF [dd st],eF [dd ob],eF [dd d5],eF [dd bO],eF [ab nw],eF [dd 0,dd 0,dd 0,dd 0,dd 1,dd 0,dd 0,nq,nq,nq],eF [dd 0],eF (zbn 9 4),.eQ ((ZW q1)++(ZW q2)++(ZW q3)++(ZW q4)) 4 5,eF (ZJ c),eF (zah s)]
noncomputable abbrev am4_x2(w:eO)(st:Int)(ob:Int)(d5:Int)(bO:Int)(nw:bv)(q1:iF)(q2:iF)(q3:iF)(c:uU)(s:P3):aT:=[eF (ZA w),eF [dd st],eF [dd ob],eF [dd d5],eF [dd bO],eF [ab nw],eF ZR,eF [dd 0],eF (zbn 9 3),.eQ ((ZW q1)++(ZW q2)++(ZW q3)) 3 5,eF (ZJ c),eF (zah s)]
noncomputable abbrev am4_x3(w:eO)(st:Int)(ob:Int)(d5:Int)(bO:Int)(nw:bv)(q1:iF)(q2:iF)(c:uU):aT:=(zhF w st ob d5 bO nw q1 q2 c)
noncomputable abbrev am4_x4(w:eO)(st:Int)(ob:Int)(d5:Int)(bO:Int)(nw:bv)(q1:iF):aT:=(zhr w st ob d5 bO nw (zbn 9 1) (ZW q1) 1)
noncomputable abbrev am4_x5(w:eO)(st:Int)(ob:Int)(d5:Int)(bO:Int)(nw:bv):aT:=(zhr w st ob d5 bO nw za5 [] 0)
theorem am4(hl:q1.length+q2.length+q3.length+q4.length<=1000000000000)(hh:∀h,Ev S5 fI 31 (zbE w st d5 bO) h (zjh L q1) h)(hc:∀h,Ev S5 jV 32 (zbE w ob d5 bO) h (tf [ag c.row,ab (qm q2),eP ok]) h)(hs:∀h,Ev S5 jV 33 (zdQ w st d5 bO (ab nw)) h (tf [kb s.l,ab (qm q3),dd 0]) h)(ha:∀h,Ev S5 fI 34 (zb5 w 7 st ob d5 (dd bO)) h (tf [dd num,eP pet,ab (qm q4)]) h)(hn:∀h,Ev S5 jV 35 [kb c.J3.fl.l,kb s.l] h (eP b1) h)(hb:∀h,Ev S5 jV 35 [kb c.Ω.fl.l,kb s.l] h (eP b2) h)(hm:∀h,Ev S5 fI 36 [eP (!(b1&&!b2)),dd num] h (ab nm) h)(hz:(eY ((L.length:Int)>0)||!ok)=N)(hy:((b1&&!b2)||pet)=J):(CW S5 jV (amA w st ob d5 bO nw) N (be (al UI) 6) (amS w st ob d5 bO nw) .ret {t:=amO,h:=amH w st ob d5 bO nw (amD 1 nm) 0 (ab (qm (q1++q2++q3++q4))),m:=[]}):=by refine yx (zeZ (qm (q1++q2++q3++q4))) [.o (.zfG 8 0 5),.v (Tp (Γ':=jV) (@hh (am4_x5 w st ob d5 bO nw))),(?_:(Tq (ZW q1) (aL 5)&&uO (S7 zdP+S7 (ZW q1)) 40)=J),.a1 Α,.v (@hc (am4_x4 w st ob d5 bO nw q1)),(?_:(Tq (ZW q2) (aL 5)&&uO (S7 (ZW q1)+S7 (ZW q2)) 40)=J),.a1 Α,.v (@hs (am4_x3 w st ob d5 bO nw q1 q2 c)),.b (rfl:(0 != 0)=N),(?_:(Tq (ZW q3) (aL 5)&&uO (S7 ((ZW q1)++(ZW q2))+S7 (ZW q3)) 40)=J),.a1 Α,.v (Tp (Γ':=jV) (@ha (am4_x2 w st ob d5 bO nw q1 q2 q3 c s))),(?_:(Tq (ZW q4) (aL 5)&&uO (S7 ((ZW q1)++(ZW q2)++(ZW q3))+S7 (ZW q4)) 40)=J),.a1 Α,.b hz,.v (@hn (LZ w st ob d5 bO nw q1 q2 q3 q4 c s)),.w b1 (@hb (LZ w st ob d5 bO nw q1 q2 q3 q4 c s)),.b hy,.v (Tp (Γ':=jV) (@hm (am4_x1 w st ob d5 bO nw q1 q2 q3 q4 c s))),(lj:S2 (λx=>S2 Us x) (qm q1)++S2 (λx=>S2 Us x) (qm q2)++S2 (λx=>S2 Us x) (qm q3)++S2 (λx=>S2 Us x) (qm q4)=S2 (λx=>S2 Us x) (qm (q1++q2++q3++q4)))]<;>(simp[aL,Zk,Up,uO,Xd];omega)
abbrev ziU(a:bY)(b c d e:Int)(f:bv)(g:bY):aT:=[eF a,eF [dd b],eF [dd c],eF [dd d],eF [dd e],eF [ab f],eF g,eF [dd 0]]
noncomputable abbrev CP(w:eO)(st:Int)(ob:Int)(d5:Int)(bO:Int)(nw:bv):aT:=(ziU (ZA w) st ob d5 bO nw ZR)
theorem OQ(hk:∀h,Ev S5 fI 28 [dd st,dd ob,dd d5,ab nw] h (eP N) h)(h:aT):(Ev S5 jV 14 (zb5 w st ob d5 bO (ab nw)) h (tf [kb ξ.zero.l,dd 280]) h):=Tw (Ev.zhC (y0 (d:=D.JY [D.agg ZR,dd 280]) [.v (Tp (Γ':=jV) (@hk (CP w st ob d5 bO nw))),.e] h)) EX EX
abbrev amT0(w:eO)(st ob d5 bO:Int)(nw:bv):bY:=oz 116 0 [(0,kb w.l),(1,dd st),(2,dd ob),(3,dd d5),(4,dd bO),(5,ab nw),zcT,(zfb 1),(zeE 2),(zhA 9 3),zbW,(zfg 5),zfc,zfd]
abbrev amT1:bY:=(zbI 29 (eP N))
abbrev amT3:bY:=(zbI 14 (fE (ql 8 0)))
abbrev amH0(w:eO)(st ob d5 bO:Int)(nw:bv):aT:=(ziU w.l st ob d5 bO nw amZ)
noncomputable abbrev Jo(w:eO)(st:Int)(ob:Int)(d5:Int)(bO:Int)(nw:bv):aT:=(ziU (ZA w) st ob d5 bO nw ZR)
theorem am_r1(hk:∀h,Ev S5 fI 28 [dd st,dd ob,dd d5,ab nw] h (eP J) h):(CW S5 jV h0 N (cL (cR (al UI))) {t:=amT0 w st ob d5 bO nw,h:=amH0 w st ob d5 bO nw,m:=[]} w8 {t:=amT1,h:=amH0 w st ob d5 bO nw,m:=[]}):=yx [CE (EZ [6,7,8,9,10,11,12,13,29])] [.v (Tp (Γ':=jV) (@hk (Jo w st ob d5 bO nw))),.e]
theorem am_r2:(CW S5 jV h0 N (cL (cR (cR (al UI)))) {t:=amT1,h:=amH0 w st ob d5 bO nw,m:=[]} w8 {t:=amT3,h:=amA w st ob d5 bO nw,m:=[]}):=yx [CE (EZ [6,7,8,9,10,11,12,13,14])] []
theorem Jp:al UI=.seq (.region (BU (cL (al UI))) (bW (cL (al UI))) false) (.seq (cL (cR (al UI))) (.seq (cL (cR (cR (al UI)))) (.seq (.region (BU (cL (cR (cR (cR (al UI)))))) (bW (cL (cR (cR (cR (al UI)))))) false)
 (.seq (.region (BU (cL (cR (cR (cR (cR (al UI))))))) (bW (cL (cR (cR (cR (cR (al UI))))))) false) (be (al UI) 6))))):=by kernel_rfl
abbrev zeL(a:Nat):Nat×D:=(a,.fn (.func 29) [] (zjG 8))
abbrev amT4:bY:=oz 116 0 [zcT,(zfb 1),(zeE 2),(zhA 9 3),zbW,(zfg 5),zfc,zfd,(zhA 14 8),(zeL 15),(zeL 31)]
abbrev amCa:bY:=[fE (ql 7 0),fE (ql 1 0),fE (ql 2 0),fE (ql 3 0),fE (ql 6 0),fE (ql 4 0),fE (ql 5 0),fE (ql 8 0)]
abbrev amT5:bY:=oz 116 0 [zcT,(zfb 1),(zeE 2),(zhA 9 3),zbW,(zfg 5),zfc,zfd,(zhA 14 8),(zeL 15),(zeL 31),(32,.fn (.func 30) [] amCa)]
theorem vw_of{h0:aT}{c:Code}{s:AS}{e:Exit}{X:Ctx}(h:CW S5 jV X.h N c s e s'):VW S5 jV X Y c (λe1 s2=>e1=e/\s2=s') s:=h X Y rfl λ_=>rfl
theorem OS{e:Exit}(hk:∀h,Ev S5 fI 28 [dd st,dd ob,dd d5,ab nw] h (eP true) h)(κ:CW S5 jV (amA w st ob d5 bO nw) false (be (al UI) 6) (amS w st ob d5 bO nw) e s'):
  zdU S5 jV (al UI) {t:=cO UI (zb5 w st ob d5 bO (ab nw)),h:=[],m:=[]} e s' (some (30,amCa)):=by
 rw[Jp]
 refine Zl (s1:={t:=amT0 w st ob d5 bO nw,h:=amH0 w st ob d5 bO nw,m:=[]}) (λX=>VW.zaN (t':=amT0 w st ob d5 bO nw) (h':=amH0 w st ob d5 bO nw) (e:=.normal) gj (by kernel_rfl) ⟨rfl,rfl⟩) ?_
 refine Zl (λX=>vw_of (h0:=[]) (am_r1 hk)) ?_
 refine Zl (λX=>vw_of (h0:=[]) am_r2) ?_
 refine Zl (s1:={t:=amT4,h:=amA w st ob d5 bO nw,m:=[]}) (λX=>VW.zaN (t':=amT4) (h':=amA w st ob d5 bO nw) (e:=.normal) gj (by kernel_rfl) ⟨rfl,rfl⟩) ?_
 exact zdU.zpM (os:=(bW (cL (cR (cR (cR (cR (al UI))))))).toList.dropLast) (o:=Hf (bW (cL (cR (cR (cR (cR (al UI))))))).toList) (fv:=.tmp 32) (args:=#[]) (ats:=#[]) (t1:=amT5) (h1:=amA w st ob d5 bO nw) (f:=30) (fi:=[]) (ca:=amCa) ZK gj (by kernel_rfl) (by kernel_rfl) (by kernel_rfl) (by kernel_rfl) rfl (by kernel_rfl) (by kernel_rfl) (CW.pre [6,7,8,9,10,11,12,13,15] κ)
noncomputable abbrev zt(H:aT):Option CR:=pp S5 UI (ff S5 jV noW 100) 0 .ret {t:=amO,h:=H,m:=[]} (G (30,amCa))
theorem Jq:zt (amH w st ob d5 bO nw amZ 1 (ab rs))=G (.ret (tf [kb amZ,dd 1]) []):=Z
theorem Jr:zt (amH w st ob d5 bO nw amZ 2 (ab rs))=G (.ret (tf [kb amZ,dd 2]) []):=Z
theorem FG:zt (amH w st ob d5 bO nw amZ 150 (ab rs))=G (.ret (tf [kb amZ,dd 150]) []):=Z
theorem OT(he:e=1\/e=2\/e=150):zt (amH w st ob d5 bO nw amZ e (ab rs))=G (.ret (tf [kb amZ,dd e]) []):=by
 rcases he with rfl|rfl|rfl;·exact Jq
 ·exact Jr
 ·exact FG
theorem FH:zt (amH w st ob d5 bO nw amZ 0 (ab rs))=G (.ret (zes [dd 1,dd st,dd ob,dd d5,dd 0,dd 0,dd bO,ab nw,ab rs,nq] 0) []):=Z
theorem OU{a:Int}:zt (amH w st ob d5 bO nw (amD a nm) 0 (ab rs))=G (.ret (zes [dd 1,dd st,dd ob,dd d5,dd a,dd a,dd bO,ab nw,ab rs,ab nm] 0) []):=Z
theorem Bh{H:aT}{d:D}(hk:∀h,Ev S5 fI 28 [dd st,dd ob,dd d5,ab nw] h (eP J) h)(hr:CW S5 jV (amA w st ob d5 bO nw) N (be (al UI) 6) (amS w st ob d5 bO nw) .ret {t:=amO,h:=H,m:=[]})(he:zt H=G (.ret d [])):Ev S5 jV 14 (zb5 w st ob d5 bO (ab nw)) [] d [] :=(zhZ.znx (f:=14) (args:=(zb5 w st ob d5 bO (ab nw))) (dfn:=ff S5 jV noW 100) (h:=[]) (r:=.ret d []) (fn:=UI) (c:=al UI) ZK rfl rfl HN (OS hk hr) he).call
end Go.Vi
