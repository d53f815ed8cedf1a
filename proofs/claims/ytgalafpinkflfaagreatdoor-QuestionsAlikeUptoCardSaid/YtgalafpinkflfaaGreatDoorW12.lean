/- A part of the proof; no conditions of its own. -/
import Derived.Test.YtgalafpinkflfaaGreatDoorW11
open Bool renaming true->J,false->N
open Option renaming some->G,none->Y
open Go.Vi.Ans renaming st->δ,inl->zfF
open Go.Exit renaming normal->NO,exit->η
open Go.Vi.D renaming Ρ->JV,agg->uT,ref->mW
open Go.LoopState renaming exhausted->zhL,ready->ζ,busy->zfB
open Go.Vi.SOp renaming frz->zed,trim->zkm,mask->τ
open Go.Vi.F2 renaming var->iI,loop->χ,zaB->Ζ,ν->S3
open Go.Vi.Ref renaming ptr->J0
open Decidable renaming decide -> lL
open Go.Vi.ω renaming row -> TQ
open Go.IntKind renaming i64 -> S6, wrap -> S8
open Go.Proofs.Tryz renaming prog -> S5, f171 -> VA, f34 -> VP, f169 -> U2, f86 -> UQ, f14 -> UI
open List renaming map -> S2, length -> S7, getElem?_eq_some_iff -> Td, foldl_cons -> TG, all -> Tq, range -> T1, map_append -> Uh, map_cons -> U5, map_nil -> Yi, range_succ -> Xe, foldl_append -> Ym
open Go.Exit renaming normal -> Tr
open Go.Vi.CW renaming each -> UR
open Go.Vi.xE renaming row -> Wy, fl -> Te
open Go.Vi.Ev renaming zlh -> Tp, zly -> Tw
open Go.Vi.D renaming zhz -> TL, fn -> UL, one -> Zk, zbk -> Tz, p -> Us
open Go.Vi.L9 renaming row -> Tc
open Go.Vi.zcR renaming row -> Tj
open Go.Vi.JX renaming row -> Ta
open Go.LoopState renaming ready -> TJ, busy -> TX
open Go.Fn renaming func -> TM
open Go.Vi.PtT renaming row -> V2
open Go.Value renaming oneCell' -> Up
open Go.Vi.ZH renaming row -> Xd
open Go.Vi.zjC renaming seq -> Zl
open Go Go.Proofs
namespace Go.Vi
set_option maxRecDepth 100000
set_option maxHeartbeats 4000000
structure zaN where
 seen:If
 ZD:Int
 n:Int
 d:Int
variable {c d m n op:Int}{i:Nat}{ks:bv}{nm:ByteArray}{s:zaN}
def zaN.l(s:zaN):bY:=[ab (s.seen.map TQ),go s.ZD,go s.n,go s.d]
structure zaN.ok (x:zaN):Prop where
 s:ah x.seen
 n:Ψ x.n
 d:Ψ x.d
abbrev zgq(a:bY):aT:=[iI a,iI [go 0,go 0,go 0,kr N]]
abbrev abS(s:zaN)(c i:Int):AS:={t:=Bn 22 0 [(1,go c),zbG,(8,ab (s.seen.map TQ)),(9,go (s.seen.map TQ).length),(10,go i)],h:=(zgq s.l),m:=[]}
abbrev abE(s:zaN)(c:Int):AS:={t:=Bn 22 0 [(1,go c),zbG],h:=(zgq s.l),m:=[]}
abbrev abX(s:zaN)(x:ω):Exit×AS:=(.ret,{t:=Bn 22 0 [(4,.ref (.ptr 1 0))],h:=[.var s.l,.var (x.row.map .p)],m:=[]})
def abF(c:Int)(x:ω)(_:Unit):Unit⊕ω:=bif x.lm==c then .inr x else .inl ()
abbrev zah(a:zaN):bY:=[ab (S2 TQ a.seen),go a.ZD,go a.n,go a.d]
theorem Oh{x:ω}(hr:ao (i:Int) (s.seen.map TQ) x.row 4)(xD:lL ((i:Int)<((s.seen.map TQ).length:Int))=true)(hw:S6.wrap ((i:Int)+1)=((i+1:Nat):Int)):(CW S5 mX [] false (sub Tryz.f365 0) (abS s c i) (ai (λ_=>abS s c ((i+1:Nat):Int)) (abX s) (abF c x ())).1 (ai (λ_=>abS s c ((i+1:Nat):Int)) (abX s) (abF c x ())).2):=by
 cases F3:x.lm==c
 ·let v0:=S2 TQ s.seen
  exact yX {t:=Bn 22 0 [(1,go c),(4,.ref (.ptr 1 0)),(8,ab v0),(9,go (↑(S7 v0):Int)),(10,go (S8 S6 ((↑i:Int)+1)))],h:=[.var [ab v0,go s.ZD,go s.n,go s.d],.var [go 0,go 0,go 0,kr false]],m:=[]} Tr [.st (.mask [1,4,8,9,10]),.st (.trim 2)] [.b xD,.r hr,.b F3] (by subst v0;simp[abF,F3,ai];done) (by subst v0;simp only[abF,F3,cond_false,ai,hw];rfl)
 ·exact yX {t:=Bn 22 0 [(4,.ref (.ptr 1 0))],h:=[.var [ab (S2 TQ s.seen),go s.ZD,go s.n,go s.d],.var [go x.lm,go x.tries,go x.JY,kr x.now]],m:=[]} Exit.ret [.st (.mask [4]),.st (.trim 2)] [.b xD,.r hr,.b F3] (by simp[abF,F3,ai];done) (by simp only[abF,F3,cond_true,ai];rfl)
theorem Oi(xD:lL ((i:Int)<((s.seen.map TQ).length:Int))=N):(CW S5 mX [] N (sub Tryz.f365 0) (abS s c i) (η 0) (abE s c)):=yx [δ (τ [1,4])] [.b xD]
def Oj(s:zaN)(c:Int):Exit×AS:=bf (η 0) (λ_:Unit=>abE s c) (abX s) (Pu (abF c) s.seen ())
theorem ab_cw{s:zaN}(hs:ah s.seen){c:Int}:CW S5 mX [] false (.loop (sub Tryz.f365 0)) (abS s c 0) (Oj s c).1 (Oj s c).2:=by
 refine UR s.seen (abF c) (λi _=>abS s c (i:Int)) (.exit 0) (λ_=>abE s c) (abX s) (λ_ _=>True) (by simp) (λ_=>by simp[abX]) ?_ ?_ () trivial;·intro i x _ hx _;have hi:=(Td.1 hx).1;exact⟨λ_ _=>trivial,Oh (rowAt hx rfl) (κ TQ hi) (J3 hi hs)⟩
 ·intro _ _;exact Oi (aR TQ s.seen)
def abR(s:zaN)(c:Int):ω:=match Pu (abF c) s.seen () with
 |.inr x=>x
 |.inl _=>⟨c,0,-1,N⟩
theorem uK{s:zaN}(hs:ah s.seen){c:Int}(h:aT):(Ev S5 mX 365 [uT s.l,go c] h (ag (abR s c).row) h):=by
 have Pq:=(@ab_cw (s) (hs) (c));unfold Oj at Pq;revert Pq;cases ho1:Pu (abF c) s.seen () with
 |inl ξ=>intro Pq;exact yD (D.agg [go c,go 0,go (-1),kr N]) [.s [1,4,8,9,10] Pq] h (by simp only[abR,ho1];rfl)
 |inr zce=>intro Pq;exact yD (D.agg (zaX zce)) [.s [1,4,8,9,10] Pq] h (by simp only[abR,ho1];rfl)
attribute [local irreducible] abR
theorem kh1_ev{op c m:Int}{nm:ByteArray}{n d:Int}{ks:bv}{s:zaN}(h:aT):(Ev S5 mX 355 [ruD op c nm n d ks,uT s.l,go m] h (kr (m==(ks.length:Int))) h):=y0 [] h
theorem kh2_ev{op c m:Int}{nm:ByteArray}{n d:Int}{ks:bv}{s:zaN}(h:aT):(Ev S5 mX 357 [ruD op c nm n d ks,uT s.l,go m] h (kr (lL (m>0))) h):=y0 [] h
theorem kh3_ev{op c m:Int}{nm:ByteArray}{n d:Int}{ks:bv}{s:zaN}(h:aT):(Ev S5 mX 359 [ruD op c nm n d ks,uT s.l,go m] h (kr (lL (m>=n))) h):=y0 [] h
theorem kh4_ev{op c m:Int}{nm:ByteArray}{n d:Int}{ks:bv}{s:zaN}(h:aT):(Ev S5 mX 361 [ruD op c nm n d ks,uT s.l,go m] h (kr (m==0)) h):=y0 [] h
abbrev Z4(a b:Int)(e:ByteArray)(f g:Int)(h:bv)(i:zaN):aT:=[iI [go a,go b,am e,go f,go g,ab h],iI [ab (S2 TQ i.seen),go i.ZD,go i.n,go i.d]]
noncomputable abbrev Fk(op:Int)(c:Int)(nm:ByteArray)(n:Int)(d:Int)(ks:bv)(s:zaN):aT:=(Z4 op c nm n d ks s)
theorem kh5_ev{op c m:Int}{nm:ByteArray}{n d:Int}{ks:bv}{s:zaN}(hs:ah s.seen)(h:aT):(Ev S5 mX 364 [ruD op c nm n d ks,uT s.l,go m] h (kr (lL ((abR s c).JY>=n))) h):=y0 [.v (@uK s hs c (Fk op c nm n d ks s))] h
noncomputable abbrev Fl(op:Int)(c:Int)(nm:ByteArray)(n:Int)(d:Int)(ks:bv)(s:zaN):aT:=(Z4 op c nm n d ks s)
theorem kh6_ev{op c m:Int}{nm:ByteArray}{n d:Int}{ks:bv}{s:zaN}(hs:ah s.seen)(h:aT):(Ev S5 mX 367 [ruD op c nm n d ks,uT s.l,go m] h (kr (lL ((abR s c).tries>=n))) h):=y0 [.v (@uK s hs c (Fl op c nm n d ks s))] h
theorem kh7_ev{op c m:Int}{nm:ByteArray}{n d:Int}{ks:bv}{s:zaN}(h:aT):(Ev S5 mX 369 [ruD op c nm n d ks,uT s.l,go m] h (kr (lL (s.ZD>=n))) h):=y0 [] h
noncomputable abbrev Fm(op:Int)(c:Int)(nm:ByteArray)(n:Int)(d:Int)(ks:bv)(s:zaN):aT:=(Z4 op c nm n d ks s)
theorem kh8_ev{op c m:Int}{nm:ByteArray}{n d:Int}{ks:bv}{s:zaN}(h1:Ψ s.n)(h2:Ψ s.d)(hn:Ψ n)(hd:Ψ d)(h:aT):(Ev S5 mX 371 [ruD op c nm n d ks,uT s.l,go m] h (kr (lL ((nW s.n s.d n d).1>=0))) h):=y0 [.v (@mF (s.n) (s.d) n d h1 h2 hn hd (Fm op c nm n d ks s))] h
noncomputable abbrev Fo(op:Int)(c:Int)(nm:ByteArray)(n:Int)(d:Int)(ks:bv)(s:zaN):aT:=(Z4 op c nm n d ks s)
theorem kh9_ev{op c m:Int}{nm:ByteArray}{n d:Int}{ks:bv}{s:zaN}(hs:ah s.seen)(h:aT):(Ev S5 mX 372 [ruD op c nm n d ks,uT s.l,go m] h (kr (abR s c).now) h):=y0 [.v (@uK s hs c (Fo op c nm n d ks s))] h
def rK(op c n d:Int)(kn:Nat)(s:zaN)(m:Int):Bool :=
 if op=1 then m==(kn:Int) else if op=2 then lL (m>0) else if op=3 then lL (m>=n) else if op=4 then m==0 else if op=5 then lL ((abR s c).JY>=n)
 else if op=6 then lL ((abR s c).tries>=n) else if op=7 then lL (s.ZD>=n) else if op=8 then lL ((nW s.n s.d n d).1>=0) else (abR s c).now
abbrev vuS(op c:Int)(nm:ByteArray)(n d:Int)(ks:bv)(s:zaN)(m i:Int):AS:={t:=Bn 30 0 [zaU,zbr,(5,go m),(9,ab ks),(10,go ks.length),(11,go i)],h:=[iI (zam op c nm n d ks),iI s.l],m:=[]}
abbrev vuE(op c:Int)(nm:ByteArray)(n d:Int)(ks:bv)(s:zaN)(m:Int):AS:={t:=Bn 30 0 [zaU,zbr,(5,go m)],h:=[iI (zam op c nm n d ks),iI s.l],m:=[]}
def LW(b:Bool)(m:Int):Int:=bif b then m+1 else m
noncomputable abbrev ta(op:Int)(c:Int)(nm:ByteArray)(n:Int)(d:Int)(ks:bv)(s:zaN)(a1:Int)(a2:Int)(a4:Int)(a5:Int)(a3:ByteArray)(a6:bv):aT:=[iI (zam op c nm n d ks),iI (zah s),iI (zam a1 a2 a3 a4 a5 a6)]
theorem Ol{ks:List (List Dp)}{a1 a2 a4 a5:Int}{a3:ByteArray}{a6:List (List Dp)}{b:Bool}(hr:ao (i:Int) ks [vi a1,vi a2,vs a3,vi a4,vi a5,.sl a6] 6)(xD:lL ((i:Int)<(ks.length:Int))=true)(hw:S6.wrap ((i:Int)+1)=((i+1:Nat):Int))(hm:S6.wrap (m+1)=m+1)(hv:∀h,Ev S5 uS 171 [ruD a1 a2 a3 a4 a5 a6,.agg s.l] h (kr b) h):(CW S5 uS [] false (sub VA 0) (vuS op c nm n d ks s m i) .normal (vuS op c nm n d ks s (LW b m) ((i+1:Nat):Int))):=by
 cases F3:b
 ·exact yX {t:=Bn 30 0 [(2,.ref (.ptr 0 0)),(3,.ref (.ptr 1 0)),(5,go m),(9,ab ks),(10,go (↑(S7 ks):Int)),(11,go (S8 S6 ((↑i:Int)+1)))],h:=[.var [go op,go c,am nm,go n,go d,ab ks],.var [ab (S2 TQ s.seen),go s.ZD,go s.n,go s.d]],m:=[]} Tr [.st (.mask [2,3,5,9,10,11]),.st (.trim 2)] [.b xD,.r hr,.v (@hv (ta op c nm n d ks s a1 a2 a4 a5 a3 a6)),.b F3] (by grind) (by(have hh:b=false:=F3;subst hh;simp only[LW,cond_false,hw];first|done|rfl))
 ·exact yX {t:=Bn 30 0 [(2,.ref (.ptr 0 0)),(3,.ref (.ptr 1 0)),(5,go (S8 S6 (m+1))),(9,ab ks),(10,go (↑(S7 ks):Int)),(11,go (S8 S6 ((↑i:Int)+1)))],h:=[.var [go op,go c,am nm,go n,go d,ab ks],.var [ab (S2 TQ s.seen),go s.ZD,go s.n,go s.d]],m:=[]} Tr [.st (.mask [2,3,5,9,10,11]),.st (.trim 2)] [.b xD,.r hr,.v (@hv (ta op c nm n d ks s a1 a2 a4 a5 a3 a6)),.b F3] (by grind) (by(have hh:b=true:=F3;subst hh;simp only[LW,cond_true,hw,hm];first|done|rfl))
theorem Om(xD:lL ((i:Int)<(ks.length:Int))=N):(CW S5 uS [] N (sub VA 0) (vuS op c nm n d ks s m i) (η 0) (vuE op c nm n d ks s m)):=yx [δ (τ [2,3,5])] [.b xD]
mutual
def Jg(s:zaN):xE->Bool
 |.mk op c _ n d ks=>rK op c n d ks.length s (valN s ks 0)
def valN(s:zaN):List xE->Int->Int
 | [],m=>m
 |k::ks,m=>valN s ks (LW (Jg s k) m)
end
theorem xq(s:zaN):∀(ks:List xE) (m:Int),valN s ks m=ks.foldl (λm k=>LW (Jg s k) m) m
 | [],_=>rfl
 |k::ks,m=>by rw[valN,TG];exact xq s ks _
theorem vu_all{ks:List xE}(hs:ah ks)(hv:∀k∈ks,∀h,Ev S5 uS 171 [ag k.row,.agg s.l] h (kr (Jg s k)) h):CW S5 uS [] false (.loop (sub VA 0)) (vuS op c nm n d (fG ks) s 0 0) (.exit 0) (vuE op c nm n d (fG ks) s (valN s ks 0)):=by
 rw[xq,dm]
 have:=UR (P:=S5) (Γ:=uS) (h0:=[]) (rd:=false) (c:=sub VA 0) (σ:=Int) (ρ:=Empty) ks (λk m=>.inl (LW (Jg s k) m))
  (λi m=>vuS op c nm n d (ks.map Wy) s m (i:Int)) (.exit 0) (λm=>vuE op c nm n d (ks.map Wy) s m) (λr=>r.elim)
  (λi m=>0<=m/\m<=(i:Int)) (by simp) (λr=>r.elim) ?_ ?_ 0 (by simp)
 ·rw[aM (λm k=>LW (Jg s k) m)] at this;exact this
 ·intro i k m hk hm;have hi:=(Td.1 hk).1;have zmx:k∈ks:=List.mem_of_getElem? hk;have hsi:(i:Int)<140737488355328+1:=by unfold ah at hs;omega
  refine⟨λm' e=>?_,?_⟩;·grind [LW]
  ·cases k with
   | mk a1 a2 a3 a4 a5 kk =>have h1:=rowAt (row:=Wy) hk rfl;rw[Wy] at h1;have h2:=hv _ zmx;rw[Wy] at h2;exact Ol (i:=i) h1 (κ Wy hi) (J3 hi hs) (wrap_i64 (by omega) (by omega)) h2
 ·intro m _;exact Om (aR Wy ks)
noncomputable abbrev Fp(c:Int)(nm:ByteArray)(n:Int)(d:Int)(ks:bv)(s:zaN):aT:=(Z4 1 c nm n d ks s)
theorem val1_a(hc:CW S5 uS [] false (.loop (sub VA 0)) (vuS 1 c nm n d ks s 0 0) (.exit 0) (vuE 1 c nm n d ks s m))(h:aT):(Ev S5 uS 171 [ruD 1 c nm n d ks,.agg s.l] h (kr (rK 1 c n d ks.length s m)) h):=by have Pq:=(@hc);exact y0 [.s [2,3,5,9,10,11] Pq,(rfl:Φ 1 10=true),.v (Tp (Γ':=uS) (@kh1_ev 1 c m nm n d ks s (Fp c nm n d ks s)))] h
noncomputable abbrev Fq(c:Int)(nm:ByteArray)(n:Int)(d:Int)(ks:bv)(s:zaN):aT:=(Z4 2 c nm n d ks s)
theorem val2_a(hc:CW S5 uS [] false (.loop (sub VA 0)) (vuS 2 c nm n d ks s 0 0) (.exit 0) (vuE 2 c nm n d ks s m))(h:aT):(Ev S5 uS 171 [ruD 2 c nm n d ks,.agg s.l] h (kr (rK 2 c n d ks.length s m)) h):=by have Pq:=(@hc);exact y0 [.s [2,3,5,9,10,11] Pq,(rfl:Φ 2 10=true),.v (Tp (Γ':=uS) (@kh2_ev 2 c m nm n d ks s (Fq c nm n d ks s)))] h
noncomputable abbrev Fr(c:Int)(nm:ByteArray)(n:Int)(d:Int)(ks:bv)(s:zaN):aT:=(Z4 3 c nm n d ks s)
theorem val3_a(hc:CW S5 uS [] false (.loop (sub VA 0)) (vuS 3 c nm n d ks s 0 0) (.exit 0) (vuE 3 c nm n d ks s m))(h:aT):(Ev S5 uS 171 [ruD 3 c nm n d ks,.agg s.l] h (kr (rK 3 c n d ks.length s m)) h):=by have Pq:=(@hc);exact y0 [.s [2,3,5,9,10,11] Pq,(rfl:Φ 3 10=true),.v (Tp (Γ':=uS) (@kh3_ev 3 c m nm n d ks s (Fr c nm n d ks s)))] h
noncomputable abbrev Fs(c:Int)(nm:ByteArray)(n:Int)(d:Int)(ks:bv)(s:zaN):aT:=(Z4 4 c nm n d ks s)
theorem val4_a(hc:CW S5 uS [] false (.loop (sub VA 0)) (vuS 4 c nm n d ks s 0 0) (.exit 0) (vuE 4 c nm n d ks s m))(h:aT):(Ev S5 uS 171 [ruD 4 c nm n d ks,.agg s.l] h (kr (rK 4 c n d ks.length s m)) h):=by have Pq:=(@hc);exact y0 [.s [2,3,5,9,10,11] Pq,(rfl:Φ 4 10=true),.v (Tp (Γ':=uS) (@kh4_ev 4 c m nm n d ks s (Fs c nm n d ks s)))] h
noncomputable abbrev Ft(c:Int)(nm:ByteArray)(n:Int)(d:Int)(ks:bv)(s:zaN):aT:=(Z4 5 c nm n d ks s)
theorem val5_a(hs:ah s.seen)(hc:CW S5 uS [] false (.loop (sub VA 0)) (vuS 5 c nm n d ks s 0 0) (.exit 0) (vuE 5 c nm n d ks s m))(h:aT):(Ev S5 uS 171 [ruD 5 c nm n d ks,.agg s.l] h (kr (rK 5 c n d ks.length s m)) h):=by have Pq:=(@hc);exact y0 [.s [2,3,5,9,10,11] Pq,(rfl:Φ 5 10=true),.v (Tp (Γ':=uS) (@kh5_ev 5 c m nm n d ks s hs (Ft c nm n d ks s)))] h
noncomputable abbrev Fu(c:Int)(nm:ByteArray)(n:Int)(d:Int)(ks:bv)(s:zaN):aT:=(Z4 6 c nm n d ks s)
theorem val6_a(hs:ah s.seen)(hc:CW S5 uS [] false (.loop (sub VA 0)) (vuS 6 c nm n d ks s 0 0) (.exit 0) (vuE 6 c nm n d ks s m))(h:aT):(Ev S5 uS 171 [ruD 6 c nm n d ks,.agg s.l] h (kr (rK 6 c n d ks.length s m)) h):=by have Pq:=(@hc);exact y0 [.s [2,3,5,9,10,11] Pq,(rfl:Φ 6 10=true),.v (Tp (Γ':=uS) (@kh6_ev 6 c m nm n d ks s hs (Fu c nm n d ks s)))] h
noncomputable abbrev Fv(c:Int)(nm:ByteArray)(n:Int)(d:Int)(ks:bv)(s:zaN):aT:=(Z4 7 c nm n d ks s)
theorem val7_a(hc:CW S5 uS [] false (.loop (sub VA 0)) (vuS 7 c nm n d ks s 0 0) (.exit 0) (vuE 7 c nm n d ks s m))(h:aT):(Ev S5 uS 171 [ruD 7 c nm n d ks,.agg s.l] h (kr (rK 7 c n d ks.length s m)) h):=by have Pq:=(@hc);exact y0 [.s [2,3,5,9,10,11] Pq,(rfl:Φ 7 10=true),.v (Tp (Γ':=uS) (@kh7_ev 7 c m nm n d ks s (Fv c nm n d ks s)))] h
noncomputable abbrev Fw(c:Int)(nm:ByteArray)(n:Int)(d:Int)(ks:bv)(s:zaN):aT:=(Z4 8 c nm n d ks s)
theorem val8_a(h1:Ψ s.n)(h2:Ψ s.d)(hn:Ψ n)(hd:Ψ d)(hc:CW S5 uS [] false (.loop (sub VA 0)) (vuS 8 c nm n d ks s 0 0) (.exit 0) (vuE 8 c nm n d ks s m))(h:aT):(Ev S5 uS 171 [ruD 8 c nm n d ks,.agg s.l] h (kr (rK 8 c n d ks.length s m)) h):=by have Pq:=(@hc);exact y0 [.s [2,3,5,9,10,11] Pq,(rfl:Φ 8 10=true),.v (Tp (Γ':=uS) (@kh8_ev 8 c m nm n d ks s h1 h2 hn hd (Fw c nm n d ks s)))] h
noncomputable abbrev Fy(c:Int)(nm:ByteArray)(n:Int)(d:Int)(ks:bv)(s:zaN):aT:=(Z4 9 c nm n d ks s)
theorem val9_a(hs:ah s.seen)(hc:CW S5 uS [] false (.loop (sub VA 0)) (vuS 9 c nm n d ks s 0 0) (.exit 0) (vuE 9 c nm n d ks s m))(h:aT):(Ev S5 uS 171 [ruD 9 c nm n d ks,.agg s.l] h (kr (rK 9 c n d ks.length s m)) h):=by have Pq:=(@hc);exact y0 [.s [2,3,5,9,10,11] Pq,(rfl:Φ 9 10=true),.v (Tp (Γ':=uS) (@kh9_ev 9 c m nm n d ks s hs (Fy c nm n d ks s)))] h
end Go.Vi
open Go Go.Proofs
namespace Go.Vi
set_option maxRecDepth 100000
set_option maxHeartbeats 4000000
inductive xE.fine:xE->Prop
 |mk {op c:Int} {nm:ByteArray} {n d:Int} {ks:List xE} (h1:1<=op) (h9:op<=9) (hn:Ψ n) (hd:Ψ d) (hs:ah ks) (hk:∀k∈ks,k.fine):xE.fine (.mk op c nm n d ks)
variable {b:Bool}{c d e d5 n ob op sc st fI til v:Int}{i:Nat}{ks:bv}{nm:ByteArray}{r:xE}{s:zaN}{w:kc}
theorem Fz{k:Int}(h:aP op c n d k=J):1<=op/\op<=9:=by
 unfold aP at h;split at h;·simp at h
 ·by_cases h1:op=1;·omega
  grind
mutual
theorem xt:∀(r:xE) (dep m:Int),r.ok->(r.walk dep m).2=N->r.fine
 |.mk op c nm n d ks,dep,m,hr,h=>by
  simp[xE.ok] at hr;simp[xE.walk] at h;split at h;·simp at h
  ·rename_i hs;have hf:aP op c n d ks.length=J:=by simp only[nY,Bool.or_eq_false_iff,Bool.not_eq_false'] at hs;exact hs.2
   have ho:=Fz hf;exact .mk ho.1 ho.2 hr.1.2.2.1 hr.1.2.2.2.1 hr.1.2.2.2.2 (tb ks _ _ hr.2 h)
theorem tb:∀(ks:List xE) (dep m:Int),gP ks->(zlY ks dep m).2=N->∀k∈ks,k.fine
 | [],_,_,_,_=>F1
 |a::ks,dep,m,hr,h=>by
  simp[gP] at hr;simp[zlY] at h;cases hw:a.walk dep m with
  |mk m' b=>
   rw[hw] at h;cases b with
   |true=>simp at h
   |false=>have ha:a.fine:=xt a dep m hr.1 (by rw[hw]);have hk2:=tb ks dep m' hr.2 h;grind
end
theorem Jh(hs:s.ok)(hr:r.fine):∀h,Ev S5 uS 171 [ag r.row,uT s.l] h (kr (Jg s r)) h:=by
 induction hr with
 | @mk op c nm n d ks h1 h9 hn hd hsh _ ih=>
  intro h;have hc:=vu_all (s:=s) (op:=op) (c:=c) (nm:=nm) (n:=n) (d:=d) hsh ih;rw[Wy,Jg];have hl:ks.length=(fG ks).length:=by rw[dm,List.length_map]
  rw[hl];have:op=1\/op=2\/op=3\/op=4\/op=5\/op=6\/op=7\/op=8\/op=9:=tj
  rcases this with rfl|rfl|rfl|rfl|rfl|rfl|rfl|rfl|rfl;·exact val1_a hc h
  ·exact val2_a hc h
  ·exact val3_a hc h
  ·exact val4_a hc h
  ·exact val5_a hs.s hc h
  ·exact val6_a hs.s hc h
  ·exact val7_a hc h
  ·exact val8_a hs.n hs.d hn hd hc h
  ·exact val9_a hs.s hc h
def qw(r:xE)(s:zaN):Bool×Int:=match r.bad with
 |true=>(N,120)
 |false=>match uJ s.seen s.ZD s.n s.d != 0 with
  |true=>(N,uJ s.seen s.ZD s.n s.d)
  |false=>(Jg s r,0)
noncomputable abbrev CM(op:Int)(c:Int)(n:Int)(d:Int)(nm:ByteArray)(ks:bv)(s:zaN):aT:=(Z4 op c nm n d ks s)
theorem Oo(hz:(e != 0)=J)(hk:∀h,Ev S5 uS 161 [ruD op c nm n d ks] h (go e) h)(h:aT):(Ev S5 uS 98 [ruD op c nm n d ks,uT s.l] h (JV [kr N,go e]) h):=y0 [.v (@hk (CM op c n d nm ks s)),.b hz] h
noncomputable abbrev tc(op:Int)(c:Int)(n:Int)(d:Int)(nm:ByteArray)(ks:bv)(s:zaN):aT:=(Z4 op c nm n d ks s)
theorem Oq(hz:(e != 0)=J)(hk:∀h,Ev S5 uS 161 [ruD op c nm n d ks] h (go 0) h)(hf:∀h,Ev S5 uS 170 [uT s.l] h (go e) h)(h:aT):(Ev S5 uS 98 [ruD op c nm n d ks,uT s.l] h (JV [kr N,go e]) h):=y0 [.v (@hk (tc op c n d nm ks s)),.e,.v (@hf (tc op c n d nm ks s)),.b hz] h
noncomputable abbrev mR(op:Int)(c:Int)(n:Int)(d:Int)(nm:ByteArray)(ks:bv)(s:zaN):aT:=(Z4 op c nm n d ks s)
theorem Ot(hk:∀h,Ev S5 uS 161 [ruD op c nm n d ks] h (go 0) h)(hf:∀h,Ev S5 uS 170 [uT s.l] h (go 0) h)(hv:∀h,Ev S5 uS 171 [ruD op c nm n d ks,uT s.l] h (kr b) h)(h:aT):(Ev S5 uS 98 [ruD op c nm n d ks,uT s.l] h (JV [kr b,go 0]) h):=y0 [.v (@hk (mR op c n d nm ks s)),.e,.v (@hf (mR op c n d nm ks s)),.e,.v (@hv (mR op c n d nm ks s))] h
theorem xu(hr:r.ok)(hs:s.ok)(h:aT):Ev S5 uS 98 [uT r.fl.l,uT s.l] h (JV [kr (qw r s).1,go (qw r s).2]) h:=by
 have hf:∀h,Ev S5 uS 170 [uT s.l] h (go (uJ s.seen s.ZD s.n s.d)) h:=λh=>Tp (Jf hs.s hs.n hs.d h);have hk:∀h,Ev S5 uS 161 [uT r.fl.l] h (go (iJ r.bad)) h:=λh=>gQ hr h;have hv:r.bad=N->∀h,Ev S5 uS 171 [uT r.fl.l,uT s.l] h (kr (Jg s r)) h:=λhb h=>by have h1:=Jh hs (xt r 1 0 hr hb) h;cases r;exact h1
 unfold qw;cases r with
 |mk op c nm n d ks=>
  cases hb:(xE.mk op c nm n d ks).bad with
  |true=>rw[hb] at hk;exact Oo rfl hk h
  |false=>
   rw[hb] at hk;cases hz:uJ s.seen s.ZD s.n s.d != 0 with
   |true=>exact Oq hz hk hf h
   |false=>
    have e0:uJ s.seen s.ZD s.n s.d=0:=by simpa using hz
    rw[e0] at hf;exact Ot hk hf (hv hb) h
noncomputable abbrev uL(x:RuF)(s:zaN):aT:=(Z4 x.op x.c x.nm x.n x.d x.ks s)
theorem te{x:RuF}(hk:∀h,Ev S5 uS 98 [uT x.l,uT s.l] h (JV [kr b,go e]) h)(h:aT):(Ev S5 uS 35 [uT x.l,uT s.l] h (kr b) h):=y0 [.v (@hk (uL x s))] h
abbrev zb7:bY:=(zie (J0 5 0) 6 4 7)
abbrev acT:bY:=Bn 40 0 [(zeX 1),(ziy 14),(25,.fn (.func 169) [] zb7)]
noncomputable abbrev acL(st:LoopState):F2:=χ st Y 0 acT #[26,27] (ax (sub VP 0)) (ak (sub VP 0))
noncomputable abbrev acH0(w:kc)(sc st ob fI d5 num:Int)(rd:D):aT :=[iI w.l,iI [go num],iI [rd],.lk [(Z8 sc st ob)] 0 3,iI w.l,iI zga,iI [go fI],iI [go d5]]
noncomputable abbrev acH(w:kc)(sc st ob fI d5 num:Int)(rd:D)(ls:LoopState)(more:aT):aT :=[iI w.l,iI [go num],iI [rd],.lk [(Z8 sc st ob)] 0 3,iI w.l,iI zga,iI [go fI],iI [go d5],Ζ,acL ls]++more
abbrev zew(a b c d e f:Int):bY:=[go a,go b,go c,go d,go e,go f]
abbrev acX(sc st ob fI til v:Int):bY:=(zew sc st ob fI til v)
abbrev acM(sc st ob fI til v:Int):aT:=[iI (Z8 sc st ob),iI (acX sc st ob fI til v)]
abbrev acU:bY:=Bn 40 0 [(zeX 1),(ziy 14),(16,mW (J0 12 0))]
noncomputable abbrev zb1(a:kc)(b c d e f g h:Int):aT:=acH a b c d e f 0 nq ζ (acM b c d e g h)
abbrev zdh(a b c d e f:Int):aT:=(acM a b c d e f++[iI (acX a b c d e f)])
theorem ac_asg:(CW S5 mX (zb1 w sc st ob fI d5 til v) J (ax (sub VP 0)) {t:=dD acT [(26,go 0),(27,uT (acX sc st ob fI til v))],h:=(zb1 w sc st ob fI d5 til v),m:=[]} NO {t:=acU,h:=acH w sc st ob fI d5 0 nq ζ (zdh sc st ob fI til v),m:=[]}):=yx [δ (τ [12,14,16])] []
def mx0(v:Int):Int:=if J=J then if 0>v then 0 else v else if 0<v then 0 else v
abbrev acR(sc st ob fI til:Int):bY:=[go sc,go st,go ob,go fI,go til]
abbrev H0(sc st ob fI til v:Int):aT:=acM sc st ob fI til v++[iI (acX sc st ob fI til v),.lk [acR sc st ob fI til] 1 5]
abbrev zeh:D:=(mW (.lk 13 1))
theorem Ou:(CW S5 mX (zb1 w sc st ob fI d5 til v) J (ak (sub VP 0)) {t:=acU,h:=acH w sc st ob fI d5 0 nq zfB (zdh sc st ob fI til v),m:=[]} NO {t:=Bn 40 0 [],h:=acH w sc st ob fI d5 (mx0 v) zeh zfB (H0 sc st ob fI til v),m:=[]}):=by let v0:bY:=[go sc,go st,go ob,go fI,go til];exact yx (zbU [] 14) [(rfl:(Tq [v0] (aL 5)&&L8 (S7 zdP+S7 [v0]) 40)=J),pe (mW (J0 12 5)),pe (mW (J0 12 5)),pe (mW (J0 12 5)),po (Ω v),po (Ω v),po (Ω v),po (zcl 13),po (zcl 13),pe (mW (J0 12 0)),pe (D.agg v0),(rfl:Tq [(Z8 sc st ob)] (TL 14)=J),(rfl:Tq [v0] (TL 14)=J),.o (.zjT 2 0 5)]
theorem Ov{w:kc}{sc st ob fI d5 til v:Int}:Iv S5 mX (mW (.yl 9)) [go 0,uT (acX sc st ob fI til v)] (zb1 w sc st ob fI d5 til v) (kr J) (acH w sc st ob fI d5 (mx0 v) zeh ζ (H0 sc st ob fI til v)) :=Iv.round (h1:=acH w sc st ob fI d5 0 nq ζ (zdh sc st ob fI til v)) rfl rfl ac_asg rfl Ou rfl
abbrev zeE(a:Nat):Nat×D:=(8,mW (J0 a 0))
abbrev zfx(a:Nat):Nat×D:=(4,mW (J0 a 0))
abbrev ziN(a:bv)(b:Nat×D)(c:D):bY:=Bn 47 0 [(zfJ 9),(zb9 5),(zda 6),zfR,(zfx 7),(6,go 0),(zf8 7),(zeE 11),(zeq 11 3),(12,go 1),(13,go 0),(31,ab a),b,(33,c)]
abbrev aqT(ps:bv)(i:Int):bY:=(ziN ps (32,go ps.length) (go i))
abbrev aqE:bY:=Bn 47 0 [(zfJ 9),(zb9 5),(zda 6),zfR,(zfx 7),(6,go 0),(zf8 7),(zeE 11),(zeq 11 3),(12,go 1),(13,go 0)]
abbrev zbV:bY:=(Bn 40 0 [(12,mW (J0 1 0)),(ziy 14),(25,UL (TM 169) [] (zie (J0 5 0) 6 4 7))])
noncomputable abbrev zfA(a:kc)(b c d e f:Int):aT:=acH a b c d e f 0 nq ζ []
theorem Ow{ps:List (List Dp)}{p:PtT}(hr:ao (i:Int) ps p.row 2)(xD:lL ((i:Int)<(ps.length:Int))=true)(hw:S6.wrap ((i:Int)+1)=((i+1:Nat):Int)):(CW S5 mX (acH w sc st ob fI d5 0 nq .ready []) false (sub U2 1) {t:=aqT ps i,h:=acH w sc st ob fI d5 0 nq .ready (acM sc st ob fI til v),m:=[]} .normal {t:=aqT ps ((i+1:Nat):Int),h:=acH w sc st ob fI d5 0 nq .ready (acM sc st ob fI til p.value),m:=[]}):=by
 let v0:List D:=[ab (S2 Tc w.c),ab w.p,ab (S2 Tj w.s),ab (S2 Ta w.f)]
 exact yX {t:=Bn 47 0 [(0,.ref (.yl 9)),(1,.ref (.ptr 5 0)),(2,.ref (.ptr 6 0)),(3,.ref (.ptr 4 0)),(4,.ref (.ptr 7 0)),(6,go 0),(7,.ref (.ptr 10 0)),(8,.ref (.ptr 11 0)),(11,.ref (.lk 3 0)),(12,go 1),(13,go 0),(31,ab ps),(32,go (↑(S7 ps):Int)),(33,go (S8 S6 ((↑i:Int)+1)))],h:=[.var v0,.var [go 0],.var [nq],.lk [[go sc,go st,go ob]] 0 3,.var v0,.var [.ref (.lk 3 0)],.var [go fI],.var [go d5],.zaB,.loop TJ none 0 (Bn 40 0 [(12,.ref (.ptr 1 0)),(14,.ref (.ptr 2 0)),(25,UL (TM 169) [] [.ref (.ptr 5 0),.ref (.ptr 6 0),.ref (.ptr 4 0),.ref (.ptr 7 0)])]) {toList:=[26,27]} (ax (sub VP 0)) (ak (sub VP 0)),.var [go sc,go st,go ob],.var [go sc,go st,go ob,go fI,go til,go p.value]],m:=[]} Tr [.st (.mask [0,1,2,3,4,6,7,8,11,12,13,31,32,33]),.st (.trim 12)] [.b xD,.r hr,(rfl:Tq [[go sc,go st,go ob]] (TL 12)=true)] (by subst v0;grind) (by subst v0;(rw[hw];rfl))
theorem Ox{ps:bv}(xD:lL ((i:Int)<(ps.length:Int))=N):(CW S5 mX (zfA w sc st ob fI d5) N (sub U2 1) {t:=aqT ps i,h:=(zb1 w sc st ob fI d5 til v),m:=[]} (η 2) {t:=aqE,h:=(zb1 w sc st ob fI d5 til v),m:=[]}):=yx [δ (τ [0,1,2,3,4,6,7,8,11,12,13])] [.b xD]
def fF(ps:List PtT)(v:Int):Int:=ps.foldl (λ_ p=>p.value) v
theorem aq_cw{w:kc}{sc st ob fI d5 til v:Int}{ps:List PtT}(hl:ah ps):CW S5 mX (zfA w sc st ob fI d5) false (.loop (sub U2 1)) {t:=aqT (ps.map V2) 0,h:=(zb1 w sc st ob fI d5 til v),m:=[]} (.exit 2) {t:=aqE,h:=(zb1 w sc st ob fI d5 til (fF ps v)),m:=[]}:=by
 have:=UR (P:=S5) (Γ:=mX) (h0:=(zfA w sc st ob fI d5)) (rd:=false) (c:=sub U2 1) (σ:=Int) (ρ:=Empty) ps (λp _=>.inl p.value)
  (λi v=>{t:=aqT (ps.map V2) (i:Int),h:=(zb1 w sc st ob fI d5 til v),m:=[]}) (.exit 2) (λv=>{t:=aqE,h:=(zb1 w sc st ob fI d5 til v),m:=[]}) (λr=>r.elim)
  (λ_ _=>True) (by simp) (λr=>r.elim) ?_ ?_ v trivial
 ·rw[aM (λ_ p=>PtT.value p)] at this;exact this
 ·intro i p s hp _;have hi:=(Td.1 hp).1;exact⟨λ_ _=>trivial,Ow (rowAt hp rfl) (κ _ hi) (J3 hi hl)⟩
 ·intro s _;exact Ox (aR _ ps)
abbrev ptV(sc st ob fI d5:Int)(fs:AT):Int:=fF (aH sc st ob fI (S6.wrap (fI+1)) d5 fs) 0
abbrev acO(i:Int):bY:=Bn 47 0 [(zfJ 9),(zb9 5),(zda 6),zfR,(zfx 7),(zeq 11 3),(12,go 1),(13,go i)]
attribute [local irreducible] fF aH mx0
noncomputable abbrev zq(w:kc)(sc:Int)(st:Int)(ob:Int)(fI:Int)(d5:Int):aT:=[iI (ZA w),iI [go 0],iI [nq],.lk [(Z8 sc st ob)] 0 3,iI (ZA w),iI zga,iI [go fI],iI [go d5],Ζ,χ TJ Y 0 zbV {toList:=[26,27]} (ax (sub VP 0)) (ak (sub VP 0)),iI (Z8 sc st ob),iI [go sc,go st,go ob,go fI,(za1 fI),go 0]]
theorem zuE(hf:ah w.f)(hl:ah (aH sc st ob fI (S6.wrap (fI+1)) d5 w.f)):(CW S5 mX (zfA w sc st ob fI d5) N (sub U2 0) {t:=acO 0,h:=(zfA w sc st ob fI d5),m:=[]} NO {t:=acO 1,h:=acH w sc st ob fI d5 (mx0 (ptV sc st ob fI d5 w.f)) zeh ζ (H0 sc st ob fI (S6.wrap (fI+1)) (ptV sc st ob fI d5 w.f)),m:=[]}):=by have Pq:=(@aq_cw (w) (sc) (st) (ob) (fI) (d5) (S8 S6 (fI+1)) (0) (aH sc st ob fI (S8 S6 (fI+1)) d5 w.f) (hl));exact yx [δ (τ [0,1,2,3,4,11,12,13])] [(rfl:Φ 0 (S7 [(Z8 sc st ob)])=J),.e,.v (@iM sc st ob fI (S8 S6 (fI+1)) d5 (w.f) hf (zq w sc st ob fI d5)),.s [0,1,2,3,4,6,7,8,11,12,13,31,32,33] Pq,.j (@Ov w sc st ob fI d5 (S8 S6 (fI+1)) (fF (aH sc st ob fI (S8 S6 (fI+1)) d5 w.f) 0)),.e]
theorem Oy{num:Int}:(CW S5 mX (zfA w sc st ob fI d5) N (sub U2 0) {t:=acO 1,h:=acH w sc st ob fI d5 num zeh ζ (H0 sc st ob fI til v),m:=[]} (η 0) {t:=Bn 47 0 [],h:=acH w sc st ob fI d5 num zeh ζ (H0 sc st ob fI til v),m:=[]}):=yx zbN [.e]
theorem ac_cw{w:kc}(hf:ah w.f){sc st ob fI d5:Int}(hl:ah (aH sc st ob fI (S6.wrap (fI+1)) d5 w.f)):CW S5 mX (zfA w sc st ob fI d5) false (.loop (sub U2 0)) {t:=acO 0,h:=(zfA w sc st ob fI d5),m:=[]} (.exit 0) {t:=Bn 47 0 [],h:=acH w sc st ob fI d5 (mx0 (ptV sc st ob fI d5 w.f)) zeh .ready (H0 sc st ob fI (S6.wrap (fI+1)) (ptV sc st ob fI d5 w.f)),m:=[]}:=by
 have:=UR (P:=S5) (Γ:=mX) (h0:=(zfA w sc st ob fI d5)) (rd:=false) (c:=sub U2 0) (σ:=Bool) (ρ:=Empty) [()] (λ_ _=>.inl true)
  (λi b=>match b with
   | false=>{t:=acO (i:Int),h:=(zfA w sc st ob fI d5),m:=[]}
   | true=>{t:=acO (i:Int),h:=acH w sc st ob fI d5 (mx0 (ptV sc st ob fI d5 w.f)) zeh .ready (H0 sc st ob fI (S6.wrap (fI+1)) (ptV sc st ob fI d5 w.f)),m:=[]})
  (.exit 0) (λ_=>{t:=Bn 47 0 [],h:=acH w sc st ob fI d5 (mx0 (ptV sc st ob fI d5 w.f)) zeh .ready (H0 sc st ob fI (S6.wrap (fI+1)) (ptV sc st ob fI d5 w.f)),m:=[]}) (λr=>r.elim)
  (λi b=>b=lL (i=1)) (by simp) (λr=>r.elim) ?_ ?_ false rfl
 ·exact this
 ·intro i p b hp hb;have hi:i=0:=by have:=(Td.1 hp).1;simpa using this
  subst hi;simp at hb;subst hb;exact⟨λ_ h=>by cases h;rfl,zuE hf hl⟩
 ·intro b hb;simp at hb;subst hb;exact Oy
theorem FA(hf:ah w.f)(hl:ah (aH sc st ob fI (S6.wrap (fI+1)) d5 w.f)):(Ev S5 mX 169 [mW (.yl 9),mW (J0 5 0),mW (J0 6 0),mW (J0 4 0),mW (J0 7 0)] (zfA w sc st ob fI d5) (JV []) (acH w sc st ob fI d5 (mx0 (ptV sc st ob fI d5 w.f)) zeh ζ (H0 sc st ob fI (S6.wrap (fI+1)) (ptV sc st ob fI d5 w.f)))):=by have Pq:=(@ac_cw (w) (hf) (sc) (st) (ob) (fI) (d5) (hl));let v0:bY:=(ZA w);let v1:bY:=[go sc,go st,go ob,go fI,(za1 fI),go (ptV sc st ob fI d5 w.f)];exact Tw (yF (h':=[iI v0,iI [go (mx0 (ptV sc st ob fI d5 w.f))],iI (zbn 13 1),.lk [(Z8 sc st ob)] 0 3,iI v0,iI zga,iI [go fI],iI [go d5],Ζ,χ TJ Y 0 zbV {toList:=[26,27]} (ax (sub VP 0)) (ak (sub VP 0)),iI (Z8 sc st ob),iI v1,iI v1,.lk (zhI sc st ob fI) 1 5]) (d:=D.Ρ []) [.s [0,1,2,3,4,11,12,13] Pq]) ο ο
theorem Ji{w:kc}(hf:ah w.f){sc st ob fI d5:Int}(hl:ah (aH sc st ob fI (S6.wrap (fI+1)) d5 w.f)):CW S5 mX [] N (sub VP 0) {t:=acT,h:=acH0 w sc st ob fI d5 0 nq,m:=[]} NO
  {t:=acT,h:=acH w sc st ob fI d5 (mx0 (ptV sc st ob fI d5 w.f)) zeh zhL (H0 sc st ob fI (S6.wrap (fI+1)) (ptV sc st ob fI d5 w.f)),m:=[8]}:=by
 exact CW.rangeFunc (f:=169) (fi:=[]) (ca:=zb7) pok (s:={t:=acT,h:=acH0 w sc st ob fI d5 0 nq,m:=[]}) (g:=.tmp 25) (ps:=#[26,27]) (asg:=ax (sub VP 0)) (body:=ak (sub VP 0)) rfl Z (FA hf hl) rfl
theorem Jj(hf:ah w.f)(hl:ah (aH sc st ob fI (S6.wrap (fI+1)) d5 w.f))(h:aT):(Ev S5 mX 34 (zb5 w sc st ob fI (go d5)) h (JV [go (mx0 (ptV sc st ob fI d5 w.f)),kr (lL (mx0 (ptV sc st ob fI d5 w.f)>0)),ab [[vi sc,vi st,vi ob,vi fI,vi (S6.wrap (fI+1))]]]) h):=by have Pq:=(@Ji (w) (hf) (sc) (st) (ob) (fI) (d5) (hl));let v0:=ab (zbz sc st ob fI);exact y0 [.a1 zfF,.s [12,14,25] Pq,pr (zhI sc st ob fI),pr [(Z8 sc st ob)],po (Ω (mx0 (ptV sc st ob fI d5 w.f))),po (Ω (mx0 (ptV sc st ob fI d5 w.f))),pr (G v0),pr (G v0),.o (zed 13 (zbz sc st ob fI))] h
end Go.Vi
open Go Go.Proofs
namespace Go.Vi
set_option maxRecDepth 100000
set_option maxHeartbeats 4000000
variable {L R ks ls rs:bv}{a b c i k d5 n st fI til v:Int}{l0 r0:List (List Dp)}{w:kc}
def hkR(kd st:Int)(n:Nat):bv:=(T1 n).map λk:Nat=>[vi kd,vi st,vi (k:Int)]
theorem FB(kd st:Int)(n:Nat):(hkR kd st n).length=n:=by simp[hkR]
theorem FC(ks:List (List Dp))(a b c:Int):ad ks++[[go a,go b,go c]]=ad (ks++[[vi a,vi b,vi c]]):=u4 ks [vi a,vi b,vi c]
abbrev zi3(a:List (Nat×D))(b:bY)(c:List (bY)):AS:={t:=Bn 48 0 a,h:=[iI b,iI [nq],iI [nq],.lk (c) 0 3],m:=[]}
abbrev hkS(w:kc)(kd st fI d5:Int)(ks:List (List Dp))(n:Int):AS:={t:=Bn 48 0 [(1,go kd),(2,go st),(3,go fI),(4,go d5),(5,.ref (.ptr 0 0)),(10,.ref (.ptr 1 0)),(11,.ref (.ptr 2 0)),(12,.ref (.lk 3 0)),(16,go n)],h:=[.var w.l,.var [nq],.var [nq],.lk (ad ks) 0 3],m:=[]}
abbrev hkE(w:kc)(kd st fI d5:Int)(ks:bv):AS:=(zi3 [(1,go kd),(2,go st),(3,go fI),(4,go d5),zbK,WF,zat,(zeq 12 3)] w.l (ad ks))
theorem Oz{kd:Int}{n:Nat}{ks:List (List Dp)}(hk:ks.length<=100)(xD:lL ((n:Int)<8)=true)(hw:S6.wrap ((n:Int)+1)=((n+1:Nat):Int)):(CW S5 mX [] false (sub UQ 0) (hkS w kd st fI d5 ks n) .normal (hkS w kd st fI d5 (ks++[[vi kd,vi st,vi (n:Int)]]) ((n+1:Nat):Int))):=by
 refine yX {t:=Bn 48 0 [(1,go kd),(2,go st),(3,go fI),(4,go d5),(5,.ref (.ptr 0 0)),(10,.ref (.ptr 1 0)),(11,.ref (.ptr 2 0)),(12,.ref (.lk 3 0)),(16,go (S8 S6 ((↑n:Int)+1)))],h:=[.var [ab (S2 Tc w.c),ab w.p,ab (S2 Tj w.s),ab (S2 Ta w.f)],.var [nq],.var [nq],.lk (ad ks++[[go kd,go st,go (↑n:Int)]]) 0 3],m:=[]} Tr [.st (.mask [1,2,3,4,5,10,11,12,16]),.st (.ren 3 0),.st (.trim 4)] [.b xD,((by grind [aL,Zk,Up,L8]):(Tq [[go kd,go st,go (↑n:Int)]] (aL 3)&&L8 (S7 (ad ks)+S7 [[go kd,go st,go (↑n:Int)]]) 24)=true),(?_:S2 (Tz (ar 3 1 0)) (ad ks++[[go kd,go st,go (↑n:Int)]])=ad ks++[[go kd,go st,go (↑n:Int)]]),pr [[go kd,go st,go (↑n:Int)]],(?_:Tq (ad ks++[[go kd,go st,go (↑n:Int)]]) (TL 4)=true)] (by grind) (by simp only[hw,hkS,ad,Uh,U5,Yi];rfl)<;>(first|(rw[FC];exact aB _ _)|(rw[FC];exact aD _ _))
theorem OA{kd:Int}:(CW S5 mX [] N (sub UQ 0) (hkS w kd st fI d5 ks 8) (η 0) (hkE w kd st fI d5 ks)):=yx [δ (τ [1,2,3,4,5,10,11,12])] [.e]
theorem hk_cw{kd:Int}:CW S5 mX [] false (.loop (sub UQ 0)) (hkS w kd st fI d5 [] 0) (.exit 0) (hkE w kd st fI d5 (hkR kd st 8)):=by
 refine CW.znq 8 (λi=>hkS w kd st fI d5 (hkR kd st i) (i:Int)) (by simp[hkR]) (λi hi=>?_) OA;have e:hkR kd st (i+1)=hkR kd st i++[[vi kd,vi st,vi (i:Int)]]:=by simp[hkR,Xe]
 rw[e];exact Oz (by rw[FB];omega) (decide_eq_true (by omega)) (by rw[wrap_i64 (by omega) (by omega)];omega)
abbrev zbh:bY:=(zie (J0 7 0) 8 6 9)
abbrev hdT:bY:=Bn 48 0 [WF,zat,(31,.fn (.func 169) [] zbh)]
noncomputable abbrev hdL(st:LoopState):F2:=χ st Y 0 hdT #[32,33] (ax (sub UQ 1)) (ak (sub UQ 1))
noncomputable abbrev hdH0(w:kc)(ks:bv)(fI d5:Int)(e:Nat)(ls rs:bv):aT :=[iI w.l,iI (zbn 4 e),iI (zbn 5 e),S3,.lk (ad ls) e 1,.lk (ad rs) e 5,iI w.l,iI [ab ks],iI [go fI],iI [go d5]]
noncomputable abbrev hdH(w:kc)(ks:List (List Dp))(fI d5:Int)(e:Nat)(ls rs:List (List Dp))(lp:LoopState)(more:List F2):List F2 :=
 [.var w.l,.var [.ref (.lk 4 e)],.var [.ref (.lk 5 e)],.ν,.lk (ad ls) e 1,.lk (ad rs) e 5,.var w.l,.var [ab ks],.var [go fI],.var [go d5],.zaB,hdL lp]++more
abbrev hdU(i:Int):bY:=Bn 48 0 [WF,zat,(14,go i),(15,mW (J0 14 0))]
theorem hd_asg:(CW S5 mX (hdH w ks fI d5 1 ls rs ζ (acM a b c fI til v)) J (ax (sub UQ 1)) {t:=dD hdT [(32,go i),(33,uT (acX a b c fI til v))],h:=hdH w ks fI d5 1 ls rs ζ (acM a b c fI til v),m:=[]} NO {t:=hdU i,h:=hdH w ks fI d5 1 ls rs ζ (zdh a b c fI til v),m:=[]}):=yx [δ (τ [10,11,14,15])] []
def hlF(v i:Int)(ls:bv):bv:=bif v==1 then ls++[[vi i]] else ls
theorem uM(ks:bv)(a b c d e:Int):ad ks++[[go a,go b,go c,go d,go e]]=ad (ks++[[vi a,vi b,vi c,vi d,vi e]]):=u4 ks [vi a,vi b,vi c,vi d,vi e]
theorem LX(ks:bv)(a:Int):ad ks++[[go a]]=ad (ks++[[vi a]]):=u4 ks [vi a]
abbrev zgf:Array Tmp:={toList:=[32,33]}
abbrev zgj(a:iS)(b c:Nat):Do:=[δ (τ a),δ (.ren 4 b),δ (.ren 5 b),δ (zkm c)]
abbrev zhY:bY:=(Bn 48 0 [WF,zat,(31,UL (TM 169) [] zbh)])
theorem OB(hl:ls.length<=100)(hr:rs.length<=100):(CW S5 mX (hdH w ks fI d5 1 ls rs ζ (acM a b c fI til v)) J (ak (sub UQ 1)) {t:=hdU i,h:=hdH w ks fI d5 1 ls rs zfB (zdh a b c fI til v),m:=[]} NO {t:=Bn 48 0 [],h:=hdH w ks fI d5 2 (hlF v i ls) (rs++[[vi a,vi b,vi c,vi fI,vi til]]) zfB (zdh a b c fI til v),m:=[]}):=by
 cases F3:v==1;·let v0:bY:=[go a,go b,go c,go fI,go til];let v1:bY:=(ZA w);refine yX {t:=Bn 48 0 [],h:=[iI v1,iI (zbn 4 2),iI (zbn 5 2),S3,.lk (ad ls) 2 1,.lk (ad rs++[v0]) 2 5,iI v1,iI [ab ks],iI [go fI],iI [go d5],Ζ,χ TX Y 0 zhY zgf (ax (sub UQ 1)) (ak (sub UQ 1)),iI (Z8 a b c),iI (zew a b c fI til v),iI (zew a b c fI til v)],m:=[]} Tr (zgj [] 2 15) [(?_:(Tq [v0] (aL 5)&&L8 (S7 (ad rs)+S7 [v0]) 40)=J),.b F3,(?_:S2 (Tz (ar 4 1 2)) (ad ls)=ad ls),(?_:S2 (Tz (ar 4 1 2)) (ad rs++[v0])=ad rs++[v0]),pr [v0],(?_:S2 (Tz (ar 5 2 2)) (ad rs++[v0])=ad rs++[v0]),(?_:S2 (Tz (ar 5 2 2)) (ad ls)=ad ls),pr [v0],(?_:Tq (ad ls) (TL 15)=J),(?_:Tq (ad rs++[v0]) (TL 15)=J)] (by subst v0 v1;grind) (by subst v0 v1;(have hh:(v==1)=N:=F3;simp only[hlF,hh,cond_false,hdH,ad,Uh,U5,Yi];first|done|rfl))<;>subst v0 v1<;>(first|exact aB _ _|exact aD _ _|(rw[uM];exact aB _ _)|(rw[uM];exact aD _ _)|(simp[aL,Zk,Up,L8];omega))
 ·let v0:bY:=[go a,go b,go c,go fI,go til];let v1:bY:=(ZA w);refine yX (zkk 48 [iI v1,iI (zbn 4 2),iI (zbn 5 2),S3,.lk (ad ls++[[go i]]) 2 1,.lk (ad rs++[v0]) 2 5,iI v1,iI [ab ks],iI [go fI],iI [go d5],Ζ,χ TX Y 0 zhY zgf (ax (sub UQ 1)) (ak (sub UQ 1)),iI (Z8 a b c),iI (zew a b c fI til v),iI (zew a b c fI til v)]) Tr (zgj [] 2 15) [(?_:(Tq [v0] (aL 5)&&L8 (S7 (ad rs)+S7 [v0]) 40)=J),.b F3,((by subst v0 v1;grind [aL,Zk,Up,L8]):(Tq [[go i]] (aL 1)&&L8 (S7 (ad ls)+S7 [[go i]]) 8)=J),(?_:S2 (Tz (ar 4 2 2)) (ad ls++[[go i]])=ad ls++[[go i]]),(?_:S2 (Tz (ar 4 2 2)) (ad rs++[v0])=ad rs++[v0]),pr [v0],pr [[go i]],(?_:S2 (Tz (ar 5 2 2)) (ad rs++[v0])=ad rs++[v0]),(?_:S2 (Tz (ar 5 2 2)) (ad ls++[[go i]])=ad ls++[[go i]]),pr [v0],pr [[go i]],(?_:Tq (ad ls++[[go i]]) (TL 15)=J),(?_:Tq (ad rs++[v0]) (TL 15)=J)] (by subst v0 v1;grind) (by subst v0 v1;(have hh:(v==1)=J:=F3;simp only[hlF,hh,cond_true,hdH,ad,Uh,U5,Yi];first|done|rfl))<;>subst v0 v1<;>(first|(rw[uM];exact aB _ _)|(rw[uM];exact aD _ _)|(rw[LX];exact aB _ _)|(rw[LX];exact aD _ _)|(simp[aL,Zk,Up,L8];omega))
theorem OC{w:kc}{ks ls rs:bv}{fI d5 i a b c til v:Int}(hl:ls.length<=100)(hr:rs.length<=100):Iv S5 mX (mW (.yl 11)) [go i,uT (acX a b c fI til v)] (hdH w ks fI d5 1 ls rs ζ (acM a b c fI til v)) (kr J) (hdH w ks fI d5 2 (hlF v i ls) (rs++[[vi a,vi b,vi c,vi fI,vi til]]) ζ (zdh a b c fI til v)) :=Iv.round (h1:=hdH w ks fI d5 1 ls rs ζ (zdh a b c fI til v)) rfl rfl hd_asg rfl (OB hl hr) rfl
abbrev zgT:Nat×D:=(0,mW (.yl 11))
abbrev bqT(ks:bv)(n:Int)(k:Int)(ps:bv)(i:Int):bY:=Bn 47 0 [zgT,(zb9 7),(zda 8),zds,(zfx 9),(6,go k),(zfb 12),(zeE 13),(11,ab ks),(12,go n),(13,go k),(31,ab ps),(32,go ps.length),(33,go i)]
abbrev bqE(ks:bv)(n:Int)(k:Int):bY:=Bn 47 0 [zgT,(zb9 7),(zda 8),zds,(zfx 9),(6,go k),(zfb 12),(zeE 13),(11,ab ks),(12,go n),(13,go k)]
theorem OD{ks ls rs:List (List Dp)}{ps:List (List Dp)}{p:PtT}{i:Nat}(hr:ao (i:Int) ps p.row 2)(xD:lL ((i:Int)<(ps.length:Int))=true)(hw:S6.wrap ((i:Int)+1)=((i+1:Nat):Int)):(CW S5 mX (hdH w ks fI d5 0 l0 r0 .ready []) false (sub U2 1) {t:=bqT ks n k ps i,h:=hdH w ks fI d5 1 ls rs .ready (acM a b c fI til v),m:=[]} .normal {t:=bqT ks n k ps ((i+1:Nat):Int),h:=hdH w ks fI d5 1 ls rs .ready (acM a b c fI til p.value),m:=[]}):=by
 let v0:List D:=[ab (S2 Tc w.c),ab w.p,ab (S2 Tj w.s),ab (S2 Ta w.f)]
 refine yX {t:=Bn 47 0 [(0,.ref (.yl 11)),(1,.ref (.ptr 7 0)),(2,.ref (.ptr 8 0)),(3,.ref (.ptr 6 0)),(4,.ref (.ptr 9 0)),(6,go k),(7,.ref (.ptr 12 0)),(8,.ref (.ptr 13 0)),(11,ab ks),(12,go n),(13,go k),(31,ab ps),(32,go (↑(S7 ps):Int)),(33,go (S8 S6 ((↑i:Int)+1)))],h:=[.var v0,.var [.ref (.lk 4 1)],.var [.ref (.lk 5 1)],.ν,.lk (ad ls) 1 1,.lk (ad rs) 1 5,.var v0,.var [ab ks],.var [go fI],.var [go d5],.zaB,.loop TJ none 0 (Bn 48 0 [(10,.ref (.ptr 1 0)),(11,.ref (.ptr 2 0)),(31,UL (TM 169) [] [.ref (.ptr 7 0),.ref (.ptr 8 0),.ref (.ptr 6 0),.ref (.ptr 9 0)])]) {toList:=[32,33]} (ax (sub UQ 1)) (ak (sub UQ 1)),.var [go a,go b,go c],.var [go a,go b,go c,go fI,go til,go p.value]],m:=[]} Tr [.st (.mask [0,1,2,3,4,6,7,8,11,12,13,31,32,33]),.st (.trim 14)] [.b xD,.r hr,(?_:Tq (ad ls) (TL 14)=true),(?_:Tq (ad rs) (TL 14)=true)] (by subst v0;grind) (by subst v0;(rw[hw];rfl))<;>subst v0<;>(exact aD _ _)
theorem OE{l0 r0:bv}{ps:bv}{i:Nat}(xD:lL ((i:Int)<(ps.length:Int))=N):(CW S5 mX (hdH w ks fI d5 0 l0 r0 ζ []) N (sub U2 1) {t:=bqT ks n k ps i,h:=hdH w ks fI d5 1 ls rs ζ (acM a b c fI til v),m:=[]} (η 2) {t:=bqE ks n k,h:=hdH w ks fI d5 1 ls rs ζ (acM a b c fI til v),m:=[]}):=yx [δ (τ [0,1,2,3,4,6,7,8,11,12,13])] [.b xD]
theorem bq_cw{w:kc}{ks ls rs l0 r0:bv}{n k a b c fI d5 til v:Int}{ps:List PtT}(hl:ah ps):CW S5 mX (hdH w ks fI d5 0 l0 r0 .ready []) false (.loop (sub U2 1)) {t:=bqT ks n k (ps.map V2) 0,h:=hdH w ks fI d5 1 ls rs .ready (acM a b c fI til v),m:=[]} (.exit 2) {t:=bqE ks n k,h:=hdH w ks fI d5 1 ls rs .ready (acM a b c fI til (fF ps v)),m:=[]}:=by
 have:=UR (P:=S5) (Γ:=mX) (h0:=hdH w ks fI d5 0 l0 r0 .ready []) (rd:=false) (c:=sub U2 1) (σ:=Int) (ρ:=Empty) ps (λp _=>.inl p.value)
  (λi v=>{t:=bqT ks n k (ps.map V2) (i:Int),h:=hdH w ks fI d5 1 ls rs .ready (acM a b c fI til v),m:=[]}) (.exit 2) (λv=>{t:=bqE ks n k,h:=hdH w ks fI d5 1 ls rs .ready (acM a b c fI til v),m:=[]}) (λr=>r.elim)
  (λ_ _=>True) (by simp) (λr=>r.elim) ?_ ?_ v trivial
 ·rw[aM (λ_ p=>PtT.value p)] at this;exact this
 ·intro i p s hp _;have hi:=(Td.1 hp).1;exact⟨λ_ _=>trivial,OD (rowAt hp rfl) (κ _ hi) (J3 hi hl)⟩
 ·intro s _;exact OE (aR _ ps)
abbrev hdO(ks:bv)(n i:Int):bY:=Bn 47 0 [zgT,(zb9 7),(zda 8),zds,(zfx 9),(11,ab ks),(12,go n),(13,go i)]
attribute [local irreducible] fF aH hlF
abbrev rdW(kd st:Int)(i:Nat)(fI:Int):dO:=[vi kd,vi st,vi (i:Int),vi fI,vi (S6.wrap (fI+1))]
noncomputable abbrev zr(w:kc)(ks:bv)(ls:bv)(rs:bv)(kd:Int)(st:Int)(fI:Int)(d5:Int)(i:Nat):aT:=[iI (ZA w),iI zcr,iI zel,S3,.lk (ad ls) 1 1,.lk (ad rs) 1 5,iI (ZA w),iI [ab ks],iI [go fI],iI [go d5],Ζ,χ TJ Y 0 zhY zgf (ax (sub UQ 1)) (ak (sub UQ 1)),iI [go kd,go st,(zaS i)],iI [go kd,go st,(zaS i),go fI,(za1 fI),go 0]]
theorem Jk(hf:ah w.f){ks ls rs:List (List Dp)}{kd:Int}{i:Nat}(hr:ao (i:Int) ks [vi kd,vi st,vi (i:Int)] 3)(xD:lL ((i:Int)<n)=true)(hw:S6.wrap ((i:Int)+1)=((i+1:Nat):Int))(hl:ah (aH kd st i fI (S6.wrap (fI+1)) d5 w.f))(hll:ls.length<=100)(hrr:rs.length<=100):(CW S5 mX (hdH w ks fI d5 0 l0 r0 .ready []) false (sub U2 0) {t:=hdO ks n i,h:=hdH w ks fI d5 1 ls rs .ready [],m:=[]} .normal {t:=hdO ks n ((i+1:Nat):Int),h:=hdH w ks fI d5 1 (hlF (ptV kd st i fI d5 w.f) i ls) (rs++[rdW kd st i fI]) .ready [],m:=[]}):=by
 have Pq:=(@bq_cw (w) (ks) (ls) (rs) (l0) (r0) (n) ((↑i:Int)) (kd) (st) ((↑i:Int)) (fI) (d5) (S8 S6 (fI+1)) (0) (aH kd st (↑i:Int) fI (S8 S6 (fI+1)) d5 w.f) (hl))
 let v0:List D:=[ab (S2 Tc w.c),ab w.p,ab (S2 Tj w.s),ab (S2 Ta w.f)]
 refine yX {t:=Bn 47 0 [(0,.ref (.yl 11)),(1,.ref (.ptr 7 0)),(2,.ref (.ptr 8 0)),(3,.ref (.ptr 6 0)),(4,.ref (.ptr 9 0)),(11,ab ks),(12,go n),(13,go (S8 S6 ((↑i:Int)+1)))],h:=[.var v0,.var [.ref (.lk 4 1)],.var [.ref (.lk 5 1)],.ν,.lk (ad (hlF (fF (aH kd st (↑i:Int) fI (S8 S6 (fI+1)) d5 w.f) 0) (↑i:Int) ls)) 1 1,.lk (ad (rs++[[vi kd,vi st,vi (↑i:Int),vi fI,vi (S8 S6 (fI+1))]])) 1 5,.var v0,.var [ab ks],.var [go fI],.var [go d5],.zaB,.loop TJ none 0 (Bn 48 0 [(10,.ref (.ptr 1 0)),(11,.ref (.ptr 2 0)),(31,UL (TM 169) [] [.ref (.ptr 7 0),.ref (.ptr 8 0),.ref (.ptr 6 0),.ref (.ptr 9 0)])]) {toList:=[32,33]} (ax (sub UQ 1)) (ak (sub UQ 1))],m:=[]} Tr [.st (.mask [0,1,2,3,4,11,12,13]),.st (.ren 4 1),.st (.ren 5 1),.st (.trim 12)] [.b xD,.r hr,.v (@iM kd st (↑i:Int) fI (S8 S6 (fI+1)) d5 (w.f) hf (zr w ks ls rs kd st fI d5 i)),.s [0,1,2,3,4,6,7,8,11,12,13,31,32,33] Pq,.j (@OC w ks ls rs fI d5 (↑i:Int) kd st (↑i:Int) (S8 S6 (fI+1)) (fF (aH kd st (↑i:Int) fI (S8 S6 (fI+1)) d5 w.f) 0) hll hrr),.b (rfl:(!true)=false),(?_:S2 (Tz (ar 4 2 1)) (ad (hlF (fF (aH kd st (↑i:Int) fI (S8 S6 (fI+1)) d5 w.f) 0) (↑i:Int) ls))=ad (hlF (fF (aH kd st (↑i:Int) fI (S8 S6 (fI+1)) d5 w.f) 0) (↑i:Int) ls)),(?_:S2 (Tz (ar 4 2 1)) (ad (rs++[[vi kd,vi st,vi (↑i:Int),vi fI,vi (S8 S6 (fI+1))]]))=ad (rs++[[vi kd,vi st,vi (↑i:Int),vi fI,vi (S8 S6 (fI+1))]])),(?_:S2 (Tz (ar 5 2 1)) (ad (rs++[[vi kd,vi st,vi (↑i:Int),vi fI,vi (S8 S6 (fI+1))]]))=ad (rs++[[vi kd,vi st,vi (↑i:Int),vi fI,vi (S8 S6 (fI+1))]])),(?_:S2 (Tz (ar 5 2 1)) (ad (hlF (fF (aH kd st (↑i:Int) fI (S8 S6 (fI+1)) d5 w.f) 0) (↑i:Int) ls))=ad (hlF (fF (aH kd st (↑i:Int) fI (S8 S6 (fI+1)) d5 w.f) 0) (↑i:Int) ls)),(?_:Tq (ad (hlF (fF (aH kd st (↑i:Int) fI (S8 S6 (fI+1)) d5 w.f) 0) (↑i:Int) ls)) (TL 12)=true),(?_:Tq (ad (rs++[[vi kd,vi st,vi (↑i:Int),vi fI,vi (S8 S6 (fI+1))]])) (TL 12)=true)] (by subst v0;grind) (by subst v0;(rw[hw];rfl))<;>subst v0<;>(first|exact aD _ _|exact aB _ _)
theorem OG{l0 r0:bv}(xD:lL (i<n)=N):(CW S5 mX (hdH w ks fI d5 0 l0 r0 ζ []) N (sub U2 0) {t:=hdO ks n i,h:=hdH w ks fI d5 1 ls rs ζ [],m:=[]} (η 0) {t:=Bn 47 0 [],h:=hdH w ks fI d5 1 ls rs ζ [],m:=[]}):=yx zbN [.b xD]
def hlR(kd st fI d5:Int)(fs:AT)(n:Nat):bv:=(T1 n).foldl (λls k=>hlF (ptV kd st (k:Nat) fI d5 fs) (k:Nat) ls) []
def hrR(kd st fI:Int)(n:Nat):bv:=(T1 n).map λk=>rdW kd st k fI
theorem OH(v i:Int)(ls:bv):(hlF v i ls).length<=ls.length+1:=by unfold hlF;grind
theorem FD{kd st fI d5:Int}{fs:AT}:∀n:Nat,(hlR kd st fI d5 fs n).length<=n
 |0=>by simp[hlR]
 |n+1=>by have h:=FD (kd:=kd) (st:=st) (fI:=fI) (d5:=d5) (fs:=fs) n;unfold hlR at h ⊢;rw[Xe,Ym];simp only[TG,List.foldl_nil];exact Nat.le_trans (OH _ _ _) tj
noncomputable abbrev ze1(a:bv)(b:kc)(c d:Int):AS:={t:=hdO a a.length 0,h:=hdH b a c d 1 [] [] ζ [],m:=[]}
theorem hd_cw(hf:ah w.f){kd:Int}{ks:List (List Dp)}(hk:ks=hkR kd st 8)(hl:∀i:Nat,ah (aH kd st i fI (S6.wrap (fI+1)) d5 w.f)):CW S5 mX (hdH w ks fI d5 0 [] [] .ready []) false (.loop (sub U2 0)) {t:=hdO ks ks.length 0,h:=hdH w ks fI d5 1 [] [] .ready [],m:=[]} (.exit 0) {t:=Bn 47 0 [],h:=hdH w ks fI d5 1 (hlR kd st fI d5 w.f 8) (hrR kd st fI 8) .ready [],m:=[]}:=by
 have h8:ks.length=8:=by rw[hk,FB]
 rw[h8]
 refine CW.znq 8 (λi=>{t:=hdO ks (8:Nat) (i:Int),h:=hdH w ks fI d5 1 (hlR kd st fI d5 w.f i) (hrR kd st fI i) .ready [],m:=[]}) (by simp) (λi hi=>?_) (OG (by simp))
 have e1:hlR kd st fI d5 w.f (i+1)=hlF (ptV kd st i fI d5 w.f) i (hlR kd st fI d5 w.f i):=by unfold hlR;rw[Xe,Ym];rfl
 have e2:hrR kd st fI (i+1)=hrR kd st fI i++[rdW kd st i fI]:=by simp[hrR,Xe]
 rw[e1,e2]
 have h1:=FD (kd:=kd) (st:=st) (fI:=fI) (d5:=d5) (fs:=w.f) i
 refine Jk hf ?_ (decide_eq_true (by omega)) (by rw[wrap_i64 (by omega) (by omega)];omega) (hl i) (by omega) (by simp[hrR];omega)
 have:(T1 8)[i]? = some i:=by simp[hi]
 rw[hk]
 exact rowAt (row:=λk:Nat=>[vi kd,vi st,vi (k:Int)]) this rfl
theorem FE(hc:CW S5 mX (hdH w ks fI d5 0 [] [] .ready []) false (.loop (sub U2 0)) (ze1 ks w fI d5) (.exit 0) (zkk 47 (hdH w ks fI d5 1 L R .ready []))):(Ev S5 mX 169 [.ref (.yl 11),.ref (.ptr 7 0),.ref (.ptr 8 0),.ref (.ptr 6 0),.ref (.ptr 9 0)] (hdH w ks fI d5 0 [] [] .ready []) (.Ρ []) (hdH w ks fI d5 1 L R .ready [])):=by have Pq:=(@hc);let v0:bY:=(ZA w);exact Tw (yF (h':=[.var v0,.var zcr,.var zel,.ν,.lk (ad L) 1 1,.lk (ad R) 1 5,.var v0,.var [ab ks],.var [go fI],.var [go d5],.zaB,.loop TJ none 0 zhY zgf (ax (sub UQ 1)) (ak (sub UQ 1))]) (d:=D.Ρ []) [(rfl:zdP=[]),(rfl:zdP=[]),(rfl:zdP=[]),(rfl:zdP=[]),.o (.ren 4 1),.o (.ren 5 1),.s [0,1,2,3,4,11,12,13] Pq]) (by rfl) (by rfl)
theorem Jl{w:kc}{fI d5:Int}{ks L R:bv}(hc:CW S5 mX (hdH w ks fI d5 0 [] [] .ready []) false (.loop (sub U2 0)) (ze1 ks w fI d5) (.exit 0) (zkk 47 (hdH w ks fI d5 1 L R .ready []))):CW S5 mX [] false (sub UQ 1) {t:=hdT,h:=hdH0 w ks fI d5 0 [] [],m:=[]} .normal
  {t:=hdT,h:=hdH w ks fI d5 1 L R .exhausted [],m:=[10]}:=by
 exact CW.rangeFunc (f:=169) (fi:=[]) (ca:=zbh) pok (s:={t:=hdT,h:=hdH0 w ks fI d5 0 [] [],m:=[]}) (g:=.tmp 31) (ps:=#[32,33]) (asg:=ax (sub UQ 1)) (body:=ak (sub UQ 1)) rfl (by kernel_rfl) (FE hc) rfl
theorem of86_a{kd:Int}(hk:CW S5 mX [] false (.loop (sub UQ 0)) (hkS w kd st fI d5 [] 0) (.exit 0) (hkE w kd st fI d5 ks))(hc:CW S5 mX (hdH w ks fI d5 0 [] [] .ready []) false (.loop (sub U2 0)) (ze1 ks w fI d5) (.exit 0) (zkk 47 (hdH w ks fI d5 1 L R .ready [])))(h:aT):(Ev S5 mX 86 (zdQ w kd st fI (go d5)) h (.Ρ [ab L,ab R]) h):=by have Pq:=(@hk);have hl1:=(@Jl (w) (fI) (d5) (ks) (L) (R) (hc));refine y0 [.n 3,.o (.zpx 12 3),.s [1,2,3,4,5,10,11,12,16] Pq,(?_:ad ks=S2 (λx=>S2 Us x) ks),.o (.frz 3 ks),.o (.zjT 1 0 1),.o (.zjT 2 0 5),.a1 .inl,.s [10,11,31] hl1,(?_:ad L=S2 (λx=>S2 Us x) L),(?_:S2 (Tz (cw 4 1 L)) (ad R)=ad R),(?_:ad R=S2 (λx=>S2 Us x) R),po (some (ab L)),po (some (ab R)),po (some (ab R)),.o (.frz 4 L),.o (.frz 5 R)] h<;>(first|rfl|exact aB _ _)
end Go.Vi
open Go Go.Proofs
namespace Go.Vi
set_option maxRecDepth 100000
set_option maxHeartbeats 4000000
variable {L nm nw rs:bv}{b1 b2 ok pet:Bool}{c:L9}{e d5 last n num ob st fI:Int}{h0:aT}{i:Nat}{q1 q2 q3 q4:iF}{s:zaN}{s':AS}{w:kc}
theorem xw{kk ks ko uR to:Int}{l:AT}:ah (aH kk ks ko uR to d5 l):=by have:=dq (kk:=kk) (ks:=ks) (ko:=ko) (uR:=uR) (to:=to) (d5:=d5) (l:=l);unfold ah;omega
theorem OI{w:kc}(hf:ah w.f){kd st fI d5:Int}(h:aT):Ev S5 mX 86 (zdQ w kd st fI (go d5)) h (JV [ab (hlR kd st fI d5 w.f 8),ab (hrR kd st fI 8)]) h :=of86_a hk_cw (hd_cw hf rfl λ_=>xw) h
noncomputable abbrev CN(w:kc):aT:=[iI (ZA w)]
theorem OJ(hf:ah w.f)(h:aT):(Ev S5 mX 31 (zbE w st fI d5) h (JV [ab (hlR 6 st fI d5 w.f 8),ab (hrR 6 st fI 8)]) h):=y0 [.v (@OI w hf 6 st fI d5 (CN w))] h
def CO(sc st ob fI d5:Int)(fs:AT):Int:=mx0 (ptV sc st ob fI d5 fs)
abbrev actQ(sc st ob fI:Int):bv:=[[vi sc,vi st,vi ob,vi fI,vi (S6.wrap (fI+1))]]
theorem FF(hf:ah w.f){sc:Int}(h:aT):Ev S5 mX 34 (zb5 w sc st ob fI (go d5)) h (JV [go (CO sc st ob fI d5 w.f),kr (lL (CO sc st ob fI d5 w.f>0)),ab (actQ sc st ob fI)]) h :=Jj hf xw h
abbrev akS(st ob fI:Int)(nw:bv)(last i:Int):AS:={t:=Bn 49 0 [(0,go st),(1,go ob),(2,go fI),(9,go last),(12,ab nw),(13,go nw.length),(14,go i)],h:=[],m:=[]}
abbrev akE(st ob fI:Int):AS:={t:=Bn 49 0 [(0,go st),(1,go ob),(2,go fI)],h:=[],m:=[]}
abbrev akX:Unit->Exit×AS:=λ_=>(.ret,{t:=Bn 49 0 [(8,kr N)],h:=[],m:=[]})
def akF(c:Int)(last:Int):Int⊕Unit:=bif lL (c<=last)||lL (c>=4096) then .inr () else .inl c
theorem OK{c:Int}{nw:List (List Dp)}(hr:ao (i:Int) nw [vi c] 1)(xD:lL ((i:Int)<(nw.length:Int))=true)(hw:S6.wrap ((i:Int)+1)=((i+1:Nat):Int)):(CW S5 mX [] false (sub Tryz.f28 0) (akS st ob fI nw last i) (ai (λl=>akS st ob fI nw l ((i+1:Nat):Int)) akX (akF c last)).1 (ai (λl=>akS st ob fI nw l ((i+1:Nat):Int)) akX (akF c last)).2):=by
 cases F3:lL (c<=last)||lL (c>=4096)
 ·exact yX {t:=Bn 49 0 [(0,go st),(1,go ob),(2,go fI),(9,go c),(12,ab nw),(13,go (↑(S7 nw):Int)),(14,go (S8 S6 ((↑i:Int)+1)))],h:=[],m:=[]} Tr [.st (.mask [0,1,2,9,12,13,14])] [.b xD,.r hr,.b F3] (by simp[akF,F3,ai];done) (by simp[akF,F3,ai,hw];done)
 ·refine yX {t:=Bn 49 0 [(8,kr false)],h:=[],m:=[]} Exit.ret [.st (.mask [8])] [.b xD,.r hr,.b F3] ?_ ?_<;>(simp[akF,F3,ai];done)
theorem OL(xD:lL ((i:Int)<(nw.length:Int))=N):(CW S5 mX [] N (sub Tryz.f28 0) (akS st ob fI nw last i) (η 0) (akE st ob fI)):=yx [δ (τ [0,1,2])] [.b xD]
def OM(st ob fI:Int)(nw:bV):Exit×AS:=bf (η 0) (λ_:Int=>akE st ob fI) akX (Pu akF nw (-1))
theorem ak_cw{st ob fI:Int}{nw:bV}(hl:ah nw):CW S5 mX [] false (.loop (sub Tryz.f28 0)) (akS st ob fI (zaQ nw) (-1) 0) (OM st ob fI nw).1 (OM st ob fI nw).2:=by
 refine UR nw akF (λi l=>akS st ob fI (zaQ nw) l (i:Int)) (.exit 0) (λ_=>akE st ob fI) akX (λ_ _=>True) (by simp) (λ_=>by simp[akX]) ?_ ?_ (-1) trivial;·intro i c l hc _;have hi:=(Td.1 hc).1;exact⟨λ_ _=>trivial,OK (rowAt (row:=λn:Int=>[vi n]) hc rfl) (κ (λn:Int=>[vi n]) hi) (J3 hi hl)⟩
 ·intro l _;exact OL (aR (λn:Int=>[vi n]) nw)
def qx(st ob fI:Int)(nw:bV):Bool:=match Pu akF nw (-1) with
 |.inl _=>lL (st>=0)&&lL (st<20000)&&lL (ob>=0)&&lL (ob<4096)&&lL (fI>=0)&&lL (fI<1024)
 |.inr _=>N
theorem Jm{nw:bV}(hl:ah nw)(h:aT):(Ev S5 mX 28 [go st,go ob,go fI,ab (zaQ nw)] h (kr (qx st ob fI nw)) h):=by
 have Pq:=(@ak_cw (st) (ob) (fI) (nw) (hl));unfold OM at Pq;revert Pq;cases ho1:Pu akF nw (-1) with
 |inl ξ=>intro Pq;exact yD (kr (lL (st>=0)&&lL (st<20000)&&lL (ob>=0)&&lL (ob<4096)&&lL (fI>=0)&&lL (fI<1024))) [.s [0,1,2,9,12,13,14] Pq] h (by simp[qx,ho1];done)
 |inr zce=>intro Pq;exact yD (kr N) [.s [0,1,2,9,12,13,14] Pq] h (by simp[qx,ho1];done)
def Bg(ok:Bool)(n:Int):bV:=bif ok then [n] else []
theorem OO(h:aT):(Ev S5 mX 36 [kr N,go n] h (ab []) h):=Tw (Ev.zkv (y0 (d:=nq) [.e] h)) ο ο
theorem OP:(Ev S5 mX 36 [kr J,go n] [] (ab [[vi n]]) []):=Tw (Ev.post (d2:=ab [[vi n]]) (h2:=[]) (φ:=[[[go n]]=[[go n]]]) [δ (zed 0 [[vi n]]),δ (zkm 0)] (yF (h':=[.lk [[go n]] 0 1]) (d:=mW (.lk 0 0)) [.e]) Z ⟨rfl,trivial⟩) ο ο
theorem Jn(h:aT):Ev S5 mX 36 [kr ok,go n] h (ab ((Bg ok n).map λn=>[vi n])) h:=by
 cases ok;·exact OO h
 ·exact Ev.zkE rfl OP h
abbrev amZ:bY:=ZR
abbrev amH(w:kc)(st ob fI d5:Int)(nw:bv)(dc:bY)(e:Int)(rd:D):aT :=[iI w.l,iI [go st],iI [go ob],iI [go fI],iI [go d5],iI [ab nw],iI dc,iI [go e],iI [rd]]
abbrev amA(w:kc)(st ob fI d5:Int)(nw:bv):aT:=amH w st ob fI d5 nw amZ 0 nq
abbrev zbI(a:Nat)(b:D):bY:=Bn 116 0 [(zhA 6 0),(7,mW (J0 1 0)),(8,mW (J0 2 0)),(zhA 9 3),(zjk 4),(11,mW (J0 5 0)),(zhA 12 6),(zhA 13 7),(a,b)]
abbrev amS(w:kc)(st ob fI d5:Int)(nw:bv):AS:={t:=(zbI 15 (.fn (.func 29) [] (zjG 8))),h:=amA w st ob fI d5 nw,m:=[]}
abbrev zfc:Nat×D:=(zhA 12 6)
abbrev zfd:Nat×D:=(zhA 13 7)
abbrev amO:bY:=Bn 116 0 [zfc,zfd]
abbrev amD(ans:Int)(nm:bv):bY:=[go 0,go 0,go 0,go 0,go ans,go 0,go 0,nq,nq,ab nm]
abbrev ZJ(a:L9):bY:=[am a.name,go a.number,go a.oA,go a.rep,go (Te a.Ι).op,go (Te a.Ι).c,am (Te a.Ι).nm,go (Te a.Ι).n,go (Te a.Ι).d,ab (Te a.Ι).ks,go (Te a.bar).op,go (Te a.bar).c,am (Te a.bar).nm,go (Te a.bar).n,go (Te a.bar).d,ab (Te a.bar).ks]
abbrev zhF(a:kc)(b d e f:Int)(g:bv)(h i:iF)(j:L9):aT:=[iI (ZA a),iI [go b],iI [go d],iI [go e],iI [go f],iI [ab g],iI ZR,iI [go 0],iI (zbn 9 2),.lk ((ZW h)++(ZW i)) 2 5,iI (ZJ j)]
noncomputable abbrev am1_x0(w:kc)(st:Int)(ob:Int)(fI:Int)(d5:Int)(nw:bv)(q1:iF)(q2:iF)(c:L9):aT:=(zhF w st ob fI d5 nw q1 q2 c)
abbrev zhr(a:kc)(b c d e:Int)(f:bv)(g:bY)(h:List (bY))(i:Nat):aT:=[iI (ZA a),iI [go b],iI [go c],iI [go d],iI [go e],iI [ab f],iI ZR,iI [go 0],iI g,.lk h i 5]
noncomputable abbrev am1_x1(w:kc)(st:Int)(ob:Int)(fI:Int)(d5:Int)(nw:bv)(q1:iF):aT:=(zhr w st ob fI d5 nw (zbn 9 1) (ZW q1) 1)
noncomputable abbrev am1_x2(w:kc)(st:Int)(ob:Int)(fI:Int)(d5:Int)(nw:bv):aT:=(zhr w st ob fI d5 nw za5 [] 0)
abbrev zeZ(a:bv):Do:=[δ (τ [12,13]),δ (zed 9 (a)),δ (zkm 9)]
theorem am1(hl:q1.length+q2.length+q3.length<=1000000000000)(he:(e != 0)=J)(hh:∀h,Ev S5 mX 31 (zbE w st fI d5) h (zjh L q1) h)(hc:∀h,Ev S5 uS 32 (zbE w ob fI d5) h (JV [ag c.row,ab (J2 q2),kr ok]) h)(hs:∀h,Ev S5 uS 33 (zdQ w st fI d5 (ab nw)) h (JV [uT s.l,ab (J2 q3),go e]) h):(CW S5 uS (amA w st ob fI d5 nw) N (be (al UI) 6) (amS w st ob fI d5 nw) .ret {t:=amO,h:=amH w st ob fI d5 nw amZ e (ab (J2 (q1++q2))),m:=[]}):=by refine yx (zeZ (J2 (q1++q2))) [.o (.zjT 8 0 5),.v (Tp (Γ':=uS) (@hh (am1_x2 w st ob fI d5 nw))),(?_:(Tq (ZW q1) (aL 5)&&L8 (S7 zdP+S7 (ZW q1)) 40)=J),.a1 zfF,.v (@hc (am1_x1 w st ob fI d5 nw q1)),(?_:(Tq (ZW q2) (aL 5)&&L8 (S7 (ZW q1)+S7 (ZW q2)) 40)=J),.a1 zfF,.v (@hs (am1_x0 w st ob fI d5 nw q1 q2 c)),.b he,pe (D.agg ZR),po (Ω e),po (Ω e),(uU:S2 (λx=>S2 Us x) (J2 q1)++S2 (λx=>S2 Us x) (J2 q2)=S2 (λx=>S2 Us x) (J2 (q1++q2)))]<;>(simp[aL,Zk,Up,L8,Xd];omega)
noncomputable abbrev am2_x0(w:kc)(st:Int)(ob:Int)(fI:Int)(d5:Int)(nw:bv)(q1:iF)(q2:iF)(q3:iF)(c:L9)(s:zaN):aT:=[iI (ZA w),iI [go st],iI [go ob],iI [go fI],iI [go d5],iI [ab nw],iI ZR,iI [go 0],iI (zbn 9 3),.lk ((ZW q1)++(ZW q2)++(ZW q3)) 3 5,iI (ZJ c),iI (zah s)]
noncomputable abbrev am2_x1(w:kc)(st:Int)(ob:Int)(fI:Int)(d5:Int)(nw:bv)(q1:iF)(q2:iF)(c:L9):aT:=(zhF w st ob fI d5 nw q1 q2 c)
noncomputable abbrev am2_x2(w:kc)(st:Int)(ob:Int)(fI:Int)(d5:Int)(nw:bv)(q1:iF):aT:=(zhr w st ob fI d5 nw (zbn 9 1) (ZW q1) 1)
noncomputable abbrev am2_x3(w:kc)(st:Int)(ob:Int)(fI:Int)(d5:Int)(nw:bv):aT:=(zhr w st ob fI d5 nw za5 [] 0)
theorem am2(hl:q1.length+q2.length+q3.length+q4.length<=1000000000000)(hh:∀h,Ev S5 mX 31 (zbE w st fI d5) h (zjh L q1) h)(hc:∀h,Ev S5 uS 32 (zbE w ob fI d5) h (JV [ag c.row,ab (J2 q2),kr ok]) h)(hs:∀h,Ev S5 uS 33 (zdQ w st fI d5 (ab nw)) h (JV [uT s.l,ab (J2 q3),go 0]) h)(ha:∀h,Ev S5 mX 34 (zb5 w 7 st ob fI (go d5)) h (JV [go num,kr pet,ab (J2 q4)]) h)(hz:(lL ((L.length:Int)>0)||!ok)=J):(CW S5 uS (amA w st ob fI d5 nw) N (be (al UI) 6) (amS w st ob fI d5 nw) .ret {t:=amO,h:=amH w st ob fI d5 nw amZ 0 (ab (J2 (q1++q2++q3++q4))),m:=[]}):=by refine yx (zeZ (J2 (q1++q2++q3++q4))) [.o (.zjT 8 0 5),.v (Tp (Γ':=uS) (@hh (am2_x3 w st ob fI d5 nw))),(?_:(Tq (ZW q1) (aL 5)&&L8 (S7 zdP+S7 (ZW q1)) 40)=J),.a1 zfF,.v (@hc (am2_x2 w st ob fI d5 nw q1)),(?_:(Tq (ZW q2) (aL 5)&&L8 (S7 (ZW q1)+S7 (ZW q2)) 40)=J),.a1 zfF,.v (@hs (am2_x1 w st ob fI d5 nw q1 q2 c)),.b (rfl:(0 != 0)=N),(?_:(Tq (ZW q3) (aL 5)&&L8 (S7 ((ZW q1)++(ZW q2))+S7 (ZW q3)) 40)=J),.a1 zfF,.v (Tp (Γ':=uS) (@ha (am2_x0 w st ob fI d5 nw q1 q2 q3 c s))),(?_:(Tq (ZW q4) (aL 5)&&L8 (S7 ((ZW q1)++(ZW q2)++(ZW q3))+S7 (ZW q4)) 40)=J),.a1 zfF,.b hz,(uU:S2 (λx=>S2 Us x) (J2 q1)++S2 (λx=>S2 Us x) (J2 q2)++S2 (λx=>S2 Us x) (J2 q3)++S2 (λx=>S2 Us x) (J2 q4)=S2 (λx=>S2 Us x) (J2 (q1++q2++q3++q4)))]<;>(simp[aL,Zk,Up,L8,Xd];omega)
noncomputable abbrev LY(w:kc)(st:Int)(ob:Int)(fI:Int)(d5:Int)(nw:bv)(q1:iF)(q2:iF)(q3:iF)(q4:iF)(c:L9)(s:zaN):aT:=[iI (ZA w),iI [go st],iI [go ob],iI [go fI],iI [go d5],iI [ab nw],iI ZR,iI [go 0],iI (zbn 9 4),.lk ((ZW q1)++(ZW q2)++(ZW q3)++(ZW q4)) 4 5,iI (ZJ c),iI (zah s)]
noncomputable abbrev am3_x1(w:kc)(st:Int)(ob:Int)(fI:Int)(d5:Int)(nw:bv)(q1:iF)(q2:iF)(q3:iF)(c:L9)(s:zaN):aT:=[iI (ZA w),iI [go st],iI [go ob],iI [go fI],iI [go d5],iI [ab nw],iI ZR,iI [go 0],iI (zbn 9 3),.lk ((ZW q1)++(ZW q2)++(ZW q3)) 3 5,iI (ZJ c),iI (zah s)]
noncomputable abbrev am3_x2(w:kc)(st:Int)(ob:Int)(fI:Int)(d5:Int)(nw:bv)(q1:iF)(q2:iF)(c:L9):aT:=(zhF w st ob fI d5 nw q1 q2 c)
noncomputable abbrev am3_x3(w:kc)(st:Int)(ob:Int)(fI:Int)(d5:Int)(nw:bv)(q1:iF):aT:=(zhr w st ob fI d5 nw (zbn 9 1) (ZW q1) 1)
noncomputable abbrev am3_x4(w:kc)(st:Int)(ob:Int)(fI:Int)(d5:Int)(nw:bv):aT:=(zhr w st ob fI d5 nw za5 [] 0)
theorem am3(hl:q1.length+q2.length+q3.length+q4.length<=1000000000000)(hh:∀h,Ev S5 mX 31 (zbE w st fI d5) h (zjh L q1) h)(hc:∀h,Ev S5 uS 32 (zbE w ob fI d5) h (JV [ag c.row,ab (J2 q2),kr ok]) h)(hs:∀h,Ev S5 uS 33 (zdQ w st fI d5 (ab nw)) h (JV [uT s.l,ab (J2 q3),go 0]) h)(ha:∀h,Ev S5 mX 34 (zb5 w 7 st ob fI (go d5)) h (JV [go num,kr pet,ab (J2 q4)]) h)(hn:∀h,Ev S5 uS 35 [uT c.Ι.fl.l,uT s.l] h (kr b1) h)(hb:∀h,Ev S5 uS 35 [uT c.bar.fl.l,uT s.l] h (kr b2) h)(hz:(lL ((L.length:Int)>0)||!ok)=N)(hy:((b1&&!b2)||pet)=N):(CW S5 uS (amA w st ob fI d5 nw) N (be (al UI) 6) (amS w st ob fI d5 nw) .ret {t:=amO,h:=amH w st ob fI d5 nw amZ 0 (ab (J2 (q1++q2++q3++q4))),m:=[]}):=by refine yx (zeZ (J2 (q1++q2++q3++q4))) [.o (.zjT 8 0 5),.v (Tp (Γ':=uS) (@hh (am3_x4 w st ob fI d5 nw))),(?_:(Tq (ZW q1) (aL 5)&&L8 (S7 zdP+S7 (ZW q1)) 40)=J),.a1 zfF,.v (@hc (am3_x3 w st ob fI d5 nw q1)),(?_:(Tq (ZW q2) (aL 5)&&L8 (S7 (ZW q1)+S7 (ZW q2)) 40)=J),.a1 zfF,.v (@hs (am3_x2 w st ob fI d5 nw q1 q2 c)),.b (rfl:(0 != 0)=N),(?_:(Tq (ZW q3) (aL 5)&&L8 (S7 ((ZW q1)++(ZW q2))+S7 (ZW q3)) 40)=J),.a1 zfF,.v (Tp (Γ':=uS) (@ha (am3_x1 w st ob fI d5 nw q1 q2 q3 c s))),(?_:(Tq (ZW q4) (aL 5)&&L8 (S7 ((ZW q1)++(ZW q2)++(ZW q3))+S7 (ZW q4)) 40)=J),.a1 zfF,.b hz,.v (@hn (LY w st ob fI d5 nw q1 q2 q3 q4 c s)),.w b1 (@hb (LY w st ob fI d5 nw q1 q2 q3 q4 c s)),.b hy,(uU:S2 (λx=>S2 Us x) (J2 q1)++S2 (λx=>S2 Us x) (J2 q2)++S2 (λx=>S2 Us x) (J2 q3)++S2 (λx=>S2 Us x) (J2 q4)=S2 (λx=>S2 Us x) (J2 (q1++q2++q3++q4)))]<;>(simp[aL,Zk,Up,L8,Xd];omega)
noncomputable abbrev LZ(w:kc)(st:Int)(ob:Int)(fI:Int)(d5:Int)(nw:bv)(q1:iF)(q2:iF)(q3:iF)(q4:iF)(c:L9)(s:zaN):aT:=[iI (ZA w),iI [go st],iI [go ob],iI [go fI],iI [go d5],iI [ab nw],iI ZR,iI [go 0],iI (zbn 9 4),.lk ((ZW q1)++(ZW q2)++(ZW q3)++(ZW q4)) 4 5,iI (ZJ c),iI (zah s)]
noncomputable abbrev am4_x1(w:kc)(st:Int)(ob:Int)(fI:Int)(d5:Int)(nw:bv)(q1:iF)(q2:iF)(q3:iF)(q4:iF)(c:L9)(s:zaN):aT:=[iI (ZA w),iI [go st],iI [go ob],iI [go fI],iI [go d5],iI [ab nw],iI [go 0,go 0,go 0,go 0,go 1,go 0,go 0,nq,nq,nq],iI [go 0],iI (zbn 9 4),.lk ((ZW q1)++(ZW q2)++(ZW q3)++(ZW q4)) 4 5,iI (ZJ c),iI (zah s)]
noncomputable abbrev am4_x2(w:kc)(st:Int)(ob:Int)(fI:Int)(d5:Int)(nw:bv)(q1:iF)(q2:iF)(q3:iF)(c:L9)(s:zaN):aT:=[iI (ZA w),iI [go st],iI [go ob],iI [go fI],iI [go d5],iI [ab nw],iI ZR,iI [go 0],iI (zbn 9 3),.lk ((ZW q1)++(ZW q2)++(ZW q3)) 3 5,iI (ZJ c),iI (zah s)]
noncomputable abbrev am4_x3(w:kc)(st:Int)(ob:Int)(fI:Int)(d5:Int)(nw:bv)(q1:iF)(q2:iF)(c:L9):aT:=(zhF w st ob fI d5 nw q1 q2 c)
noncomputable abbrev am4_x4(w:kc)(st:Int)(ob:Int)(fI:Int)(d5:Int)(nw:bv)(q1:iF):aT:=(zhr w st ob fI d5 nw (zbn 9 1) (ZW q1) 1)
noncomputable abbrev am4_x5(w:kc)(st:Int)(ob:Int)(fI:Int)(d5:Int)(nw:bv):aT:=(zhr w st ob fI d5 nw za5 [] 0)
theorem am4(hl:q1.length+q2.length+q3.length+q4.length<=1000000000000)(hh:∀h,Ev S5 mX 31 (zbE w st fI d5) h (zjh L q1) h)(hc:∀h,Ev S5 uS 32 (zbE w ob fI d5) h (JV [ag c.row,ab (J2 q2),kr ok]) h)(hs:∀h,Ev S5 uS 33 (zdQ w st fI d5 (ab nw)) h (JV [uT s.l,ab (J2 q3),go 0]) h)(ha:∀h,Ev S5 mX 34 (zb5 w 7 st ob fI (go d5)) h (JV [go num,kr pet,ab (J2 q4)]) h)(hn:∀h,Ev S5 uS 35 [uT c.Ι.fl.l,uT s.l] h (kr b1) h)(hb:∀h,Ev S5 uS 35 [uT c.bar.fl.l,uT s.l] h (kr b2) h)(hm:∀h,Ev S5 mX 36 [kr (!(b1&&!b2)),go num] h (ab nm) h)(hz:(lL ((L.length:Int)>0)||!ok)=N)(hy:((b1&&!b2)||pet)=J):(CW S5 uS (amA w st ob fI d5 nw) N (be (al UI) 6) (amS w st ob fI d5 nw) .ret {t:=amO,h:=amH w st ob fI d5 nw (amD 1 nm) 0 (ab (J2 (q1++q2++q3++q4))),m:=[]}):=by refine yx (zeZ (J2 (q1++q2++q3++q4))) [.o (.zjT 8 0 5),.v (Tp (Γ':=uS) (@hh (am4_x5 w st ob fI d5 nw))),(?_:(Tq (ZW q1) (aL 5)&&L8 (S7 zdP+S7 (ZW q1)) 40)=J),.a1 zfF,.v (@hc (am4_x4 w st ob fI d5 nw q1)),(?_:(Tq (ZW q2) (aL 5)&&L8 (S7 (ZW q1)+S7 (ZW q2)) 40)=J),.a1 zfF,.v (@hs (am4_x3 w st ob fI d5 nw q1 q2 c)),.b (rfl:(0 != 0)=N),(?_:(Tq (ZW q3) (aL 5)&&L8 (S7 ((ZW q1)++(ZW q2))+S7 (ZW q3)) 40)=J),.a1 zfF,.v (Tp (Γ':=uS) (@ha (am4_x2 w st ob fI d5 nw q1 q2 q3 c s))),(?_:(Tq (ZW q4) (aL 5)&&L8 (S7 ((ZW q1)++(ZW q2)++(ZW q3))+S7 (ZW q4)) 40)=J),.a1 zfF,.b hz,.v (@hn (LZ w st ob fI d5 nw q1 q2 q3 q4 c s)),.w b1 (@hb (LZ w st ob fI d5 nw q1 q2 q3 q4 c s)),.b hy,.v (Tp (Γ':=uS) (@hm (am4_x1 w st ob fI d5 nw q1 q2 q3 q4 c s))),(uU:S2 (λx=>S2 Us x) (J2 q1)++S2 (λx=>S2 Us x) (J2 q2)++S2 (λx=>S2 Us x) (J2 q3)++S2 (λx=>S2 Us x) (J2 q4)=S2 (λx=>S2 Us x) (J2 (q1++q2++q3++q4)))]<;>(simp[aL,Zk,Up,L8,Xd];omega)
abbrev ziU(a:bY)(b c d e:Int)(f:bv)(g:bY):aT:=[iI a,iI [go b],iI [go c],iI [go d],iI [go e],iI [ab f],iI g,iI [go 0]]
noncomputable abbrev CP(w:kc)(st:Int)(ob:Int)(fI:Int)(d5:Int)(nw:bv):aT:=(ziU (ZA w) st ob fI d5 nw ZR)
theorem OQ(hk:∀h,Ev S5 mX 28 [go st,go ob,go fI,ab nw] h (kr N) h)(h:aT):(Ev S5 uS 14 (zb5 w st ob fI d5 (ab nw)) h (JV [uT zgF.zero.l,go 280]) h):=Tw (Ev.zkv (y0 (d:=D.Ρ [D.agg ZR,go 280]) [.v (Tp (Γ':=uS) (@hk (CP w st ob fI d5 nw))),.e] h)) ο ο
abbrev amT0(w:kc)(st ob fI d5:Int)(nw:bv):bY:=Bn 116 0 [(0,uT w.l),(1,go st),(2,go ob),(3,go fI),(4,go d5),(5,ab nw),zcT,(zfb 1),(zeE 2),(zhA 9 3),zbW,(zfg 5),zfc,zfd]
abbrev amT1:bY:=(zbI 29 (kr N))
abbrev amT3:bY:=(zbI 14 (mW (J0 8 0)))
abbrev amH0(w:kc)(st ob fI d5:Int)(nw:bv):aT:=(ziU w.l st ob fI d5 nw amZ)
noncomputable abbrev Jo(w:kc)(st:Int)(ob:Int)(fI:Int)(d5:Int)(nw:bv):aT:=(ziU (ZA w) st ob fI d5 nw ZR)
theorem am_r1(hk:∀h,Ev S5 mX 28 [go st,go ob,go fI,ab nw] h (kr J) h):(CW S5 uS h0 N (cL (cR (al UI))) {t:=amT0 w st ob fI d5 nw,h:=amH0 w st ob fI d5 nw,m:=[]} NO {t:=amT1,h:=amH0 w st ob fI d5 nw,m:=[]}):=yx [δ (τ [6,7,8,9,10,11,12,13,29])] [.v (Tp (Γ':=uS) (@hk (Jo w st ob fI d5 nw))),.e]
theorem am_r2:(CW S5 uS h0 N (cL (cR (cR (al UI)))) {t:=amT1,h:=amH0 w st ob fI d5 nw,m:=[]} NO {t:=amT3,h:=amA w st ob fI d5 nw,m:=[]}):=yx [δ (τ [6,7,8,9,10,11,12,13,14])] []
theorem Jp:al UI=.seq (.region (BU (cL (al UI))) (bW (cL (al UI))) false) (.seq (cL (cR (al UI))) (.seq (cL (cR (cR (al UI)))) (.seq (.region (BU (cL (cR (cR (cR (al UI)))))) (bW (cL (cR (cR (cR (al UI)))))) false)
 (.seq (.region (BU (cL (cR (cR (cR (cR (al UI))))))) (bW (cL (cR (cR (cR (cR (al UI))))))) false) (be (al UI) 6))))):=by kernel_rfl
abbrev zeL(a:Nat):Nat×D:=(a,.fn (.func 29) [] (zjG 8))
abbrev amT4:bY:=Bn 116 0 [zcT,(zfb 1),(zeE 2),(zhA 9 3),zbW,(zfg 5),zfc,zfd,(zhA 14 8),(zeL 15),(zeL 31)]
abbrev amCa:bY:=[mW (J0 7 0),mW (J0 1 0),mW (J0 2 0),mW (J0 3 0),mW (J0 6 0),mW (J0 4 0),mW (J0 5 0),mW (J0 8 0)]
abbrev amT5:bY:=Bn 116 0 [zcT,(zfb 1),(zeE 2),(zhA 9 3),zbW,(zfg 5),zfc,zfd,(zhA 14 8),(zeL 15),(zeL 31),(32,.fn (.func 30) [] amCa)]
theorem vw_of{h0:aT}{c:Code}{s:AS}{e:Exit}{X:Ctx}(h:CW S5 uS X.h N c s e s'):VW S5 uS X Y c (λe1 s2=>e1=e/\s2=s') s:=h X Y rfl λ_=>rfl
theorem OS{e:Exit}(hk:∀h,Ev S5 mX 28 [go st,go ob,go fI,ab nw] h (kr true) h)(zcY:CW S5 uS (amA w st ob fI d5 nw) false (be (al UI) 6) (amS w st ob fI d5 nw) e s'):
  zjC S5 uS (al UI) {t:=cO UI (zb5 w st ob fI d5 (ab nw)),h:=[],m:=[]} e s' (some (30,amCa)):=by
 rw[Jp]
 refine Zl (s1:={t:=amT0 w st ob fI d5 nw,h:=amH0 w st ob fI d5 nw,m:=[]}) (λX=>VW.zif (t':=amT0 w st ob fI d5 nw) (h':=amH0 w st ob fI d5 nw) (e:=.normal) gj (by kernel_rfl) ⟨rfl,rfl⟩) ?_
 refine Zl (λX=>vw_of (h0:=[]) (am_r1 hk)) ?_
 refine Zl (λX=>vw_of (h0:=[]) am_r2) ?_
 refine Zl (s1:={t:=amT4,h:=amA w st ob fI d5 nw,m:=[]}) (λX=>VW.zif (t':=amT4) (h':=amA w st ob fI d5 nw) (e:=.normal) gj (by kernel_rfl) ⟨rfl,rfl⟩) ?_
 exact zjC.zqS (os:=(bW (cL (cR (cR (cR (cR (al UI))))))).toList.dropLast) (o:=Hf (bW (cL (cR (cR (cR (cR (al UI))))))).toList) (fv:=.tmp 32) (args:=#[]) (ats:=#[]) (t1:=amT5) (h1:=amA w st ob fI d5 nw) (f:=30) (fi:=[]) (ca:=amCa) pok gj (by kernel_rfl) (by kernel_rfl) (by kernel_rfl) (by kernel_rfl) rfl (by kernel_rfl) (by kernel_rfl) (CW.pre [6,7,8,9,10,11,12,13,15] zcY)
noncomputable abbrev zt(H:aT):Option CR:=pp S5 UI (ff S5 uS noW 100) 0 .ret {t:=amO,h:=H,m:=[]} (G (30,amCa))
theorem Jq:zt (amH w st ob fI d5 nw amZ 1 (ab rs))=G (.ret (JV [uT amZ,go 1]) []):=Z
theorem Jr:zt (amH w st ob fI d5 nw amZ 2 (ab rs))=G (.ret (JV [uT amZ,go 2]) []):=Z
theorem FG:zt (amH w st ob fI d5 nw amZ 150 (ab rs))=G (.ret (JV [uT amZ,go 150]) []):=Z
theorem OT(he:e=1\/e=2\/e=150):zt (amH w st ob fI d5 nw amZ e (ab rs))=G (.ret (JV [uT amZ,go e]) []):=by
 rcases he with rfl|rfl|rfl;·exact Jq
 ·exact Jr
 ·exact FG
theorem FH:zt (amH w st ob fI d5 nw amZ 0 (ab rs))=G (.ret (zes [go 1,go st,go ob,go fI,go 0,go 0,go d5,ab nw,ab rs,nq] 0) []):=Z
theorem OU{a:Int}:zt (amH w st ob fI d5 nw (amD a nm) 0 (ab rs))=G (.ret (zes [go 1,go st,go ob,go fI,go a,go a,go d5,ab nw,ab rs,ab nm] 0) []):=Z
theorem Bh{H:aT}{d:D}(hk:∀h,Ev S5 mX 28 [go st,go ob,go fI,ab nw] h (kr J) h)(hr:CW S5 uS (amA w st ob fI d5 nw) N (be (al UI) 6) (amS w st ob fI d5 nw) .ret {t:=amO,h:=H,m:=[]})(he:zt H=G (.ret d [])):Ev S5 uS 14 (zb5 w st ob fI d5 (ab nw)) [] d [] :=(zkF.zoF (f:=14) (args:=(zb5 w st ob fI d5 (ab nw))) (dfn:=ff S5 uS noW 100) (h:=[]) (r:=.ret d []) (fn:=UI) (c:=al UI) pok rfl rfl HN (OS hk hr) he).call
end Go.Vi
