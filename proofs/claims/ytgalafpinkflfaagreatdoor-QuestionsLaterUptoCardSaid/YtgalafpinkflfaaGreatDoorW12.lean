/- A part of the proof; no conditions of its own. -/
import Derived.Test.YtgalafpinkflfaaGreatDoorW11
open Bool renaming true->J,false->N
open Option renaming some->G,none->Y
open Go.Vi.η renaming st->E6,inl->Τ
open Go.Exit renaming normal->w8,exit->EY
open Go.Vi.D renaming Pp->uN,agg->mS,ref->gM
open Go.LoopState renaming exhausted->zca,ready->EV,busy->Ρ
open Go.Vi.SOp renaming frz->Λ,trim->zhZ,mask->IW
open Go.Vi.ql renaming var->eP,loop->Js,δ->NH,EZ->xx
open Go.Vi.Ref renaming ptr->qn
open Decidable renaming decide -> fE
open Go.Vi.Jv renaming row -> TQ
open Go.IntKind renaming i64 -> S6, wrap -> S8
open Go.Proofs.Tryz renaming prog -> S5, f171 -> VA, f34 -> VP, f169 -> U2, f86 -> UQ, f14 -> UI
open List renaming map -> S2, length -> S7, getElem?_eq_some_iff -> Td, foldl_cons -> TG, all -> Tq, range -> T1, map_append -> Uh, map_cons -> U5, map_nil -> Yi, range_succ -> Xe, foldl_append -> Ym
open Go.Exit renaming normal -> Tr
open Go.Vi.CW renaming each -> UR
open Go.Vi.oz renaming row -> Wy, fl -> Te
open Go.Vi.Ev renaming zkr -> Tp, zkJ -> Tw
open Go.Vi.D renaming zbk -> TL, fn -> UL, one -> Zk, θ -> Tz, p -> Us
open Go.Vi.uT renaming row -> Tc
open Go.Vi.Β renaming row -> Tj
open Go.Vi.qH renaming row -> Ta
open Go.LoopState renaming ready -> TJ, busy -> TX
open Go.Fn renaming func -> TM
open Go.Vi.PtT renaming row -> V2
open Go.Value renaming oneCell' -> Up
open Go.Vi.EU renaming row -> Xd
open Go.Vi.zfZ renaming seq -> Zl
open Go Go.Proofs
namespace Go.Vi
set_option maxRecDepth 100000
set_option maxHeartbeats 4000000
structure ε where
 seen:If
 CE:Int
 n:Int
 d:Int
variable {c d m n op:Int}{i:Nat}{ks:bv}{nm:ByteArray}{s:ε}
def ε.l(s:ε):bY:=[ab (s.seen.map TQ),eO s.CE,eO s.n,eO s.d]
structure ε.ok (x:ε):Prop where
 s:ah x.seen
 n:Pu x.n
 d:Pu x.d
abbrev zgq(a:bY):aT:=[eP a,eP [eO 0,eO 0,eO 0,eR N]]
abbrev abS(s:ε)(c i:Int):AS:={t:=qm 22 0 [(1,eO c),zbG,(8,ab (s.seen.map TQ)),(9,eO (s.seen.map TQ).length),(10,eO i)],h:=(zgq s.l),m:=[]}
abbrev abE(s:ε)(c:Int):AS:={t:=qm 22 0 [(1,eO c),zbG],h:=(zgq s.l),m:=[]}
abbrev abX(s:ε)(x:Jv):Exit×AS:=(.ret,{t:=qm 22 0 [(4,.ref (.ptr 1 0))],h:=[.var s.l,.var (x.row.map .p)],m:=[]})
def abF(c:Int)(x:Jv)(_:Unit):Unit⊕Jv:=bif x.f7==c then .inr x else .inl ()
abbrev zah(a:ε):bY:=[ab (S2 TQ a.seen),eO a.CE,eO a.n,eO a.d]
theorem Oh{x:Jv}(hr:ao (i:Int) (s.seen.map TQ) x.row 4)(oA:fE ((i:Int)<((s.seen.map TQ).length:Int))=true)(hw:S6.wrap ((i:Int)+1)=((i+1:Nat):Int)):(CW S5 ji [] false (sub Tryz.f365 0) (abS s c i) (ai (λ_=>abS s c ((i+1:Nat):Int)) (abX s) (abF c x ())).1 (ai (λ_=>abS s c ((i+1:Nat):Int)) (abX s) (abF c x ())).2):=by
 cases sR:x.f7==c
 ·let v0:=S2 TQ s.seen
  exact yX {t:=qm 22 0 [(1,eO c),(4,.ref (.ptr 1 0)),(8,ab v0),(9,eO (↑(S7 v0):Int)),(10,eO (S8 S6 ((↑i:Int)+1)))],h:=[.var [ab v0,eO s.CE,eO s.n,eO s.d],.var [eO 0,eO 0,eO 0,eR false]],m:=[]} Tr [.st (.mask [1,4,8,9,10]),.st (.trim 2)] [.b oA,.r hr,.b sR] (by subst v0;simp[abF,sR,ai];done) (by subst v0;simp only[abF,sR,cond_false,ai,hw];rfl)
 ·exact yX {t:=qm 22 0 [(4,.ref (.ptr 1 0))],h:=[.var [ab (S2 TQ s.seen),eO s.CE,eO s.n,eO s.d],.var [eO x.f7,eO x.tries,eO x.uR,eR x.now]],m:=[]} Exit.ret [.st (.mask [4]),.st (.trim 2)] [.b oA,.r hr,.b sR] (by simp[abF,sR,ai];done) (by simp only[abF,sR,cond_true,ai];rfl)
theorem Oi(oA:fE ((i:Int)<((s.seen.map TQ).length:Int))=N):(CW S5 ji [] N (sub Tryz.f365 0) (abS s c i) (EY 0) (abE s c)):=yx [E6 (IW [1,4])] [.b oA]
def Oj(s:ε)(c:Int):Exit×AS:=bf (EY 0) (λ_:Unit=>abE s c) (abX s) (xz (abF c) s.seen ())
theorem ab_cw{s:ε}(hs:ah s.seen){c:Int}:CW S5 ji [] false (.loop (sub Tryz.f365 0)) (abS s c 0) (Oj s c).1 (Oj s c).2:=by
 refine UR s.seen (abF c) (λi _=>abS s c (i:Int)) (.exit 0) (λ_=>abE s c) (abX s) (λ_ _=>True) (by simp) (λ_=>by simp[abX]) ?_ ?_ () trivial;·intro i x _ hx _;have hi:=(Td.1 hx).1;exact⟨λ_ _=>trivial,Oh (rowAt hx rfl) (F1 TQ hi) (sV hi hs)⟩
 ·intro _ _;exact Oi (aR TQ s.seen)
def abR(s:ε)(c:Int):Jv:=match xz (abF c) s.seen () with
 |.inr x=>x
 |.inl _=>⟨c,0,-1,N⟩
theorem uK{s:ε}(hs:ah s.seen){c:Int}(h:aT):(Ev S5 ji 365 [mS s.l,eO c] h (ag (abR s c).row) h):=by
 have xd:=(@ab_cw (s) (hs) (c));unfold Oj at xd;revert xd;cases ho1:xz (abF c) s.seen () with
 |inl Fa=>intro xd;exact yD (D.agg [eO c,eO 0,eO (-1),eR N]) [.s [1,4,8,9,10] xd] h (by simp only[abR,ho1];rfl)
 |inr Α=>intro xd;exact yD (D.agg (zaX Α)) [.s [1,4,8,9,10] xd] h (by simp only[abR,ho1];rfl)
attribute [local irreducible] abR
theorem kh1_ev{op c m:Int}{nm:ByteArray}{n d:Int}{ks:bv}{s:ε}(h:aT):(Ev S5 ji 355 [ruD op c nm n d ks,mS s.l,eO m] h (eR (m==(ks.length:Int))) h):=y0 [] h
theorem kh2_ev{op c m:Int}{nm:ByteArray}{n d:Int}{ks:bv}{s:ε}(h:aT):(Ev S5 ji 357 [ruD op c nm n d ks,mS s.l,eO m] h (eR (fE (m>0))) h):=y0 [] h
theorem kh3_ev{op c m:Int}{nm:ByteArray}{n d:Int}{ks:bv}{s:ε}(h:aT):(Ev S5 ji 359 [ruD op c nm n d ks,mS s.l,eO m] h (eR (fE (m>=n))) h):=y0 [] h
theorem kh4_ev{op c m:Int}{nm:ByteArray}{n d:Int}{ks:bv}{s:ε}(h:aT):(Ev S5 ji 361 [ruD op c nm n d ks,mS s.l,eO m] h (eR (m==0)) h):=y0 [] h
abbrev Z4(a b:Int)(e:ByteArray)(f g:Int)(h:bv)(i:ε):aT:=[eP [eO a,eO b,am e,eO f,eO g,ab h],eP [ab (S2 TQ i.seen),eO i.CE,eO i.n,eO i.d]]
noncomputable abbrev Fk(op:Int)(c:Int)(nm:ByteArray)(n:Int)(d:Int)(ks:bv)(s:ε):aT:=(Z4 op c nm n d ks s)
theorem kh5_ev{op c m:Int}{nm:ByteArray}{n d:Int}{ks:bv}{s:ε}(hs:ah s.seen)(h:aT):(Ev S5 ji 364 [ruD op c nm n d ks,mS s.l,eO m] h (eR (fE ((abR s c).uR>=n))) h):=y0 [.v (@uK s hs c (Fk op c nm n d ks s))] h
noncomputable abbrev Fl(op:Int)(c:Int)(nm:ByteArray)(n:Int)(d:Int)(ks:bv)(s:ε):aT:=(Z4 op c nm n d ks s)
theorem kh6_ev{op c m:Int}{nm:ByteArray}{n d:Int}{ks:bv}{s:ε}(hs:ah s.seen)(h:aT):(Ev S5 ji 367 [ruD op c nm n d ks,mS s.l,eO m] h (eR (fE ((abR s c).tries>=n))) h):=y0 [.v (@uK s hs c (Fl op c nm n d ks s))] h
theorem kh7_ev{op c m:Int}{nm:ByteArray}{n d:Int}{ks:bv}{s:ε}(h:aT):(Ev S5 ji 369 [ruD op c nm n d ks,mS s.l,eO m] h (eR (fE (s.CE>=n))) h):=y0 [] h
noncomputable abbrev Fm(op:Int)(c:Int)(nm:ByteArray)(n:Int)(d:Int)(ks:bv)(s:ε):aT:=(Z4 op c nm n d ks s)
theorem kh8_ev{op c m:Int}{nm:ByteArray}{n d:Int}{ks:bv}{s:ε}(h1:Pu s.n)(h2:Pu s.d)(hn:Pu n)(hd:Pu d)(h:aT):(Ev S5 ji 371 [ruD op c nm n d ks,mS s.l,eO m] h (eR (fE ((nW s.n s.d n d).1>=0))) h):=y0 [.v (@mF (s.n) (s.d) n d h1 h2 hn hd (Fm op c nm n d ks s))] h
noncomputable abbrev Fo(op:Int)(c:Int)(nm:ByteArray)(n:Int)(d:Int)(ks:bv)(s:ε):aT:=(Z4 op c nm n d ks s)
theorem kh9_ev{op c m:Int}{nm:ByteArray}{n d:Int}{ks:bv}{s:ε}(hs:ah s.seen)(h:aT):(Ev S5 ji 372 [ruD op c nm n d ks,mS s.l,eO m] h (eR (abR s c).now) h):=y0 [.v (@uK s hs c (Fo op c nm n d ks s))] h
def rK(op c n d:Int)(kn:Nat)(s:ε)(m:Int):Bool :=
 if op=1 then m==(kn:Int) else if op=2 then fE (m>0) else if op=3 then fE (m>=n) else if op=4 then m==0 else if op=5 then fE ((abR s c).uR>=n)
 else if op=6 then fE ((abR s c).tries>=n) else if op=7 then fE (s.CE>=n) else if op=8 then fE ((nW s.n s.d n d).1>=0) else (abR s c).now
abbrev vuS(op c:Int)(nm:ByteArray)(n d:Int)(ks:bv)(s:ε)(m i:Int):AS:={t:=qm 30 0 [zaU,zbr,(5,eO m),(9,ab ks),(10,eO ks.length),(11,eO i)],h:=[eP (zam op c nm n d ks),eP s.l],m:=[]}
abbrev vuE(op c:Int)(nm:ByteArray)(n d:Int)(ks:bv)(s:ε)(m:Int):AS:={t:=qm 30 0 [zaU,zbr,(5,eO m)],h:=[eP (zam op c nm n d ks),eP s.l],m:=[]}
def LW(b:Bool)(m:Int):Int:=bif b then m+1 else m
noncomputable abbrev ta(op:Int)(c:Int)(nm:ByteArray)(n:Int)(d:Int)(ks:bv)(s:ε)(a1:Int)(a2:Int)(a4:Int)(a5:Int)(a3:ByteArray)(a6:bv):aT:=[eP (zam op c nm n d ks),eP (zah s),eP (zam a1 a2 a3 a4 a5 a6)]
theorem Ol{ks:List (List Dp)}{a1 a2 a4 a5:Int}{a3:ByteArray}{a6:List (List Dp)}{b:Bool}(hr:ao (i:Int) ks [vi a1,vi a2,vs a3,vi a4,vi a5,.sl a6] 6)(oA:fE ((i:Int)<(ks.length:Int))=true)(hw:S6.wrap ((i:Int)+1)=((i+1:Nat):Int))(hm:S6.wrap (m+1)=m+1)(hv:∀h,Ev S5 lL 171 [ruD a1 a2 a3 a4 a5 a6,.agg s.l] h (eR b) h):(CW S5 lL [] false (sub VA 0) (vuS op c nm n d ks s m i) .normal (vuS op c nm n d ks s (LW b m) ((i+1:Nat):Int))):=by
 cases sR:b
 ·exact yX {t:=qm 30 0 [(2,.ref (.ptr 0 0)),(3,.ref (.ptr 1 0)),(5,eO m),(9,ab ks),(10,eO (↑(S7 ks):Int)),(11,eO (S8 S6 ((↑i:Int)+1)))],h:=[.var [eO op,eO c,am nm,eO n,eO d,ab ks],.var [ab (S2 TQ s.seen),eO s.CE,eO s.n,eO s.d]],m:=[]} Tr [.st (.mask [2,3,5,9,10,11]),.st (.trim 2)] [.b oA,.r hr,.v (@hv (ta op c nm n d ks s a1 a2 a4 a5 a3 a6)),.b sR] (by grind) (by(have hh:b=false:=sR;subst hh;simp only[LW,cond_false,hw];first|done|rfl))
 ·exact yX {t:=qm 30 0 [(2,.ref (.ptr 0 0)),(3,.ref (.ptr 1 0)),(5,eO (S8 S6 (m+1))),(9,ab ks),(10,eO (↑(S7 ks):Int)),(11,eO (S8 S6 ((↑i:Int)+1)))],h:=[.var [eO op,eO c,am nm,eO n,eO d,ab ks],.var [ab (S2 TQ s.seen),eO s.CE,eO s.n,eO s.d]],m:=[]} Tr [.st (.mask [2,3,5,9,10,11]),.st (.trim 2)] [.b oA,.r hr,.v (@hv (ta op c nm n d ks s a1 a2 a4 a5 a3 a6)),.b sR] (by grind) (by(have hh:b=true:=sR;subst hh;simp only[LW,cond_true,hw,hm];first|done|rfl))
theorem Om(oA:fE ((i:Int)<(ks.length:Int))=N):(CW S5 lL [] N (sub VA 0) (vuS op c nm n d ks s m i) (EY 0) (vuE op c nm n d ks s m)):=yx [E6 (IW [2,3,5])] [.b oA]
mutual
def Jg(s:ε):oz->Bool
 |.mk op c _ n d ks=>rK op c n d ks.length s (valN s ks 0)
def valN(s:ε):List oz->Int->Int
 | [],m=>m
 |k::ks,m=>valN s ks (LW (Jg s k) m)
end
theorem xq(s:ε):∀(ks:List oz) (m:Int),valN s ks m=ks.foldl (λm k=>LW (Jg s k) m) m
 | [],_=>rfl
 |k::ks,m=>by rw[valN,TG];exact xq s ks _
theorem vu_all{ks:List oz}(hs:ah ks)(hv:∀k∈ks,∀h,Ev S5 lL 171 [ag k.row,.agg s.l] h (eR (Jg s k)) h):CW S5 lL [] false (.loop (sub VA 0)) (vuS op c nm n d (fG ks) s 0 0) (.exit 0) (vuE op c nm n d (fG ks) s (valN s ks 0)):=by
 rw[xq,dm]
 have:=UR (P:=S5) (Γ:=lL) (h0:=[]) (rd:=false) (c:=sub VA 0) (σ:=Int) (ρ:=Empty) ks (λk m=>.inl (LW (Jg s k) m))
  (λi m=>vuS op c nm n d (ks.map Wy) s m (i:Int)) (.exit 0) (λm=>vuE op c nm n d (ks.map Wy) s m) (λr=>r.elim)
  (λi m=>0<=m/\m<=(i:Int)) (by simp) (λr=>r.elim) ?_ ?_ 0 (by simp)
 ·rw[aM (λm k=>LW (Jg s k) m)] at this;exact this
 ·intro i k m hk hm;have hi:=(Td.1 hk).1;have zlJ:k∈ks:=List.mem_of_getElem? hk;have hsi:(i:Int)<140737488355328+1:=by unfold ah at hs;omega
  refine⟨λm' e=>?_,?_⟩;·grind [LW]
  ·cases k with
   | mk a1 a2 a3 a4 a5 kk =>have h1:=rowAt (row:=Wy) hk rfl;rw[Wy] at h1;have h2:=hv _ zlJ;rw[Wy] at h2;exact Ol (i:=i) h1 (F1 Wy hi) (sV hi hs) (wrap_i64 (by omega) (by omega)) h2
 ·intro m _;exact Om (aR Wy ks)
noncomputable abbrev Fp(c:Int)(nm:ByteArray)(n:Int)(d:Int)(ks:bv)(s:ε):aT:=(Z4 1 c nm n d ks s)
theorem val1_a(hc:CW S5 lL [] false (.loop (sub VA 0)) (vuS 1 c nm n d ks s 0 0) (.exit 0) (vuE 1 c nm n d ks s m))(h:aT):(Ev S5 lL 171 [ruD 1 c nm n d ks,.agg s.l] h (eR (rK 1 c n d ks.length s m)) h):=by have xd:=(@hc);exact y0 [.s [2,3,5,9,10,11] xd,(rfl:Ps 1 10=true),.v (Tp (Γ':=lL) (@kh1_ev 1 c m nm n d ks s (Fp c nm n d ks s)))] h
noncomputable abbrev Fq(c:Int)(nm:ByteArray)(n:Int)(d:Int)(ks:bv)(s:ε):aT:=(Z4 2 c nm n d ks s)
theorem val2_a(hc:CW S5 lL [] false (.loop (sub VA 0)) (vuS 2 c nm n d ks s 0 0) (.exit 0) (vuE 2 c nm n d ks s m))(h:aT):(Ev S5 lL 171 [ruD 2 c nm n d ks,.agg s.l] h (eR (rK 2 c n d ks.length s m)) h):=by have xd:=(@hc);exact y0 [.s [2,3,5,9,10,11] xd,(rfl:Ps 2 10=true),.v (Tp (Γ':=lL) (@kh2_ev 2 c m nm n d ks s (Fq c nm n d ks s)))] h
noncomputable abbrev Fr(c:Int)(nm:ByteArray)(n:Int)(d:Int)(ks:bv)(s:ε):aT:=(Z4 3 c nm n d ks s)
theorem val3_a(hc:CW S5 lL [] false (.loop (sub VA 0)) (vuS 3 c nm n d ks s 0 0) (.exit 0) (vuE 3 c nm n d ks s m))(h:aT):(Ev S5 lL 171 [ruD 3 c nm n d ks,.agg s.l] h (eR (rK 3 c n d ks.length s m)) h):=by have xd:=(@hc);exact y0 [.s [2,3,5,9,10,11] xd,(rfl:Ps 3 10=true),.v (Tp (Γ':=lL) (@kh3_ev 3 c m nm n d ks s (Fr c nm n d ks s)))] h
noncomputable abbrev Fs(c:Int)(nm:ByteArray)(n:Int)(d:Int)(ks:bv)(s:ε):aT:=(Z4 4 c nm n d ks s)
theorem val4_a(hc:CW S5 lL [] false (.loop (sub VA 0)) (vuS 4 c nm n d ks s 0 0) (.exit 0) (vuE 4 c nm n d ks s m))(h:aT):(Ev S5 lL 171 [ruD 4 c nm n d ks,.agg s.l] h (eR (rK 4 c n d ks.length s m)) h):=by have xd:=(@hc);exact y0 [.s [2,3,5,9,10,11] xd,(rfl:Ps 4 10=true),.v (Tp (Γ':=lL) (@kh4_ev 4 c m nm n d ks s (Fs c nm n d ks s)))] h
noncomputable abbrev Ft(c:Int)(nm:ByteArray)(n:Int)(d:Int)(ks:bv)(s:ε):aT:=(Z4 5 c nm n d ks s)
theorem val5_a(hs:ah s.seen)(hc:CW S5 lL [] false (.loop (sub VA 0)) (vuS 5 c nm n d ks s 0 0) (.exit 0) (vuE 5 c nm n d ks s m))(h:aT):(Ev S5 lL 171 [ruD 5 c nm n d ks,.agg s.l] h (eR (rK 5 c n d ks.length s m)) h):=by have xd:=(@hc);exact y0 [.s [2,3,5,9,10,11] xd,(rfl:Ps 5 10=true),.v (Tp (Γ':=lL) (@kh5_ev 5 c m nm n d ks s hs (Ft c nm n d ks s)))] h
noncomputable abbrev Fu(c:Int)(nm:ByteArray)(n:Int)(d:Int)(ks:bv)(s:ε):aT:=(Z4 6 c nm n d ks s)
theorem val6_a(hs:ah s.seen)(hc:CW S5 lL [] false (.loop (sub VA 0)) (vuS 6 c nm n d ks s 0 0) (.exit 0) (vuE 6 c nm n d ks s m))(h:aT):(Ev S5 lL 171 [ruD 6 c nm n d ks,.agg s.l] h (eR (rK 6 c n d ks.length s m)) h):=by have xd:=(@hc);exact y0 [.s [2,3,5,9,10,11] xd,(rfl:Ps 6 10=true),.v (Tp (Γ':=lL) (@kh6_ev 6 c m nm n d ks s hs (Fu c nm n d ks s)))] h
noncomputable abbrev Fv(c:Int)(nm:ByteArray)(n:Int)(d:Int)(ks:bv)(s:ε):aT:=(Z4 7 c nm n d ks s)
theorem val7_a(hc:CW S5 lL [] false (.loop (sub VA 0)) (vuS 7 c nm n d ks s 0 0) (.exit 0) (vuE 7 c nm n d ks s m))(h:aT):(Ev S5 lL 171 [ruD 7 c nm n d ks,.agg s.l] h (eR (rK 7 c n d ks.length s m)) h):=by have xd:=(@hc);exact y0 [.s [2,3,5,9,10,11] xd,(rfl:Ps 7 10=true),.v (Tp (Γ':=lL) (@kh7_ev 7 c m nm n d ks s (Fv c nm n d ks s)))] h
noncomputable abbrev Fw(c:Int)(nm:ByteArray)(n:Int)(d:Int)(ks:bv)(s:ε):aT:=(Z4 8 c nm n d ks s)
theorem val8_a(h1:Pu s.n)(h2:Pu s.d)(hn:Pu n)(hd:Pu d)(hc:CW S5 lL [] false (.loop (sub VA 0)) (vuS 8 c nm n d ks s 0 0) (.exit 0) (vuE 8 c nm n d ks s m))(h:aT):(Ev S5 lL 171 [ruD 8 c nm n d ks,.agg s.l] h (eR (rK 8 c n d ks.length s m)) h):=by have xd:=(@hc);exact y0 [.s [2,3,5,9,10,11] xd,(rfl:Ps 8 10=true),.v (Tp (Γ':=lL) (@kh8_ev 8 c m nm n d ks s h1 h2 hn hd (Fw c nm n d ks s)))] h
noncomputable abbrev Fy(c:Int)(nm:ByteArray)(n:Int)(d:Int)(ks:bv)(s:ε):aT:=(Z4 9 c nm n d ks s)
theorem val9_a(hs:ah s.seen)(hc:CW S5 lL [] false (.loop (sub VA 0)) (vuS 9 c nm n d ks s 0 0) (.exit 0) (vuE 9 c nm n d ks s m))(h:aT):(Ev S5 lL 171 [ruD 9 c nm n d ks,.agg s.l] h (eR (rK 9 c n d ks.length s m)) h):=by have xd:=(@hc);exact y0 [.s [2,3,5,9,10,11] xd,(rfl:Ps 9 10=true),.v (Tp (Γ':=lL) (@kh9_ev 9 c m nm n d ks s hs (Fy c nm n d ks s)))] h
end Go.Vi
open Go Go.Proofs
namespace Go.Vi
set_option maxRecDepth 100000
set_option maxHeartbeats 4000000
inductive oz.fine:oz->Prop
 |mk {op c:Int} {nm:ByteArray} {n d:Int} {ks:List oz} (h1:1<=op) (h9:op<=9) (hn:Pu n) (hd:Pu d) (hs:ah ks) (hk:∀k∈ks,k.fine):oz.fine (.mk op c nm n d ks)
variable {b:Bool}{c d e bO n ob op sc st eF Z5 v:Int}{i:Nat}{ks:bv}{nm:ByteArray}{r:oz}{s:ε}{w:eQ}
theorem Fz{k:Int}(h:aP op c n d k=J):1<=op/\op<=9:=by
 unfold aP at h;split at h;·simp at h
 ·by_cases h1:op=1;·omega
  grind
mutual
theorem xt:∀(r:oz) (dep m:Int),r.ok->(r.walk dep m).2=N->r.fine
 |.mk op c nm n d ks,dep,m,hr,h=>by
  simp[oz.ok] at hr;simp[oz.walk] at h;split at h;·simp at h
  ·rename_i hs;have hf:aP op c n d ks.length=J:=by simp only[nY,Bool.or_eq_false_iff,Bool.not_eq_false'] at hs;exact hs.2
   have ho:=Fz hf;exact .mk ho.1 ho.2 hr.1.2.2.1 hr.1.2.2.2.1 hr.1.2.2.2.2 (tb ks _ _ hr.2 h)
theorem tb:∀(ks:List oz) (dep m:Int),gP ks->(zlk ks dep m).2=N->∀k∈ks,k.fine
 | [],_,_,_,_=>qk
 |a::ks,dep,m,hr,h=>by
  simp[gP] at hr;simp[zlk] at h;cases hw:a.walk dep m with
  |mk m' b=>
   rw[hw] at h;cases b with
   |true=>simp at h
   |false=>have ha:a.fine:=xt a dep m hr.1 (by rw[hw]);have hk2:=tb ks dep m' hr.2 h;grind
end
theorem Jh(hs:s.ok)(hr:r.fine):∀h,Ev S5 lL 171 [ag r.row,mS s.l] h (eR (Jg s r)) h:=by
 induction hr with
 | @mk op c nm n d ks h1 h9 hn hd hsh _ ih=>
  intro h;have hc:=vu_all (s:=s) (op:=op) (c:=c) (nm:=nm) (n:=n) (d:=d) hsh ih;rw[Wy,Jg];have hl:ks.length=(fG ks).length:=by rw[dm,List.length_map]
  rw[hl];have:op=1\/op=2\/op=3\/op=4\/op=5\/op=6\/op=7\/op=8\/op=9:=lj
  rcases this with rfl|rfl|rfl|rfl|rfl|rfl|rfl|rfl|rfl;·exact val1_a hc h
  ·exact val2_a hc h
  ·exact val3_a hc h
  ·exact val4_a hc h
  ·exact val5_a hs.s hc h
  ·exact val6_a hs.s hc h
  ·exact val7_a hc h
  ·exact val8_a hs.n hs.d hn hd hc h
  ·exact val9_a hs.s hc h
def qw(r:oz)(s:ε):Bool×Int:=match r.bad with
 |true=>(N,120)
 |false=>match uJ s.seen s.CE s.n s.d != 0 with
  |true=>(N,uJ s.seen s.CE s.n s.d)
  |false=>(Jg s r,0)
noncomputable abbrev CM(op:Int)(c:Int)(n:Int)(d:Int)(nm:ByteArray)(ks:bv)(s:ε):aT:=(Z4 op c nm n d ks s)
theorem Oo(hz:(e != 0)=J)(hk:∀h,Ev S5 lL 161 [ruD op c nm n d ks] h (eO e) h)(h:aT):(Ev S5 lL 98 [ruD op c nm n d ks,mS s.l] h (uN [eR N,eO e]) h):=y0 [.v (@hk (CM op c n d nm ks s)),.b hz] h
noncomputable abbrev tc(op:Int)(c:Int)(n:Int)(d:Int)(nm:ByteArray)(ks:bv)(s:ε):aT:=(Z4 op c nm n d ks s)
theorem Oq(hz:(e != 0)=J)(hk:∀h,Ev S5 lL 161 [ruD op c nm n d ks] h (eO 0) h)(hf:∀h,Ev S5 lL 170 [mS s.l] h (eO e) h)(h:aT):(Ev S5 lL 98 [ruD op c nm n d ks,mS s.l] h (uN [eR N,eO e]) h):=y0 [.v (@hk (tc op c n d nm ks s)),.e,.v (@hf (tc op c n d nm ks s)),.b hz] h
noncomputable abbrev mR(op:Int)(c:Int)(n:Int)(d:Int)(nm:ByteArray)(ks:bv)(s:ε):aT:=(Z4 op c nm n d ks s)
theorem Ot(hk:∀h,Ev S5 lL 161 [ruD op c nm n d ks] h (eO 0) h)(hf:∀h,Ev S5 lL 170 [mS s.l] h (eO 0) h)(hv:∀h,Ev S5 lL 171 [ruD op c nm n d ks,mS s.l] h (eR b) h)(h:aT):(Ev S5 lL 98 [ruD op c nm n d ks,mS s.l] h (uN [eR b,eO 0]) h):=y0 [.v (@hk (mR op c n d nm ks s)),.e,.v (@hf (mR op c n d nm ks s)),.e,.v (@hv (mR op c n d nm ks s))] h
theorem xu(hr:r.ok)(hs:s.ok)(h:aT):Ev S5 lL 98 [mS r.fl.l,mS s.l] h (uN [eR (qw r s).1,eO (qw r s).2]) h:=by
 have hf:∀h,Ev S5 lL 170 [mS s.l] h (eO (uJ s.seen s.CE s.n s.d)) h:=λh=>Tp (Jf hs.s hs.n hs.d h);have hk:∀h,Ev S5 lL 161 [mS r.fl.l] h (eO (iJ r.bad)) h:=λh=>gQ hr h;have hv:r.bad=N->∀h,Ev S5 lL 171 [mS r.fl.l,mS s.l] h (eR (Jg s r)) h:=λhb h=>by have h1:=Jh hs (xt r 1 0 hr hb) h;cases r;exact h1
 unfold qw;cases r with
 |mk op c nm n d ks=>
  cases hb:(oz.mk op c nm n d ks).bad with
  |true=>rw[hb] at hk;exact Oo rfl hk h
  |false=>
   rw[hb] at hk;cases hz:uJ s.seen s.CE s.n s.d != 0 with
   |true=>exact Oq hz hk hf h
   |false=>
    have e0:uJ s.seen s.CE s.n s.d=0:=by simpa using hz
    rw[e0] at hf;exact Ot hk hf (hv hb) h
noncomputable abbrev uL(x:RuF)(s:ε):aT:=(Z4 x.op x.c x.nm x.n x.d x.ks s)
theorem te{x:RuF}(hk:∀h,Ev S5 lL 98 [mS x.l,mS s.l] h (uN [eR b,eO e]) h)(h:aT):(Ev S5 lL 35 [mS x.l,mS s.l] h (eR b) h):=y0 [.v (@hk (uL x s))] h
abbrev zb7:bY:=(zie (qn 5 0) 6 4 7)
abbrev acT:bY:=qm 40 0 [(zeX 1),(ziy 14),(25,.fn (.func 169) [] zb7)]
noncomputable abbrev acL(st:LoopState):ql:=Js st Y 0 acT #[26,27] (ax (sub VP 0)) (ak (sub VP 0))
noncomputable abbrev acH0(w:eQ)(sc st ob eF bO num:Int)(rd:D):aT :=[eP w.l,eP [eO num],eP [rd],.eY [(Z8 sc st ob)] 0 3,eP w.l,eP zga,eP [eO eF],eP [eO bO]]
noncomputable abbrev acH(w:eQ)(sc st ob eF bO num:Int)(rd:D)(ls:LoopState)(more:aT):aT :=[eP w.l,eP [eO num],eP [rd],.eY [(Z8 sc st ob)] 0 3,eP w.l,eP zga,eP [eO eF],eP [eO bO],NH,acL ls]++more
abbrev zew(a b c d e f:Int):bY:=[eO a,eO b,eO c,eO d,eO e,eO f]
abbrev acX(sc st ob eF Z5 v:Int):bY:=(zew sc st ob eF Z5 v)
abbrev acM(sc st ob eF Z5 v:Int):aT:=[eP (Z8 sc st ob),eP (acX sc st ob eF Z5 v)]
abbrev acU:bY:=qm 40 0 [(zeX 1),(ziy 14),(16,gM (qn 12 0))]
noncomputable abbrev zb1(a:eQ)(b c d e f g h:Int):aT:=acH a b c d e f 0 nq EV (acM b c d e g h)
abbrev zdh(a b c d e f:Int):aT:=(acM a b c d e f++[eP (acX a b c d e f)])
theorem ac_asg:(CW S5 ji (zb1 w sc st ob eF bO Z5 v) J (ax (sub VP 0)) {t:=dD acT [(26,eO 0),(27,mS (acX sc st ob eF Z5 v))],h:=(zb1 w sc st ob eF bO Z5 v),m:=[]} w8 {t:=acU,h:=acH w sc st ob eF bO 0 nq EV (zdh sc st ob eF Z5 v),m:=[]}):=yx [E6 (IW [12,14,16])] []
def mx0(v:Int):Int:=if J=J then if 0>v then 0 else v else if 0<v then 0 else v
abbrev acR(sc st ob eF Z5:Int):bY:=[eO sc,eO st,eO ob,eO eF,eO Z5]
abbrev H0(sc st ob eF Z5 v:Int):aT:=acM sc st ob eF Z5 v++[eP (acX sc st ob eF Z5 v),.eY [acR sc st ob eF Z5] 1 5]
abbrev zeh:D:=(gM (.eY 13 1))
theorem Ou:(CW S5 ji (zb1 w sc st ob eF bO Z5 v) J (ak (sub VP 0)) {t:=acU,h:=acH w sc st ob eF bO 0 nq Ρ (zdh sc st ob eF Z5 v),m:=[]} w8 {t:=qm 40 0 [],h:=acH w sc st ob eF bO (mx0 v) zeh Ρ (H0 sc st ob eF Z5 v),m:=[]}):=by let v0:bY:=[eO sc,eO st,eO ob,eO eF,eO Z5];exact yx (zbU [] 14) [(rfl:(Tq [v0] (aL 5)&&uO (S7 zdP+S7 [v0]) 40)=J),pe (gM (qn 12 5)),pe (gM (qn 12 5)),pe (gM (qn 12 5)),po (TO v),po (TO v),po (TO v),po (zcl 13),po (zcl 13),pe (gM (qn 12 0)),pe (D.agg v0),(rfl:Tq [(Z8 sc st ob)] (TL 14)=J),(rfl:Tq [v0] (TL 14)=J),.o (.zhs 2 0 5)]
theorem Ov{w:eQ}{sc st ob eF bO Z5 v:Int}:Iv S5 ji (gM (.yl 9)) [eO 0,mS (acX sc st ob eF Z5 v)] (zb1 w sc st ob eF bO Z5 v) (eR J) (acH w sc st ob eF bO (mx0 v) zeh EV (H0 sc st ob eF Z5 v)) :=Iv.round (h1:=acH w sc st ob eF bO 0 nq EV (zdh sc st ob eF Z5 v)) rfl rfl ac_asg rfl Ou rfl
abbrev zeE(a:Nat):Nat×D:=(8,gM (qn a 0))
abbrev zfx(a:Nat):Nat×D:=(4,gM (qn a 0))
abbrev ziN(a:bv)(b:Nat×D)(c:D):bY:=qm 47 0 [(zfJ 9),(zb9 5),(zda 6),zfR,(zfx 7),(6,eO 0),(zf8 7),(zeE 11),(zeq 11 3),(12,eO 1),(13,eO 0),(31,ab a),b,(33,c)]
abbrev aqT(ps:bv)(i:Int):bY:=(ziN ps (32,eO ps.length) (eO i))
abbrev aqE:bY:=qm 47 0 [(zfJ 9),(zb9 5),(zda 6),zfR,(zfx 7),(6,eO 0),(zf8 7),(zeE 11),(zeq 11 3),(12,eO 1),(13,eO 0)]
abbrev zbV:bY:=(qm 40 0 [(12,gM (qn 1 0)),(ziy 14),(25,UL (TM 169) [] (zie (qn 5 0) 6 4 7))])
noncomputable abbrev zfA(a:eQ)(b c d e f:Int):aT:=acH a b c d e f 0 nq EV []
theorem Ow{ps:List (List Dp)}{p:PtT}(hr:ao (i:Int) ps p.row 2)(oA:fE ((i:Int)<(ps.length:Int))=true)(hw:S6.wrap ((i:Int)+1)=((i+1:Nat):Int)):(CW S5 ji (acH w sc st ob eF bO 0 nq .ready []) false (sub U2 1) {t:=aqT ps i,h:=acH w sc st ob eF bO 0 nq .ready (acM sc st ob eF Z5 v),m:=[]} .normal {t:=aqT ps ((i+1:Nat):Int),h:=acH w sc st ob eF bO 0 nq .ready (acM sc st ob eF Z5 p.value),m:=[]}):=by
 let v0:List D:=[ab (S2 Tc w.c),ab w.p,ab (S2 Tj w.s),ab (S2 Ta w.f)]
 exact yX {t:=qm 47 0 [(0,.ref (.yl 9)),(1,.ref (.ptr 5 0)),(2,.ref (.ptr 6 0)),(3,.ref (.ptr 4 0)),(4,.ref (.ptr 7 0)),(6,eO 0),(7,.ref (.ptr 10 0)),(8,.ref (.ptr 11 0)),(11,.ref (.eY 3 0)),(12,eO 1),(13,eO 0),(31,ab ps),(32,eO (↑(S7 ps):Int)),(33,eO (S8 S6 ((↑i:Int)+1)))],h:=[.var v0,.var [eO 0],.var [nq],.eY [[eO sc,eO st,eO ob]] 0 3,.var v0,.var [.ref (.eY 3 0)],.var [eO eF],.var [eO bO],.δ,.loop TJ none 0 (qm 40 0 [(12,.ref (.ptr 1 0)),(14,.ref (.ptr 2 0)),(25,UL (TM 169) [] [.ref (.ptr 5 0),.ref (.ptr 6 0),.ref (.ptr 4 0),.ref (.ptr 7 0)])]) {toList:=[26,27]} (ax (sub VP 0)) (ak (sub VP 0)),.var [eO sc,eO st,eO ob],.var [eO sc,eO st,eO ob,eO eF,eO Z5,eO p.value]],m:=[]} Tr [.st (.mask [0,1,2,3,4,6,7,8,11,12,13,31,32,33]),.st (.trim 12)] [.b oA,.r hr,(rfl:Tq [[eO sc,eO st,eO ob]] (TL 12)=true)] (by subst v0;grind) (by subst v0;(rw[hw];rfl))
theorem Ox{ps:bv}(oA:fE ((i:Int)<(ps.length:Int))=N):(CW S5 ji (zfA w sc st ob eF bO) N (sub U2 1) {t:=aqT ps i,h:=(zb1 w sc st ob eF bO Z5 v),m:=[]} (EY 2) {t:=aqE,h:=(zb1 w sc st ob eF bO Z5 v),m:=[]}):=yx [E6 (IW [0,1,2,3,4,6,7,8,11,12,13])] [.b oA]
def fF(ps:List PtT)(v:Int):Int:=ps.foldl (λ_ p=>p.value) v
theorem aq_cw{w:eQ}{sc st ob eF bO Z5 v:Int}{ps:List PtT}(hl:ah ps):CW S5 ji (zfA w sc st ob eF bO) false (.loop (sub U2 1)) {t:=aqT (ps.map V2) 0,h:=(zb1 w sc st ob eF bO Z5 v),m:=[]} (.exit 2) {t:=aqE,h:=(zb1 w sc st ob eF bO Z5 (fF ps v)),m:=[]}:=by
 have:=UR (P:=S5) (Γ:=ji) (h0:=(zfA w sc st ob eF bO)) (rd:=false) (c:=sub U2 1) (σ:=Int) (ρ:=Empty) ps (λp _=>.inl p.value)
  (λi v=>{t:=aqT (ps.map V2) (i:Int),h:=(zb1 w sc st ob eF bO Z5 v),m:=[]}) (.exit 2) (λv=>{t:=aqE,h:=(zb1 w sc st ob eF bO Z5 v),m:=[]}) (λr=>r.elim)
  (λ_ _=>True) (by simp) (λr=>r.elim) ?_ ?_ v trivial
 ·rw[aM (λ_ p=>PtT.value p)] at this;exact this
 ·intro i p s hp _;have hi:=(Td.1 hp).1;exact⟨λ_ _=>trivial,Ow (rowAt hp rfl) (F1 _ hi) (sV hi hl)⟩
 ·intro s _;exact Ox (aR _ ps)
abbrev ptV(sc st ob eF bO:Int)(fs:AT):Int:=fF (aH sc st ob eF (S6.wrap (eF+1)) bO fs) 0
abbrev acO(i:Int):bY:=qm 47 0 [(zfJ 9),(zb9 5),(zda 6),zfR,(zfx 7),(zeq 11 3),(12,eO 1),(13,eO i)]
attribute [local irreducible] fF aH mx0
noncomputable abbrev zq(w:eQ)(sc:Int)(st:Int)(ob:Int)(eF:Int)(bO:Int):aT:=[eP (ZA w),eP [eO 0],eP [nq],.eY [(Z8 sc st ob)] 0 3,eP (ZA w),eP zga,eP [eO eF],eP [eO bO],NH,Js TJ Y 0 zbV {toList:=[26,27]} (ax (sub VP 0)) (ak (sub VP 0)),eP (Z8 sc st ob),eP [eO sc,eO st,eO ob,eO eF,(za1 eF),eO 0]]
theorem ztR(hf:ah w.f)(hl:ah (aH sc st ob eF (S6.wrap (eF+1)) bO w.f)):(CW S5 ji (zfA w sc st ob eF bO) N (sub U2 0) {t:=acO 0,h:=(zfA w sc st ob eF bO),m:=[]} w8 {t:=acO 1,h:=acH w sc st ob eF bO (mx0 (ptV sc st ob eF bO w.f)) zeh EV (H0 sc st ob eF (S6.wrap (eF+1)) (ptV sc st ob eF bO w.f)),m:=[]}):=by have xd:=(@aq_cw (w) (sc) (st) (ob) (eF) (bO) (S8 S6 (eF+1)) (0) (aH sc st ob eF (S8 S6 (eF+1)) bO w.f) (hl));exact yx [E6 (IW [0,1,2,3,4,11,12,13])] [(rfl:Ps 0 (S7 [(Z8 sc st ob)])=J),.e,.v (@iM sc st ob eF (S8 S6 (eF+1)) bO (w.f) hf (zq w sc st ob eF bO)),.s [0,1,2,3,4,6,7,8,11,12,13,31,32,33] xd,.j (@Ov w sc st ob eF bO (S8 S6 (eF+1)) (fF (aH sc st ob eF (S8 S6 (eF+1)) bO w.f) 0)),.e]
theorem Oy{num:Int}:(CW S5 ji (zfA w sc st ob eF bO) N (sub U2 0) {t:=acO 1,h:=acH w sc st ob eF bO num zeh EV (H0 sc st ob eF Z5 v),m:=[]} (EY 0) {t:=qm 47 0 [],h:=acH w sc st ob eF bO num zeh EV (H0 sc st ob eF Z5 v),m:=[]}):=yx zbN [.e]
theorem ac_cw{w:eQ}(hf:ah w.f){sc st ob eF bO:Int}(hl:ah (aH sc st ob eF (S6.wrap (eF+1)) bO w.f)):CW S5 ji (zfA w sc st ob eF bO) false (.loop (sub U2 0)) {t:=acO 0,h:=(zfA w sc st ob eF bO),m:=[]} (.exit 0) {t:=qm 47 0 [],h:=acH w sc st ob eF bO (mx0 (ptV sc st ob eF bO w.f)) zeh .ready (H0 sc st ob eF (S6.wrap (eF+1)) (ptV sc st ob eF bO w.f)),m:=[]}:=by
 have:=UR (P:=S5) (Γ:=ji) (h0:=(zfA w sc st ob eF bO)) (rd:=false) (c:=sub U2 0) (σ:=Bool) (ρ:=Empty) [()] (λ_ _=>.inl true)
  (λi b=>match b with
   | false=>{t:=acO (i:Int),h:=(zfA w sc st ob eF bO),m:=[]}
   | true=>{t:=acO (i:Int),h:=acH w sc st ob eF bO (mx0 (ptV sc st ob eF bO w.f)) zeh .ready (H0 sc st ob eF (S6.wrap (eF+1)) (ptV sc st ob eF bO w.f)),m:=[]})
  (.exit 0) (λ_=>{t:=qm 47 0 [],h:=acH w sc st ob eF bO (mx0 (ptV sc st ob eF bO w.f)) zeh .ready (H0 sc st ob eF (S6.wrap (eF+1)) (ptV sc st ob eF bO w.f)),m:=[]}) (λr=>r.elim)
  (λi b=>b=fE (i=1)) (by simp) (λr=>r.elim) ?_ ?_ false rfl
 ·exact this
 ·intro i p b hp hb;have hi:i=0:=by have:=(Td.1 hp).1;simpa using this
  subst hi;simp at hb;subst hb;exact⟨λ_ h=>by cases h;rfl,ztR hf hl⟩
 ·intro b hb;simp at hb;subst hb;exact Oy
theorem FA(hf:ah w.f)(hl:ah (aH sc st ob eF (S6.wrap (eF+1)) bO w.f)):(Ev S5 ji 169 [gM (.yl 9),gM (qn 5 0),gM (qn 6 0),gM (qn 4 0),gM (qn 7 0)] (zfA w sc st ob eF bO) (uN []) (acH w sc st ob eF bO (mx0 (ptV sc st ob eF bO w.f)) zeh EV (H0 sc st ob eF (S6.wrap (eF+1)) (ptV sc st ob eF bO w.f)))):=by have xd:=(@ac_cw (w) (hf) (sc) (st) (ob) (eF) (bO) (hl));let v0:bY:=(ZA w);let v1:bY:=[eO sc,eO st,eO ob,eO eF,(za1 eF),eO (ptV sc st ob eF bO w.f)];exact Tw (yF (h':=[eP v0,eP [eO (mx0 (ptV sc st ob eF bO w.f))],eP (zbn 13 1),.eY [(Z8 sc st ob)] 0 3,eP v0,eP zga,eP [eO eF],eP [eO bO],NH,Js TJ Y 0 zbV {toList:=[26,27]} (ax (sub VP 0)) (ak (sub VP 0)),eP (Z8 sc st ob),eP v1,eP v1,.eY (zhI sc st ob eF) 1 5]) (d:=D.Pp []) [.s [0,1,2,3,4,11,12,13] xd]) Fb Fb
theorem Ji{w:eQ}(hf:ah w.f){sc st ob eF bO:Int}(hl:ah (aH sc st ob eF (S6.wrap (eF+1)) bO w.f)):CW S5 ji [] N (sub VP 0) {t:=acT,h:=acH0 w sc st ob eF bO 0 nq,m:=[]} w8
  {t:=acT,h:=acH w sc st ob eF bO (mx0 (ptV sc st ob eF bO w.f)) zeh zca (H0 sc st ob eF (S6.wrap (eF+1)) (ptV sc st ob eF bO w.f)),m:=[8]}:=by
 exact CW.rangeFunc (f:=169) (fi:=[]) (ca:=zb7) τ (s:={t:=acT,h:=acH0 w sc st ob eF bO 0 nq,m:=[]}) (g:=.tmp 25) (ps:=#[26,27]) (asg:=ax (sub VP 0)) (body:=ak (sub VP 0)) rfl Z (FA hf hl) rfl
theorem Jj(hf:ah w.f)(hl:ah (aH sc st ob eF (S6.wrap (eF+1)) bO w.f))(h:aT):(Ev S5 ji 34 (zb5 w sc st ob eF (eO bO)) h (uN [eO (mx0 (ptV sc st ob eF bO w.f)),eR (fE (mx0 (ptV sc st ob eF bO w.f)>0)),ab [[vi sc,vi st,vi ob,vi eF,vi (S6.wrap (eF+1))]]]) h):=by have xd:=(@Ji (w) (hf) (sc) (st) (ob) (eF) (bO) (hl));let v0:=ab (zbz sc st ob eF);exact y0 [.a1 Τ,.s [12,14,25] xd,pr (zhI sc st ob eF),pr [(Z8 sc st ob)],po (TO (mx0 (ptV sc st ob eF bO w.f))),po (TO (mx0 (ptV sc st ob eF bO w.f))),pr (G v0),pr (G v0),.o (Λ 13 (zbz sc st ob eF))] h
end Go.Vi
open Go Go.Proofs
namespace Go.Vi
set_option maxRecDepth 100000
set_option maxHeartbeats 4000000
variable {L R ks ls rs:bv}{a b c i k bO n st eF Z5 v:Int}{l0 r0:List (List Dp)}{w:eQ}
def hkR(kd st:Int)(n:Nat):bv:=(T1 n).map λk:Nat=>[vi kd,vi st,vi (k:Int)]
theorem FB(kd st:Int)(n:Nat):(hkR kd st n).length=n:=by simp[hkR]
theorem FC(ks:List (List Dp))(a b c:Int):ad ks++[[eO a,eO b,eO c]]=ad (ks++[[vi a,vi b,vi c]]):=u4 ks [vi a,vi b,vi c]
abbrev zi3(a:List (Nat×D))(b:bY)(c:List (bY)):AS:={t:=qm 48 0 a,h:=[eP b,eP [nq],eP [nq],.eY (c) 0 3],m:=[]}
abbrev hkS(w:eQ)(kd st eF bO:Int)(ks:List (List Dp))(n:Int):AS:={t:=qm 48 0 [(1,eO kd),(2,eO st),(3,eO eF),(4,eO bO),(5,.ref (.ptr 0 0)),(10,.ref (.ptr 1 0)),(11,.ref (.ptr 2 0)),(12,.ref (.eY 3 0)),(16,eO n)],h:=[.var w.l,.var [nq],.var [nq],.eY (ad ks) 0 3],m:=[]}
abbrev hkE(w:eQ)(kd st eF bO:Int)(ks:bv):AS:=(zi3 [(1,eO kd),(2,eO st),(3,eO eF),(4,eO bO),zbK,WF,zat,(zeq 12 3)] w.l (ad ks))
theorem Oz{kd:Int}{n:Nat}{ks:List (List Dp)}(hk:ks.length<=100)(oA:fE ((n:Int)<8)=true)(hw:S6.wrap ((n:Int)+1)=((n+1:Nat):Int)):(CW S5 ji [] false (sub UQ 0) (hkS w kd st eF bO ks n) .normal (hkS w kd st eF bO (ks++[[vi kd,vi st,vi (n:Int)]]) ((n+1:Nat):Int))):=by
 refine yX {t:=qm 48 0 [(1,eO kd),(2,eO st),(3,eO eF),(4,eO bO),(5,.ref (.ptr 0 0)),(10,.ref (.ptr 1 0)),(11,.ref (.ptr 2 0)),(12,.ref (.eY 3 0)),(16,eO (S8 S6 ((↑n:Int)+1)))],h:=[.var [ab (S2 Tc w.c),ab w.p,ab (S2 Tj w.s),ab (S2 Ta w.f)],.var [nq],.var [nq],.eY (ad ks++[[eO kd,eO st,eO (↑n:Int)]]) 0 3],m:=[]} Tr [.st (.mask [1,2,3,4,5,10,11,12,16]),.st (.ren 3 0),.st (.trim 4)] [.b oA,((by grind [aL,Zk,Up,uO]):(Tq [[eO kd,eO st,eO (↑n:Int)]] (aL 3)&&uO (S7 (ad ks)+S7 [[eO kd,eO st,eO (↑n:Int)]]) 24)=true),(?_:S2 (Tz (ar 3 1 0)) (ad ks++[[eO kd,eO st,eO (↑n:Int)]])=ad ks++[[eO kd,eO st,eO (↑n:Int)]]),pr [[eO kd,eO st,eO (↑n:Int)]],(?_:Tq (ad ks++[[eO kd,eO st,eO (↑n:Int)]]) (TL 4)=true)] (by grind) (by simp only[hw,hkS,ad,Uh,U5,Yi];rfl)<;>(first|(rw[FC];exact aB _ _)|(rw[FC];exact aD _ _))
theorem OA{kd:Int}:(CW S5 ji [] N (sub UQ 0) (hkS w kd st eF bO ks 8) (EY 0) (hkE w kd st eF bO ks)):=yx [E6 (IW [1,2,3,4,5,10,11,12])] [.e]
theorem hk_cw{kd:Int}:CW S5 ji [] false (.loop (sub UQ 0)) (hkS w kd st eF bO [] 0) (.exit 0) (hkE w kd st eF bO (hkR kd st 8)):=by
 refine CW.zmB 8 (λi=>hkS w kd st eF bO (hkR kd st i) (i:Int)) (by simp[hkR]) (λi hi=>?_) OA;have e:hkR kd st (i+1)=hkR kd st i++[[vi kd,vi st,vi (i:Int)]]:=by simp[hkR,Xe]
 rw[e];exact Oz (by rw[FB];omega) (decide_eq_true (by omega)) (by rw[wrap_i64 (by omega) (by omega)];omega)
abbrev zbh:bY:=(zie (qn 7 0) 8 6 9)
abbrev hdT:bY:=qm 48 0 [WF,zat,(31,.fn (.func 169) [] zbh)]
noncomputable abbrev hdL(st:LoopState):ql:=Js st Y 0 hdT #[32,33] (ax (sub UQ 1)) (ak (sub UQ 1))
noncomputable abbrev hdH0(w:eQ)(ks:bv)(eF bO:Int)(e:Nat)(ls rs:bv):aT :=[eP w.l,eP (zbn 4 e),eP (zbn 5 e),xx,.eY (ad ls) e 1,.eY (ad rs) e 5,eP w.l,eP [ab ks],eP [eO eF],eP [eO bO]]
noncomputable abbrev hdH(w:eQ)(ks:List (List Dp))(eF bO:Int)(e:Nat)(ls rs:List (List Dp))(lp:LoopState)(more:List ql):List ql :=
 [.var w.l,.var [.ref (.eY 4 e)],.var [.ref (.eY 5 e)],.EZ,.eY (ad ls) e 1,.eY (ad rs) e 5,.var w.l,.var [ab ks],.var [eO eF],.var [eO bO],.δ,hdL lp]++more
abbrev hdU(i:Int):bY:=qm 48 0 [WF,zat,(14,eO i),(15,gM (qn 14 0))]
theorem hd_asg:(CW S5 ji (hdH w ks eF bO 1 ls rs EV (acM a b c eF Z5 v)) J (ax (sub UQ 1)) {t:=dD hdT [(32,eO i),(33,mS (acX a b c eF Z5 v))],h:=hdH w ks eF bO 1 ls rs EV (acM a b c eF Z5 v),m:=[]} w8 {t:=hdU i,h:=hdH w ks eF bO 1 ls rs EV (zdh a b c eF Z5 v),m:=[]}):=yx [E6 (IW [10,11,14,15])] []
def hlF(v i:Int)(ls:bv):bv:=bif v==1 then ls++[[vi i]] else ls
theorem uM(ks:bv)(a b c d e:Int):ad ks++[[eO a,eO b,eO c,eO d,eO e]]=ad (ks++[[vi a,vi b,vi c,vi d,vi e]]):=u4 ks [vi a,vi b,vi c,vi d,vi e]
theorem LX(ks:bv)(a:Int):ad ks++[[eO a]]=ad (ks++[[vi a]]):=u4 ks [vi a]
abbrev zgf:Array Tmp:={toList:=[32,33]}
abbrev zgj(a:iS)(b c:Nat):Do:=[E6 (IW a),E6 (.ren 4 b),E6 (.ren 5 b),E6 (zhZ c)]
abbrev zhY:bY:=(qm 48 0 [WF,zat,(31,UL (TM 169) [] zbh)])
theorem OB(hl:ls.length<=100)(hr:rs.length<=100):(CW S5 ji (hdH w ks eF bO 1 ls rs EV (acM a b c eF Z5 v)) J (ak (sub UQ 1)) {t:=hdU i,h:=hdH w ks eF bO 1 ls rs Ρ (zdh a b c eF Z5 v),m:=[]} w8 {t:=qm 48 0 [],h:=hdH w ks eF bO 2 (hlF v i ls) (rs++[[vi a,vi b,vi c,vi eF,vi Z5]]) Ρ (zdh a b c eF Z5 v),m:=[]}):=by
 cases sR:v==1;·let v0:bY:=[eO a,eO b,eO c,eO eF,eO Z5];let v1:bY:=(ZA w);refine yX {t:=qm 48 0 [],h:=[eP v1,eP (zbn 4 2),eP (zbn 5 2),xx,.eY (ad ls) 2 1,.eY (ad rs++[v0]) 2 5,eP v1,eP [ab ks],eP [eO eF],eP [eO bO],NH,Js TX Y 0 zhY zgf (ax (sub UQ 1)) (ak (sub UQ 1)),eP (Z8 a b c),eP (zew a b c eF Z5 v),eP (zew a b c eF Z5 v)],m:=[]} Tr (zgj [] 2 15) [(?_:(Tq [v0] (aL 5)&&uO (S7 (ad rs)+S7 [v0]) 40)=J),.b sR,(?_:S2 (Tz (ar 4 1 2)) (ad ls)=ad ls),(?_:S2 (Tz (ar 4 1 2)) (ad rs++[v0])=ad rs++[v0]),pr [v0],(?_:S2 (Tz (ar 5 2 2)) (ad rs++[v0])=ad rs++[v0]),(?_:S2 (Tz (ar 5 2 2)) (ad ls)=ad ls),pr [v0],(?_:Tq (ad ls) (TL 15)=J),(?_:Tq (ad rs++[v0]) (TL 15)=J)] (by subst v0 v1;grind) (by subst v0 v1;(have hh:(v==1)=N:=sR;simp only[hlF,hh,cond_false,hdH,ad,Uh,U5,Yi];first|done|rfl))<;>subst v0 v1<;>(first|exact aB _ _|exact aD _ _|(rw[uM];exact aB _ _)|(rw[uM];exact aD _ _)|(simp[aL,Zk,Up,uO];omega))
 ·let v0:bY:=[eO a,eO b,eO c,eO eF,eO Z5];let v1:bY:=(ZA w);refine yX (zkk 48 [eP v1,eP (zbn 4 2),eP (zbn 5 2),xx,.eY (ad ls++[[eO i]]) 2 1,.eY (ad rs++[v0]) 2 5,eP v1,eP [ab ks],eP [eO eF],eP [eO bO],NH,Js TX Y 0 zhY zgf (ax (sub UQ 1)) (ak (sub UQ 1)),eP (Z8 a b c),eP (zew a b c eF Z5 v),eP (zew a b c eF Z5 v)]) Tr (zgj [] 2 15) [(?_:(Tq [v0] (aL 5)&&uO (S7 (ad rs)+S7 [v0]) 40)=J),.b sR,((by subst v0 v1;grind [aL,Zk,Up,uO]):(Tq [[eO i]] (aL 1)&&uO (S7 (ad ls)+S7 [[eO i]]) 8)=J),(?_:S2 (Tz (ar 4 2 2)) (ad ls++[[eO i]])=ad ls++[[eO i]]),(?_:S2 (Tz (ar 4 2 2)) (ad rs++[v0])=ad rs++[v0]),pr [v0],pr [[eO i]],(?_:S2 (Tz (ar 5 2 2)) (ad rs++[v0])=ad rs++[v0]),(?_:S2 (Tz (ar 5 2 2)) (ad ls++[[eO i]])=ad ls++[[eO i]]),pr [v0],pr [[eO i]],(?_:Tq (ad ls++[[eO i]]) (TL 15)=J),(?_:Tq (ad rs++[v0]) (TL 15)=J)] (by subst v0 v1;grind) (by subst v0 v1;(have hh:(v==1)=J:=sR;simp only[hlF,hh,cond_true,hdH,ad,Uh,U5,Yi];first|done|rfl))<;>subst v0 v1<;>(first|(rw[uM];exact aB _ _)|(rw[uM];exact aD _ _)|(rw[LX];exact aB _ _)|(rw[LX];exact aD _ _)|(simp[aL,Zk,Up,uO];omega))
theorem OC{w:eQ}{ks ls rs:bv}{eF bO i a b c Z5 v:Int}(hl:ls.length<=100)(hr:rs.length<=100):Iv S5 ji (gM (.yl 11)) [eO i,mS (acX a b c eF Z5 v)] (hdH w ks eF bO 1 ls rs EV (acM a b c eF Z5 v)) (eR J) (hdH w ks eF bO 2 (hlF v i ls) (rs++[[vi a,vi b,vi c,vi eF,vi Z5]]) EV (zdh a b c eF Z5 v)) :=Iv.round (h1:=hdH w ks eF bO 1 ls rs EV (zdh a b c eF Z5 v)) rfl rfl hd_asg rfl (OB hl hr) rfl
abbrev zgT:Nat×D:=(0,gM (.yl 11))
abbrev bqT(ks:bv)(n:Int)(k:Int)(ps:bv)(i:Int):bY:=qm 47 0 [zgT,(zb9 7),(zda 8),zds,(zfx 9),(6,eO k),(zfb 12),(zeE 13),(11,ab ks),(12,eO n),(13,eO k),(31,ab ps),(32,eO ps.length),(33,eO i)]
abbrev bqE(ks:bv)(n:Int)(k:Int):bY:=qm 47 0 [zgT,(zb9 7),(zda 8),zds,(zfx 9),(6,eO k),(zfb 12),(zeE 13),(11,ab ks),(12,eO n),(13,eO k)]
theorem OD{ks ls rs:List (List Dp)}{ps:List (List Dp)}{p:PtT}{i:Nat}(hr:ao (i:Int) ps p.row 2)(oA:fE ((i:Int)<(ps.length:Int))=true)(hw:S6.wrap ((i:Int)+1)=((i+1:Nat):Int)):(CW S5 ji (hdH w ks eF bO 0 l0 r0 .ready []) false (sub U2 1) {t:=bqT ks n k ps i,h:=hdH w ks eF bO 1 ls rs .ready (acM a b c eF Z5 v),m:=[]} .normal {t:=bqT ks n k ps ((i+1:Nat):Int),h:=hdH w ks eF bO 1 ls rs .ready (acM a b c eF Z5 p.value),m:=[]}):=by
 let v0:List D:=[ab (S2 Tc w.c),ab w.p,ab (S2 Tj w.s),ab (S2 Ta w.f)]
 refine yX {t:=qm 47 0 [(0,.ref (.yl 11)),(1,.ref (.ptr 7 0)),(2,.ref (.ptr 8 0)),(3,.ref (.ptr 6 0)),(4,.ref (.ptr 9 0)),(6,eO k),(7,.ref (.ptr 12 0)),(8,.ref (.ptr 13 0)),(11,ab ks),(12,eO n),(13,eO k),(31,ab ps),(32,eO (↑(S7 ps):Int)),(33,eO (S8 S6 ((↑i:Int)+1)))],h:=[.var v0,.var [.ref (.eY 4 1)],.var [.ref (.eY 5 1)],.EZ,.eY (ad ls) 1 1,.eY (ad rs) 1 5,.var v0,.var [ab ks],.var [eO eF],.var [eO bO],.δ,.loop TJ none 0 (qm 48 0 [(10,.ref (.ptr 1 0)),(11,.ref (.ptr 2 0)),(31,UL (TM 169) [] [.ref (.ptr 7 0),.ref (.ptr 8 0),.ref (.ptr 6 0),.ref (.ptr 9 0)])]) {toList:=[32,33]} (ax (sub UQ 1)) (ak (sub UQ 1)),.var [eO a,eO b,eO c],.var [eO a,eO b,eO c,eO eF,eO Z5,eO p.value]],m:=[]} Tr [.st (.mask [0,1,2,3,4,6,7,8,11,12,13,31,32,33]),.st (.trim 14)] [.b oA,.r hr,(?_:Tq (ad ls) (TL 14)=true),(?_:Tq (ad rs) (TL 14)=true)] (by subst v0;grind) (by subst v0;(rw[hw];rfl))<;>subst v0<;>(exact aD _ _)
theorem OE{l0 r0:bv}{ps:bv}{i:Nat}(oA:fE ((i:Int)<(ps.length:Int))=N):(CW S5 ji (hdH w ks eF bO 0 l0 r0 EV []) N (sub U2 1) {t:=bqT ks n k ps i,h:=hdH w ks eF bO 1 ls rs EV (acM a b c eF Z5 v),m:=[]} (EY 2) {t:=bqE ks n k,h:=hdH w ks eF bO 1 ls rs EV (acM a b c eF Z5 v),m:=[]}):=yx [E6 (IW [0,1,2,3,4,6,7,8,11,12,13])] [.b oA]
theorem bq_cw{w:eQ}{ks ls rs l0 r0:bv}{n k a b c eF bO Z5 v:Int}{ps:List PtT}(hl:ah ps):CW S5 ji (hdH w ks eF bO 0 l0 r0 .ready []) false (.loop (sub U2 1)) {t:=bqT ks n k (ps.map V2) 0,h:=hdH w ks eF bO 1 ls rs .ready (acM a b c eF Z5 v),m:=[]} (.exit 2) {t:=bqE ks n k,h:=hdH w ks eF bO 1 ls rs .ready (acM a b c eF Z5 (fF ps v)),m:=[]}:=by
 have:=UR (P:=S5) (Γ:=ji) (h0:=hdH w ks eF bO 0 l0 r0 .ready []) (rd:=false) (c:=sub U2 1) (σ:=Int) (ρ:=Empty) ps (λp _=>.inl p.value)
  (λi v=>{t:=bqT ks n k (ps.map V2) (i:Int),h:=hdH w ks eF bO 1 ls rs .ready (acM a b c eF Z5 v),m:=[]}) (.exit 2) (λv=>{t:=bqE ks n k,h:=hdH w ks eF bO 1 ls rs .ready (acM a b c eF Z5 v),m:=[]}) (λr=>r.elim)
  (λ_ _=>True) (by simp) (λr=>r.elim) ?_ ?_ v trivial
 ·rw[aM (λ_ p=>PtT.value p)] at this;exact this
 ·intro i p s hp _;have hi:=(Td.1 hp).1;exact⟨λ_ _=>trivial,OD (rowAt hp rfl) (F1 _ hi) (sV hi hl)⟩
 ·intro s _;exact OE (aR _ ps)
abbrev hdO(ks:bv)(n i:Int):bY:=qm 47 0 [zgT,(zb9 7),(zda 8),zds,(zfx 9),(11,ab ks),(12,eO n),(13,eO i)]
attribute [local irreducible] fF aH hlF
abbrev rdW(kd st:Int)(i:Nat)(eF:Int):dO:=[vi kd,vi st,vi (i:Int),vi eF,vi (S6.wrap (eF+1))]
noncomputable abbrev zr(w:eQ)(ks:bv)(ls:bv)(rs:bv)(kd:Int)(st:Int)(eF:Int)(bO:Int)(i:Nat):aT:=[eP (ZA w),eP zcr,eP zel,xx,.eY (ad ls) 1 1,.eY (ad rs) 1 5,eP (ZA w),eP [ab ks],eP [eO eF],eP [eO bO],NH,Js TJ Y 0 zhY zgf (ax (sub UQ 1)) (ak (sub UQ 1)),eP [eO kd,eO st,(zaS i)],eP [eO kd,eO st,(zaS i),eO eF,(za1 eF),eO 0]]
theorem Jk(hf:ah w.f){ks ls rs:List (List Dp)}{kd:Int}{i:Nat}(hr:ao (i:Int) ks [vi kd,vi st,vi (i:Int)] 3)(oA:fE ((i:Int)<n)=true)(hw:S6.wrap ((i:Int)+1)=((i+1:Nat):Int))(hl:ah (aH kd st i eF (S6.wrap (eF+1)) bO w.f))(hll:ls.length<=100)(hrr:rs.length<=100):(CW S5 ji (hdH w ks eF bO 0 l0 r0 .ready []) false (sub U2 0) {t:=hdO ks n i,h:=hdH w ks eF bO 1 ls rs .ready [],m:=[]} .normal {t:=hdO ks n ((i+1:Nat):Int),h:=hdH w ks eF bO 1 (hlF (ptV kd st i eF bO w.f) i ls) (rs++[rdW kd st i eF]) .ready [],m:=[]}):=by
 have xd:=(@bq_cw (w) (ks) (ls) (rs) (l0) (r0) (n) ((↑i:Int)) (kd) (st) ((↑i:Int)) (eF) (bO) (S8 S6 (eF+1)) (0) (aH kd st (↑i:Int) eF (S8 S6 (eF+1)) bO w.f) (hl))
 let v0:List D:=[ab (S2 Tc w.c),ab w.p,ab (S2 Tj w.s),ab (S2 Ta w.f)]
 refine yX {t:=qm 47 0 [(0,.ref (.yl 11)),(1,.ref (.ptr 7 0)),(2,.ref (.ptr 8 0)),(3,.ref (.ptr 6 0)),(4,.ref (.ptr 9 0)),(11,ab ks),(12,eO n),(13,eO (S8 S6 ((↑i:Int)+1)))],h:=[.var v0,.var [.ref (.eY 4 1)],.var [.ref (.eY 5 1)],.EZ,.eY (ad (hlF (fF (aH kd st (↑i:Int) eF (S8 S6 (eF+1)) bO w.f) 0) (↑i:Int) ls)) 1 1,.eY (ad (rs++[[vi kd,vi st,vi (↑i:Int),vi eF,vi (S8 S6 (eF+1))]])) 1 5,.var v0,.var [ab ks],.var [eO eF],.var [eO bO],.δ,.loop TJ none 0 (qm 48 0 [(10,.ref (.ptr 1 0)),(11,.ref (.ptr 2 0)),(31,UL (TM 169) [] [.ref (.ptr 7 0),.ref (.ptr 8 0),.ref (.ptr 6 0),.ref (.ptr 9 0)])]) {toList:=[32,33]} (ax (sub UQ 1)) (ak (sub UQ 1))],m:=[]} Tr [.st (.mask [0,1,2,3,4,11,12,13]),.st (.ren 4 1),.st (.ren 5 1),.st (.trim 12)] [.b oA,.r hr,.v (@iM kd st (↑i:Int) eF (S8 S6 (eF+1)) bO (w.f) hf (zr w ks ls rs kd st eF bO i)),.s [0,1,2,3,4,6,7,8,11,12,13,31,32,33] xd,.j (@OC w ks ls rs eF bO (↑i:Int) kd st (↑i:Int) (S8 S6 (eF+1)) (fF (aH kd st (↑i:Int) eF (S8 S6 (eF+1)) bO w.f) 0) hll hrr),.b (rfl:(!true)=false),(?_:S2 (Tz (ar 4 2 1)) (ad (hlF (fF (aH kd st (↑i:Int) eF (S8 S6 (eF+1)) bO w.f) 0) (↑i:Int) ls))=ad (hlF (fF (aH kd st (↑i:Int) eF (S8 S6 (eF+1)) bO w.f) 0) (↑i:Int) ls)),(?_:S2 (Tz (ar 4 2 1)) (ad (rs++[[vi kd,vi st,vi (↑i:Int),vi eF,vi (S8 S6 (eF+1))]]))=ad (rs++[[vi kd,vi st,vi (↑i:Int),vi eF,vi (S8 S6 (eF+1))]])),(?_:S2 (Tz (ar 5 2 1)) (ad (rs++[[vi kd,vi st,vi (↑i:Int),vi eF,vi (S8 S6 (eF+1))]]))=ad (rs++[[vi kd,vi st,vi (↑i:Int),vi eF,vi (S8 S6 (eF+1))]])),(?_:S2 (Tz (ar 5 2 1)) (ad (hlF (fF (aH kd st (↑i:Int) eF (S8 S6 (eF+1)) bO w.f) 0) (↑i:Int) ls))=ad (hlF (fF (aH kd st (↑i:Int) eF (S8 S6 (eF+1)) bO w.f) 0) (↑i:Int) ls)),(?_:Tq (ad (hlF (fF (aH kd st (↑i:Int) eF (S8 S6 (eF+1)) bO w.f) 0) (↑i:Int) ls)) (TL 12)=true),(?_:Tq (ad (rs++[[vi kd,vi st,vi (↑i:Int),vi eF,vi (S8 S6 (eF+1))]])) (TL 12)=true)] (by subst v0;grind) (by subst v0;(rw[hw];rfl))<;>subst v0<;>(first|exact aD _ _|exact aB _ _)
theorem OG{l0 r0:bv}(oA:fE (i<n)=N):(CW S5 ji (hdH w ks eF bO 0 l0 r0 EV []) N (sub U2 0) {t:=hdO ks n i,h:=hdH w ks eF bO 1 ls rs EV [],m:=[]} (EY 0) {t:=qm 47 0 [],h:=hdH w ks eF bO 1 ls rs EV [],m:=[]}):=yx zbN [.b oA]
def hlR(kd st eF bO:Int)(fs:AT)(n:Nat):bv:=(T1 n).foldl (λls k=>hlF (ptV kd st (k:Nat) eF bO fs) (k:Nat) ls) []
def hrR(kd st eF:Int)(n:Nat):bv:=(T1 n).map λk=>rdW kd st k eF
theorem OH(v i:Int)(ls:bv):(hlF v i ls).length<=ls.length+1:=by unfold hlF;grind
theorem FD{kd st eF bO:Int}{fs:AT}:∀n:Nat,(hlR kd st eF bO fs n).length<=n
 |0=>by simp[hlR]
 |n+1=>by have h:=FD (kd:=kd) (st:=st) (eF:=eF) (bO:=bO) (fs:=fs) n;unfold hlR at h ⊢;rw[Xe,Ym];simp only[TG,List.foldl_nil];exact Nat.le_trans (OH _ _ _) lj
noncomputable abbrev ze1(a:bv)(b:eQ)(c d:Int):AS:={t:=hdO a a.length 0,h:=hdH b a c d 1 [] [] EV [],m:=[]}
theorem hd_cw(hf:ah w.f){kd:Int}{ks:List (List Dp)}(hk:ks=hkR kd st 8)(hl:∀i:Nat,ah (aH kd st i eF (S6.wrap (eF+1)) bO w.f)):CW S5 ji (hdH w ks eF bO 0 [] [] .ready []) false (.loop (sub U2 0)) {t:=hdO ks ks.length 0,h:=hdH w ks eF bO 1 [] [] .ready [],m:=[]} (.exit 0) {t:=qm 47 0 [],h:=hdH w ks eF bO 1 (hlR kd st eF bO w.f 8) (hrR kd st eF 8) .ready [],m:=[]}:=by
 have h8:ks.length=8:=by rw[hk,FB]
 rw[h8]
 refine CW.zmB 8 (λi=>{t:=hdO ks (8:Nat) (i:Int),h:=hdH w ks eF bO 1 (hlR kd st eF bO w.f i) (hrR kd st eF i) .ready [],m:=[]}) (by simp) (λi hi=>?_) (OG (by simp))
 have e1:hlR kd st eF bO w.f (i+1)=hlF (ptV kd st i eF bO w.f) i (hlR kd st eF bO w.f i):=by unfold hlR;rw[Xe,Ym];rfl
 have e2:hrR kd st eF (i+1)=hrR kd st eF i++[rdW kd st i eF]:=by simp[hrR,Xe]
 rw[e1,e2]
 have h1:=FD (kd:=kd) (st:=st) (eF:=eF) (bO:=bO) (fs:=w.f) i
 refine Jk hf ?_ (decide_eq_true (by omega)) (by rw[wrap_i64 (by omega) (by omega)];omega) (hl i) (by omega) (by simp[hrR];omega)
 have:(T1 8)[i]? = some i:=by simp[hi]
 rw[hk]
 exact rowAt (row:=λk:Nat=>[vi kd,vi st,vi (k:Int)]) this rfl
theorem FE(hc:CW S5 ji (hdH w ks eF bO 0 [] [] .ready []) false (.loop (sub U2 0)) (ze1 ks w eF bO) (.exit 0) (zkk 47 (hdH w ks eF bO 1 L R .ready []))):(Ev S5 ji 169 [.ref (.yl 11),.ref (.ptr 7 0),.ref (.ptr 8 0),.ref (.ptr 6 0),.ref (.ptr 9 0)] (hdH w ks eF bO 0 [] [] .ready []) (.Pp []) (hdH w ks eF bO 1 L R .ready [])):=by have xd:=(@hc);let v0:bY:=(ZA w);exact Tw (yF (h':=[.var v0,.var zcr,.var zel,.EZ,.eY (ad L) 1 1,.eY (ad R) 1 5,.var v0,.var [ab ks],.var [eO eF],.var [eO bO],.δ,.loop TJ none 0 zhY zgf (ax (sub UQ 1)) (ak (sub UQ 1))]) (d:=D.Pp []) [(rfl:zdP=[]),(rfl:zdP=[]),(rfl:zdP=[]),(rfl:zdP=[]),.o (.ren 4 1),.o (.ren 5 1),.s [0,1,2,3,4,11,12,13] xd]) (by rfl) (by rfl)
theorem Jl{w:eQ}{eF bO:Int}{ks L R:bv}(hc:CW S5 ji (hdH w ks eF bO 0 [] [] .ready []) false (.loop (sub U2 0)) (ze1 ks w eF bO) (.exit 0) (zkk 47 (hdH w ks eF bO 1 L R .ready []))):CW S5 ji [] false (sub UQ 1) {t:=hdT,h:=hdH0 w ks eF bO 0 [] [],m:=[]} .normal
  {t:=hdT,h:=hdH w ks eF bO 1 L R .exhausted [],m:=[10]}:=by
 exact CW.rangeFunc (f:=169) (fi:=[]) (ca:=zbh) τ (s:={t:=hdT,h:=hdH0 w ks eF bO 0 [] [],m:=[]}) (g:=.tmp 31) (ps:=#[32,33]) (asg:=ax (sub UQ 1)) (body:=ak (sub UQ 1)) rfl (by kernel_rfl) (FE hc) rfl
theorem of86_a{kd:Int}(hk:CW S5 ji [] false (.loop (sub UQ 0)) (hkS w kd st eF bO [] 0) (.exit 0) (hkE w kd st eF bO ks))(hc:CW S5 ji (hdH w ks eF bO 0 [] [] .ready []) false (.loop (sub U2 0)) (ze1 ks w eF bO) (.exit 0) (zkk 47 (hdH w ks eF bO 1 L R .ready [])))(h:aT):(Ev S5 ji 86 (zdQ w kd st eF (eO bO)) h (.Pp [ab L,ab R]) h):=by have xd:=(@hk);have hl1:=(@Jl (w) (eF) (bO) (ks) (L) (R) (hc));refine y0 [.n 3,.o (.zoL 12 3),.s [1,2,3,4,5,10,11,12,16] xd,(?_:ad ks=S2 (λx=>S2 Us x) ks),.o (.frz 3 ks),.o (.zhs 1 0 1),.o (.zhs 2 0 5),.a1 .inl,.s [10,11,31] hl1,(?_:ad L=S2 (λx=>S2 Us x) L),(?_:S2 (Tz (cw 4 1 L)) (ad R)=ad R),(?_:ad R=S2 (λx=>S2 Us x) R),po (some (ab L)),po (some (ab R)),po (some (ab R)),.o (.frz 4 L),.o (.frz 5 R)] h<;>(first|rfl|exact aB _ _)
end Go.Vi
open Go Go.Proofs
namespace Go.Vi
set_option maxRecDepth 100000
set_option maxHeartbeats 4000000
variable {L nm nw rs:bv}{b1 b2 ok pet:Bool}{c:uT}{e bO last n num ob st eF:Int}{h0:aT}{i:Nat}{q1 q2 q3 q4:iF}{s:ε}{s':AS}{w:eQ}
theorem xw{kk ks ko lk to:Int}{l:AT}:ah (aH kk ks ko lk to bO l):=by have:=dq (kk:=kk) (ks:=ks) (ko:=ko) (lk:=lk) (to:=to) (bO:=bO) (l:=l);unfold ah;omega
theorem OI{w:eQ}(hf:ah w.f){kd st eF bO:Int}(h:aT):Ev S5 ji 86 (zdQ w kd st eF (eO bO)) h (uN [ab (hlR kd st eF bO w.f 8),ab (hrR kd st eF 8)]) h :=of86_a hk_cw (hd_cw hf rfl λ_=>xw) h
noncomputable abbrev CN(w:eQ):aT:=[eP (ZA w)]
theorem OJ(hf:ah w.f)(h:aT):(Ev S5 ji 31 (zbE w st eF bO) h (uN [ab (hlR 6 st eF bO w.f 8),ab (hrR 6 st eF 8)]) h):=y0 [.v (@OI w hf 6 st eF bO (CN w))] h
def CO(sc st ob eF bO:Int)(fs:AT):Int:=mx0 (ptV sc st ob eF bO fs)
abbrev actQ(sc st ob eF:Int):bv:=[[vi sc,vi st,vi ob,vi eF,vi (S6.wrap (eF+1))]]
theorem FF(hf:ah w.f){sc:Int}(h:aT):Ev S5 ji 34 (zb5 w sc st ob eF (eO bO)) h (uN [eO (CO sc st ob eF bO w.f),eR (fE (CO sc st ob eF bO w.f>0)),ab (actQ sc st ob eF)]) h :=Jj hf xw h
abbrev akS(st ob eF:Int)(nw:bv)(last i:Int):AS:={t:=qm 49 0 [(0,eO st),(1,eO ob),(2,eO eF),(9,eO last),(12,ab nw),(13,eO nw.length),(14,eO i)],h:=[],m:=[]}
abbrev akE(st ob eF:Int):AS:={t:=qm 49 0 [(0,eO st),(1,eO ob),(2,eO eF)],h:=[],m:=[]}
abbrev akX:Unit->Exit×AS:=λ_=>(.ret,{t:=qm 49 0 [(8,eR N)],h:=[],m:=[]})
def akF(c:Int)(last:Int):Int⊕Unit:=bif fE (c<=last)||fE (c>=4096) then .inr () else .inl c
theorem OK{c:Int}{nw:List (List Dp)}(hr:ao (i:Int) nw [vi c] 1)(oA:fE ((i:Int)<(nw.length:Int))=true)(hw:S6.wrap ((i:Int)+1)=((i+1:Nat):Int)):(CW S5 ji [] false (sub Tryz.f28 0) (akS st ob eF nw last i) (ai (λl=>akS st ob eF nw l ((i+1:Nat):Int)) akX (akF c last)).1 (ai (λl=>akS st ob eF nw l ((i+1:Nat):Int)) akX (akF c last)).2):=by
 cases sR:fE (c<=last)||fE (c>=4096)
 ·exact yX {t:=qm 49 0 [(0,eO st),(1,eO ob),(2,eO eF),(9,eO c),(12,ab nw),(13,eO (↑(S7 nw):Int)),(14,eO (S8 S6 ((↑i:Int)+1)))],h:=[],m:=[]} Tr [.st (.mask [0,1,2,9,12,13,14])] [.b oA,.r hr,.b sR] (by simp[akF,sR,ai];done) (by simp[akF,sR,ai,hw];done)
 ·refine yX {t:=qm 49 0 [(8,eR false)],h:=[],m:=[]} Exit.ret [.st (.mask [8])] [.b oA,.r hr,.b sR] ?_ ?_<;>(simp[akF,sR,ai];done)
theorem OL(oA:fE ((i:Int)<(nw.length:Int))=N):(CW S5 ji [] N (sub Tryz.f28 0) (akS st ob eF nw last i) (EY 0) (akE st ob eF)):=yx [E6 (IW [0,1,2])] [.b oA]
def OM(st ob eF:Int)(nw:bV):Exit×AS:=bf (EY 0) (λ_:Int=>akE st ob eF) akX (xz akF nw (-1))
theorem ak_cw{st ob eF:Int}{nw:bV}(hl:ah nw):CW S5 ji [] false (.loop (sub Tryz.f28 0)) (akS st ob eF (zaQ nw) (-1) 0) (OM st ob eF nw).1 (OM st ob eF nw).2:=by
 refine UR nw akF (λi l=>akS st ob eF (zaQ nw) l (i:Int)) (.exit 0) (λ_=>akE st ob eF) akX (λ_ _=>True) (by simp) (λ_=>by simp[akX]) ?_ ?_ (-1) trivial;·intro i c l hc _;have hi:=(Td.1 hc).1;exact⟨λ_ _=>trivial,OK (rowAt (row:=λn:Int=>[vi n]) hc rfl) (F1 (λn:Int=>[vi n]) hi) (sV hi hl)⟩
 ·intro l _;exact OL (aR (λn:Int=>[vi n]) nw)
def qx(st ob eF:Int)(nw:bV):Bool:=match xz akF nw (-1) with
 |.inl _=>fE (st>=0)&&fE (st<20000)&&fE (ob>=0)&&fE (ob<4096)&&fE (eF>=0)&&fE (eF<1024)
 |.inr _=>N
theorem Jm{nw:bV}(hl:ah nw)(h:aT):(Ev S5 ji 28 [eO st,eO ob,eO eF,ab (zaQ nw)] h (eR (qx st ob eF nw)) h):=by
 have xd:=(@ak_cw (st) (ob) (eF) (nw) (hl));unfold OM at xd;revert xd;cases ho1:xz akF nw (-1) with
 |inl Fa=>intro xd;exact yD (eR (fE (st>=0)&&fE (st<20000)&&fE (ob>=0)&&fE (ob<4096)&&fE (eF>=0)&&fE (eF<1024))) [.s [0,1,2,9,12,13,14] xd] h (by simp[qx,ho1];done)
 |inr Α=>intro xd;exact yD (eR N) [.s [0,1,2,9,12,13,14] xd] h (by simp[qx,ho1];done)
def Bg(ok:Bool)(n:Int):bV:=bif ok then [n] else []
theorem OO(h:aT):(Ev S5 ji 36 [eR N,eO n] h (ab []) h):=Tw (Ev.ziv (y0 (d:=nq) [.e] h)) Fb Fb
theorem OP:(Ev S5 ji 36 [eR J,eO n] [] (ab [[vi n]]) []):=Tw (Ev.post (d2:=ab [[vi n]]) (h2:=[]) (φ:=[[[eO n]]=[[eO n]]]) [E6 (Λ 0 [[vi n]]),E6 (zhZ 0)] (yF (h':=[.eY [[eO n]] 0 1]) (d:=gM (.eY 0 0)) [.e]) Z ⟨rfl,trivial⟩) Fb Fb
theorem Jn(h:aT):Ev S5 ji 36 [eR ok,eO n] h (ab ((Bg ok n).map λn=>[vi n])) h:=by
 cases ok;·exact OO h
 ·exact Ev.zjo rfl OP h
abbrev amZ:bY:=ZR
abbrev amH(w:eQ)(st ob eF bO:Int)(nw:bv)(dc:bY)(e:Int)(rd:D):aT :=[eP w.l,eP [eO st],eP [eO ob],eP [eO eF],eP [eO bO],eP [ab nw],eP dc,eP [eO e],eP [rd]]
abbrev amA(w:eQ)(st ob eF bO:Int)(nw:bv):aT:=amH w st ob eF bO nw amZ 0 nq
abbrev zbI(a:Nat)(b:D):bY:=qm 116 0 [(zhA 6 0),(7,gM (qn 1 0)),(8,gM (qn 2 0)),(zhA 9 3),(zjk 4),(11,gM (qn 5 0)),(zhA 12 6),(zhA 13 7),(a,b)]
abbrev amS(w:eQ)(st ob eF bO:Int)(nw:bv):AS:={t:=(zbI 15 (.fn (.func 29) [] (zjG 8))),h:=amA w st ob eF bO nw,m:=[]}
abbrev zfc:Nat×D:=(zhA 12 6)
abbrev zfd:Nat×D:=(zhA 13 7)
abbrev amO:bY:=qm 116 0 [zfc,zfd]
abbrev amD(ans:Int)(nm:bv):bY:=[eO 0,eO 0,eO 0,eO 0,eO ans,eO 0,eO 0,nq,nq,ab nm]
abbrev ZJ(a:uT):bY:=[am a.name,eO a.number,eO a.ia,eO a.rep,eO (Te a.NJ).op,eO (Te a.NJ).c,am (Te a.NJ).nm,eO (Te a.NJ).n,eO (Te a.NJ).d,ab (Te a.NJ).ks,eO (Te a.bar).op,eO (Te a.bar).c,am (Te a.bar).nm,eO (Te a.bar).n,eO (Te a.bar).d,ab (Te a.bar).ks]
abbrev zhF(a:eQ)(b d e f:Int)(g:bv)(h i:iF)(j:uT):aT:=[eP (ZA a),eP [eO b],eP [eO d],eP [eO e],eP [eO f],eP [ab g],eP ZR,eP [eO 0],eP (zbn 9 2),.eY ((ZW h)++(ZW i)) 2 5,eP (ZJ j)]
noncomputable abbrev am1_x0(w:eQ)(st:Int)(ob:Int)(eF:Int)(bO:Int)(nw:bv)(q1:iF)(q2:iF)(c:uT):aT:=(zhF w st ob eF bO nw q1 q2 c)
abbrev zhr(a:eQ)(b c d e:Int)(f:bv)(g:bY)(h:List (bY))(i:Nat):aT:=[eP (ZA a),eP [eO b],eP [eO c],eP [eO d],eP [eO e],eP [ab f],eP ZR,eP [eO 0],eP g,.eY h i 5]
noncomputable abbrev am1_x1(w:eQ)(st:Int)(ob:Int)(eF:Int)(bO:Int)(nw:bv)(q1:iF):aT:=(zhr w st ob eF bO nw (zbn 9 1) (ZW q1) 1)
noncomputable abbrev am1_x2(w:eQ)(st:Int)(ob:Int)(eF:Int)(bO:Int)(nw:bv):aT:=(zhr w st ob eF bO nw za5 [] 0)
abbrev zeZ(a:bv):Do:=[E6 (IW [12,13]),E6 (Λ 9 (a)),E6 (zhZ 9)]
theorem am1(hl:q1.length+q2.length+q3.length<=1000000000000)(he:(e != 0)=J)(hh:∀h,Ev S5 ji 31 (zbE w st eF bO) h (zjh L q1) h)(hc:∀h,Ev S5 lL 32 (zbE w ob eF bO) h (uN [ag c.row,ab (sU q2),eR ok]) h)(hs:∀h,Ev S5 lL 33 (zdQ w st eF bO (ab nw)) h (uN [mS s.l,ab (sU q3),eO e]) h):(CW S5 lL (amA w st ob eF bO nw) N (be (al UI) 6) (amS w st ob eF bO nw) .ret {t:=amO,h:=amH w st ob eF bO nw amZ e (ab (sU (q1++q2))),m:=[]}):=by refine yx (zeZ (sU (q1++q2))) [.o (.zhs 8 0 5),.v (Tp (Γ':=lL) (@hh (am1_x2 w st ob eF bO nw))),(?_:(Tq (ZW q1) (aL 5)&&uO (S7 zdP+S7 (ZW q1)) 40)=J),.a1 Τ,.v (@hc (am1_x1 w st ob eF bO nw q1)),(?_:(Tq (ZW q2) (aL 5)&&uO (S7 (ZW q1)+S7 (ZW q2)) 40)=J),.a1 Τ,.v (@hs (am1_x0 w st ob eF bO nw q1 q2 c)),.b he,pe (D.agg ZR),po (TO e),po (TO e),(mW:S2 (λx=>S2 Us x) (sU q1)++S2 (λx=>S2 Us x) (sU q2)=S2 (λx=>S2 Us x) (sU (q1++q2)))]<;>(simp[aL,Zk,Up,uO,Xd];omega)
noncomputable abbrev am2_x0(w:eQ)(st:Int)(ob:Int)(eF:Int)(bO:Int)(nw:bv)(q1:iF)(q2:iF)(q3:iF)(c:uT)(s:ε):aT:=[eP (ZA w),eP [eO st],eP [eO ob],eP [eO eF],eP [eO bO],eP [ab nw],eP ZR,eP [eO 0],eP (zbn 9 3),.eY ((ZW q1)++(ZW q2)++(ZW q3)) 3 5,eP (ZJ c),eP (zah s)]
noncomputable abbrev am2_x1(w:eQ)(st:Int)(ob:Int)(eF:Int)(bO:Int)(nw:bv)(q1:iF)(q2:iF)(c:uT):aT:=(zhF w st ob eF bO nw q1 q2 c)
noncomputable abbrev am2_x2(w:eQ)(st:Int)(ob:Int)(eF:Int)(bO:Int)(nw:bv)(q1:iF):aT:=(zhr w st ob eF bO nw (zbn 9 1) (ZW q1) 1)
noncomputable abbrev am2_x3(w:eQ)(st:Int)(ob:Int)(eF:Int)(bO:Int)(nw:bv):aT:=(zhr w st ob eF bO nw za5 [] 0)
theorem am2(hl:q1.length+q2.length+q3.length+q4.length<=1000000000000)(hh:∀h,Ev S5 ji 31 (zbE w st eF bO) h (zjh L q1) h)(hc:∀h,Ev S5 lL 32 (zbE w ob eF bO) h (uN [ag c.row,ab (sU q2),eR ok]) h)(hs:∀h,Ev S5 lL 33 (zdQ w st eF bO (ab nw)) h (uN [mS s.l,ab (sU q3),eO 0]) h)(ha:∀h,Ev S5 ji 34 (zb5 w 7 st ob eF (eO bO)) h (uN [eO num,eR pet,ab (sU q4)]) h)(hz:(fE ((L.length:Int)>0)||!ok)=J):(CW S5 lL (amA w st ob eF bO nw) N (be (al UI) 6) (amS w st ob eF bO nw) .ret {t:=amO,h:=amH w st ob eF bO nw amZ 0 (ab (sU (q1++q2++q3++q4))),m:=[]}):=by refine yx (zeZ (sU (q1++q2++q3++q4))) [.o (.zhs 8 0 5),.v (Tp (Γ':=lL) (@hh (am2_x3 w st ob eF bO nw))),(?_:(Tq (ZW q1) (aL 5)&&uO (S7 zdP+S7 (ZW q1)) 40)=J),.a1 Τ,.v (@hc (am2_x2 w st ob eF bO nw q1)),(?_:(Tq (ZW q2) (aL 5)&&uO (S7 (ZW q1)+S7 (ZW q2)) 40)=J),.a1 Τ,.v (@hs (am2_x1 w st ob eF bO nw q1 q2 c)),.b (rfl:(0 != 0)=N),(?_:(Tq (ZW q3) (aL 5)&&uO (S7 ((ZW q1)++(ZW q2))+S7 (ZW q3)) 40)=J),.a1 Τ,.v (Tp (Γ':=lL) (@ha (am2_x0 w st ob eF bO nw q1 q2 q3 c s))),(?_:(Tq (ZW q4) (aL 5)&&uO (S7 ((ZW q1)++(ZW q2)++(ZW q3))+S7 (ZW q4)) 40)=J),.a1 Τ,.b hz,(mW:S2 (λx=>S2 Us x) (sU q1)++S2 (λx=>S2 Us x) (sU q2)++S2 (λx=>S2 Us x) (sU q3)++S2 (λx=>S2 Us x) (sU q4)=S2 (λx=>S2 Us x) (sU (q1++q2++q3++q4)))]<;>(simp[aL,Zk,Up,uO,Xd];omega)
noncomputable abbrev LY(w:eQ)(st:Int)(ob:Int)(eF:Int)(bO:Int)(nw:bv)(q1:iF)(q2:iF)(q3:iF)(q4:iF)(c:uT)(s:ε):aT:=[eP (ZA w),eP [eO st],eP [eO ob],eP [eO eF],eP [eO bO],eP [ab nw],eP ZR,eP [eO 0],eP (zbn 9 4),.eY ((ZW q1)++(ZW q2)++(ZW q3)++(ZW q4)) 4 5,eP (ZJ c),eP (zah s)]
noncomputable abbrev am3_x1(w:eQ)(st:Int)(ob:Int)(eF:Int)(bO:Int)(nw:bv)(q1:iF)(q2:iF)(q3:iF)(c:uT)(s:ε):aT:=[eP (ZA w),eP [eO st],eP [eO ob],eP [eO eF],eP [eO bO],eP [ab nw],eP ZR,eP [eO 0],eP (zbn 9 3),.eY ((ZW q1)++(ZW q2)++(ZW q3)) 3 5,eP (ZJ c),eP (zah s)]
noncomputable abbrev am3_x2(w:eQ)(st:Int)(ob:Int)(eF:Int)(bO:Int)(nw:bv)(q1:iF)(q2:iF)(c:uT):aT:=(zhF w st ob eF bO nw q1 q2 c)
noncomputable abbrev am3_x3(w:eQ)(st:Int)(ob:Int)(eF:Int)(bO:Int)(nw:bv)(q1:iF):aT:=(zhr w st ob eF bO nw (zbn 9 1) (ZW q1) 1)
noncomputable abbrev am3_x4(w:eQ)(st:Int)(ob:Int)(eF:Int)(bO:Int)(nw:bv):aT:=(zhr w st ob eF bO nw za5 [] 0)
theorem am3(hl:q1.length+q2.length+q3.length+q4.length<=1000000000000)(hh:∀h,Ev S5 ji 31 (zbE w st eF bO) h (zjh L q1) h)(hc:∀h,Ev S5 lL 32 (zbE w ob eF bO) h (uN [ag c.row,ab (sU q2),eR ok]) h)(hs:∀h,Ev S5 lL 33 (zdQ w st eF bO (ab nw)) h (uN [mS s.l,ab (sU q3),eO 0]) h)(ha:∀h,Ev S5 ji 34 (zb5 w 7 st ob eF (eO bO)) h (uN [eO num,eR pet,ab (sU q4)]) h)(hn:∀h,Ev S5 lL 35 [mS c.NJ.fl.l,mS s.l] h (eR b1) h)(hb:∀h,Ev S5 lL 35 [mS c.bar.fl.l,mS s.l] h (eR b2) h)(hz:(fE ((L.length:Int)>0)||!ok)=N)(hy:((b1&&!b2)||pet)=N):(CW S5 lL (amA w st ob eF bO nw) N (be (al UI) 6) (amS w st ob eF bO nw) .ret {t:=amO,h:=amH w st ob eF bO nw amZ 0 (ab (sU (q1++q2++q3++q4))),m:=[]}):=by refine yx (zeZ (sU (q1++q2++q3++q4))) [.o (.zhs 8 0 5),.v (Tp (Γ':=lL) (@hh (am3_x4 w st ob eF bO nw))),(?_:(Tq (ZW q1) (aL 5)&&uO (S7 zdP+S7 (ZW q1)) 40)=J),.a1 Τ,.v (@hc (am3_x3 w st ob eF bO nw q1)),(?_:(Tq (ZW q2) (aL 5)&&uO (S7 (ZW q1)+S7 (ZW q2)) 40)=J),.a1 Τ,.v (@hs (am3_x2 w st ob eF bO nw q1 q2 c)),.b (rfl:(0 != 0)=N),(?_:(Tq (ZW q3) (aL 5)&&uO (S7 ((ZW q1)++(ZW q2))+S7 (ZW q3)) 40)=J),.a1 Τ,.v (Tp (Γ':=lL) (@ha (am3_x1 w st ob eF bO nw q1 q2 q3 c s))),(?_:(Tq (ZW q4) (aL 5)&&uO (S7 ((ZW q1)++(ZW q2)++(ZW q3))+S7 (ZW q4)) 40)=J),.a1 Τ,.b hz,.v (@hn (LY w st ob eF bO nw q1 q2 q3 q4 c s)),.w b1 (@hb (LY w st ob eF bO nw q1 q2 q3 q4 c s)),.b hy,(mW:S2 (λx=>S2 Us x) (sU q1)++S2 (λx=>S2 Us x) (sU q2)++S2 (λx=>S2 Us x) (sU q3)++S2 (λx=>S2 Us x) (sU q4)=S2 (λx=>S2 Us x) (sU (q1++q2++q3++q4)))]<;>(simp[aL,Zk,Up,uO,Xd];omega)
noncomputable abbrev LZ(w:eQ)(st:Int)(ob:Int)(eF:Int)(bO:Int)(nw:bv)(q1:iF)(q2:iF)(q3:iF)(q4:iF)(c:uT)(s:ε):aT:=[eP (ZA w),eP [eO st],eP [eO ob],eP [eO eF],eP [eO bO],eP [ab nw],eP ZR,eP [eO 0],eP (zbn 9 4),.eY ((ZW q1)++(ZW q2)++(ZW q3)++(ZW q4)) 4 5,eP (ZJ c),eP (zah s)]
noncomputable abbrev am4_x1(w:eQ)(st:Int)(ob:Int)(eF:Int)(bO:Int)(nw:bv)(q1:iF)(q2:iF)(q3:iF)(q4:iF)(c:uT)(s:ε):aT:=[eP (ZA w),eP [eO st],eP [eO ob],eP [eO eF],eP [eO bO],eP [ab nw],eP [eO 0,eO 0,eO 0,eO 0,eO 1,eO 0,eO 0,nq,nq,nq],eP [eO 0],eP (zbn 9 4),.eY ((ZW q1)++(ZW q2)++(ZW q3)++(ZW q4)) 4 5,eP (ZJ c),eP (zah s)]
noncomputable abbrev am4_x2(w:eQ)(st:Int)(ob:Int)(eF:Int)(bO:Int)(nw:bv)(q1:iF)(q2:iF)(q3:iF)(c:uT)(s:ε):aT:=[eP (ZA w),eP [eO st],eP [eO ob],eP [eO eF],eP [eO bO],eP [ab nw],eP ZR,eP [eO 0],eP (zbn 9 3),.eY ((ZW q1)++(ZW q2)++(ZW q3)) 3 5,eP (ZJ c),eP (zah s)]
noncomputable abbrev am4_x3(w:eQ)(st:Int)(ob:Int)(eF:Int)(bO:Int)(nw:bv)(q1:iF)(q2:iF)(c:uT):aT:=(zhF w st ob eF bO nw q1 q2 c)
noncomputable abbrev am4_x4(w:eQ)(st:Int)(ob:Int)(eF:Int)(bO:Int)(nw:bv)(q1:iF):aT:=(zhr w st ob eF bO nw (zbn 9 1) (ZW q1) 1)
noncomputable abbrev am4_x5(w:eQ)(st:Int)(ob:Int)(eF:Int)(bO:Int)(nw:bv):aT:=(zhr w st ob eF bO nw za5 [] 0)
theorem am4(hl:q1.length+q2.length+q3.length+q4.length<=1000000000000)(hh:∀h,Ev S5 ji 31 (zbE w st eF bO) h (zjh L q1) h)(hc:∀h,Ev S5 lL 32 (zbE w ob eF bO) h (uN [ag c.row,ab (sU q2),eR ok]) h)(hs:∀h,Ev S5 lL 33 (zdQ w st eF bO (ab nw)) h (uN [mS s.l,ab (sU q3),eO 0]) h)(ha:∀h,Ev S5 ji 34 (zb5 w 7 st ob eF (eO bO)) h (uN [eO num,eR pet,ab (sU q4)]) h)(hn:∀h,Ev S5 lL 35 [mS c.NJ.fl.l,mS s.l] h (eR b1) h)(hb:∀h,Ev S5 lL 35 [mS c.bar.fl.l,mS s.l] h (eR b2) h)(hm:∀h,Ev S5 ji 36 [eR (!(b1&&!b2)),eO num] h (ab nm) h)(hz:(fE ((L.length:Int)>0)||!ok)=N)(hy:((b1&&!b2)||pet)=J):(CW S5 lL (amA w st ob eF bO nw) N (be (al UI) 6) (amS w st ob eF bO nw) .ret {t:=amO,h:=amH w st ob eF bO nw (amD 1 nm) 0 (ab (sU (q1++q2++q3++q4))),m:=[]}):=by refine yx (zeZ (sU (q1++q2++q3++q4))) [.o (.zhs 8 0 5),.v (Tp (Γ':=lL) (@hh (am4_x5 w st ob eF bO nw))),(?_:(Tq (ZW q1) (aL 5)&&uO (S7 zdP+S7 (ZW q1)) 40)=J),.a1 Τ,.v (@hc (am4_x4 w st ob eF bO nw q1)),(?_:(Tq (ZW q2) (aL 5)&&uO (S7 (ZW q1)+S7 (ZW q2)) 40)=J),.a1 Τ,.v (@hs (am4_x3 w st ob eF bO nw q1 q2 c)),.b (rfl:(0 != 0)=N),(?_:(Tq (ZW q3) (aL 5)&&uO (S7 ((ZW q1)++(ZW q2))+S7 (ZW q3)) 40)=J),.a1 Τ,.v (Tp (Γ':=lL) (@ha (am4_x2 w st ob eF bO nw q1 q2 q3 c s))),(?_:(Tq (ZW q4) (aL 5)&&uO (S7 ((ZW q1)++(ZW q2)++(ZW q3))+S7 (ZW q4)) 40)=J),.a1 Τ,.b hz,.v (@hn (LZ w st ob eF bO nw q1 q2 q3 q4 c s)),.w b1 (@hb (LZ w st ob eF bO nw q1 q2 q3 q4 c s)),.b hy,.v (Tp (Γ':=lL) (@hm (am4_x1 w st ob eF bO nw q1 q2 q3 q4 c s))),(mW:S2 (λx=>S2 Us x) (sU q1)++S2 (λx=>S2 Us x) (sU q2)++S2 (λx=>S2 Us x) (sU q3)++S2 (λx=>S2 Us x) (sU q4)=S2 (λx=>S2 Us x) (sU (q1++q2++q3++q4)))]<;>(simp[aL,Zk,Up,uO,Xd];omega)
abbrev ziU(a:bY)(b c d e:Int)(f:bv)(g:bY):aT:=[eP a,eP [eO b],eP [eO c],eP [eO d],eP [eO e],eP [ab f],eP g,eP [eO 0]]
noncomputable abbrev CP(w:eQ)(st:Int)(ob:Int)(eF:Int)(bO:Int)(nw:bv):aT:=(ziU (ZA w) st ob eF bO nw ZR)
theorem OQ(hk:∀h,Ev S5 ji 28 [eO st,eO ob,eO eF,ab nw] h (eR N) h)(h:aT):(Ev S5 lL 14 (zb5 w st ob eF bO (ab nw)) h (uN [mS zar.zero.l,eO 280]) h):=Tw (Ev.ziv (y0 (d:=D.Pp [D.agg ZR,eO 280]) [.v (Tp (Γ':=lL) (@hk (CP w st ob eF bO nw))),.e] h)) Fb Fb
abbrev amT0(w:eQ)(st ob eF bO:Int)(nw:bv):bY:=qm 116 0 [(0,mS w.l),(1,eO st),(2,eO ob),(3,eO eF),(4,eO bO),(5,ab nw),zcT,(zfb 1),(zeE 2),(zhA 9 3),zbW,(zfg 5),zfc,zfd]
abbrev amT1:bY:=(zbI 29 (eR N))
abbrev amT3:bY:=(zbI 14 (gM (qn 8 0)))
abbrev amH0(w:eQ)(st ob eF bO:Int)(nw:bv):aT:=(ziU w.l st ob eF bO nw amZ)
noncomputable abbrev Jo(w:eQ)(st:Int)(ob:Int)(eF:Int)(bO:Int)(nw:bv):aT:=(ziU (ZA w) st ob eF bO nw ZR)
theorem am_r1(hk:∀h,Ev S5 ji 28 [eO st,eO ob,eO eF,ab nw] h (eR J) h):(CW S5 lL h0 N (cL (cR (al UI))) {t:=amT0 w st ob eF bO nw,h:=amH0 w st ob eF bO nw,m:=[]} w8 {t:=amT1,h:=amH0 w st ob eF bO nw,m:=[]}):=yx [E6 (IW [6,7,8,9,10,11,12,13,29])] [.v (Tp (Γ':=lL) (@hk (Jo w st ob eF bO nw))),.e]
theorem am_r2:(CW S5 lL h0 N (cL (cR (cR (al UI)))) {t:=amT1,h:=amH0 w st ob eF bO nw,m:=[]} w8 {t:=amT3,h:=amA w st ob eF bO nw,m:=[]}):=yx [E6 (IW [6,7,8,9,10,11,12,13,14])] []
theorem Jp:al UI=.seq (.region (BU (cL (al UI))) (bW (cL (al UI))) false) (.seq (cL (cR (al UI))) (.seq (cL (cR (cR (al UI)))) (.seq (.region (BU (cL (cR (cR (cR (al UI)))))) (bW (cL (cR (cR (cR (al UI)))))) false)
 (.seq (.region (BU (cL (cR (cR (cR (cR (al UI))))))) (bW (cL (cR (cR (cR (cR (al UI))))))) false) (be (al UI) 6))))):=by kernel_rfl
abbrev zeL(a:Nat):Nat×D:=(a,.fn (.func 29) [] (zjG 8))
abbrev amT4:bY:=qm 116 0 [zcT,(zfb 1),(zeE 2),(zhA 9 3),zbW,(zfg 5),zfc,zfd,(zhA 14 8),(zeL 15),(zeL 31)]
abbrev amCa:bY:=[gM (qn 7 0),gM (qn 1 0),gM (qn 2 0),gM (qn 3 0),gM (qn 6 0),gM (qn 4 0),gM (qn 5 0),gM (qn 8 0)]
abbrev amT5:bY:=qm 116 0 [zcT,(zfb 1),(zeE 2),(zhA 9 3),zbW,(zfg 5),zfc,zfd,(zhA 14 8),(zeL 15),(zeL 31),(32,.fn (.func 30) [] amCa)]
theorem vw_of{h0:aT}{c:Code}{s:AS}{e:Exit}{X:Ctx}(h:CW S5 lL X.h N c s e s'):VW S5 lL X Y c (λe1 s2=>e1=e/\s2=s') s:=h X Y rfl λ_=>rfl
theorem OS{e:Exit}(hk:∀h,Ev S5 ji 28 [eO st,eO ob,eO eF,ab nw] h (eR true) h)(Ε:CW S5 lL (amA w st ob eF bO nw) false (be (al UI) 6) (amS w st ob eF bO nw) e s'):
  zfZ S5 lL (al UI) {t:=cO UI (zb5 w st ob eF bO (ab nw)),h:=[],m:=[]} e s' (some (30,amCa)):=by
 rw[Jp]
 refine Zl (s1:={t:=amT0 w st ob eF bO nw,h:=amH0 w st ob eF bO nw,m:=[]}) (λX=>VW.zcR (t':=amT0 w st ob eF bO nw) (h':=amH0 w st ob eF bO nw) (e:=.normal) gj (by kernel_rfl) ⟨rfl,rfl⟩) ?_
 refine Zl (λX=>vw_of (h0:=[]) (am_r1 hk)) ?_
 refine Zl (λX=>vw_of (h0:=[]) am_r2) ?_
 refine Zl (s1:={t:=amT4,h:=amA w st ob eF bO nw,m:=[]}) (λX=>VW.zcR (t':=amT4) (h':=amA w st ob eF bO nw) (e:=.normal) gj (by kernel_rfl) ⟨rfl,rfl⟩) ?_
 exact zfZ.zqc (os:=(bW (cL (cR (cR (cR (cR (al UI))))))).toList.dropLast) (o:=Hf (bW (cL (cR (cR (cR (cR (al UI))))))).toList) (fv:=.tmp 32) (args:=#[]) (ats:=#[]) (t1:=amT5) (h1:=amA w st ob eF bO nw) (f:=30) (fi:=[]) (ca:=amCa) τ gj (by kernel_rfl) (by kernel_rfl) (by kernel_rfl) (by kernel_rfl) rfl (by kernel_rfl) (by kernel_rfl) (CW.pre [6,7,8,9,10,11,12,13,15] Ε)
noncomputable abbrev zt(H:aT):Option CR:=pp S5 UI (ff S5 lL noW 100) 0 .ret {t:=amO,h:=H,m:=[]} (G (30,amCa))
theorem Jq:zt (amH w st ob eF bO nw amZ 1 (ab rs))=G (.ret (uN [mS amZ,eO 1]) []):=Z
theorem Jr:zt (amH w st ob eF bO nw amZ 2 (ab rs))=G (.ret (uN [mS amZ,eO 2]) []):=Z
theorem FG:zt (amH w st ob eF bO nw amZ 150 (ab rs))=G (.ret (uN [mS amZ,eO 150]) []):=Z
theorem OT(he:e=1\/e=2\/e=150):zt (amH w st ob eF bO nw amZ e (ab rs))=G (.ret (uN [mS amZ,eO e]) []):=by
 rcases he with rfl|rfl|rfl;·exact Jq
 ·exact Jr
 ·exact FG
theorem FH:zt (amH w st ob eF bO nw amZ 0 (ab rs))=G (.ret (zes [eO 1,eO st,eO ob,eO eF,eO 0,eO 0,eO bO,ab nw,ab rs,nq] 0) []):=Z
theorem OU{a:Int}:zt (amH w st ob eF bO nw (amD a nm) 0 (ab rs))=G (.ret (zes [eO 1,eO st,eO ob,eO eF,eO a,eO a,eO bO,ab nw,ab rs,ab nm] 0) []):=Z
theorem Bh{H:aT}{d:D}(hk:∀h,Ev S5 ji 28 [eO st,eO ob,eO eF,ab nw] h (eR J) h)(hr:CW S5 lL (amA w st ob eF bO nw) N (be (al UI) 6) (amS w st ob eF bO nw) .ret {t:=amO,h:=H,m:=[]})(he:zt H=G (.ret d [])):Ev S5 lL 14 (zb5 w st ob eF bO (ab nw)) [] d [] :=(zjp.znP (f:=14) (args:=(zb5 w st ob eF bO (ab nw))) (dfn:=ff S5 lL noW 100) (h:=[]) (r:=.ret d []) (fn:=UI) (c:=al UI) τ rfl rfl HN (OS hk hr) he).call
end Go.Vi
