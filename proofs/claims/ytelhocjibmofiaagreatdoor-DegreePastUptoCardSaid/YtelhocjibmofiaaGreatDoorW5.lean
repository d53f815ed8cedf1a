/- A part of the proof; no conditions of its own. -/
import Derived.Test.YtelhocjibmofiaaGreatDoorW4
open Decidable renaming decide -> Zd
open Go.Vi.Uv renaming row -> MZ
open Go.Vi.TO renaming row -> NU
open Go.Vi.zfx renaming row -> M9
open List renaming map -> MK, length -> MO, getElem?_eq_some_iff -> MR, getElem?_eq_getElem -> Nd, mem_of_getElem? -> NX, foldl -> ND
open Go.Proofs.Tryz renaming prog -> MJ, f19 -> Pb, f11 -> Tv, f18 -> Tw, f49 -> Pz, f140 -> QJ, f32 -> Ph
open Go.Vi.CW renaming cast -> SJ, zjH -> SK, each -> PU
open Go.Exit renaming ret -> Oq, normal -> M6, exit -> NR
open Go.Vi.U9 renaming fl -> MX
open Go.Vi.Dp renaming sl -> OX
open Go.Vi.D renaming agg -> Oo, UI -> NG, YK -> N8, fn -> Oe
open Go.IntKind renaming i64 -> ML, wrap -> MN, u64 -> Nj
open Go.Vi.UA renaming row -> M0
open Go.Vi.Ev renaming zfO -> Na, zjJ -> Qd, zfL -> Ns
open Classical renaming choose -> Ti
open Go.Vi.Uh renaming row -> M3
open Go.Vi.PtT renaming row -> PI
open Go.Vi.XG renaming row -> SS
open Go.Value renaming bool -> Rg, oneCell' -> NZ
open Go.Vi.Uc renaming inn -> MY
open Int renaming tdiv -> Nz, natAbs -> NN
open Nat renaming gcd -> O0
open Go.LoopState renaming ready -> Nl, exhausted -> NM, busy -> NJ
open Go.Fn renaming func -> M7
open Go.Vi.Uj renaming row -> MQ
open Go Go.Proofs
namespace Go.Vi
set_option maxRecDepth 100000
set_option maxHeartbeats 4000000
variable {a:Int}{b b1 b2:Bool}{c:Uv}{cs:IF}{i:Nat}{l:By}{p:TO}{r:XG}{rs xs ys:bv}{ss:M2}{w:T9}
abbrev NE:=List UA
abbrev DO:=List TO
variable {ps:DO}
abbrev bkL(cs:IF)(ps:DO)(ss:M2):bY:=[ab (cs.map MZ),ab (ps.map NU),ab (ss.map M9)]
abbrev fbS(cs:IF)(ps:DO)(ss:M2)(i:Int):AS:={t:=Ue 61 0 [YF,(3,SW i)],h:=[.var (bkL cs ps ss)],m:=[]}
abbrev fbE(cs:IF)(ps:DO)(ss:M2):AS:={t:=Ue 61 0 [YF],h:=[.var (bkL cs ps ss)],m:=[]}
abbrev fbX:Unit->Exit×AS:=λ_=>(.ret,{t:=Ue 61 0 [(2,T6 false)],h:=[],m:=[]})
abbrev Z1(a:IF)(b:DO)(c:M2):aT:=[.var [ab (MK MZ a),ab (MK NU b),ab (MK M9 c)]]
noncomputable abbrev cZ(cs:IF)(ps:DO)(ss:M2):aT:=(Z1 cs ps ss)
abbrev Zm(a:Uv):dO:=[vs a.name,vi a.number,vi a.To,vi a.rep,vi (MX a.need).op,vi (MX a.need).c,vs (MX a.need).nm,vi (MX a.need).n,vi (MX a.need).d,OX (MX a.need).ks,vi (MX a.ζ).op,vi (MX a.ζ).c,vs (MX a.ζ).nm,vi (MX a.ζ).n,vi (MX a.ζ).d,OX (MX a.ζ).ks]
abbrev YR:AS:={t:=Ue 61 0 [(2,T6 false)],h:=[],m:=[]}
theorem GB(hr:ax (i:Int) (cs.map MZ) c.row 16)(U8:Zd ((i:Int)<((cs.map MZ).length:Int))=true)(hb:(!b1||!b2)=true)
 (k1:∀h,Ev MJ U2 57 [.agg c.need.fl.l] h (T6 b1) h) (k2:∀h,Ev MJ U2 57 [.agg c.ζ.fl.l] h (T6 b2) h):(CW MJ U2 [] false (sub Pb 0) (fbS cs ps ss i) .ret YR):=by
 exact SJ (SK (s:={t:=Ue 61 0 [YF,(3,(ZO i))],h:=(cZ cs ps ss),m:=[]}) (s':=YR) (e:=Oq) UR (φ:=[Zd ((↑i:Int)<(↑(MO (MK MZ cs)):Int))=true,ax (↑i:Int) (MK MZ cs) (Zm c) 16,Ev MJ U2 57 [Oo (Zj (MX c.need))] (cZ cs ps ss) (T6 b1) (cZ cs ps ss),(!!b1)=true->ax (↑i:Int) (MK MZ cs) (Zm c) 16,(!!b1)=true->Ev MJ U2 57 [Oo (Zj (MX c.ζ))] (cZ cs ps ss) (T6 b2) (cZ cs ps ss),(!b1||!b2)=true]) (YV [2] 0) [.b true,.row (Zm c),.val (T6 b1),.row (Zm c),.val (T6 b2),.b true] (by kernel_rfl) ⟨U8,hr,(@k1 ((cZ cs ps ss))),(λhg=>hr),(λhg=>(@k2 ((cZ cs ps ss)))),hb,trivial⟩) (by rfl) (by rfl)
noncomputable abbrev cz(cs:IF)(ps:DO)(ss:M2):aT:=(Z1 cs ps ss)
theorem GC(hr:ax (i:Int) (cs.map MZ) c.row 16)(U8:Zd ((i:Int)<((cs.map MZ).length:Int))=true)(hb:(!b1||!b2)=false)(hw:ML.wrap ((i:Int)+1)=((i+1:Nat):Int))
 (k1:∀h,Ev MJ U2 57 [.agg c.need.fl.l] h (T6 b1) h) (k2:∀h,Ev MJ U2 57 [.agg c.ζ.fl.l] h (T6 b2) h):(CW MJ U2 [] false (sub Pb 0) (fbS cs ps ss i) .normal (fbS cs ps ss ((i+1:Nat):Int))):=by
 exact SJ (SK (s:={t:=Ue 61 0 [(1,.ref (.ptr 0 0)),(3,SW (↑i:Int))],h:=(cz cs ps ss),m:=[]}) (s':={t:=Ue 61 0 [(1,.ref (.ptr 0 0)),(3,SW (MN ML ((↑i:Int)+1)))],h:=(cz cs ps ss),m:=[]}) (e:=M6) UR (φ:=[Zd ((↑i:Int)<(↑(MO (MK MZ cs)):Int))=true,ax (↑i:Int) (MK MZ cs) [vs c.name,vi c.number,vi c.To,vi c.rep,vi (MX c.need).op,vi (MX c.need).c,vs (MX c.need).nm,vi (MX c.need).n,vi (MX c.need).d,OX (MX c.need).ks,vi (MX c.ζ).op,vi (MX c.ζ).c,vs (MX c.ζ).nm,vi (MX c.ζ).n,vi (MX c.ζ).d,OX (MX c.ζ).ks] 16,Ev MJ U2 57 [Oo [SW (MX c.need).op,SW (MX c.need).c,ak (MX c.need).nm,SW (MX c.need).n,SW (MX c.need).d,ab (MX c.need).ks]] (cz cs ps ss) (T6 b1) (cz cs ps ss),(!!b1)=true->ax (↑i:Int) (MK MZ cs) [vs c.name,vi c.number,vi c.To,vi c.rep,vi (MX c.need).op,vi (MX c.need).c,vs (MX c.need).nm,vi (MX c.need).n,vi (MX c.need).d,OX (MX c.need).ks,vi (MX c.ζ).op,vi (MX c.ζ).c,vs (MX c.ζ).nm,vi (MX c.ζ).n,vi (MX c.ζ).d,OX (MX c.ζ).ks] 16,(!!b1)=true->Ev MJ U2 57 [Oo [SW (MX c.ζ).op,SW (MX c.ζ).c,ak (MX c.ζ).nm,SW (MX c.ζ).n,SW (MX c.ζ).d,ab (MX c.ζ).ks]] (cz cs ps ss) (T6 b2) (cz cs ps ss),(!b1||!b2)=false]) [.st (.mask [1,3])] [.b true,.row [vs c.name,vi c.number,vi c.To,vi c.rep,vi (MX c.need).op,vi (MX c.need).c,vs (MX c.need).nm,vi (MX c.need).n,vi (MX c.need).d,OX (MX c.need).ks,vi (MX c.ζ).op,vi (MX c.ζ).c,vs (MX c.ζ).nm,vi (MX c.ζ).n,vi (MX c.ζ).d,OX (MX c.ζ).ks],.val (T6 b1),.row [vs c.name,vi c.number,vi c.To,vi c.rep,vi (MX c.need).op,vi (MX c.need).c,vs (MX c.need).nm,vi (MX c.need).n,vi (MX c.need).d,OX (MX c.need).ks,vi (MX c.ζ).op,vi (MX c.ζ).c,vs (MX c.ζ).nm,vi (MX c.ζ).n,vi (MX c.ζ).d,OX (MX c.ζ).ks],.val (T6 b2),.b false] (by kernel_rfl) ⟨U8,hr,(@k1 ((cz cs ps ss))),(λhg=>hr),(λhg=>(@k2 ((cz cs ps ss)))),hb,trivial⟩) (by first|rfl|(rw[hw];first|done|rfl)|simp[hw]) (by first|rfl|(rw[hw];first|done|rfl)|simp[hw])
abbrev zcw(a:List (Nat×D))(b:IF)(c:DO)(d:M2):AS:={t:=Ue 61 0 a,h:=(Z1 b c d),m:=[]}
theorem K3(U8:Zd ((i:Int)<((cs.map MZ).length:Int))=false):(CW MJ U2 [] false (sub Pb 0) (fbS cs ps ss i) (.exit 0) (fbE cs ps ss)):=by
 exact SJ (SK (s:={t:=Ue 61 0 [YF,(3,(ZO i))],h:=(Z1 cs ps ss),m:=[]}) (s':=(zcw [YF] cs ps ss)) (e:=NR 0) UR (φ:=[Zd ((↑i:Int)<(↑(MO (MK MZ cs)):Int))=false]) (zaM 1) [.b false] (by kernel_rfl) ⟨U8,trivial⟩) (by rfl) (by rfl)
def fbF(B:U9->Bool)(c:Uv)(_:Unit):Unit⊕Unit:=bif !B c.need||!B c.ζ then .inr () else .inl ()
def K4(B:U9->Bool)(cs:IF)(ps:DO)(ss:M2):Exit×AS:=bJ (.exit 0) (λ_:Unit=>fbE cs ps ss) fbX (UD (fbF B) cs ())
theorem fb_cw{B:U9->Bool}(hl:am cs)(hk:∀c∈cs,(∀h,Ev MJ U2 57 [.agg c.need.fl.l] h (T6 (B c.need)) h)/\∀h,Ev MJ U2 57 [.agg c.ζ.fl.l] h (T6 (B c.ζ)) h):
  CW MJ U2 [] false (.loop (sub Pb 0)) (fbS cs ps ss 0) (K4 B cs ps ss).1 (K4 B cs ps ss).2:=by
 have:=PU (P:=MJ) (Γ:=U2) (h0:=[]) (rd:=false) (c:=sub Pb 0) cs (fbF B) (λi _=>fbS cs ps ss (i:Int)) (.exit 0) (λ_:Unit=>fbE cs ps ss) fbX (λ_ _=>True) (by simp) (λ_=>by simp) ?_ ?_ () trivial
 ·exact this
 ·intro i c u hp _
  obtain⟨hi,hpe⟩:=MR.1 hp
  have hm:c∈cs:=by subst hpe;exact List.getElem_mem hi
  refine⟨λ_ _=>trivial,?_⟩
  unfold fbF
  cases hb:(!B c.need||!B c.ζ) with
  | true=>exact GB (rowAt hp rfl) (UO MZ hi) hb (hk c hm).1 (hk c hm).2
  | false=>exact GC (rowAt hp rfl) (UO MZ hi) hb (Uo hi hl) (hk c hm).1 (hk c hm).2
 ·intro u _
  exact K3 (bl MZ cs)
abbrev fpS(cs:IF)(ps:DO)(ss:M2)(i:Int):AS:={t:=Ue 61 0 [YF,(4,SW i)],h:=[.var (bkL cs ps ss)],m:=[]}
abbrev YN(a:TO):bv:=(MK M0 a.reqs)
abbrev XE(a:TO):bv:=(a.reqs.map M0)
abbrev zdJ(a:TO):dO:=(Yj a (OX (MK M0 a.reqs)))
theorem GD(hr:ax (i:Int) (ps.map NU) p.row 7)(U8:Zd ((i:Int)<((ps.map NU).length:Int))=true)(hb:Zd (((XE p).length:Int)>70)=true):(CW MJ U2 [] false (sub Pb 1) (fpS cs ps ss i) .ret YR):=by
 exact SJ (SK (s:=(zcw [YF,(4,(ZO i))] cs ps ss)) (s':=YR) (e:=Oq) UR (φ:=[Zd ((↑i:Int)<(↑(MO (MK NU ps)):Int))=true,ax (↑i:Int) (MK NU ps) (zdJ p) 7,Zd ((↑(MO (YN p)):Int)>70)=true]) (YV [2] 0) [.b true,.row (zdJ p),.b true] (by kernel_rfl) ⟨U8,hr,hb,trivial⟩) (by rfl) (by rfl)
theorem GE(hr:ax (i:Int) (ps.map NU) p.row 7)(U8:Zd ((i:Int)<((ps.map NU).length:Int))=true)(hb:Zd (((p.reqs.map M0).length:Int)>70)=false)(hw:ML.wrap ((i:Int)+1)=((i+1:Nat):Int)):(CW MJ U2 [] false (sub Pb 1) (fpS cs ps ss i) .normal (fpS cs ps ss ((i+1:Nat):Int))):=by
 exact SJ (SK (s:={t:=Ue 61 0 [(1,.ref (.ptr 0 0)),(4,SW (↑i:Int))],h:=[.var [ab (MK MZ cs),ab (MK NU ps),ab (MK M9 ss)]],m:=[]}) (s':={t:=Ue 61 0 [(1,.ref (.ptr 0 0)),(4,SW (MN ML ((↑i:Int)+1)))],h:=[.var [ab (MK MZ cs),ab (MK NU ps),ab (MK M9 ss)]],m:=[]}) (e:=M6) UR (φ:=[Zd ((↑i:Int)<(↑(MO (MK NU ps)):Int))=true,ax (↑i:Int) (MK NU ps) [vs p.nm,vi p.number,vi p.UC,vi p.UL,vi p.num,vi p.den,OX (MK M0 p.reqs)] 7,Zd ((↑(MO (MK M0 p.reqs)):Int)>70)=false]) [.st (.mask [1,4])] [.b true,.row [vs p.nm,vi p.number,vi p.UC,vi p.UL,vi p.num,vi p.den,OX (MK M0 p.reqs)],.b false] (by kernel_rfl) ⟨U8,hr,hb,trivial⟩) (by first|rfl|(rw[hw];first|done|rfl)|simp[hw]) (by first|rfl|(rw[hw];first|done|rfl)|simp[hw])
theorem K5(U8:Zd ((i:Int)<((ps.map NU).length:Int))=false):(CW MJ U2 [] false (sub Pb 1) (fpS cs ps ss i) (.exit 2) (fbE cs ps ss)):=by
 exact SJ (SK (s:=(zcw [YF,(4,(ZO i))] cs ps ss)) (s':=(zcw [YF] cs ps ss)) (e:=NR 2) UR (φ:=[Zd ((↑i:Int)<(↑(MO (MK NU ps)):Int))=false]) (zaM 1) [.b false] (by kernel_rfl) ⟨U8,trivial⟩) (by rfl) (by rfl)
def fpF(p:TO)(_:Unit):Unit⊕Unit:=bif Zd (((p.reqs.map M0).length:Int)>70) then .inr () else .inl ()
def K6(cs:IF)(ps:DO)(ss:M2):Exit×AS:=bJ (.exit 2) (λ_:Unit=>fbE cs ps ss) fbX (UD fpF ps ())
theorem fp_cw(hl:am ps):
  CW MJ U2 [] false (.loop (sub Pb 1)) (fpS cs ps ss 0) (K6 cs ps ss).1 (K6 cs ps ss).2:=by
 have:=PU (P:=MJ) (Γ:=U2) (h0:=[]) (rd:=false) (c:=sub Pb 1) ps fpF (λi _=>fpS cs ps ss (i:Int)) (.exit 2) (λ_:Unit=>fbE cs ps ss) fbX (λ_ _=>True) (by simp) (λ_=>by simp) ?_ ?_ () trivial
 ·exact this
 ·intro i p u hp _
  have hi:=(MR.1 hp).1
  refine⟨λ_ _=>trivial,?_⟩
  unfold fpF
  cases hb:Zd (((XE p).length:Int)>70) with
  | true=>exact GD (rowAt hp rfl) (UO NU hi) hb
  | false=>exact GE (rowAt hp rfl) (UO NU hi) hb (Uo hi hl)
 ·intro u _
  exact K5 (bl NU ps)
theorem fb_n(h1:CW MJ U2 [] false (.loop (sub Pb 0)) (fbS cs ps ss 0) .ret YR)(h:aT):(Ev MJ U2 19 [.agg (bkL cs ps ss)] h (T6 false) h):=by
 have UE:=(@h1)
 exact Na (Qd (P:=MJ) (Γ:=U2) (f:=19) (args:=[Oo (bkL cs ps ss)]) (d:=T6 false) UR (φ:=[CW MJ U2 [] false (.loop (sub Pb 0)) (zcw [YF,(3,SW 0)] cs ps ss) (Oq) YR]) [.sum [1,3] (Oq) YR] (by kernel_rfl) ⟨UE,trivial⟩ rfl rfl h) (by rfl) (by rfl)
theorem fb_m(h1:CW MJ U2 [] false (.loop (sub Pb 0)) (fbS cs ps ss 0) (.exit 0) (fbE cs ps ss))(h2:CW MJ U2 [] false (.loop (sub Pb 1)) (fpS cs ps ss 0) .ret YR)(h:aT):(Ev MJ U2 19 [.agg (bkL cs ps ss)] h (T6 false) h):=by
 have UE:=(@h1)
 have hl1:=(@h2)
 exact Na (Qd (P:=MJ) (Γ:=U2) (f:=19) (args:=[Oo (bkL cs ps ss)]) (d:=T6 false) UR (φ:=[CW MJ U2 [] false (.loop (sub Pb 0)) (zcw [YF,(3,SW 0)] cs ps ss) (NR 0) (zcw [YF] cs ps ss),CW MJ U2 [] false (.loop (sub Pb 1)) (zb6 61 [YF,(4,SW 0)] (Z1 cs ps ss)) (Oq) YR]) [.sum [1,3] (NR 0) (zcw [YF] cs ps ss),.sum [1,4] (Oq) YR] (by kernel_rfl) ⟨UE,hl1,trivial⟩ rfl rfl h) (by rfl) (by rfl)
def fbN(cs:IF)(ps:DO)(ss:M2):Bool:=Zd (((cs.map MZ).length:Int)<=16)&&Zd (((ps.map NU).length:Int)<=8)&&Zd (((ss.map M9).length:Int)<=6)
theorem fb_y(h1:CW MJ U2 [] false (.loop (sub Pb 0)) (fbS cs ps ss 0) (.exit 0) (fbE cs ps ss))(h2:CW MJ U2 [] false (.loop (sub Pb 1)) (fpS cs ps ss 0) (.exit 2) (fbE cs ps ss))(h:aT):(Ev MJ U2 19 [.agg (bkL cs ps ss)] h (T6 (fbN cs ps ss)) h):=by
 have UE:=(@h1)
 have hl1:=(@h2)
 exact Na (Qd (P:=MJ) (Γ:=U2) (f:=19) (args:=[Oo (bkL cs ps ss)]) (d:=T6 (Zd ((↑(MO (MK MZ cs)):Int)<=16)&&Zd ((↑(MO (MK NU ps)):Int)<=8)&&Zd ((↑(MO (MK M9 ss)):Int)<=6))) UR (φ:=[CW MJ U2 [] false (.loop (sub Pb 0)) (zcw [YF,(3,SW 0)] cs ps ss) (NR 0) (zcw [YF] cs ps ss),CW MJ U2 [] false (.loop (sub Pb 1)) (zb6 61 [YF,(4,SW 0)] (Z1 cs ps ss)) (NR 2) (zcw [YF] cs ps ss)]) [.sum [1,3] (NR 0) (zcw [YF] cs ps ss),.sum [1,4] (NR 2) (zcw [YF] cs ps ss)] (by kernel_rfl) ⟨UE,hl1,trivial⟩ rfl rfl h) (by rfl) (by rfl)
theorem fb_ex(hc:∀c∈cs,c.ok)(hl:am cs)(hp:am ps):∃b,∀h,Ev MJ U2 19 [.agg (bkL cs ps ss)] h (T6 b) h:=by
 classical
 have hB:∀r:U9,r.ok->∀h,Ev MJ U2 57 [.agg r.fl.l] h (T6 ((λr=>if hr:r.ok then Ti (xe hr) else false) r)) h:=λr hr h=>by
  simp only[hr,dite_true]
  exact Classical.choose_spec (xe hr) h
 generalize (λr:U9=>if hr:r.ok then Ti (xe hr) else false)=B at hB
 have h1:=fb_cw (ps:=ps) (ss:=ss) (B:=B) hl λc h=>⟨hB _ (hc c h).1,hB _ (hc c h).2⟩
 have h2:=fp_cw (cs:=cs) (ss:=ss) hp
 unfold K4 at h1
 unfold K6 at h2
 cases hf:UD (fbF B) cs () with
 | inr u=>rw[hf] at h1;exact⟨_,λh=>fb_n h1 h⟩
 | inl u =>
  rw[hf] at h1
  cases hg:UD fpF ps () with
  | inr u=>rw[hg] at h2;exact⟨_,λh=>fb_m h1 h2 h⟩
  | inl u=>rw[hg] at h2;exact⟨_,λh=>fb_y h1 h2 h⟩
noncomputable abbrev sU(w:T9):aT:=[.var (Zi w)]
theorem few_a(k:∀h,Ev MJ U2 19 [.agg [ab (w.c.map MZ),ab w.p,ab (w.s.map M9)]] h (T6 b) h)(h:aT):(Ev MJ U2 6 [.agg w.l] h (T6 (b&&Zd (((w.f.map M3).length:Int)<=40))) h):=by
 exact Na (Qd (P:=MJ) (Γ:=U2) (f:=6) (args:=[Oo (T9.l w)]) (d:=T6 (b&&Zd ((↑(MO (MK M3 w.f)):Int)<=40))) UR (φ:=[Ev MJ U2 19 [Oo [ab (MK MZ w.c),ab w.p,ab (MK M9 w.s)]] (sU w) (T6 b) (sU w)]) [.val (T6 b)] (by kernel_rfl) ⟨(@k ((sU w))),trivial⟩ rfl rfl h) (by rfl) (by rfl)
theorem GF(hc:∀c∈w.c,c.ok)(hl:am w.c)(hw:w.p=ps.map NU)(hp:am ps):∃b:Bool,(b=true->w.f.length<=40)/\∀h,Ev MJ U2 6 [.agg w.l] h (T6 b) h:=by
 obtain⟨b,hb⟩:=fb_ex (cs:=w.c) (ps:=ps) (ss:=w.s) hc hl hp
 refine⟨_,λhh=>?_,λh=>few_a (b:=b) (λh=>by rw[hw];exact hb h) h⟩
 simp at hh
 omega
def AM(a b:PtT):Bool:=a.T4==b.T4&&(a.value==b.value&&true)
def epF(p:PtT×PtT)(_:Unit):Unit⊕Unit:=if (!AM p.1 p.2)=true then .inr () else .inl ()
abbrev epX:Unit->Exit×AS:=λ_=>(.ret,{t:=Ue 26 0 [(4,T6 false)],h:=[],m:=[]})
abbrev WS:Nat×D:=(4,T6 false)
abbrev epS(xs ys:bv)(i:Int):AS:=(zb6 26 [(0,ab xs),(1,ab ys),WS,(12,SW xs.length),(13,SW i)] [])
abbrev XA:AS:={t:=Ue 26 0 [(4,T6 false)],h:=[],m:=[]}
theorem K7{a b:PtT}(hr:ax (i:Int) xs a.row 2)(hr':ax (i:Int) ys b.row 2)(U8:Zd ((i:Int)<(xs.length:Int))=true)(hw:ML.wrap ((i:Int)+1)=((i+1:Nat):Int)):(CW MJ U2 [] false (sub Tryz.f44 0) (epS xs ys i) (ad (λ_=>epS xs ys ((i+1:Nat):Int)) epX (epF (a,b) ())).1 (ad (λ_=>epS xs ys ((i+1:Nat):Int)) epX (epF (a,b) ())).2):=by
 cases U5:!(a.T4==b.T4&&(a.value==b.value&&true))
 ·exact zX {t:=Ue 26 0 [(0,ab xs),(1,ab ys),(4,T6 false),(12,SW (↑(MO xs):Int)),(13,SW (MN ML ((↑i:Int)+1)))],h:=[],m:=[]} M6 [.st (.mask [0,1,4,12,13])] [.b true,.row [vi a.T4,vi a.value],.row [vi b.T4,vi b.value],.b false] (.c U8 (.c hr (.c hr' (.c U5 .n)))) (by(first|(have hk:(!AM a b)=true:=U5;simp[epF,ad,hw,hk];done)|(have hk:(!AM a b)=false:=U5;simp only[epF,ad,hk];rfl)|(have hk:(!AM a b)=false:=U5;simp[epF,ad,hw,hk];done))) (by(first|(have hk:(!AM a b)=true:=U5;simp[epF,ad,hw,hk];done)|(have hk:(!AM a b)=false:=U5;simp only[epF,ad,hw,hk];rfl)|(have hk:(!AM a b)=false:=U5;simp[epF,ad,hw,hk];done)))
 ·refine zX {t:=Ue 26 0 [(4,T6 false)],h:=[],m:=[]} Oq [.st (.mask [4])] [.b true,.row [vi a.T4,vi a.value],.row [vi b.T4,vi b.value],.b true] (.c U8 (.c hr (.c hr' (.c U5 .n)))) ?_ ?_<;>((first|(have hk:(!AM a b)=true:=U5;simp[epF,ad,hk];done)|(have hk:(!AM a b)=false:=U5;simp only[epF,ad,hw,hk];rfl)|(have hk:(!AM a b)=false:=U5;simp[epF,ad,hw,hk];done)))
theorem K8(U8:Zd ((i:Int)<(xs.length:Int))=false):(CW MJ U2 [] false (sub Tryz.f44 0) (epS xs ys i) (.exit 0) XA):=by
 exact zx WH [.b false] (.c U8 .n)
def epR(xs ys:OR):Unit⊕Unit:=UD epF (xs.zip ys) ()
theorem ep_cw{xs ys:OR}(hl:am xs)(he:(((xs.map PI).length:Int) != ((ys.map PI).length:Int))=false):
  CW MJ U2 [] false (.loop (sub Tryz.f44 0)) (epS (xs.map PI) (ys.map PI) 0) (bJ (.exit 0) (λ_:Unit=>XA) epX (epR xs ys)).1 (bJ (.exit 0) (λ_:Unit=>XA) epX (epR xs ys)).2:=by
 have hlen:xs.length=ys.length:=by simp at he;omega
 have hz:(xs.zip ys).length=xs.length:=by simp[hlen]
 refine PU (xs.zip ys) epF (λi _=>epS (xs.map PI) (ys.map PI) (i:Int)) (.exit 0) (λ_=>XA) epX (λ_ _=>True) (by simp) (λ_=>by simp[]) ?_ ?_ () trivial
 ·intro i p u hp _
  obtain⟨hi,he⟩:=MR.1 hp
  have hx:i<xs.length:=by omega
  have hy:i<ys.length:=by omega
  have h1:xs[i]? = some p.1:=by subst he;simp[hx]
  have h2:ys[i]? = some p.2:=by subst he;simp[hy]
  exact⟨λ_ _=>trivial,K7 (a:=p.1) (b:=p.2) (rowAt h1 rfl) (rowAt h2 rfl) (UO _ hx) (Uo hx hl)⟩
 ·intro u _
  rw[hz]
  exact K8 (bl _ xs)
def zds(xs ys:OR):Bool:=if (((xs.map PI).length:Int) != ((ys.map PI).length:Int))=true then false else match epR xs ys with | .inl _=>true | .inr _=>false
theorem Df{xs ys:OR}(hl:am xs)(h:aT):(Ev MJ U2 44 [ab (xs.map PI),ab (ys.map PI)] h (T6 (zds xs ys)) h):=by
 cases U5:(↑(MO (MK PI xs)):Int) != (↑(MO (MK PI ys)):Int)
 ·have hl1:=(@ep_cw (xs) (ys) (hl) (U5))
  revert hl1
  cases ho2:epR xs ys with
  | inl zlS =>
   intro hl1
   exact zD (T6 true) [.b false,.sum [0,1,4,12,13] (NR 0) XA] (.c U5 (.c hl1 .n)) h (by simp only[zds,U5,ho2];rfl)
  | inr zlR =>
   intro hl1
   exact zD (T6 false) [.b false,.sum [0,1,4,12,13] (Oq) XA] (.c U5 (.c hl1 .n)) h (by simp only[zds,U5,ho2];rfl)
 ·exact zD (T6 false) [.b true] (.c U5 .n) h (by simp only[zds,U5];rfl)
def VO(l:By)(r:XG)(ST:Int):OR:=bO r.kind r.sub r.obj r.U3 r.Λ ST l
abbrev alS(l rs:bv)(a b:Int)(i:Int):AS:={t:=Ue 38 0 [(0,ab l),(2,SW a),(3,SW b),(8,T6 false),(11,ab rs),(12,SW rs.length),(13,SW i)],h:=[],m:=[]}
abbrev alX:Unit->Exit×AS:=λ_=>(.ret,{t:=Ue 38 0 [(8,T6 false)],h:=[],m:=[]})
def alF(l:By)(a b:Int)(r:XG)(_:Unit):Unit⊕Unit:=bif zds (VO l r a) (VO l r b) then .inl () else .inr ()
theorem i5{r:XG}{ST:Int}{l:By}(hl:am l)(h:aT):Ev MJ U2 45 [ab (l.map M3),.agg [SW r.kind,SW r.sub,SW r.obj],SW r.U3,SW r.Λ,SW ST] h (ab ((VO l r ST).map PI)) h:=vg hl h
attribute [local irreducible] VO zds
theorem al_t(h:(!b)=false):b=true:=by cases b<;>simp_all
theorem al_f(h:(!b)=true):b=false:=by cases b<;>simp_all
noncomputable abbrev eH(r:XG):aT:=[.var (XC r)]
abbrev zbT:AS:={t:=Ue 38 0 [(8,T6 false)],h:=[],m:=[]}
abbrev zdt(c:XG)(d:By)(e f:Int)(g:Bool):BY:=[.b true,.row (WU c),.val (ab (MK PI (VO d c e))),.val (ab (MK PI (VO d c f))),.val (T6 (zds (VO d c e) (VO d c f))),.b g]
theorem K9{b:Int}(hl:am l)(hs:am (VO l r a))(hr:ax (i:Int) rs r.row 5)(U8:Zd ((i:Int)<(rs.length:Int))=true)(hw:ML.wrap ((i:Int)+1)=((i+1:Nat):Int)):(CW MJ U2 [] false (sub Tv 0) (alS (l.map M3) rs a b i) (ad (λ_=>alS (l.map M3) rs a b ((i+1:Nat):Int)) alX (alF l a b r ())).1 (ad (λ_=>alS (l.map M3) rs a b ((i+1:Nat):Int)) alX (alF l a b r ())).2):=by
 cases U5:!zds (VO l r a) (VO l r b)
 ·refine zX {t:=Ue 38 0 [(0,ab (MK M3 l)),(2,SW a),(3,SW b),(8,T6 false),(11,ab rs),(12,SW (↑(MO rs):Int)),(13,SW (MN ML ((↑i:Int)+1)))],h:=[],m:=[]} M6 [.st (.mask [0,2,3,8,11,12,13]),.st (.trim 0)] [.b true,.row [vi r.kind,vi r.sub,vi r.obj,vi r.U3,vi r.Λ],.val (ab (MK PI (VO l r a))),.val (ab (MK PI (VO l r b))),.val (T6 (zds (VO l r a) (VO l r b))),.b false] (.c U8 (.c hr (.c (@i5 r a l hl (eH r)) (.c (@i5 r b l hl (eH r)) (.c (@Df (VO l r a) (VO l r b) hs (eH r)) (.c U5 .n)))))) ?_ ?_<;>(first|(have hh:zds (VO l r a) (VO l r b)=true:=al_t U5;simp only[alF,hh,cond_true,ad,hw];first|done|rfl)|(have hh:zds (VO l r a) (VO l r b)=false:=al_f U5;simp only[alF,hh,cond_false,ad];first|done|rfl))
 ·refine zX {t:=Ue 38 0 [(8,T6 false)],h:=[],m:=[]} Oq [.st (.mask [8]),.st (.trim 0)] [.b true,.row [vi r.kind,vi r.sub,vi r.obj,vi r.U3,vi r.Λ],.val (ab (MK PI (VO l r a))),.val (ab (MK PI (VO l r b))),.val (T6 (zds (VO l r a) (VO l r b))),.b true] (.c U8 (.c hr (.c (@i5 r a l hl (eH r)) (.c (@i5 r b l hl (eH r)) (.c (@Df (VO l r a) (VO l r b) hs (eH r)) (.c U5 .n)))))) ?_ ?_<;>(first|(have hh:zds (VO l r a) (VO l r b)=true:=al_t U5;simp only[alF,hh,cond_true,ad,hw];first|done|rfl)|(have hh:zds (VO l r a) (VO l r b)=false:=al_f U5;simp only[alF,hh,cond_false,ad];first|done|rfl))
theorem La{l:bv}{b:Int}(U8:Zd ((i:Int)<(rs.length:Int))=false):(CW MJ U2 [] false (sub Tv 0) (alS l rs a b i) (.exit 0) (Yn 38 [])):=by
 exact zx (YV [] 0) [.b false] (.c U8 .n)
def Lb(l:By)(rs:oF)(a b:Int):Exit×AS:=bJ (.exit 0) (λ_:Unit=>(Yn 38 [])) alX (UD (alF l a b) rs ())
theorem xf:am (VO l r a):=by
 have:=bP (kk:=r.kind) (ks:=r.sub) (ko:=r.obj) (U3:=r.U3) (to:=r.Λ) (ST:=a) (l:=l)
 unfold VO am;omega
theorem al_cw{l:By}{rs:oF}{a b:Int}(hl:am l)(hs:am rs):
  CW MJ U2 [] false (.loop (sub Tv 0)) (alS (l.map M3) (Us rs) a b 0) (Lb l rs a b).1 (Lb l rs a b).2:=by
 have:=PU (P:=MJ) (Γ:=U2) (h0:=[]) (rd:=false) (c:=sub Tv 0) rs (alF l a b) (λi _=>alS (l.map M3) (Us rs) a b (i:Int)) (.exit 0) (λ_:Unit=>(Yn 38 [])) alX (λ_ _=>True) (by simp) (λ_=>by simp) ?_ ?_ () trivial
 ·exact this
 ·intro i p u hp _
  have hi:=(MR.1 hp).1
  exact⟨λ_ _=>trivial,K9 hl xf (rowAt hp rfl) (UO SS hi) (Uo hi hs)⟩
 ·intro u _
  exact La (bl SS rs)
def gU(l:By)(rs:oF)(a b:Int):Bool:=match UD (alF l a b) rs () with
 | .inl _=>true
 | .inr _=>false
theorem yU{l:By}{rs:oF}{a b:Int}(hl:am l)(hs:am rs)(h:aT):(Ev MJ U2 11 [ab (l.map M3),ab (Us rs),SW a,SW b] h (T6 (gU l rs a b)) h):=by
 have UE:=(@al_cw (l) (rs) (a) (b) (hl) (hs))
 unfold Lb at UE
 revert UE
 cases ho1:UD (alF l a b) rs () with
 | inl zeL =>
  intro UE
  exact zD (T6 true) [.sum [0,2,3,8,11,12,13] (NR 0) (Yn 38 [])] (.c UE .n) h (by simp only[gU,ho1];first|done|rfl)
 | inr Ζ =>
  intro UE
  exact zD (T6 false) [.sum [0,2,3,8,11,12,13] (Oq) zbT] (.c UE .n) h (by simp only[gU,ho1];first|done|rfl)
theorem Dg{rs:oF}{b:Int}:gU l rs a b=rs.all λr=>zds (VO l r a) (VO l r b):=by
 unfold gU
 induction rs with
 | nil=>rfl
 | cons r rs ih =>
  simp only[UD,alF,List.all_cons]
  cases zds (VO l r a) (VO l r b)
  ·rfl
  ·simpa using ih
theorem GG{a b:OR}(h:zds a b=true):a=b:=by
 unfold zds at h
 split at h
 ·cases h
 ·rename_i hn
  have hlen:a.length=b.length:=by simp at hn;omega
  have key:∀{a b:OR},a.length=b.length->UD epF (a.zip b) ()=.inl ()->a=b:=by
   intro a
   induction a with
   | nil=>intro b hb _;cases b;rfl;simp at hb
   | cons x a ih =>
    intro b hb hf
    cases b with
    | nil=>simp at hb
    | cons y b =>
     simp only[List.zip_cons_cons,UD,epF] at hf
     split at hf
     ·rename_i h1
      split at h1
      ·cases h1
      ·rename_i h2
       have e:AM x y=true:=by simpa using h2
       simp only[AM,Bool.and_true,Bool.and_eq_true,beq_iff_eq] at e
       have:x=y:=by cases x;cases y;simp_all
       rw[this,ih (by simpa using hb) hf]
     ·cases hf
  unfold epR at h
  split at h
  ·rename_i u hu;exact key hlen hu
  ·cases h
end Go.Vi
open Go Go.Proofs
namespace Go.Vi
set_option maxRecDepth 100000
set_option maxHeartbeats 4000000
variable {ct:Bv}{e ST later ms n st T4:Int}{i:Nat}{l us:bv}{mt:Bool}{q:oF}{w:T9}
abbrev srS(l:bv)(i:Int):AS:={t:=Ue 26 0 [(0,ab l),(1,ab l),WS,(5,SW i)],h:=[],m:=[]}
theorem rdself(r:XG):(!(r.kind==r.kind&&(r.sub==r.sub&&(r.obj==r.obj&&true))&&(r.U3==r.U3&&(r.Λ==r.Λ&&true))))=false:=by simp
theorem GH{r:XG}(hr:ax (i:Int) l r.row 5)(hz:(!(r.kind==r.kind&&(r.sub==r.sub&&(r.obj==r.obj&&true))&&(r.U3==r.U3&&(r.Λ==r.Λ&&true))))=false)(U8:Zd ((i:Int)<(l.length:Int))=true)(hw:ML.wrap ((i:Int)+1)=((i+1:Nat):Int)):(CW MJ U2 [] false (sub Tryz.f10 0) (srS l i) .normal (srS l ((i+1:Nat):Int))):=by
 refine zX {t:=Ue 26 0 [(0,ab l),(1,ab l),(4,T6 false),(5,SW (MN ML ((↑i:Int)+1)))],h:=[],m:=[]} M6 [.st (.mask [0,1,4,5])] [.b true,.row [vi r.kind,vi r.sub,vi r.obj,vi r.U3,vi r.Λ],.row [vi r.kind,vi r.sub,vi r.obj,vi r.U3,vi r.Λ],.b false] (.c U8 (.c hr (.c hr (.c hz .n)))) ?_ ?_<;>(first|rfl|(rw[hw]))
abbrev Vp:AS:={t:=Ue 26 0 [],h:=[],m:=[]}
theorem GI(U8:Zd ((i:Int)<(l.length:Int))=false):(CW MJ U2 [] false (sub Tryz.f10 0) (srS l i) (.exit 0) Vp):=by
 exact zx Xd [.b false] (.c U8 .n)
theorem srr_cw{l:oF}(hl:am l):CW MJ U2 [] false (.loop (sub Tryz.f10 0)) (srS (Us l) 0) (.exit 0) Vp:=by
 refine CW.zig l.length (λi=>srS (Us l) (i:Int)) (by simp) (λi hi=>?_) ?_
 ·exact GH (rowAt (Nd hi) rfl) (rdself _) (UO SS hi) (Uo hi hl)
 ·exact GI (bl SS l)
theorem xg{l:oF}(hl:am l)(hn:(((Us l).length:Int) != ((Us l).length:Int))=false)(h:aT):(Ev MJ U2 10 [ab (Us l),ab (Us l)] h (T6 true) h):=by
 have UE:=(@srr_cw (l) (hl))
 exact z0 [.b false,.sum [0,1,4,5] (NR 0) Vp] (.c hn (.c UE .n)) h
abbrev iE(l:Bv):bv:=l.map λb=>[.v (.bool b)]
theorem bself(b:Bool):(!(b==b))=false:=by cases b<;>rfl
theorem GJ{b:Bool}(hr:ax (i:Int) l [.v (.bool b)] 1)(hz:(!(b==b))=false)(U8:Zd ((i:Int)<(l.length:Int))=true)(hw:ML.wrap ((i:Int)+1)=((i+1:Nat):Int)):(CW MJ U2 [] false (sub Tryz.f9 0) (srS l i) .normal (srS l ((i+1:Nat):Int))):=by
 refine zX {t:=Ue 26 0 [(0,ab l),(1,ab l),(4,T6 false),(5,SW (MN ML ((↑i:Int)+1)))],h:=[],m:=[]} M6 [.st (.mask [0,1,4,5])] [.b true,.row [Dp.v (Rg b)],.row [Dp.v (Rg b)],.b false] (.c U8 (.c hr (.c hr (.c hz .n)))) ?_ ?_<;>(first|rfl|(rw[hw]))
theorem GK(U8:Zd ((i:Int)<(l.length:Int))=false):(CW MJ U2 [] false (sub Tryz.f9 0) (srS l i) (.exit 0) Vp):=by
 exact zx Xd [.b false] (.c U8 .n)
theorem sct_cw{l:Bv}(hl:am l):CW MJ U2 [] false (.loop (sub Tryz.f9 0)) (srS (iE l) 0) (.exit 0) Vp:=by
 refine CW.zig l.length (λi=>srS (iE l) (i:Int)) (by simp) (λi hi=>?_) ?_
 ·exact GJ (rowAt (Nd hi) rfl) (bself _) (UO (λb=>[.v (.bool b)]) hi) (Uo hi hl)
 ·exact GK (bl (λb=>[.v (.bool b)]) l)
theorem Aw{l:Bv}(hl:am l)(hn:(((iE l).length:Int) != ((iE l).length:Int))=false)(h:aT):(Ev MJ U2 9 [ab (iE l),ab (iE l)] h (T6 true) h):=by
 have UE:=(@sct_cw (l) (hl))
 exact z0 [.b false,.sum [0,1,4,5] (NR 0) Vp] (.c hn (.c UE .n)) h
attribute [local irreducible] gU
noncomputable abbrev vw(w:T9):aT:=[.var (Zi w)]
theorem dp_few(k0:∀h,Ev MJ Un 5 [] h (T6 true) h)(kf:∀h,Ev MJ U2 6 [.agg w.l] h (T6 false) h)(h:aT):(Ev MJ Un 4 [.agg w.l,SW st,SW n,SW T4,SW ST,SW later] h (T6 true) h):=by
 exact z0 [.val (T6 true),.b false,.val (T6 false),.b true] (.c (@k0 (vw w)) (.c (show(!true)=false from rfl) (.c (Ns (Γ':=Un) (@kf (vw w))) (.c (show(!false)=true from rfl) .n)))) h
abbrev X5(a:bv)(b:Int)(c:bv):bY:=[ab a,SW b,ab c]
noncomputable abbrev GL(w:T9)(us:bv)(ms:Int)(ct:Bv):aT:=[.var (Zi w),.var (X5 us ms (iE ct))]
noncomputable abbrev sV(w:T9):aT:=[.var (Zi w)]
abbrev WB(a:T9)(b c d e:Int):bY:=[.agg a.l,SW b,SW c,SW d,SW e]
theorem dp_ne(hf:am w.f)(hq:am q)(hn:(e != 0||!gU w.f q ST later)=true)(k0:∀h,Ev MJ Un 5 [] h (T6 true) h)(kf:∀h,Ev MJ U2 6 [.agg w.l] h (T6 true) h)
 (k1:∀h,Ev MJ Un 7 (WB w st n T4 ST) h (.UI [.agg (X5 us ms (iE ct)),T6 mt,ab (Us q),SW e]) h) (h:aT):(Ev MJ Un 4 [.agg w.l,SW st,SW n,SW T4,SW ST,SW later] h (T6 true) h):=by
 exact z0 [.val (T6 true),.b false,.val (T6 true),.b false,.val (NG [Oo (X5 us ms (iE ct)),T6 mt,ab (Us q),SW e]),.val (T6 (gU w.f q ST later)),.b true] (.c (@k0 (sV w)) (.c (show(!true)=false from rfl) (.c (Ns (Γ':=Un) (@kf (sV w))) (.c (show(!true)=false from rfl) (.c (@k1 (sV w)) (.c (gd (!e != 0) (Ns (Γ':=Un) (@yU (w.f) q ST later hf hq (GL w us ms ct)))) (.c hn .n))))))) h
noncomputable abbrev yV(w:T9)(us:bv)(ms:Int)(ct:Bv):aT:=[.var (Zi w),.var (X5 us ms (iE ct)),.var (X5 us ms (iE ct))]
noncomputable abbrev yW(w:T9)(us:bv)(ms:Int)(ct:Bv):aT:=[.var (Zi w),.var (X5 us ms (iE ct))]
noncomputable abbrev sW(w:T9):aT:=[.var (Zi w)]
theorem dp_in(hf:am w.f)(hq:am q)(hn:(e != 0||!gU w.f q ST later)=false)(k0:∀h,Ev MJ Un 5 [] h (T6 true) h)(kf:∀h,Ev MJ U2 6 [.agg w.l] h (T6 true) h)
 (k1:∀h,Ev MJ Un 7 (WB w st n T4 ST) h (.UI [.agg (X5 us ms (iE ct)),T6 mt,ab (Us q),SW e]) h)
 (k2:∀h,Ev MJ Un 7 (WB w st n T4 later) h (.UI [.agg (X5 us ms (iE ct)),T6 mt,ab (Us q),SW e]) h)
 (k3:∀h,Ev MJ Un 9 [ab (iE ct),ab (iE ct)] h (T6 true) h) (k4:∀h,Ev MJ Un 10 [ab (Us q),ab (Us q)] h (T6 true) h) (hz:(e==0&&ms==ms&&true&&mt==mt&&true)=true) (h:aT):(Ev MJ Un 4 [.agg w.l,SW st,SW n,SW T4,SW ST,SW later] h (T6 true) h):=by
 let v0:=NG [Oo (X5 us ms (iE ct)),T6 mt,ab (Us q),SW e]
 exact zD (T6 (e==0&&ms==ms&&true&&mt==mt&&true)) [.val (T6 true),.b false,.val (T6 true),.b false,.val v0,.val (T6 (gU w.f q ST later)),.b false,.val v0,.val (T6 true),.val (T6 true)] (.c (@k0 (sW w)) (.c (show(!true)=false from rfl) (.c (Ns (Γ':=Un) (@kf (sW w))) (.c (show(!true)=false from rfl) (.c (@k1 (sW w)) (.c (gd (!e != 0) (Ns (Γ':=Un) (@yU (w.f) q ST later hf hq (yW w us ms ct)))) (.c hn (.c (@k2 (yW w us ms ct)) (.c (gd (e==0&&ms==ms) (@k3 (yV w us ms ct))) (.c (gd (e==0&&ms==ms&&true&&mt==mt) (@k4 (yV w us ms ct))) .n)))))))))) h (by subst v0;first|rfl|exact congrArg T6 hz|simp_all)
end Go.Vi
open Go Go.Proofs
namespace Go.Vi
set_option maxRecDepth 100000
set_option maxHeartbeats 4000000
variable {a:Uj}{b:Bool}{c c0 g p p0 x:Int}{i:Nat}{l:bv}{q:UA}{r:bY}
theorem jH{n a b:Int}(h:aT):(Ev MJ U2 51 (Zw n a b) h (T6 (Xl n a b)) h):=by
 exact z0 [] .n h
theorem Lc(h:aT):(Ev MJ U2 53 [SW c] h (zag c) h):=by
 exact z0 [.val (zau c)] (.c (@jH c 0 4095 ([])) .n) h
theorem Ld{l:bV}(h:aT):∀c∈l,Iv MJ U2 (.p (Wl 53)) [SW c] h (zag c) h:=λc _=>Iv.of (f:=53) (fi:=[]) (ca:=[]) UR (by kernel_rfl) (by kernel_rfl) (Lc h)
def Ax(q:UA):Bool:=Xl q.To 1 10000&&Xl q.Uf 0 12&&!(q.U3.any λc=>!Xl c 0 4095)
noncomputable abbrev pB(q:UA):aT:=[.var (ZD q)]
abbrev zbw(a:UA):bY:=(a.row.map .p)
theorem good_a(hq:am q.U3)(hf:∀c∈q.U3,Iv MJ U2 (.p (Wl 53)) [SW c] [.var (zbw q)] (zag c) [.var (zbw q)])(h:aT):(Ev MJ U2 50 [ag q.row] h (T6 (Ax q)) h):=by
 exact z0 [.val (T6 (Xl q.To 1 10000)),.val (T6 (Xl q.Uf 0 12)),.val (T6 (List.any q.U3 λc=>!Xl c 0 4095))] (.c (@jH (q.To) 1 10000 (pB q)) (.c (gd (Xl q.To 1 10000) (@jH (q.Uf) 0 12 (pB q))) (.c (gd (Xl q.To 1 10000&&Xl q.Uf 0 12) (@H3 (q.U3) hq (fq 53) (pB q) (λc=>!Xl c 0 4095) hf)) .n))) h
theorem Dh{q:UA}(hq:am q.U3)(h:aT):Ev MJ U2 50 [ag q.row] h (T6 (Ax q)) h:=good_a hq (Ld _) h
theorem dbn_t(h:(!b)=false):b=true:=by cases b<;>simp_all
theorem dbn_f(h:(!b)=true):b=false:=by cases b<;>simp_all
abbrev zcS(a:bv):D:=SW (a.length:Int)
abbrev ckS(p:TO)(i:Int):AS:={t:=Ue 57 0 [(2,SW 0),(3,fnv 50),(46,ab (XE p)),(47,(zcS (XE p))),(48,SW i)],h:=[.var p.l],m:=[]}
abbrev ckE(p:TO):AS:=(Xy 57 [.var p.l])
abbrev ckX(p:TO):Unit->Exit×AS:=λ_=>(.ret,{t:=Ue 57 0 [(2,SW 190)],h:=[.var p.l],m:=[]})
def ckF(q:UA)(_:Unit):Unit⊕Unit:=bif Ax q then .inl () else .inr ()
abbrev Zc(a:TO):bY:=(zcO a (ab (MK M0 a.reqs)))
noncomputable abbrev pC(p:TO)(q:UA):aT:=[.var (Zc p),.var (ZD q)]
abbrev Xp(a:UA)(c d:Bool):BY:=[.b true,.row [vs a.nm,vi a.To,vi a.Uf,Dp.v (Rg a.home),OX a.names,OX (aW a.U3)],.val (T6 (c)),.b d]
theorem GM{p:TO}(hr:ax (i:Int) (p.reqs.map M0) q.row 6)(U8:Zd ((i:Int)<((p.reqs.map M0).length:Int))=true)(hw:ML.wrap ((i:Int)+1)=((i+1:Nat):Int))(hq:am q.U3):(CW MJ U2 [] false (sub Tryz.f15 0) (ckS p i) (ad (λ_:Unit=>ckS p ((i+1:Nat):Int)) (ckX p) (ckF q ())).1 (ad (λ_:Unit=>ckS p ((i+1:Nat):Int)) (ckX p) (ckF q ())).2):=by
 cases U5:!Ax q
 ·refine zX {t:=Ue 57 0 [(2,SW 0),(3,fq 50),(46,ab (MK M0 p.reqs)),(47,SW (↑(MO (MK M0 p.reqs)):Int)),(48,SW (MN ML ((↑i:Int)+1)))],h:=[.var [ak p.nm,SW p.number,SW p.UC,SW p.UL,SW p.num,SW p.den,ab (MK M0 p.reqs)]],m:=[]} M6 [.st (.mask [2,3,46,47,48]),.st (.trim 1)] [.b true,.row [vs q.nm,vi q.To,vi q.Uf,Dp.v (Rg q.home),OX q.names,OX (aW q.U3)],.val (T6 (Ax q)),.b false] (.c U8 (.c hr (.c (@Dh q hq (pC p q)) (.c U5 .n)))) ?_ ?_<;>(first|(have hh:Ax q=true:=dbn_t U5;simp only[ckF,hh,cond_true,ad,hw];first|done|rfl)|(have hh:Ax q=false:=dbn_f U5;simp only[ckF,hh,cond_false,ad];first|done|rfl))
 ·refine zX {t:=Ue 57 0 [(2,SW 190)],h:=[.var [ak p.nm,SW p.number,SW p.UC,SW p.UL,SW p.num,SW p.den,ab (MK M0 p.reqs)]],m:=[]} Oq [.st (.mask [2]),.st (.trim 1)] [.b true,.row [vs q.nm,vi q.To,vi q.Uf,Dp.v (Rg q.home),OX q.names,OX (aW q.U3)],.val (T6 (Ax q)),.b true] (.c U8 (.c hr (.c (@Dh q hq (pC p q)) (.c U5 .n)))) ?_ ?_<;>(first|(have hh:Ax q=true:=dbn_t U5;simp only[ckF,hh,cond_true,ad,hw];first|done|rfl)|(have hh:Ax q=false:=dbn_f U5;simp only[ckF,hh,cond_false,ad];first|done|rfl))
theorem Le{p:TO}(U8:Zd ((i:Int)<((XE p).length:Int))=false):(CW MJ U2 [] false (sub Tryz.f15 0) (ckS p i) (.exit 0) (ckE p)):=by
 exact zx Xd [.b false] (.c U8 .n)
def Di(p:TO):Exit×AS:=bJ (.exit 0) (λ_:Unit=>ckE p) (ckX p) (UD ckF p.reqs ())
theorem ck_cw{p:TO}(hp:p.ok):CW MJ U2 [] false (.loop (sub Tryz.f15 0)) (ckS p 0) (Di p).1 (Di p).2:=by
 refine PU p.reqs ckF (λi _=>ckS p (i:Int)) (.exit 0) (λ_=>ckE p) (ckX p) (λ_ _=>True) (by simp) (λ_=>by simp[]) ?_ ?_ () trivial
 ·intro i q _ hc _
  have hi:=(MR.1 hc).1
  exact⟨λ_ _=>trivial,GM (rowAt hc rfl) (UO M0 hi) (Uo hi hp.sr) (hp.rq q (NX hc)).sf⟩
 ·intro _ _
  exact Le (bl M0 p.reqs)
def zgb(p:TO):Bool:=!Xl p.number 0 255||!Xl p.UC 1 4||!Xl p.UL 0 10000||(fu p.num p.den != 0)||!Xl p.num 0 (ML.wrap (12*p.den))||Zd (((p.reqs.map M0).length:Int)>64)
def rF(p:TO):Int:=bif zgb p then 190 else match UD ckF p.reqs () with | .inl _=>0 | .inr _=>190
noncomputable abbrev aJ(p:TO):aT:=[.var (Zc p)]
noncomputable abbrev H7(p:TO):bY:=(Zw p.num 0 (MN ML (12*p.den)))
abbrev zbh(a:TO):D:=(T6 (Xl a.num 0 (MN ML (12*a.den))))
abbrev zcZ(a:TO)(c:Exit)(d:AS):BY:=[.val (T6 (Xl a.number 0 255)),.val (T6 (Xl a.UC 1 4)),.val (zaK a.UL),.val (zbF a.num a.den),.val (zbh a),.b false,.sum [2,3,46,47,48] (c) d]
theorem pD{p:TO}(hp:p.ok)(hn:κ p.num)(hd:κ p.den)(h:aT):(Ev MJ U2 15 [.agg p.l] h (SW (rF p)) h):=by
 cases U5:!Xl p.number 0 255||!Xl p.UC 1 4||!Xl p.UL 0 10000||fu p.num p.den != 0||!Xl p.num 0 (MN ML (12*p.den))||Zd ((↑(MO (YN p)):Int)>64)
 ·have hl1:=(@ck_cw (p) (hp))
  unfold Di at hl1
  revert hl1
  cases ho2:UD ckF p.reqs () with
  | inl zlS =>
   intro hl1
   exact zD (SW 0) (zcZ p (NR 0) (Xy 57 (aJ p))) (.c (@jH (p.number) 0 255 (aJ p)) (.c (gd (!!Xl p.number 0 255) (@jH (p.UC) 1 4 (aJ p))) (.c (gd (!(!Xl p.number 0 255||!Xl p.UC 1 4)) (@jH (p.UL) 0 10000 (aJ p))) (.c (gd (!(!Xl p.number 0 255||!Xl p.UC 1 4||!Xl p.UL 0 10000)) (@ek (p.num) (p.den) hn hd (aJ p))) (.c (gd (!(!Xl p.number 0 255||!Xl p.UC 1 4||!Xl p.UL 0 10000||fu p.num p.den != 0)) (@jH (p.num) 0 (MN ML (12*p.den)) (aJ p))) (.c U5 (.c hl1 .n))))))) h (by first|(have hh:zgb p=true:=U5;simp only[rF,hh,cond_true];done)|(have hh:zgb p=false:=U5;simp only[rF,hh,cond_false,ho2];done))
  | inr zlR =>
   intro hl1
   exact zD (SW 190) (zcZ p Oq {t:=(Wz 57 190),h:=(aJ p),m:=[]}) (.c (@jH (p.number) 0 255 (aJ p)) (.c (gd (!!Xl p.number 0 255) (@jH (p.UC) 1 4 (aJ p))) (.c (gd (!(!Xl p.number 0 255||!Xl p.UC 1 4)) (@jH (p.UL) 0 10000 (aJ p))) (.c (gd (!(!Xl p.number 0 255||!Xl p.UC 1 4||!Xl p.UL 0 10000)) (@ek (p.num) (p.den) hn hd (aJ p))) (.c (gd (!(!Xl p.number 0 255||!Xl p.UC 1 4||!Xl p.UL 0 10000||fu p.num p.den != 0)) (@jH (p.num) 0 (MN ML (12*p.den)) (aJ p))) (.c U5 (.c hl1 .n))))))) h (by first|(have hh:zgb p=true:=U5;simp only[rF,hh,cond_true];done)|(have hh:zgb p=false:=U5;simp only[rF,hh,cond_false,ho2];done))
 ·exact zD (SW 190) [.val (T6 (Xl p.number 0 255)),.val (T6 (Xl p.UC 1 4)),.val (zaK p.UL),.val (zbF p.num p.den),.val (zbh p),.b true] (.c (@jH (p.number) 0 255 (aJ p)) (.c (gd (!!Xl p.number 0 255) (@jH (p.UC) 1 4 (aJ p))) (.c (gd (!(!Xl p.number 0 255||!Xl p.UC 1 4)) (@jH (p.UL) 0 10000 (aJ p))) (.c (gd (!(!Xl p.number 0 255||!Xl p.UC 1 4||!Xl p.UL 0 10000)) (@ek (p.num) (p.den) hn hd (aJ p))) (.c (gd (!(!Xl p.number 0 255||!Xl p.UC 1 4||!Xl p.UL 0 10000||fu p.num p.den != 0)) (@jH (p.num) 0 (MN ML (12*p.den)) (aJ p))) (.c U5 .n)))))) h (by first|(have hh:zgb p=true:=U5;simp only[rF,hh,cond_true];done)|(have hh:zgb p=false:=U5;simp only[rF,hh,cond_false,U5];done))
def elB(q:UA)(a:Uj):Bool:=Zd (a.Uf>=q.Uf)&&(!q.home||a.UK==0)&&q.U3.contains a.T5
noncomputable abbrev Ay(q:UA)(a:Uj):aT:=[.var (ZD q),.var (Zf a)]
theorem Dj{q:UA}{a:Uj}(hq:am q.U3)(h:aT):(Ev MJ U2 56 [ag q.row,ag a.row] h (T6 (elB q a)) h):=by
 exact z0 [.val (T6 (List.contains q.U3 a.T5))] (.c (gd (Zd (a.Uf>=q.Uf)&&(!q.home||a.UK==0)) (@w7 (q.U3) hq (a.T5) (Ay q a))) .n) h
def elF(a:Uj)(s:bV×Int)(q:UA):bV×Int:=(bif elB q a then s.1++[s.2] else s.1,s.2+1)
def elR(p:TO)(a:Uj):bV:=(p.reqs.foldl (elF a) ([],0)).1
def ao(l:bV):List (bY):=l.map λn=>[SW n]
theorem eu(l:bV)(n:Int):ao l++[[SW n]]=ao (l++[n]):=by simp[ao]
theorem dv(l:bV):(ao l).length=l.length:=by simp[ao]
theorem aB(f:Ref->D)(l:bV):(ao l).map (N8 f)=ao l:=by simp[ao,N8,D.UG]
theorem aw(n:Nat)(l:bV):(ao l).all (D.zcN n)=true:=by simp[ao,D.zcN,D.inn]
theorem gL(l:bV):ao l=(aW l).map (·.map .p):=by simp[ao]
abbrev Yw:Nat×D:=(zcL 3)
abbrev zaG:Nat×D:=(4,.ref (.T7 2 0))
abbrev zee(b:TO)(c:Int)(d:Uj)(e:List (bY)):AS:={t:=Ue 24 0 [Yw,zaG,(8,ab (XE b)),(9,(zcS (XE b))),(10,SW c)],h:=[.var b.l,.var (d.row.map .p),.T7 e 0 1],m:=[]}
abbrev egS(p:TO)(a:Uj)(l:bV)(i:Int):AS:=(zee p i a (ao l))
abbrev egE(p:TO)(a:Uj)(l:bV):AS:=(Vx 24 4 2 [.var p.l,.var (a.row.map .p),.T7 (ao l) 0 1])
noncomputable abbrev rH(p:TO)(a:Uj)(q:UA)(l:bV):aT:=[.var (Zc p),.var (Zf a),.T7 (ao l) 0 1,.var (ZD q)]
abbrev zc1(a b:Nat)(c:List (bY))(d e:Nat):Uc:=(match a+1+1==b with|true=>.T7 (c) 0 d|false=>Ux (a8 b e 0) (.T7 (c) e d))
theorem Lf{p:TO}{l:bV}(hr:ax (i:Int) (p.reqs.map M0) q.row 6)(U8:Zd ((i:Int)<((p.reqs.map M0).length:Int))=true)(hw:ML.wrap ((i:Int)+1)=((i+1:Nat):Int))(hq:am q.U3)(hl:l.length<=1000000):(CW MJ U2 [] false (sub Tw 0) (egS p a l i) .normal (egS p a (elF a (l,(i:Int)) q).1 ((i+1:Nat):Int))):=by
 cases U5:elB q a
 ·let v0:=MK M0 p.reqs
  let v1:bY:=[SW a.T5,SW a.T4,SW a.Uf,SW a.UK,SW a.To]
  refine zX {t:=Ue 24 0 [(3,.ref (.ptr 1 0)),(4,.ref (.T7 2 0)),(8,ab v0),(9,SW (↑(MO v0):Int)),(10,SW (MN ML ((↑i:Int)+1)))],h:=[.var [ak p.nm,SW p.number,SW p.UC,SW p.UL,SW p.num,SW p.den,ab v0],.var v1,.T7 (ao l) 0 1],m:=[]} M6 [.st (.mask [3,4,8,9,10]),.st (.ren 2 0),.st (.UN 3)] [.b true,.row [vs q.nm,vi q.To,vi q.Uf,Dp.v (Rg q.home),OX q.names,OX (aW q.U3)],.val (T6 (elB q a)),.b false] (.c U8 (.c hr (.c (@Dj q a hq (rH p a q l)) (.c U5 (.c (show MK (N8 (a8 2 0 0)) (ao l)=ao l from ?_) (.c (iqT 3 (match 0==2 with|true=>.T7 (ao l) 0 1|false=>Ux (a8 2 0 0) (.var [ak p.nm,SW p.number,SW p.UC,SW p.UL,SW p.num,SW p.den,ab v0]))) (.c (iqT 3 (match 0+1==2 with|true=>.T7 (ao l) 0 1|false=>Ux (a8 2 0 0) (.var v1))) (.c (show MY 3 (match 0+1+1==2 with|true=>.T7 (ao l) 0 1|false=>Ux (a8 2 0 0) (.T7 (ao l) 0 1))=true from ?_) .n)))))))) (by subst v0 v1;simp only[];first|done|rfl|(rw[eu];rfl)) (by subst v0 v1;simp only[elF,U5,cond_false,hw];first|done|rfl|(rw[eu];rfl))<;>subst v0 v1<;>(first|assumption|rfl|exact aB _ _|exact aw _ _|(rw[eu];exact aB _ _)|(rw[eu];exact aw _ _)|(simp[aR,D.one,NZ,Um,dv];omega))
 ·let v0:=MK M0 p.reqs
  let v1:bY:=[SW a.T5,SW a.T4,SW a.Uf,SW a.UK,SW a.To]
  refine zX {t:=Ue 24 0 [(3,.ref (.ptr 1 0)),(4,.ref (.T7 2 0)),(8,ab v0),(9,SW (↑(MO v0):Int)),(10,SW (MN ML ((↑i:Int)+1)))],h:=[.var [ak p.nm,SW p.number,SW p.UC,SW p.UL,SW p.num,SW p.den,ab v0],.var v1,.T7 (ao l++[[SW (↑i:Int)]]) 0 1],m:=[]} M6 [.st (.mask [3,4,8,9,10]),.st (.ren 2 0),.st (.UN 3)] [.b true,.row [vs q.nm,vi q.To,vi q.Uf,Dp.v (Rg q.home),OX q.names,OX (aW q.U3)],.val (T6 (elB q a)),.b true] (.c U8 (.c hr (.c (@Dj q a hq (rH p a q l)) (.c U5 (.c (show(List.all [[SW (↑i:Int)]] (aR 1)&&Um (MO (ao l)+MO [[SW (↑i:Int)]]) 8)=true from ?_) (.c (show MK (N8 (a8 2 1 0)) (ao l++[[SW (↑i:Int)]])=ao l++[[SW (↑i:Int)]] from ?_) (.er [[SW (↑i:Int)]] (.c (iqT 3 (match 0==2 with|true=>.T7 (ao l++[[SW (↑i:Int)]]) 0 1|false=>Ux (a8 2 1 0) (.var [ak p.nm,SW p.number,SW p.UC,SW p.UL,SW p.num,SW p.den,ab v0]))) (.c (iqT 3 (match 0+1==2 with|true=>.T7 (ao l++[[SW (↑i:Int)]]) 0 1|false=>Ux (a8 2 1 0) (.var v1))) (.c (show MY 3 (match 0+1+1==2 with|true=>.T7 (ao l++[[SW (↑i:Int)]]) 0 1|false=>Ux (a8 2 1 0) (.T7 (ao l++[[SW (↑i:Int)]]) 1 1))=true from ?_) .n)))))))))) (by subst v0 v1;simp only[];first|done|rfl|(rw[eu];rfl)) (by subst v0 v1;simp only[elF,U5,cond_true,hw];first|done|rfl|(rw[eu];rfl))<;>subst v0 v1<;>(first|assumption|rfl|exact aB _ _|exact aw _ _|(rw[eu];exact aB _ _)|(rw[eu];exact aw _ _)|(simp[aR,D.one,NZ,Um,dv];omega))
theorem Lg{p:TO}{l:bV}(U8:Zd ((i:Int)<((XE p).length:Int))=false):(CW MJ U2 [] false (sub Tw 0) (egS p a l i) (.exit 0) (egE p a l)):=by
 exact zx WH [.b false] (.c U8 .n)
theorem yX{a:Uj}:∀(l:NE) (s:bV×Int),(l.foldl (elF a) s).1.length<=s.1.length+l.length
 | [],s=>by simp
 | q::l,s=>by
  have:=yX (a:=a) l (elF a s q)
  have h2:(elF a s q).1.length<=s.1.length+1:=by unfold elF;cases elB q a<;>simp
  simp only[List.foldl_cons,List.length_cons];omega
theorem eg_cw{p:TO}(hp:p.ok)(hn:p.reqs.length<=1000){a:Uj}:CW MJ U2 [] false (.loop (sub Tw 0)) (zee p 0 a []) (.exit 0) (egE p a (elR p a)):=by
 have:=PU (P:=MJ) (Γ:=U2) (h0:=[]) (rd:=false) (c:=sub Tw 0) (σ:=bV×Int) (ρ:=Empty) p.reqs (λq s=>.inl (elF a s q))
  (λi s=>egS p a s.1 (i:Int)) (.exit 0) (λs=>egE p a s.1) (λr=>r.elim) (λi s=>s.2=i/\s.1.length<=i) (by simp) (λr=>r.elim) ?_ ?_ ([],0) (by simp)
 ·rw[aY] at this
  exact this
 ·rintro i q ⟨l,k⟩ hc ⟨hk,hl⟩
  simp only at hk hl
  subst hk
  have hi:=(MR.1 hc).1
  refine⟨λs' h=>?_,Lf (rowAt hc rfl) (UO M0 hi) (Uo hi hp.sr) (hp.rq q (NX hc)).sf (show l.length<=1000000 by omega)⟩
  cases h
  unfold elF
  refine⟨by simp,?_⟩
  cases elB q a<;>simp<;>omega
 ·intro s _
  exact Lg (bl M0 p.reqs)
theorem pE{p:TO}(hp:p.ok)(hn:p.reqs.length<=1000){a:Uj}(h:aT):(Ev MJ U2 18 [.agg p.l,ag a.row] h (ab (aW (elR p a))) h):=by
 have UE:=(@eg_cw (p) (hp) (hn) (a))
 exact z0 [.nx 2,.st (.zjQ 4 1),.sum [3,4,8,9,10] (NR 0) (zb6 24 [zaG] [.var (Zc p),.var (Zf a),.T7 (ao (elR p a)) 0 1]),.st (.frz 2 (aW (elR p a)))] (.c UE (.c (show ao (elR p a)=(W8 (aW (elR p a))) from(by first|assumption|rfl|exact gL _|omega)) .n)) h
def nwN(n d:Int):Int:=Nj.wrap (Nz (n.natAbs:Int) (O0 d.natAbs n.natAbs:Int))
def nwD(n d:Int):Int:=Nj.wrap (Nz (d.natAbs:Int) (O0 d.natAbs n.natAbs:Int))
def lZ(n d:Int):Bool:=Zd (nwN n d>1073741824)||Zd (nwD n d>1073741824)
def GN(n d:Int):Bool:=!(Zd (n<0)==Zd (d<0))
def kJ(n d:Int):Int×Int×Int:=match d==0 with
 | true=>(0,0,1)
 | false=>match lZ n d with
  | true=>(0,0,2)
  | false=>match GN n d with
   | true=>(ML.wrap (0-ML.wrap (nwN n d)),ML.wrap (nwD n d),0)
   | false=>(ML.wrap (nwN n d),ML.wrap (nwD n d),0)
theorem Lh{n d:Int}(h:(d==0)=false):((O0 d.natAbs n.natAbs:Nat):Int)≠0:=by
 have:d≠0:=by simpa using h
 intro h0
 have:O0 d.natAbs n.natAbs=0:=by exact_mod_cast h0
 have:=Nat.eq_zero_of_gcd_eq_zero_left this
 omega
abbrev XP:aT:=([.var [SW 0,SW 0]])
abbrev V4(a b c:Int):D:=SW (MN ML (MN Nj (Nz (↑(NN a):Int) (↑(O0 (NN b) (NN c)):Int))))
abbrev zaC(a c:Int)(e:Bool):BY:=[.b false,.val (u64 (↑(O0 (NN a) (NN c)):Int)),.val (u64 (↑(NN c):Int)),.val (u64 (↑(NN a):Int)),.b false,.b e]
theorem Li{n d:Int}(hn:κ n)(hd:κ d)(h:aT):(Ev MJ U2 75 [SW n,SW d] h (.UI [.agg [SW (kJ n d).1,SW (kJ n d).2.1],SW (kJ n d).2.2]) h):=by
 cases U5:d==0
 ·cases Uy:Zd (MN Nj (Nz (↑(NN n):Int) (↑(O0 (NN d) (NN n)):Int))>1073741824)||Zd (MN Nj (Nz (↑(NN d):Int) (↑(O0 (NN d) (NN n)):Int))>1073741824)
  ·cases Δ:!Zd (n<0)==Zd (d<0)
   ·refine zD (NG [Oo [(V4 n d n),(V4 d d n)],SW 0]) (zaC d n false) (.c U5 (.c (@kn n d hn hd XP) (.c (@iq n hn XP) (.c (show(!Zd ((↑(O0 (NN d) (NN n)):Int)=0))=true from ?_) (.c (@iq d hd XP) (.c (show(!Zd ((↑(O0 (NN d) (NN n)):Int)=0))=true from ?_) (.c Uy (.c Δ .n)))))))) h (by first|(have z0:(d==0)=true:=U5;simp only[kJ,z0];first|done|rfl)|(have z0:(d==0)=false:=U5;have z1:lZ n d=true:=Uy;simp only[kJ,z0,z1];first|done|rfl)|(have z0:(d==0)=false:=U5;have z1:lZ n d=false:=Uy;have z2:GN n d=true:=Δ;simp only[kJ,z0,z1,z2];first|done|rfl)|(have z0:(d==0)=false:=U5;have z1:lZ n d=false:=Uy;have z2:GN n d=false:=Δ;simp only[kJ,z0,z1,z2];first|done|rfl))<;>(first|assumption|rfl|(have h9:=Lh (n:=n) (by assumption);simp[];done)|(simp_all;done))
   ·refine zD (NG [Oo [SW (MN ML (0-MN ML (MN Nj (Nz (↑(NN n):Int) (↑(O0 (NN d) (NN n)):Int))))),(V4 d d n)],SW 0]) (zaC d n true) (.c U5 (.c (@kn n d hn hd XP) (.c (@iq n hn XP) (.c (show(!Zd ((↑(O0 (NN d) (NN n)):Int)=0))=true from ?_) (.c (@iq d hd XP) (.c (show(!Zd ((↑(O0 (NN d) (NN n)):Int)=0))=true from ?_) (.c Uy (.c Δ .n)))))))) h (by first|(have z0:(d==0)=true:=U5;simp only[kJ,z0];first|done|rfl)|(have z0:(d==0)=false:=U5;have z1:lZ n d=true:=Uy;simp only[kJ,z0,z1];first|done|rfl)|(have z0:(d==0)=false:=U5;have z1:lZ n d=false:=Uy;have z2:GN n d=true:=Δ;simp only[kJ,z0,z1,z2];first|done|rfl)|(have z0:(d==0)=false:=U5;have z1:lZ n d=false:=Uy;have z2:GN n d=false:=Δ;simp only[kJ,z0,z1,z2];first|done|rfl))<;>(first|assumption|rfl|(have h9:=Lh (n:=n) (by assumption);simp[];done)|(simp_all;done))
  ·refine zD (NG [Oo [SW 0,SW 0],SW 2]) [.b false,.val (u64 (↑(O0 (NN d) (NN n)):Int)),.val (u64 (↑(NN n):Int)),.val (u64 (↑(NN d):Int)),.b true] (.c U5 (.c (@kn n d hn hd XP) (.c (@iq n hn XP) (.c (show(!Zd ((↑(O0 (NN d) (NN n)):Int)=0))=true from ?_) (.c (@iq d hd XP) (.c (show(!Zd ((↑(O0 (NN d) (NN n)):Int)=0))=true from ?_) (.c Uy .n))))))) h (by first|(have z0:(d==0)=true:=U5;simp only[kJ,z0];first|done|rfl)|(have z0:(d==0)=false:=U5;have z1:lZ n d=true:=Uy;simp only[kJ,z0,z1];first|done|rfl)|(have z0:(d==0)=false:=U5;have z1:lZ n d=false:=Uy;have z2:GN n d=true:=Δ;simp only[kJ,z0,z1,z2];first|done|rfl)|(have z0:(d==0)=false:=U5;have z1:lZ n d=false:=Uy;have z2:GN n d=false:=Δ;simp only[kJ,z0,z1,z2];first|done|rfl))<;>(first|assumption|rfl|(have h9:=Lh (n:=n) (by assumption);simp[];done)|(simp_all;done))
 ·exact zD (NG [Oo [SW 0,SW 0],SW 1]) [.b true] (.c U5 .n) h (by first|(have z0:(d==0)=true:=U5;simp only[kJ,z0];first|done|rfl)|(have z0:(d==0)=false:=U5;have z1:lZ n d=true:=Uy;simp only[kJ,z0,z1];first|done|rfl)|(have z0:(d==0)=false:=U5;have z1:lZ n d=false:=Uy;have z2:GN n d=true:=Δ;simp only[kJ,z0,z1,z2];first|done|rfl)|(have z0:(d==0)=false:=U5;have z1:lZ n d=false:=Uy;have z2:GN n d=false:=Δ;simp only[kJ,z0,z1,z2];first|done|rfl))
abbrev zeh:bY:=(zez 2)
abbrev Ym:bY:=zeh
abbrev suT:bY:=Ue 26 0 [ZP,Yw,(13,.fn (.func 140) [] Ym)]
noncomputable abbrev suL(st:LoopState):Uc:=.loop st none 0 suT #[14,15] (ar (sub Pz 0)) (af (sub Pz 0))
noncomputable abbrev suH(c p:Int)(l:bv)(st:LoopState)(more:aT):aT:=[.var [SW c],.var [SW p],.var [ab l],.Ut,suL st]++more
abbrev suU(g c:Int):bY:=Ue 26 0 [ZP,Yw,(5,SW g),(6,SW c)]
def suF(s:Int×Int)(a:Uj):Int×Int:=(ML.wrap (s.1+a.To),ML.wrap (s.2+ML.wrap (a.Uf*a.To)))
theorem su_asg:(CW MJ U2 (suH c p l .ready [.var r]) true (ar (sub Pz 0)) {t:=dW suT [(14,SW g),(15,SW x)],h:=suH c p l .ready [.var r],m:=[]} .normal {t:=suU g x,h:=suH c p l .ready [.var r],m:=[]}):=by
 exact zx [.st (.mask [2,3,5,6])] [] .n
theorem Lj:(CW MJ U2 (suH c p l .ready [.var r]) true (af (sub Pz 0)) {t:=suU g x,h:=suH c p l .busy [.var r],m:=[]} .normal (Yn 26 (suH (ML.wrap (c+x)) (ML.wrap (p+ML.wrap (g*x))) l .busy [.var r]))):=by
 exact zx Xd [] .n
theorem Lk{c p g x:Int}{l:bv}{r:bY}:Iv MJ U2 (.ref (.yl 4)) [SW g,SW x] (suH c p l .ready [.var r]) (T6 true) (suH (ML.wrap (c+x)) (ML.wrap (p+ML.wrap (g*x))) l .ready [.var r]) :=
 Iv.round (h1:=suH c p l .ready [.var r]) rfl rfl su_asg rfl Lj rfl
abbrev zc4(a:Nat):Nat×D:=(0,.ref (.yl a))
abbrev swT(fs:bv)(i:Int):bY:=Ue 19 0 [(zc4 4),(5,ab fs),(6,SW fs.length),(7,SW i)]
abbrev zdX:bY:=Ue 26 0 [ZP,Yw,(13,Oe (M7 140) [] Ym)]
theorem Ll(hr:ax (i:Int) l a.row 5)(U8:Zd ((i:Int)<(l.length:Int))=true)(hw:ML.wrap ((i:Int)+1)=((i+1:Nat):Int)):(CW MJ U2 (suH c0 p0 l .ready []) false (sub QJ 0) {t:=swT l i,h:=suH c p l .ready [],m:=[]} .normal {t:=swT l ((i+1:Nat):Int),h:=suH (suF (c,p) a).1 (suF (c,p) a).2 l .ready [],m:=[]}):=by
 let v0:bY:=[SW (MN ML (p+MN ML (a.Uf*a.To)))]
 let v1:bY:=[SW a.T5,SW a.T4,SW a.Uf,SW a.UK,SW a.To]
 refine zX {t:=Ue 19 0 [(0,.ref (.yl 4)),(5,ab l),(6,SW (↑(MO l):Int)),(7,SW (MN ML ((↑i:Int)+1)))],h:=[.var [SW (MN ML (c+a.To))],.var v0,.var [ab l],.Ut,.loop Nl none 0 (Ue 26 0 [(2,.ref (.ptr 0 0)),(3,.ref (.ptr 1 0)),(13,Oe (M7 140) [] [.ref (.ptr 2 0)])]) {toList:=[14,15]} (ar (sub Pz 0)) (af (sub Pz 0))],m:=[]} M6 [.st (.mask [0,5,6,7]),.st (.trim 5)] [.b true,.row (MQ a),.inv (T6 true) [.var [SW (MN ML (c+a.To))],.var v0,.var [ab l],.Ut,.loop Nl none 0 (Ue 26 0 [(2,.ref (.ptr 0 0)),(3,.ref (.ptr 1 0)),(13,Oe (M7 140) [] [.ref (.ptr 2 0)])]) {toList:=[14,15]} (ar (sub Pz 0)) (af (sub Pz 0)),.var v1],.b false] (.c U8 (.c hr (.c (@Lk c p (a.Uf) (a.To) l (v1)) (.c (show(!true)=false from rfl) .n)))) ?_ ?_<;>subst v0 v1<;>(first|rfl|(simp only[hw];rfl))
theorem Lm(U8:Zd ((i:Int)<(l.length:Int))=false):(CW MJ U2 (suH c0 p0 l .ready []) false (sub QJ 0) {t:=swT l i,h:=suH c p l .ready [],m:=[]} (.exit 0) (Xy 19 (suH c p l .ready []))):=by
 exact zx Xd [.b false] (.c U8 .n)
noncomputable abbrev zaU(a b:Int)(c:iF):aT:=suH a b (c.map MQ) .ready []
theorem sw_cw{c0 p0:Int}{l:iF}(hl:am l):
  CW MJ U2 (zaU c0 p0 l) false (.loop (sub QJ 0)) {t:=swT (l.map MQ) 0,h:=(zaU c0 p0 l),m:=[]} (.exit 0)
   (Yn 19 (suH (l.foldl suF (c0,p0)).1 (l.foldl suF (c0,p0)).2 (l.map MQ) .ready [])):=by
 have:=PU (P:=MJ) (Γ:=U2) (h0:=(zaU c0 p0 l)) (rd:=false) (c:=sub QJ 0) (σ:=Int×Int) (ρ:=Empty) l (λf s=>.inl (suF s f))
  (λi s=>{t:=swT (l.map MQ) (i:Int),h:=(zaU (s.1) (s.2) l),m:=[]}) (.exit 0) (λs=>{t:=Ue 19 0 [],h:=(zaU (s.1) (s.2) l),m:=[]}) (λr=>r.elim)
  (λ_ _=>True) (by simp) (λr=>r.elim) ?_ ?_ (c0,p0) trivial
 ·rw[aY] at this
  exact this
 ·intro i f s hf _
  have hi:=(MR.1 hf).1
  exact⟨λ_ _=>trivial,Ll (rowAt hf rfl) (UO _ hi) (Uo hi hl)⟩
 ·intro s _
  exact Lm (bl _ l)
abbrev WC(a:iF):bY:=[ab (MK MQ a)]
theorem Dk{l:iF}(hl:am l):(Ev MJ U2 140 [.ref (.yl 4),.ref (.ptr 2 0)] (zaU c0 p0 l) (.UI []) (zaU ((l.foldl suF (c0,p0)).1) ((l.foldl suF (c0,p0)).2) l)):=by
 have UE:=(@sw_cw (c0) (p0) (l) (hl))
 let v0:aT:=[.var [SW (ND suF (c0,p0) l).fst],.var [SW (ND suF (c0,p0) l).2],.var (WC l),.Ut,.loop Nl none 0 (zdX) {toList:=[14,15]} (ar (sub Pz 0)) (af (sub Pz 0))]
 exact Na (Ev.zet (h':=v0) (d:=NG []) UR [.sum [0,5,6,7] (NR 0) (Xy 19 v0)] (by kernel_rfl) (.c UE .n)) (by rfl) (by rfl)
theorem GO{c0 p0:Int}{l:iF}(hl:am l):CW MJ U2 [] false (sub Pz 0) {t:=suT,h:=[.var [SW c0],.var [SW p0],.var (Wr l)],m:=[]} .normal
  {t:=suT,h:=suH (l.foldl suF (c0,p0)).1 (l.foldl suF (c0,p0)).2 (l.map MQ) .exhausted [],m:=[3]}:=by
 exact CW.rangeFunc (f:=140) (fi:=[]) (ca:=Ym) UR (s:={t:=suT,h:=[.var [SW c0],.var [SW p0],.var (Wr l)],m:=[]}) (g:=.tmp 13) (ps:=#[14,15]) (asg:=ar (sub Pz 0)) (body:=af (sub Pz 0)) rfl (by kernel_rfl) (Dk hl) rfl
def f8(l:iF):Int×Int×Int:=match dN l != 0 with
 | true=>(0,0,dN l)
 | false=>((l.foldl suF (0,0)).1,(l.foldl suF (0,0)).2,0)
abbrev Vj(a:Int)(b:D):aT:=[.var [SW a],.var [b]]
abbrev zax(a:Int):BY:=[.val (SW a),.b true]
abbrev zaY(a:iF):D:=SW (ND suF (0,0) a).2
theorem Dl{l:iF}(hl:am l)(h:aT):(Ev MJ U2 49 (Wr l) h (.UI (Zw ((f8 l).1) ((f8 l).2.1) ((f8 l).2.2))) h):=by
 cases U5:dN l != 0
 ·have hl1:=(@GO (0) (0) (l) (hl))
  exact zD (NG (Zw ((ND suF (0,0) l).fst) ((ND suF (0,0) l).2) 0)) [.val (SW (dN l)),.b false,.inl,.sum [2,3,13] (M6) {t:=zdX,h:=[.var [SW (ND suF (0,0) l).fst],.var [(zaY l)],.var (WC l),.Ut,.loop NM none 0 (zdX) {toList:=[14,15]} (ar (sub Pz 0)) (af (sub Pz 0))],m:=[3]}] (.c (@dZ l hl (Vj 0 (SW 0))) (.c U5 (.c hl1 (.c (show @Eq (oN) (Yc ((ND suF (0,0) l).fst)) (Yc ((ND suF (0,0) l).fst)) from rfl) (.c (show @Eq (oN) (some (zaY l)) (some (zaY l)) from rfl) (.c (show @Eq (oN) (some (zaY l)) (some (zaY l)) from rfl) .n)))))) h (by simp only[f8,U5];first|done|rfl)
 ·exact zD (NG [SW 0,SW 0,SW (dN l)]) (zax (dN l)) (.c (@dZ l hl (Vj 0 (SW 0))) (.c U5 .n)) h (by simp only[f8,U5];first|done|rfl)
theorem nn(x:Int):κ (ML.wrap x):=by
 unfold κ
 rw[IntKind.wrap_i64]
 omega
theorem Ln(s:Int×Int)(a:Uj):κ (suF s a).1/\κ (suF s a).2:=⟨nn _,nn _⟩
theorem rI:∀(l:iF) (s:Int×Int),κ s.1/\κ s.2->κ (l.foldl suF s).1/\κ (l.foldl suF s).2
 | [],_,h=>h
 | a::l,s,_=>rI l (suF s a) (Ln s a)
theorem pF:κ 0:=by unfold κ;omega
theorem vz(l:iF):κ (f8 l).1/\κ (f8 l).2.1:=by
 unfold f8
 cases dN l != 0
 ·exact rI l (0,0) ⟨pF,pF⟩
 ·exact⟨pF,pF⟩
def vA(c p e:Int):Int×Int×Int:=match e != 0 with
 | true=>(0,0,e)
 | false=>match c==0 with
  | true=>(0,1,0)
  | false=>kJ p c
def gY(l:iF):Int×Int×Int:=vA (f8 l).1 (f8 l).2.1 (f8 l).2.2
abbrev zbU(a b:Int):D:=(NG [Oo [SW (kJ a b).fst,SW (kJ a b).2.fst],SW (kJ a b).2.2])
theorem mean_a{l:iF}{e:Int}(hc:κ c)(hp:κ p)(hs:∀h,Ev MJ U2 49 (Wr l) h (.UI (Zw c p e)) h)(h:aT):(Ev MJ U2 33 (Wr l) h (.UI [.agg [SW (vA c p e).1,SW (vA c p e).2.1],SW (vA c p e).2.2]) h):=by
 cases U5:e != 0
 ·cases Uy:c==0
  ·exact zD (zbU p c) [.val (NG (Zw c p e)),.b false,.b false,.val (zbU p c)] (.c (@hs XP) (.c U5 (.c Uy (.c (@Li p c hp hc XP) .n)))) h (by simp only[vA,U5,Uy];first|done|rfl)
  ·exact zD (NG [Oo [SW 0,SW 1],SW 0]) [.val (NG (Zw c p e)),.b false,.b true] (.c (@hs XP) (.c U5 (.c Uy .n))) h (by simp only[vA,U5,Uy];first|done|rfl)
 ·exact zD (NG [Oo [SW 0,SW 0],SW e]) [.val (NG (Zw c p e)),.b true] (.c (@hs XP) (.c U5 .n)) h (by simp only[vA,U5];first|done|rfl)
theorem Dm{l:iF}(hl:am l)(h:aT):Ev MJ U2 33 (Wr l) h (.UI [.agg [SW (gY l).1,SW (gY l).2.1],SW (gY l).2.2]) h :=
 mean_a (vz l).1 (vz l).2 (λh=>Dl hl h) h
theorem GP(n d:Int):κ (kJ n d).1/\κ (kJ n d).2.1:=by
 unfold kJ
 split
 ·exact⟨pF,pF⟩
 ·split
  ·exact⟨pF,pF⟩
  ·split<;>exact⟨nn _,nn _⟩
theorem Dn(l:iF):κ (gY l).1/\κ (gY l).2.1:=by
 unfold gY vA
 split
 ·exact⟨pF,pF⟩
 ·split
  ·exact⟨pF,by unfold κ;simp⟩
  ·exact GP _ _
abbrev eaT:bY:=Ue 21 0 [ZP,(12,.fn (.func 140) [] X0)]
noncomputable abbrev eaL(st:LoopState):Uc:=.loop st none 0 eaT #[13,14] (ar (sub Ph 0)) (af (sub Ph 0))
noncomputable abbrev eaH(c:Int)(l:bv)(st:LoopState)(more:aT):aT:=[.var [SW c],.var [ab l],.Ut,eaL st]++more
abbrev eaU(g c:Int):bY:=Ue 21 0 [ZP,(4,SW g),(5,SW c)]
def eaG(c g x:Int):Int:=match Zd (g>0) with|true=>ML.wrap (c+x)|false=>c
def eaF(c:Int)(a:Uj):Int:=eaG c a.Uf a.To
theorem ea_asg:(CW MJ U2 (eaH c l .ready [.var r]) true (ar (sub Ph 0)) {t:=dW eaT [(13,SW g),(14,SW x)],h:=eaH c l .ready [.var r],m:=[]} .normal {t:=eaU g x,h:=eaH c l .ready [.var r],m:=[]}):=by
 exact zx [.st (.mask [2,4,5])] [] .n
abbrev Xj(a:Nat):D:=Oe (M7 140) [] (zez a)
abbrev za3:Array Tmp:={toList:=[13,14]}
abbrev zdY:bY:=Ue 21 0 [ZP,(12,(Xj 1))]
theorem Lo:(CW MJ U2 (eaH c l .ready [.var r]) true (af (sub Ph 0)) {t:=eaU g x,h:=eaH c l .busy [.var r],m:=[]} .normal {t:=Ue 21 0 [],h:=eaH (eaG c g x) l .busy [.var r],m:=[]}):=by
 cases U5:Zd (g>0)
 ·exact zX {t:=Ue 21 0 [],h:=[.var [SW c],.var [ab l],.Ut,.loop NJ none 0 (zdY) za3 (ar (sub Ph 0)) (af (sub Ph 0)),.var r],m:=[]} M6 Xd [.b false] (.c U5 .n) (by simp only[];first|done|rfl) (by simp only[eaG,U5];first|done|rfl)
 ·exact zX {t:=Ue 21 0 [],h:=[.var [SW (MN ML (c+x))],.var [ab l],.Ut,.loop NJ none 0 (zdY) za3 (ar (sub Ph 0)) (af (sub Ph 0)),.var r],m:=[]} M6 Xd [.b true] (.c U5 .n) (by simp only[];first|done|rfl) (by simp only[eaG,U5];first|done|rfl)
theorem Lp{c g x:Int}{l:bv}{r:bY}:Iv MJ U2 (.ref (.yl 3)) [SW g,SW x] (eaH c l .ready [.var r]) (T6 true) (eaH (eaG c g x) l .ready [.var r]) :=
 Iv.round (h1:=eaH c l .ready [.var r]) rfl rfl ea_asg rfl Lo rfl
abbrev ewT(fs:bv)(i:Int):bY:=Ue 19 0 [(zc4 3),(5,ab fs),(6,SW fs.length),(7,SW i)]
theorem Lq(hr:ax (i:Int) l a.row 5)(U8:Zd ((i:Int)<(l.length:Int))=true)(hw:ML.wrap ((i:Int)+1)=((i+1:Nat):Int)):(CW MJ U2 (eaH c0 l .ready []) false (sub QJ 0) {t:=ewT l i,h:=eaH c l .ready [],m:=[]} .normal {t:=ewT l ((i+1:Nat):Int),h:=eaH (eaF c a) l .ready [],m:=[]}):=by
 let v0:bY:=[SW a.T5,SW a.T4,SW a.Uf,SW a.UK,SW a.To]
 refine zX {t:=Ue 19 0 [(0,.ref (.yl 3)),(5,ab l),(6,SW (↑(MO l):Int)),(7,SW (MN ML ((↑i:Int)+1)))],h:=[.var [SW (eaG c a.Uf a.To)],.var [ab l],.Ut,.loop Nl none 0 (Ue 21 0 [(2,.ref (.ptr 0 0)),(12,Oe (M7 140) [] [.ref (.ptr 1 0)])]) {toList:=[13,14]} (ar (sub Ph 0)) (af (sub Ph 0))],m:=[]} M6 [.st (.mask [0,5,6,7]),.st (.trim 4)] [.b true,.row (MQ a),.inv (T6 true) [.var [SW (eaG c a.Uf a.To)],.var [ab l],.Ut,.loop Nl none 0 (Ue 21 0 [(2,.ref (.ptr 0 0)),(12,Oe (M7 140) [] [.ref (.ptr 1 0)])]) {toList:=[13,14]} (ar (sub Ph 0)) (af (sub Ph 0)),.var v0],.b false] (.c U8 (.c hr (.c (@Lp c (a.Uf) (a.To) l (v0)) (.c (show(!true)=false from rfl) .n)))) ?_ ?_<;>subst v0<;>(first|rfl|(simp only[hw];rfl))
theorem Lr(U8:Zd ((i:Int)<(l.length:Int))=false):(CW MJ U2 (eaH c0 l .ready []) false (sub QJ 0) {t:=ewT l i,h:=eaH c l .ready [],m:=[]} (.exit 0) (Xy 19 (eaH c l .ready []))):=by
 exact zx Xd [.b false] (.c U8 .n)
noncomputable abbrev V3(a:Int)(b:iF):aT:=eaH a (b.map MQ) .ready []
theorem ew_cw{c0:Int}{l:iF}(hl:am l):
  CW MJ U2 (V3 c0 l) false (.loop (sub QJ 0)) {t:=ewT (l.map MQ) 0,h:=(V3 c0 l),m:=[]} (.exit 0)
   (Xy 19 (eaH (l.foldl eaF c0) (l.map MQ) .ready [])):=by
 have:=PU (P:=MJ) (Γ:=U2) (h0:=(V3 c0 l)) (rd:=false) (c:=sub QJ 0) (σ:=Int) (ρ:=Empty) l (λf s=>.inl (eaF s f))
  (λi s=>{t:=ewT (l.map MQ) (i:Int),h:=(V3 s l),m:=[]}) (.exit 0) (λs=>(Xy 19 (eaH s (l.map MQ) .ready []))) (λr=>r.elim)
  (λ_ _=>True) (by simp) (λr=>r.elim) ?_ ?_ c0 trivial
 ·rw[aY] at this
  exact this
 ·intro i f s hf _
  have hi:=(MR.1 hf).1
  exact⟨λ_ _=>trivial,Lq (rowAt hf rfl) (UO _ hi) (Uo hi hl)⟩
 ·intro s _
  exact Lr (bl _ l)
theorem Dq{l:iF}(hl:am l):(Ev MJ U2 140 [.ref (.yl 3),.ref (.ptr 1 0)] (V3 c0 l) (.UI []) (V3 (l.foldl eaF c0) l)):=by
 have UE:=(@ew_cw (c0) (l) (hl))
 let v0:aT:=[.var [SW (ND eaF c0 l)],.var (WC l),.Ut,.loop Nl none 0 (zdY) za3 (ar (sub Ph 0)) (af (sub Ph 0))]
 exact Na (Ev.zet (h':=v0) (d:=NG []) UR [.sum [0,5,6,7] (NR 0) (Xy 19 v0)] (by kernel_rfl) (.c UE .n)) (by rfl) (by rfl)
theorem GQ{c0:Int}{l:iF}(hl:am l):CW MJ U2 [] false (sub Ph 0) {t:=eaT,h:=[.var [SW c0],.var (Wr l)],m:=[]} .normal
  {t:=eaT,h:=eaH (l.foldl eaF c0) (l.map MQ) .exhausted [],m:=[2]}:=by
 exact CW.rangeFunc (f:=140) (fi:=[]) (ca:=X0) UR (s:={t:=eaT,h:=[.var [SW c0],.var (Wr l)],m:=[]}) (g:=.tmp 12) (ps:=#[13,14]) (asg:=ar (sub Ph 0)) (body:=af (sub Ph 0)) rfl (by kernel_rfl) (Dq hl) rfl
def sX(l:iF):Int×Int:=match dN l != 0 with
 | true=>(0,dN l)
 | false=>(l.foldl eaF 0,0)
theorem Dr{l:iF}(hl:am l)(h:aT):(Ev MJ U2 32 (Wr l) h (.UI [SW (sX l).1,SW (sX l).2]) h):=by
 cases U5:dN l != 0
 ·have hl1:=(@GQ (0) (l) (hl))
  exact zD (NG [SW (ND eaF 0 l),SW 0]) [.val (SW (dN l)),.b false,.inl,.sum [2,12] (M6) {t:=zdY,h:=[.var [SW (ND eaF 0 l)],.var (WC l),.Ut,.loop NM none 0 (zdY) za3 (ar (sub Ph 0)) (af (sub Ph 0))],m:=[2]}] (.c (@dZ l hl (XQ 0)) (.c U5 (.c hl1 .n))) h (by simp only[sX,U5];first|done|rfl)
 ·exact zD (NG [SW 0,SW (dN l)]) (zax (dN l)) (.c (@dZ l hl (XQ 0)) (.c U5 .n)) h (by simp only[sX,U5];first|done|rfl)
end Go.Vi
