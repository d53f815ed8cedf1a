/- A part of the proof; no conditions of its own. -/
import Derived.Test.YtgalafpinkflfaaGreatDoorW13
open Bool renaming true->J,false->N
open Option renaming some->G,none->Y
open Go.Vi.SOp renaming frz->Λ
open Go.Vi.ql renaming var->eP,EZ->xx
open Go.Vi.D renaming agg->mS,any->CS,ref->gM
open Go.Vi.Ref renaming ptr->qn
open Decidable renaming decide -> fE
open List renaming map -> S2, take -> TU, drop -> TP, length_map -> Uw, all -> Tq, length -> S7, mem_map -> T2, mem_of_mem_drop -> Wz, mem_of_mem_take -> XR, map_append -> Uh, all_append -> VG, length_append -> Uk, length_nil -> VF, length_cons -> Ue
open Go.Vi.uT renaming row -> Tc
open Go.Vi.Β renaming row -> Tj
open Go.Vi.qH renaming row -> Ta
open Go.Proofs.Tryz renaming prog -> S5
open Go.Vi.Ev renaming zkr -> Tp
open Int renaming tmod -> TY, toNat -> S9
open Go.IntKind renaming wrap -> S8, i64 -> S6
open BitVec renaming toNat -> Tu, ofInt -> Tg
open Go.Vi.D renaming p -> Us, zbk -> TL, agg -> TF
open Bool renaming and_eq_true -> Tm
open Go.Value renaming okWide -> Wg
open Go Go.Proofs
namespace Go.Vi
set_option maxRecDepth 100000
set_option maxHeartbeats 4000000
abbrev ltA(w:eQ)(q:QuT)(bO:Int)(nw:bV)(f:qH)(at_:Int):bY:=[mS w.l,ag q.row,eO bO,ab (aA nw),ag f.row,eO at_]
noncomputable abbrev xD(w:eQ)(q:QuT)(f:qH):aT:=(zhG w q (ZV f))
theorem lt_out{w:eQ}{q:QuT}{bO at_:Int}{nw:bV}{f:qH}(k0:∀h,Ev S5 lL 8 [] h (eR J) h)(kf:∀h,Ev S5 ji 9 (zeu w nw) h (eR N) h)(h:aT):(Ev S5 lL 5 (ltA w q bO nw f at_) h (eR J) h):=y0 [.v (@k0 ((xD w q f))),.e,.v (Tp (Γ':=lL) (@kf ((xD w q f)))),.e] h
noncomputable abbrev xE(w:eQ)(q:QuT)(f:qH):aT:=(zhG w q (ZV f))
theorem lt_frm{w:eQ}{q:QuT}{bO at_:Int}{nw:bV}{f:qH}(hz:fE (f.lk<q.eF)=J)(k0:∀h,Ev S5 lL 8 [] h (eR J) h)(kf:∀h,Ev S5 ji 9 (zeu w nw) h (eR J) h)(h:aT):(Ev S5 lL 5 (ltA w q bO nw f at_) h (eR J) h):=y0 [.v (@k0 ((xE w q f))),.e,.v (Tp (Γ':=lL) (@kf ((xE w q f)))),.e,.b hz] h
abbrev ltI(w:eQ)(at_:Int):Int:=TY (S8 S6 ((Tu (Tg 64 at_ &&& Tg 64 1023):Nat):Int)) (S8 S6 (((S2 Ta w.f).length:Int)+1))
abbrev ltR(w:eQ)(f:qH)(i:Int):List (List Dp):=TU (S9 i-S9 0) (TP (S9 0) (S2 Ta w.f))++[[vi 5,vi f.sub,vi f.obj,vi f.value,vi f.lk,vi f.Z5,vi f.bO,vi f.no]]++TU (S9 ((S2 Ta w.f).length:Int)-S9 i) (TP (S9 i) (S2 Ta w.f))
theorem uU{w:eQ}(hf:w.f.length<=40)(at_:Int):0<=ltI w at_/\ltI w at_<=((S2 Ta w.f).length:Int):=by
 have h1:∀a b:BitVec 64,(a &&& b).toNat<=b.toNat:=λa b=>by rw[BitVec.toNat_and];exact Nat.and_le_right
 have h2:=h1 (Tg 64 at_) (Tg 64 1023);have h3:(Tg 64 1023).toNat=1023:=by decide
 unfold ltI;rw[Uw,wrap_i64 (n:=((w.f.length:Nat):Int)+1) lj lj,wrap_i64 lj lj];generalize (Tg 64 at_ &&& Tg 64 1023).toNat=n at *;rw[Int.tmod_eq_emod_of_nonneg lj];have h4:=Int.emod_nonneg (n:Int) (b:=(w.f.length:Int)+1) lj;have h5:=Int.emod_lt_of_pos (n:Int) (b:=(w.f.length:Int)+1) lj;omega
theorem JX{w:eQ}(hf:w.f.length<=40):(!fE (S8 S6 (((S2 Ta w.f).length:Int)+1)=0))=J:=by rw[Uw,wrap_i64 lj lj];simp;omega
theorem rows8(fs:AT):(Tq (S2 Ta fs) λr=>fE (S7 r=8))=J:=by simp[Ta]
theorem JY{w:eQ}{i:Int}(hi:0<=i/\i<=((S2 Ta w.f).length:Int)):(lO 0 i (S7 (S2 Ta w.f))&&J&&(J||true)&&Tq (S2 Ta w.f) λr=>fE (S7 r=8))=J:=by grind [rows8,lO]
theorem JZ{w:eQ}{i:Int}(hi:0<=i/\i<=((S2 Ta w.f).length:Int)):(lO i ((S2 Ta w.f).length:Int) (S7 (S2 Ta w.f))&&J&&(J||false)&&Tq (S2 Ta w.f) λr=>fE (S7 r=8))=J:=by grind [rows8,lO]
theorem J0(fs:AT)(n m:Nat):Tq (S2 (λx=>S2 Us x) (TU n (TP m (S2 Ta fs)))) (aL 8)=J:=by rw[List.all_eq_true];intro r hr;obtain⟨x,hx,rfl⟩:=T2.1 hr;obtain⟨f,_,rfl⟩:=T2.1 (Wz (XR hx));rfl
theorem tj{w:eQ}(hf:w.f.length<=40)(n m:Nat):(S2 (λx=>S2 Us x) (TU n (TP m (S2 Ta w.f)))).length<=40:=mW
theorem L9{n:Nat}(h:n<=1000):uO n 64=J:=by simp[uO];omega
abbrev ZD(a:qH):bY:=(zij 5 a)
noncomputable abbrev J1(w:eQ)(q:QuT)(at_:Int)(f:qH)(r:zar×Int):aT:=[eP (ZA w),eP (zad q),eP (ZD f),xx,.eY [(ZD f)] 0 8,eP [(ZX w),ab w.p,(ZY w),ab (ltR w f (ltI w at_))],eP (zao r),eP (zao r)]
noncomputable abbrev J2(w:eQ)(q:QuT)(at_:Int)(f:qH)(r:zar×Int):aT:=[eP (ZA w),eP (zad q),eP (ZD f),xx,.eY [(ZD f)] 0 8,eP [(ZX w),ab w.p,(ZY w),ab (ltR w f (ltI w at_))],eP (zao r)]
noncomputable abbrev J3(w:eQ)(q:QuT)(at_:Int)(f:qH):aT:=[eP (ZA w),eP (zad q),eP (ZD f),xx,.eY [(ZD f)] 0 8,eP [(ZX w),ab w.p,(ZY w),ab (ltR w f (ltI w at_))]]
noncomputable abbrev Bn(w:eQ)(q:QuT)(f:qH):aT:=(zhG w q (ZV f))
abbrev zhC(c d:Int)(e:eQ):List (bY):=S2 (λx=>S2 Us x) (TU (S9 c-S9 d) (TP (S9 d) (S2 Ta e.f)))
abbrev zjD(c:eQ)(d:Int):List (bY):=(zhC (↑(S7 (S2 Ta c.f)):Int) (TY (S8 S6 (↑(Tu (Tg 64 d &&& Tg 64 1023)):Int)) (S8 S6 ((↑(S7 (S2 Ta c.f)):Int)+1))) c)
abbrev zjJ(c:Int)(d:eQ):List (bY):=(zhC (TY (S8 S6 (↑(Tu (Tg 64 c &&& Tg 64 1023)):Int)) (S8 S6 ((↑(S7 (S2 Ta d.f)):Int)+1))) 0 d)
abbrev ZB(a:Int)(b:eQ)(c:qH):List (bY):=(zjJ a b)++[(zij 5 c)]++(zjD b a)
abbrev ZG(a:Int)(b:eQ):List (bY):=(zjJ a b)
abbrev ZH(a:eQ)(b:Int):List (bY):=(zjD a b)
abbrev zfy:D:=(gM (qn 0 3))
abbrev zim(a:eQ):D:=(TF [(ZX a),ab a.p,(ZY a)])
theorem lt_in{w:eQ}{q:QuT}{bO at_:Int}{nw:bV}{f:qH}{r:zar×Int}(hf:w.f.length<=40)(hz:fE (f.lk<q.eF)=N)(k0:∀h,Ev S5 lL 8 [] h (eR J) h)(kf:∀h,Ev S5 ji 9 (zeu w nw) h (eR J) h)(ka:∀h,Ev S5 lL 10 (qA w q bO nw) h (zaI r) h)(kb:∀h,Ev S5 lL 10 (zeb [ab (w.c.map Tc),ab w.p,ab (w.s.map Tj),ab (ltR w f (ltI w at_))] q bO nw) h (zaI r) h)(ks:∀h,Ev S5 ji 12 [mS r.1.l,mS r.1.l] h (eR J) h)(h:aT):(Ev S5 lL 5 (ltA w q bO nw f at_) h (eR J) h):=by refine yD (eR (r.2==r.2&&J)) [.v (@k0 ((Bn w q f))),.b (show(!true)=N from rfl),.v (Tp (Γ':=lL) (@kf ((Bn w q f)))),.b (show(!true)=N from rfl),.b hz,(show(!fE (S8 S6 ((↑(S7 (S2 Ta w.f)):Int)+1)=0))=J from ?_),(show(lO 0 (TY (S8 S6 (↑(Tu (Tg 64 at_ &&& Tg 64 1023)):Int)) (S8 S6 ((↑(S7 (S2 Ta w.f)):Int)+1))) (S7 (S2 Ta w.f))&&J&&(J||true)&&Tq (S2 Ta w.f) λr=>fE (S7 r=8))=J from ?_),(show(Tq (ZG at_ w) (aL 8)&&uO (S7 zdP+S7 (ZG at_ w)) 64)=J from(by first|assumption|rfl|(rw[ltR,Uh,Uh];rfl)|exact JX hf|exact JY (uU hf _)|exact JZ (uU hf _)|exact aD _ _|(rw[J0];exact L9 mW)|(simp only[VG,Tm];exact⟨aD _ _,rfl⟩)|(simp only[VG,Tm];exact⟨⟨aD _ _,rfl⟩,aD _ _⟩)|(refine(Tm _ _).mpr ⟨rfl,L9 ?_⟩;have:=tj hf;simp only[Uk,VF,Ue];grind))),(show(Tq [(ZD f)] (aL 8)&&uO (S7 (ZG at_ w)+S7 [(ZD f)]) 64)=J from(by first|assumption|rfl|(rw[ltR,Uh,Uh];rfl)|exact JX hf|exact JY (uU hf _)|exact JZ (uU hf _)|exact aD _ _|(rw[J0];exact L9 (by have:=tj hf;simp only[Uk,VF,Ue];grind))|(simp only[Tm];exact⟨aD _ _,rfl⟩)|(simp only[Tm];exact⟨⟨aD _ _,rfl⟩,aD _ _⟩)|(refine(Tm _ _).mpr ⟨rfl,L9 ?_⟩;grind))),(show(lO (TY (S8 S6 (↑(Tu (Tg 64 at_ &&& Tg 64 1023)):Int)) (S8 S6 ((↑(S7 (S2 Ta w.f)):Int)+1))) (↑(S7 (S2 Ta w.f)):Int) (S7 (S2 Ta w.f))&&J&&(J||false)&&Tq (S2 Ta w.f) λr=>fE (S7 r=8))=J from ?_),(show(Tq (ZH w at_) (aL 8)&&uO (S7 ((ZG at_ w)++[(ZD f)])+S7 (ZH w at_)) 64)=J from(by first|assumption|rfl|(rw[ltR,Uh,Uh];rfl)|exact JX hf|exact JY (uU hf _)|exact JZ (uU hf _)|exact aD _ _|(rw[J0];exact L9 (by have:=tj hf;grind))|(simp only[VG,Tm];exact⟨aD _ _,rfl⟩)|(simp only[VG,Tm];exact⟨⟨aD _ _,rfl⟩,aD _ _⟩)|(refine(Tm _ _).mpr ⟨rfl,L9 ?_⟩;have:=tj hf;simp only[Uk,VF,Ue];grind))),(show Tq [] (TL 3)=J from rfl),(show Tq [] (TL 4)=J from rfl),(show Tq [] (TL 4)=J from rfl),(show Tq (ZG at_ w) (TL 4)=J from ?_),(show Tq [] (TL 4)=J from rfl),(show Tq (ZG at_ w) (TL 5)=J from ?_),(show Tq [(ZD f)] (TL 5)=J from rfl),(show Tq [] (TL 5)=J from rfl),(show Tq ((ZG at_ w)++[(ZD f)]) (TL 5)=J from ?_),(show Tq [(ZD f)] (TL 5)=J from rfl),(show Tq [] (TL 5)=J from rfl),(show Tq (ZB at_ w f) (TL 5)=J from ?_),(show Tq [(ZD f)] (TL 5)=J from rfl),(show Tq [] (TL 5)=J from rfl),(show Tq (ZB at_ w f) (TL 6)=J from ?_),(show Tq [(ZD f)] (TL 6)=J from rfl),(show Tq [] (TL 6)=J from rfl),(show Tq (ZB at_ w f) (TL 6)=J from ?_),(show Tq [(ZD f)] (TL 6)=J from rfl),(show Tq [] (TL 6)=J from rfl),(show Tq [(ZD f)] (TL 3)=J from rfl),(show Tq [] (TL 4)=J from rfl),(show Tq [(ZD f)] (TL 4)=J from rfl),(show Tq (ZG at_ w) (TL 4)=J from ?_),(show Tq [(ZD f)] (TL 4)=J from rfl),(show Tq (ZG at_ w) (TL 5)=J from ?_),(show Tq [(ZD f)] (TL 5)=J from rfl),(show Tq [(ZD f)] (TL 5)=J from rfl),(show Tq ((ZG at_ w)++[(ZD f)]) (TL 5)=J from ?_),(show Tq [(ZD f)] (TL 5)=J from rfl),(show Tq [(ZD f)] (TL 5)=J from rfl),(show Tq (ZB at_ w f) (TL 5)=J from ?_),(show Tq [(ZD f)] (TL 5)=J from rfl),(show Tq [(ZD f)] (TL 5)=J from rfl),(show Tq (ZB at_ w f) (TL 6)=J from ?_),(show Tq [(ZD f)] (TL 6)=J from rfl),(show Tq [(ZD f)] (TL 6)=J from rfl),(show Tq (ZB at_ w f) (TL 6)=J from ?_),(show Tq [(ZD f)] (TL 6)=J from rfl),(show Tq [(ZD f)] (TL 6)=J from rfl),(show Tq [] (TL 4)=J from rfl),(show Tq (ZG at_ w) (TL 4)=J from ?_),(show Tq (ZG at_ w) (TL 5)=J from ?_),(show Tq [(ZD f)] (TL 5)=J from rfl),(show Tq ((ZG at_ w)++[(ZD f)]) (TL 5)=J from ?_),(show Tq [(ZD f)] (TL 5)=J from rfl),(show Tq (ZB at_ w f) (TL 5)=J from ?_),(show Tq [(ZD f)] (TL 5)=J from rfl),(show Tq (ZB at_ w f) (TL 6)=J from ?_),(show Tq [(ZD f)] (TL 6)=J from rfl),(show Tq (ZB at_ w f) (TL 6)=J from ?_),(show Tq [(ZD f)] (TL 6)=J from rfl),pe Θ,pe Θ,pe Θ,pe Θ,pe Θ,pe Θ,pe Θ,pe (zim w),pe (zim w),pe (zim w),pe (zim w),pe (zim w),pe (zim w),pe (zim w),pe zfy,pe zfy,(show @Eq (At) (G (ZU w)) (G (ZU w)) from rfl),(show @Eq (At) (G (ZU w)) (G (ZU w)) from rfl),pe (TF (ZD f)),pe (TF (ZD f)),pe (TF (ZD f)),pe zfy,pe zfy,pe zfy,pe zfy,pe zfy,(show @Eq (At) (G (ZU w)) (G (ZU w)) from rfl),(show @Eq (At) (G (ZU w)) (G (ZU w)) from rfl),(show @Eq (At) (G (ZU w)) (G (ZU w)) from rfl),(show @Eq (At) (G (ZU w)) (G (ZU w)) from rfl),(show @Eq (At) (G (ZU w)) (G (ZU w)) from rfl),(show (ZB at_ w f)=S2 (λx=>S2 Us x) (ltR w f (ltI w at_)) from ?_),pr [(ZD f)],.n 1,.a1 .zsU,.o (Λ 3 (ltR w f (ltI w at_))),.v (@ka ((J3 w q at_ f))),.v (@kb ((J2 w q at_ f r))),.w (r.2==r.2) (Tp (Γ':=lL) (@ks ((J1 w q at_ f r))))] h qk<;>(first|assumption|rfl|(rw[ltR,Uh,Uh];rfl)|exact JX hf|exact JY (uU hf _)|exact JZ (uU hf _)|exact aD _ _|(rw[J0];exact L9 (by have:=tj hf;simp only[Uk,VF,Ue];grind))|(simp only[VG,Tm];exact⟨aD _ _,rfl⟩)|(simp only[VG,Tm];exact⟨⟨aD _ _,rfl⟩,aD _ _⟩)|(refine(Tm _ _).mpr ⟨rfl,L9 ?_⟩;have:=tj hf;simp only[Uk,VF,Ue];grind))
theorem mX{w:eQ}(hw:w.ok0){ps:Is}(hp:w.okP ps)(k0:∀h,Ev S5 lL 8 [] h (eR J) h)(q:QuT){bO at_:Int}{nw:bV}{f:qH}(hg:f.ok)(h:aT):Ev S5 lL 5 (ltA w q bO nw f at_) h (eR J) h:=by
 obtain⟨c,hb,kf⟩:=uC hw hp nw;cases c with
 |false=>exact lt_out k0 kf h
 |true=>
  obtain⟨hk,hf,hnw⟩:=hb rfl;have hn:nw.length<=1000:=lj
  cases hz:fE (f.lk<q.eF) with
  |true=>exact lt_frm hz k0 kf h
  |false=>
   have hi:=uU hf at_;have e:∃x:eQ,x.ok/\x.f.length<=41/\x.okP ps/\JV q.eF w x/\x.l=[ab (w.c.map Tc),ab w.p,ab (w.s.map Tj),ab (ltR w f (ltI w at_))]:=by
    generalize ltI w at_=i at hi;refine⟨⟨w.c,w.p,w.s,w.f.take i.toNat++⟨5,f.sub,f.obj,f.value,f.lk,f.Z5,f.bO,f.no⟩::w.f.drop i.toNat⟩,⟨hk.c,hk.s,?_,hk.lc,hk.ls,?_⟩,?_,⟨hp.p,hp.k,hp.l,hp.m⟩,⟨rfl,rfl,rfl,_,_,_,(List.take_append_drop ..).symm,rfl,rfl,by simpa using hz⟩,?_⟩;·simp;omega
    ·intro a ha;rcases List.mem_append.1 ha with ha|ha
     ·exact hk.i a (XR ha)
     ·rcases List.mem_cons.1 ha with rfl|ha;·exact⟨⟨qk,qk⟩,hg.2⟩
      ·exact hk.i a (Wz ha)
    ·simp;omega
    ·simp only[eQ.l,Ta,Uh,List.map_cons,List.map_take,List.map_drop,Int.toNat_zero,List.drop_zero,Nat.sub_zero,Int.toNat_natCast,List.append_assoc,List.singleton_append];rw[List.take_of_length_le (l:=TP _ _) qk]
   obtain⟨x,hx,hxf,hxp,hl,hr⟩:=e;have ka:=λh=>qB hk lj hp (q:=q) (bO:=bO) hn h;have kb:=λh=>qB hx hxf hxp (q:=q) (bO:=bO) hn h;rw[hl.ans,qA,hr] at kb;exact lt_in hf hz k0 kf ka kb (λh=>A8 (zw hk lj hp q bO hn) h) h
theorem lm{w:eQ}(hw:w.ok0){ps:Is}(hp:w.okP ps){q:QuT}{bO at_:Int}{nw:bV}{f:qH}(hg:f.ok)(h:aT):Ev S5 lL 5 [mS w.l,ag q.row,eO bO,ab (aA nw),ag f.row,eO at_] h (eR J) h :=mX hw hp (λh=>Tp (qC h)) q hg h
open Go.ChangeShapes Go.WideShapes Go.ChangeAt Go.RowKit Go.Proofs.YtgalafpinkflfaaGreatDoor
set_option maxRecDepth 100000
theorem J4{H:Type}{enc:TypeId×Value->H}{W:World}{base:Nat}{v:Value}{d:DataW H}{p:List MemPlace}(Φ:Wg S5 W .any base 59 v) (h:DataW.Trod enc S5 W 0 (λ_=>true) true 59 v d p) (hw:(d.weights S5 59).all (· <= reachBytes)=true) :∃f:qH,f.ok/\Rel W (tf (λ_=>False) (λ_=>none) []) (λ_=>none) [] (ag f.row) v:=by unfold Wg at Φ;rw[Tryz.underlying59] at Φ;obtain⟨cs,rfl,_,_⟩:=Φ;obtain⟨fuel,hf⟩:=h;obtain⟨ds,h1,h2,_⟩:=gO FV kX fuel 59 _ d p (by decide) hf hw;obtain⟨f,rfl,hg⟩:=Bl h1;refine⟨f,hg,?_⟩;simp only[Rel];exact⟨cs,rfl,h2.Ξ⟩
end Go.Vi
