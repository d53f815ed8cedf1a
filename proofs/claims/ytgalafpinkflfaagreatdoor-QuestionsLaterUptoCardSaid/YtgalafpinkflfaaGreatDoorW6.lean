/- A part of the proof; no conditions of its own. -/
import Derived.Test.YtgalafpinkflfaaGreatDoorW5
open Bool renaming true->J,false->N
open Option renaming some->G,none->Y
open Go.Exit renaming normal->w8,exit->EY
open Go.Vi.η renaming st->E6,inl->Τ,ov->zfG
open Go.Vi.D renaming Pp->uN,ref->gM
open Go.LoopState renaming exhausted->zca,ready->EV,busy->Ρ
open Go.Vi.ql renaming var->eP,loop->Js,δ->NH,EZ->xx
open Go.Vi.SOp renaming frz->Λ,trim->zhZ,mask->IW
open Go.Vi.Ref renaming ptr->qn
open Decidable renaming decide -> fE
open Go.Proofs.Tryz renaming prog -> S5, f191 -> TD, f313 -> Xq, f192 -> Xy, f113 -> Wh
open List renaming getElem?_eq_some_iff -> Td, length -> S7, map -> S2, set -> UE, drop -> TP, getD -> Th, mem_of_getElem? -> T6, replicate -> Ti, drop_drop -> WY, length_drop -> VB, length_cons -> Ue, length_append -> Uk, length_singleton -> Xi, foldl_cons -> TG, mem_append -> U0, getElem_mem -> Yv
open Go.Vi.D renaming ref -> Wb, fn -> UL, Pp -> TT, zbk -> TL, θ -> Tz
open Prod.mk renaming injEq -> Tk
open Go.Vi.zj renaming row -> TA
open Go.LoopState renaming busy -> TX
open Go.Fn renaming func -> TM
open Int renaming toNat -> S9, tdiv -> TR, tdiv_eq_ediv_of_nonneg -> WQ, toNat_natCast -> UD, tmod -> TY
open Go.Operand renaming tmp -> VN, const -> Xs
open Go.Vi.ql renaming inn -> Tl
open Go.Vi.Ev renaming zkJ -> Tw
open Go.Vi.Iv renaming round -> Zy
open Nat renaming add_sub_cancel' -> XM
open Go.IntKind renaming i64 -> S6, wrap -> S8
open Option renaming map_some -> Vw, isNone_none -> Zc, map -> Ye
open Bool renaming and_self -> UV
open Go.Builtin renaming len -> Xb
open Go.Value renaming int -> Ux
open Go.Vi.MW renaming run -> XF, seq -> Zd
open BitVec renaming ofInt -> Tg, toNat -> Tu
open Go Go.Proofs
namespace Go.Vi
set_option maxRecDepth 100000
set_option maxHeartbeats 4000000
abbrev oN:=List zj
section
variable {l:bV} {b i e:Nat} {a u:Int} {h:aT}
theorem dX(hb:h[b]?=G (.eY (aq l) e 1))(ha:l[i]?=G a):aQ S5 h 3 (gM (.vp b e i 0))=G (eO a):=by
 have e1:(aq l)[i]?=G [eO a]:=by simp[aq,ha]
 unfold aQ;simp[hb,e1];rfl
theorem oI(hb:h[b]?=G (.eY (aq l) 0 1))(hi:i<l.length):aY S5 h 3 (gM (.vp b 0 i 0)) (eO a)=G (h.set b (.eY (aq (l.set i a)) 0 1)):=by
 have e1:(aq l)[i]?=G [eO l[i]]:=by simp[aq,hi]
 unfold aY;simp only[hb,e1,if_true];simp[aq,List.map_set];rfl
theorem vo(h0:0<=u)(ha:l[u.toNat]?=G a):Ps u (aq l).length=J:=by grind [Ps,aq]
theorem KP(ha:l[i]?=G a):i<l.length:=(Td.1 ha).1
theorem room8{n:Nat}(hn:n<=1000000000):uO n 8=J:=by simp[uO];omega
abbrev zgJ(b:Int):List (bY):=([[eO b]]:List (bY))
theorem vg_app(hb:h[b]?=G (.eY (aq l) e 1)){k:Nat}(hk:h[k]?=G (.eY [[eO a]] 0 1))(hl:l.length<=1000000):Ju S5 h .append [32,32] [gM (.eY b e),gM (.eY k 0)]=G (J,Wb (.eY b (e+1)),h.set b (.eY (aq (l++[a])) (e+1) 1)):=by
 have h1:(zgJ a).all (aL 1)=J:=rfl;have h2:uO ((aq l).length+1) 8=J:=room8 (by rw[ef];omega);have h3:(fS S5 32,S5.underlying 32,γ S5 3,bytesOf S5 3,eA S5 3)=(G 3,G (.slice 3),G 1,G 8,G [eO 0]):=Z
 simp only[Tk] at h3;obtain⟨h3,h4,h5,h6,h7⟩:=h3;simp[Ju,oQ,h3,h5,h6,h7,znT,Δ,hk,hb,h1,h2,lz]
theorem vs_app(hb:h[b]?=G (.eY (aq l) e 1)){k i n:Nat}(hk:h[k]?=G (.eY [[eO a]] 0 1))(hl:l.length<=1000000)(Pt:i+n=l.length):Ju S5 h .append [32,32] [gM (.vs b e i n Y),gM (.eY k 0)]=G (J,Wb (.eY b (e+1)),h.set b (.eY (aq (l.drop i++[a])) (e+1) 1)):=by
 have h1:(zgJ a).all (aL 1)=J:=rfl;have h2:uO (n+1) 8=J:=room8 lj;have h3:(fS S5 32,S5.underlying 32,γ S5 3,bytesOf S5 3,eA S5 3)=(G 3,G (.slice 3),G 1,G 8,G [eO 0]):=Z
 simp only[Tk] at h3;obtain⟨h3,h4,h5,h6,h7⟩:=h3;have h8:(aq l).drop i++[[eO a]]=aq (l.drop i++[a]):=by simp[aq,List.map_drop]
 simp[Ju,oQ,h3,h5,h6,h7,znT,Δ,hk,hb,h1,h2,ef,Pt,h8]
end
abbrev usT(v:Int):bY:=(zja v)
abbrev usU(v r u:Int):bY:=qm 59 0 [za3,zaZ,za6,(9,eO r),(10,eO u)]
abbrev zit:bY:=[gM (.eY 6 0)]
abbrev za4:bY:=zit
abbrev zgp:ql:=(.eY [[eO (-1)]] 0 1)
noncomputable abbrev ubH(es:oN)(A:bv)(fs:bV)(v to:Int)(by':bV)(l:bV)(e:Nat)(Q:D)(st:LoopState)(pd:On):aT:=usH es A fs v (zfm to) (eP za4) zgp (.eY (aq by') 0 1) (.eY (aq l) e 1) (eP [Q]) st pd
theorem BO{es:oN}{A:bv}{fs by' l:bV}{v to r u:Int}{e:Nat}{Q:D}:(CW S5 ji (ubH es A fs v to by' l e Q EV Y) J (ax (sub TD 1)) {t:=dD (usT v) [(40,eO r),(41,eO u)],h:=ubH es A fs v to by' l e Q EV Y,m:=[]} w8 {t:=usU v r u,h:=ubH es A fs v to by' l e Q EV Y,m:=[]}):=yx [E6 (IW [5,6,7,9,10])] []
theorem Rb{es:oN}{A:bv}{fs by' l:bV}{v to r u x:Int}{e:Nat}{Q:D}(h0:0<=u)(hx:by'[u.toNat]?=G x)(hg:fE (x>=0)=J):(CW S5 ji (ubH es A fs v to by' l e Q EV Y) J (ak (sub TD 1)) {t:=usU v r u,h:=ubH es A fs v to by' l e Q Ρ Y,m:=[]} w8 {t:=qm 59 0 [],h:=ubH es A fs v to by' l e Q Ρ Y,m:=[]}):=by refine yx zbN [(?_:Ps u (S7 (aq by'))=J),(?_:@Eq (At) (aQ S5 [.eY (aq fs) 0 1,xx,eP (zj6 (S2 TA es) A),eP [eO to],eP zit,.eY [[eO (-1)]] 0 1,.eY (aq by') 0 1,.eY (aq l) e 1,eP [Q],eP ziA,eP [eO v],NH,Js TX Y 0 (zhm v zj3) ziC (ax (sub TD 1)) (ak (sub TD 1))] 3 (gM (zdi 6 u))) (TO x)),.a1 (zdf 45 x),.b hg]<;>(first|exact vo h0 hx|exact dX rfl hx)
abbrev zjF(a:Nat)(b:Int):D:=(gM (.vp a 0 (S9 b) 0))
theorem ub_hit{es:oN}{A:bv}{fs by' l:bV}{v to r u x:Int}{e:Nat}{Q:D}(h0:0<=u)(hx:by'[u.toNat]?=G x)(hg:fE (x>=0)=N)(ht:(u==to)=J):(CW S5 ji (ubH es A fs v to by' l e Q EV Y) J (ak (sub TD 1)) {t:=usU v r u,h:=ubH es A fs v to by' l e Q Ρ Y,m:=[]} (EY 0) {t:=qm 59 0 [],h:=ubH es A fs v to (by'.set u.toNat r) l e Q Ρ Y,m:=[]}):=by let v0:aT:=[.eY (aq fs) 0 1,xx,eP (zj6 (S2 TA es) A),eP [eO to],eP zit,.eY [[eO (-1)]] 0 1,.eY (aq by') 0 1,.eY (aq l) e 1,eP [Q],eP ziA,eP [eO v],NH,Js TX Y 0 (zhm v zj3) ziC (ax (sub TD 1)) (ak (sub TD 1))];refine yx zbN [(?_:Ps u (S7 (aq by'))=J),(?_:@Eq (At) (aQ S5 v0 3 (zjF 6 u)) (TO x)),.a1 (zdf 45 x),.b hg,(?_:Ps u (S7 (aq by'))=J),(?_:@Eq (Option (aT)) (aY S5 v0 3 (gM (zdi 6 u)) (eO r)) (G [.eY (aq fs) 0 1,xx,eP [ab (S2 TA es),gM (.eY 0 0),ab A],eP [eO to],eP zit,.eY [[eO (-1)]] 0 1,.eY (aq (UE by' (S9 u) r)) 0 1,.eY (aq l) e 1,eP [Q],eP ziA,eP [eO v],NH,Js TX Y 0 (zhm v [gM (qn 9 0),gM (qn 10 0)]) ziC (ax (sub TD 1)) (ak (sub TD 1))])),.a1 (.oh 10050 D.any (ubH es A fs v to (UE by' (S9 u) r) l e Q TX Y)),.b ht]<;>subst v0<;>(first|exact vo h0 hx|exact dX rfl hx|exact oI rfl (KP hx))
abbrev zag(a:Int)(b:bY):bY:=(zhm a b)
abbrev zaF(a:oN)(b:Nat)(c:bv):bY:=[ab (S2 TA a),gM (.eY b 0),ab c]
abbrev zd9(a:Nat):D:=(gM (.eY 7 a))
abbrev zeq(a b:Nat):Nat×D:=(a,gM (.eY b 0))
abbrev zhP(a b c d:Int)(f:Ref):bY:=(S2 (kr ji (qm 59 0 [za3,zaZ,za6,(9,eO a),(10,eO b),(zeq 42 6),(43,eO b),(44,gM (zdi 6 b)),(45,eO c),(46,eR (fE (c>=0))),(zeq 47 6),(48,eO b),(49,eO a),(50,gM (zdi 6 b)),(51,eO b),(52,eO d),(53,eR (b==d)),(54,gM f),(55,eO b),(zeq 56 13)])) [VN 54,VN 56])
theorem ub_vec{es:oN}{A:bv}{fs by' l:bV}{v to r u x:Int}{e:Nat}(h0:0<=u)(hx:by'[u.toNat]?=G x)(hg:fE (x>=0)=N)(ht:(u==to)=N)(hl:l.length<=1000000):(CW S5 ji (ubH es A fs v to by' l e (zd9 e) EV Y) J (ak (sub TD 1)) {t:=usU v r u,h:=ubH es A fs v to by' l e (zd9 e) Ρ Y,m:=[]} w8 {t:=qm 59 0 [],h:=ubH es A fs v to (by'.set u.toNat r) (l++[u]) (e+1) (gM (.eY 7 (e+1))) Ρ Y,m:=[]}):=by let v1:bY:=(zaF es 0 A);let v2:=UE by' (S9 u) r;let v3:bY:=zbi;let v0:aT:=[.eY (aq fs) 0 1,xx,eP v1,eP [eO to],eP zit,.eY [[eO (-1)]] 0 1,.eY (aq by') 0 1,.eY (aq l) e 1,eP [gM (.eY 7 e)],eP ziA,eP [eO v],NH,Js TX Y 0 (zhm v v3) ziC (ax (sub TD 1)) (ak (sub TD 1))];refine yx (zgm 13) [(?_:Ps u (S7 (aq by'))=J),(?_:@Eq (At) (aQ S5 v0 3 (zjF 6 u)) (TO x)),.a1 (zdf 45 x),.b hg,(?_:Ps u (S7 (aq by'))=J),(?_:@Eq (Option (aT)) (aY S5 v0 3 (gM (zdi 6 u)) (eO r)) (G [.eY (aq fs) 0 1,xx,eP v1,eP [eO to],eP zit,.eY [[eO (-1)]] 0 1,.eY (aq v2) 0 1,.eY (aq l) e 1,eP [gM (.eY 7 e)],eP ziA,eP [eO v],NH,Js TX Y 0 (zhm v v3) ziC (ax (sub TD 1)) (ak (sub TD 1))])),.a1 (.oh 10050 D.any (ubH es A fs v to v2 l e (zd9 e) TX Y)),.b ht,(?_:@Eq (Option (Bool×D×aT)) (Ju S5 [.eY (aq fs) 0 1,xx,eP v1,eP [eO to],eP za4,.eY [[eO (-1)]] 0 1,.eY (aq v2) 0 1,.eY (aq l) e 1,eP (zbn 7 e),eP zbp,eP [eO v],NH,Js TX Y 0 (zag v v3) zci (ax (sub TD 1)) (ak (sub TD 1)),.eY [[eO u]] 0 1] Builtin.append [32,32] (zhP r u x to (.eY 7 e))) (G (J,Wb (.eY 7 (e+1)),[.eY (aq fs) 0 1,xx,eP v1,eP [eO to],eP za4,.eY [[eO (-1)]] 0 1,.eY (aq v2) 0 1,.eY (aq (l++[u])) (e+1) 1,eP (zbn 7 e),eP zbp,eP [eO v],NH,Js TX Y 0 (zag v v3) zci (ax (sub TD 1)) (ak (sub TD 1)),.eY [[eO u]] 0 1]))),(?_:Tl 13 (.eY (aq fs) 0 1)=J),bi 13 xx,bi 13 (eP v1),bi 13 (zfm to),bi 13 (eP za4),bi 13 zgp,(?_:Tl 13 (.eY (aq v2) 0 1)=J),(?_:Tl 13 (.eY (aq (l++[u])) (e+1) 1)=J),bi 13 (eP (zbn 7 (e+1))),bi 13 (eP zbp),bi 13 (zfm v),bi 13 NH,bi 13 (Js TX Y 0 (zag v v3) zci (ax (sub TD 1)) (ak (sub TD 1))),.a1 (.oh 57 (gM (.eY 7 (e+1))) (ubH es A fs v to v2 (l++[u]) (e+1) (zd9 e) TX Y++[.eY [[eO u]] 0 1]))]<;>subst v1 v2 v3 v0<;>(first|exact vo h0 hx|exact dX rfl hx|exact oI rfl (KP hx)|exact vg_app rfl rfl hl|exact cM _ _)
abbrev zbP(a b c:Nat):Ref:=(.vs 7 a b c Y)
abbrev zik(a b c:Nat):D:=(gM (zbP a b c))
theorem ub_vs{es:oN}{A:bv}{fs by' l:bV}{v to r u x:Int}{e i n:Nat}(h0:0<=u)(hx:by'[u.toNat]?=G x)(hg:fE (x>=0)=N)(ht:(u==to)=N)(hl:l.length<=1000000)(Pt:i+n=l.length):(CW S5 ji (ubH es A fs v to by' l e (zik e i n) EV Y) J (ak (sub TD 1)) {t:=usU v r u,h:=ubH es A fs v to by' l e (zik e i n) Ρ Y,m:=[]} w8 {t:=qm 59 0 [],h:=ubH es A fs v to (by'.set u.toNat r) (l.drop i++[u]) (e+1) (gM (.eY 7 (e+1))) Ρ Y,m:=[]}):=by let v1:bY:=(zaF es 0 A);let v2:=UE by' (S9 u) r;let v3:bY:=zbi;let v0:aT:=[.eY (aq fs) 0 1,xx,eP v1,eP [eO to],eP zit,.eY [[eO (-1)]] 0 1,.eY (aq by') 0 1,.eY (aq l) e 1,eP [gM (.vs 7 e i n Y)],eP ziA,eP [eO v],NH,Js TX Y 0 (zhm v v3) ziC (ax (sub TD 1)) (ak (sub TD 1))];refine yx (zgm 13) [(?_:Ps u (S7 (aq by'))=J),(?_:@Eq (At) (aQ S5 v0 3 (zjF 6 u)) (TO x)),.a1 (zdf 45 x),.b hg,(?_:Ps u (S7 (aq by'))=J),(?_:@Eq (Option (aT)) (aY S5 v0 3 (gM (zdi 6 u)) (eO r)) (G [.eY (aq fs) 0 1,xx,eP v1,eP [eO to],eP zit,.eY [[eO (-1)]] 0 1,.eY (aq v2) 0 1,.eY (aq l) e 1,eP [gM (.vs 7 e i n Y)],eP ziA,eP [eO v],NH,Js TX Y 0 (zhm v v3) ziC (ax (sub TD 1)) (ak (sub TD 1))])),.a1 (.oh 10050 D.any (ubH es A fs v to v2 l e (zik e i n) TX Y)),.b ht,(?_:@Eq (Option (Bool×D×aT)) (Ju S5 [.eY (aq fs) 0 1,xx,eP v1,eP [eO to],eP za4,.eY [[eO (-1)]] 0 1,.eY (aq v2) 0 1,.eY (aq l) e 1,eP [gM (zbP e i n)],eP zbp,eP [eO v],NH,Js TX Y 0 (zag v v3) zci (ax (sub TD 1)) (ak (sub TD 1)),.eY [[eO u]] 0 1] Builtin.append [32,32] (zhP r u x to (zbP e i n))) (G (J,Wb (.eY 7 (e+1)),[.eY (aq fs) 0 1,xx,eP v1,eP [eO to],eP za4,.eY [[eO (-1)]] 0 1,.eY (aq v2) 0 1,.eY (aq (TP i l++[u])) (e+1) 1,eP [gM (zbP e i n)],eP zbp,eP [eO v],NH,Js TX Y 0 (zag v v3) zci (ax (sub TD 1)) (ak (sub TD 1)),.eY [[eO u]] 0 1]))),(?_:Tl 13 (.eY (aq fs) 0 1)=J),bi 13 xx,bi 13 (eP v1),bi 13 (zfm to),bi 13 (eP za4),bi 13 zgp,(?_:Tl 13 (.eY (aq v2) 0 1)=J),(?_:Tl 13 (.eY (aq (TP i l++[u])) (e+1) 1)=J),bi 13 (eP (zbn 7 (e+1))),bi 13 (eP zbp),bi 13 (zfm v),bi 13 NH,bi 13 (Js TX Y 0 (zag v v3) zci (ax (sub TD 1)) (ak (sub TD 1))),.a1 (.oh 57 (gM (.eY 7 (e+1))) (ubH es A fs v to v2 (TP i l++[u]) (e+1) (zik e i n) TX Y++[.eY [[eO u]] 0 1]))]<;>subst v1 v2 v3 v0<;>(first|exact vo h0 hx|exact dX rfl hx|exact oI rfl (KP hx)|exact vs_app rfl rfl hl Pt|exact cM _ _)
noncomputable abbrev usX(es:oN)(A:bv)(fs:bV)(v to:Int)(B:bv)(by':bV)(l:bV)(e:Nat)(Q:D)(j:Int):AS:=usS es A fs v B (zfm to) (eP za4) zgp (.eY (aq by') 0 1) (.eY (aq l) e 1) (eP [Q]) j
theorem usl_a{es:oN}{A:bv}{fs by' by2 l l2:bV}{v to:Int}{e e2:Nat}{Q Q2:D}{B:bv}(hA:ao v A [.sl B] 1)(hcw:CW S5 ji (ubH es A fs v to by' l e Q .ready none) false (.loop (sub Xq 0)) (usX es A fs v to B by' l e Q 0) (.exit 0) {t:=qm 32 0 [],h:=ubH es A fs v to by2 l2 e2 Q2 .ready none,m:=[]}):(Ev S5 ji 313 (zdO 12 9 10) (ubH es A fs v to by' l e Q .ready none) (.Pp []) (ubH es A fs v to by2 l2 e2 Q2 .ready none)):=by have xd:=(@hcw);exact Tw (yF (h':=[.eY (aq fs) 0 1,.EZ,.var (zaF es 0 A),.var [eO to],.var za4,.eY [[eO (-1)]] 0 1,.eY (aq by2) 0 1,.eY (aq l2) e2 1,.var [Q2],.var zbp,.var [eO v],.δ,.loop LoopState.ready none 0 (Z7 v) zci (ax (sub TD 1)) (ak (sub TD 1))]) (d:=TT []) [.r hA,.s [0,1,2,12,13,14] xd]) (by rfl) (by rfl)
theorem usr_a{es:oN}{A:bv}{fs by' by2 l l2:bV}{v to:Int}{e e2:Nat}{Q Q2:D}{B:bv}(hA:ao v A [.sl B] 1)(hcw:CW S5 ji (ubH es A fs v to by' l e Q .ready none) false (.loop (sub Xq 0)) (usX es A fs v to B by' l e Q 0) .ret {t:=qm 32 0 [],h:=ubH es A fs v to by2 l2 e2 Q2 .done (some (.exit 0)),m:=[]}):(Ev S5 ji 313 (zdO 12 9 10) (ubH es A fs v to by' l e Q .ready none) (.Pp []) (ubH es A fs v to by2 l2 e2 Q2 .done (some (.exit 0)))):=by have xd:=(@hcw);exact Tw (yF (h':=[.eY (aq fs) 0 1,.EZ,.var (zaF es 0 A),.var [eO to],.var za4,.eY [[eO (-1)]] 0 1,.eY (aq by2) 0 1,.eY (aq l2) e2 1,.var [Q2],.var zbp,.var [eO v],.δ,.loop LoopState.done (some (Code.exit 0)) 0 (Z7 v) zci (ax (sub TD 1)) (ak (sub TD 1))]) (d:=TT []) [.r hA,.s [0,1,2,12,13,14] xd]) (by rfl) (by rfl)
structure QF where
 vs:Bool
 e:Nat
 i:Nat
 l:bV
def QF.d(q:QF):D:=match q.vs with
 |true=>.ref (zbP q.e q.i (q.l.length-q.i))
 |false=>.ref (.eY 7 q.e)
def QF.list(q:QF):bV:=match q.vs with
 |true=>q.l.drop q.i
 |false=>q.l
def QF.push(q:QF)(u:Int):QF:=⟨N,q.e+1,0,q.list++[u]⟩
def QF.Ok(q:QF)(k:Nat):Prop:=(q.vs=J->q.i<=q.l.length)/\q.l.length<=k
theorem QF.Ok.push{q:QF}{k:Nat}{u:Int}(h:q.Ok k):(q.push u).Ok (k+1):=by obtain⟨vs,e,i,l⟩:=q;obtain⟨h1,h2⟩:=h;refine⟨by simp[QF.push],?_⟩;grind [QF.push,QF.list]
theorem QF.Ok.le{q:QF}{k k':Nat}(h:q.Ok k)(hk:k<=k'):q.Ok k':=⟨h.1,Nat.le_trans h.2 hk⟩
noncomputable abbrev ubS(es:oN)(A:bv)(fs:bV)(v to:Int)(s:bV×QF)(st:LoopState)(pd:On):aT:=ubH es A fs v to s.1 s.2.l s.2.e s.2.d st pd
def usY(to r u:Int)(s:bV×QF):(bV×QF)⊕(bV×QF):=match fE (s.1.getD u.toNat 0>=0) with
 |true=>.inl s
 |false=>match u==to with
  |true=>.inr (s.1.set u.toNat r,s.2)
  |false=>.inl (s.1.set u.toNat r,s.2.push u)
section
variable {es:oN} {A:bv} {fs:bV} {v to r u:Int} {s s':bV×QF}
theorem ub_ivl(h0:0<=u)(hu:u.toNat<s.1.length)(hq:s.2.Ok 1000000)(h:usY to r u s=.inl s'):Iv S5 ji (.ref (.yl 12)) [eO r,eO u] (ubS es A fs v to s .ready none) (eR true) (ubS es A fs v to s' .ready none):=by
 have hx:s.1[u.toNat]? = some (s.1.getD u.toNat 0):=by simp[Th,hu]
 unfold usY at h;split at h;·rename_i hg;cases h;exact Zy (h1:=ubS es A fs v to s .ready none) rfl rfl BO rfl (Rb h0 hx hg) rfl
 ·rename_i hg;split at h;·cases h
  ·rename_i ht;cases h;obtain⟨by',vs,e,i,l⟩:=s;cases vs with
   | false=>exact Zy (h1:=ubH es A fs v to by' l e (zd9 e) .ready none) rfl rfl BO rfl (ub_vec h0 hx hg ht hq.2) rfl
   | true =>have hi:=hq.1 rfl;exact Zy (h1:=ubH es A fs v to by' l e (.ref (zbP e i (l.length-i))) .ready none) rfl rfl BO rfl (ub_vs h0 hx hg ht hq.2 (XM hi)) rfl
theorem ub_ivr(h0:0<=u)(hu:u.toNat<s.1.length)(h:usY to r u s=.inr s'):Iv S5 ji (.ref (.yl 12)) [eO r,eO u] (ubS es A fs v to s .ready none) (eR false) (ubS es A fs v to s' .done (some (.exit 0))):=by
 have hx:s.1[u.toNat]? = some (s.1.getD u.toNat 0):=by simp[Th,hu]
 unfold usY at h;split at h;·cases h
 ·rename_i hg;split at h;·rename_i ht;cases h;exact Zy (h1:=ubS es A fs v to s .ready none) rfl rfl BO rfl (ub_hit h0 hx hg ht) rfl
  ·cases h
end
def ixR(r:Int):Int:=S6.wrap (TR r 2)
def exA(es:oN)(r:Int):zj:=es.getD (ixR r).toNat ⟨0,0,0⟩
def fA(fs:bV)(r:Int):Int:=fs.getD (ixR r).toNat 0
def zii(es:oN)(fs:bV)(r:Int):Int:=fy r (exA es r) (fA fs r)
def gW(es:oN)(r:Int):Int:=yk r (exA es r)
def cG(m:Nat)(r:Int):Prop:=0<=r/\r<2*m
theorem lF{m:Nat}{r:Int}(h:cG m r)(hm:m<=1000000):ixR r=((r.toNat / 2:Nat):Int)/\r.toNat / 2<m:=by
 obtain⟨h1,h2⟩:=h;have e:TR r 2=((r.toNat / 2:Nat):Int):=by rw[WQ h1];omega
 refine⟨?_,lj⟩;unfold ixR;rw[e,wrap_i64 lj lj]
section
variable {es:oN} {fs:bV} {r:Int}
theorem G2(h:cG es.length r)(hm:es.length<=1000000):es[(ixR r).toNat]?=G (exA es r):=by obtain⟨h1,h2⟩:=lF h hm;unfold exA;grind
theorem G3(h:cG es.length r)(hm:es.length<=1000000)(hl:fs.length=es.length):fs[(ixR r).toNat]?=G (fA fs r):=by obtain⟨h1,h2⟩:=lF h hm;unfold fA;grind
theorem vq(h:cG es.length r)(hm:es.length<=1000000):ao (S6.wrap (TR r 2)) (es.map TA) (exA es r).row 3:=by obtain⟨h1,h2⟩:=lF h hm;have h3:=G2 h hm;show ao (ixR r) _ _ _;rw[h1] at h3 ⊢;rw[UD] at h3;exact rowAt h3 rfl
theorem qW{n:Nat}(h:cG es.length r)(hm:es.length<=1000000)(Pt:∀x∈es,ez n x):0<=gW es r/\(gW es r).toNat<n:=by have:=Pt _ (T6 (G2 h hm));obtain⟨a,b,c,d⟩:=this;grind [gW,yk]
end
def usG(es:oN)(fs:bV)(to r:Int)(s:bV×QF):(bV×QF)⊕(bV×QF):=match fE (zii es fs r>0) with
 |true=>usY to r (gW es r) s
 |false=>.inl s
noncomputable def usFin(es:oN)(A:bv)(fs:bV)(v to:Int):(bV×QF)⊕(bV×QF)->Exit×AS:=bf (.exit 0) (λs=>{t:=qm 32 0 [],h:=ubS es A fs v to s .ready none,m:=[]}) (λs=>(.ret,{t:=qm 32 0 [],h:=ubS es A fs v to s .done (some (.exit 0)),m:=[]}))
theorem Rc{to r u:Int}{s s':bV×QF}(h:usY to r u s=.inl s'){n k:Nat}(h1:s.1.length=n)(h2:s.2.Ok k):s'.1.length=n/\s'.2.Ok (k+1):=by
 unfold usY at h;split at h;·cases h;exact⟨h1,h2.le (by omega)⟩
 ·split at h;·cases h
  ·cases h;exact⟨by simpa using h1,h2.push⟩
theorem G4{es:oN}{A:bv}{fs:bV}{v to:Int}{n:Nat}(hl:fs.length=es.length)(hm:es.length<=65536)(Pt:∀x∈es,ez n x){B:bV}(hB:∀r∈B,cG es.length r)(hBl:B.length<=200000){s0:bV×QF} (h1:s0.1.length=n) (h2:s0.2.Ok 100000) :CW S5 ji (ubS es A fs v to s0 .ready none) false (.loop (sub Xq 0)) (usX es A fs v to (aA B) s0.1 s0.2.l s0.2.e s0.2.d 0) (usFin es A fs v to (xz (usG es fs to) B s0)).1 (usFin es A fs v to (xz (usG es fs to) B s0)).2:=by
 refine CW.each (P:=S5) (Γ:=ji) (h0:=ubS es A fs v to s0 .ready none) (rd:=false) (c:=sub Xq 0) (σ:=bV×QF) (ρ:=bV×QF) B (usG es fs to)
  (λj s=>usX es A fs v to (aA B) s.1 s.2.l s.2.e s.2.d (j:Int)) (.exit 0) (λs=>{t:=qm 32 0 [],h:=ubS es A fs v to s .ready none,m:=[]}) (λs=>(.ret,{t:=qm 32 0 [],h:=ubS es A fs v to s .done (some (.exit 0)),m:=[]}))
  (λj s=>s.1.length=n/\s.2.Ok (100000+j)) (by simp) (by simp) ?_ ?_ s0 ⟨h1,h2⟩
 ·rintro j r s hj ⟨g1,g2⟩;have hi:=(Td.1 hj).1;have hr:=hB r (T6 hj);have hq:=(lF hr (by omega)).1;have hql:=(lF hr (by omega)).2;have hx:=vq hr (by omega);have hf:=G3 (fs:=fs) hr (by omega) hl;have he:=qW hr (by omega) Pt;have zkW:=rowAt (row:=λn:Int=>[vi n]) hj rfl;have oA:=F1 (λn:Int=>[vi n]) hi;have hw:=sV (i:=j) hi (by omega);cases hc:fE (zii es fs r>0) with
  | false =>
   have e:usG es fs to r s=.inl s:=by unfold usG;rw[hc]
   rw[e];refine⟨λs' h=>?_,us_no (x:=exA es r) (f:=fA fs r) hq hx hf (by omega) zkW oA hw hc⟩;cases h;exact⟨g1,g2.le (by omega)⟩
  | true =>
   have e:usG es fs to r s=usY to r (gW es r) s:=by unfold usG;rw[hc]
   rw[e];have hu:(gW es r).toNat<s.1.length:=by omega
   cases hy:usY to r (gW es r) s with
   | inl s' =>refine⟨λs2 h=>?_,us_yes (x:=exA es r) (f:=fA fs r) hq hx hf (by omega) zkW oA hw hc rfl (ub_ivl (u:=gW es r) he.1 hu (g2.le (by omega)) hy)⟩;cases h;exact Rc hy g1 g2
   | inr s' =>refine⟨λs2 h=>(by cases h),us_stop (u:=0) (x:=exA es r) (f:=fA fs r) hq hx hf (by omega) zkW oA hc (ub_ivr (u:=gW es r) he.1 hu hy)⟩
 ·intro s _;exact Ra (aR (λn:Int=>[vi n]) B)
section
variable {es:oN} {A:bv} {fs:bV} {v to:Int}
abbrev zdD(a:oN)(b:Nat)(c:bv):bY:=[ab (a.map TA),gM (.eY b 0),ab c]
noncomputable abbrev Mu(es:oN)(A:bv)(fs:bV)(v to:Int)(by':bV)(l:bV)(e:Nat)(Q:D):aT:=[.eY (aq fs) 0 1,xx,eP (zdD es 0 A),eP [eO to],eP za4,.eY [[eO (-1)]] 0 1,.eY (aq by') 0 1,.eY (aq l) e 1,eP [Q],eP zbp,eP [eO v]]
noncomputable abbrev zhi(a:Int)(b:oN)(c:bv)(f:bV)(g:Int)(i:bV×QF):AS:={t:=usT a,h:=Mu b c f a g i.1 i.2.l i.2.e i.2.d,m:=[]}
theorem us_rfl{h0:aT}{n:Nat}(hl:fs.length=es.length)(hm:es.length<=65536)(Pt:∀x∈es,ez n x){B:bV}(hA:ao v A [.sl (aA B)] 1)(hB:∀r∈B,cG es.length r)(hBl:B.length<=200000){s0 s':bV×QF} (h1:s0.1.length=n) (h2:s0.2.Ok 100000) (hf:xz (usG es fs to) B s0=.inl s') :CW S5 ji h0 false (sub TD 1) (zhi v es A fs to s0) .normal {t:=usT v,h:=ubS es A fs v to s' .exhausted none,m:=[11]}:=by have:=G4 (A:=A) (v:=v) (to:=to) hl hm Pt hB hBl h1 h2;rw[hf] at this;exact CW.rangeFunc (f:=313) (fi:=[]) (ca:=zbi) τ (s:=(zhi v es A fs to s0)) (g:=.tmp 39) (ps:=#[40,41]) (asg:=ax (sub TD 1)) (body:=ak (sub TD 1)) rfl (by kernel_rfl) (usl_a hA this) rfl
theorem us_rfr{h0:aT}{n:Nat}(hl:fs.length=es.length)(hm:es.length<=65536)(Pt:∀x∈es,ez n x){B:bV}(hA:ao v A [.sl (aA B)] 1)(hB:∀r∈B,cG es.length r)(hBl:B.length<=200000){s0 s':bV×QF} (h1:s0.1.length=n) (h2:s0.2.Ok 100000) (hf:xz (usG es fs to) B s0=.inr s') :CW S5 ji h0 false (sub TD 1) (zhi v es A fs to s0) (.exit 0) {t:=usT v,h:=ubS es A fs v to s' .exhausted (some (.exit 0)),m:=[11]}:=by have:=G4 (A:=A) (v:=v) (to:=to) hl hm Pt hB hBl h1 h2;rw[hf] at this;exact CW.rangeFunc (f:=313) (fi:=[]) (ca:=zbi) τ (s:=(zhi v es A fs to s0)) (g:=.tmp 39) (ps:=#[40,41]) (asg:=ax (sub TD 1)) (body:=ak (sub TD 1)) rfl (by kernel_rfl) (usr_a hA this) rfl
end
section
variable {l:bV} {b i e n:Nat} {a u:Int} {h:aT}
theorem SW:(fS S5 32,S5.underlying 32,γ S5 3)=(G 3,G (.slice 3),G 1):=Z
theorem G5{c:BV}(hb:h[b]?=G (.eY (aq l) e 1)):Ju S5 h .len [32] [gM (.vs b e i n c)]=G (J,eO (n:Int),h):=by have h3:=SW;simp only[Tk] at h3;simp[Ju,vP,lR,hb,keep]
theorem Mv(hb:h[b]?=G (.eY (aq l) e 1)):Ju S5 h .len [32] (zbn b e)=G (J,eO (l.length:Int),h):=by have h3:=SW;simp only[Tk] at h3;simp[Ju,vP,lR,hb,keep,ef]
theorem vs_ia{c:BV}(hb:h[b]?=G (.eY (aq l) e 1))(hn:0<n):bm S5 h 32 (gM (.vs b e i n c)) (eO 0)=G (J,Wb (.vp b e i 0)):=by
 have h3:=SW;simp only[Tk] at h3;have h4:Ps 0 n=J:=by simp[Ps];omega
 simp[bm,ZK,h3.2.2,hb,h4]
theorem vg_ia(hb:h[b]?=G (.eY (aq l) e 1))(hn:0<l.length):bm S5 h 32 (gM (.eY b e)) (eO 0)=G (J,Wb (.vp b e 0 0)):=by
 have h3:=SW;simp only[Tk] at h3;have h4:Ps 0 l.length=J:=by simp[Ps];omega
 simp[bm,ZK,h3.2.2,hb,ef,h4]
theorem vs_sl(hb:h[b]?=G (.eY (aq l) e 1))(hn:0<n)(Pt:i+n=l.length):ej S5 h 32 (gM (.vs b e i n Y)) (G (eO 1)) Y Y=G (J,Wb (.vs b e (i+1) (n-1) Y)):=by
 have h3:=SW;simp only[Tk] at h3;have h4:lO 1 n n=J:=by simp[lO];omega
 have h5:¬((n:Int)=1/\¬(i+n=l.length/\True)):=by simp[Pt]
 simp only[ej,cZ,Dz,h3.2.1,h3.2.2,lR,hb,if_true,ξ,and_self,Vw,ZK,h4,gm,ef,UD,h5,if_false,UV,Zc,Bool.true_or];rfl
theorem vg_sl(hb:h[b]?=G (.eY (aq l) e 1))(hn:0<l.length):ej S5 h 32 (gM (.eY b e)) (G (eO 1)) Y Y=G (J,Wb (.vs b e 1 (l.length-1) Y)):=by
 have h3:=SW;simp only[Tk] at h3;have h4:lO 1 l.length l.length=J:=by simp[lO];omega
 have h5:¬((l.length:Int)=1/\¬True):=qk
 simp only[ej,cZ,Dz,h3.2.1,h3.2.2,lR,hb,if_true,ξ,Vw,ZK,h4,gm,ef,UD,h5,if_false,UV,Zc,Bool.true_or,and_true,Int.reduceEq];rfl
end
abbrev sT:bY:=qm 59 0 [za9,za3,zaZ,za6]
abbrev zht(a:bV)(b:bY)(c:Int)(d f:bV)(g:Nat)(h:bY):aT:=[.eY (aq a) 0 1,xx,eP b,eP [eO c],eP za4,.eY [[eO (-1)]] 0 1,.eY (aq d) 0 1,.eY (aq f) g 1,eP h]
abbrev sH(es:oN)(A:bv)(fs:bV)(to:Int)(by':bV)(l:bV)(e:Nat)(Q:D):aT:=(zht fs (zdD es 0 A) to by' l e [Q])
abbrev sS(es:oN)(A:bv)(fs:bV)(to:Int)(by':bV)(l:bV)(e:Nat)(Q:D):AS:={t:=sT,h:=sH es A fs to by' l e Q,m:=[]}
abbrev zeP:Do:=[E6 (IW [0,5,6,7])]
theorem sh_end{es:oN}{A:bv}{fs by' l:bV}{to:Int}{e i n:Nat}(hn:fE ((n:Int)>0)=N):(CW S5 ji (sH es A fs to by' l e (zik e i n)) N (sub TD 0) (sS es A fs to by' l e (zik e i n)) (EY 0) (sS es A fs to by' l e (zik e i n))):=by let v0:aT:=(zht fs (zaF es 0 A) to by' l e [gM (zbP e i n)]);exact yx zeP [((by subst v0;exact G5 rfl):@Eq (Option (Bool×D×aT)) (Ju S5 v0 Xb [32] (S2 (kr ji (qm 59 0 [(0,gM (qn 2 0)),(5,gM (qn 3 0)),(6,gM (qn 4 0)),(7,gM (qn 8 0)),(29,gM (.vs 7 e i n Y))])) [VN 29])) (G (J,eO (↑n:Int),v0))),.a1 (zfG 30 (zaS n)),.b hn]
abbrev zax(a:Int)(b:Ref)(c d f:Nat):At:=(Ye (kr ji (qm 59 0 [(zjy 0 2),(zjy 5 3),(zjy 6 4),(zjy 7 8),(8,eO a),(29,gM (b)),(30,eO (↑c:Int)),(31,eR (fE ((↑c:Int)>0))),(32,gM (b)),(33,gM (.vp 7 d f 0)),(34,eO a),(35,gM (b))])) (G (Xs (Ux S6 1))))
abbrev zgc(a b:Nat):D:=(gM (.vp 7 a b 0))
abbrev zh5(a:Ref):bY:=(S2 (kr ji (qm 59 0 [za9,za3,zaZ,za6,(29,gM a)])) [VN 29])
theorem sh_vs{es:oN}{A:bv}{fs by' by2 l l2:bV}{v to:Int}{e e2 i n:Nat}{Q2:D}(hn:fE ((n:Int)>0)=J)(hn0:0<n)(Pt:i+n=l.length)(hv:l[i]?=G v)(hcw:CW S5 ji (sH es A fs to by' l e (zik e i n)) N (sub TD 1) {t:=usT v,h:=Mu es A fs v to by' l e (zik e (i+1) (n-1)),m:=[]} w8 {t:=usT v,h:=ubH es A fs v to by2 l2 e2 Q2 zca Y,m:=[11]}):(CW S5 ji (sH es A fs to by' l e (zik e i n)) N (sub TD 0) (sS es A fs to by' l e (zik e i n)) w8 {t:=sT,h:=ubH es A fs v to by2 l2 e2 Q2 zca Y,m:=[11]}):=by have xd:=(@hcw);let v0:aT:=(zht fs (zaF es 0 A) to by' l e [gM (zbP e i n)]);refine yx zeP [(?_:@Eq (Option (Bool×D×aT)) (Ju S5 v0 Xb [32] (zh5 (zbP e i n))) (G (J,(zaS n),v0))),.a1 (zfG 30 (zaS n)),.b hn,(?_:@Eq (Option (Bool×D)) (bm S5 v0 32 (zik e i n) (eO 0)) (G (J,Wb (.vp 7 e i 0)))),(?_:@Eq (At) (aQ S5 v0 3 (zgc e i)) (TO v)),(?_:@Eq (Option (Bool×D)) (ej S5 v0 32 (zik e i n) (zax v (.vs 7 e i n Y) n e i) Y Y) (G (J,Wb (zbP e (i+1) (n-1))))),.a1 (zfG 33 (zgc e i)),.a1 (zdf 34 v),.a1 (zfG 36 (zik e (i+1) (n-1))),.a1 Τ,.s [0,5,6,7,8,39] xd]<;>subst v0<;>(first|exact G5 rfl|exact vs_ia rfl hn0|exact dX rfl hv|exact vs_sl rfl hn0 Pt)
theorem sh_vsx{es:oN}{A:bv}{fs by' by2 l l2:bV}{v to:Int}{e e2 i n:Nat}{Q2:D}(hn:fE ((n:Int)>0)=true)(hn0:0<n)(Pt:i+n=l.length)(hv:l[i]? = some v)(hcw:CW S5 ji (sH es A fs to by' l e (zik e i n)) false (sub TD 1) {t:=usT v,h:=Mu es A fs v to by' l e (zik e (i+1) (n-1)),m:=[]} (.exit 0) {t:=usT v,h:=ubH es A fs v to by2 l2 e2 Q2 .exhausted (some (.exit 0)),m:=[11]}):(CW S5 ji (sH es A fs to by' l e (zik e i n)) false (sub TD 0) (sS es A fs to by' l e (zik e i n)) (.exit 0) {t:=sT,h:=ubH es A fs v to by2 l2 e2 Q2 .exhausted (some (.exit 0)),m:=[11]}):=by have xd:=(@hcw);let v0:aT:=(zht fs (zaF es 0 A) to by' l e [.ref (zbP e i n)]);refine yx zeP [(?_:@Eq (Option (Bool×D×aT)) (Ju S5 v0 Xb [32] (zh5 (zbP e i n))) (some (true,(zaS n),v0))),.a1 (.ov 30 (zaS n)),.b hn,(?_:@Eq (Option (Bool×D)) (bm S5 v0 32 (zik e i n) (eO 0)) (some (true,Wb (.vp 7 e i 0)))),(?_:@Eq (At) (aQ S5 v0 3 (zgc e i)) (TO v)),(?_:@Eq (Option (Bool×D)) (ej S5 v0 32 (zik e i n) (zax v (.vs 7 e i n none) n e i) none none) (some (true,Wb (zbP e (i+1) (n-1))))),.a1 (.ov 33 (zgc e i)),.a1 (zdf 34 v),.a1 (.ov 36 (zik e (i+1) (n-1))),.a1 .inl,.s [0,5,6,7,8,39] xd]<;>subst v0<;>(first|exact G5 rfl|exact vs_ia rfl hn0|exact dX rfl hv|exact vs_sl rfl hn0 Pt)
theorem sh_vg{es:oN}{A:bv}{fs by' by2 l l2:bV}{v to:Int}{e e2:Nat}{Q2:D}(hn:fE ((l.length:Int)>0)=J)(hn0:0<l.length)(hv:l[0]?=G v)(hcw:CW S5 ji (sH es A fs to by' l e (zd9 e)) N (sub TD 1) {t:=usT v,h:=Mu es A fs v to by' l e (gM (zbP e 1 (l.length-1))),m:=[]} w8 {t:=usT v,h:=ubH es A fs v to by2 l2 e2 Q2 zca Y,m:=[11]}):(CW S5 ji (sH es A fs to by' l e (zd9 e)) N (sub TD 0) (sS es A fs to by' l e (zd9 e)) w8 {t:=sT,h:=ubH es A fs v to by2 l2 e2 Q2 zca Y,m:=[11]}):=by have xd:=(@hcw);let v0:aT:=(zht fs (zaF es 0 A) to by' l e (zbn 7 e));refine yx zeP [(?_:@Eq (Option (Bool×D×aT)) (Ju S5 v0 Xb [32] (zh5 (.eY 7 e))) (G (J,(zaS (S7 l)),v0))),.a1 (zfG 30 (zaS (S7 l))),.b hn,(?_:@Eq (Option (Bool×D)) (bm S5 v0 32 (zd9 e) (eO 0)) (G (J,Wb (.vp 7 e 0 0)))),(?_:@Eq (At) (aQ S5 v0 3 (zgc e 0)) (TO v)),(?_:@Eq (Option (Bool×D)) (ej S5 v0 32 (zd9 e) (zax v (.eY 7 e) (S7 l) e 0) Y Y) (G (J,Wb (zbP e 1 (S7 l-1))))),.a1 (zfG 33 (zgc e 0)),.a1 (zdf 34 v),.a1 (zfG 36 (gM (zbP e 1 (S7 l-1)))),.a1 Τ,.s [0,5,6,7,8,39] xd]<;>subst v0<;>(first|exact Mv rfl|exact vg_ia rfl hn0|exact dX rfl hv|exact vg_sl rfl hn0)
theorem sh_vgx{es:oN}{A:bv}{fs by' by2 l l2:bV}{v to:Int}{e e2:Nat}{Q2:D}(hn:fE ((l.length:Int)>0)=true)(hn0:0<l.length)(hv:l[0]? = some v)(hcw:CW S5 ji (sH es A fs to by' l e (zd9 e)) false (sub TD 1) {t:=usT v,h:=Mu es A fs v to by' l e (.ref (zbP e 1 (l.length-1))),m:=[]} (.exit 0) {t:=usT v,h:=ubH es A fs v to by2 l2 e2 Q2 .exhausted (some (.exit 0)),m:=[11]}):(CW S5 ji (sH es A fs to by' l e (zd9 e)) false (sub TD 0) (sS es A fs to by' l e (zd9 e)) (.exit 0) {t:=sT,h:=ubH es A fs v to by2 l2 e2 Q2 .exhausted (some (.exit 0)),m:=[11]}):=by have xd:=(@hcw);let v0:aT:=(zht fs (zaF es 0 A) to by' l e (zbn 7 e));refine yx zeP [(?_:@Eq (Option (Bool×D×aT)) (Ju S5 v0 Xb [32] (zh5 (.eY 7 e))) (some (true,(zaS (S7 l)),v0))),.a1 (.ov 30 (zaS (S7 l))),.b hn,(?_:@Eq (Option (Bool×D)) (bm S5 v0 32 (zd9 e) (eO 0)) (some (true,Wb (.vp 7 e 0 0)))),(?_:@Eq (At) (aQ S5 v0 3 (zgc e 0)) (TO v)),(?_:@Eq (Option (Bool×D)) (ej S5 v0 32 (zd9 e) (zax v (.eY 7 e) (S7 l) e 0) none none) (some (true,Wb (zbP e 1 (S7 l-1))))),.a1 (.ov 33 (zgc e 0)),.a1 (zdf 34 v),.a1 (.ov 36 (.ref (zbP e 1 (S7 l-1)))),.a1 .inl,.s [0,5,6,7,8,39] xd]<;>subst v0<;>(first|exact Mv rfl|exact vg_ia rfl hn0|exact dX rfl hv|exact vg_sl rfl hn0)
def cS:Code->Code
 |.scope c=>c
 |c=>c
theorem KQ(n:Nat):Ti n [eO (-1)]=aq (Ti n (-1)):=by simp[aq]
theorem Re{n:Nat}(h1:2<=n)(hn:n<=4096):Ev S5 ji 271 [gM (.eY 0 0),eO (n:Int)] zei zcO (zbb (aq (Ti n (-1)))):=by rw[<-KQ];exact rep_a h1 hn
abbrev qT(lk:Int):bY:=qm 59 0 [za9,(1,eO lk),za3,zaZ]
abbrev zeY(a:Int)(b:D):aT:=[eP [eO a],eP [b]]
theorem sr_0{es:oN}{A:bv}{fs:bV}{lk to:Int}:(CW S5 ji (fwH es A fs) N (cL (al TD)) {t:=cO TD (zbF 2 lk to),h:=fwH es A fs,m:=[]} w8
  {t:=qT lk,h:=fwH es A fs++(zeY to nq),m:=[]}):=by
 exact yx [E6 (IW [0,1,5,6])] []
abbrev zaO(a:oN)(b:bv)(c:bV)(d:Int)(e:bV):aT:=fwH a b c++[eP [eO d],eP zit,.eY [[eO (-1)]] 0 1,.eY (aq e) 0 1]
abbrev zgB:D:=(gM (.eY 6 0))
theorem sr_1{es:oN}{A:bv}{fs:bV}{lk to:Int}(h1:2<=A.length)(hn:A.length<=4096):(CW S5 ji (fwH es A fs++(zeY to nq)) N (cL (cS (cR (al TD)))) {t:=qT lk,h:=fwH es A fs++(zeY to nq),m:=[]} w8
  {t:=qT lk,h:=(zaO es A fs to (Ti A.length (-1))),m:=[]}):=by
 refine yx [E6 (IW [0,1,5,6])] [.c ((fX [5] (@Re (S7 A) h1 hn) ⟨?_,trivial⟩ ⟨?_,?_,trivial⟩):Ev S5 ji 271 [gM (.eY 5 0),eO (↑(S7 A):Int)] [.eY (aq fs) 0 1,xx,eP (zaF es 0 A),eP [eO to],eP [nq],.eY [[eO (-1)]] 0 1] zgB [.eY (aq fs) 0 1,xx,eP (zaF es 0 A),eP [eO to],eP [nq],.eY [[eO (-1)]] 0 1,.eY (aq (Ti (S7 A) (-1))) 0 1])]<;>(first|rfl|exact bq _ _)
theorem sr_2{es:oN}{A:bv}{fs by':bV}{lk to x:Int}(h0:0<=lk)(hx:by'[lk.toNat]?=G x):(CW S5 ji (zaO es A fs to by') N (cL (cR (cS (cR (al TD))))) {t:=qT lk,h:=(zaO es A fs to by'),m:=[]} w8
  {t:=qT lk,h:=(zaO es A fs to (by'.set lk.toNat (S6.wrap (((es.map TA).length:Int)*2)))),m:=[]}):=by
 let v0:=S7 (S2 TA es)
 refine yx [E6 (IW [0,1,5,6])] [(?_:Ps lk (S7 (aq by'))=J),(?_:@Eq (Option (aT)) (aY S5 [.eY (aq fs) 0 1,xx,eP (zaF es 0 A),eP [eO to],eP za4,.eY [[eO (-1)]] 0 1,.eY (aq by') 0 1] 3 (gM (zdi 6 lk)) (eO (S8 S6 ((↑v0:Int)*2)))) (G [.eY (aq fs) 0 1,xx,eP (zaF es 0 A),eP [eO to],eP za4,.eY [[eO (-1)]] 0 1,.eY (aq (UE by' (S9 lk) (S8 S6 ((↑v0:Int)*2)))) 0 1])),po (zcl 6),pe zcb,pe zcb,po (G (ab (S2 TA es))),(?_:Ps lk (S7 (aq by'))=J),pe (gM (zdi 6 lk)),.a1 (.oh 10026 D.any (zaO es A fs to (UE by' (S9 lk) (S8 S6 ((↑v0:Int)*2)))))]<;>subst v0<;>(first|exact vo h0 hx|exact oI rfl (KP hx))
theorem sr_3{es:oN}{A:bv}{fs by':bV}{lk to:Int}:(CW S5 ji (zaO es A fs to by') N (cL (cR (cR (cS (cR (al TD)))))) {t:=qT lk,h:=(zaO es A fs to by'),m:=[]} w8
  (sS es A fs to by' [lk] 0 (gM (.eY 7 0)))):=by
 exact yx zeP []
theorem sr_4{es:oN}{A:bv}{fs by' l:bV}{to:Int}{e:Nat}{Q:D}:(CW S5 ji (sH es A fs to by' l e Q) N (cR (cR (cR (cR (cR (cS (cR (al TD)))))))) (sS es A fs to by' l e Q) .ret (sS es A fs to by' l e Q)):=yx zeP []
def QF.pop(q:QF):QF:=match q.vs with
 |true=>⟨J,q.e,q.i+1,q.l⟩
 |false=>⟨J,q.e,1,q.l⟩
theorem QF.zmx{q:QF}{v:Int}{rest:bV}(h:q.list=v::rest):q.pop.list=rest:=by
 obtain⟨vs,e,i,l⟩:=q;cases vs with
 |true=>simp[QF.list,QF.pop] at h ⊢;rw[<-WY,h];rfl
 |false=>grind [QF.list,QF.pop]
inductive Bfs (adj:List (bV)) (es:oN) (fs:bV) (to:Int):Nat->bV×QF->bV×QF->Prop
 | done {s}:s.2.list=[]->Bfs adj es fs to 0 s s
 | stop {s v rest f}:s.2.list=v::rest->xz (usG es fs to) (adj.getD v.toNat []) (s.1,s.2.pop)=.inr f->Bfs adj es fs to 0 s f
 | step {s v rest s' f k}:s.2.list=v::rest->xz (usG es fs to) (adj.getD v.toNat []) (s.1,s.2.pop)=.inl s'->Bfs adj es fs to k s' f->Bfs adj es fs to (k+1) s f
def unm(l:bV):Nat:=l.countP λx=>fE (x<0)
structure SOk (n:Nat) (s:bV×QF):Prop where
 len:s.1.length=n
 i:s.2.vs=J->s.2.i<=s.2.l.length
 ne:s.2.vs=N->s.2.l≠[]
 mem:∀v∈s.2.list,0<=v/\v.toNat<n
 sz:s.2.l.length+unm s.1<=n+1
theorem G6{l:bV}{i:Nat}{r:Int}(hi:i<l.length)(hx:l.getD i 0<0)(hr:0<=r):unm (l.set i r)+1=unm l:=by
 have hg:l.getD i 0=l[i]:=by simp[Th,hi]
 rw[hg] at hx;unfold unm;grind
theorem SOk.pop{n:Nat}{s:bV×QF}(h:SOk n s){v:Int}{rest:bV}(hv:s.2.list=v::rest):SOk n (s.1,s.2.pop):=by
 have hp:=QF.zmx hv;refine⟨h.len,?_,?_,?_,?_⟩;·grind [QF.list,VB,Ue,QF.pop]
 ·grind [QF.pop]
 ·intro u hu;simp[hp] at hu;exact h.mem u mW
 ·have:s.2.pop.l=s.2.l:=by obtain⟨by',vs,e,i,l⟩:=s;cases vs<;>rfl
  simp only[this];exact h.sz
theorem SOk.usY{n:Nat}{to r u:Int}{s s':bV×QF}(h:SOk n s)(hr:0<=r)(h0:0<=u)(hu:u.toNat<n)(hy:usY to r u s=.inl s'):SOk n s':=by
 unfold Vi.usY at hy;split at hy;·grind
 ·rename_i hg;split at hy;·cases hy
  ·cases hy;have hx:s.1.getD u.toNat 0<0:=by simpa using hg
   have h1:=G6 (by grind) hx hr;have h2:s.2.list.length<=s.2.l.length:=by obtain⟨by',vs,e,i,l⟩:=s;cases vs<;>simp[QF.list]
   refine⟨by simpa using h.len,by simp[QF.push],by simp[QF.push],?_,?_⟩
   ·intro v hv;simp[QF.push,QF.list] at hv;rcases hv with hv|rfl
    ·exact h.mem v hv
    grind
   ·have h3:=h.sz;grind [QF.push,Uk,Xi]
theorem SOk.xz{es:oN}{fs:bV}{to:Int}{n:Nat}(hm:es.length<=65536)(Pt:∀x∈es,ez n x):∀(B:bV) (s s':bV×QF),(∀r∈B,cG es.length r)->SOk n s->xz (usG es fs to) B s=.inl s'->SOk n s'
 | [],s,s',_,h,hf=>by cases hf;exact h
 | r::B,s,s',hB,h,hf=>by
  simp[Vi.xz] at hf;have hr:=hB r (by simp);have he:=qW hr (by omega) Pt;split at hf
  ·rename_i s1 h1;refine SOk.xz hm Pt B s1 s' (λx hx=>hB x (by simp[hx])) ?_ hf;unfold usG at h1;split at h1;·exact h.usY hr.1 he.1 he.2 h1
   grind
  ·cases hf
section
variable {es:oN} {adj:List (bV)} {fs:bV} {to:Int} {n:Nat}
theorem BP{A:bv}{v:Int}{s:bV×QF}{pd:On}{X:Ctx}(hX:X.h=fwH es A fs){a:Act}{w:World}(hm:MB ji X {t:=sT,h:=ubS es A fs v to s zca pd,m:=[11]} a w):MB ji X (sS es A fs to s.1 s.2.l s.2.e s.2.d) a w:=by
 have h1:=MB.drop (b:=11) rfl hm;obtain⟨by',vs,e,i,l⟩:=s;cases vs with
 |true=>exact MB.sop (o:=zhZ 9) (φ:=[(aq fs).all (TL 9)=J,(zgJ (-1)).all (TL 9)=J,(aq by').all (TL 9)=J,(aq l).all (TL 9)=J]) (by rw[hX];rfl) ⟨cM _ _,rfl,cM _ _,cM _ _,trivial⟩ h1
 |false=>exact MB.sop (o:=zhZ 9) (φ:=[(aq fs).all (TL 9)=J,(zgJ (-1)).all (TL 9)=J,(aq by').all (TL 9)=J,(aq l).all (TL 9)=J]) (by rw[hX];rfl) ⟨cM _ _,rfl,cM _ _,cM _ _,trivial⟩ h1
theorem Rf(hl:fs.length=es.length)(hm:es.length<=65536)(hn:n<=4096)(Pt:∀x∈es,ez n x)(ha:adj.length=n)(hB:∀B∈adj,(∀r∈B,cG es.length r)/\B.length<=200000){X:Ctx}(hX:X.h=fwH es (jD adj) fs){k:Nat} {s f:bV×QF} (hf:Bfs adj es fs to k s f) (hs:SOk n s) :MW S5 ji X (.loop (sub TD 0)) (sS es (jD adj) fs to s.1 s.2.l s.2.e s.2.d) (Det (.exit 0) (sS es (jD adj) fs to f.1 f.2.l f.2.e f.2.d)):=by
 refine MW.loop (ι:=Nat×(bV×QF)) (λp=>sS es (jD adj) fs to p.2.1 p.2.2.l p.2.2.e p.2.2.d) (λ_=>(.exit 0,sS es (jD adj) fs to f.1 f.2.l f.2.e f.2.d)) (λp=>p.1) (λp=>Bfs adj es fs to p.1 p.2 f/\SOk n p.2) ?_ (k,s) ⟨hf,hs⟩;rintro⟨k,s⟩ ⟨hf,hs⟩;have key:∀{v:Int} {rest:bV},s.2.list=v::rest->ao v (jD adj) [.sl (aA (adj.getD v.toNat []))] 1/\(∀r∈adj.getD v.toNat [],cG es.length r)/\(adj.getD v.toNat []).length<=200000/\(s.1,s.2.pop).2.Ok 100000:=by
  intro v rest hv;obtain⟨v0,v1⟩:=hs.mem v (by rw[hv];simp);have hg:adj[v.toNat]? = some (adj.getD v.toNat []):=by simp[Th,ha,v1]
  obtain⟨b1,b2⟩:=hB _ (T6 hg);have hr:=rowAt (row:=λB:bV=>[Dp.sl (nV B)]) (sz:=1) hg rfl;rw[Int.toNat_of_nonneg v0] at hr;have hp:=hs.pop hv;exact⟨hr,b1,b2,hp.i,by have:=hp.sz;grind⟩
 cases hf with
 | done he =>
  refine .inr ⟨by simp,?_⟩;obtain⟨by',vs,e,i,l⟩:=s;cases vs with
  | true =>
   have h0:l.length-i=0:=by have:=congrArg S7 he;simpa[QF.list] using this
   have:=sh_end (es:=es) (A:=jD adj) (fs:=fs) (by':=by') (l:=l) (to:=to) (e:=e) (i:=i) (n:=l.length-i) (by simp[h0]);exact XF this ⟨rfl,rfl⟩
  | false=>exact absurd he (hs.ne rfl)
 | stop hv hg =>
  rename_i v rest;obtain⟨r1,r2,r3,r4⟩:=key hv;refine .inr ⟨by simp,?_⟩;have hcw:=us_rfr (A:=jD adj) (s0:=(s.1,s.2.pop)) (h0:=sH es (jD adj) fs to s.1 s.2.l s.2.e s.2.d) hl hm Pt r1 r2 r3 hs.len r4 hg;refine MW.then (e:=.exit 0) (s1:={t:=sT,h:=ubS es (jD adj) fs v to f .exhausted (some (.exit 0)),m:=[11]}) ?_ (λa w hmb=>BP hX hmb) ⟨rfl,rfl⟩;obtain⟨by',vs,e,i,l⟩:=s;cases vs with
  | true =>
   simp[QF.list] at hv;have hlen:=congrArg S7 hv;simp at hlen;have hi:i<=l.length:=hs.i rfl;have hv0:l[i]? = some v:=by have:=congrArg (λx=>x[0]?) hv;simpa using this
   exact XF (sh_vsx (i:=i) (l:=l) (n:=l.length-i) (by simp;omega) (by omega) (XM hi) hv0 hcw) ⟨rfl,rfl⟩
  | false =>
   simp[QF.list] at hv;have hv0:l[0]? = some v:=by rw[hv];rfl
   have hlen:0<l.length:=by rw[hv];simp
   exact XF (sh_vgx (by grind) hlen hv0 hcw) ⟨rfl,rfl⟩
 | step hv hg hk =>
  rename_i v rest s' k';obtain⟨r1,r2,r3,r4⟩:=key hv;refine .inl ⟨(k',s'),⟨hk,SOk.xz hm Pt _ _ _ r2 (hs.pop hv) hg⟩,by simp,rfl,?_⟩;have hcw:=us_rfl (A:=jD adj) (s0:=(s.1,s.2.pop)) (h0:=sH es (jD adj) fs to s.1 s.2.l s.2.e s.2.d) hl hm Pt r1 r2 r3 hs.len r4 hg;refine MW.then (e:=.normal) (s1:={t:=sT,h:=ubS es (jD adj) fs v to s' .exhausted none,m:=[11]}) ?_ (λa w hmb=>BP hX hmb) ⟨rfl,rfl⟩;obtain⟨by',vs,e,i,l⟩:=s;cases vs with
  | true =>
   simp[QF.list] at hv;have hlen:=congrArg S7 hv;simp at hlen;have hi:i<=l.length:=hs.i rfl;have hv0:l[i]? = some v:=by have:=congrArg (λx=>x[0]?) hv;simpa using this
   exact XF (sh_vs (i:=i) (l:=l) (n:=l.length-i) (by simp;omega) (by omega) (XM hi) hv0 hcw) ⟨rfl,rfl⟩
  | false =>
   simp[QF.list] at hv;have hv0:l[0]? = some v:=by rw[hv];rfl
   have hlen:0<l.length:=by rw[hv];simp
   exact XF (sh_vg (by grind) hlen hv0 hcw) ⟨rfl,rfl⟩
end
theorem MW.label{P:Program}{Γ:au}{X:Ctx}{k:Nat}{s:AS}{Q:Exit->AS->Prop}(h:Q w8 s):MW P Γ X (.label k) s Q:=λ_ _ hs=>wpIn_label ⟨qk,s,h,hs⟩
noncomputable abbrev cQ:Code:=cS (cR (al TD))
theorem KR:al TD=.seq (cL (al TD)) (.scope (.seq (cL cQ) (.seq (cL (cR cQ)) (.seq (cL (cR (cR cQ))) (.seq (.label 0) (.seq (.block 0 (.loop (sub TD 0))) (cR (cR (cR (cR (cR cQ))))))))))):=by kernel_rfl
def by0(n m:Nat)(lk:Int):bV:=(Ti n (-1)).set lk.toNat (S6.wrap ((m:Int)*2))
theorem BQ{es:oN}{adj:List (bV)}{fs:bV}{lk to:Int}{n:Nat}(hl:fs.length=es.length)(hm:es.length<=65536)(h2:2<=n)(hn:n<=4096)(Pt:∀x∈es,ez n x)(ha:adj.length=n)(hB:∀B∈adj,(∀r∈B,cG es.length r)/\B.length<=200000)(hfr:0<=lk/\lk.toNat<n){k:Nat}{f:bV×QF}(hf:Bfs adj es fs to k (by0 n es.length lk,⟨N,0,0,[lk]⟩) f) :Ev S5 ji 191 (zbF 2 lk to) (fwH es (jD adj) fs) zgB (zaO es (jD adj) fs to (f.1)):=by
 have hA:(jD adj).length=n:=by simpa using ha
 have znW:(Ti (jD adj).length (-1:Int))[lk.toNat]?=G (-1):=by rw[List.getElem?_replicate,if_pos mW]
 have hby:(Ti (jD adj).length (-1:Int)).set lk.toNat (S6.wrap (((es.map TA).length:Int)*2))=by0 n es.length lk:=by unfold by0;rw[hA,List.length_map]
 have hs0:SOk n (by0 n es.length lk,⟨N,0,0,[lk]⟩):=by
  refine⟨by simp[by0],qk,qk,?_,?_⟩;·grind [QF.list,List.mem_singleton]
  ·grind [by0,Xi,unm]
 refine Ev.of_mb (fn:=TD) (c:=al TD) (e:=.ret) (s:={t:=qm 59 0 [zaZ],h:=(zaO es (jD adj) fs to (f.1)),m:=[]}) rfl rfl ?_
  ⟨.inr rfl,rfl,List.nodup_nil,za4,rfl,rfl,rfl⟩
 intro X hX;rw[KR];refine Zd (XF sr_0 ?_);show MW _ _ _ _ _ _;refine MW.scope (Zd (XF (sr_1 lj lj) ?_));show MW _ _ _ _ _ _;refine Zd (XF (sr_2 hfr.1 znW) ?_);show MW _ _ _ _ _ _;rw[hby];refine Zd (XF sr_3 ?_);show MW _ _ _ _ _ _;refine Zd (MW.label ?_);show MW _ _ _ _ _ _;refine Zd (MW.block (MW.mono (Rf hl hm lj Pt ha hB hX hf hs0) ?_));rintro e s ⟨rfl,rfl⟩;show MW _ _ _ _ _ _;refine MW.then (XF sr_4 ⟨rfl,rfl⟩) (λa w hmb=>?_) ⟨qk,rfl,rfl⟩;have h3:=MB.sop (o:=IW [6]) (φ:=[]) rfl trivial hmb;exact MB.sop (o:=zhZ 7) (φ:=[(aq fs).all (TL 7)=J,(zgJ (-1)).all (TL 7)=J,(aq f.1).all (TL 7)=J]) (by rw[hX];rfl) ⟨cM _ _,rfl,cM _ _,trivial⟩ h3
def dmnI(a b:Int):Int:=if b<a then b else a
abbrev ZP(a b:Int)(c:bV)(d:bY)(e:bV)(f:ql):aT:=[eP [eO a],eP [eO b],.eY (aq c) 0 1,xx,eP d,eP (zjG 4),eP [eO b],eP [gM (.eY 9 0)],.eY [[eO (-1)]] 0 1,.eY (aq e) 0 1,eP [gM (.eY 9 0)],f]
abbrev mH(es:oN)(A:bv)(fs:bV)(lk to:Int)(by':bV)(least:Int):aT :=(ZP lk to fs [ab (es.map TA),gM (.eY 2 0),ab A] by' (eP [eO least]))
abbrev zhQ(a b:Int)(c:bV)(d:oN)(e:bv)(f:bV)(g:Int):aT:=(ZP a b c [ab (S2 TA d),gM (.eY 2 0),ab e] f (eP [eO g]))
noncomputable abbrev qX(es:oN)(A:bv)(fs:bV)(by':bV)(lk:Int)(to:Int)(least:Int):aT:=(zhQ lk to fs es A by' least)
abbrev ZM(a b:Int):D:=(zia N a b)
abbrev za5:bY:=[gM (.eY 9 0)]
theorem KS{es:oN}{A:bv}{fs by':bV}{lk to least r f:Int}{x:zj}{q:Nat}(hq:S6.wrap (TR r 2)=(q:Int))(hx:ao (S6.wrap (TR r 2)) (es.map TA) x.row 3)(hf:fs[S9 (S6.wrap (TR r 2))]?=G f)(hl:q<fs.length):(Ev S5 ji 194 [eO r,gM (qn 11 0),gM (qn 5 0)] (mH es A fs lk to by' least) (uN []) (mH es A fs lk to by' (dmnI least (fy r x f)))):=by refine Tw (yF (h':=[eP [eO lk],eP [eO to],.eY (aq fs) 0 1,xx,eP (zaF es 2 A),eP zbe,eP [eO to],eP za5,.eY [[eO (-1)]] 0 1,.eY (aq by') 0 1,eP za5,eP [(ZM (fy r x f) least)]]) (d:=TT []) [.v ((fX [2,3,4] (@BM es A fs r f x q hq hx hf hl) ⟨?_,trivial⟩ ⟨?_,trivial⟩):Ev S5 ji 195 [gM (qn 4 0),eO r] (qX es A fs by' lk to least) (eO (fy r x f)) (qX es A fs by' lk to least)),po (TO least),po (TO least),po (G zfV)]) Fb Fb<;>(exact bq _ _)
theorem Rg{es:oN}{A:bv}{fs:bV}{r f d:Int}{q:Nat}(hq:S6.wrap (TR r 2)=(q:Int))(hf:fs[S9 (S6.wrap (TR r 2))]?=G f)(hl:q<fs.length)(hl2:S9 (S6.wrap (TR r 2))<fs.length):Ev S5 ji 197 (zbF 2 r d) (fwH es A fs) (uN []) (fwH es A (fs.set (S9 (S6.wrap (TR r 2))) (S6.wrap (f+lD r d)))):=push_a hq hf hl hl2
noncomputable abbrev nK(es:oN)(A:bv)(fs:bV)(by':bV)(lk:Int)(to:Int)(least:Int)(r:Int)(f:Int):aT:=(zhQ lk to (zjE fs r f least) es A by' least)
noncomputable abbrev ym(es:oN)(A:bv)(fs:bV)(by':bV)(lk:Int)(to:Int)(least:Int):aT:=(zhQ lk to fs es A by' least)
theorem G7{es:oN}{A:bv}{fs by':bV}{lk to least r f:Int}{q:Nat}(hq:S6.wrap (TR r 2)=(q:Int))(hf:fs[S9 (S6.wrap (TR r 2))]?=G f)(hl:q<fs.length)(hl2:S9 (S6.wrap (TR r 2))<fs.length):(Ev S5 ji 196 [eO r,gM (qn 5 0),gM (qn 11 0)] (mH es A fs lk to by' least) (uN []) (mH es A (fs.set (S9 (S6.wrap (TR r 2))) (S6.wrap (f+lD r least))) lk to by' least)):=by refine Tw (yF (h':=(nK es A fs by' lk to least r f)) (d:=TT []) [.c ((fX [2,3,4] (@Rg es A fs r f least q hq hf hl hl2) ⟨?_,trivial⟩ ⟨?_,trivial⟩):Ev S5 ji 197 [gM (qn 4 0),eO r,eO least] (ym es A fs by' lk to least) (TT []) (nK es A fs by' lk to least r f))]) Fb Fb<;>(exact bq _ _)
def xr(r:Int):Int:=S6.wrap (Tg S6.bits r ^^^ Tg S6.bits 1).toNat
abbrev aS(es:oN)(A:bv)(fs:bV)(lk to:Int)(by':bV)(least v:Int)(d:D):AS:={t:=qm 24 0 [(0,d),(1,gM (qn 1 0)),zaU,(3,gM (qn 5 0)),(4,gM (qn 10 0)),(6,eO v)],h:=mH es A fs lk to by' least,m:=[]}
abbrev d72:D:=.fn (.func 194) [] [gM (qn 11 0),gM (qn 5 0)]
abbrev d74:D:=.fn (.func 196) [] [gM (qn 5 0),gM (qn 11 0)]
theorem BR{es:oN}{A:bv}{fs gs by':bV}{lk to l0 least v:Int}{d:D}(hv:(v != lk)=N):(CW S5 ji (mH es A gs lk to by' l0) N (sub Xy 0) (aS es A fs lk to by' least v d) (EY 0) (zev 24 (mH es A fs lk to by' least))):=yx zbN [.b hv]
noncomputable abbrev j2(es:oN)(A:bv)(fs:bV)(by':bV)(lk:Int)(to:Int)(least:Int)(r:Int)(f:Int)(x:zj):aT:=(zhQ lk to fs es A by' (dmnI least (fy r x f)))
noncomputable abbrev Ac(es:oN)(A:bv)(fs:bV)(by':bV)(lk:Int)(to:Int)(least:Int):aT:=(zhQ lk to fs es A by' least)
abbrev zgX(a:Int):bY:=[gM (qn 4 0),eO (S8 S6 (↑(Tu (Tg 64 a ^^^ Tg 64 1)):Int))]
theorem KT{es:oN}{A:bv}{fs gs by':bV}{lk to l0 least v r f:Int}{x y:zj}{q:Nat}(hv:(v != lk)=J)(h0:0<=v)(hb:by'[v.toNat]?=G r)(hq:S6.wrap (TR r 2)=(q:Int))(hx:ao (S6.wrap (TR r 2)) (es.map TA) x.row 3)(hf:fs[S9 (S6.wrap (TR r 2))]?=G f)(hl:q<fs.length)(hy:ao (S6.wrap (TR (xr r) 2)) (es.map TA) y.row 3):(CW S5 ji (mH es A gs lk to by' l0) N (sub Xy 0) (aS es A fs lk to by' least v d72) w8 (aS es A fs lk to by' (dmnI least (fy r x f)) (yk (xr r) y) d72)):=by refine yx [E6 (IW [0,1,2,3,4,6])] [.b hv,(?_:Ps v (S7 (aq by'))=J),(?_:@Eq (At) (aQ S5 (Ac es A fs by' lk to least) 3 (zjF 9 v)) (TO r)),.a1 (zdf 22 r),.c (@KS es A fs by' lk to least r f x q hq hx hf hl),(?_:Ps v (S7 (aq by'))=J),(?_:@Eq (At) (aQ S5 (j2 es A fs by' lk to least r f x) 3 (zjF 9 v)) (TO r)),.a1 (zdf 15 r),.v ((fX [2,3,4] (@BN es A fs (S8 S6 (↑(Tu (Tg 64 r ^^^ Tg 64 1)):Int)) y hy) ⟨(by exact bq _ _),trivial⟩ ⟨(by exact bq _ _),trivial⟩):Ev S5 ji 193 (zgX r) (j2 es A fs by' lk to least r f x) (eO (yk (S8 S6 (↑(Tu (Tg 64 r ^^^ Tg 64 1)):Int)) y)) (j2 es A fs by' lk to least r f x))]<;>(first|exact vo h0 hb|exact dX rfl hb)
noncomputable abbrev nf(es:oN)(A:bv)(fs:bV)(by':bV)(lk:Int)(to:Int)(least:Int)(r:Int)(f:Int):aT:=(zhQ lk to (zjE fs r f least) es A by' least)
noncomputable abbrev Dl(es:oN)(A:bv)(fs:bV)(by':bV)(lk:Int)(to:Int)(least:Int):aT:=(zhQ lk to fs es A by' least)
theorem Rh{es:oN}{A:bv}{fs gs by':bV}{lk to l0 least v r f:Int}{y:zj}{q:Nat}(hv:(v != lk)=J)(h0:0<=v)(hb:by'[v.toNat]?=G r)(hq:S6.wrap (TR r 2)=(q:Int))(hf:fs[S9 (S6.wrap (TR r 2))]?=G f)(hl:q<fs.length)(hl2:S9 (S6.wrap (TR r 2))<fs.length)(hy:ao (S6.wrap (TR (xr r) 2)) (es.map TA) y.row 3):(CW S5 ji (mH es A gs lk to by' l0) N (sub Xy 0) (aS es A fs lk to by' least v d74) w8 (aS es A (fs.set (S9 (S6.wrap (TR r 2))) (S6.wrap (f+lD r least))) lk to by' least (yk (xr r) y) d74)):=by refine yx [E6 (IW [0,1,2,3,4,6])] [.b hv,(?_:Ps v (S7 (aq by'))=J),(?_:@Eq (At) (aQ S5 (Dl es A fs by' lk to least) 3 (zjF 9 v)) (TO r)),.a1 (zdf 22 r),.c (@G7 es A fs by' lk to least r f q hq hf hl hl2),(?_:Ps v (S7 (aq by'))=J),(?_:@Eq (At) (aQ S5 (nf es A fs by' lk to least r f) 3 (zjF 9 v)) (TO r)),.a1 (zdf 15 r),.v ((fX [2,3,4] (@BN es A (zjE fs r f least) (S8 S6 (↑(Tu (Tg 64 r ^^^ Tg 64 1)):Int)) y hy) ⟨(by exact bq _ _),trivial⟩ ⟨(by exact bq _ _),trivial⟩):Ev S5 ji 193 (zgX r) (nf es A fs by' lk to least r f) (eO (yk (S8 S6 (↑(Tu (Tg 64 r ^^^ Tg 64 1)):Int)) y)) (nf es A fs by' lk to least r f))]<;>(first|exact vo h0 hb|exact dX rfl hb)
theorem Ri(k:Nat):k ^^^ 1=if k % 2=0 then k+1 else k-1:=by
 have h1:(k ^^^ 1) / 2=k / 2:=by rw[Nat.xor_div_two];simp
 have h2:(k ^^^ 1) % 2=(k+1) % 2:=by have:=@Nat.xor_mod_two_eq_one k 1;omega
 split<;>omega
theorem Rj{m:Nat}{r:Int}(h:cG m r)(hm:m<=1000000):xr r=if r.toNat % 2=0 then r+1 else r-1:=by
 obtain⟨h0,h1⟩:=h;obtain⟨k,rfl⟩:=Int.eq_ofNat_of_zero_le h0;have hk:k<2000000:=lj
 have e:(Tg S6.bits (k:Int) ^^^ Tg S6.bits 1).toNat=k ^^^ 1:=by
  rw[BitVec.toNat_xor];have e1:(Tg S6.bits (k:Int)).toNat=k:=by show(Tg 64 (k:Int)).toNat=k;rw[BitVec.toNat_ofInt];omega
  have e2:(Tg S6.bits 1).toNat=1:=rfl;rw[e1,e2]
 unfold xr;rw[e,Ri];simp;split;·rw[wrap_i64 lj lj];omega
 ·rw[wrap_i64 lj lj];omega
theorem Rk{m:Nat}{r:Int}(h:cG m r)(hm:m<=1000000):cG m (xr r):=by rw[Rj h hm];obtain⟨h0,h1⟩:=h;split<;>constructor<;>omega
inductive Path (es:oN) (by':bV) (lk:Int):Int->bV->Prop
 |nil:Path es by' lk lk []
 |cons {v r rs}:v≠lk->0<=v->by'[v.toNat]?=G r->cG es.length r->Path es by' lk (gW es (xr r)) rs->Path es by' lk v (r::rs)
def lsF(es:oN)(fs:bV)(least r:Int):Int:=dmnI least (zii es fs r)
def puF(least:Int)(fs:bV)(r:Int):bV:=fs.set (ixR r).toNat (S6.wrap (fA fs r+lD r least))
theorem G8(least:Int)(fs:bV)(r:Int):(puF least fs r).length=fs.length:=by simp[puF]
theorem BS(least:Int):∀(rs:bV) (fs:bV),(rs.foldl (puF least) fs).length=fs.length
 | [],_=>rfl
 |r::rs,fs=>by rw[TG,BS least rs,G8]
section
variable {es:oN} {A:bv} {fs by':bV} {lk to:Int}
theorem KU(hl:fs.length=es.length)(hm:es.length<=65536){gs:bV}{l0 least v:Int}{rs:bV}(hp:Path es by' lk v rs):CW S5 ji (mH es A gs lk to by' l0) false (.loop (sub Xy 0)) (aS es A fs lk to by' least v d72) (.exit 0) {t:=qm 24 0 [],h:=mH es A fs lk to by' (rs.foldl (lsF es fs) least),m:=[]}:=by
 refine CW.loop (ι:={p:Int×Int×bV // Path es by' lk p.1 p.2.2}) (λp=>aS es A fs lk to by' p.1.2.1 p.1.1 d72) (λp=>(.exit 0,{t:=qm 24 0 [],h:=mH es A fs lk to by' (p.1.2.2.foldl (lsF es fs) p.1.2.1),m:=[]})) (λp=>p.1.2.2.length) ?_ ⟨(v,least,rs),hp⟩;rintro⟨⟨v,least,rs⟩,hp⟩;cases hp with
 | nil=>exact .inr ⟨by simp,BR (by simp)⟩
 | cons h1 h2 h3 h4 h5 =>rename_i r rs;have hq:=lF h4 (by omega);refine .inl ⟨⟨(gW es (xr r),lsF es fs least r,rs),h5⟩,by simp,rfl,?_⟩;exact KT (x:=exA es r) (f:=fA fs r) (by simpa using h1) h2 h3 hq.1 (vq h4 (by omega)) (G3 h4 (by omega) hl) (by omega) (vq (Rk h4 (by omega)) (by omega))
theorem KV(hm:es.length<=65536){gs:bV}{l0 least v:Int}{rs:bV}(hl:fs.length=es.length)(hp:Path es by' lk v rs):CW S5 ji (mH es A gs lk to by' l0) false (.loop (sub Xy 0)) (aS es A fs lk to by' least v d74) (.exit 0) {t:=qm 24 0 [],h:=mH es A (rs.foldl (puF least) fs) lk to by' least,m:=[]}:=by
 refine CW.loop (ι:={p:Int×bV×bV // Path es by' lk p.1 p.2.2/\p.2.1.length=es.length}) (λp=>aS es A p.1.2.1 lk to by' least p.1.1 d74) (λp=>(.exit 0,{t:=qm 24 0 [],h:=mH es A (p.1.2.2.foldl (puF least) p.1.2.1) lk to by' least,m:=[]})) (λp=>p.1.2.2.length) ?_ ⟨(v,fs,rs),hp,hl⟩;rintro⟨⟨v,fs,rs⟩,hp,hl⟩;simp only at hl;cases hp with
 | nil=>exact .inr ⟨by simp,BR (by simp)⟩
 | cons h1 h2 h3 h4 h5 =>rename_i r rs;have hq:=lF h4 (by omega);have hf:=G3 (fs:=fs) h4 (by omega) hl;refine .inl ⟨⟨(gW es (xr r),puF least fs r,rs),h5,by rw[G8];exact hl⟩,by simp,rfl,?_⟩;exact Rh (f:=fA fs r) (y:=exA es (xr r)) (by simpa using h1) h2 h3 hq.1 hf (show r.toNat / 2<fs.length by omega) (Td.1 hf).1 (vq (Rk h4 (by omega)) (by omega))
end
abbrev zeO(a:D):bY:=[a,gM (qn 1 0),gM (qn 0 0),gM (qn 5 0),gM (qn 10 0)]
theorem al_a{es:oN}{A:bv}{fs fs2 by':bV}{lk to least zpL:Int}{d:D}(hcw:CW S5 ji (mH es A fs lk to by' least) false (.loop (sub Xy 0)) (aS es A fs lk to by' least to d) (.exit 0) {t:=qm 24 0 [],h:=mH es A fs2 lk to by' zpL,m:=[]}):(Ev S5 ji 192 (zeO d) (mH es A fs lk to by' least) (.Pp []) (mH es A fs2 lk to by' zpL)):=by have xd:=(@hcw);exact Tw (yF (h':=(zhQ lk to fs2 es A by' zpL)) (d:=TT []) [.s [0,1,2,3,4,6] xd]) (by rfl) (by rfl)
abbrev zcT:Nat×D:=(zhA 6 0)
abbrev zeX(a:Nat):Nat×D:=(12,gM (qn a 0))
abbrev zfb(a:Nat):Nat×D:=(7,gM (qn a 0))
abbrev xT(n:Int):bY:=qm 65 0 [(0,eO n),zcT,(zfb 1),(zeX 5)]
abbrev ziE(a b:Int)(c:List (bY))(d:bY):aT:=[eP [eO a],eP [eO b],.eY (c) 0 1,xx,eP d,eP zbe]
abbrev xH(es:oN)(A:bv)(fs:bV)(lk to:Int):aT:=(ziE lk to (aq fs) (zdD es 2 A))
abbrev xS(es:oN)(A:bv)(fs:bV)(n lk to:Int):AS:={t:=xT n,h:=xH es A fs lk to,m:=[]}
noncomputable abbrev Ad(es:oN)(A:bv)(fs:bV)(lk:Int)(to:Int):aT:=(ziE lk to (aq fs) (zaF es 2 A))
theorem KW{es:oN}{A:bv}{fs fs2 by':bV}{n lk to x l2:Int}(h0:0<=to)(hx:by'[to.toNat]?=G x)(hg:fE (x<0)=N)(hs:Ev S5 ji 191 (zbF 2 lk to) (fwH es A fs) zgB (zaO es A fs to by'))(h1:Ev S5 ji 192 (zeO d72) (mH es A fs lk to by' 1073741824) (uN []) (mH es A fs lk to by' l2))(h2:Ev S5 ji 192 (zeO d74) (mH es A fs lk to by' l2) (uN []) (mH es A fs2 lk to by' l2)):(CW S5 ji [] N (sub Wh 0) (xS es A fs n lk to) w8 (xS es A fs2 n lk to)):=by refine yx (zbU [0,6,7,12] 6) [.c ((fX [2,3,4] (@hs) ⟨?_,trivial⟩ ⟨?_,?_,?_,trivial⟩):Ev S5 ji 191 (zbF 4 lk to) (Ad es A fs lk to) (gM (.eY 9 0)) [eP [eO lk],eP [eO to],.eY (aq fs) 0 1,xx,eP (zaF es 2 A),eP zbe,eP [eO to],eP za5,.eY [[eO (-1)]] 0 1,.eY (aq by') 0 1]),((by exact vo h0 hx):Ps to (S7 (aq by'))=J),((by exact dX rfl hx):@Eq (At) (aQ S5 [eP [eO lk],eP [eO to],.eY (aq fs) 0 1,xx,eP [ab (S2 TA es),gM (.eY 2 0),ab A],eP [gM (qn 4 0)],eP [eO to],eP [gM (.eY 9 0)],.eY [[eO (-1)]] 0 1,.eY (aq by') 0 1,eP [gM (.eY 9 0)]] 3 (gM (.vp 9 0 (S9 to) 0))) (G (eO x))),.a1 (zdf 36 x),.b hg,.c (@h1),.c (@h2),((by exact cM _ _):List.all (aq fs2) (TL 6)=J)]<;>(first|rfl|exact bq _ _)
def rQ(l:Bv):List (bY):=l.map λb=>[eR b]
abbrev de(l:Bv):bv:=l.map λb=>[.v (.bool b)]
theorem KX(f:Ref->D)(l:Bv):(rQ l).map (Tz f)=rQ l:=by simp[rQ,Tz,D.FK]
theorem KY(l:Bv):rQ l=(de l).map (·.map .p):=by simp[rQ]
theorem KZ(n:Nat):Ti n [eR N]=rQ (Ti n N):=by simp[rQ]
theorem K0{l:Bv}{b i:Nat}{a:Bool}{h:aT}(hb:h[b]?=G (.eY (rQ l) 0 1))(hi:i<l.length):aY S5 h 4 (gM (.vp b 0 i 0)) (eR a)=G (h.set b (.eY (rQ (l.set i a)) 0 1)):=by
 have e1:(rQ l)[i]?=G [eR l[i]]:=by simp[rQ,hi]
 unfold aY;simp only[hb,e1,if_true];simp[rQ,List.map_set];rfl
abbrev kH(es:oN)(A:bv)(fs:bV)(lk to:Int)(by':bV)(cut:Bv):aT:=xH es A fs lk to++[eP [eO to],eP za5,.eY [[eO (-1)]] 0 1,.eY (aq by') 0 1,eP za5,.eY (rQ cut) 0 1]
abbrev zdF(a b:Int):bY:=qm 65 0 [(9,gM (.eY 11 0)),(12,gM (qn 5 0)),(40,gM (.eY 9 0)),(41,eO a),(42,eO b)]
abbrev kS(es:oN)(A:bv)(fs:bV)(lk to:Int)(by':bV)(cut:Bv)(i:Int):AS:={t:=(zdF (by'.length:Int) i),h:=kH es A fs lk to by' cut,m:=[]}
abbrev kE(es:oN)(A:bv)(fs:bV)(lk to:Int)(by':bV)(cut:Bv):AS:={t:=qm 65 0 [(9,gM (.eY 11 0)),(zeX 5)],h:=kH es A fs lk to by' cut,m:=[]}
theorem Rl{es:oN}{A:bv}{fs by':bV}{lk to x:Int}{cut:Bv}{i:Nat}(hx:by'[S9 (i:Int)]?=G x)(oA:fE ((i:Int)<(by'.length:Int))=J)(hw:S6.wrap ((i:Int)+1)=((i+1:Nat):Int))(hi:Ps (i:Int) (aq by').length=J)(hc:Ps (i:Int) (rQ cut).length=J)(hcl:S9 (i:Int)<cut.length):(CW S5 ji [] N (sub Wh 1) (kS es A fs lk to by' cut i) w8 (kS es A fs lk to by' (cut.set (S9 (i:Int)) (fE (x>=0))) ((i+1:Nat):Int))):=by let v1:bY:=(zaF es 2 A);let v0:aT:=(ZP lk to fs v1 by' (.eY (rQ cut) 0 1));refine yX {t:=qm 65 0 [(9,gM (.eY 11 0)),(zeX 5),(zeq 40 9),(41,eO (↑(S7 by'):Int)),(42,(ZZ i))],h:=(ZP lk to fs v1 by' (.eY (rQ (UE cut (S9 (↑i:Int)) (fE (x>=0)))) 0 1)),m:=[]} Exit.normal [E6 (IW [9,12,40,41,42])] [.b oA,hi,(?_:@Eq (At) (aQ S5 v0 3 (gM (.vp 9 0 (S9 (↑i:Int)) 0))) (TO x)),hc,(?_:@Eq (Option (aT)) (aY S5 v0 4 (gM (zdi 11 (↑i:Int))) (eR (fE (x>=0)))) (G (ZP lk to fs v1 by' (.eY (rQ (UE cut (S9 (↑i:Int)) (fE (x>=0)))) 0 1)))),.a1 (zdf 46 x),.a1 (.oh 10051 D.any (kH es A fs lk to by' (UE cut (S9 (↑i:Int)) (fE (x>=0)))))] (by subst v1 v0;grind) (by subst v1 v0;grind)<;>subst v1 v0<;>(first|exact dX rfl hx|exact K0 rfl hcl)
theorem Rm{es:oN}{A:bv}{fs by':bV}{lk to:Int}{cut:Bv}{i:Nat}(oA:fE ((i:Int)<(by'.length:Int))=N):(CW S5 ji [] N (sub Wh 1) (kS es A fs lk to by' cut i) (EY 2) (kE es A fs lk to by' cut)):=yx [E6 (IW [9,12])] [.b oA]
def SX(s:Bv×Nat)(x:Int):Bv×Nat:=(s.1.set s.2 (fE (x>=0)),s.2+1)
def H2(by':bV):Bv:=(by'.foldl SX (Ti by'.length N,0)).1
theorem Rn{es:oN}{A:bv}{fs by':bV}{lk to:Int}(hb:by'.length<=5000):CW S5 ji [] false (.loop (sub Wh 1)) (kS es A fs lk to by' (Ti by'.length false) 0) (.exit 2) (kE es A fs lk to by' (H2 by')):=by
 have:=CW.each (P:=S5) (Γ:=ji) (h0:=[]) (rd:=false) (c:=sub Wh 1) (σ:=Bv×Nat) (ρ:=Empty) by' (λx s=>.inl (SX s x))
  (λi s=>kS es A fs lk to by' s.1 (i:Int)) (.exit 2) (λs=>kE es A fs lk to by' s.1) (λr=>r.elim) (λi s=>s.2=i/\s.1.length=by'.length) (by simp) (λr=>r.elim) ?_ ?_ (Ti by'.length false,0) (by simp)
 ·rw[aM] at this;exact this
 ·rintro i x ⟨cut,k⟩ hx ⟨hk,hc⟩;simp only at hk hc;subst hk;have hi:=(Td.1 hx).1;refine⟨λs' h=>?_,Rl (by simpa using hx) (by simp;omega) (sV hi (by omega)) (by simp[Ps,aq];omega) (by simp[Ps,rQ];omega) (by simp;omega)⟩;grind [SX]
 ·intro s _;exact Rm (by simp)
abbrev kS0(es:oN)(A:bv)(fs:bV)(n lk to:Int)(by':bV):AS:={t:=(zdF ((aq by').length:Int) 0),h:=xH es A fs lk to++[eP [eO to],eP za5,.eY [[eO (-1)]] 0 1,.eY (aq by') 0 1,eP za5,.eY (Ti (S9 n) [eR N]) 0 1],m:=[]}
theorem kS0_eq{es:oN}{A:bv}{fs:bV}{n lk to:Int}{by':bV}(hn:S9 n=by'.length):kS0 es A fs n lk to by'=kS es A fs lk to by' (Ti by'.length N) 0:=by unfold kS0 kS kH;rw[hn,KZ,ef]
noncomputable abbrev G9(es:oN)(A:bv)(fs:bV)(lk:Int)(to:Int):aT:=(ziE lk to (aq fs) (zaF es 2 A))
abbrev zd2(a:bV)(b:Bv):AS:={t:=qm 65 0 [(8,ab (aA a)),(9,ab (de b)),(10,eO 0)],h:=[],m:=[]}
theorem mx_end{es:oN}{A:bv}{fs by':bV}{n lk to x:Int}{cut:Bv}(h0:0<=to)(hx:by'[to.toNat]? = some x)(hg:fE (x<0)=true)(hn0:0<=n)(hn1:n<=4096)(hs:Ev S5 ji 191 (zbF 2 lk to) (fwH es A fs) zgB (zaO es A fs to by'))(hcw:CW S5 ji [] false (.loop (sub Wh 1)) (kS0 es A fs n lk to by') (.exit 2) (kE es A fs lk to by' cut)):(CW S5 ji [] false (sub Wh 0) (xS es A fs n lk to) .ret (zd2 fs cut)):=by have xd:=(@hcw);refine yx [.st (.mask [8,9,10]),.st (.frz 2 (aA fs)),.st (.frz 11 (de cut)),.st (.trim 0)] [.c ((fX [2,3,4] (@hs) ⟨(by exact bq _ _),trivial⟩ ⟨(by exact bq _ _),(by rfl),(by exact bq _ _),trivial⟩):Ev S5 ji 191 (zbF 4 lk to) (G9 es A fs lk to) (.ref (.eY 9 0)) [.var [eO lk],.var [eO to],.eY (aq fs) 0 1,.EZ,.var (zaF es 2 A),.var zbe,.var [eO to],.var za5,.eY [[eO (-1)]] 0 1,.eY (aq by') 0 1]),(?_:Ps to (S7 (aq by'))=true),(?_:@Eq (At) (aQ S5 [.var [eO lk],.var [eO to],.eY (aq fs) 0 1,.EZ,.var (zaF es 2 A),.var zbe,.var [eO to],.var za5,.eY [[eO (-1)]] 0 1,.eY (aq by') 0 1,.var za5] 3 (.ref (zdi 9 to))) (TO x)),.a1 (zdf 36 x),.b hg,((by grind):(fE (0<=n)&&fE (n<=n)&&fE (n*(↑1:Int)<=281474976710656)&&fE (n<=281474976710656))=true),.s [9,12,40,41,42] xd,(?_:aq fs=S2 (λx=>S2 D.p x) (aA fs)),pr [[eO (-1)]],(?_:S2 (Tz (cw 2 0 (aA fs))) (aq by')=aq by'),(?_:S2 (Tz (cw 2 0 (aA fs))) (rQ cut)=rQ cut),(?_:rQ cut=S2 (λx=>S2 D.p x) (de cut)),pr [[eO (-1)]],(?_:S2 (Tz (cw 11 0 (de cut))) (aq by')=aq by')]<;>(first|exact vo h0 hx|exact dX rfl hx|exact vd _|exact KY _|exact bq _ _|exact KX _ _)
abbrev xS0(es:oN)(A:bv)(n lk to:Int):AS:={t:=xT n,h:=(ziE lk to (flR es) (zdD es 2 A)),m:=[]}
theorem flR_eq(es:oN):flR es=aq (Ti es.length 0):=by simp[flR,aq]
theorem xS0_eq{es:oN}{A:bv}{n lk to:Int}:xS0 es A n lk to=xS es A (Ti es.length 0) n lk to:=by unfold xS0 xS xH;rw[flR_eq]
abbrev zdR(a:oN):D:=ab (a.map TA)
theorem nn2_a{n:Nat}{es:oN}{lk to:Int}(hn:n<=10000)(hes:es.length<=65536)(Pt:∀x∈es,ez n x):Ev S5 ji 190 [eO (n:Int),(zdR es)] (zeY lk (eO to)) zfV [eP [eO lk],eP [eO to],.eY (flR es) 0 1,xx,eP (zdD es 2 (jD (j1 n es)))]:=by
 have h1:=Ev.zpY (nn_ev hn hes Pt) rfl rfl (zeY lk (eO to));have e:[ql.eY (flR es) 0 1,xx,eP (zdD es 0 (jD (j1 n es)))].map (ql.FK (SO 2))=[.eY (flR es) 0 1,xx,eP (zdD es 2 (jD (j1 n es)))]:=by simp only[List.map_cons,List.map_nil,ql.FK,G0];rfl
 exact Tw h1 rfl (by simp_all)
abbrev zhf(a:bV)(b:Bv):bY:=[ab (aA a),ab (de b),eO 0]
abbrev zi1(a:Nat)(b:oN)(c d:Int):bY:=[eO (a:Int),(zdR b),eO c,eO d]
theorem max_a{es:oN}{n:Nat}{lk to:Int}{fs:bV}{cut:Bv}(hnn:Ev S5 ji 190 [eO (n:Int),(zdR es)] (zeY lk (eO to)) zfV [.var [eO lk],.var [eO to],.eY (flR es) 0 1,.EZ,.var (zdD es 2 (jD (j1 n es)))])(hc:∀h,Ev S5 ji 189 (zi1 n es lk to) h (eO 0) h)(hcw:CW S5 ji [] false (.loop (sub Wh 0)) (xS0 es (jD (j1 n es)) (n:Int) lk to) .ret (zd2 fs cut)) (h:aT):(Ev S5 ji 113 (zi1 n es lk to) h (.Pp (zhf fs cut)) h):=by have xd:=(@hcw);exact Tw (Ev.ziv (y0 (d:=TT (zhf fs cut)) [.v (@hc (zeY lk (eO to))),.e,.c (@hnn),.s [0,6,7,12] xd] h)) (by rfl) (by rfl)
theorem Ro{es:oN}{n:Nat}{lk to e:Int}(hc:∀h,Ev S5 ji 189 (zi1 n es lk to) h (eO e) h)(he:(e != 0)=J)(h:aT):(Ev S5 ji 113 (zi1 n es lk to) h (uN [ab [],ab [],eO e]) h):=Tw (Ev.ziv (y0 (d:=TT [nq,nq,eO e]) [.v (@hc (zeY lk (eO to))),.b he] h)) Fb Fb
abbrev bs0(n m:Nat)(lk:Int):bV×QF:=(by0 n m lk,⟨N,0,0,[lk]⟩)
abbrev lsR(es:oN)(fs:bV)(rs:bV):Int:=rs.foldl (lsF es fs) 1073741824
abbrev puR(es:oN)(fs:bV)(rs:bV):bV:=rs.foldl (puF (lsR es fs rs)) fs
inductive zog (adj:List (bV)) (es:oN) (n:Nat) (lk to:Int):Nat->bV->bV×bV->Prop
 |done {fs k f}:Bfs adj es fs to k (bs0 n es.length lk) f->f.1.getD to.toNat 0<0->zog adj es n lk to 0 fs (fs,f.1)
 |step {fs k f rs g j}:Bfs adj es fs to k (bs0 n es.length lk) f->¬f.1.getD to.toNat 0<0->Path es f.1 lk to rs->zog adj es n lk to j (puR es fs rs) g->zog adj es n lk to (j+1) fs g
def DC{α:Type}:α⊕α->α
 |.inl s=>s
 |.inr s=>s
theorem Rp(to r u:Int)(s:bV×QF):(DC (usY to r u s)).1.length=s.1.length:=by grind [DC,usY]
theorem Rq(es:oN)(fs:bV)(to r:Int)(s:bV×QF):(DC (usG es fs to r s)).1.length=s.1.length:=by
 unfold usG;cases fE (zii es fs r>0) with
 |true=>exact Rp _ _ _ _
 |false=>rfl
theorem vr{es:oN}{fs:bV}{to:Int}:∀(B:bV) (s:bV×QF),(DC (xz (usG es fs to) B s)).1.length=s.1.length
 | [],s=>rfl
 |r::B,s=>by
  have h1:=Rq es fs to r s;simp[xz];cases hg:usG es fs to r s with
  |inl s1=>rw[hg] at h1;exact(vr B s1).trans h1
  |inr s1=>grind
theorem Bfs.len{adj:List (bV)}{es:oN}{fs:bV}{to:Int}{k:Nat}{s f:bV×QF}(h:Bfs adj es fs to k s f):f.1.length=s.1.length:=by
 induction h with
 |done _=>rfl
 |stop _ hg=>have:=congrArg (λx=>(DC x).1.length) hg;simp[vr] at this;exact this.symm
 |step _ hg _ ih=>have:=congrArg (λx=>(DC x).1.length) hg;simp[vr] at this;rw[ih];exact this.symm
def ResL(m:Nat)(A:List (bV)):Prop:=∀B∈A,∀r∈B,cG m r
theorem ResL.set{m:Nat}{A:List (bV)}(h:ResL m A){u:Nat}{v:Int}(hv:cG m v):ResL m (A.set u (A.getD u []++[v])):=by
 intro B hB r hr;rcases List.mem_or_eq_of_mem_set hB with hB|rfl
 ·exact h B hB r hr
 ·rcases U0.1 hr with hr|hr
  ·by_cases hu:u<A.length
   ·have:A.getD u []=A[u]:=by simp[Th,hu]
    rw[this] at hr;exact h _ (Yv hu) r hr
   grind
  grind
theorem Ha(m:Nat)(hm:m<=1000000):∀(l:oN) (s:List (bV)×Int) (i:Nat),s.2=i->i+l.length<=m->ResL m s.1->ResL m (l.foldl lP s).1
 | [],s,_,_,_,h=>h
 |x::l,s,i,hi,hm2,h=>by rw[TG];simp at hm2;have e1:S6.wrap (2*s.2)=2*s.2:=wrap_i64 lj lj;have e2:S6.wrap (2*s.2+1)=2*s.2+1:=wrap_i64 lj lj;refine Ha m hm l (lP s x) (i+1) (by simp[lP,hi]) lj ?_;unfold lP;rw[e1,e2];exact(h.set ⟨lj,lj⟩).set ⟨lj,lj⟩
theorem oJ(n:Nat)(es:oN):(j1 n es).length=n:=by unfold j1;rw[Aa];simp
theorem Ae(n:Nat){es:oN}(hm:es.length<=65536):∀B∈j1 n es,(∀r∈B,cG es.length r)/\B.length<=200000:=by have h1:ResL es.length (j1 n es):=Ha es.length lj es _ 0 rfl lj (λB hB r hr=>mW);have h2:Lim (j1 n es) (0+2*es.length):=Ab es _ 0 (λj B hB=>mW);intro B hB;refine⟨h1 B hB,?_⟩;obtain⟨j,hj⟩:=List.getElem?_of_mem hB;have:=h2 j B hj;omega
section
variable {es:oN} {n:Nat} {lk to:Int}
theorem Rr(hm:es.length<=65536)(h2:2<=n)(hn:n<=4096)(Pt:∀x∈es,ez n x)(hfr:0<=lk/\lk.toNat<n)(hto:0<=to/\to.toNat<n){j:Nat}{fs:bV}{g:bV×bV}(hl:fs.length=es.length)(hR:zog (j1 n es) es n lk to j fs g):CW S5 ji [] false (.loop (sub Wh 0)) (xS es (jD (j1 n es)) fs (n:Int) lk to) .ret (zd2 (g.1) (H2 g.2)):=by
 refine CW.loop (ι:={p:Nat×bV // p.2.length=es.length/\zog (j1 n es) es n lk to p.1 p.2 g}) (λp=>xS es (jD (j1 n es)) p.1.2 (n:Int) lk to) (λ_=>(.ret,(zd2 (g.1) (H2 g.2)))) (λp=>p.1.1) ?_ ⟨(j,fs),hl,hR⟩;rintro⟨⟨j,fs⟩,hl,hR⟩;simp only at hl hR;cases hR with
 | done hb hx =>
  rename_i k f;have hlen:f.1.length=n:=by rw[hb.len];simp[by0]
  have hs:=BQ hl hm h2 hn Pt (oJ n es) (Ae n hm) hfr hb;have hg:f.1[to.toNat]? = some (f.1.getD to.toNat 0):=by simp[Th,hlen,hto.2]
  have hk:=Rn (es:=es) (A:=jD (j1 n es)) (fs:=fs) (by':=f.1) (lk:=lk) (to:=to) (by omega);rw[<-kS0_eq (n:=(n:Int)) (by simp[hlen])] at hk;exact .inr ⟨by simp,mx_end hto.1 hg (by simpa using hx) (by omega) (by omega) hs hk⟩
 | step hb hx hp hr =>
  rename_i k f rs j;have hlen:f.1.length=n:=by rw[hb.len];simp[by0]
  have hs:=BQ hl hm h2 hn Pt (oJ n es) (Ae n hm) hfr hb;have hg:f.1[to.toNat]? = some (f.1.getD to.toNat 0):=by simp[Th,hlen,hto.2]
  refine .inl ⟨⟨(j,puR es fs rs),by rw[BS];exact hl,hr⟩,by simp,rfl,?_⟩;exact KW (fs2:=puR es fs rs) (l2:=lsR es fs rs) hto.1 hg (by simpa using hx) hs (al_a (KU hl hm hp)) (al_a (KV hm hl hp))
theorem Rs(hm:es.length<=65536)(h2:2<=n)(hn:n<=4096)(Pt:∀x∈es,ez n x)(hfr:0<=lk/\lk.toNat<n)(hto:0<=to/\to.toNat<n)(hc:∀h,Ev S5 ji 189 (zi1 n es lk to) h (eO 0) h){j:Nat}{g:bV×bV}(hR:zog (j1 n es) es n lk to j (Ti es.length 0) g)(h:aT) :Ev S5 ji 113 (zi1 n es lk to) h (uN (zhf (g.1) (H2 g.2))) h:=by refine max_a (nn2_a lj lj Pt) hc ?_ h;rw[xS0_eq];exact Rr hm h2 hn Pt hfr hto qk hR
end
structure zoi (es:oN) (fs:bV):Prop where
 len:fs.length=es.length
 sz:es.length<=65536
 lo:∀i,i<es.length->0<=fs.getD i 0
 hi:∀i,i<es.length->fs.getD i 0<=(es.getD i ⟨0,0,0⟩).most
 most:∀i,i<es.length->(es.getD i ⟨0,0,0⟩).most<=1073741824
theorem qY{m:Nat}{r:Int}(h:cG m r):∃i:Nat,i<m/\(r=2*(i:Int)\/r=2*(i:Int)+1):=by obtain⟨h0,h1⟩:=h;refine⟨(r / 2).toNat,lj,?_⟩;omega
section
variable {es:oN} {fs:bV} {i:Nat}
theorem ix0(hi:i<100000):ixR (2*(i:Int))=(i:Int):=by unfold ixR;rw[WQ lj,wrap_i64 lj lj];omega
theorem ix1(hi:i<100000):ixR (2*(i:Int)+1)=(i:Int):=by unfold ixR;rw[WQ lj,wrap_i64 lj lj];omega
theorem tm0:(TY (2*(i:Int)) 2==0)=J:=mW
theorem tm1:(TY (2*(i:Int)+1) 2==0)=N:=mW
theorem tn0:(TY (2*(i:Int)) 2==1)=N:=mW
theorem tn1:(TY (2*(i:Int)+1) 2==1)=J:=mW
theorem end0(hi:i<100000):gW es (2*(i:Int))=(es.getD i ⟨0,0,0⟩).to:=by unfold gW yk exA;rw[tm0,ix0 hi,UD]
theorem end1(hi:i<100000):gW es (2*(i:Int)+1)=(es.getD i ⟨0,0,0⟩).lk:=by unfold gW yk exA;rw[tm1,ix1 hi,UD]
theorem cap1(hi:i<100000):zii es fs (2*(i:Int)+1)=fs.getD i 0:=by unfold zii fy fA;rw[tm1,ix1 hi,UD]
theorem cap0(h:zoi es fs)(hi:i<es.length):zii es fs (2*(i:Int))=(es.getD i ⟨0,0,0⟩).most-fs.getD i 0:=by have h1:=h.lo i hi;have h2:=h.hi i hi;have h3:=h.most i hi;have h4:=h.sz;unfold zii fy fA exA;rw[tm0,ix0 lj,UD];exact wrap_i64 lj lj
theorem xr0{m:Nat}(hi:i<m)(hm:m<=1000000):xr (2*(i:Int))=2*(i:Int)+1:=by rw[Rj (m:=m) ⟨lj,lj⟩ lj,if_pos lj]
theorem xr1{m:Nat}(hi:i<m)(hm:m<=1000000):xr (2*(i:Int)+1)=2*(i:Int):=by rw[Rj (m:=m) ⟨lj,lj⟩ lj,if_neg lj];omega
end
def zqi(es:oN)(A:List (bV)):Prop:=∀(v:Nat) (r:Int),r∈A.getD v []->gW es (xr r)=(v:Int)
theorem K1{A:List (bV)}{u v:Nat}{B:bV}:(A.set u B).getD v []=if u=v/\u<A.length then B else A.getD v []:=mW
theorem zqi.set{es:oN}{A:List (bV)}(h:zqi es A){u:Nat}{r:Int}(hr:gW es (xr r)=(u:Int)):zqi es (A.set u (A.getD u []++[r])):=by
 intro v x hx;rw[K1] at hx;split at hx
 ·rename_i hc;obtain⟨rfl,_⟩:=hc;rcases U0.1 hx with hx|hx
  ·exact h u x hx
  grind
 ·exact h v x hx
theorem Hb{es:oN}(hm:es.length<=65536)(n:Nat)(Pt:∀x∈es,ez n x):∀(l:oN) (s:List (bV)×Int) (i:Nat),s.2=i->es.drop i=l->zqi es s.1->zqi es (l.foldl lP s).1
 | [],s,_,_,_,h=>h
 |x::l,s,i,hi,hd,h=>by
  rw[TG];have oA:i<es.length:=by have:=congrArg S7 hd;simp only[VB,Ue] at this;omega
  have hx:es[i]?=G x:=by have:=congrArg (λy=>y[0]?) hd;simpa using this
  have hg:es.getD i ⟨0,0,0⟩=x:=by simp[Th,hx]
  obtain⟨x1,x2,x3,x4⟩:=Pt x (T6 hx);have e1:S6.wrap (2*s.2)=2*(i:Int):=by rw[hi];exact wrap_i64 lj lj
  have e2:S6.wrap (2*(i:Int)+1)=2*(i:Int)+1:=wrap_i64 lj lj;refine Hb hm n Pt l (lP s x) (i+1) (by simp[lP,hi]) (by rw[<-WY,hd];rfl) ?_;unfold lP;rw[e1,e2];refine(h.set ?_).set ?_;·rw[xr0 oA lj,end1 lj,hg];omega
  ·rw[xr1 oA lj,end0 lj,hg];omega
theorem K2{es:oN}(hm:es.length<=65536){n:Nat}(Pt:∀x∈es,ez n x):zqi es (j1 n es):=by refine Hb hm n Pt es (Ti n [],0) 0 rfl rfl ?_;intro v r hr;grind
def muS(s:bV×QF):Nat:=2*unm s.1+s.2.list.length
theorem usY_mu{n:Nat}{to r u:Int}{s s':bV×QF}(h:SOk n s)(hr:0<=r)(hu:u.toNat<n)(hy:usY to r u s=.inl s'):muS s'<=muS s:=by
 unfold usY at hy;split at hy;·grind
 ·rename_i hg;split at hy;·cases hy
  ·cases hy;have h1:=G6 (l:=s.1) (by rw[h.len];exact hu) (by simpa using hg) hr;grind [muS,QF.push,QF.list,Uk,Xi]
theorem Hc{es:oN}{fs:bV}{to:Int}{n:Nat}(hm:es.length<=65536)(Pt:∀x∈es,ez n x):∀(B:bV) (s s':bV×QF),(∀r∈B,cG es.length r)->SOk n s->xz (usG es fs to) B s=.inl s'->muS s'<=muS s
 | [],s,s',_,h,hf=>by cases hf;grind
 | r::B,s,s',hB,h,hf=>by
  simp[xz] at hf;have hr:=hB r (by simp);have he:=qW hr (by omega) Pt;split at hf
  ·rename_i s1 h1;have h2:SOk n s1/\muS s1<=muS s:=by
    unfold usG at h1;split at h1;·exact⟨h.usY hr.1 he.1 he.2 h1,usY_mu h hr.1 he.2 h1⟩
    ·grind
   exact Nat.le_trans (Hc hm Pt B s1 s' (λx hx=>hB x (by simp[hx])) h2.1 hf) h2.2
  ·cases hf
theorem Mw{es:oN}{fs:bV}{to:Int}{n:Nat}(hm:es.length<=65536)(Pt:∀x∈es,ez n x){adj:List (bV)}(ha:adj.length=n)(hB:∀B∈adj,∀r∈B,cG es.length r):∀(m:Nat) (s:bV×QF),muS s<m->SOk n s->∃k f,Bfs adj es fs to k s f
 |0,s,h,_=>absurd h (Nat.not_lt_zero _)
 |m+1,s,h,hs=>by
  cases hl:s.2.list with
  |nil=>exact⟨0,s,.done hl⟩
  |cons v rest=>
   obtain⟨v0,v1⟩:=hs.mem v (by rw[hl];simp);have hr:∀r∈adj.getD v.toNat [],cG es.length r:=by
    have:adj.getD v.toNat []=adj[v.toNat]' lj:=by simp[Th,ha,v1]
    rw[this];exact hB _ (Yv _)
   cases hf:xz (usG es fs to) (adj.getD v.toNat []) (s.1,s.2.pop) with
   |inr f=>exact⟨0,f,.stop hl hf⟩
   |inl s' =>
    have h1:=hs.pop hl;have h2:=SOk.xz hm Pt _ _ _ hr h1 hf;have h3:=Hc hm Pt _ _ _ hr h1 hf;have h4:muS (s.1,s.2.pop)+1=muS s:=by simp only[muS,QF.zmx hl,hl,Ue];omega
    obtain⟨k,f,hb⟩:=Mw hm Pt ha hB m s' lj h2;exact⟨k+1,f,.step hl hf hb⟩
end Go.Vi
