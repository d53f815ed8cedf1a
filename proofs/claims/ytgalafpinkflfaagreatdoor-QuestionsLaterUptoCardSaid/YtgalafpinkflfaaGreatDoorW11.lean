/- A part of the proof; no conditions of its own. -/
import Derived.Test.YtgalafpinkflfaaGreatDoorW10
open Bool renaming true->J,false->N
open Option renaming some->G,none->Y
open Go.Vi.ql renaming map->NI,var->eP,loop->Js,EZ->xx
open Go.Vi.η renaming st->E6,ov->zfG,inl->Τ
open Go.Exit renaming normal->w8,exit->EY
open Go.Vi.D renaming Pp->uN,agg->mS,ref->gM
open Go.Vi.SOp renaming frz->Λ,P1->zlw,trim->zhZ,mask->IW
open Go.Vi.Ref renaming ptr->qn
open Decidable renaming decide -> fE
open Go.IntKind renaming i64 -> S6, wrap -> S8
open Go.Proofs.Tryz renaming prog -> S5, f33 -> Uy
open List renaming map -> S2, length -> S7, getElem?_eq_some_iff -> Td, foldl -> TE, length_append -> Uk, mem_map -> T2, mergeSort -> UF, map_cons -> U5, pairwise_mergeSort -> YI, mergeSort_perm -> X0
open Go.Vi.uT renaming row -> Tc
open Go.Vi.Β renaming row -> Tj
open Go.Vi.qH renaming row -> Ta
open Go.Exit renaming normal -> Tr, ret -> VM
open Go.Vi.Ev renaming zkr -> Tp
open Go.Vi.D renaming agg -> TF, θ -> Tz, FK -> Ty, Pp -> TT
open Go.Vi.eQ renaming l -> TC
open Go.Vi.CW renaming each -> UR
open Go.Vi.ql renaming inn -> Tl
open Go.Vi.uS renaming row -> Tb
open Go.Vi.Jv renaming row -> TQ
open Go Go.Proofs
namespace Go.Vi
set_option maxRecDepth 100000
set_option maxHeartbeats 4000000
variable {as_ cs:bv}{b:Bool}{bs:iS}{c d e k bO last n st eF:Int}{h:aT}{i:Nat}{la:iN}{m sm:SM}{m1 m2:IM}{now:bV}{ns:List (List Dp)}{rs:iF}{s:Int×SM}{v x:Jv}{w:eQ}
abbrev If:=List Jv
variable {l:If}
abbrev ziM(a:D):bY:=[a,eO 0,eO 0,eO 0]
abbrev SS:ql:=eP (ziM fw)
abbrev zdk:Nat×D:=(13,gM (.mp 2))
abbrev snS(w:eQ)(st eF bO:Int)(ns:bv)(last:Int)(sm:SM)(i:Int):AS :={t:=qm 190 0 [(1,eO st),(2,eO eF),(3,eO bO),zbK,WF,(11,fw),(12,eO 0),zdk,(14,eO last),(42,ab ns),(43,eO ns.length),(44,eO i)],h:=[eP w.l,SS,smB sm],m:=[]}
abbrev snE(w:eQ)(st eF bO:Int)(sm:SM):AS :={t:=qm 190 0 [(1,eO st),(2,eO eF),(3,eO bO),zbK,WF,(11,fw),(12,eO 0),zdk],h:=[eP w.l,SS,smB sm],m:=[]}
abbrev snX(w:eQ):Unit->Exit×AS:=λ_=>(.ret,{t:=qm 190 0 [(10,gM (qn 1 0)),(11,fw),(12,eO 150)],h:=[eP w.l,SS],m:=[]})
def ST(last c:Int):Bool:=fE (c>=S6.wrap (last+1))&&fE (c<=4095)
def snF(c:Int)(s:Int×SM):(Int×SM)⊕Unit:=bif ST s.1 c then .inl (c,cY s.2 c ⟨c,0,-1,true⟩) else .inr ()
theorem bn_t(h:(!b)=N):b=J:=mW
theorem bn_f(h:(!b)=J):b=N:=mW
theorem upS(hb:h[2]?=G (smB m)):ay S5 h 158 zcn (eO c) (seD v)=G (h.set 2 (smB (cY m c v))):=Fe (kt:=3) (et:=160) Z Z hb
theorem lkS(hb:h[2]?=G (smB m)):aw S5 h 158 zcn (eO c) N=G (seD ((nX m c).getD CH)):=CI (kt:=3) (et:=160) Z Z Z hb
abbrev zaA:bY:=(ziM nq)
noncomputable abbrev mO(w:eQ)(sm:SM):aT:=[eP (ZA w),eP zaA,NI (bp 0 sm) (S7 sm)]
abbrev ze7:Do:=[E6 (IW [10,11,12]),E6 (zhZ 2)]
theorem NU(hr:ao (i:Int) ns [vi c] 1)(oA:fE ((i:Int)<(ns.length:Int))=true)(hw:S6.wrap ((i:Int)+1)=((i+1:Nat):Int)):(CW S5 lL [] false (sub Uy 0) (snS w st eF bO ns last sm i) (ai (λs:Int×SM=>snS w st eF bO ns s.1 s.2 ((i+1:Nat):Int)) (snX w) (snF c (last,sm))).1 (ai (λs:Int×SM=>snS w st eF bO ns s.1 s.2 ((i+1:Nat):Int)) (snX w) (snF c (last,sm))).2):=by
 cases sR:!(fE (c>=S8 S6 (last+1))&&fE (c<=4095))
 ·let v0:=S7 (cY sm c {f7:=c,tries:=0,uR := -1,now:=true})
  exact yX {t:=qm 190 0 [(1,eO st),(2,eO eF),(3,eO bO),(5,.ref (.ptr 0 0)),(10,.ref (.ptr 1 0)),(11,nq),(12,eO 0),(13,.ref (.mp 2)),(14,eO c),(42,ab ns),(43,eO (↑(S7 ns):Int)),(44,eO (S8 S6 ((↑i:Int)+1)))],h:=[.var [ab (S2 Tc w.c),ab w.p,ab (S2 Tj w.s),ab (S2 Ta w.f)],.var [nq,eO 0,eO 0,eO 0],.map (bp 0 (cY sm c {f7:=c,tries:=0,uR := -1,now:=true})) v0],m:=[]} Tr [.st (.mask [1,2,3,5,10,11,12,13,14,42,43,44])] [.b oA,.r hr,.v (Tp (Γ':=lL) (@bc c (S8 S6 (last+1)) 4095 (mO w sm))),.b sR,((by subst v0;exact upS (v:=⟨c,0,-1,true⟩) rfl):@Eq (Option (List ql)) (ay S5 (mO w sm) 158 (.ref (.mp 2)) (eO c) (TF [eO c,eO 0,eO (-1),eR true])) (some [.var (TC w),.var [nq,eO 0,eO 0,eO 0],.map (bp 0 (cY sm c {f7:=c,tries:=0,uR := -1,now:=true})) v0])),.a1 (.oh 10055 D.any [.var (TC w),SS,smB (cY sm c {f7:=c,tries:=0,uR := -1,now:=true})])] (by subst v0;(have hh:ST last c=true:=bn_t sR;simp[snF,hh,ai];first|done|rfl)) (by subst v0;(have hh:ST last c=true:=bn_t sR;simp only[snF,hh,cond_true,ai,hw];first|done|rfl))
 ·exact yX {t:=qm 190 0 [(10,.ref (.ptr 1 0)),(11,nq),(12,eO 150)],h:=[.var [ab (S2 Tc w.c),ab w.p,ab (S2 Tj w.s),ab (S2 Ta w.f)],.var [nq,eO 0,eO 0,eO 0]],m:=[]} VM [.st (.mask [10,11,12]),.st (.trim 2)] [.b oA,.r hr,.v (Tp (Γ':=lL) (@bc c (S8 S6 (last+1)) 4095 (mO w sm))),.b sR] (by(have hh:ST last c=false:=bn_f sR;simp[snF,hh,ai];first|done|rfl)) (by(have hh:ST last c=false:=bn_f sR;simp only[snF,hh,cond_false,ai];first|done|rfl))
theorem NV{ns:bv}(oA:fE ((i:Int)<(ns.length:Int))=N):(CW S5 lL [] N (sub Uy 0) (snS w st eF bO ns last sm i) (EY 0) (snE w st eF bO sm)):=yx [E6 (IW [1,2,3,5,10,11,12,13])] [.b oA]
def snR(now:bV):(Int×SM)⊕Unit:=xz snF now (-1,[])
def NW(w:eQ)(st eF bO:Int)(now:bV):Exit×AS:=bf (EY 0) (λs:Int×SM=>snE w st eF bO s.2) (snX w) (snR now)
theorem sn_cw{w:eQ}{st eF bO:Int}{now:bV}(hl:ah now):CW S5 lL [] false (.loop (sub Uy 0)) (snS w st eF bO (zaQ now) (-1) [] 0) (NW w st eF bO now).1 (NW w st eF bO now).2:=by
 refine UR now snF (λi s=>snS w st eF bO (zaQ now) s.1 s.2 (i:Int)) (.exit 0) (λs=>snE w st eF bO s.2) (snX w) (λ_ _=>True) (by simp) (λ_=>by simp[snX]) ?_ ?_ (-1,[]) trivial;·intro i c s hc _;have hi:=(Td.1 hc).1;exact⟨λ_ _=>trivial,NU (rowAt (row:=λn=>[vi n]) hc rfl) (F1 (λn=>[vi n]) hi) (sV hi hl)⟩
 ·intro s _;exact NV (aR (λn=>[vi n]) now)
abbrev siK(w:eQ)(bO:Int)(e:Nat):ql:=eP (zfl 4 e w bO)
abbrev siH(w:eQ)(bO st:Int)(sm:SM)(rs:iF)(e:Nat)(as_:bv)(m1 m2:IM):aT :=[eP w.l,SS,smB sm,siK w bO e,.eY (ad (sU rs)) e 5,eP (zfj st as_),imB m1,imB m2]
abbrev zcW:Nat×D:=(17,gM (qn 3 0))
abbrev zeM:Nat×D:=(20,gM (.mp 6))
abbrev zeN:Nat×D:=(21,gM (.mp 7))
abbrev zio(a:Int)(b:D)(c:bv)(d:Nat)(e:bv)(f:Nat×D)(g:Nat)(h:D):bY:=qm 190 0 [(2,eO a),WF,(11,b),zdk,zcW,(19,ab c),zeM,zeN,(d,ab e),f,(g,h)]
abbrev stS(w:eQ)(bO st eF:Int)(sm:SM)(rs:iF)(cs as_:bv)(m1 m2:IM)(i:Int):AS :={t:=(zio eF fw cs 80 as_ (81,eO as_.length) 82 (eO i)),h:=siH w bO st sm rs 0 as_ m1 m2,m:=[]}
abbrev stE(w:eQ)(bO st eF:Int)(sm:SM)(rs:iF)(cs as_:bv)(m1 m2:IM):AS :={t:=qm 190 0 [(2,eO eF),WF,(11,fw),zdk,zcW,(19,ab cs),zeM,zeN],h:=siH w bO st sm rs 0 as_ m1 m2,m:=[]}
def gI(m:IM)(c:Int):Int:=(ap m c).getD 0
def stF(s:IM×IM)(a:uS):IM×IM:=(a8 s.1 a.f7 (S6.wrap (gI s.1 a.f7+1)),a8 s.2 a.f7 (mxI (gI s.2 a.f7) a.CX))
theorem lk6{m:IM}(hb:h[6]?=G (imB m)):aw S5 h 168 (zdB 6) (eO c) N=G (eO (gI m c)):=tu (kt:=3) (et:=3) Z Z Z hb
theorem lk7{m:IM}(hb:h[7]?=G (imB m)):aw S5 h 168 (zdB 7) (eO c) N=G (eO (gI m c)):=tu (kt:=3) (et:=3) Z Z Z hb
theorem up6{m:IM}{v:Int}(hb:h[6]?=G (imB m)):ay S5 h 168 (zdB 6) (eO c) (eO v)=G (h.set 6 (imB (a8 m c v))):=ly (kt:=3) (et:=3) Z Z hb
theorem up7{m:IM}{v:Int}(hb:h[7]?=G (imB m)):ay S5 h 168 (zdB 7) (eO c) (eO v)=G (h.set 7 (imB (a8 m c v))):=ly (kt:=3) (et:=3) Z Z hb
abbrev zfO(a:SM):ql:=(NI (bp 0 a) (S7 a))
theorem NX{rs:List EU}{cs as_:List (List Dp)}{a:uS}(hr:ao (i:Int) as_ a.row 5)(oA:fE ((i:Int)<(as_.length:Int))=true)(hw:S6.wrap ((i:Int)+1)=((i+1:Nat):Int)):(CW S5 lL [] false (sub Uy 1) (stS w bO st eF sm rs cs as_ m1 m2 i) .normal (stS w bO st eF sm rs cs as_ (stF (m1,m2) a).1 (stF (m1,m2) a).2 ((i+1:Nat):Int))):=by
 let v0:List D:=[.ref (.eY 4 0),ab (S2 Tc w.c),ab w.p,ab (S2 Tj w.s),ab (S2 Ta w.f),eO bO]
 let v3:List D:=[eO a.f7,eO a.eF,eO a.CX,eO a.NL,eO a.ia]
 let v2:List ql:=[.var (TC w),.var [nq,eO 0,eO 0,eO 0],.map (bp 0 sm) (S7 sm),.var v0,.eY (ad (sU rs)) 0 5,.var [eO st,ab as_],.map (aG 0 m1) (S7 m1),.map (aG 0 m2) (S7 m2),.var v3]
 let v4:=S7 (stF (m1,m2) a).fst
 let v1:List ql:=[.var (TC w),.var [nq,eO 0,eO 0,eO 0],.map (bp 0 sm) (S7 sm),.var v0,.eY (ad (sU rs)) 0 5,.var [eO st,ab as_],.map (aG 0 (stF (m1,m2) a).fst) v4,.map (aG 0 m2) (S7 m2),.var v3]
 let v5:=S7 (stF (m1,m2) a).2
 refine yX {t:=qm 190 0 [(2,eO eF),(10,.ref (.ptr 1 0)),(11,nq),(13,.ref (.mp 2)),(17,.ref (.ptr 3 0)),(19,ab cs),(20,.ref (.mp 6)),(21,.ref (.mp 7)),(80,ab as_),(81,eO (↑(S7 as_):Int)),(82,eO (S8 S6 ((↑i:Int)+1)))],h:=[.var [ab (S2 Tc w.c),ab w.p,ab (S2 Tj w.s),ab (S2 Ta w.f)],.var [nq,eO 0,eO 0,eO 0],.map (bp 0 sm) (S7 sm),.var v0,.eY (ad (sU rs)) 0 5,.var [eO st,ab as_],.map (aG 0 (stF (m1,m2) a).fst) v4,.map (aG 0 (stF (m1,m2) a).2) v5],m:=[]} Tr [.st (.mask [2,10,11,13,17,19,20,21,80,81,82]),.st (.P1 8)] [.b oA,.r hr,(?_:@Eq (Option D) (aw S5 v2 168 (.ref (.mp 6)) (eO a.f7) false) (some (eO (gI m1 a.f7)))),(?_:@Eq (Option (List ql)) (ay S5 v2 168 (.ref (.mp 6)) (eO a.f7) (eO (S8 S6 (gI m1 a.f7+1)))) (some v1)),(?_:@Eq (Option D) (aw S5 v1 168 (.ref (.mp 7)) (eO a.f7) false) (some (eO (gI m2 a.f7)))),(?_:@Eq (Option (List ql)) (ay S5 v1 168 (.ref (.mp 7)) (eO a.f7) (eO (if true=true then if a.CX>gI m2 a.f7 then a.CX else gI m2 a.f7 else if a.CX<gI m2 a.f7 then a.CX else gI m2 a.f7))) (some [.var (TC w),.var [nq,eO 0,eO 0,eO 0],.map (bp 0 sm) (S7 sm),.var v0,.eY (ad (sU rs)) 0 5,.var [eO st,ab as_],.map (aG 0 (stF (m1,m2) a).fst) v4,.map (aG 0 (stF (m1,m2) a).2) v5,.var v3])),bi 8 (.var (TC w)),bi 8 (.var [nq,eO 0,eO 0,eO 0]),(?_:Tl 8 (.map (bp 0 sm) (S7 sm))=true),bi 8 (.var v0),(?_:Tl 8 (.eY (ad (sU rs)) 0 5)=true),bi 8 (.var [eO st,ab as_]),(?_:Tl 8 (.map (aG 0 (stF (m1,m2) a).fst) v4)=true),(?_:Tl 8 (.map (aG 0 (stF (m1,m2) a).2) v5)=true),.a1 (.ov 89 (eO (gI m1 a.f7))),.a1 (.oh 10086 D.any (siH w bO st sm rs 0 as_ (stF (m1,m2) a).fst m2++[.var (S2 D.p (Tb a))])),.a1 (.ov 97 (eO (gI m2 a.f7))),.a1 (.oh 10091 D.any (siH w bO st sm rs 0 as_ (stF (m1,m2) a).fst (stF (m1,m2) a).2++[.var (S2 D.p (Tb a))]))] (by subst v0 v3 v2 v4 v1 v5;grind) (by subst v0 v3 v2 v4 v1 v5;(simp only[hw];rfl))<;>subst v0 v3 v2 v4 v1 v5<;>(first|exact lk6 rfl|exact lk7 rfl|exact up6 rfl|exact up7 rfl|exact ge|exact sZ|exact br)
theorem NY(oA:fE ((i:Int)<(as_.length:Int))=N):(CW S5 lL [] N (sub Uy 1) (stS w bO st eF sm rs cs as_ m1 m2 i) (EY 2) (stE w bO st eF sm rs cs as_ m1 m2)):=yx [E6 (IW [2,10,11,13,17,19,20,21])] [.b oA]
def bg(l:iN):IM×IM:=l.foldl stF ([],[])
theorem st_cw{w:eQ}{bO st eF:Int}{sm:SM}{rs:iF}{cs:bv}{l:iN}(hl:ah l):CW S5 lL [] false (.loop (sub Uy 1)) (stS w bO st eF sm rs cs (l.map Tb) [] [] 0) (.exit 2) (stE w bO st eF sm rs cs (l.map Tb) (bg l).1 (bg l).2):=by
 have:=UR (P:=S5) (Γ:=lL) (h0:=[]) (rd:=false) (c:=sub Uy 1) (σ:=IM×IM) (ρ:=Empty) l (λa s=>.inl (stF s a))
  (λi s=>stS w bO st eF sm rs cs (l.map Tb) s.1 s.2 (i:Int)) (.exit 2) (λs=>stE w bO st eF sm rs cs (l.map Tb) s.1 s.2) (λr=>r.elim) (λ_ _=>True) (by simp) (λr=>r.elim) ?_ ?_ ([],[]) trivial
 ·rw[aM] at this;exact this
 ·intro i a s ha _;have hi:=(Td.1 ha).1;exact⟨λ_ _=>trivial,NX (rowAt ha rfl) (F1 Tb hi) (sV hi hl)⟩
 ·intro s _;exact NY (aR Tb l)
def xF(m1 m2:IM)(x:Jv)(c:Int):Jv:=bif fE (gI m1 c>0) then ⟨x.f7,mnI (S6.wrap (x.tries+gI m1 c)) 100,mxI x.uR (gI m2 c),x.now⟩ else x
abbrev sqS(w:eQ)(bO st eF:Int)(sm:SM)(rs:iF)(ep:Nat)(cs as_ ns es:bv)(m1 m2:IM)(n:Int)(i:Int)(x:Jv)(k:Int):AS :={t:=qm 190 0 [(2,eO eF),WF,(11,fw),zdk,zcW,(19,ab cs),zeM,zeN,(25,eO n),(zgW 26),(102,ab ns),(103,eO ns.length),(104,eO i),(116,ab es),(117,eO es.length),(118,eO k)],h:=siH w bO st sm rs ep as_ m1 m2++[eP (x.row.map .p)],m:=[]}
abbrev sqE(w:eQ)(bO st eF:Int)(sm:SM)(rs:iF)(ep:Nat)(cs as_ ns:bv)(m1 m2:IM)(n:Int)(i:Int)(x:Jv):AS :={t:=qm 190 0 [(2,eO eF),WF,(11,fw),zdk,zcW,(19,ab cs),zeM,zeN,(25,eO n),(zgW 26),(102,ab ns),(103,eO ns.length),(104,eO i)],h:=siH w bO st sm rs ep as_ m1 m2++[eP (x.row.map .p)],m:=[]}
theorem NZ{rs:List EU}{cs as_ es:List (List Dp)}{i:Int}{k:Nat}(hr:ao (k:Int) es [vi c] 1)(oA:fE ((k:Int)<(es.length:Int))=true)(hw:S6.wrap ((k:Int)+1)=((k+1:Nat):Int)):(CW S5 lL [] false (sub Uy 3) (sqS w bO st eF sm rs 1 cs as_ ns es m1 m2 n i x k) .normal (sqS w bO st eF sm rs 1 cs as_ ns es m1 m2 n i (xF m1 m2 x c) ((k+1:Nat):Int))):=by
 cases sR:fE (gI m1 c>0)
 ·let v0:List D:=[.ref (.eY 4 1),ab (S2 Tc w.c),ab w.p,ab (S2 Tj w.s),ab (S2 Ta w.f),eO bO]
  exact yX {t:=qm 190 0 [(2,eO eF),(10,.ref (.ptr 1 0)),(11,nq),(13,.ref (.mp 2)),(17,.ref (.ptr 3 0)),(19,ab cs),(20,.ref (.mp 6)),(21,.ref (.mp 7)),(25,eO n),(26,.ref (.ptr 8 0)),(102,ab ns),(103,eO (↑(S7 ns):Int)),(104,eO i),(116,ab es),(117,eO (↑(S7 es):Int)),(118,eO (S8 S6 ((↑k:Int)+1)))],h:=[.var [ab (S2 Tc w.c),ab w.p,ab (S2 Tj w.s),ab (S2 Ta w.f)],.var [nq,eO 0,eO 0,eO 0],.map (bp 0 sm) (S7 sm),.var v0,.eY (ad (sU rs)) 1 5,.var [eO st,ab as_],.map (aG 0 m1) (S7 m1),.map (aG 0 m2) (S7 m2),.var [eO x.f7,eO x.tries,eO x.uR,eR x.now]],m:=[]} Tr [.st (.mask [2,10,11,13,17,19,20,21,25,26,102,103,104,116,117,118])] [.b oA,.r hr,((by subst v0;exact lk6 rfl):@Eq (Option D) (aw S5 [.var (TC w),.var [nq,eO 0,eO 0,eO 0],.map (bp 0 sm) (S7 sm),.var v0,.eY (ad (sU rs)) 1 5,.var [eO st,ab as_],.map (aG 0 m1) (S7 m1),.map (aG 0 m2) (S7 m2),.var [eO x.f7,eO x.tries,eO x.uR,eR x.now]] 168 (.ref (.mp 6)) (eO c) false) (some (eO (gI m1 c)))),.a1 (.ov 124 (eO (gI m1 c))),.b sR] (by subst v0;grind) (by subst v0;(have hh:fE (gI m1 c>0)=false:=sR;simp only[hw,xF,hh,cond_false];first|done|rfl))
 ·let v0:List D:=[.ref (.eY 4 1),ab (S2 Tc w.c),ab w.p,ab (S2 Tj w.s),ab (S2 Ta w.f),eO bO]
  let v1:List ql:=[.var (TC w),.var [nq,eO 0,eO 0,eO 0],.map (bp 0 sm) (S7 sm),.var v0,.eY (ad (sU rs)) 1 5,.var [eO st,ab as_],.map (aG 0 m1) (S7 m1),.map (aG 0 m2) (S7 m2),.var [eO x.f7,eO x.tries,eO x.uR,eR x.now]]
  refine yX {t:=qm 190 0 [(2,eO eF),(10,.ref (.ptr 1 0)),(11,nq),(13,.ref (.mp 2)),(17,.ref (.ptr 3 0)),(19,ab cs),(20,.ref (.mp 6)),(21,.ref (.mp 7)),(25,eO n),(26,.ref (.ptr 8 0)),(102,ab ns),(103,eO (↑(S7 ns):Int)),(104,eO i),(116,ab es),(117,eO (↑(S7 es):Int)),(118,eO (S8 S6 ((↑k:Int)+1)))],h:=[.var [ab (S2 Tc w.c),ab w.p,ab (S2 Tj w.s),ab (S2 Ta w.f)],.var [nq,eO 0,eO 0,eO 0],.map (bp 0 sm) (S7 sm),.var v0,.eY (ad (sU rs)) 1 5,.var [eO st,ab as_],.map (aG 0 m1) (S7 m1),.map (aG 0 m2) (S7 m2),.var [eO x.f7,eO (if false=true then if 100>S8 S6 (x.tries+gI m1 c) then 100 else S8 S6 (x.tries+gI m1 c) else if 100<S8 S6 (x.tries+gI m1 c) then 100 else S8 S6 (x.tries+gI m1 c)),eO (if true=true then if gI m2 c>x.uR then gI m2 c else x.uR else if gI m2 c<x.uR then gI m2 c else x.uR),eR x.now]],m:=[]} Tr [.st (.mask [2,10,11,13,17,19,20,21,25,26,102,103,104,116,117,118])] [.b oA,.r hr,(?_:@Eq (Option D) (aw S5 v1 168 (.ref (.mp 6)) (eO c) false) (some (eO (gI m1 c)))),.a1 (.ov 124 (eO (gI m1 c))),.b sR,(?_:@Eq (Option D) (aw S5 v1 168 (.ref (.mp 6)) (eO c) false) (some (eO (gI m1 c)))),(?_:@Eq (Option D) (aw S5 [.var (TC w),.var [nq,eO 0,eO 0,eO 0],.map (bp 0 sm) (S7 sm),.var v0,.eY (ad (sU rs)) 1 5,.var [eO st,ab as_],.map (aG 0 m1) (S7 m1),.map (aG 0 m2) (S7 m2),.var [eO x.f7,eO (if false=true then if 100>S8 S6 (x.tries+gI m1 c) then 100 else S8 S6 (x.tries+gI m1 c) else if 100<S8 S6 (x.tries+gI m1 c) then 100 else S8 S6 (x.tries+gI m1 c)),eO x.uR,eR x.now]] 168 (.ref (.mp 7)) (eO c) false) (some (eO (gI m2 c)))),.a1 (.ov 130 (eO (gI m1 c))),.a1 (.ov 138 (eO (gI m2 c)))] (by subst v0 v1;grind) (by subst v0 v1;(have hh:fE (gI m1 c>0)=true:=sR;simp only[hw,xF,hh,cond_true];first|done|rfl))<;>subst v0 v1<;>(first|exact lk6 rfl|exact lk7 rfl)
theorem N0{ns es:bv}{i:Int}{k:Nat}(oA:fE ((k:Int)<(es.length:Int))=N):(CW S5 lL [] N (sub Uy 3) (sqS w bO st eF sm rs 1 cs as_ ns es m1 m2 n i x k) (EY 6) (sqE w bO st eF sm rs 1 cs as_ ns m1 m2 n i x)):=yx [E6 (IW [2,10,11,13,17,19,20,21,25,26,102,103,104])] [.b oA]
theorem sq_cw{w:eQ}{bO st eF:Int}{sm:SM}{rs:iF}{cs as_ ns:bv}{es:bV}(he:ah es){m1 m2:IM}{n i:Int}{x:Jv}:CW S5 lL [] false (.loop (sub Uy 3)) (sqS w bO st eF sm rs 1 cs as_ ns (zaQ es) m1 m2 n i x 0) (.exit 6) (sqE w bO st eF sm rs 1 cs as_ ns m1 m2 n i (es.foldl (xF m1 m2) x)):=by
 have:=UR (P:=S5) (Γ:=lL) (h0:=[]) (rd:=false) (c:=sub Uy 3) (σ:=Jv) (ρ:=Empty) es (λc x=>.inl (xF m1 m2 x c))
  (λk x=>sqS w bO st eF sm rs 1 cs as_ ns (zaQ es) m1 m2 n i x (k:Int)) (.exit 6) (λx=>sqE w bO st eF sm rs 1 cs as_ ns m1 m2 n i x) (λr=>r.elim) (λ_ _=>True) (by simp) (λr=>r.elim) ?_ ?_ x trivial
 ·rw[aM] at this;exact this
 ·intro k c x hc _;have hi:=(Td.1 hc).1;exact⟨λ_ _=>trivial,NZ (rowAt (row:=λn=>[vi n]) hc rfl) (F1 (λn=>[vi n]) hi) (sV hi he)⟩
 ·intro x _;exact N0 (aR (λn=>[vi n]) es)
abbrev nbS(w:eQ)(bO st eF:Int)(sm:SM)(rs:iF)(cs as_ ns:bv)(m1 m2:IM)(i:Int):AS :={t:=(zio eF fw cs 102 ns (103,eO ns.length) 104 (eO i)),h:=siH w bO st sm rs 0 as_ m1 m2,m:=[]}
abbrev nbE(w:eQ)(bO st:Int)(sm:SM)(rs:iF)(cs as_:bv)(m1 m2:IM):AS :={t:=qm 190 0 [WF,(11,fw),zdk,zcW,(19,ab cs)],h:=siH w bO st sm rs 0 as_ m1 m2,m:=[]}
abbrev RSM:=iF×SM
def zkC(w:eQ)(bO eF:Int)(m1 m2:IM)(sm:SM)(n:Int):Jv:=(bQ w n eF bO).2.foldl (xF m1 m2) ⟨n,0,-1,((nX sm n).getD CH).now⟩
def nbF(w:eQ)(bO eF:Int)(m1 m2:IM)(s:RSM)(n:Int):RSM :=(s.1++(bQ w n eF bO).1,bif fE ((zkC w bO eF m1 m2 s.2 n).tries>0) then cY s.2 n (zkC w bO eF m1 m2 s.2 n) else s.2)
theorem upS2(hb:h[2]?=G (smB m)):ay S5 h 158 zcn (eO c) (mS (v.row.map .p))=G (h.set 2 (smB (cY m c v))):=upS hb
theorem lkS2(hb:h[2]?=G (smB m))(hv:(nX m c).getD CH=v):aw S5 h 158 zcn (eO c) N=G (mS (zaX v)):=by rw[<-hv];exact lkS hb
noncomputable abbrev s7(w:eQ)(bO:Int)(st:Int)(eF:Int)(sm:SM)(rs:iF)(as_:bv)(m1:IM)(m2:IM)(n:Int)(v:Jv):aT:=[eP (ZA w),eP zaA,NI (bp 0 sm) (S7 sm),eP (zhl 4 1 w bO),.eY (zbo rs w n eF bO) 1 5,eP (zfj st as_),NI (aG 0 m1) (S7 m1),NI (aG 0 m2) (S7 m2),eP [eO n,eO 0,eO (-1),eR v.now]]
noncomputable abbrev s8(w:eQ)(bO:Int)(st:Int)(sm:SM)(rs:iF)(as_:bv)(m1:IM)(m2:IM)(n:Int)(v:Jv):aT:=[eP (ZA w),eP zaA,NI (bp 0 sm) (S7 sm),eP (zhl 4 0 w bO),.eY (ad (sU rs)) 0 5,eP (zfj st as_),NI (aG 0 m1) (S7 m1),NI (aG 0 m2) (S7 m2),eP [eO n,eO 0,eO (-1),eR v.now]]
abbrev zav(a:Nat)(b:List (D×D×Nat)):List (D×D×Nat):=S2 (λe=>(Ty (ar a 1 0) e.fst,Ty (ar a 1 0) e.2.fst,e.2.2)) (b)
theorem N1(hw:w.ok)(hN:(af w.f bO).length<=1000){rs:List EU}{cs as_:List (List Dp)}(hv:(nX sm n).getD CH=v)(hr:ao (i:Int) ns [vi n] 1)(oA:fE ((i:Int)<(ns.length:Int))=true)(hwr:S6.wrap ((i:Int)+1)=((i+1:Nat):Int))(hb:rs.length<=900000000)(hs:ah (bQ w n eF bO).2):(CW S5 lL [] false (sub Uy 2) (nbS w bO st eF sm rs cs as_ ns m1 m2 i) .normal (nbS w bO st eF (nbF w bO eF m1 m2 (rs,sm) n).2 (nbF w bO eF m1 m2 (rs,sm) n).1 cs as_ ns m1 m2 ((i+1:Nat):Int))):=by
 subst hv
 let v:=(nX sm n).getD CH
 let R:=rs++(bQ w n eF bO).1
 let X:=zkC w bO eF m1 m2 sm n
 let f:=ar 4 1 0
 let A:List η:=[.st (.mask [2,10,11,13,17,19,20,21,102,103,104]),.st (.ren 4 0),.st (.P1 8)]
 let L:List Stp:=[.b oA,.r hr,lkS2 (h:=siH w bO st sm rs 0 as_ m1 m2) (m:=sm) (c:=n) rfl rfl,.a1 (.ov 111 (TF (zaX v))),.c (fX [3,4] (@tD w hw bO n eF hN rs (by omega)) ⟨aj _ _,trivial⟩ ⟨aj _ _,trivial⟩:Ev S5 lL 94 [.ref (.ptr 3 0),eO n,eO eF] (s8 w bO st sm rs as_ m1 m2 n v) (ab (S2 (λn=>[vi n]) (bQ w n eF bO).2)) (s7 w bO st eF sm rs as_ m1 m2 n v)),.s [2,10,11,13,17,19,20,21,25,26,102,103,104,116,117,118] (@sq_cw w bO st eF sm R cs as_ ns (bQ w n eF bO).2 hs m1 m2 n (i:Int) ⟨n,0,-1,v.now⟩)]
 let T(m:SM):List Stp:=[aB (sU R) f,dg f m 0,cK f m1 0,cK f m2 0,bi 8 (.var (TC w)),bi 8 (.var zaA),sZ (n:=8) (l:=m),bi 8 (.var (zhl 4 1 w bO)),br (n:=8) (rs:=sU R) (e:=0) (sz:=5),bi 8 (.var [eO st,ab as_]),ge (n:=8) (l:=m1),ge (n:=8) (l:=m2)]
 cases Jw:fE ((zkC w bO eF m1 m2 sm n).tries>0)
 ·simp only[nbF,Jw,cond_false,<-hwr];exact yx A (L++[.b Jw]++T sm)
 ·simp only[nbF,Jw,cond_true,<-hwr];exact yx A (L++[.b Jw,upS2 (h:=siH w bO st sm R 1 as_ m1 m2++[.var (X.row.map .p)]) (m:=sm) (c:=n) (v:=X) rfl]++T (cY sm n X)++[.a1 (.oh 10145 D.any (siH w bO st (cY sm n X) R 1 as_ m1 m2++[.var (X.row.map .p)]))])
theorem N2{ns:bv}(oA:fE ((i:Int)<(ns.length:Int))=N):(CW S5 lL [] N (sub Uy 2) (nbS w bO st eF sm rs cs as_ ns m1 m2 i) (EY 4) (nbE w bO st sm rs cs as_ m1 m2)):=yx [E6 (IW [10,11,13,17,19])] [.b oA]
theorem nb_cw{w:eQ}(hw:w.ok){bO st eF:Int}(hN:(af w.f bO).length<=100){sm:SM}{rs:iF}(hb:rs.length<=800000000){cs as_:bv}{m1 m2:IM}:CW S5 lL [] false (.loop (sub Uy 2)) (nbS w bO st eF sm rs cs as_ (zaQ (af w.f bO)) m1 m2 0) (.exit 4) (nbE w bO st ((af w.f bO).foldl (nbF w bO eF m1 m2) (rs,sm)).2 ((af w.f bO).foldl (nbF w bO eF m1 m2) (rs,sm)).1 cs as_ m1 m2):=by
 have hl:ah (af w.f bO):=by unfold ah;omega
 have:=UR (P:=S5) (Γ:=lL) (h0:=[]) (rd:=false) (c:=sub Uy 2) (σ:=RSM) (ρ:=Empty) (af w.f bO) (λn s=>.inl (nbF w bO eF m1 m2 s n))
  (λi s=>nbS w bO st eF s.2 s.1 cs as_ (zaQ (af w.f bO)) m1 m2 (i:Int)) (.exit 4) (λs=>nbE w bO st s.2 s.1 cs as_ m1 m2) (λr=>r.elim) (λi s=>s.1.length<=rs.length+i*1001001) (by simp) (λr=>r.elim) ?_ ?_ (rs,sm) (by simp)
 ·rw[aM] at this;exact this
 ·intro i n s hn hs;have hi:=(Td.1 hn).1;have hq:=lJ (w:=w) (c:=n) (eF:=eF) (bO:=bO) (by omega);refine⟨λs' h=>by grind [nbF,Uk],N1 hw (by omega) rfl (rowAt (row:=λn=>[vi n]) hn rfl) (F1 (λn=>[vi n]) hi) (sV hi hl) (by omega) (by unfold ah;omega)⟩
 ·intro s _;exact N2 (aR (λn=>[vi n]) _)
def LU(e:D×D×Nat):Jv:=match e.2.1 with
 |.agg [.p (.v (.int _ a)),.p (.v (.int _ b)),.p (.v (.int _ c)),.p (.v (.bool d))]=>⟨a,b,c,d⟩
 |_=>CH
abbrev zdz(a:Nat):bY:=(ziM (gM (.eY 8 a)))
abbrev mpH(w:eQ)(bO st:Int)(sm:SM)(rs:List EU)(as_:List (List Dp))(m1 m2:IM)(l:List Jv)(bs:List Nat):List ql :=
 [.var w.l,.var [.ref (.eY 8 0),eO 0,eO 0,eO 0],smB sm,siK w bO 0,.eY (ad (sU rs)) 0 5,.var [eO st,ab as_],imB m1,imB m2,.eY (bE l) 0 4,.mit (some 2) sm.length bs sm.length]
abbrev mpT(cs:bv):List (Nat×D):=[WF,(11,fw),zcW,(19,ab cs),(150,gM (.it 9))]
theorem N3(l:If)(f:Ref->D):(bE l).map (Tz f)=bE l:=by rw[List.map_map];exact List.map_congr_left λa _=>rfl
theorem N4{n:Nat}{e sz:Nat}:Tl n (.eY (bE l) e sz)=J:=by show(bE l).all (D.zbk n)=J;rw[List.all_eq_true];intro r hr;obtain⟨x,_,rfl⟩:=T2.1 hr;rfl
theorem uF(l:List Jv)(x:Jv):bE l++[[eO x.f7,eO x.tries,eO x.uR,eR x.now]]=bE (l++[x]):=by simp[bE,TQ]
def LV:Code->Code
 |.seq _ (.seq _ r)=>r
 |_=>.skip
abbrev zi6(a:SM)(b:iS):ql:=(.mit (G 2) (S7 a) b (S7 a))
theorem N5(hl:l.length<=1000000)(he:jv (mpH w bO st sm rs as_ m1 m2 l bs) (gM (.it 9))=G (uN [eO k,mS (zaX x)])):(CW S5 lL [] N (LV (sub Uy 4)) {t:=qm 190 0 (mpT cs++[(151,uN [eR J,eO k,seD x]),(152,eR J)]),h:=mpH w bO st sm rs as_ m1 m2 l bs,m:=[]} w8 {t:=qm 190 0 (mpT cs),h:=mpH w bO st sm rs as_ m1 m2 (l++[x]) bs,m:=[]}):=by let v0:bY:=(zaX x);let v1:bY:=(zhl 4 0 w bO);refine yX {t:=qm 190 0 [WF,(11,nq),zcW,(19,ab cs),(150,gM (.it 9))],h:=[eP (ZA w),eP (zdz 0),NI (bp 0 sm) (S7 sm),eP v1,.eY (ad (sU rs)) 0 5,eP (zfj st as_),NI (aG 0 m1) (S7 m1),NI (aG 0 m2) (S7 m2),.eY (bE l++[v0]) 0 4,.mit (G 2) (S7 sm) bs (S7 sm)],m:=[]} Tr (zc9 [10,11,17,19,150] 8 0 10) [(?_:@Eq (At) (jv [eP (TC w),eP (zdz 0),NI (bp 0 sm) (S7 sm),eP v1,.eY (ad (sU rs)) 0 5,eP (zfj st as_),NI (aG 0 m1) (S7 m1),NI (aG 0 m2) (S7 m2),.eY (bE l) 0 4,.mit (G 2) (S7 sm) bs (S7 sm)] (gM (.it 9))) (G (TT [eO k,TF v0]))),((by subst v0 v1;grind [uF,aL,D.one,Value.oneCell',uO]):(List.all [v0] (aL 4)&&uO (S7 (bE l)+S7 [v0]) 32)=J),(?_:S2 (Tz (ar 8 1 0)) (bE l++[v0])=bE l++[v0]),(?_:(zav 8 (bp 0 sm))=bp 0 sm),(?_:S2 (Tz (ar 8 1 0)) (ad (sU rs))=ad (sU rs)),(?_:S2 (λe=>(zaP 8 1 e)) (aG 0 m1)=aG 0 m1),(?_:S2 (λe=>(zaP 8 1 e)) (aG 0 m2)=aG 0 m2),pr [v0],(rfl:Tl 10 (zaY 8 (bE l++[v0]) 0 4 1 (TC w))=J),(rfl:Tl 10 (zaT 8 (bE l++[v0]) 4 1 (eP (ziM (gM (.eY 8 1)))))=J),(?_:(zae 10 0 8 (bE l++[v0]) 0 4 1 (NI (bp 0 sm) (S7 sm)))=J),(rfl:Tl 10 (zhK 8 (bE l++[v0]) 0 4 1 (eP v1))=J),(?_:(zae 10 (0+1+1) 8 (bE l++[v0]) 0 4 1 (.eY (ad (sU rs)) 0 5))=J),(rfl:(zae 10 (0+1+1+1) 8 (bE l++[v0]) 0 4 1 (eP [eO st,ab as_]))=J),(?_:(zae 10 (0+1+1+1+1) 8 (bE l++[v0]) 0 4 1 (NI (aG 0 m1) (S7 m1)))=J),(?_:(zae 10 (0+1+1+1+1+1) 8 (bE l++[v0]) 0 4 1 (NI (aG 0 m2) (S7 m2)))=J),(?_:Tl 10 (ZT (0+1+1+1+1+1+1+1) 8 (bE l++[v0]) 0 4 1)=J),(rfl:(zae 10 (0+1+1+1+1+1+1+1) 8 (bE l++[v0]) 0 4 1 (zi6 sm bs))=J),.a1 (zfG 153 (TT [eO k,TF v0]))] (by subst v0 v1;grind) (by subst v0 v1;(simp only[uF];first|done|rfl))<;>subst v0 v1<;>(first|assumption|exact ge|exact sZ|exact br|exact aB _ _|exact dg _ _ _|exact cK _ _ _|(rw[uF];exact N3 _ _)|(simp only[uF];exact N4))
theorem qu{x0 x1 x2 x3 x4 x5 x6 x7 x9:ql}{l:If}(hl:l.length<4611686018427387904)(hT:∀x∈l,∀y∈l,x.f7=y.f7->x=y):Ev S5 ji 95 [gM (.eY 8 0),.p (zcs 96)] [x0,x1,x2,x3,x4,x5,x6,x7,.eY (bE l) 0 4,x9] (uN []) [x0,x1,x2,x3,x4,x5,x6,x7,.eY (bE (l.mergeSort leS)) 0 4,x9] :=zo (h:=[x0,x1,x2,x3,x4,x5,x6,x7,.eY (bE l) 0 4,x9]) (b:=8) rfl hl hT
abbrev pwS(w:eQ)(bO st:Int)(sm:SM)(rs:iF)(la:iN)(as_:bv)(m1 m2:IM)(l:If)(bs:iS):AS :={t:=qm 190 0 (mpT (la.map Tb)++[(151,uN [eR N]),(152,eR N)]),h:=mpH w bO st sm rs as_ m1 m2 l bs,m:=[]}
abbrev pwX(w:eQ)(e:Int):AS:={t:=qm 190 0 [WF,(11,fw),(12,eO e)],h:=[eP w.l,SS],m:=[]}
abbrev pwE(w:eQ)(rs:List EU)(la:List uS)(l:List Jv):AS :=
 {t:=qm 190 0 [(10,.ref (.ptr 1 0)),(11,ab (sU rs)),(12,eO 0)],h:=[.var w.l,.var [ab ((l.mergeSort leS).map TQ),eO (mnI (cz la).1 10000),eO (bX la).1,eO (bX la).2.1]],m:=[]}
abbrev zg0(a:If):bv:=S2 TQ (UF a leS)
noncomputable abbrev N6(w:eQ)(bO:Int)(st:Int)(sm:SM)(rs:iF)(as_:bv)(m1:IM)(m2:IM)(l:If)(bs:iS):aT:=[eP (ZA w),eP [ab (zg0 l),eO 0,eO 0,eO 0],NI (bp 0 sm) (S7 sm),eP (zhl 4 0 w bO),.eY (ad (sU rs)) 0 5,eP (zfj st as_),NI (aG 0 m1) (S7 m1),NI (aG 0 m2) (S7 m2),xx,.mit (G 2) (S7 sm) bs (S7 sm)]
theorem pw_a(hla:ah la)(hl:l.length<4611686018427387904)(hT:∀x∈l,∀y∈l,x.f7=y.f7->x=y)(h1:((cz la).2 != 0)=J):(CW S5 lL [] N (wP (al Uy) 4) (pwS w bO st sm rs la as_ m1 m2 l bs) .ret (pwX w (cz la).2)):=by let v0:=(zg0 l);refine yx ze7 [.c (Tp (Γ':=lL) (@qu (eP (TC w)) (eP (zdz 0)) (zfO sm) (eP (zhl 4 0 w bO)) (zb8 rs 0) (eP (zfj st as_)) (zbf m1) (zbf m2) (zi6 sm bs) l hl hT)),((by subst v0;simp_all):bE (UF l leS)=S2 (λx=>S2 D.p x) v0),(?_:(zaC 8 v0 (bp 0 sm))=bp 0 sm),(?_:S2 (Tz (cw 8 0 v0)) (ad (sU rs))=ad (sU rs)),(?_:(zaC 8 v0 (aG 0 m1))=aG 0 m1),(?_:(zaC 8 v0 (aG 0 m2))=aG 0 m2),.o (Λ 8 v0),.v (Tp (Γ':=lL) (@iQ la hla (N6 w bO st sm rs as_ m1 m2 l bs))),.b h1]<;>subst v0<;>(first|exact aB _ _|exact dg _ _ _|exact cK _ _ _)
noncomputable abbrev N7(w:eQ)(bO:Int)(st:Int)(sm:SM)(rs:iF)(la:iN)(as_:bv)(m1:IM)(m2:IM)(l:If)(bs:iS):aT:=[eP (ZA w),eP [ab (zg0 l),(ZM 10000 ((cz la).fst)),eO 0,eO 0],NI (bp 0 sm) (S7 sm),eP (zhl 4 0 w bO),.eY (ad (sU rs)) 0 5,eP (zfj st as_),NI (aG 0 m1) (S7 m1),NI (aG 0 m2) (S7 m2),xx,.mit (G 2) (S7 sm) bs (S7 sm)]
noncomputable abbrev N8(w:eQ)(bO:Int)(st:Int)(sm:SM)(rs:iF)(as_:bv)(m1:IM)(m2:IM)(l:If)(bs:iS):aT:=[eP (ZA w),eP [ab (zg0 l),eO 0,eO 0,eO 0],NI (bp 0 sm) (S7 sm),eP (zhl 4 0 w bO),.eY (ad (sU rs)) 0 5,eP (zfj st as_),NI (aG 0 m1) (S7 m1),NI (aG 0 m2) (S7 m2),xx,.mit (G 2) (S7 sm) bs (S7 sm)]
theorem pw_b(hla:ah la)(hl:l.length<4611686018427387904)(hT:∀x∈l,∀y∈l,x.f7=y.f7->x=y)(h1:((cz la).2 != 0)=N)(h2:((bX la).2.2 != 0)=J):(CW S5 lL [] N (wP (al Uy) 4) (pwS w bO st sm rs la as_ m1 m2 l bs) .ret (pwX w (bX la).2.2)):=by let v0:=(zg0 l);refine yx ze7 [.c (Tp (Γ':=lL) (@qu (eP (TC w)) (eP (zdz 0)) (zfO sm) (eP (zhl 4 0 w bO)) (zb8 rs 0) (eP (zfj st as_)) (zbf m1) (zbf m2) (zi6 sm bs) l hl hT)),((by subst v0;simp_all):bE (UF l leS)=S2 (λx=>S2 D.p x) v0),(?_:(zaC 8 v0 (bp 0 sm))=bp 0 sm),(?_:S2 (Tz (cw 8 0 v0)) (ad (sU rs))=ad (sU rs)),(?_:(zaC 8 v0 (aG 0 m1))=aG 0 m1),(?_:(zaC 8 v0 (aG 0 m2))=aG 0 m2),.o (Λ 8 v0),.v (Tp (Γ':=lL) (@iQ la hla (N8 w bO st sm rs as_ m1 m2 l bs))),.b h1,.v (Tp (Γ':=lL) (@lA la hla (N7 w bO st sm rs la as_ m1 m2 l bs))),.b h2]<;>subst v0<;>(first|exact aB _ _|exact dg _ _ _|exact cK _ _ _)
noncomputable abbrev N9(w:eQ)(bO:Int)(st:Int)(sm:SM)(rs:iF)(la:iN)(as_:bv)(m1:IM)(m2:IM)(l:If)(bs:iS):aT:=[eP (ZA w),eP [ab (zg0 l),(ZM 10000 ((cz la).fst)),eO 0,eO 0],NI (bp 0 sm) (S7 sm),eP (zhl 4 0 w bO),.eY (ad (sU rs)) 0 5,eP (zfj st as_),NI (aG 0 m1) (S7 m1),NI (aG 0 m2) (S7 m2),xx,.mit (G 2) (S7 sm) bs (S7 sm)]
noncomputable abbrev Oa(w:eQ)(bO:Int)(st:Int)(sm:SM)(rs:iF)(as_:bv)(m1:IM)(m2:IM)(l:If)(bs:iS):aT:=[eP (ZA w),eP [ab (zg0 l),eO 0,eO 0,eO 0],NI (bp 0 sm) (S7 sm),eP (zhl 4 0 w bO),.eY (ad (sU rs)) 0 5,eP (zfj st as_),NI (aG 0 m1) (S7 m1),NI (aG 0 m2) (S7 m2),xx,.mit (G 2) (S7 sm) bs (S7 sm)]
theorem pw_c(hla:ah la)(hl:l.length<4611686018427387904)(hT:∀x∈l,∀y∈l,x.f7=y.f7->x=y)(h1:((cz la).2 != 0)=N)(h2:((bX la).2.2 != 0)=N):(CW S5 lL [] N (wP (al Uy) 4) (pwS w bO st sm rs la as_ m1 m2 l bs) .ret (pwE w rs la l)):=by let v0:=(zg0 l);refine yx ze7 [.c (Tp (Γ':=lL) (@qu (eP (TC w)) (eP (zdz 0)) (zfO sm) (eP (zhl 4 0 w bO)) (zb8 rs 0) (eP (zfj st as_)) (zbf m1) (zbf m2) (zi6 sm bs) l hl hT)),((by subst v0;simp_all):bE (UF l leS)=S2 (λx=>S2 D.p x) v0),(?_:(zaC 8 v0 (bp 0 sm))=bp 0 sm),(?_:S2 (Tz (cw 8 0 v0)) (ad (sU rs))=ad (sU rs)),(?_:(zaC 8 v0 (aG 0 m1))=aG 0 m1),(?_:(zaC 8 v0 (aG 0 m2))=aG 0 m2),.o (Λ 8 v0),.v (Tp (Γ':=lL) (@iQ la hla (Oa w bO st sm rs as_ m1 m2 l bs))),.b h1,.v (Tp (Γ':=lL) (@lA la hla (N9 w bO st sm rs la as_ m1 m2 l bs))),.b h2,((by subst v0;grind):ad (sU rs)=S2 (λx=>S2 D.p x) (sU rs)),(?_:(zaC 4 (sU rs) (bp 0 sm))=bp 0 sm),(?_:(zaC 4 (sU rs) (aG 0 m1))=aG 0 m1),(?_:(zaC 4 (sU rs) (aG 0 m2))=aG 0 m2),pe (TF [ab v0,(ZM 10000 ((cz la).fst)),eO (bX la).fst,eO (bX la).2.fst]),pe zcN,pe zcN,pe zcN,pe zcN,po (G (ab (sU rs))),po (G (ab (sU rs))),.o (Λ 4 (sU rs))]<;>subst v0<;>(first|exact aB _ _|exact dg _ _ _|exact cK _ _ _)
def Ff:Code->Code
 |.seq (.seq a _) _=>a
 |_=>.skip
theorem Jc:(CW S5 lL [] N (Ff (zf (al Uy) 4)) (nbE w bO st sm rs cs as_ m1 m2) w8 {t:=qm 190 0 (mpT cs),h:=mpH w bO st sm rs as_ m1 m2 [] [],m:=[]}):=yx [E6 (IW [10,11,17,19,150])] [.o (.zhs 1 0 4)]
def opAt(c:Code)(i:Nat):Oper:=match c with
 |.seq (.region _ ops _) _=>ops.toList.getD i default
 |_=>default
theorem CJ:zf (al Uy) 4=.seq (.seq (Ff (zf (al Uy) 4)) (.block 8 (.loop (.seq (.region 40 #[opAt (sub Uy 4) 0,opAt (sub Uy 4) 1] false) (.seq (.cond (.tmp 152) .skip (.exit 8)) (LV (sub Uy 4))))))) (wP (al Uy) 4):=by kernel_rfl
theorem uG:∀(n i:Nat) (l:List (Nat×D)),(qm n i l).length=n
 |0,_,_=>rfl
 |n+1,i,[]=>by simp[qm,uG n]
 |n+1,i,(k,d)::l=>by unfold qm;split<;>simp[uG n]
def smV(m:SM):If:=m.map (·.2)
theorem uH:∀{m:SM} {j:Nat} {e:D×D×Nat},e∈bp j m->∃k s,e=(eO k,seD s,e.2.2)/\j<=e.2.2/\e.2.2<j+m.length
 | [],_,_,h=>by simp[bp] at h
 |(k,s)::m,j,e,h=>by
  simp[bp] at h;rcases h with rfl|h
  ·grind
  ·obtain⟨k',s',h1,h2,h3⟩:=uH h;grind
theorem jY:∀(m:SM) (j:Nat),cE (bp j m)=List.range' j m.length
 | [],_=>rfl
 |(k,s)::m,j=>by have:=jY m (j+1);simp[cE] at this;simp[bp,List.range'_succ,this]
theorem xj:∀(m:SM) (j:Nat),(bp j m).map LU=smV m
 | [],_=>rfl
 |(k,s)::m,j=>by have:=xj m (j+1);simp only[bp,U5,this,smV];rfl
theorem qv:∀{l:List (D×D×Nat)} {e:D×D×Nat},(cE l).Nodup->e∈l->l.find? (λx=>x.2.2==e.2.2)=G e
 |a::l,e,hn,he=>by
  rw[List.find?_cons];simp only[U5,List.nodup_cons] at hn;rcases List.mem_cons.1 he with rfl|he
  ·simp
  ·have:(a.2.2==e.2.2)=N:=by simp only[beq_eq_false_iff_ne,ne_eq];intro hh;exact hn.1 (hh▸T2.2 ⟨e,he,rfl⟩)
   rw[this];exact qv hn.2 he
abbrev mpS(w:eQ)(bO st:Int)(sm:SM)(rs:iF)(la:iN)(as_:bv)(m1 m2:IM)(pre:List (D×D×Nat)):AS :={t:=qm 190 0 (mpT (la.map Tb)),h:=mpH w bO st sm rs as_ m1 m2 (pre.map LU) (cE pre),m:=[]}
theorem Ob{sF:AS}(hsm:sm.length<=1000000)(ztd:∀(l:If) (bs:iS),l.Perm (smV sm)->CW S5 lL [] N (wP (al Uy) 4) (pwS w bO st sm rs la as_ m1 m2 l bs) .ret sF) :CW S5 lL [] N (zf (al Uy) 4) (nbE w bO st sm rs (la.map Tb) as_ m1 m2) .ret sF:=by
 intro X r hX hr;rw[CJ];have hnd:(cE (bp 0 sm)).Nodup:=by rw[jY];exact List.nodup_range'
 refine VW.seq (VW.seq (VW.mono (Jc X r hX hr) ?_));rintro e0 s0 ⟨rfl,rfl⟩;show VW S5 lL X r _ _ (mpS w bO st sm rs la as_ m1 m2 []);refine(VW.block (VW.mapLoop (kvs:=bp 0 sm) (clock:=sm.length) (b:=9) (mb:=2) (x1:=151) (x2:=152) (it:=.tmp 150) (mpS w bO st sm rs la as_ m1 m2) Z Z Z Z Z Z ?_ ?_ hnd ?_ ?_));·intro pre;exact⟨by simp[uG],by simp[uG],rfl,rfl,rfl,rfl,λ_=>rfl⟩
 ·intro e he;obtain⟨_,_,_,_,h⟩:=uH he;omega
 ·intro pre e post hp;have hem:e∈bp 0 sm:=hp.mem_iff.1 qk;obtain⟨k,s,h1,_,_⟩:=uH hem;have hlen:pre.length<=1000000:=by
   have:=hp.length_eq;have h2:(bp 0 sm).length=sm.length:=by have:=congrArg S7 (jY sm 0);simpa[cE] using this
   simp only[Uk,List.length_cons] at this;omega
  have hen:jv (mpH w bO st sm rs as_ m1 m2 (pre.map LU) (cE (pre++[e]))) (gM (.it 9))=G (uN [eO k,mS (zaX s)]):=by
   have hl:(cE (pre++[e])).getLast? = G e.2.2:=by simp[cE]
   have hf:=qv hnd hem;unfold jv;simp only[mpH,List.getElem?_cons_succ,List.getElem?_cons_zero,hl,smB,if_true,hf,Option.map_some];rw[h1];rfl
  have hb:=N5 (w:=w) (bO:=bO) (st:=st) (sm:=sm) (rs:=rs) (cs:=la.map Tb) (as_:=as_) (m1:=m1) (m2:=m2) (l:=pre.map LU) (bs:=cE (pre++[e])) (k:=k) (x:=s) mW hen X r hX hr;have hse:(pre++[e]).map LU=pre.map LU++[s]:=by rw[List.map_append,h1];rfl
  have he1:e.1=eO k:=by rw[h1]
  have he2:e.2.1=seD s:=by rw[h1]
  rw[he1,he2];refine VW.mono hb ?_;grind
 ·intro pre hp;have zoP:(pre.map LU).Perm (smV sm):=by rw[<-xj sm 0];exact hp.map _
  exact ztd (pre.map LU) (cE pre) zoP X r hX hr
theorem uI(a b:Jv):leS a b=J ↔ a.f7<=b.f7:=by grind [Bool.not_eq_true',uE,leS]
theorem xk(a b c:Jv)(h1:leS a b=J)(h2:leS b c=J):leS a c=J:=by grind [uI]
theorem xl(a b:Jv):(leS a b||leS b a)=J:=by rw[Bool.or_eq_true,uI,uI];omega
def Oc(l:If):Prop:=∀x∈l,∀y∈l,x.f7=y.f7->x=y
theorem CK{l':If}(hp:l.Perm l')(hd:Oc l'):l.mergeSort leS=l'.mergeSort leS:=by
 refine List.Perm.eq_of_pairwise (le:=λa b=>leS a b=J) ?_ (YI xk xl _) (YI xk xl _) ((X0 _ _).trans (hp.trans (X0 _ _).symm));intro a b ha hb h1 h2;have ha':a∈l':=hp.mem_iff.1 (by simpa using ha);have hb':b∈l':=by simpa using hb
 rw[uI] at h1 h2;exact hd a ha' b hb' lj
def zmn(m:SM):Prop:=(m.map (·.1)).Nodup/\∀e∈m,e.2.f7=e.1
theorem mP(m:SM)(k:Int)(v:Jv):(cY m k v).map (·.1)=if k∈m.map (·.1) then m.map (·.1) else m.map (·.1)++[k]:=by
 induction m with
 |nil=>simp[cY]
 |cons e m ih=>obtain⟨a,x⟩:=e;unfold cY;grind
theorem zqS{e:Int×Jv}(h:e∈cY m k v):e=(k,v)\/e∈m:=by
 induction m with
 |nil=>grind [cY]
 |cons a m ih=>grind [cY]
theorem zmn.put(h:zmn m)(hv:v.f7=k):zmn (cY m k v):=by
 refine⟨?_,λe he=>?_⟩
 ·rw[mP];split;·exact h.1
  ·rename_i hk;rw[List.nodup_append];refine⟨h.1,qk,λa ha b hb=>?_⟩;grind
 ·rcases zqS he with rfl|he;·exact hv
  ·exact h.2 e he
theorem zmn.dist(h:zmn m):Oc (smV m):=by
 intro x hx y hy hxy;obtain⟨⟨k,s⟩,he,rfl⟩:=T2.1 hx;obtain⟨⟨k',s'⟩,he',rfl⟩:=T2.1 hy;have h1:=h.2 _ he;have h2:=h.2 _ he';simp only at h1 h2 hxy;have hk:k=k':=by rw[<-h1,<-h2,hxy]
 subst hk;have key:∀(m:SM),(m.map (·.1)).Nodup->(k,s)∈m->(k,s')∈m->s=s':=by
  intro m;induction m with
  |nil=>grind
  |cons a m ih=>grind
 exact key m h.1 he he'
theorem xm:∀(l:bV) (x:Jv),(l.foldl (xF m1 m2) x).f7=x.f7
 | [],_=>rfl
 |c::l,x=>by rw[List.foldl_cons,xm l];grind [xF]
theorem Fg{w:eQ}{bO eF:Int}{m1 m2:IM}:∀(ns:bV) (s:RSM),zmn s.2->zmn (ns.foldl (nbF w bO eF m1 m2) s).2/\(ns.foldl (nbF w bO eF m1 m2) s).2.length<=s.2.length+ns.length
 | [],s,h=>⟨h,qk⟩
 |n::ns,s,h=>by
  have h1:zmn (nbF w bO eF m1 m2 s n).2:=by
   unfold nbF;cases fE ((zkC w bO eF m1 m2 s.2 n).tries>0);·exact h
   ·exact h.put (xm _ _)
  have h2:(nbF w bO eF m1 m2 s n).2.length<=s.2.length+1:=by
   unfold nbF;cases fE ((zkC w bO eF m1 m2 s.2 n).tries>0);·simp
   ·have:=congrArg S7 (mP s.2 n (zkC w bO eF m1 m2 s.2 n));grind
  have h3:=Fg (w:=w) (bO:=bO) (eF:=eF) (m1:=m1) (m2:=m2) ns _ h1;grind
theorem Bf:∀(now:bV) (s:Int×SM) {s':Int×SM},zmn s.2->xz snF now s=.inl s'->zmn s'.2/\s'.2.length<=s.2.length+now.length
 | [],s,s',h,he=>by grind [xz,Sum.inl.injEq]
 | c::now,s,s',h,he=>by
  simp[xz,snF] at he;cases hk:ST s.1 c<;>rw[hk] at he;·simp at he
  ·simp at he;have h3:=Bf now _ (h.put (k:=c) (v:=⟨c,0,-1,true⟩) rfl) he;have:=congrArg S7 (mP s.2 c ⟨c,0,-1,true⟩);grind
def zoI(la:iN):Unit⊕Int:=if (cz la).2 != 0 then .inr (cz la).2 else if (bX la).2.2 != 0 then .inr (bX la).2.2 else .inl ()
def CL(w:eQ)(rs:iF)(la:iN)(l:If):Exit×AS:=bf .ret (λ_:Unit=>pwE w rs la l) (λe:Int=>(.ret,pwX w e)) (zoI la)
theorem Fh(w:eQ)(rs:iF)(la:iN)(l:If):(CL w rs la l).1=.ret:=by unfold CL;cases zoI la<;>rfl
theorem Od{w:eQ}{bO st:Int}{sm:SM}{rs:iF}{la:iN}{as_:bv}{m1 m2:IM}(hla:ah la)(Φ:zmn sm)(hsm:sm.length<=1000000):CW S5 lL [] N (zf (al Uy) 4) (nbE w bO st sm rs (la.map Tb) as_ m1 m2) (CL w rs la (smV sm)).1 (CL w rs la (smV sm)).2:=by
 rw[Fh];refine Ob hsm λl bs hp=>?_;have hd:Oc l:=λx hx y hy=>Φ.dist x (hp.mem_iff.1 hx) y (hp.mem_iff.1 hy);have hl:l.length<4611686018427387904:=by have:=hp.length_eq;simp only[smV,List.length_map] at this;omega
 have hs:=CK hp Φ.dist;unfold CL zoI;cases h1:((cz la).2 != 0)
 ·cases h2:((bX la).2.2 != 0);·have:=pw_c (w:=w) (bO:=bO) (st:=st) (sm:=sm) (rs:=rs) hla (as_:=as_) (m1:=m1) (m2:=m2) (bs:=bs) hl hd h1 h2;rw[pwE,hs] at this;exact this
  ·exact pw_b (w:=w) (bO:=bO) (st:=st) (sm:=sm) (rs:=rs) hla (as_:=as_) (m1:=m1) (m2:=m2) (bs:=bs) hl hd h1 h2
 ·exact pw_a (w:=w) (bO:=bO) (st:=st) (sm:=sm) (rs:=rs) hla (as_:=as_) (m1:=m1) (m2:=m2) (bs:=bs) hl hd h1
def xn(e:Int):D:=uN [mS (ziM fw),fw,eO e]
def sitOk(seen:If)(xe n d:Int)(rs:iF):D:=uN [mS [ab (seen.map TQ),eO xe,eO n,eO d],ab (sU rs),eO 0]
noncomputable abbrev s9(w:eQ):aT:=[eP (ZA w),eP zaA]
theorem Oe(hb:(!(fE (st>=0)&&fE (st<=19999))||!(fE (eF>=0)&&fE (eF<=1023)))=J)(h:aT):(Ev S5 lL 33 [mS w.l,eO st,eO eF,eO bO,ab (zaQ now)] h (xn 150) h):=y0 [.v (Tp (Γ':=lL) (@bc st 0 19999 (s9 w))),.w (!!(fE (st>=0)&&fE (st<=19999))) (Tp (Γ':=lL) (@bc eF 0 1023 (s9 w))),.b hb] h
def mQ(w:eQ)(bO eF:Int)(aa:iN)(rs:iF)(sm:SM):RSM:=(af w.f bO).foldl (nbF w bO eF (bg aa).1 (bg aa).2) (rs,sm)
def Og(w:eQ)(bO eF:Int)(now:bV)(rr qq:iF)(aa la:iN)(ee:Int):D:=match snR now with
 |.inr _=>xn 150
 |.inl s=>match (ee != 0) with
  |true=>xn ee
  |false=>match zoI la with
   |.inr e=>xn e
   |.inl _=>sitOk ((smV (mQ w bO eF aa (rr++qq++[rdN]) s.2).2).mergeSort leS) (mnI (cz la).1 10000) (bX la).1 (bX la).2.1 (mQ w bO eF aa (rr++qq++[rdN]) s.2).1
theorem Fi{ns:bV}(h:snR now=.inl s):zmn (ns.foldl (nbF w bO eF m1 m2) (rs,s.2)).2 :=(Fg ns (rs,s.2) (Bf now (-1,[]) ⟨by simp,by simp⟩ h).1).1
theorem zp{ns:bV}(hn:now.length<=1000)(hs:ns.length<=1000)(h:snR now=.inl s):(ns.foldl (nbF w bO eF m1 m2) (rs,s.2)).2.length<=1000000:=by have h1:=(Fg (w:=w) (bO:=bO) (eF:=eF) (m1:=m1) (m2:=m2) ns (rs,s.2) (Bf now (-1,[]) ⟨by simp,by simp⟩ h).1).2;have h2:=(Bf now (-1,[]) ⟨by simp,by simp⟩ h).2;grind
noncomputable abbrev eI(w:eQ):aT:=[eP (ZA w),eP zaA]
abbrev zhy(a:eQ)(b:Int×SM)(c:bY)(d:List (bY))(e:Nat)(f:bY)(g:iN):aT:=[eP (TC a),eP zaA,NI (bp 0 b.2) (S7 b.2),eP c,.eY d e 5,eP f,NI (aG 0 (bg g).fst) (S7 (bg g).fst),NI (aG 0 (bg g).2) (S7 (bg g).2)]
abbrev zhO(a:eQ)(b:Int×SM)(c:bY)(d:List (bY))(e:Nat)(f:bY):aT:=[eP (TC a),eP zaA,NI (bp 0 b.2) (S7 b.2),eP c,.eY d e 5,eP f]
abbrev zhT(a:eQ)(b:Int×SM)(c:bY)(d:List (bY))(e:Nat):aT:=[eP (TC a),eP zaA,NI (bp 0 b.2) (S7 b.2),eP c,.eY d e 5]
theorem sit_a(hw:w.ok)(hn:now.length<=1000)(hl:ah now)(hN:(af w.f bO).length<=100)(hN2:(af w.f bO).length<=1000){rr qq:iF}{aa:iN}{ee:Int}(haa:ah aa)(hla:ah la)(hrs:(rr++qq++[rdN]).length<=800000000)(hrq:(rr++qq).length<=999999000)(hof:Ev S5 lL 91 (zbF 0 st eF) (lkH w bO [] 0) (.agg [eO st,ab (aa.map Tb)]) (lkH w bO rr 1)) (zlL:Ev S5 lL 92 [.ref (.ptr 0 0),ab (aa.map Tb),eO eF] (lkH w bO rr 0) (.Pp [ab (la.map Tb),eO ee]) (lkH w bO (rr++qq) 1))(hb:(!(fE (st>=0)&&fE (st<=19999))||!(fE (eF>=0)&&fE (eF<=1023)))=false) (h:aT):(Ev S5 lL 33 [.agg w.l,eO st,eO eF,eO bO,ab (zaQ now)] h (Og w bO eF now rr qq aa la ee) h):=by
 have xd:=(@sn_cw (w) (st) (eF) (bO) (now) (hl));unfold NW at xd;revert xd;cases ho1:snR now with
 | inl Fa =>
  intro xd;cases hc2:ee != 0
  ·have hl3:=(@st_cw (w) (bO) (st) (eF) (Fa.2) (rr++qq) (S2 Tb la) (aa) (haa));have hl4:=(@nb_cw (w) (hw) (bO) (st) (eF) (hN) (Fa.2) (rr++qq++[rdN]) (hrs) (S2 Tb la) (S2 Tb aa) ((bg aa).fst) ((bg aa).2));have hl5:=(@Od (w) (bO) (st) ((TE (nbF w bO eF (bg aa).fst (bg aa).2) (rr++qq++[rdN],Fa.2) (af w.f bO)).2) ((TE (nbF w bO eF (bg aa).fst (bg aa).2) (rr++qq++[rdN],Fa.2) (af w.f bO)).fst) (la) (S2 Tb aa) ((bg aa).fst) ((bg aa).2) (hla) (by first|assumption|rfl|omega|exact Fi (by assumption)|exact zp hn hN2 (by assumption)|exact aB _ _|exact dg _ _ _|exact cK _ _ _|exact ge|exact sZ|exact br) (by first|assumption|rfl|omega|exact Fi (by assumption)|exact zp hn hN2 (by assumption)|exact aB _ _|exact dg _ _ _|exact cK _ _ _|exact ge|exact sZ|exact br));unfold CL at hl5;revert hl5;cases ho6:zoI la with
   | inl o6_0_0 =>intro hl5;let v0:=TE (nbF w bO eF (bg aa).fst (bg aa).2) (rr++qq++[rdN],Fa.2) (af w.f bO);let v1:bY:=(zhl 4 0 w bO);let v2:bY:=(zhl 4 1 w bO);let v3:bY:=(zfj st (S2 Tb aa));let v4:bY:=[ab (zg0 (smV v0.2)),eO (mnI (cz la).fst 10000),eO (bX la).fst,eO (bX la).2.fst];refine yD (TT [TF v4,ab (sU v0.fst),eO 0]) [.v (Tp (Γ':=lL) (@bc st 0 19999 (eI w))),.w (!!(fE (st>=0)&&fE (st<=19999))) (Tp (Γ':=lL) (@bc eF 0 1023 (eI w))),.b hb,.s [1,2,3,5,10,11,12,13,14,42,43,44] xd,.n 1,.o (.zhs 3 0 5),.c ((fX [3,4] (@hof) ⟨(by subst v0 v1 v2 v3 v4;grind),trivial⟩ ⟨(by subst v0 v1 v2 v3 v4;exact aj _ _),trivial⟩):Ev S5 lL 91 (zbF 3 st eF) (zhT w Fa v1 [] 0) (TF v3) (zhT w Fa v2 (ad (sU rr)) 1)),(?_:S2 (Tz (ar 4 1 0)) (ad (sU rr))=ad (sU rr)),(?_:(zav 4 (bp 0 Fa.2))=bp 0 Fa.2),.o (.ren 4 0),.c ((fX [3,4] (@zlL) ⟨(by subst v0 v1 v2 v3 v4;exact aj _ _),trivial⟩ ⟨(by subst v0 v1 v2 v3 v4;exact aj _ _),trivial⟩):Ev S5 lL 92 (zf7 3 aa eF) (zhO w Fa v1 (ad (sU rr)) 0 v3) (zjc la ee) (zhO w Fa v2 (zct rr qq) 1 v3)),.b hc2,(?_:S2 (Tz (ar 4 1 0)) (zct rr qq)=ad (sU (rr++qq))),(?_:(zav 4 (bp 0 Fa.2))=bp 0 Fa.2),.o (.ren 4 0),.s [2,10,11,13,17,19,20,21,80,81,82] hl3,.c ((fX [3,4] (@u6 w hw bO (rr++qq) hrq) ⟨(by subst v0 v1 v2 v3 v4;exact aj _ _),trivial⟩ ⟨(by subst v0 v1 v2 v3 v4;exact aj _ _),trivial⟩):Ev S5 lL 93 zek (zhy w Fa v1 (zct rr qq) 0 v3 aa) (ab (zcd (af w.f bO))) (zhy w Fa v2 (zdJ rr qq [rdN]) 1 v3 aa)),(?_:S2 (Tz (ar 4 1 0)) (zdJ rr qq [rdN])=ad (sU (rr++qq++[rdN]))),(?_:(zav 4 (bp 0 Fa.2))=bp 0 Fa.2),(?_:(zav 4 (aG 0 (bg aa).fst))=aG 0 (bg aa).fst),(?_:(zav 4 (aG 0 (bg aa).2))=aG 0 (bg aa).2),.o (.ren 4 0),.s [2,10,11,13,17,19,20,21,102,103,104] hl4,hl5,.a1 (.zkB [10,11,13,17,19] VM {t:=qm 190 0 [WF,(11,ab (sU v0.fst)),(12,eO 0)],h:=[.var (TC w),.var v4]})] h (by subst v0 v1 v2 v3 v4;(simp only[Og,ho1,hc2,ho6];first|done|rfl))<;>subst v0 v1 v2 v3 v4<;>(first|exact aB _ _|exact dg _ _ _|exact cK _ _ _)
   | inr zsK =>intro hl5;let v0:bY:=(zhl 4 0 w bO);let v1:bY:=(zhl 4 1 w bO);let v2:bY:=(zfj st (S2 Tb aa));refine yD (TT [TF zaA,nq,eO zsK]) [.v (Tp (Γ':=lL) (@bc st 0 19999 (eI w))),.w (!!(fE (st>=0)&&fE (st<=19999))) (Tp (Γ':=lL) (@bc eF 0 1023 (eI w))),.b hb,.s [1,2,3,5,10,11,12,13,14,42,43,44] xd,.n 1,.o (.zhs 3 0 5),.c ((fX [3,4] (@hof) ⟨(by subst v0 v1 v2;grind),trivial⟩ ⟨(by subst v0 v1 v2;exact aj _ _),trivial⟩):Ev S5 lL 91 (zbF 3 st eF) (zhT w Fa v0 [] 0) (TF v2) (zhT w Fa v1 (ad (sU rr)) 1)),(?_:S2 (Tz (ar 4 1 0)) (ad (sU rr))=ad (sU rr)),(?_:(zav 4 (bp 0 Fa.2))=bp 0 Fa.2),.o (.ren 4 0),.c ((fX [3,4] (@zlL) ⟨(by subst v0 v1 v2;exact aj _ _),trivial⟩ ⟨(by subst v0 v1 v2;exact aj _ _),trivial⟩):Ev S5 lL 92 (zf7 3 aa eF) (zhO w Fa v0 (ad (sU rr)) 0 v2) (zjc la ee) (zhO w Fa v1 (zct rr qq) 1 v2)),.b hc2,(?_:S2 (Tz (ar 4 1 0)) (zct rr qq)=ad (sU (rr++qq))),(?_:(zav 4 (bp 0 Fa.2))=bp 0 Fa.2),.o (.ren 4 0),.s [2,10,11,13,17,19,20,21,80,81,82] hl3,.c ((fX [3,4] (@u6 w hw bO (rr++qq) hrq) ⟨(by subst v0 v1 v2;exact aj _ _),trivial⟩ ⟨(by subst v0 v1 v2;exact aj _ _),trivial⟩):Ev S5 lL 93 zek (zhy w Fa v0 (zct rr qq) 0 v2 aa) (ab (zcd (af w.f bO))) (zhy w Fa v1 (zdJ rr qq [rdN]) 1 v2 aa)),(?_:S2 (Tz (ar 4 1 0)) (zdJ rr qq [rdN])=ad (sU (rr++qq++[rdN]))),(?_:(zav 4 (bp 0 Fa.2))=bp 0 Fa.2),(?_:(zav 4 (aG 0 (bg aa).fst))=aG 0 (bg aa).fst),(?_:(zav 4 (aG 0 (bg aa).2))=aG 0 (bg aa).2),.o (.ren 4 0),.s [2,10,11,13,17,19,20,21,102,103,104] hl4,hl5,.a1 (.zkB [10,11,13,17,19] VM {t:=qm 190 0 [WF,(11,nq),(12,eO zsK)],h:=(eI w)})] h (by subst v0 v1 v2;(simp[Og,ho1,hc2,ho6];first|done|rfl))<;>subst v0 v1 v2<;>(first|exact aB _ _|exact dg _ _ _|exact cK _ _ _)
  ·let v0:bY:=(zhl 4 0 w bO);let v1:bY:=(zhl 4 1 w bO);let v2:bY:=(zfj st (S2 Tb aa));refine yD (TT [TF zaA,nq,eO ee]) [.v (Tp (Γ':=lL) (@bc st 0 19999 (eI w))),.w (!!(fE (st>=0)&&fE (st<=19999))) (Tp (Γ':=lL) (@bc eF 0 1023 (eI w))),.b hb,.s [1,2,3,5,10,11,12,13,14,42,43,44] xd,.n 1,.o (.zhs 3 0 5),.c ((fX [3,4] (@hof) ⟨(by subst v0 v1 v2;grind),trivial⟩ ⟨?_,trivial⟩):Ev S5 lL 91 (zbF 3 st eF) (zhT w Fa v0 [] 0) (TF v2) (zhT w Fa v1 (ad (sU rr)) 1)),((by subst v0 v1 v2;exact aB _ _):S2 (Tz (ar 4 1 0)) (ad (sU rr))=ad (sU rr)),((by subst v0 v1 v2;exact dg _ _ _):S2 (λe=>(Ty (ar 4 1 0) e.fst,Ty (ar 4 1 0) e.2.fst,e.2.2)) (bp 0 Fa.2)=bp 0 Fa.2),.o (.ren 4 0),.c ((fX [3,4] (@zlL) ⟨?_,trivial⟩ ⟨?_,trivial⟩):Ev S5 lL 92 (zf7 3 aa eF) (zhO w Fa v0 (ad (sU rr)) 0 v2) (zjc la ee) (zhO w Fa v1 (zct rr qq) 1 v2)),.b hc2] h (by subst v0 v1 v2;(simp[Og,ho1,hc2];first|done|rfl))<;>subst v0 v1 v2<;>(exact aj _ _)
 | inr Α =>intro xd;exact yD (TT [TF zaA,nq,eO 150]) [.v (Tp (Γ':=lL) (@bc st 0 19999 (eI w))),.w (!!(fE (st>=0)&&fE (st<=19999))) (Tp (Γ':=lL) (@bc eF 0 1023 (eI w))),.b hb,.s [1,2,3,5,10,11,12,13,14,42,43,44] xd] h (by(simp[Og,ho1];first|done|rfl))
def xp(last:Int)(x:Jv):Bool:=!(fE (x.f7>=last+1)&&fE (x.f7<=4095))||!(fE (x.tries>=0)&&fE (x.tries<=100))||!(fE (x.uR >= -1)&&fE (x.uR<=12))||(fE (x.uR>=0) != fE (x.tries>=1))
def HZ(x:Jv)(last:Int):Int⊕Unit:=bif xp last x then .inr () else .inl x.f7
abbrev zcP(a:D)(b c f:Int):aT:=[eP [a,eO b,eO c,eO f]]
abbrev SU(l:bv)(e n d:Int)(last i:Int):AS:={t:=qm 53 0 [zdN,(2,eO 0),(3,eO last),(7,ab l),(8,eO l.length),(9,eO i)],h:=(zcP (ab l) e n d),m:=[]}
abbrev sftE(l:bv)(e n d:Int):AS:={t:=qm 53 0 [zdN],h:=(zcP (ab l) e n d),m:=[]}
abbrev sftX:Unit->Exit×AS:=λ_=>(.ret,{t:=qm 53 0 [(2,eO 120)],h:=[],m:=[]})
noncomputable abbrev dW(l:bv)(e:Int)(n:Int)(d:Int)(x:Jv):aT:=[eP [ab l,eO e,eO n,eO d],eP (zaX x)]
theorem Jd{l:List (List Dp)}(hr:ao (i:Int) l x.row 4)(hlw:S6.wrap (last+1)=last+1)(oA:fE ((i:Int)<(l.length:Int))=true)(hw:S6.wrap ((i:Int)+1)=((i+1:Nat):Int)):(CW S5 ji [] false (sub Tryz.f170 0) (SU l e n d last i) (ai (λs=>SU l e n d s ((i+1:Nat):Int)) sftX (HZ x last)).1 (ai (λs=>SU l e n d s ((i+1:Nat):Int)) sftX (HZ x last)).2):=by
 cases sR:!(fE (x.f7>=S8 S6 (last+1))&&fE (x.f7<=4095))||!(fE (x.tries>=0)&&fE (x.tries<=100))||!(fE (x.uR >= -1)&&fE (x.uR<=12))||!fE (x.uR>=0)==fE (x.tries>=1)
 ·refine yX {t:=qm 53 0 [(1,.ref (.ptr 0 0)),(2,eO 0),(3,eO x.f7),(7,ab l),(8,eO (↑(S7 l):Int)),(9,eO (S8 S6 ((↑i:Int)+1)))],h:=[.var [ab l,eO e,eO n,eO d]],m:=[]} Tr [.st (.mask [1,2,3,7,8,9]),.st (.trim 1)] [.b oA,.r hr,.v (@a7 (x.f7) (S8 S6 (last+1)) 4095 (dW l e n d x)),.w (!!(fE (x.f7>=S8 S6 (last+1))&&fE (x.f7<=4095))) (@a7 (x.tries) 0 100 (dW l e n d x)),.w (!(!(fE (x.f7>=S8 S6 (last+1))&&fE (x.f7<=4095))||!(fE (x.tries>=0)&&fE (x.tries<=100)))) (@a7 (x.uR) (-1) 12 (dW l e n d x)),.b sR] ?_ ?_<;>(have hh:xp last x=false:=(by have:=sR;rw[hlw] at this;exact this);simp only[HZ,hh,cond_false];first|done|rfl|(rw[hw];rfl))
 ·refine yX {t:=qm 53 0 [(2,eO 120)],h:=[],m:=[]} VM [.st (.mask [2]),.st (.trim 0)] [.b oA,.r hr,.v (@a7 (x.f7) (S8 S6 (last+1)) 4095 (dW l e n d x)),.w (!!(fE (x.f7>=S8 S6 (last+1))&&fE (x.f7<=4095))) (@a7 (x.tries) 0 100 (dW l e n d x)),.w (!(!(fE (x.f7>=S8 S6 (last+1))&&fE (x.f7<=4095))||!(fE (x.tries>=0)&&fE (x.tries<=100)))) (@a7 (x.uR) (-1) 12 (dW l e n d x)),.b sR] ?_ ?_<;>(have hh:xp last x=true:=(by have:=sR;rw[hlw] at this;exact this);simp only[HZ,hh,cond_true];first|done|rfl)
theorem Je{l:bv}(oA:fE ((i:Int)<(l.length:Int))=N):(CW S5 ji [] N (sub Tryz.f170 0) (SU l e n d last i) (EY 0) (sftE l e n d)):=yx (zeI 1) [.b oA]
def Fj(l:If)(e n d:Int):Exit×AS:=bf (EY 0) (λ_:Int=>sftE (l.map TQ) e n d) sftX (xz HZ l (-1))
theorem sft_bd{s:Int}(hl : -1<=last)(h:HZ x last=.inl s):-1<=s/\s<=4095:=by unfold HZ at h;cases hb:xp last x<;>rw[hb] at h<;>simp at h;grind [xp]
theorem sft_cw{l:If}{e n d:Int}(hl:ah l):CW S5 ji [] false (.loop (sub Tryz.f170 0)) (SU (l.map TQ) e n d (-1) 0) (Fj l e n d).1 (Fj l e n d).2:=by
 refine UR l HZ (λi s=>SU (l.map TQ) e n d s (i:Int)) (.exit 0) (λ_=>sftE (l.map TQ) e n d) sftX (λ_ s => -1<=s/\s<=4095) (by simp) (λ_=>by simp[sftX]) ?_ ?_ (-1) (by omega);·intro i x s hx hs;have hi:=(Td.1 hx).1;exact⟨λs' h=>sft_bd hs.1 h,Jd (rowAt hx rfl) (wrap_i64 (by omega) (by omega)) (F1 TQ hi) (sV hi hl)⟩
 ·intro s _;exact Je (aR TQ l)
def uJ(l:If)(e n d:Int):Int:=match xz HZ l (-1) with
 |.inr _=>120
 |.inl _=>bif (!(fE (e>=0)&&fE (e<=10000))||!(C0 n d)) then 120 else 0
theorem Jf(hl:ah l)(hn:Pu n)(hd:Pu d)(h:aT):(Ev S5 ji 170 [mS [ab (l.map TQ),eO e,eO n,eO d]] h (eO (uJ l e n d)) h):=by
 have xd:=(@sft_cw (l) (e) (n) (d) (hl));unfold Fj at xd;revert xd;cases ho1:xz HZ l (-1) with
 |inl Fa=>
  intro xd;cases hc2:!(fE (e>=0)&&fE (e<=10000))||!(ex n d==0&&fE (n>=0)&&fE (n<=S8 S6 (12*d)))
  ·exact yD (eO 0) [.s [1,2,3,7,8,9] xd,.v (@a7 e 0 10000 (zcP (ab (S2 TQ l)) e n d)),.w (!!(fE (e>=0)&&fE (e<=10000))) (@zG n d hn hd (zcP (ab (S2 TQ l)) e n d)),.b hc2] h (by(simp only[uJ,C0,ho1,hc2,cond_false];first|done|rfl))
  ·exact yD (eO 120) [.s [1,2,3,7,8,9] xd,.v (@a7 e 0 10000 (zcP (ab (S2 TQ l)) e n d)),.w (!!(fE (e>=0)&&fE (e<=10000))) (@zG n d hn hd (zcP (ab (S2 TQ l)) e n d)),.b hc2] h (by(simp only[uJ,C0,ho1,hc2,cond_true];first|done|rfl))
 |inr Α=>intro xd;exact yD (eO 120) [.s [1,2,3,7,8,9] xd] h (by(simp[uJ,ho1];done))
end Go.Vi
