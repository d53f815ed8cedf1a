/- A part of the proof; no conditions of its own. -/
import Derived.Test.YtgalafpinkflfaaGreatDoorW10
open Bool renaming true->J,false->N
open Option renaming some->G,none->Y
open Go.Vi.F2 renaming map->Η,var->iI,loop->χ,ν->S3
open Go.Vi.Ans renaming st->δ,ov->zjr,inl->zfF
open Go.Exit renaming normal->NO,exit->η
open Go.Vi.D renaming Ρ->JV,agg->uT,ref->mW
open Go.Vi.SOp renaming frz->zed,Μ->zmj,trim->zkm,mask->τ
open Go.Vi.Ref renaming ptr->J0
open Decidable renaming decide -> lL
open Go.IntKind renaming i64 -> S6, wrap -> S8
open Go.Proofs.Tryz renaming prog -> S5, f33 -> Uy
open List renaming map -> S2, length -> S7, getElem?_eq_some_iff -> Td, foldl -> TE, length_append -> Uk, mem_map -> T2, mergeSort -> UF, map_cons -> U5, pairwise_mergeSort -> YI, mergeSort_perm -> X0
open Go.Vi.L9 renaming row -> Tc
open Go.Vi.zcR renaming row -> Tj
open Go.Vi.JX renaming row -> Ta
open Go.Exit renaming normal -> Tr, ret -> VM
open Go.Vi.Ev renaming zlh -> Tp
open Go.Vi.D renaming agg -> TF, zbk -> Tz, π -> Ty, Ρ -> TT
open Go.Vi.kc renaming l -> TC
open Go.Vi.CW renaming each -> UR
open Go.Vi.F2 renaming inn -> Tl
open Go.Vi.JZ renaming row -> Tb
open Go.Vi.ω renaming row -> TQ
open Go Go.Proofs
namespace Go.Vi
set_option maxRecDepth 100000
set_option maxHeartbeats 4000000
variable {as_ cs:bv}{b:Bool}{bs:iS}{c d e k d5 last n st fI:Int}{h:aT}{i:Nat}{la:iN}{m sm:SM}{m1 m2:IM}{now:bV}{ns:List (List Dp)}{rs:iF}{s:Int×SM}{v x:ω}{w:kc}
abbrev If:=List ω
variable {l:If}
abbrev ziM(a:D):bY:=[a,go 0,go 0,go 0]
abbrev SS:F2:=iI (ziM fw)
abbrev zdk:Nat×D:=(13,mW (.mp 2))
abbrev snS(w:kc)(st fI d5:Int)(ns:bv)(last:Int)(sm:SM)(i:Int):AS :={t:=Bn 190 0 [(1,go st),(2,go fI),(3,go d5),zbK,WF,(11,fw),(12,go 0),zdk,(14,go last),(42,ab ns),(43,go ns.length),(44,go i)],h:=[iI w.l,SS,smB sm],m:=[]}
abbrev snE(w:kc)(st fI d5:Int)(sm:SM):AS :={t:=Bn 190 0 [(1,go st),(2,go fI),(3,go d5),zbK,WF,(11,fw),(12,go 0),zdk],h:=[iI w.l,SS,smB sm],m:=[]}
abbrev snX(w:kc):Unit->Exit×AS:=λ_=>(.ret,{t:=Bn 190 0 [(10,mW (J0 1 0)),(11,fw),(12,go 150)],h:=[iI w.l,SS],m:=[]})
def ST(last c:Int):Bool:=lL (c>=S6.wrap (last+1))&&lL (c<=4095)
def snF(c:Int)(s:Int×SM):(Int×SM)⊕Unit:=bif ST s.1 c then .inl (c,cY s.2 c ⟨c,0,-1,true⟩) else .inr ()
theorem bn_t(h:(!b)=N):b=J:=uU
theorem bn_f(h:(!b)=J):b=N:=uU
theorem upS(hb:h[2]?=G (smB m)):ay S5 h 158 zcn (go c) (seD v)=G (h.set 2 (smB (cY m c v))):=Fe (kt:=3) (et:=160) Z Z hb
theorem lkS(hb:h[2]?=G (smB m)):aw S5 h 158 zcn (go c) N=G (seD ((nX m c).getD CH)):=CI (kt:=3) (et:=160) Z Z Z hb
abbrev zaA:bY:=(ziM nq)
noncomputable abbrev mO(w:kc)(sm:SM):aT:=[iI (ZA w),iI zaA,Η (bp 0 sm) (S7 sm)]
abbrev ze7:Do:=[δ (τ [10,11,12]),δ (zkm 2)]
theorem NU(hr:ao (i:Int) ns [vi c] 1)(xD:lL ((i:Int)<(ns.length:Int))=true)(hw:S6.wrap ((i:Int)+1)=((i+1:Nat):Int)):(CW S5 uS [] false (sub Uy 0) (snS w st fI d5 ns last sm i) (ai (λs:Int×SM=>snS w st fI d5 ns s.1 s.2 ((i+1:Nat):Int)) (snX w) (snF c (last,sm))).1 (ai (λs:Int×SM=>snS w st fI d5 ns s.1 s.2 ((i+1:Nat):Int)) (snX w) (snF c (last,sm))).2):=by
 cases F3:!(lL (c>=S8 S6 (last+1))&&lL (c<=4095))
 ·let v0:=S7 (cY sm c {lm:=c,tries:=0,JY := -1,now:=true})
  exact yX {t:=Bn 190 0 [(1,go st),(2,go fI),(3,go d5),(5,.ref (.ptr 0 0)),(10,.ref (.ptr 1 0)),(11,nq),(12,go 0),(13,.ref (.mp 2)),(14,go c),(42,ab ns),(43,go (↑(S7 ns):Int)),(44,go (S8 S6 ((↑i:Int)+1)))],h:=[.var [ab (S2 Tc w.c),ab w.p,ab (S2 Tj w.s),ab (S2 Ta w.f)],.var [nq,go 0,go 0,go 0],.map (bp 0 (cY sm c {lm:=c,tries:=0,JY := -1,now:=true})) v0],m:=[]} Tr [.st (.mask [1,2,3,5,10,11,12,13,14,42,43,44])] [.b xD,.r hr,.v (Tp (Γ':=uS) (@bc c (S8 S6 (last+1)) 4095 (mO w sm))),.b F3,((by subst v0;exact upS (v:=⟨c,0,-1,true⟩) rfl):@Eq (Option (List F2)) (ay S5 (mO w sm) 158 (.ref (.mp 2)) (go c) (TF [go c,go 0,go (-1),kr true])) (some [.var (TC w),.var [nq,go 0,go 0,go 0],.map (bp 0 (cY sm c {lm:=c,tries:=0,JY := -1,now:=true})) v0])),.a1 (.oh 10055 D.any [.var (TC w),SS,smB (cY sm c {lm:=c,tries:=0,JY := -1,now:=true})])] (by subst v0;(have hh:ST last c=true:=bn_t F3;simp[snF,hh,ai];first|done|rfl)) (by subst v0;(have hh:ST last c=true:=bn_t F3;simp only[snF,hh,cond_true,ai,hw];first|done|rfl))
 ·exact yX {t:=Bn 190 0 [(10,.ref (.ptr 1 0)),(11,nq),(12,go 150)],h:=[.var [ab (S2 Tc w.c),ab w.p,ab (S2 Tj w.s),ab (S2 Ta w.f)],.var [nq,go 0,go 0,go 0]],m:=[]} VM [.st (.mask [10,11,12]),.st (.trim 2)] [.b xD,.r hr,.v (Tp (Γ':=uS) (@bc c (S8 S6 (last+1)) 4095 (mO w sm))),.b F3] (by(have hh:ST last c=false:=bn_f F3;simp[snF,hh,ai];first|done|rfl)) (by(have hh:ST last c=false:=bn_f F3;simp only[snF,hh,cond_false,ai];first|done|rfl))
theorem NV{ns:bv}(xD:lL ((i:Int)<(ns.length:Int))=N):(CW S5 uS [] N (sub Uy 0) (snS w st fI d5 ns last sm i) (η 0) (snE w st fI d5 sm)):=yx [δ (τ [1,2,3,5,10,11,12,13])] [.b xD]
def snR(now:bV):(Int×SM)⊕Unit:=Pu snF now (-1,[])
def NW(w:kc)(st fI d5:Int)(now:bV):Exit×AS:=bf (η 0) (λs:Int×SM=>snE w st fI d5 s.2) (snX w) (snR now)
theorem sn_cw{w:kc}{st fI d5:Int}{now:bV}(hl:ah now):CW S5 uS [] false (.loop (sub Uy 0)) (snS w st fI d5 (zaQ now) (-1) [] 0) (NW w st fI d5 now).1 (NW w st fI d5 now).2:=by
 refine UR now snF (λi s=>snS w st fI d5 (zaQ now) s.1 s.2 (i:Int)) (.exit 0) (λs=>snE w st fI d5 s.2) (snX w) (λ_ _=>True) (by simp) (λ_=>by simp[snX]) ?_ ?_ (-1,[]) trivial;·intro i c s hc _;have hi:=(Td.1 hc).1;exact⟨λ_ _=>trivial,NU (rowAt (row:=λn=>[vi n]) hc rfl) (κ (λn=>[vi n]) hi) (J3 hi hl)⟩
 ·intro s _;exact NV (aR (λn=>[vi n]) now)
abbrev siK(w:kc)(d5:Int)(e:Nat):F2:=iI (zfl 4 e w d5)
abbrev siH(w:kc)(d5 st:Int)(sm:SM)(rs:iF)(e:Nat)(as_:bv)(m1 m2:IM):aT :=[iI w.l,SS,smB sm,siK w d5 e,.lk (ad (J2 rs)) e 5,iI (zfj st as_),imB m1,imB m2]
abbrev zcW:Nat×D:=(17,mW (J0 3 0))
abbrev zeM:Nat×D:=(20,mW (.mp 6))
abbrev zeN:Nat×D:=(21,mW (.mp 7))
abbrev zio(a:Int)(b:D)(c:bv)(d:Nat)(e:bv)(f:Nat×D)(g:Nat)(h:D):bY:=Bn 190 0 [(2,go a),WF,(11,b),zdk,zcW,(19,ab c),zeM,zeN,(d,ab e),f,(g,h)]
abbrev stS(w:kc)(d5 st fI:Int)(sm:SM)(rs:iF)(cs as_:bv)(m1 m2:IM)(i:Int):AS :={t:=(zio fI fw cs 80 as_ (81,go as_.length) 82 (go i)),h:=siH w d5 st sm rs 0 as_ m1 m2,m:=[]}
abbrev stE(w:kc)(d5 st fI:Int)(sm:SM)(rs:iF)(cs as_:bv)(m1 m2:IM):AS :={t:=Bn 190 0 [(2,go fI),WF,(11,fw),zdk,zcW,(19,ab cs),zeM,zeN],h:=siH w d5 st sm rs 0 as_ m1 m2,m:=[]}
def gI(m:IM)(c:Int):Int:=(ap m c).getD 0
def stF(s:IM×IM)(a:JZ):IM×IM:=(a8 s.1 a.lm (S6.wrap (gI s.1 a.lm+1)),a8 s.2 a.lm (mxI (gI s.2 a.lm) a.ZO))
theorem lk6{m:IM}(hb:h[6]?=G (imB m)):aw S5 h 168 (zdB 6) (go c) N=G (go (gI m c)):=tu (kt:=3) (et:=3) Z Z Z hb
theorem lk7{m:IM}(hb:h[7]?=G (imB m)):aw S5 h 168 (zdB 7) (go c) N=G (go (gI m c)):=tu (kt:=3) (et:=3) Z Z Z hb
theorem up6{m:IM}{v:Int}(hb:h[6]?=G (imB m)):ay S5 h 168 (zdB 6) (go c) (go v)=G (h.set 6 (imB (a8 m c v))):=ly (kt:=3) (et:=3) Z Z hb
theorem up7{m:IM}{v:Int}(hb:h[7]?=G (imB m)):ay S5 h 168 (zdB 7) (go c) (go v)=G (h.set 7 (imB (a8 m c v))):=ly (kt:=3) (et:=3) Z Z hb
abbrev zfO(a:SM):F2:=(Η (bp 0 a) (S7 a))
theorem NX{rs:List ZH}{cs as_:List (List Dp)}{a:JZ}(hr:ao (i:Int) as_ a.row 5)(xD:lL ((i:Int)<(as_.length:Int))=true)(hw:S6.wrap ((i:Int)+1)=((i+1:Nat):Int)):(CW S5 uS [] false (sub Uy 1) (stS w d5 st fI sm rs cs as_ m1 m2 i) .normal (stS w d5 st fI sm rs cs as_ (stF (m1,m2) a).1 (stF (m1,m2) a).2 ((i+1:Nat):Int))):=by
 let v0:List D:=[.ref (.lk 4 0),ab (S2 Tc w.c),ab w.p,ab (S2 Tj w.s),ab (S2 Ta w.f),go d5]
 let v3:List D:=[go a.lm,go a.fI,go a.ZO,go a.Λ,go a.oA]
 let v2:List F2:=[.var (TC w),.var [nq,go 0,go 0,go 0],.map (bp 0 sm) (S7 sm),.var v0,.lk (ad (J2 rs)) 0 5,.var [go st,ab as_],.map (aG 0 m1) (S7 m1),.map (aG 0 m2) (S7 m2),.var v3]
 let v4:=S7 (stF (m1,m2) a).fst
 let v1:List F2:=[.var (TC w),.var [nq,go 0,go 0,go 0],.map (bp 0 sm) (S7 sm),.var v0,.lk (ad (J2 rs)) 0 5,.var [go st,ab as_],.map (aG 0 (stF (m1,m2) a).fst) v4,.map (aG 0 m2) (S7 m2),.var v3]
 let v5:=S7 (stF (m1,m2) a).2
 refine yX {t:=Bn 190 0 [(2,go fI),(10,.ref (.ptr 1 0)),(11,nq),(13,.ref (.mp 2)),(17,.ref (.ptr 3 0)),(19,ab cs),(20,.ref (.mp 6)),(21,.ref (.mp 7)),(80,ab as_),(81,go (↑(S7 as_):Int)),(82,go (S8 S6 ((↑i:Int)+1)))],h:=[.var [ab (S2 Tc w.c),ab w.p,ab (S2 Tj w.s),ab (S2 Ta w.f)],.var [nq,go 0,go 0,go 0],.map (bp 0 sm) (S7 sm),.var v0,.lk (ad (J2 rs)) 0 5,.var [go st,ab as_],.map (aG 0 (stF (m1,m2) a).fst) v4,.map (aG 0 (stF (m1,m2) a).2) v5],m:=[]} Tr [.st (.mask [2,10,11,13,17,19,20,21,80,81,82]),.st (.Μ 8)] [.b xD,.r hr,(?_:@Eq (Option D) (aw S5 v2 168 (.ref (.mp 6)) (go a.lm) false) (some (go (gI m1 a.lm)))),(?_:@Eq (Option (List F2)) (ay S5 v2 168 (.ref (.mp 6)) (go a.lm) (go (S8 S6 (gI m1 a.lm+1)))) (some v1)),(?_:@Eq (Option D) (aw S5 v1 168 (.ref (.mp 7)) (go a.lm) false) (some (go (gI m2 a.lm)))),(?_:@Eq (Option (List F2)) (ay S5 v1 168 (.ref (.mp 7)) (go a.lm) (go (if true=true then if a.ZO>gI m2 a.lm then a.ZO else gI m2 a.lm else if a.ZO<gI m2 a.lm then a.ZO else gI m2 a.lm))) (some [.var (TC w),.var [nq,go 0,go 0,go 0],.map (bp 0 sm) (S7 sm),.var v0,.lk (ad (J2 rs)) 0 5,.var [go st,ab as_],.map (aG 0 (stF (m1,m2) a).fst) v4,.map (aG 0 (stF (m1,m2) a).2) v5,.var v3])),bi 8 (.var (TC w)),bi 8 (.var [nq,go 0,go 0,go 0]),(?_:Tl 8 (.map (bp 0 sm) (S7 sm))=true),bi 8 (.var v0),(?_:Tl 8 (.lk (ad (J2 rs)) 0 5)=true),bi 8 (.var [go st,ab as_]),(?_:Tl 8 (.map (aG 0 (stF (m1,m2) a).fst) v4)=true),(?_:Tl 8 (.map (aG 0 (stF (m1,m2) a).2) v5)=true),.a1 (.ov 89 (go (gI m1 a.lm))),.a1 (.oh 10086 D.any (siH w d5 st sm rs 0 as_ (stF (m1,m2) a).fst m2++[.var (S2 D.p (Tb a))])),.a1 (.ov 97 (go (gI m2 a.lm))),.a1 (.oh 10091 D.any (siH w d5 st sm rs 0 as_ (stF (m1,m2) a).fst (stF (m1,m2) a).2++[.var (S2 D.p (Tb a))]))] (by subst v0 v3 v2 v4 v1 v5;grind) (by subst v0 v3 v2 v4 v1 v5;(simp only[hw];rfl))<;>subst v0 v3 v2 v4 v1 v5<;>(first|exact lk6 rfl|exact lk7 rfl|exact up6 rfl|exact up7 rfl|exact ge|exact sZ|exact br)
theorem NY(xD:lL ((i:Int)<(as_.length:Int))=N):(CW S5 uS [] N (sub Uy 1) (stS w d5 st fI sm rs cs as_ m1 m2 i) (η 2) (stE w d5 st fI sm rs cs as_ m1 m2)):=yx [δ (τ [2,10,11,13,17,19,20,21])] [.b xD]
def bg(l:iN):IM×IM:=l.foldl stF ([],[])
theorem st_cw{w:kc}{d5 st fI:Int}{sm:SM}{rs:iF}{cs:bv}{l:iN}(hl:ah l):CW S5 uS [] false (.loop (sub Uy 1)) (stS w d5 st fI sm rs cs (l.map Tb) [] [] 0) (.exit 2) (stE w d5 st fI sm rs cs (l.map Tb) (bg l).1 (bg l).2):=by
 have:=UR (P:=S5) (Γ:=uS) (h0:=[]) (rd:=false) (c:=sub Uy 1) (σ:=IM×IM) (ρ:=Empty) l (λa s=>.inl (stF s a))
  (λi s=>stS w d5 st fI sm rs cs (l.map Tb) s.1 s.2 (i:Int)) (.exit 2) (λs=>stE w d5 st fI sm rs cs (l.map Tb) s.1 s.2) (λr=>r.elim) (λ_ _=>True) (by simp) (λr=>r.elim) ?_ ?_ ([],[]) trivial
 ·rw[aM] at this;exact this
 ·intro i a s ha _;have hi:=(Td.1 ha).1;exact⟨λ_ _=>trivial,NX (rowAt ha rfl) (κ Tb hi) (J3 hi hl)⟩
 ·intro s _;exact NY (aR Tb l)
def xF(m1 m2:IM)(x:ω)(c:Int):ω:=bif lL (gI m1 c>0) then ⟨x.lm,mnI (S6.wrap (x.tries+gI m1 c)) 100,mxI x.JY (gI m2 c),x.now⟩ else x
abbrev sqS(w:kc)(d5 st fI:Int)(sm:SM)(rs:iF)(ep:Nat)(cs as_ ns es:bv)(m1 m2:IM)(n:Int)(i:Int)(x:ω)(k:Int):AS :={t:=Bn 190 0 [(2,go fI),WF,(11,fw),zdk,zcW,(19,ab cs),zeM,zeN,(25,go n),(zgW 26),(102,ab ns),(103,go ns.length),(104,go i),(116,ab es),(117,go es.length),(118,go k)],h:=siH w d5 st sm rs ep as_ m1 m2++[iI (x.row.map .p)],m:=[]}
abbrev sqE(w:kc)(d5 st fI:Int)(sm:SM)(rs:iF)(ep:Nat)(cs as_ ns:bv)(m1 m2:IM)(n:Int)(i:Int)(x:ω):AS :={t:=Bn 190 0 [(2,go fI),WF,(11,fw),zdk,zcW,(19,ab cs),zeM,zeN,(25,go n),(zgW 26),(102,ab ns),(103,go ns.length),(104,go i)],h:=siH w d5 st sm rs ep as_ m1 m2++[iI (x.row.map .p)],m:=[]}
theorem NZ{rs:List ZH}{cs as_ es:List (List Dp)}{i:Int}{k:Nat}(hr:ao (k:Int) es [vi c] 1)(xD:lL ((k:Int)<(es.length:Int))=true)(hw:S6.wrap ((k:Int)+1)=((k+1:Nat):Int)):(CW S5 uS [] false (sub Uy 3) (sqS w d5 st fI sm rs 1 cs as_ ns es m1 m2 n i x k) .normal (sqS w d5 st fI sm rs 1 cs as_ ns es m1 m2 n i (xF m1 m2 x c) ((k+1:Nat):Int))):=by
 cases F3:lL (gI m1 c>0)
 ·let v0:List D:=[.ref (.lk 4 1),ab (S2 Tc w.c),ab w.p,ab (S2 Tj w.s),ab (S2 Ta w.f),go d5]
  exact yX {t:=Bn 190 0 [(2,go fI),(10,.ref (.ptr 1 0)),(11,nq),(13,.ref (.mp 2)),(17,.ref (.ptr 3 0)),(19,ab cs),(20,.ref (.mp 6)),(21,.ref (.mp 7)),(25,go n),(26,.ref (.ptr 8 0)),(102,ab ns),(103,go (↑(S7 ns):Int)),(104,go i),(116,ab es),(117,go (↑(S7 es):Int)),(118,go (S8 S6 ((↑k:Int)+1)))],h:=[.var [ab (S2 Tc w.c),ab w.p,ab (S2 Tj w.s),ab (S2 Ta w.f)],.var [nq,go 0,go 0,go 0],.map (bp 0 sm) (S7 sm),.var v0,.lk (ad (J2 rs)) 1 5,.var [go st,ab as_],.map (aG 0 m1) (S7 m1),.map (aG 0 m2) (S7 m2),.var [go x.lm,go x.tries,go x.JY,kr x.now]],m:=[]} Tr [.st (.mask [2,10,11,13,17,19,20,21,25,26,102,103,104,116,117,118])] [.b xD,.r hr,((by subst v0;exact lk6 rfl):@Eq (Option D) (aw S5 [.var (TC w),.var [nq,go 0,go 0,go 0],.map (bp 0 sm) (S7 sm),.var v0,.lk (ad (J2 rs)) 1 5,.var [go st,ab as_],.map (aG 0 m1) (S7 m1),.map (aG 0 m2) (S7 m2),.var [go x.lm,go x.tries,go x.JY,kr x.now]] 168 (.ref (.mp 6)) (go c) false) (some (go (gI m1 c)))),.a1 (.ov 124 (go (gI m1 c))),.b F3] (by subst v0;grind) (by subst v0;(have hh:lL (gI m1 c>0)=false:=F3;simp only[hw,xF,hh,cond_false];first|done|rfl))
 ·let v0:List D:=[.ref (.lk 4 1),ab (S2 Tc w.c),ab w.p,ab (S2 Tj w.s),ab (S2 Ta w.f),go d5]
  let v1:List F2:=[.var (TC w),.var [nq,go 0,go 0,go 0],.map (bp 0 sm) (S7 sm),.var v0,.lk (ad (J2 rs)) 1 5,.var [go st,ab as_],.map (aG 0 m1) (S7 m1),.map (aG 0 m2) (S7 m2),.var [go x.lm,go x.tries,go x.JY,kr x.now]]
  refine yX {t:=Bn 190 0 [(2,go fI),(10,.ref (.ptr 1 0)),(11,nq),(13,.ref (.mp 2)),(17,.ref (.ptr 3 0)),(19,ab cs),(20,.ref (.mp 6)),(21,.ref (.mp 7)),(25,go n),(26,.ref (.ptr 8 0)),(102,ab ns),(103,go (↑(S7 ns):Int)),(104,go i),(116,ab es),(117,go (↑(S7 es):Int)),(118,go (S8 S6 ((↑k:Int)+1)))],h:=[.var [ab (S2 Tc w.c),ab w.p,ab (S2 Tj w.s),ab (S2 Ta w.f)],.var [nq,go 0,go 0,go 0],.map (bp 0 sm) (S7 sm),.var v0,.lk (ad (J2 rs)) 1 5,.var [go st,ab as_],.map (aG 0 m1) (S7 m1),.map (aG 0 m2) (S7 m2),.var [go x.lm,go (if false=true then if 100>S8 S6 (x.tries+gI m1 c) then 100 else S8 S6 (x.tries+gI m1 c) else if 100<S8 S6 (x.tries+gI m1 c) then 100 else S8 S6 (x.tries+gI m1 c)),go (if true=true then if gI m2 c>x.JY then gI m2 c else x.JY else if gI m2 c<x.JY then gI m2 c else x.JY),kr x.now]],m:=[]} Tr [.st (.mask [2,10,11,13,17,19,20,21,25,26,102,103,104,116,117,118])] [.b xD,.r hr,(?_:@Eq (Option D) (aw S5 v1 168 (.ref (.mp 6)) (go c) false) (some (go (gI m1 c)))),.a1 (.ov 124 (go (gI m1 c))),.b F3,(?_:@Eq (Option D) (aw S5 v1 168 (.ref (.mp 6)) (go c) false) (some (go (gI m1 c)))),(?_:@Eq (Option D) (aw S5 [.var (TC w),.var [nq,go 0,go 0,go 0],.map (bp 0 sm) (S7 sm),.var v0,.lk (ad (J2 rs)) 1 5,.var [go st,ab as_],.map (aG 0 m1) (S7 m1),.map (aG 0 m2) (S7 m2),.var [go x.lm,go (if false=true then if 100>S8 S6 (x.tries+gI m1 c) then 100 else S8 S6 (x.tries+gI m1 c) else if 100<S8 S6 (x.tries+gI m1 c) then 100 else S8 S6 (x.tries+gI m1 c)),go x.JY,kr x.now]] 168 (.ref (.mp 7)) (go c) false) (some (go (gI m2 c)))),.a1 (.ov 130 (go (gI m1 c))),.a1 (.ov 138 (go (gI m2 c)))] (by subst v0 v1;grind) (by subst v0 v1;(have hh:lL (gI m1 c>0)=true:=F3;simp only[hw,xF,hh,cond_true];first|done|rfl))<;>subst v0 v1<;>(first|exact lk6 rfl|exact lk7 rfl)
theorem N0{ns es:bv}{i:Int}{k:Nat}(xD:lL ((k:Int)<(es.length:Int))=N):(CW S5 uS [] N (sub Uy 3) (sqS w d5 st fI sm rs 1 cs as_ ns es m1 m2 n i x k) (η 6) (sqE w d5 st fI sm rs 1 cs as_ ns m1 m2 n i x)):=yx [δ (τ [2,10,11,13,17,19,20,21,25,26,102,103,104])] [.b xD]
theorem sq_cw{w:kc}{d5 st fI:Int}{sm:SM}{rs:iF}{cs as_ ns:bv}{es:bV}(he:ah es){m1 m2:IM}{n i:Int}{x:ω}:CW S5 uS [] false (.loop (sub Uy 3)) (sqS w d5 st fI sm rs 1 cs as_ ns (zaQ es) m1 m2 n i x 0) (.exit 6) (sqE w d5 st fI sm rs 1 cs as_ ns m1 m2 n i (es.foldl (xF m1 m2) x)):=by
 have:=UR (P:=S5) (Γ:=uS) (h0:=[]) (rd:=false) (c:=sub Uy 3) (σ:=ω) (ρ:=Empty) es (λc x=>.inl (xF m1 m2 x c))
  (λk x=>sqS w d5 st fI sm rs 1 cs as_ ns (zaQ es) m1 m2 n i x (k:Int)) (.exit 6) (λx=>sqE w d5 st fI sm rs 1 cs as_ ns m1 m2 n i x) (λr=>r.elim) (λ_ _=>True) (by simp) (λr=>r.elim) ?_ ?_ x trivial
 ·rw[aM] at this;exact this
 ·intro k c x hc _;have hi:=(Td.1 hc).1;exact⟨λ_ _=>trivial,NZ (rowAt (row:=λn=>[vi n]) hc rfl) (κ (λn=>[vi n]) hi) (J3 hi he)⟩
 ·intro x _;exact N0 (aR (λn=>[vi n]) es)
abbrev nbS(w:kc)(d5 st fI:Int)(sm:SM)(rs:iF)(cs as_ ns:bv)(m1 m2:IM)(i:Int):AS :={t:=(zio fI fw cs 102 ns (103,go ns.length) 104 (go i)),h:=siH w d5 st sm rs 0 as_ m1 m2,m:=[]}
abbrev nbE(w:kc)(d5 st:Int)(sm:SM)(rs:iF)(cs as_:bv)(m1 m2:IM):AS :={t:=Bn 190 0 [WF,(11,fw),zdk,zcW,(19,ab cs)],h:=siH w d5 st sm rs 0 as_ m1 m2,m:=[]}
abbrev RSM:=iF×SM
def zlr(w:kc)(d5 fI:Int)(m1 m2:IM)(sm:SM)(n:Int):ω:=(bQ w n fI d5).2.foldl (xF m1 m2) ⟨n,0,-1,((nX sm n).getD CH).now⟩
def nbF(w:kc)(d5 fI:Int)(m1 m2:IM)(s:RSM)(n:Int):RSM :=(s.1++(bQ w n fI d5).1,bif lL ((zlr w d5 fI m1 m2 s.2 n).tries>0) then cY s.2 n (zlr w d5 fI m1 m2 s.2 n) else s.2)
theorem upS2(hb:h[2]?=G (smB m)):ay S5 h 158 zcn (go c) (uT (v.row.map .p))=G (h.set 2 (smB (cY m c v))):=upS hb
theorem lkS2(hb:h[2]?=G (smB m))(hv:(nX m c).getD CH=v):aw S5 h 158 zcn (go c) N=G (uT (zaX v)):=by rw[<-hv];exact lkS hb
noncomputable abbrev s7(w:kc)(d5:Int)(st:Int)(fI:Int)(sm:SM)(rs:iF)(as_:bv)(m1:IM)(m2:IM)(n:Int)(v:ω):aT:=[iI (ZA w),iI zaA,Η (bp 0 sm) (S7 sm),iI (zhl 4 1 w d5),.lk (zbo rs w n fI d5) 1 5,iI (zfj st as_),Η (aG 0 m1) (S7 m1),Η (aG 0 m2) (S7 m2),iI [go n,go 0,go (-1),kr v.now]]
noncomputable abbrev s8(w:kc)(d5:Int)(st:Int)(sm:SM)(rs:iF)(as_:bv)(m1:IM)(m2:IM)(n:Int)(v:ω):aT:=[iI (ZA w),iI zaA,Η (bp 0 sm) (S7 sm),iI (zhl 4 0 w d5),.lk (ad (J2 rs)) 0 5,iI (zfj st as_),Η (aG 0 m1) (S7 m1),Η (aG 0 m2) (S7 m2),iI [go n,go 0,go (-1),kr v.now]]
abbrev zav(a:Nat)(b:List (D×D×Nat)):List (D×D×Nat):=S2 (λe=>(Ty (ar a 1 0) e.fst,Ty (ar a 1 0) e.2.fst,e.2.2)) (b)
theorem N1(hw:w.ok)(hN:(af w.f d5).length<=1000){rs:List ZH}{cs as_:List (List Dp)}(hv:(nX sm n).getD CH=v)(hr:ao (i:Int) ns [vi n] 1)(xD:lL ((i:Int)<(ns.length:Int))=true)(hwr:S6.wrap ((i:Int)+1)=((i+1:Nat):Int))(hb:rs.length<=900000000)(hs:ah (bQ w n fI d5).2):(CW S5 uS [] false (sub Uy 2) (nbS w d5 st fI sm rs cs as_ ns m1 m2 i) .normal (nbS w d5 st fI (nbF w d5 fI m1 m2 (rs,sm) n).2 (nbF w d5 fI m1 m2 (rs,sm) n).1 cs as_ ns m1 m2 ((i+1:Nat):Int))):=by
 subst hv
 let v:=(nX sm n).getD CH
 let R:=rs++(bQ w n fI d5).1
 let X:=zlr w d5 fI m1 m2 sm n
 let f:=ar 4 1 0
 let A:List Ans:=[.st (.mask [2,10,11,13,17,19,20,21,102,103,104]),.st (.ren 4 0),.st (.Μ 8)]
 let L:List Stp:=[.b xD,.r hr,lkS2 (h:=siH w d5 st sm rs 0 as_ m1 m2) (m:=sm) (c:=n) rfl rfl,.a1 (.ov 111 (TF (zaX v))),.c (fX [3,4] (@tD w hw d5 n fI hN rs (by omega)) ⟨aj _ _,trivial⟩ ⟨aj _ _,trivial⟩:Ev S5 uS 94 [.ref (.ptr 3 0),go n,go fI] (s8 w d5 st sm rs as_ m1 m2 n v) (ab (S2 (λn=>[vi n]) (bQ w n fI d5).2)) (s7 w d5 st fI sm rs as_ m1 m2 n v)),.s [2,10,11,13,17,19,20,21,25,26,102,103,104,116,117,118] (@sq_cw w d5 st fI sm R cs as_ ns (bQ w n fI d5).2 hs m1 m2 n (i:Int) ⟨n,0,-1,v.now⟩)]
 let T(m:SM):List Stp:=[aB (J2 R) f,dg f m 0,cK f m1 0,cK f m2 0,bi 8 (.var (TC w)),bi 8 (.var zaA),sZ (n:=8) (l:=m),bi 8 (.var (zhl 4 1 w d5)),br (n:=8) (rs:=J2 R) (e:=0) (sz:=5),bi 8 (.var [go st,ab as_]),ge (n:=8) (l:=m1),ge (n:=8) (l:=m2)]
 cases Α:lL ((zlr w d5 fI m1 m2 sm n).tries>0)
 ·simp only[nbF,Α,cond_false,<-hwr];exact yx A (L++[.b Α]++T sm)
 ·simp only[nbF,Α,cond_true,<-hwr];exact yx A (L++[.b Α,upS2 (h:=siH w d5 st sm R 1 as_ m1 m2++[.var (X.row.map .p)]) (m:=sm) (c:=n) (v:=X) rfl]++T (cY sm n X)++[.a1 (.oh 10145 D.any (siH w d5 st (cY sm n X) R 1 as_ m1 m2++[.var (X.row.map .p)]))])
theorem N2{ns:bv}(xD:lL ((i:Int)<(ns.length:Int))=N):(CW S5 uS [] N (sub Uy 2) (nbS w d5 st fI sm rs cs as_ ns m1 m2 i) (η 4) (nbE w d5 st sm rs cs as_ m1 m2)):=yx [δ (τ [10,11,13,17,19])] [.b xD]
theorem nb_cw{w:kc}(hw:w.ok){d5 st fI:Int}(hN:(af w.f d5).length<=100){sm:SM}{rs:iF}(hb:rs.length<=800000000){cs as_:bv}{m1 m2:IM}:CW S5 uS [] false (.loop (sub Uy 2)) (nbS w d5 st fI sm rs cs as_ (zaQ (af w.f d5)) m1 m2 0) (.exit 4) (nbE w d5 st ((af w.f d5).foldl (nbF w d5 fI m1 m2) (rs,sm)).2 ((af w.f d5).foldl (nbF w d5 fI m1 m2) (rs,sm)).1 cs as_ m1 m2):=by
 have hl:ah (af w.f d5):=by unfold ah;omega
 have:=UR (P:=S5) (Γ:=uS) (h0:=[]) (rd:=false) (c:=sub Uy 2) (σ:=RSM) (ρ:=Empty) (af w.f d5) (λn s=>.inl (nbF w d5 fI m1 m2 s n))
  (λi s=>nbS w d5 st fI s.2 s.1 cs as_ (zaQ (af w.f d5)) m1 m2 (i:Int)) (.exit 4) (λs=>nbE w d5 st s.2 s.1 cs as_ m1 m2) (λr=>r.elim) (λi s=>s.1.length<=rs.length+i*1001001) (by simp) (λr=>r.elim) ?_ ?_ (rs,sm) (by simp)
 ·rw[aM] at this;exact this
 ·intro i n s hn hs;have hi:=(Td.1 hn).1;have hq:=lJ (w:=w) (c:=n) (fI:=fI) (d5:=d5) (by omega);refine⟨λs' h=>by grind [nbF,Uk],N1 hw (by omega) rfl (rowAt (row:=λn=>[vi n]) hn rfl) (κ (λn=>[vi n]) hi) (J3 hi hl) (by omega) (by unfold ah;omega)⟩
 ·intro s _;exact N2 (aR (λn=>[vi n]) _)
def LU(e:D×D×Nat):ω:=match e.2.1 with
 |.agg [.p (.v (.int _ a)),.p (.v (.int _ b)),.p (.v (.int _ c)),.p (.v (.bool d))]=>⟨a,b,c,d⟩
 |_=>CH
abbrev zdz(a:Nat):bY:=(ziM (mW (.lk 8 a)))
abbrev mpH(w:kc)(d5 st:Int)(sm:SM)(rs:List ZH)(as_:List (List Dp))(m1 m2:IM)(l:List ω)(bs:List Nat):List F2 :=
 [.var w.l,.var [.ref (.lk 8 0),go 0,go 0,go 0],smB sm,siK w d5 0,.lk (ad (J2 rs)) 0 5,.var [go st,ab as_],imB m1,imB m2,.lk (bE l) 0 4,.mit (some 2) sm.length bs sm.length]
abbrev mpT(cs:bv):List (Nat×D):=[WF,(11,fw),zcW,(19,ab cs),(150,mW (.it 9))]
theorem N3(l:If)(f:Ref->D):(bE l).map (Tz f)=bE l:=by rw[List.map_map];exact List.map_congr_left λa _=>rfl
theorem N4{n:Nat}{e sz:Nat}:Tl n (.lk (bE l) e sz)=J:=by show(bE l).all (D.zhz n)=J;rw[List.all_eq_true];intro r hr;obtain⟨x,_,rfl⟩:=T2.1 hr;rfl
theorem uF(l:List ω)(x:ω):bE l++[[go x.lm,go x.tries,go x.JY,kr x.now]]=bE (l++[x]):=by simp[bE,TQ]
def LV:Code->Code
 |.seq _ (.seq _ r)=>r
 |_=>.skip
abbrev zi6(a:SM)(b:iS):F2:=(.mit (G 2) (S7 a) b (S7 a))
theorem N5(hl:l.length<=1000000)(he:jv (mpH w d5 st sm rs as_ m1 m2 l bs) (mW (.it 9))=G (JV [go k,uT (zaX x)])):(CW S5 uS [] N (LV (sub Uy 4)) {t:=Bn 190 0 (mpT cs++[(151,JV [kr J,go k,seD x]),(152,kr J)]),h:=mpH w d5 st sm rs as_ m1 m2 l bs,m:=[]} NO {t:=Bn 190 0 (mpT cs),h:=mpH w d5 st sm rs as_ m1 m2 (l++[x]) bs,m:=[]}):=by let v0:bY:=(zaX x);let v1:bY:=(zhl 4 0 w d5);refine yX {t:=Bn 190 0 [WF,(11,nq),zcW,(19,ab cs),(150,mW (.it 9))],h:=[iI (ZA w),iI (zdz 0),Η (bp 0 sm) (S7 sm),iI v1,.lk (ad (J2 rs)) 0 5,iI (zfj st as_),Η (aG 0 m1) (S7 m1),Η (aG 0 m2) (S7 m2),.lk (bE l++[v0]) 0 4,.mit (G 2) (S7 sm) bs (S7 sm)],m:=[]} Tr (zc9 [10,11,17,19,150] 8 0 10) [(?_:@Eq (At) (jv [iI (TC w),iI (zdz 0),Η (bp 0 sm) (S7 sm),iI v1,.lk (ad (J2 rs)) 0 5,iI (zfj st as_),Η (aG 0 m1) (S7 m1),Η (aG 0 m2) (S7 m2),.lk (bE l) 0 4,.mit (G 2) (S7 sm) bs (S7 sm)] (mW (.it 9))) (G (TT [go k,TF v0]))),((by subst v0 v1;grind [uF,aL,D.one,Value.oneCell',L8]):(List.all [v0] (aL 4)&&L8 (S7 (bE l)+S7 [v0]) 32)=J),(?_:S2 (Tz (ar 8 1 0)) (bE l++[v0])=bE l++[v0]),(?_:(zav 8 (bp 0 sm))=bp 0 sm),(?_:S2 (Tz (ar 8 1 0)) (ad (J2 rs))=ad (J2 rs)),(?_:S2 (λe=>(zaP 8 1 e)) (aG 0 m1)=aG 0 m1),(?_:S2 (λe=>(zaP 8 1 e)) (aG 0 m2)=aG 0 m2),pr [v0],(rfl:Tl 10 (zaY 8 (bE l++[v0]) 0 4 1 (TC w))=J),(rfl:Tl 10 (zaT 8 (bE l++[v0]) 4 1 (iI (ziM (mW (.lk 8 1)))))=J),(?_:(zae 10 0 8 (bE l++[v0]) 0 4 1 (Η (bp 0 sm) (S7 sm)))=J),(rfl:Tl 10 (zhK 8 (bE l++[v0]) 0 4 1 (iI v1))=J),(?_:(zae 10 (0+1+1) 8 (bE l++[v0]) 0 4 1 (.lk (ad (J2 rs)) 0 5))=J),(rfl:(zae 10 (0+1+1+1) 8 (bE l++[v0]) 0 4 1 (iI [go st,ab as_]))=J),(?_:(zae 10 (0+1+1+1+1) 8 (bE l++[v0]) 0 4 1 (Η (aG 0 m1) (S7 m1)))=J),(?_:(zae 10 (0+1+1+1+1+1) 8 (bE l++[v0]) 0 4 1 (Η (aG 0 m2) (S7 m2)))=J),(?_:Tl 10 (ZT (0+1+1+1+1+1+1+1) 8 (bE l++[v0]) 0 4 1)=J),(rfl:(zae 10 (0+1+1+1+1+1+1+1) 8 (bE l++[v0]) 0 4 1 (zi6 sm bs))=J),.a1 (zjr 153 (TT [go k,TF v0]))] (by subst v0 v1;grind) (by subst v0 v1;(simp only[uF];first|done|rfl))<;>subst v0 v1<;>(first|assumption|exact ge|exact sZ|exact br|exact aB _ _|exact dg _ _ _|exact cK _ _ _|(rw[uF];exact N3 _ _)|(simp only[uF];exact N4))
theorem qu{x0 x1 x2 x3 x4 x5 x6 x7 x9:F2}{l:If}(hl:l.length<4611686018427387904)(hT:∀x∈l,∀y∈l,x.lm=y.lm->x=y):Ev S5 mX 95 [mW (.lk 8 0),.p (zcs 96)] [x0,x1,x2,x3,x4,x5,x6,x7,.lk (bE l) 0 4,x9] (JV []) [x0,x1,x2,x3,x4,x5,x6,x7,.lk (bE (l.mergeSort leS)) 0 4,x9] :=zo (h:=[x0,x1,x2,x3,x4,x5,x6,x7,.lk (bE l) 0 4,x9]) (b:=8) rfl hl hT
abbrev pwS(w:kc)(d5 st:Int)(sm:SM)(rs:iF)(la:iN)(as_:bv)(m1 m2:IM)(l:If)(bs:iS):AS :={t:=Bn 190 0 (mpT (la.map Tb)++[(151,JV [kr N]),(152,kr N)]),h:=mpH w d5 st sm rs as_ m1 m2 l bs,m:=[]}
abbrev pwX(w:kc)(e:Int):AS:={t:=Bn 190 0 [WF,(11,fw),(12,go e)],h:=[iI w.l,SS],m:=[]}
abbrev pwE(w:kc)(rs:List ZH)(la:List JZ)(l:List ω):AS :=
 {t:=Bn 190 0 [(10,.ref (.ptr 1 0)),(11,ab (J2 rs)),(12,go 0)],h:=[.var w.l,.var [ab ((l.mergeSort leS).map TQ),go (mnI (cz la).1 10000),go (bX la).1,go (bX la).2.1]],m:=[]}
abbrev zg0(a:If):bv:=S2 TQ (UF a leS)
noncomputable abbrev N6(w:kc)(d5:Int)(st:Int)(sm:SM)(rs:iF)(as_:bv)(m1:IM)(m2:IM)(l:If)(bs:iS):aT:=[iI (ZA w),iI [ab (zg0 l),go 0,go 0,go 0],Η (bp 0 sm) (S7 sm),iI (zhl 4 0 w d5),.lk (ad (J2 rs)) 0 5,iI (zfj st as_),Η (aG 0 m1) (S7 m1),Η (aG 0 m2) (S7 m2),S3,.mit (G 2) (S7 sm) bs (S7 sm)]
theorem pw_a(hla:ah la)(hl:l.length<4611686018427387904)(hT:∀x∈l,∀y∈l,x.lm=y.lm->x=y)(h1:((cz la).2 != 0)=J):(CW S5 uS [] N (wP (al Uy) 4) (pwS w d5 st sm rs la as_ m1 m2 l bs) .ret (pwX w (cz la).2)):=by let v0:=(zg0 l);refine yx ze7 [.c (Tp (Γ':=uS) (@qu (iI (TC w)) (iI (zdz 0)) (zfO sm) (iI (zhl 4 0 w d5)) (zb8 rs 0) (iI (zfj st as_)) (zbf m1) (zbf m2) (zi6 sm bs) l hl hT)),((by subst v0;simp_all):bE (UF l leS)=S2 (λx=>S2 D.p x) v0),(?_:(zaC 8 v0 (bp 0 sm))=bp 0 sm),(?_:S2 (Tz (cw 8 0 v0)) (ad (J2 rs))=ad (J2 rs)),(?_:(zaC 8 v0 (aG 0 m1))=aG 0 m1),(?_:(zaC 8 v0 (aG 0 m2))=aG 0 m2),.o (zed 8 v0),.v (Tp (Γ':=uS) (@iQ la hla (N6 w d5 st sm rs as_ m1 m2 l bs))),.b h1]<;>subst v0<;>(first|exact aB _ _|exact dg _ _ _|exact cK _ _ _)
noncomputable abbrev N7(w:kc)(d5:Int)(st:Int)(sm:SM)(rs:iF)(la:iN)(as_:bv)(m1:IM)(m2:IM)(l:If)(bs:iS):aT:=[iI (ZA w),iI [ab (zg0 l),(ZM 10000 ((cz la).fst)),go 0,go 0],Η (bp 0 sm) (S7 sm),iI (zhl 4 0 w d5),.lk (ad (J2 rs)) 0 5,iI (zfj st as_),Η (aG 0 m1) (S7 m1),Η (aG 0 m2) (S7 m2),S3,.mit (G 2) (S7 sm) bs (S7 sm)]
noncomputable abbrev N8(w:kc)(d5:Int)(st:Int)(sm:SM)(rs:iF)(as_:bv)(m1:IM)(m2:IM)(l:If)(bs:iS):aT:=[iI (ZA w),iI [ab (zg0 l),go 0,go 0,go 0],Η (bp 0 sm) (S7 sm),iI (zhl 4 0 w d5),.lk (ad (J2 rs)) 0 5,iI (zfj st as_),Η (aG 0 m1) (S7 m1),Η (aG 0 m2) (S7 m2),S3,.mit (G 2) (S7 sm) bs (S7 sm)]
theorem pw_b(hla:ah la)(hl:l.length<4611686018427387904)(hT:∀x∈l,∀y∈l,x.lm=y.lm->x=y)(h1:((cz la).2 != 0)=N)(h2:((bX la).2.2 != 0)=J):(CW S5 uS [] N (wP (al Uy) 4) (pwS w d5 st sm rs la as_ m1 m2 l bs) .ret (pwX w (bX la).2.2)):=by let v0:=(zg0 l);refine yx ze7 [.c (Tp (Γ':=uS) (@qu (iI (TC w)) (iI (zdz 0)) (zfO sm) (iI (zhl 4 0 w d5)) (zb8 rs 0) (iI (zfj st as_)) (zbf m1) (zbf m2) (zi6 sm bs) l hl hT)),((by subst v0;simp_all):bE (UF l leS)=S2 (λx=>S2 D.p x) v0),(?_:(zaC 8 v0 (bp 0 sm))=bp 0 sm),(?_:S2 (Tz (cw 8 0 v0)) (ad (J2 rs))=ad (J2 rs)),(?_:(zaC 8 v0 (aG 0 m1))=aG 0 m1),(?_:(zaC 8 v0 (aG 0 m2))=aG 0 m2),.o (zed 8 v0),.v (Tp (Γ':=uS) (@iQ la hla (N8 w d5 st sm rs as_ m1 m2 l bs))),.b h1,.v (Tp (Γ':=uS) (@lA la hla (N7 w d5 st sm rs la as_ m1 m2 l bs))),.b h2]<;>subst v0<;>(first|exact aB _ _|exact dg _ _ _|exact cK _ _ _)
noncomputable abbrev N9(w:kc)(d5:Int)(st:Int)(sm:SM)(rs:iF)(la:iN)(as_:bv)(m1:IM)(m2:IM)(l:If)(bs:iS):aT:=[iI (ZA w),iI [ab (zg0 l),(ZM 10000 ((cz la).fst)),go 0,go 0],Η (bp 0 sm) (S7 sm),iI (zhl 4 0 w d5),.lk (ad (J2 rs)) 0 5,iI (zfj st as_),Η (aG 0 m1) (S7 m1),Η (aG 0 m2) (S7 m2),S3,.mit (G 2) (S7 sm) bs (S7 sm)]
noncomputable abbrev Oa(w:kc)(d5:Int)(st:Int)(sm:SM)(rs:iF)(as_:bv)(m1:IM)(m2:IM)(l:If)(bs:iS):aT:=[iI (ZA w),iI [ab (zg0 l),go 0,go 0,go 0],Η (bp 0 sm) (S7 sm),iI (zhl 4 0 w d5),.lk (ad (J2 rs)) 0 5,iI (zfj st as_),Η (aG 0 m1) (S7 m1),Η (aG 0 m2) (S7 m2),S3,.mit (G 2) (S7 sm) bs (S7 sm)]
theorem pw_c(hla:ah la)(hl:l.length<4611686018427387904)(hT:∀x∈l,∀y∈l,x.lm=y.lm->x=y)(h1:((cz la).2 != 0)=N)(h2:((bX la).2.2 != 0)=N):(CW S5 uS [] N (wP (al Uy) 4) (pwS w d5 st sm rs la as_ m1 m2 l bs) .ret (pwE w rs la l)):=by let v0:=(zg0 l);refine yx ze7 [.c (Tp (Γ':=uS) (@qu (iI (TC w)) (iI (zdz 0)) (zfO sm) (iI (zhl 4 0 w d5)) (zb8 rs 0) (iI (zfj st as_)) (zbf m1) (zbf m2) (zi6 sm bs) l hl hT)),((by subst v0;simp_all):bE (UF l leS)=S2 (λx=>S2 D.p x) v0),(?_:(zaC 8 v0 (bp 0 sm))=bp 0 sm),(?_:S2 (Tz (cw 8 0 v0)) (ad (J2 rs))=ad (J2 rs)),(?_:(zaC 8 v0 (aG 0 m1))=aG 0 m1),(?_:(zaC 8 v0 (aG 0 m2))=aG 0 m2),.o (zed 8 v0),.v (Tp (Γ':=uS) (@iQ la hla (Oa w d5 st sm rs as_ m1 m2 l bs))),.b h1,.v (Tp (Γ':=uS) (@lA la hla (N9 w d5 st sm rs la as_ m1 m2 l bs))),.b h2,((by subst v0;grind):ad (J2 rs)=S2 (λx=>S2 D.p x) (J2 rs)),(?_:(zaC 4 (J2 rs) (bp 0 sm))=bp 0 sm),(?_:(zaC 4 (J2 rs) (aG 0 m1))=aG 0 m1),(?_:(zaC 4 (J2 rs) (aG 0 m2))=aG 0 m2),pe (TF [ab v0,(ZM 10000 ((cz la).fst)),go (bX la).fst,go (bX la).2.fst]),pe zcN,pe zcN,pe zcN,pe zcN,po (G (ab (J2 rs))),po (G (ab (J2 rs))),.o (zed 4 (J2 rs))]<;>subst v0<;>(first|exact aB _ _|exact dg _ _ _|exact cK _ _ _)
def Ff:Code->Code
 |.seq (.seq a _) _=>a
 |_=>.skip
theorem Jc:(CW S5 uS [] N (Ff (zf (al Uy) 4)) (nbE w d5 st sm rs cs as_ m1 m2) NO {t:=Bn 190 0 (mpT cs),h:=mpH w d5 st sm rs as_ m1 m2 [] [],m:=[]}):=yx [δ (τ [10,11,17,19,150])] [.o (.zjT 1 0 4)]
def opAt(c:Code)(i:Nat):Oper:=match c with
 |.seq (.region _ ops _) _=>ops.toList.getD i default
 |_=>default
theorem CJ:zf (al Uy) 4=.seq (.seq (Ff (zf (al Uy) 4)) (.block 8 (.loop (.seq (.region 40 #[opAt (sub Uy 4) 0,opAt (sub Uy 4) 1] false) (.seq (.cond (.tmp 152) .skip (.exit 8)) (LV (sub Uy 4))))))) (wP (al Uy) 4):=by kernel_rfl
theorem uG:∀(n i:Nat) (l:List (Nat×D)),(Bn n i l).length=n
 |0,_,_=>rfl
 |n+1,i,[]=>by simp[Bn,uG n]
 |n+1,i,(k,d)::l=>by unfold Bn;split<;>simp[uG n]
def smV(m:SM):If:=m.map (·.2)
theorem uH:∀{m:SM} {j:Nat} {e:D×D×Nat},e∈bp j m->∃k s,e=(go k,seD s,e.2.2)/\j<=e.2.2/\e.2.2<j+m.length
 | [],_,_,h=>by simp[bp] at h
 |(k,s)::m,j,e,h=>by
  simp[bp] at h;rcases h with rfl|h
  ·grind
  ·obtain⟨k',s',h1,h2,h3⟩:=uH h;grind
theorem jY:∀(m:SM) (j:Nat),cE (bp j m)=List.range' j m.length
 | [],_=>rfl
 |(k,s)::m,j=>by have:=jY m (j+1);simp[cE] at this;simp[bp,List.range'_succ,this]
theorem xj:∀(m:SM) (j:Nat),(bp j m).map LU=smV m
 | [],_=>rfl
 |(k,s)::m,j=>by have:=xj m (j+1);simp only[bp,U5,this,smV];rfl
theorem qv:∀{l:List (D×D×Nat)} {e:D×D×Nat},(cE l).Nodup->e∈l->l.find? (λx=>x.2.2==e.2.2)=G e
 |a::l,e,hn,he=>by
  rw[List.find?_cons];simp only[U5,List.nodup_cons] at hn;rcases List.mem_cons.1 he with rfl|he
  ·simp
  ·have:(a.2.2==e.2.2)=N:=by simp only[beq_eq_false_iff_ne,ne_eq];intro hh;exact hn.1 (hh▸T2.2 ⟨e,he,rfl⟩)
   rw[this];exact qv hn.2 he
abbrev mpS(w:kc)(d5 st:Int)(sm:SM)(rs:iF)(la:iN)(as_:bv)(m1 m2:IM)(pre:List (D×D×Nat)):AS :={t:=Bn 190 0 (mpT (la.map Tb)),h:=mpH w d5 st sm rs as_ m1 m2 (pre.map LU) (cE pre),m:=[]}
theorem Ob{sF:AS}(hsm:sm.length<=1000000)(ztQ:∀(l:If) (bs:iS),l.Perm (smV sm)->CW S5 uS [] N (wP (al Uy) 4) (pwS w d5 st sm rs la as_ m1 m2 l bs) .ret sF) :CW S5 uS [] N (zf (al Uy) 4) (nbE w d5 st sm rs (la.map Tb) as_ m1 m2) .ret sF:=by
 intro X r hX hr;rw[CJ];have hnd:(cE (bp 0 sm)).Nodup:=by rw[jY];exact List.nodup_range'
 refine VW.seq (VW.seq (VW.mono (Jc X r hX hr) ?_));rintro e0 s0 ⟨rfl,rfl⟩;show VW S5 uS X r _ _ (mpS w d5 st sm rs la as_ m1 m2 []);refine(VW.block (VW.mapLoop (kvs:=bp 0 sm) (clock:=sm.length) (b:=9) (mb:=2) (x1:=151) (x2:=152) (it:=.tmp 150) (mpS w d5 st sm rs la as_ m1 m2) Z Z Z Z Z Z ?_ ?_ hnd ?_ ?_));·intro pre;exact⟨by simp[uG],by simp[uG],rfl,rfl,rfl,rfl,λ_=>rfl⟩
 ·intro e he;obtain⟨_,_,_,_,h⟩:=uH he;omega
 ·intro pre e post hp;have hem:e∈bp 0 sm:=hp.mem_iff.1 F1;obtain⟨k,s,h1,_,_⟩:=uH hem;have hlen:pre.length<=1000000:=by
   have:=hp.length_eq;have h2:(bp 0 sm).length=sm.length:=by have:=congrArg S7 (jY sm 0);simpa[cE] using this
   simp only[Uk,List.length_cons] at this;omega
  have hen:jv (mpH w d5 st sm rs as_ m1 m2 (pre.map LU) (cE (pre++[e]))) (mW (.it 9))=G (JV [go k,uT (zaX s)]):=by
   have hl:(cE (pre++[e])).getLast? = G e.2.2:=by simp[cE]
   have hf:=qv hnd hem;unfold jv;simp only[mpH,List.getElem?_cons_succ,List.getElem?_cons_zero,hl,smB,if_true,hf,Option.map_some];rw[h1];rfl
  have hb:=N5 (w:=w) (d5:=d5) (st:=st) (sm:=sm) (rs:=rs) (cs:=la.map Tb) (as_:=as_) (m1:=m1) (m2:=m2) (l:=pre.map LU) (bs:=cE (pre++[e])) (k:=k) (x:=s) uU hen X r hX hr;have hse:(pre++[e]).map LU=pre.map LU++[s]:=by rw[List.map_append,h1];rfl
  have he1:e.1=go k:=by rw[h1]
  have he2:e.2.1=seD s:=by rw[h1]
  rw[he1,he2];refine VW.mono hb ?_;grind
 ·intro pre hp;have zpC:(pre.map LU).Perm (smV sm):=by rw[<-xj sm 0];exact hp.map _
  exact ztQ (pre.map LU) (cE pre) zpC X r hX hr
theorem uI(a b:ω):leS a b=J ↔ a.lm<=b.lm:=by grind [Bool.not_eq_true',uE,leS]
theorem xk(a b c:ω)(h1:leS a b=J)(h2:leS b c=J):leS a c=J:=by grind [uI]
theorem xl(a b:ω):(leS a b||leS b a)=J:=by rw[Bool.or_eq_true,uI,uI];omega
def Oc(l:If):Prop:=∀x∈l,∀y∈l,x.lm=y.lm->x=y
theorem CK{l':If}(hp:l.Perm l')(hd:Oc l'):l.mergeSort leS=l'.mergeSort leS:=by
 refine List.Perm.eq_of_pairwise (le:=λa b=>leS a b=J) ?_ (YI xk xl _) (YI xk xl _) ((X0 _ _).trans (hp.trans (X0 _ _).symm));intro a b ha hb h1 h2;have ha':a∈l':=hp.mem_iff.1 (by simpa using ha);have hb':b∈l':=by simpa using hb
 rw[uI] at h1 h2;exact hd a ha' b hb' tj
def zna(m:SM):Prop:=(m.map (·.1)).Nodup/\∀e∈m,e.2.lm=e.1
theorem mP(m:SM)(k:Int)(v:ω):(cY m k v).map (·.1)=if k∈m.map (·.1) then m.map (·.1) else m.map (·.1)++[k]:=by
 induction m with
 |nil=>simp[cY]
 |cons e m ih=>obtain⟨a,x⟩:=e;unfold cY;grind
theorem zrG{e:Int×ω}(h:e∈cY m k v):e=(k,v)\/e∈m:=by
 induction m with
 |nil=>grind [cY]
 |cons a m ih=>grind [cY]
theorem zna.put(h:zna m)(hv:v.lm=k):zna (cY m k v):=by
 refine⟨?_,λe he=>?_⟩
 ·rw[mP];split;·exact h.1
  ·rename_i hk;rw[List.nodup_append];refine⟨h.1,F1,λa ha b hb=>?_⟩;grind
 ·rcases zrG he with rfl|he;·exact hv
  ·exact h.2 e he
theorem zna.dist(h:zna m):Oc (smV m):=by
 intro x hx y hy hxy;obtain⟨⟨k,s⟩,he,rfl⟩:=T2.1 hx;obtain⟨⟨k',s'⟩,he',rfl⟩:=T2.1 hy;have h1:=h.2 _ he;have h2:=h.2 _ he';simp only at h1 h2 hxy;have hk:k=k':=by rw[<-h1,<-h2,hxy]
 subst hk;have key:∀(m:SM),(m.map (·.1)).Nodup->(k,s)∈m->(k,s')∈m->s=s':=by
  intro m;induction m with
  |nil=>grind
  |cons a m ih=>grind
 exact key m h.1 he he'
theorem xm:∀(l:bV) (x:ω),(l.foldl (xF m1 m2) x).lm=x.lm
 | [],_=>rfl
 |c::l,x=>by rw[List.foldl_cons,xm l];grind [xF]
theorem Fg{w:kc}{d5 fI:Int}{m1 m2:IM}:∀(ns:bV) (s:RSM),zna s.2->zna (ns.foldl (nbF w d5 fI m1 m2) s).2/\(ns.foldl (nbF w d5 fI m1 m2) s).2.length<=s.2.length+ns.length
 | [],s,h=>⟨h,F1⟩
 |n::ns,s,h=>by
  have h1:zna (nbF w d5 fI m1 m2 s n).2:=by
   unfold nbF;cases lL ((zlr w d5 fI m1 m2 s.2 n).tries>0);·exact h
   ·exact h.put (xm _ _)
  have h2:(nbF w d5 fI m1 m2 s n).2.length<=s.2.length+1:=by
   unfold nbF;cases lL ((zlr w d5 fI m1 m2 s.2 n).tries>0);·simp
   ·have:=congrArg S7 (mP s.2 n (zlr w d5 fI m1 m2 s.2 n));grind
  have h3:=Fg (w:=w) (d5:=d5) (fI:=fI) (m1:=m1) (m2:=m2) ns _ h1;grind
theorem Bf:∀(now:bV) (s:Int×SM) {s':Int×SM},zna s.2->Pu snF now s=.inl s'->zna s'.2/\s'.2.length<=s.2.length+now.length
 | [],s,s',h,he=>by grind [Pu,Sum.inl.injEq]
 | c::now,s,s',h,he=>by
  simp[Pu,snF] at he;cases hk:ST s.1 c<;>rw[hk] at he;·simp at he
  ·simp at he;have h3:=Bf now _ (h.put (k:=c) (v:=⟨c,0,-1,true⟩) rfl) he;have:=congrArg S7 (mP s.2 c ⟨c,0,-1,true⟩);grind
def znl(la:iN):Unit⊕Int:=if (cz la).2 != 0 then .inr (cz la).2 else if (bX la).2.2 != 0 then .inr (bX la).2.2 else .inl ()
def CL(w:kc)(rs:iF)(la:iN)(l:If):Exit×AS:=bf .ret (λ_:Unit=>pwE w rs la l) (λe:Int=>(.ret,pwX w e)) (znl la)
theorem Fh(w:kc)(rs:iF)(la:iN)(l:If):(CL w rs la l).1=.ret:=by unfold CL;cases znl la<;>rfl
theorem Od{w:kc}{d5 st:Int}{sm:SM}{rs:iF}{la:iN}{as_:bv}{m1 m2:IM}(hla:ah la)(hok:zna sm)(hsm:sm.length<=1000000):CW S5 uS [] N (zf (al Uy) 4) (nbE w d5 st sm rs (la.map Tb) as_ m1 m2) (CL w rs la (smV sm)).1 (CL w rs la (smV sm)).2:=by
 rw[Fh];refine Ob hsm λl bs hp=>?_;have hd:Oc l:=λx hx y hy=>hok.dist x (hp.mem_iff.1 hx) y (hp.mem_iff.1 hy);have hl:l.length<4611686018427387904:=by have:=hp.length_eq;simp only[smV,List.length_map] at this;omega
 have hs:=CK hp hok.dist;unfold CL znl;cases h1:((cz la).2 != 0)
 ·cases h2:((bX la).2.2 != 0);·have:=pw_c (w:=w) (d5:=d5) (st:=st) (sm:=sm) (rs:=rs) hla (as_:=as_) (m1:=m1) (m2:=m2) (bs:=bs) hl hd h1 h2;rw[pwE,hs] at this;exact this
  ·exact pw_b (w:=w) (d5:=d5) (st:=st) (sm:=sm) (rs:=rs) hla (as_:=as_) (m1:=m1) (m2:=m2) (bs:=bs) hl hd h1 h2
 ·exact pw_a (w:=w) (d5:=d5) (st:=st) (sm:=sm) (rs:=rs) hla (as_:=as_) (m1:=m1) (m2:=m2) (bs:=bs) hl hd h1
def xn(e:Int):D:=JV [uT (ziM fw),fw,go e]
def sitOk(seen:If)(Ps n d:Int)(rs:iF):D:=JV [uT [ab (seen.map TQ),go Ps,go n,go d],ab (J2 rs),go 0]
noncomputable abbrev s9(w:kc):aT:=[iI (ZA w),iI zaA]
theorem Oe(hb:(!(lL (st>=0)&&lL (st<=19999))||!(lL (fI>=0)&&lL (fI<=1023)))=J)(h:aT):(Ev S5 uS 33 [uT w.l,go st,go fI,go d5,ab (zaQ now)] h (xn 150) h):=y0 [.v (Tp (Γ':=uS) (@bc st 0 19999 (s9 w))),.w (!!(lL (st>=0)&&lL (st<=19999))) (Tp (Γ':=uS) (@bc fI 0 1023 (s9 w))),.b hb] h
def mQ(w:kc)(d5 fI:Int)(aa:iN)(rs:iF)(sm:SM):RSM:=(af w.f d5).foldl (nbF w d5 fI (bg aa).1 (bg aa).2) (rs,sm)
def Og(w:kc)(d5 fI:Int)(now:bV)(rr qq:iF)(aa la:iN)(ee:Int):D:=match snR now with
 |.inr _=>xn 150
 |.inl s=>match (ee != 0) with
  |true=>xn ee
  |false=>match znl la with
   |.inr e=>xn e
   |.inl _=>sitOk ((smV (mQ w d5 fI aa (rr++qq++[rdN]) s.2).2).mergeSort leS) (mnI (cz la).1 10000) (bX la).1 (bX la).2.1 (mQ w d5 fI aa (rr++qq++[rdN]) s.2).1
theorem Fi{ns:bV}(h:snR now=.inl s):zna (ns.foldl (nbF w d5 fI m1 m2) (rs,s.2)).2 :=(Fg ns (rs,s.2) (Bf now (-1,[]) ⟨by simp,by simp⟩ h).1).1
theorem zp{ns:bV}(hn:now.length<=1000)(hs:ns.length<=1000)(h:snR now=.inl s):(ns.foldl (nbF w d5 fI m1 m2) (rs,s.2)).2.length<=1000000:=by have h1:=(Fg (w:=w) (d5:=d5) (fI:=fI) (m1:=m1) (m2:=m2) ns (rs,s.2) (Bf now (-1,[]) ⟨by simp,by simp⟩ h).1).2;have h2:=(Bf now (-1,[]) ⟨by simp,by simp⟩ h).2;grind
noncomputable abbrev eI(w:kc):aT:=[iI (ZA w),iI zaA]
abbrev zhy(a:kc)(b:Int×SM)(c:bY)(d:List (bY))(e:Nat)(f:bY)(g:iN):aT:=[iI (TC a),iI zaA,Η (bp 0 b.2) (S7 b.2),iI c,.lk d e 5,iI f,Η (aG 0 (bg g).fst) (S7 (bg g).fst),Η (aG 0 (bg g).2) (S7 (bg g).2)]
abbrev zhO(a:kc)(b:Int×SM)(c:bY)(d:List (bY))(e:Nat)(f:bY):aT:=[iI (TC a),iI zaA,Η (bp 0 b.2) (S7 b.2),iI c,.lk d e 5,iI f]
abbrev zhT(a:kc)(b:Int×SM)(c:bY)(d:List (bY))(e:Nat):aT:=[iI (TC a),iI zaA,Η (bp 0 b.2) (S7 b.2),iI c,.lk d e 5]
theorem sit_a(hw:w.ok)(hn:now.length<=1000)(hl:ah now)(hN:(af w.f d5).length<=100)(hN2:(af w.f d5).length<=1000){rr qq:iF}{aa:iN}{ee:Int}(haa:ah aa)(hla:ah la)(hrs:(rr++qq++[rdN]).length<=800000000)(hrq:(rr++qq).length<=999999000)(hof:Ev S5 uS 91 (zbF 0 st fI) (lkH w d5 [] 0) (.agg [go st,ab (aa.map Tb)]) (lkH w d5 rr 1)) (zmz:Ev S5 uS 92 [.ref (.ptr 0 0),ab (aa.map Tb),go fI] (lkH w d5 rr 0) (.Ρ [ab (la.map Tb),go ee]) (lkH w d5 (rr++qq) 1))(hb:(!(lL (st>=0)&&lL (st<=19999))||!(lL (fI>=0)&&lL (fI<=1023)))=false) (h:aT):(Ev S5 uS 33 [.agg w.l,go st,go fI,go d5,ab (zaQ now)] h (Og w d5 fI now rr qq aa la ee) h):=by
 have Pq:=(@sn_cw (w) (st) (fI) (d5) (now) (hl));unfold NW at Pq;revert Pq;cases ho1:snR now with
 | inl ξ =>
  intro Pq;cases hc2:ee != 0
  ·have hl3:=(@st_cw (w) (d5) (st) (fI) (ξ.2) (rr++qq) (S2 Tb la) (aa) (haa));have hl4:=(@nb_cw (w) (hw) (d5) (st) (fI) (hN) (ξ.2) (rr++qq++[rdN]) (hrs) (S2 Tb la) (S2 Tb aa) ((bg aa).fst) ((bg aa).2));have hl5:=(@Od (w) (d5) (st) ((TE (nbF w d5 fI (bg aa).fst (bg aa).2) (rr++qq++[rdN],ξ.2) (af w.f d5)).2) ((TE (nbF w d5 fI (bg aa).fst (bg aa).2) (rr++qq++[rdN],ξ.2) (af w.f d5)).fst) (la) (S2 Tb aa) ((bg aa).fst) ((bg aa).2) (hla) (by first|assumption|rfl|omega|exact Fi (by assumption)|exact zp hn hN2 (by assumption)|exact aB _ _|exact dg _ _ _|exact cK _ _ _|exact ge|exact sZ|exact br) (by first|assumption|rfl|omega|exact Fi (by assumption)|exact zp hn hN2 (by assumption)|exact aB _ _|exact dg _ _ _|exact cK _ _ _|exact ge|exact sZ|exact br));unfold CL at hl5;revert hl5;cases ho6:znl la with
   | inl o6_0_0 =>intro hl5;let v0:=TE (nbF w d5 fI (bg aa).fst (bg aa).2) (rr++qq++[rdN],ξ.2) (af w.f d5);let v1:bY:=(zhl 4 0 w d5);let v2:bY:=(zhl 4 1 w d5);let v3:bY:=(zfj st (S2 Tb aa));let v4:bY:=[ab (zg0 (smV v0.2)),go (mnI (cz la).fst 10000),go (bX la).fst,go (bX la).2.fst];refine yD (TT [TF v4,ab (J2 v0.fst),go 0]) [.v (Tp (Γ':=uS) (@bc st 0 19999 (eI w))),.w (!!(lL (st>=0)&&lL (st<=19999))) (Tp (Γ':=uS) (@bc fI 0 1023 (eI w))),.b hb,.s [1,2,3,5,10,11,12,13,14,42,43,44] Pq,.n 1,.o (.zjT 3 0 5),.c ((fX [3,4] (@hof) ⟨(by subst v0 v1 v2 v3 v4;grind),trivial⟩ ⟨(by subst v0 v1 v2 v3 v4;exact aj _ _),trivial⟩):Ev S5 uS 91 (zbF 3 st fI) (zhT w ξ v1 [] 0) (TF v3) (zhT w ξ v2 (ad (J2 rr)) 1)),(?_:S2 (Tz (ar 4 1 0)) (ad (J2 rr))=ad (J2 rr)),(?_:(zav 4 (bp 0 ξ.2))=bp 0 ξ.2),.o (.ren 4 0),.c ((fX [3,4] (@zmz) ⟨(by subst v0 v1 v2 v3 v4;exact aj _ _),trivial⟩ ⟨(by subst v0 v1 v2 v3 v4;exact aj _ _),trivial⟩):Ev S5 uS 92 (zf7 3 aa fI) (zhO w ξ v1 (ad (J2 rr)) 0 v3) (zjc la ee) (zhO w ξ v2 (zct rr qq) 1 v3)),.b hc2,(?_:S2 (Tz (ar 4 1 0)) (zct rr qq)=ad (J2 (rr++qq))),(?_:(zav 4 (bp 0 ξ.2))=bp 0 ξ.2),.o (.ren 4 0),.s [2,10,11,13,17,19,20,21,80,81,82] hl3,.c ((fX [3,4] (@u6 w hw d5 (rr++qq) hrq) ⟨(by subst v0 v1 v2 v3 v4;exact aj _ _),trivial⟩ ⟨(by subst v0 v1 v2 v3 v4;exact aj _ _),trivial⟩):Ev S5 uS 93 zek (zhy w ξ v1 (zct rr qq) 0 v3 aa) (ab (zcd (af w.f d5))) (zhy w ξ v2 (zdJ rr qq [rdN]) 1 v3 aa)),(?_:S2 (Tz (ar 4 1 0)) (zdJ rr qq [rdN])=ad (J2 (rr++qq++[rdN]))),(?_:(zav 4 (bp 0 ξ.2))=bp 0 ξ.2),(?_:(zav 4 (aG 0 (bg aa).fst))=aG 0 (bg aa).fst),(?_:(zav 4 (aG 0 (bg aa).2))=aG 0 (bg aa).2),.o (.ren 4 0),.s [2,10,11,13,17,19,20,21,102,103,104] hl4,hl5,.a1 (.zlq [10,11,13,17,19] VM {t:=Bn 190 0 [WF,(11,ab (J2 v0.fst)),(12,go 0)],h:=[.var (TC w),.var v4]})] h (by subst v0 v1 v2 v3 v4;(simp only[Og,ho1,hc2,ho6];first|done|rfl))<;>subst v0 v1 v2 v3 v4<;>(first|exact aB _ _|exact dg _ _ _|exact cK _ _ _)
   | inr ztx =>intro hl5;let v0:bY:=(zhl 4 0 w d5);let v1:bY:=(zhl 4 1 w d5);let v2:bY:=(zfj st (S2 Tb aa));refine yD (TT [TF zaA,nq,go ztx]) [.v (Tp (Γ':=uS) (@bc st 0 19999 (eI w))),.w (!!(lL (st>=0)&&lL (st<=19999))) (Tp (Γ':=uS) (@bc fI 0 1023 (eI w))),.b hb,.s [1,2,3,5,10,11,12,13,14,42,43,44] Pq,.n 1,.o (.zjT 3 0 5),.c ((fX [3,4] (@hof) ⟨(by subst v0 v1 v2;grind),trivial⟩ ⟨(by subst v0 v1 v2;exact aj _ _),trivial⟩):Ev S5 uS 91 (zbF 3 st fI) (zhT w ξ v0 [] 0) (TF v2) (zhT w ξ v1 (ad (J2 rr)) 1)),(?_:S2 (Tz (ar 4 1 0)) (ad (J2 rr))=ad (J2 rr)),(?_:(zav 4 (bp 0 ξ.2))=bp 0 ξ.2),.o (.ren 4 0),.c ((fX [3,4] (@zmz) ⟨(by subst v0 v1 v2;exact aj _ _),trivial⟩ ⟨(by subst v0 v1 v2;exact aj _ _),trivial⟩):Ev S5 uS 92 (zf7 3 aa fI) (zhO w ξ v0 (ad (J2 rr)) 0 v2) (zjc la ee) (zhO w ξ v1 (zct rr qq) 1 v2)),.b hc2,(?_:S2 (Tz (ar 4 1 0)) (zct rr qq)=ad (J2 (rr++qq))),(?_:(zav 4 (bp 0 ξ.2))=bp 0 ξ.2),.o (.ren 4 0),.s [2,10,11,13,17,19,20,21,80,81,82] hl3,.c ((fX [3,4] (@u6 w hw d5 (rr++qq) hrq) ⟨(by subst v0 v1 v2;exact aj _ _),trivial⟩ ⟨(by subst v0 v1 v2;exact aj _ _),trivial⟩):Ev S5 uS 93 zek (zhy w ξ v0 (zct rr qq) 0 v2 aa) (ab (zcd (af w.f d5))) (zhy w ξ v1 (zdJ rr qq [rdN]) 1 v2 aa)),(?_:S2 (Tz (ar 4 1 0)) (zdJ rr qq [rdN])=ad (J2 (rr++qq++[rdN]))),(?_:(zav 4 (bp 0 ξ.2))=bp 0 ξ.2),(?_:(zav 4 (aG 0 (bg aa).fst))=aG 0 (bg aa).fst),(?_:(zav 4 (aG 0 (bg aa).2))=aG 0 (bg aa).2),.o (.ren 4 0),.s [2,10,11,13,17,19,20,21,102,103,104] hl4,hl5,.a1 (.zlq [10,11,13,17,19] VM {t:=Bn 190 0 [WF,(11,nq),(12,go ztx)],h:=(eI w)})] h (by subst v0 v1 v2;(simp[Og,ho1,hc2,ho6];first|done|rfl))<;>subst v0 v1 v2<;>(first|exact aB _ _|exact dg _ _ _|exact cK _ _ _)
  ·let v0:bY:=(zhl 4 0 w d5);let v1:bY:=(zhl 4 1 w d5);let v2:bY:=(zfj st (S2 Tb aa));refine yD (TT [TF zaA,nq,go ee]) [.v (Tp (Γ':=uS) (@bc st 0 19999 (eI w))),.w (!!(lL (st>=0)&&lL (st<=19999))) (Tp (Γ':=uS) (@bc fI 0 1023 (eI w))),.b hb,.s [1,2,3,5,10,11,12,13,14,42,43,44] Pq,.n 1,.o (.zjT 3 0 5),.c ((fX [3,4] (@hof) ⟨(by subst v0 v1 v2;grind),trivial⟩ ⟨?_,trivial⟩):Ev S5 uS 91 (zbF 3 st fI) (zhT w ξ v0 [] 0) (TF v2) (zhT w ξ v1 (ad (J2 rr)) 1)),((by subst v0 v1 v2;exact aB _ _):S2 (Tz (ar 4 1 0)) (ad (J2 rr))=ad (J2 rr)),((by subst v0 v1 v2;exact dg _ _ _):S2 (λe=>(Ty (ar 4 1 0) e.fst,Ty (ar 4 1 0) e.2.fst,e.2.2)) (bp 0 ξ.2)=bp 0 ξ.2),.o (.ren 4 0),.c ((fX [3,4] (@zmz) ⟨?_,trivial⟩ ⟨?_,trivial⟩):Ev S5 uS 92 (zf7 3 aa fI) (zhO w ξ v0 (ad (J2 rr)) 0 v2) (zjc la ee) (zhO w ξ v1 (zct rr qq) 1 v2)),.b hc2] h (by subst v0 v1 v2;(simp[Og,ho1,hc2];first|done|rfl))<;>subst v0 v1 v2<;>(exact aj _ _)
 | inr zce =>intro Pq;exact yD (TT [TF zaA,nq,go 150]) [.v (Tp (Γ':=uS) (@bc st 0 19999 (eI w))),.w (!!(lL (st>=0)&&lL (st<=19999))) (Tp (Γ':=uS) (@bc fI 0 1023 (eI w))),.b hb,.s [1,2,3,5,10,11,12,13,14,42,43,44] Pq] h (by(simp[Og,ho1];first|done|rfl))
def xp(last:Int)(x:ω):Bool:=!(lL (x.lm>=last+1)&&lL (x.lm<=4095))||!(lL (x.tries>=0)&&lL (x.tries<=100))||!(lL (x.JY >= -1)&&lL (x.JY<=12))||(lL (x.JY>=0) != lL (x.tries>=1))
def HZ(x:ω)(last:Int):Int⊕Unit:=bif xp last x then .inr () else .inl x.lm
abbrev zcP(a:D)(b c f:Int):aT:=[iI [a,go b,go c,go f]]
abbrev SU(l:bv)(e n d:Int)(last i:Int):AS:={t:=Bn 53 0 [zdN,(2,go 0),(3,go last),(7,ab l),(8,go l.length),(9,go i)],h:=(zcP (ab l) e n d),m:=[]}
abbrev sftE(l:bv)(e n d:Int):AS:={t:=Bn 53 0 [zdN],h:=(zcP (ab l) e n d),m:=[]}
abbrev sftX:Unit->Exit×AS:=λ_=>(.ret,{t:=Bn 53 0 [(2,go 120)],h:=[],m:=[]})
noncomputable abbrev dW(l:bv)(e:Int)(n:Int)(d:Int)(x:ω):aT:=[iI [ab l,go e,go n,go d],iI (zaX x)]
theorem Jd{l:List (List Dp)}(hr:ao (i:Int) l x.row 4)(hlw:S6.wrap (last+1)=last+1)(xD:lL ((i:Int)<(l.length:Int))=true)(hw:S6.wrap ((i:Int)+1)=((i+1:Nat):Int)):(CW S5 mX [] false (sub Tryz.f170 0) (SU l e n d last i) (ai (λs=>SU l e n d s ((i+1:Nat):Int)) sftX (HZ x last)).1 (ai (λs=>SU l e n d s ((i+1:Nat):Int)) sftX (HZ x last)).2):=by
 cases F3:!(lL (x.lm>=S8 S6 (last+1))&&lL (x.lm<=4095))||!(lL (x.tries>=0)&&lL (x.tries<=100))||!(lL (x.JY >= -1)&&lL (x.JY<=12))||!lL (x.JY>=0)==lL (x.tries>=1)
 ·refine yX {t:=Bn 53 0 [(1,.ref (.ptr 0 0)),(2,go 0),(3,go x.lm),(7,ab l),(8,go (↑(S7 l):Int)),(9,go (S8 S6 ((↑i:Int)+1)))],h:=[.var [ab l,go e,go n,go d]],m:=[]} Tr [.st (.mask [1,2,3,7,8,9]),.st (.trim 1)] [.b xD,.r hr,.v (@a7 (x.lm) (S8 S6 (last+1)) 4095 (dW l e n d x)),.w (!!(lL (x.lm>=S8 S6 (last+1))&&lL (x.lm<=4095))) (@a7 (x.tries) 0 100 (dW l e n d x)),.w (!(!(lL (x.lm>=S8 S6 (last+1))&&lL (x.lm<=4095))||!(lL (x.tries>=0)&&lL (x.tries<=100)))) (@a7 (x.JY) (-1) 12 (dW l e n d x)),.b F3] ?_ ?_<;>(have hh:xp last x=false:=(by have:=F3;rw[hlw] at this;exact this);simp only[HZ,hh,cond_false];first|done|rfl|(rw[hw];rfl))
 ·refine yX {t:=Bn 53 0 [(2,go 120)],h:=[],m:=[]} VM [.st (.mask [2]),.st (.trim 0)] [.b xD,.r hr,.v (@a7 (x.lm) (S8 S6 (last+1)) 4095 (dW l e n d x)),.w (!!(lL (x.lm>=S8 S6 (last+1))&&lL (x.lm<=4095))) (@a7 (x.tries) 0 100 (dW l e n d x)),.w (!(!(lL (x.lm>=S8 S6 (last+1))&&lL (x.lm<=4095))||!(lL (x.tries>=0)&&lL (x.tries<=100)))) (@a7 (x.JY) (-1) 12 (dW l e n d x)),.b F3] ?_ ?_<;>(have hh:xp last x=true:=(by have:=F3;rw[hlw] at this;exact this);simp only[HZ,hh,cond_true];first|done|rfl)
theorem Je{l:bv}(xD:lL ((i:Int)<(l.length:Int))=N):(CW S5 mX [] N (sub Tryz.f170 0) (SU l e n d last i) (η 0) (sftE l e n d)):=yx (zeI 1) [.b xD]
def Fj(l:If)(e n d:Int):Exit×AS:=bf (η 0) (λ_:Int=>sftE (l.map TQ) e n d) sftX (Pu HZ l (-1))
theorem sft_bd{s:Int}(hl : -1<=last)(h:HZ x last=.inl s):-1<=s/\s<=4095:=by unfold HZ at h;cases hb:xp last x<;>rw[hb] at h<;>simp at h;grind [xp]
theorem sft_cw{l:If}{e n d:Int}(hl:ah l):CW S5 mX [] false (.loop (sub Tryz.f170 0)) (SU (l.map TQ) e n d (-1) 0) (Fj l e n d).1 (Fj l e n d).2:=by
 refine UR l HZ (λi s=>SU (l.map TQ) e n d s (i:Int)) (.exit 0) (λ_=>sftE (l.map TQ) e n d) sftX (λ_ s => -1<=s/\s<=4095) (by simp) (λ_=>by simp[sftX]) ?_ ?_ (-1) (by omega);·intro i x s hx hs;have hi:=(Td.1 hx).1;exact⟨λs' h=>sft_bd hs.1 h,Jd (rowAt hx rfl) (wrap_i64 (by omega) (by omega)) (κ TQ hi) (J3 hi hl)⟩
 ·intro s _;exact Je (aR TQ l)
def uJ(l:If)(e n d:Int):Int:=match Pu HZ l (-1) with
 |.inr _=>120
 |.inl _=>bif (!(lL (e>=0)&&lL (e<=10000))||!(C0 n d)) then 120 else 0
theorem Jf(hl:ah l)(hn:Ψ n)(hd:Ψ d)(h:aT):(Ev S5 mX 170 [uT [ab (l.map TQ),go e,go n,go d]] h (go (uJ l e n d)) h):=by
 have Pq:=(@sft_cw (l) (e) (n) (d) (hl));unfold Fj at Pq;revert Pq;cases ho1:Pu HZ l (-1) with
 |inl ξ=>
  intro Pq;cases hc2:!(lL (e>=0)&&lL (e<=10000))||!(ex n d==0&&lL (n>=0)&&lL (n<=S8 S6 (12*d)))
  ·exact yD (go 0) [.s [1,2,3,7,8,9] Pq,.v (@a7 e 0 10000 (zcP (ab (S2 TQ l)) e n d)),.w (!!(lL (e>=0)&&lL (e<=10000))) (@zG n d hn hd (zcP (ab (S2 TQ l)) e n d)),.b hc2] h (by(simp only[uJ,C0,ho1,hc2,cond_false];first|done|rfl))
  ·exact yD (go 120) [.s [1,2,3,7,8,9] Pq,.v (@a7 e 0 10000 (zcP (ab (S2 TQ l)) e n d)),.w (!!(lL (e>=0)&&lL (e<=10000))) (@zG n d hn hd (zcP (ab (S2 TQ l)) e n d)),.b hc2] h (by(simp only[uJ,C0,ho1,hc2,cond_true];first|done|rfl))
 |inr zce=>intro Pq;exact yD (go 120) [.s [1,2,3,7,8,9] Pq] h (by(simp[uJ,ho1];done))
end Go.Vi
