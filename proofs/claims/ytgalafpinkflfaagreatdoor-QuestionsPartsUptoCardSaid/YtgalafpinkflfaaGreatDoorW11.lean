/- A part of the proof; no conditions of its own. -/
import Derived.Test.YtgalafpinkflfaaGreatDoorW10
open Bool renaming true->J,false->N
open Option renaming some->G,none->Y
open Go.Vi.mX renaming map->J2,var->eF,loop->Fa,EU->xy
open Go.Vi.S4 renaming st->CE,ov->zcB,inl->Α
open Go.Exit renaming normal->w8,exit->E8
open Go.Vi.D renaming JY->tf,agg->kb,ref->fE
open Go.Vi.SOp renaming frz->τ,Ju->zld,trim->zgF,mask->EZ
open Go.Vi.Ref renaming ptr->ql
open Decidable renaming decide -> eY
open Go.IntKind renaming i64 -> S6, wrap -> S8
open Go.Proofs.Tryz renaming prog -> S5, f33 -> Uy
open List renaming map -> S2, length -> S7, getElem?_eq_some_iff -> Td, foldl -> TE, length_append -> Uk, mem_map -> T2, mergeSort -> UF, map_cons -> U5, pairwise_mergeSort -> YI, mergeSort_perm -> X0
open Go.Vi.uU renaming row -> Tc
open Go.Vi.η renaming row -> Tj
open Go.Vi.uN renaming row -> Ta
open Go.Exit renaming normal -> Tr, ret -> VM
open Go.Vi.Ev renaming zjM -> Tp
open Go.Vi.D renaming agg -> TF, TO -> Tz, EY -> Ty, JY -> TT
open Go.Vi.eO renaming l -> TC
open Go.Vi.CW renaming each -> UR
open Go.Vi.mX renaming inn -> Tl
open Go.Vi.uB renaming row -> Tb
open Go.Vi.FK renaming row -> TQ
open Go Go.Proofs
namespace Go.Vi
set_option maxRecDepth 100000
set_option maxHeartbeats 4000000
variable {as_ cs:bv}{b:Bool}{bs:iS}{c d e k bO last n st d5:Int}{h:aT}{i:Nat}{la:iN}{m sm:SM}{m1 m2:IM}{now:bV}{ns:List (List Dp)}{rs:iF}{s:Int×SM}{v x:FK}{w:eO}
abbrev If:=List FK
variable {l:If}
abbrev ziM(a:D):bY:=[a,dd 0,dd 0,dd 0]
abbrev SS:mX:=eF (ziM fw)
abbrev zdk:Nat×D:=(13,fE (.mp 2))
abbrev snS(w:eO)(st d5 bO:Int)(ns:bv)(last:Int)(sm:SM)(i:Int):AS :={t:=oz 190 0 [(1,dd st),(2,dd d5),(3,dd bO),zbK,WF,(11,fw),(12,dd 0),zdk,(14,dd last),(42,ab ns),(43,dd ns.length),(44,dd i)],h:=[eF w.l,SS,smB sm],m:=[]}
abbrev snE(w:eO)(st d5 bO:Int)(sm:SM):AS :={t:=oz 190 0 [(1,dd st),(2,dd d5),(3,dd bO),zbK,WF,(11,fw),(12,dd 0),zdk],h:=[eF w.l,SS,smB sm],m:=[]}
abbrev snX(w:eO):Unit->Exit×AS:=λ_=>(.ret,{t:=oz 190 0 [(10,fE (ql 1 0)),(11,fw),(12,dd 150)],h:=[eF w.l,SS],m:=[]})
def ST(last c:Int):Bool:=eY (c>=S6.wrap (last+1))&&eY (c<=4095)
def snF(c:Int)(s:Int×SM):(Int×SM)⊕Unit:=bif ST s.1 c then .inl (c,cY s.2 c ⟨c,0,-1,true⟩) else .inr ()
theorem bn_t(h:(!b)=N):b=J:=lj
theorem bn_f(h:(!b)=J):b=N:=lj
theorem upS(hb:h[2]?=G (smB m)):ay S5 h 158 zcn (dd c) (seD v)=G (h.set 2 (smB (cY m c v))):=Fe (kt:=3) (et:=160) Z Z hb
theorem lkS(hb:h[2]?=G (smB m)):aw S5 h 158 zcn (dd c) N=G (seD ((nX m c).getD CH)):=CI (kt:=3) (et:=160) Z Z Z hb
abbrev zaA:bY:=(ziM nq)
noncomputable abbrev mO(w:eO)(sm:SM):aT:=[eF (ZA w),eF zaA,J2 (bp 0 sm) (S7 sm)]
abbrev ze7:Do:=[CE (EZ [10,11,12]),CE (zgF 2)]
theorem NU(hr:ao (i:Int) ns [vi c] 1)(lL:eY ((i:Int)<(ns.length:Int))=true)(hw:S6.wrap ((i:Int)+1)=((i+1:Nat):Int)):(CW S5 jV [] false (sub Uy 0) (snS w st d5 bO ns last sm i) (ai (λs:Int×SM=>snS w st d5 bO ns s.1 s.2 ((i+1:Nat):Int)) (snX w) (snF c (last,sm))).1 (ai (λs:Int×SM=>snS w st d5 bO ns s.1 s.2 ((i+1:Nat):Int)) (snX w) (snF c (last,sm))).2):=by
 cases sQ:!(eY (c>=S8 S6 (last+1))&&eY (c<=4095))
 ·let v0:=S7 (cY sm c {eR:=c,tries:=0,tj := -1,now:=true})
  exact yX {t:=oz 190 0 [(1,dd st),(2,dd d5),(3,dd bO),(5,.ref (.ptr 0 0)),(10,.ref (.ptr 1 0)),(11,nq),(12,dd 0),(13,.ref (.mp 2)),(14,dd c),(42,ab ns),(43,dd (↑(S7 ns):Int)),(44,dd (S8 S6 ((↑i:Int)+1)))],h:=[.var [ab (S2 Tc w.c),ab w.p,ab (S2 Tj w.s),ab (S2 Ta w.f)],.var [nq,dd 0,dd 0,dd 0],.map (bp 0 (cY sm c {eR:=c,tries:=0,tj := -1,now:=true})) v0],m:=[]} Tr [.st (.mask [1,2,3,5,10,11,12,13,14,42,43,44])] [.b lL,.r hr,.v (Tp (Γ':=jV) (@bc c (S8 S6 (last+1)) 4095 (mO w sm))),.b sQ,((by subst v0;exact upS (v:=⟨c,0,-1,true⟩) rfl):@Eq (Option (List mX)) (ay S5 (mO w sm) 158 (.ref (.mp 2)) (dd c) (TF [dd c,dd 0,dd (-1),eP true])) (some [.var (TC w),.var [nq,dd 0,dd 0,dd 0],.map (bp 0 (cY sm c {eR:=c,tries:=0,tj := -1,now:=true})) v0])),.a1 (.oh 10055 D.any [.var (TC w),SS,smB (cY sm c {eR:=c,tries:=0,tj := -1,now:=true})])] (by subst v0;(have hh:ST last c=true:=bn_t sQ;simp[snF,hh,ai];first|done|rfl)) (by subst v0;(have hh:ST last c=true:=bn_t sQ;simp only[snF,hh,cond_true,ai,hw];first|done|rfl))
 ·exact yX {t:=oz 190 0 [(10,.ref (.ptr 1 0)),(11,nq),(12,dd 150)],h:=[.var [ab (S2 Tc w.c),ab w.p,ab (S2 Tj w.s),ab (S2 Ta w.f)],.var [nq,dd 0,dd 0,dd 0]],m:=[]} VM [.st (.mask [10,11,12]),.st (.trim 2)] [.b lL,.r hr,.v (Tp (Γ':=jV) (@bc c (S8 S6 (last+1)) 4095 (mO w sm))),.b sQ] (by(have hh:ST last c=false:=bn_f sQ;simp[snF,hh,ai];first|done|rfl)) (by(have hh:ST last c=false:=bn_f sQ;simp only[snF,hh,cond_false,ai];first|done|rfl))
theorem NV{ns:bv}(lL:eY ((i:Int)<(ns.length:Int))=N):(CW S5 jV [] N (sub Uy 0) (snS w st d5 bO ns last sm i) (E8 0) (snE w st d5 bO sm)):=yx [CE (EZ [1,2,3,5,10,11,12,13])] [.b lL]
def snR(now:bV):(Int×SM)⊕Unit:=zj snF now (-1,[])
def NW(w:eO)(st d5 bO:Int)(now:bV):Exit×AS:=bf (E8 0) (λs:Int×SM=>snE w st d5 bO s.2) (snX w) (snR now)
theorem sn_cw{w:eO}{st d5 bO:Int}{now:bV}(hl:ah now):CW S5 jV [] false (.loop (sub Uy 0)) (snS w st d5 bO (zaQ now) (-1) [] 0) (NW w st d5 bO now).1 (NW w st d5 bO now).2:=by
 refine UR now snF (λi s=>snS w st d5 bO (zaQ now) s.1 s.2 (i:Int)) (.exit 0) (λs=>snE w st d5 bO s.2) (snX w) (λ_ _=>True) (by simp) (λ_=>by simp[snX]) ?_ ?_ (-1,[]) trivial;·intro i c s hc _;have hi:=(Td.1 hc).1;exact⟨λ_ _=>trivial,NU (rowAt (row:=λn=>[vi n]) hc rfl) (EV (λn=>[vi n]) hi) (sR hi hl)⟩
 ·intro s _;exact NV (aR (λn=>[vi n]) now)
abbrev siK(w:eO)(bO:Int)(e:Nat):mX:=eF (zfl 4 e w bO)
abbrev siH(w:eO)(bO st:Int)(sm:SM)(rs:iF)(e:Nat)(as_:bv)(m1 m2:IM):aT :=[eF w.l,SS,smB sm,siK w bO e,.eQ (ad (qm rs)) e 5,eF (zfj st as_),imB m1,imB m2]
abbrev zcW:Nat×D:=(17,fE (ql 3 0))
abbrev zeM:Nat×D:=(20,fE (.mp 6))
abbrev zeN:Nat×D:=(21,fE (.mp 7))
abbrev zio(a:Int)(b:D)(c:bv)(d:Nat)(e:bv)(f:Nat×D)(g:Nat)(h:D):bY:=oz 190 0 [(2,dd a),WF,(11,b),zdk,zcW,(19,ab c),zeM,zeN,(d,ab e),f,(g,h)]
abbrev stS(w:eO)(bO st d5:Int)(sm:SM)(rs:iF)(cs as_:bv)(m1 m2:IM)(i:Int):AS :={t:=(zio d5 fw cs 80 as_ (81,dd as_.length) 82 (dd i)),h:=siH w bO st sm rs 0 as_ m1 m2,m:=[]}
abbrev stE(w:eO)(bO st d5:Int)(sm:SM)(rs:iF)(cs as_:bv)(m1 m2:IM):AS :={t:=oz 190 0 [(2,dd d5),WF,(11,fw),zdk,zcW,(19,ab cs),zeM,zeN],h:=siH w bO st sm rs 0 as_ m1 m2,m:=[]}
def gI(m:IM)(c:Int):Int:=(ap m c).getD 0
def stF(s:IM×IM)(a:uB):IM×IM:=(a8 s.1 a.eR (S6.wrap (gI s.1 a.eR+1)),a8 s.2 a.eR (mxI (gI s.2 a.eR) a.Bn))
theorem lk6{m:IM}(hb:h[6]?=G (imB m)):aw S5 h 168 (zdB 6) (dd c) N=G (dd (gI m c)):=tu (kt:=3) (et:=3) Z Z Z hb
theorem lk7{m:IM}(hb:h[7]?=G (imB m)):aw S5 h 168 (zdB 7) (dd c) N=G (dd (gI m c)):=tu (kt:=3) (et:=3) Z Z Z hb
theorem up6{m:IM}{v:Int}(hb:h[6]?=G (imB m)):ay S5 h 168 (zdB 6) (dd c) (dd v)=G (h.set 6 (imB (a8 m c v))):=ly (kt:=3) (et:=3) Z Z hb
theorem up7{m:IM}{v:Int}(hb:h[7]?=G (imB m)):ay S5 h 168 (zdB 7) (dd c) (dd v)=G (h.set 7 (imB (a8 m c v))):=ly (kt:=3) (et:=3) Z Z hb
abbrev zfO(a:SM):mX:=(J2 (bp 0 a) (S7 a))
theorem NX{rs:List CX}{cs as_:List (List Dp)}{a:uB}(hr:ao (i:Int) as_ a.row 5)(lL:eY ((i:Int)<(as_.length:Int))=true)(hw:S6.wrap ((i:Int)+1)=((i+1:Nat):Int)):(CW S5 jV [] false (sub Uy 1) (stS w bO st d5 sm rs cs as_ m1 m2 i) .normal (stS w bO st d5 sm rs cs as_ (stF (m1,m2) a).1 (stF (m1,m2) a).2 ((i+1:Nat):Int))):=by
 let v0:List D:=[.ref (.eQ 4 0),ab (S2 Tc w.c),ab w.p,ab (S2 Tj w.s),ab (S2 Ta w.f),dd bO]
 let v3:List D:=[dd a.eR,dd a.d5,dd a.Bn,dd a.Js,dd a.go]
 let v2:List mX:=[.var (TC w),.var [nq,dd 0,dd 0,dd 0],.map (bp 0 sm) (S7 sm),.var v0,.eQ (ad (qm rs)) 0 5,.var [dd st,ab as_],.map (aG 0 m1) (S7 m1),.map (aG 0 m2) (S7 m2),.var v3]
 let v4:=S7 (stF (m1,m2) a).fst
 let v1:List mX:=[.var (TC w),.var [nq,dd 0,dd 0,dd 0],.map (bp 0 sm) (S7 sm),.var v0,.eQ (ad (qm rs)) 0 5,.var [dd st,ab as_],.map (aG 0 (stF (m1,m2) a).fst) v4,.map (aG 0 m2) (S7 m2),.var v3]
 let v5:=S7 (stF (m1,m2) a).2
 refine yX {t:=oz 190 0 [(2,dd d5),(10,.ref (.ptr 1 0)),(11,nq),(13,.ref (.mp 2)),(17,.ref (.ptr 3 0)),(19,ab cs),(20,.ref (.mp 6)),(21,.ref (.mp 7)),(80,ab as_),(81,dd (↑(S7 as_):Int)),(82,dd (S8 S6 ((↑i:Int)+1)))],h:=[.var [ab (S2 Tc w.c),ab w.p,ab (S2 Tj w.s),ab (S2 Ta w.f)],.var [nq,dd 0,dd 0,dd 0],.map (bp 0 sm) (S7 sm),.var v0,.eQ (ad (qm rs)) 0 5,.var [dd st,ab as_],.map (aG 0 (stF (m1,m2) a).fst) v4,.map (aG 0 (stF (m1,m2) a).2) v5],m:=[]} Tr [.st (.mask [2,10,11,13,17,19,20,21,80,81,82]),.st (.Ju 8)] [.b lL,.r hr,(?_:@Eq (Option D) (aw S5 v2 168 (.ref (.mp 6)) (dd a.eR) false) (some (dd (gI m1 a.eR)))),(?_:@Eq (Option (List mX)) (ay S5 v2 168 (.ref (.mp 6)) (dd a.eR) (dd (S8 S6 (gI m1 a.eR+1)))) (some v1)),(?_:@Eq (Option D) (aw S5 v1 168 (.ref (.mp 7)) (dd a.eR) false) (some (dd (gI m2 a.eR)))),(?_:@Eq (Option (List mX)) (ay S5 v1 168 (.ref (.mp 7)) (dd a.eR) (dd (if true=true then if a.Bn>gI m2 a.eR then a.Bn else gI m2 a.eR else if a.Bn<gI m2 a.eR then a.Bn else gI m2 a.eR))) (some [.var (TC w),.var [nq,dd 0,dd 0,dd 0],.map (bp 0 sm) (S7 sm),.var v0,.eQ (ad (qm rs)) 0 5,.var [dd st,ab as_],.map (aG 0 (stF (m1,m2) a).fst) v4,.map (aG 0 (stF (m1,m2) a).2) v5,.var v3])),bi 8 (.var (TC w)),bi 8 (.var [nq,dd 0,dd 0,dd 0]),(?_:Tl 8 (.map (bp 0 sm) (S7 sm))=true),bi 8 (.var v0),(?_:Tl 8 (.eQ (ad (qm rs)) 0 5)=true),bi 8 (.var [dd st,ab as_]),(?_:Tl 8 (.map (aG 0 (stF (m1,m2) a).fst) v4)=true),(?_:Tl 8 (.map (aG 0 (stF (m1,m2) a).2) v5)=true),.a1 (.ov 89 (dd (gI m1 a.eR))),.a1 (.oh 10086 D.any (siH w bO st sm rs 0 as_ (stF (m1,m2) a).fst m2++[.var (S2 D.p (Tb a))])),.a1 (.ov 97 (dd (gI m2 a.eR))),.a1 (.oh 10091 D.any (siH w bO st sm rs 0 as_ (stF (m1,m2) a).fst (stF (m1,m2) a).2++[.var (S2 D.p (Tb a))]))] (by subst v0 v3 v2 v4 v1 v5;grind) (by subst v0 v3 v2 v4 v1 v5;(simp only[hw];rfl))<;>subst v0 v3 v2 v4 v1 v5<;>(first|exact lk6 rfl|exact lk7 rfl|exact up6 rfl|exact up7 rfl|exact ge|exact sZ|exact br)
theorem NY(lL:eY ((i:Int)<(as_.length:Int))=N):(CW S5 jV [] N (sub Uy 1) (stS w bO st d5 sm rs cs as_ m1 m2 i) (E8 2) (stE w bO st d5 sm rs cs as_ m1 m2)):=yx [CE (EZ [2,10,11,13,17,19,20,21])] [.b lL]
def bg(l:iN):IM×IM:=l.foldl stF ([],[])
theorem st_cw{w:eO}{bO st d5:Int}{sm:SM}{rs:iF}{cs:bv}{l:iN}(hl:ah l):CW S5 jV [] false (.loop (sub Uy 1)) (stS w bO st d5 sm rs cs (l.map Tb) [] [] 0) (.exit 2) (stE w bO st d5 sm rs cs (l.map Tb) (bg l).1 (bg l).2):=by
 have:=UR (P:=S5) (Γ:=jV) (h0:=[]) (rd:=false) (c:=sub Uy 1) (σ:=IM×IM) (ρ:=Empty) l (λa s=>.inl (stF s a))
  (λi s=>stS w bO st d5 sm rs cs (l.map Tb) s.1 s.2 (i:Int)) (.exit 2) (λs=>stE w bO st d5 sm rs cs (l.map Tb) s.1 s.2) (λr=>r.elim) (λ_ _=>True) (by simp) (λr=>r.elim) ?_ ?_ ([],[]) trivial
 ·rw[aM] at this;exact this
 ·intro i a s ha _;have hi:=(Td.1 ha).1;exact⟨λ_ _=>trivial,NX (rowAt ha rfl) (EV Tb hi) (sR hi hl)⟩
 ·intro s _;exact NY (aR Tb l)
def xF(m1 m2:IM)(x:FK)(c:Int):FK:=bif eY (gI m1 c>0) then ⟨x.eR,mnI (S6.wrap (x.tries+gI m1 c)) 100,mxI x.tj (gI m2 c),x.now⟩ else x
abbrev sqS(w:eO)(bO st d5:Int)(sm:SM)(rs:iF)(ep:Nat)(cs as_ ns es:bv)(m1 m2:IM)(n:Int)(i:Int)(x:FK)(k:Int):AS :={t:=oz 190 0 [(2,dd d5),WF,(11,fw),zdk,zcW,(19,ab cs),zeM,zeN,(25,dd n),(zgW 26),(102,ab ns),(103,dd ns.length),(104,dd i),(116,ab es),(117,dd es.length),(118,dd k)],h:=siH w bO st sm rs ep as_ m1 m2++[eF (x.row.map .p)],m:=[]}
abbrev sqE(w:eO)(bO st d5:Int)(sm:SM)(rs:iF)(ep:Nat)(cs as_ ns:bv)(m1 m2:IM)(n:Int)(i:Int)(x:FK):AS :={t:=oz 190 0 [(2,dd d5),WF,(11,fw),zdk,zcW,(19,ab cs),zeM,zeN,(25,dd n),(zgW 26),(102,ab ns),(103,dd ns.length),(104,dd i)],h:=siH w bO st sm rs ep as_ m1 m2++[eF (x.row.map .p)],m:=[]}
theorem NZ{rs:List CX}{cs as_ es:List (List Dp)}{i:Int}{k:Nat}(hr:ao (k:Int) es [vi c] 1)(lL:eY ((k:Int)<(es.length:Int))=true)(hw:S6.wrap ((k:Int)+1)=((k+1:Nat):Int)):(CW S5 jV [] false (sub Uy 3) (sqS w bO st d5 sm rs 1 cs as_ ns es m1 m2 n i x k) .normal (sqS w bO st d5 sm rs 1 cs as_ ns es m1 m2 n i (xF m1 m2 x c) ((k+1:Nat):Int))):=by
 cases sQ:eY (gI m1 c>0)
 ·let v0:List D:=[.ref (.eQ 4 1),ab (S2 Tc w.c),ab w.p,ab (S2 Tj w.s),ab (S2 Ta w.f),dd bO]
  exact yX {t:=oz 190 0 [(2,dd d5),(10,.ref (.ptr 1 0)),(11,nq),(13,.ref (.mp 2)),(17,.ref (.ptr 3 0)),(19,ab cs),(20,.ref (.mp 6)),(21,.ref (.mp 7)),(25,dd n),(26,.ref (.ptr 8 0)),(102,ab ns),(103,dd (↑(S7 ns):Int)),(104,dd i),(116,ab es),(117,dd (↑(S7 es):Int)),(118,dd (S8 S6 ((↑k:Int)+1)))],h:=[.var [ab (S2 Tc w.c),ab w.p,ab (S2 Tj w.s),ab (S2 Ta w.f)],.var [nq,dd 0,dd 0,dd 0],.map (bp 0 sm) (S7 sm),.var v0,.eQ (ad (qm rs)) 1 5,.var [dd st,ab as_],.map (aG 0 m1) (S7 m1),.map (aG 0 m2) (S7 m2),.var [dd x.eR,dd x.tries,dd x.tj,eP x.now]],m:=[]} Tr [.st (.mask [2,10,11,13,17,19,20,21,25,26,102,103,104,116,117,118])] [.b lL,.r hr,((by subst v0;exact lk6 rfl):@Eq (Option D) (aw S5 [.var (TC w),.var [nq,dd 0,dd 0,dd 0],.map (bp 0 sm) (S7 sm),.var v0,.eQ (ad (qm rs)) 1 5,.var [dd st,ab as_],.map (aG 0 m1) (S7 m1),.map (aG 0 m2) (S7 m2),.var [dd x.eR,dd x.tries,dd x.tj,eP x.now]] 168 (.ref (.mp 6)) (dd c) false) (some (dd (gI m1 c)))),.a1 (.ov 124 (dd (gI m1 c))),.b sQ] (by subst v0;grind) (by subst v0;(have hh:eY (gI m1 c>0)=false:=sQ;simp only[hw,xF,hh,cond_false];first|done|rfl))
 ·let v0:List D:=[.ref (.eQ 4 1),ab (S2 Tc w.c),ab w.p,ab (S2 Tj w.s),ab (S2 Ta w.f),dd bO]
  let v1:List mX:=[.var (TC w),.var [nq,dd 0,dd 0,dd 0],.map (bp 0 sm) (S7 sm),.var v0,.eQ (ad (qm rs)) 1 5,.var [dd st,ab as_],.map (aG 0 m1) (S7 m1),.map (aG 0 m2) (S7 m2),.var [dd x.eR,dd x.tries,dd x.tj,eP x.now]]
  refine yX {t:=oz 190 0 [(2,dd d5),(10,.ref (.ptr 1 0)),(11,nq),(13,.ref (.mp 2)),(17,.ref (.ptr 3 0)),(19,ab cs),(20,.ref (.mp 6)),(21,.ref (.mp 7)),(25,dd n),(26,.ref (.ptr 8 0)),(102,ab ns),(103,dd (↑(S7 ns):Int)),(104,dd i),(116,ab es),(117,dd (↑(S7 es):Int)),(118,dd (S8 S6 ((↑k:Int)+1)))],h:=[.var [ab (S2 Tc w.c),ab w.p,ab (S2 Tj w.s),ab (S2 Ta w.f)],.var [nq,dd 0,dd 0,dd 0],.map (bp 0 sm) (S7 sm),.var v0,.eQ (ad (qm rs)) 1 5,.var [dd st,ab as_],.map (aG 0 m1) (S7 m1),.map (aG 0 m2) (S7 m2),.var [dd x.eR,dd (if false=true then if 100>S8 S6 (x.tries+gI m1 c) then 100 else S8 S6 (x.tries+gI m1 c) else if 100<S8 S6 (x.tries+gI m1 c) then 100 else S8 S6 (x.tries+gI m1 c)),dd (if true=true then if gI m2 c>x.tj then gI m2 c else x.tj else if gI m2 c<x.tj then gI m2 c else x.tj),eP x.now]],m:=[]} Tr [.st (.mask [2,10,11,13,17,19,20,21,25,26,102,103,104,116,117,118])] [.b lL,.r hr,(?_:@Eq (Option D) (aw S5 v1 168 (.ref (.mp 6)) (dd c) false) (some (dd (gI m1 c)))),.a1 (.ov 124 (dd (gI m1 c))),.b sQ,(?_:@Eq (Option D) (aw S5 v1 168 (.ref (.mp 6)) (dd c) false) (some (dd (gI m1 c)))),(?_:@Eq (Option D) (aw S5 [.var (TC w),.var [nq,dd 0,dd 0,dd 0],.map (bp 0 sm) (S7 sm),.var v0,.eQ (ad (qm rs)) 1 5,.var [dd st,ab as_],.map (aG 0 m1) (S7 m1),.map (aG 0 m2) (S7 m2),.var [dd x.eR,dd (if false=true then if 100>S8 S6 (x.tries+gI m1 c) then 100 else S8 S6 (x.tries+gI m1 c) else if 100<S8 S6 (x.tries+gI m1 c) then 100 else S8 S6 (x.tries+gI m1 c)),dd x.tj,eP x.now]] 168 (.ref (.mp 7)) (dd c) false) (some (dd (gI m2 c)))),.a1 (.ov 130 (dd (gI m1 c))),.a1 (.ov 138 (dd (gI m2 c)))] (by subst v0 v1;grind) (by subst v0 v1;(have hh:eY (gI m1 c>0)=true:=sQ;simp only[hw,xF,hh,cond_true];first|done|rfl))<;>subst v0 v1<;>(first|exact lk6 rfl|exact lk7 rfl)
theorem N0{ns es:bv}{i:Int}{k:Nat}(lL:eY ((k:Int)<(es.length:Int))=N):(CW S5 jV [] N (sub Uy 3) (sqS w bO st d5 sm rs 1 cs as_ ns es m1 m2 n i x k) (E8 6) (sqE w bO st d5 sm rs 1 cs as_ ns m1 m2 n i x)):=yx [CE (EZ [2,10,11,13,17,19,20,21,25,26,102,103,104])] [.b lL]
theorem sq_cw{w:eO}{bO st d5:Int}{sm:SM}{rs:iF}{cs as_ ns:bv}{es:bV}(he:ah es){m1 m2:IM}{n i:Int}{x:FK}:CW S5 jV [] false (.loop (sub Uy 3)) (sqS w bO st d5 sm rs 1 cs as_ ns (zaQ es) m1 m2 n i x 0) (.exit 6) (sqE w bO st d5 sm rs 1 cs as_ ns m1 m2 n i (es.foldl (xF m1 m2) x)):=by
 have:=UR (P:=S5) (Γ:=jV) (h0:=[]) (rd:=false) (c:=sub Uy 3) (σ:=FK) (ρ:=Empty) es (λc x=>.inl (xF m1 m2 x c))
  (λk x=>sqS w bO st d5 sm rs 1 cs as_ ns (zaQ es) m1 m2 n i x (k:Int)) (.exit 6) (λx=>sqE w bO st d5 sm rs 1 cs as_ ns m1 m2 n i x) (λr=>r.elim) (λ_ _=>True) (by simp) (λr=>r.elim) ?_ ?_ x trivial
 ·rw[aM] at this;exact this
 ·intro k c x hc _;have hi:=(Td.1 hc).1;exact⟨λ_ _=>trivial,NZ (rowAt (row:=λn=>[vi n]) hc rfl) (EV (λn=>[vi n]) hi) (sR hi he)⟩
 ·intro x _;exact N0 (aR (λn=>[vi n]) es)
abbrev nbS(w:eO)(bO st d5:Int)(sm:SM)(rs:iF)(cs as_ ns:bv)(m1 m2:IM)(i:Int):AS :={t:=(zio d5 fw cs 102 ns (103,dd ns.length) 104 (dd i)),h:=siH w bO st sm rs 0 as_ m1 m2,m:=[]}
abbrev nbE(w:eO)(bO st:Int)(sm:SM)(rs:iF)(cs as_:bv)(m1 m2:IM):AS :={t:=oz 190 0 [WF,(11,fw),zdk,zcW,(19,ab cs)],h:=siH w bO st sm rs 0 as_ m1 m2,m:=[]}
abbrev RSM:=iF×SM
def zkA(w:eO)(bO d5:Int)(m1 m2:IM)(sm:SM)(n:Int):FK:=(bQ w n d5 bO).2.foldl (xF m1 m2) ⟨n,0,-1,((nX sm n).getD CH).now⟩
def nbF(w:eO)(bO d5:Int)(m1 m2:IM)(s:RSM)(n:Int):RSM :=(s.1++(bQ w n d5 bO).1,bif eY ((zkA w bO d5 m1 m2 s.2 n).tries>0) then cY s.2 n (zkA w bO d5 m1 m2 s.2 n) else s.2)
theorem upS2(hb:h[2]?=G (smB m)):ay S5 h 158 zcn (dd c) (kb (v.row.map .p))=G (h.set 2 (smB (cY m c v))):=upS hb
theorem lkS2(hb:h[2]?=G (smB m))(hv:(nX m c).getD CH=v):aw S5 h 158 zcn (dd c) N=G (kb (zaX v)):=by rw[<-hv];exact lkS hb
noncomputable abbrev s7(w:eO)(bO:Int)(st:Int)(d5:Int)(sm:SM)(rs:iF)(as_:bv)(m1:IM)(m2:IM)(n:Int)(v:FK):aT:=[eF (ZA w),eF zaA,J2 (bp 0 sm) (S7 sm),eF (zhl 4 1 w bO),.eQ (zbo rs w n d5 bO) 1 5,eF (zfj st as_),J2 (aG 0 m1) (S7 m1),J2 (aG 0 m2) (S7 m2),eF [dd n,dd 0,dd (-1),eP v.now]]
noncomputable abbrev s8(w:eO)(bO:Int)(st:Int)(sm:SM)(rs:iF)(as_:bv)(m1:IM)(m2:IM)(n:Int)(v:FK):aT:=[eF (ZA w),eF zaA,J2 (bp 0 sm) (S7 sm),eF (zhl 4 0 w bO),.eQ (ad (qm rs)) 0 5,eF (zfj st as_),J2 (aG 0 m1) (S7 m1),J2 (aG 0 m2) (S7 m2),eF [dd n,dd 0,dd (-1),eP v.now]]
abbrev zav(a:Nat)(b:List (D×D×Nat)):List (D×D×Nat):=S2 (λe=>(Ty (ar a 1 0) e.fst,Ty (ar a 1 0) e.2.fst,e.2.2)) (b)
theorem N1(hw:w.ok)(hN:(af w.f bO).length<=1000){rs:List CX}{cs as_:List (List Dp)}(hv:(nX sm n).getD CH=v)(hr:ao (i:Int) ns [vi n] 1)(lL:eY ((i:Int)<(ns.length:Int))=true)(hwr:S6.wrap ((i:Int)+1)=((i+1:Nat):Int))(hb:rs.length<=900000000)(hs:ah (bQ w n d5 bO).2):(CW S5 jV [] false (sub Uy 2) (nbS w bO st d5 sm rs cs as_ ns m1 m2 i) .normal (nbS w bO st d5 (nbF w bO d5 m1 m2 (rs,sm) n).2 (nbF w bO d5 m1 m2 (rs,sm) n).1 cs as_ ns m1 m2 ((i+1:Nat):Int))):=by
 subst hv
 let v:=(nX sm n).getD CH
 let R:=rs++(bQ w n d5 bO).1
 let X:=zkA w bO d5 m1 m2 sm n
 let f:=ar 4 1 0
 let A:List S4:=[.st (.mask [2,10,11,13,17,19,20,21,102,103,104]),.st (.ren 4 0),.st (.Ju 8)]
 let L:List Stp:=[.b lL,.r hr,lkS2 (h:=siH w bO st sm rs 0 as_ m1 m2) (m:=sm) (c:=n) rfl rfl,.a1 (.ov 111 (TF (zaX v))),.c (fX [3,4] (@tD w hw bO n d5 hN rs (by omega)) ⟨aj _ _,trivial⟩ ⟨aj _ _,trivial⟩:Ev S5 jV 94 [.ref (.ptr 3 0),dd n,dd d5] (s8 w bO st sm rs as_ m1 m2 n v) (ab (S2 (λn=>[vi n]) (bQ w n d5 bO).2)) (s7 w bO st d5 sm rs as_ m1 m2 n v)),.s [2,10,11,13,17,19,20,21,25,26,102,103,104,116,117,118] (@sq_cw w bO st d5 sm R cs as_ ns (bQ w n d5 bO).2 hs m1 m2 n (i:Int) ⟨n,0,-1,v.now⟩)]
 let T(m:SM):List Stp:=[aB (qm R) f,dg f m 0,cK f m1 0,cK f m2 0,bi 8 (.var (TC w)),bi 8 (.var zaA),sZ (n:=8) (l:=m),bi 8 (.var (zhl 4 1 w bO)),br (n:=8) (rs:=qm R) (e:=0) (sz:=5),bi 8 (.var [dd st,ab as_]),ge (n:=8) (l:=m1),ge (n:=8) (l:=m2)]
 cases FL:eY ((zkA w bO d5 m1 m2 sm n).tries>0)
 ·simp only[nbF,FL,cond_false,<-hwr];exact yx A (L++[.b FL]++T sm)
 ·simp only[nbF,FL,cond_true,<-hwr];exact yx A (L++[.b FL,upS2 (h:=siH w bO st sm R 1 as_ m1 m2++[.var (X.row.map .p)]) (m:=sm) (c:=n) (v:=X) rfl]++T (cY sm n X)++[.a1 (.oh 10145 D.any (siH w bO st (cY sm n X) R 1 as_ m1 m2++[.var (X.row.map .p)]))])
theorem N2{ns:bv}(lL:eY ((i:Int)<(ns.length:Int))=N):(CW S5 jV [] N (sub Uy 2) (nbS w bO st d5 sm rs cs as_ ns m1 m2 i) (E8 4) (nbE w bO st sm rs cs as_ m1 m2)):=yx [CE (EZ [10,11,13,17,19])] [.b lL]
theorem nb_cw{w:eO}(hw:w.ok){bO st d5:Int}(hN:(af w.f bO).length<=100){sm:SM}{rs:iF}(hb:rs.length<=800000000){cs as_:bv}{m1 m2:IM}:CW S5 jV [] false (.loop (sub Uy 2)) (nbS w bO st d5 sm rs cs as_ (zaQ (af w.f bO)) m1 m2 0) (.exit 4) (nbE w bO st ((af w.f bO).foldl (nbF w bO d5 m1 m2) (rs,sm)).2 ((af w.f bO).foldl (nbF w bO d5 m1 m2) (rs,sm)).1 cs as_ m1 m2):=by
 have hl:ah (af w.f bO):=by unfold ah;omega
 have:=UR (P:=S5) (Γ:=jV) (h0:=[]) (rd:=false) (c:=sub Uy 2) (σ:=RSM) (ρ:=Empty) (af w.f bO) (λn s=>.inl (nbF w bO d5 m1 m2 s n))
  (λi s=>nbS w bO st d5 s.2 s.1 cs as_ (zaQ (af w.f bO)) m1 m2 (i:Int)) (.exit 4) (λs=>nbE w bO st s.2 s.1 cs as_ m1 m2) (λr=>r.elim) (λi s=>s.1.length<=rs.length+i*1001001) (by simp) (λr=>r.elim) ?_ ?_ (rs,sm) (by simp)
 ·rw[aM] at this;exact this
 ·intro i n s hn hs;have hi:=(Td.1 hn).1;have hq:=lJ (w:=w) (c:=n) (d5:=d5) (bO:=bO) (by omega);refine⟨λs' h=>by grind [nbF,Uk],N1 hw (by omega) rfl (rowAt (row:=λn=>[vi n]) hn rfl) (EV (λn=>[vi n]) hi) (sR hi hl) (by omega) (by unfold ah;omega)⟩
 ·intro s _;exact N2 (aR (λn=>[vi n]) _)
def LU(e:D×D×Nat):FK:=match e.2.1 with
 |.agg [.p (.v (.int _ a)),.p (.v (.int _ b)),.p (.v (.int _ c)),.p (.v (.bool d))]=>⟨a,b,c,d⟩
 |_=>CH
abbrev zdz(a:Nat):bY:=(ziM (fE (.eQ 8 a)))
abbrev mpH(w:eO)(bO st:Int)(sm:SM)(rs:List CX)(as_:List (List Dp))(m1 m2:IM)(l:List FK)(bs:List Nat):List mX :=
 [.var w.l,.var [.ref (.eQ 8 0),dd 0,dd 0,dd 0],smB sm,siK w bO 0,.eQ (ad (qm rs)) 0 5,.var [dd st,ab as_],imB m1,imB m2,.eQ (bE l) 0 4,.mit (some 2) sm.length bs sm.length]
abbrev mpT(cs:bv):List (Nat×D):=[WF,(11,fw),zcW,(19,ab cs),(150,fE (.it 9))]
theorem N3(l:If)(f:Ref->D):(bE l).map (Tz f)=bE l:=by rw[List.map_map];exact List.map_congr_left λa _=>rfl
theorem N4{n:Nat}{e sz:Nat}:Tl n (.eQ (bE l) e sz)=J:=by show(bE l).all (D.Υ n)=J;rw[List.all_eq_true];intro r hr;obtain⟨x,_,rfl⟩:=T2.1 hr;rfl
theorem uF(l:List FK)(x:FK):bE l++[[dd x.eR,dd x.tries,dd x.tj,eP x.now]]=bE (l++[x]):=by simp[bE,TQ]
def LV:Code->Code
 |.seq _ (.seq _ r)=>r
 |_=>.skip
abbrev zi6(a:SM)(b:iS):mX:=(.mit (G 2) (S7 a) b (S7 a))
theorem N5(hl:l.length<=1000000)(he:jv (mpH w bO st sm rs as_ m1 m2 l bs) (fE (.it 9))=G (tf [dd k,kb (zaX x)])):(CW S5 jV [] N (LV (sub Uy 4)) {t:=oz 190 0 (mpT cs++[(151,tf [eP J,dd k,seD x]),(152,eP J)]),h:=mpH w bO st sm rs as_ m1 m2 l bs,m:=[]} w8 {t:=oz 190 0 (mpT cs),h:=mpH w bO st sm rs as_ m1 m2 (l++[x]) bs,m:=[]}):=by let v0:bY:=(zaX x);let v1:bY:=(zhl 4 0 w bO);refine yX {t:=oz 190 0 [WF,(11,nq),zcW,(19,ab cs),(150,fE (.it 9))],h:=[eF (ZA w),eF (zdz 0),J2 (bp 0 sm) (S7 sm),eF v1,.eQ (ad (qm rs)) 0 5,eF (zfj st as_),J2 (aG 0 m1) (S7 m1),J2 (aG 0 m2) (S7 m2),.eQ (bE l++[v0]) 0 4,.mit (G 2) (S7 sm) bs (S7 sm)],m:=[]} Tr (zc9 [10,11,17,19,150] 8 0 10) [(?_:@Eq (At) (jv [eF (TC w),eF (zdz 0),J2 (bp 0 sm) (S7 sm),eF v1,.eQ (ad (qm rs)) 0 5,eF (zfj st as_),J2 (aG 0 m1) (S7 m1),J2 (aG 0 m2) (S7 m2),.eQ (bE l) 0 4,.mit (G 2) (S7 sm) bs (S7 sm)] (fE (.it 9))) (G (TT [dd k,TF v0]))),((by subst v0 v1;grind [uF,aL,D.one,Value.oneCell',uO]):(List.all [v0] (aL 4)&&uO (S7 (bE l)+S7 [v0]) 32)=J),(?_:S2 (Tz (ar 8 1 0)) (bE l++[v0])=bE l++[v0]),(?_:(zav 8 (bp 0 sm))=bp 0 sm),(?_:S2 (Tz (ar 8 1 0)) (ad (qm rs))=ad (qm rs)),(?_:S2 (λe=>(zaP 8 1 e)) (aG 0 m1)=aG 0 m1),(?_:S2 (λe=>(zaP 8 1 e)) (aG 0 m2)=aG 0 m2),pr [v0],(rfl:Tl 10 (zaY 8 (bE l++[v0]) 0 4 1 (TC w))=J),(rfl:Tl 10 (zaT 8 (bE l++[v0]) 4 1 (eF (ziM (fE (.eQ 8 1)))))=J),(?_:(zae 10 0 8 (bE l++[v0]) 0 4 1 (J2 (bp 0 sm) (S7 sm)))=J),(rfl:Tl 10 (zhK 8 (bE l++[v0]) 0 4 1 (eF v1))=J),(?_:(zae 10 (0+1+1) 8 (bE l++[v0]) 0 4 1 (.eQ (ad (qm rs)) 0 5))=J),(rfl:(zae 10 (0+1+1+1) 8 (bE l++[v0]) 0 4 1 (eF [dd st,ab as_]))=J),(?_:(zae 10 (0+1+1+1+1) 8 (bE l++[v0]) 0 4 1 (J2 (aG 0 m1) (S7 m1)))=J),(?_:(zae 10 (0+1+1+1+1+1) 8 (bE l++[v0]) 0 4 1 (J2 (aG 0 m2) (S7 m2)))=J),(?_:Tl 10 (ZT (0+1+1+1+1+1+1+1) 8 (bE l++[v0]) 0 4 1)=J),(rfl:(zae 10 (0+1+1+1+1+1+1+1) 8 (bE l++[v0]) 0 4 1 (zi6 sm bs))=J),.a1 (zcB 153 (TT [dd k,TF v0]))] (by subst v0 v1;grind) (by subst v0 v1;(simp only[uF];first|done|rfl))<;>subst v0 v1<;>(first|assumption|exact ge|exact sZ|exact br|exact aB _ _|exact dg _ _ _|exact cK _ _ _|(rw[uF];exact N3 _ _)|(simp only[uF];exact N4))
theorem qu{x0 x1 x2 x3 x4 x5 x6 x7 x9:mX}{l:If}(hl:l.length<4611686018427387904)(hT:∀x∈l,∀y∈l,x.eR=y.eR->x=y):Ev S5 fI 95 [fE (.eQ 8 0),.p (zcs 96)] [x0,x1,x2,x3,x4,x5,x6,x7,.eQ (bE l) 0 4,x9] (tf []) [x0,x1,x2,x3,x4,x5,x6,x7,.eQ (bE (l.mergeSort leS)) 0 4,x9] :=zo (h:=[x0,x1,x2,x3,x4,x5,x6,x7,.eQ (bE l) 0 4,x9]) (b:=8) rfl hl hT
abbrev pwS(w:eO)(bO st:Int)(sm:SM)(rs:iF)(la:iN)(as_:bv)(m1 m2:IM)(l:If)(bs:iS):AS :={t:=oz 190 0 (mpT (la.map Tb)++[(151,tf [eP N]),(152,eP N)]),h:=mpH w bO st sm rs as_ m1 m2 l bs,m:=[]}
abbrev pwX(w:eO)(e:Int):AS:={t:=oz 190 0 [WF,(11,fw),(12,dd e)],h:=[eF w.l,SS],m:=[]}
abbrev pwE(w:eO)(rs:List CX)(la:List uB)(l:List FK):AS :=
 {t:=oz 190 0 [(10,.ref (.ptr 1 0)),(11,ab (qm rs)),(12,dd 0)],h:=[.var w.l,.var [ab ((l.mergeSort leS).map TQ),dd (mnI (cz la).1 10000),dd (bX la).1,dd (bX la).2.1]],m:=[]}
abbrev zg0(a:If):bv:=S2 TQ (UF a leS)
noncomputable abbrev N6(w:eO)(bO:Int)(st:Int)(sm:SM)(rs:iF)(as_:bv)(m1:IM)(m2:IM)(l:If)(bs:iS):aT:=[eF (ZA w),eF [ab (zg0 l),dd 0,dd 0,dd 0],J2 (bp 0 sm) (S7 sm),eF (zhl 4 0 w bO),.eQ (ad (qm rs)) 0 5,eF (zfj st as_),J2 (aG 0 m1) (S7 m1),J2 (aG 0 m2) (S7 m2),xy,.mit (G 2) (S7 sm) bs (S7 sm)]
theorem pw_a(hla:ah la)(hl:l.length<4611686018427387904)(hT:∀x∈l,∀y∈l,x.eR=y.eR->x=y)(h1:((cz la).2 != 0)=J):(CW S5 jV [] N (wP (al Uy) 4) (pwS w bO st sm rs la as_ m1 m2 l bs) .ret (pwX w (cz la).2)):=by let v0:=(zg0 l);refine yx ze7 [.c (Tp (Γ':=jV) (@qu (eF (TC w)) (eF (zdz 0)) (zfO sm) (eF (zhl 4 0 w bO)) (zb8 rs 0) (eF (zfj st as_)) (zbf m1) (zbf m2) (zi6 sm bs) l hl hT)),((by subst v0;simp_all):bE (UF l leS)=S2 (λx=>S2 D.p x) v0),(?_:(zaC 8 v0 (bp 0 sm))=bp 0 sm),(?_:S2 (Tz (cw 8 0 v0)) (ad (qm rs))=ad (qm rs)),(?_:(zaC 8 v0 (aG 0 m1))=aG 0 m1),(?_:(zaC 8 v0 (aG 0 m2))=aG 0 m2),.o (τ 8 v0),.v (Tp (Γ':=jV) (@iQ la hla (N6 w bO st sm rs as_ m1 m2 l bs))),.b h1]<;>subst v0<;>(first|exact aB _ _|exact dg _ _ _|exact cK _ _ _)
noncomputable abbrev N7(w:eO)(bO:Int)(st:Int)(sm:SM)(rs:iF)(la:iN)(as_:bv)(m1:IM)(m2:IM)(l:If)(bs:iS):aT:=[eF (ZA w),eF [ab (zg0 l),(ZM 10000 ((cz la).fst)),dd 0,dd 0],J2 (bp 0 sm) (S7 sm),eF (zhl 4 0 w bO),.eQ (ad (qm rs)) 0 5,eF (zfj st as_),J2 (aG 0 m1) (S7 m1),J2 (aG 0 m2) (S7 m2),xy,.mit (G 2) (S7 sm) bs (S7 sm)]
noncomputable abbrev N8(w:eO)(bO:Int)(st:Int)(sm:SM)(rs:iF)(as_:bv)(m1:IM)(m2:IM)(l:If)(bs:iS):aT:=[eF (ZA w),eF [ab (zg0 l),dd 0,dd 0,dd 0],J2 (bp 0 sm) (S7 sm),eF (zhl 4 0 w bO),.eQ (ad (qm rs)) 0 5,eF (zfj st as_),J2 (aG 0 m1) (S7 m1),J2 (aG 0 m2) (S7 m2),xy,.mit (G 2) (S7 sm) bs (S7 sm)]
theorem pw_b(hla:ah la)(hl:l.length<4611686018427387904)(hT:∀x∈l,∀y∈l,x.eR=y.eR->x=y)(h1:((cz la).2 != 0)=N)(h2:((bX la).2.2 != 0)=J):(CW S5 jV [] N (wP (al Uy) 4) (pwS w bO st sm rs la as_ m1 m2 l bs) .ret (pwX w (bX la).2.2)):=by let v0:=(zg0 l);refine yx ze7 [.c (Tp (Γ':=jV) (@qu (eF (TC w)) (eF (zdz 0)) (zfO sm) (eF (zhl 4 0 w bO)) (zb8 rs 0) (eF (zfj st as_)) (zbf m1) (zbf m2) (zi6 sm bs) l hl hT)),((by subst v0;simp_all):bE (UF l leS)=S2 (λx=>S2 D.p x) v0),(?_:(zaC 8 v0 (bp 0 sm))=bp 0 sm),(?_:S2 (Tz (cw 8 0 v0)) (ad (qm rs))=ad (qm rs)),(?_:(zaC 8 v0 (aG 0 m1))=aG 0 m1),(?_:(zaC 8 v0 (aG 0 m2))=aG 0 m2),.o (τ 8 v0),.v (Tp (Γ':=jV) (@iQ la hla (N8 w bO st sm rs as_ m1 m2 l bs))),.b h1,.v (Tp (Γ':=jV) (@lA la hla (N7 w bO st sm rs la as_ m1 m2 l bs))),.b h2]<;>subst v0<;>(first|exact aB _ _|exact dg _ _ _|exact cK _ _ _)
noncomputable abbrev N9(w:eO)(bO:Int)(st:Int)(sm:SM)(rs:iF)(la:iN)(as_:bv)(m1:IM)(m2:IM)(l:If)(bs:iS):aT:=[eF (ZA w),eF [ab (zg0 l),(ZM 10000 ((cz la).fst)),dd 0,dd 0],J2 (bp 0 sm) (S7 sm),eF (zhl 4 0 w bO),.eQ (ad (qm rs)) 0 5,eF (zfj st as_),J2 (aG 0 m1) (S7 m1),J2 (aG 0 m2) (S7 m2),xy,.mit (G 2) (S7 sm) bs (S7 sm)]
noncomputable abbrev Oa(w:eO)(bO:Int)(st:Int)(sm:SM)(rs:iF)(as_:bv)(m1:IM)(m2:IM)(l:If)(bs:iS):aT:=[eF (ZA w),eF [ab (zg0 l),dd 0,dd 0,dd 0],J2 (bp 0 sm) (S7 sm),eF (zhl 4 0 w bO),.eQ (ad (qm rs)) 0 5,eF (zfj st as_),J2 (aG 0 m1) (S7 m1),J2 (aG 0 m2) (S7 m2),xy,.mit (G 2) (S7 sm) bs (S7 sm)]
theorem pw_c(hla:ah la)(hl:l.length<4611686018427387904)(hT:∀x∈l,∀y∈l,x.eR=y.eR->x=y)(h1:((cz la).2 != 0)=N)(h2:((bX la).2.2 != 0)=N):(CW S5 jV [] N (wP (al Uy) 4) (pwS w bO st sm rs la as_ m1 m2 l bs) .ret (pwE w rs la l)):=by let v0:=(zg0 l);refine yx ze7 [.c (Tp (Γ':=jV) (@qu (eF (TC w)) (eF (zdz 0)) (zfO sm) (eF (zhl 4 0 w bO)) (zb8 rs 0) (eF (zfj st as_)) (zbf m1) (zbf m2) (zi6 sm bs) l hl hT)),((by subst v0;simp_all):bE (UF l leS)=S2 (λx=>S2 D.p x) v0),(?_:(zaC 8 v0 (bp 0 sm))=bp 0 sm),(?_:S2 (Tz (cw 8 0 v0)) (ad (qm rs))=ad (qm rs)),(?_:(zaC 8 v0 (aG 0 m1))=aG 0 m1),(?_:(zaC 8 v0 (aG 0 m2))=aG 0 m2),.o (τ 8 v0),.v (Tp (Γ':=jV) (@iQ la hla (Oa w bO st sm rs as_ m1 m2 l bs))),.b h1,.v (Tp (Γ':=jV) (@lA la hla (N9 w bO st sm rs la as_ m1 m2 l bs))),.b h2,((by subst v0;grind):ad (qm rs)=S2 (λx=>S2 D.p x) (qm rs)),(?_:(zaC 4 (qm rs) (bp 0 sm))=bp 0 sm),(?_:(zaC 4 (qm rs) (aG 0 m1))=aG 0 m1),(?_:(zaC 4 (qm rs) (aG 0 m2))=aG 0 m2),pe (TF [ab v0,(ZM 10000 ((cz la).fst)),dd (bX la).fst,dd (bX la).2.fst]),pe zcN,pe zcN,pe zcN,pe zcN,po (G (ab (qm rs))),po (G (ab (qm rs))),.o (τ 4 (qm rs))]<;>subst v0<;>(first|exact aB _ _|exact dg _ _ _|exact cK _ _ _)
def Ff:Code->Code
 |.seq (.seq a _) _=>a
 |_=>.skip
theorem Jc:(CW S5 jV [] N (Ff (zf (al Uy) 4)) (nbE w bO st sm rs cs as_ m1 m2) w8 {t:=oz 190 0 (mpT cs),h:=mpH w bO st sm rs as_ m1 m2 [] [],m:=[]}):=yx [CE (EZ [10,11,17,19,150])] [.o (.zfG 1 0 4)]
def opAt(c:Code)(i:Nat):Oper:=match c with
 |.seq (.region _ ops _) _=>ops.toList.getD i default
 |_=>default
theorem CJ:zf (al Uy) 4=.seq (.seq (Ff (zf (al Uy) 4)) (.block 8 (.loop (.seq (.region 40 #[opAt (sub Uy 4) 0,opAt (sub Uy 4) 1] false) (.seq (.cond (.tmp 152) .skip (.exit 8)) (LV (sub Uy 4))))))) (wP (al Uy) 4):=by kernel_rfl
theorem uG:∀(n i:Nat) (l:List (Nat×D)),(oz n i l).length=n
 |0,_,_=>rfl
 |n+1,i,[]=>by simp[oz,uG n]
 |n+1,i,(k,d)::l=>by unfold oz;split<;>simp[uG n]
def smV(m:SM):If:=m.map (·.2)
theorem uH:∀{m:SM} {j:Nat} {e:D×D×Nat},e∈bp j m->∃k s,e=(dd k,seD s,e.2.2)/\j<=e.2.2/\e.2.2<j+m.length
 | [],_,_,h=>by simp[bp] at h
 |(k,s)::m,j,e,h=>by
  simp[bp] at h;rcases h with rfl|h
  ·grind
  ·obtain⟨k',s',h1,h2,h3⟩:=uH h;grind
theorem jY:∀(m:SM) (j:Nat),cE (bp j m)=List.range' j m.length
 | [],_=>rfl
 |(k,s)::m,j=>by have:=jY m (j+1);simp[cE] at this;simp[bp,List.range'_succ,this]
theorem xj:∀(m:SM) (j:Nat),(bp j m).map LU=smV m
 | [],_=>rfl
 |(k,s)::m,j=>by have:=xj m (j+1);simp only[bp,U5,this,smV];rfl
theorem qv:∀{l:List (D×D×Nat)} {e:D×D×Nat},(cE l).Nodup->e∈l->l.find? (λx=>x.2.2==e.2.2)=G e
 |a::l,e,hn,he=>by
  rw[List.find?_cons];simp only[U5,List.nodup_cons] at hn;rcases List.mem_cons.1 he with rfl|he
  ·simp
  ·have:(a.2.2==e.2.2)=N:=by simp only[beq_eq_false_iff_ne,ne_eq];intro hh;exact hn.1 (hh▸T2.2 ⟨e,he,rfl⟩)
   rw[this];exact qv hn.2 he
abbrev mpS(w:eO)(bO st:Int)(sm:SM)(rs:iF)(la:iN)(as_:bv)(m1 m2:IM)(pre:List (D×D×Nat)):AS :={t:=oz 190 0 (mpT (la.map Tb)),h:=mpH w bO st sm rs as_ m1 m2 (pre.map LU) (cE pre),m:=[]}
theorem Ob{sF:AS}(hsm:sm.length<=1000000)(zsJ:∀(l:If) (bs:iS),l.Perm (smV sm)->CW S5 jV [] N (wP (al Uy) 4) (pwS w bO st sm rs la as_ m1 m2 l bs) .ret sF) :CW S5 jV [] N (zf (al Uy) 4) (nbE w bO st sm rs (la.map Tb) as_ m1 m2) .ret sF:=by
 intro X r hX hr;rw[CJ];have hnd:(cE (bp 0 sm)).Nodup:=by rw[jY];exact List.nodup_range'
 refine VW.seq (VW.seq (VW.mono (Jc X r hX hr) ?_));rintro e0 s0 ⟨rfl,rfl⟩;show VW S5 jV X r _ _ (mpS w bO st sm rs la as_ m1 m2 []);refine(VW.block (VW.mapLoop (kvs:=bp 0 sm) (clock:=sm.length) (b:=9) (mb:=2) (x1:=151) (x2:=152) (it:=.tmp 150) (mpS w bO st sm rs la as_ m1 m2) Z Z Z Z Z Z ?_ ?_ hnd ?_ ?_));·intro pre;exact⟨by simp[uG],by simp[uG],rfl,rfl,rfl,rfl,λ_=>rfl⟩
 ·intro e he;obtain⟨_,_,_,_,h⟩:=uH he;omega
 ·intro pre e post hp;have hem:e∈bp 0 sm:=hp.mem_iff.1 qk;obtain⟨k,s,h1,_,_⟩:=uH hem;have hlen:pre.length<=1000000:=by
   have:=hp.length_eq;have h2:(bp 0 sm).length=sm.length:=by have:=congrArg S7 (jY sm 0);simpa[cE] using this
   simp only[Uk,List.length_cons] at this;omega
  have hen:jv (mpH w bO st sm rs as_ m1 m2 (pre.map LU) (cE (pre++[e]))) (fE (.it 9))=G (tf [dd k,kb (zaX s)]):=by
   have hl:(cE (pre++[e])).getLast? = G e.2.2:=by simp[cE]
   have hf:=qv hnd hem;unfold jv;simp only[mpH,List.getElem?_cons_succ,List.getElem?_cons_zero,hl,smB,if_true,hf,Option.map_some];rw[h1];rfl
  have hb:=N5 (w:=w) (bO:=bO) (st:=st) (sm:=sm) (rs:=rs) (cs:=la.map Tb) (as_:=as_) (m1:=m1) (m2:=m2) (l:=pre.map LU) (bs:=cE (pre++[e])) (k:=k) (x:=s) lj hen X r hX hr;have hse:(pre++[e]).map LU=pre.map LU++[s]:=by rw[List.map_append,h1];rfl
  have he1:e.1=dd k:=by rw[h1]
  have he2:e.2.1=seD s:=by rw[h1]
  rw[he1,he2];refine VW.mono hb ?_;grind
 ·intro pre hp;have zov:(pre.map LU).Perm (smV sm):=by rw[<-xj sm 0];exact hp.map _
  exact zsJ (pre.map LU) (cE pre) zov X r hX hr
theorem uI(a b:FK):leS a b=J ↔ a.eR<=b.eR:=by grind [Bool.not_eq_true',uE,leS]
theorem xk(a b c:FK)(h1:leS a b=J)(h2:leS b c=J):leS a c=J:=by grind [uI]
theorem xl(a b:FK):(leS a b||leS b a)=J:=by rw[Bool.or_eq_true,uI,uI];omega
def Oc(l:If):Prop:=∀x∈l,∀y∈l,x.eR=y.eR->x=y
theorem CK{l':If}(hp:l.Perm l')(hd:Oc l'):l.mergeSort leS=l'.mergeSort leS:=by
 refine List.Perm.eq_of_pairwise (le:=λa b=>leS a b=J) ?_ (YI xk xl _) (YI xk xl _) ((X0 _ _).trans (hp.trans (X0 _ _).symm));intro a b ha hb h1 h2;have ha':a∈l':=hp.mem_iff.1 (by simpa using ha);have hb':b∈l':=by simpa using hb
 rw[uI] at h1 h2;exact hd a ha' b hb' ji
def zlR(m:SM):Prop:=(m.map (·.1)).Nodup/\∀e∈m,e.2.eR=e.1
theorem mP(m:SM)(k:Int)(v:FK):(cY m k v).map (·.1)=if k∈m.map (·.1) then m.map (·.1) else m.map (·.1)++[k]:=by
 induction m with
 |nil=>simp[cY]
 |cons e m ih=>obtain⟨a,x⟩:=e;unfold cY;grind
theorem zqA{e:Int×FK}(h:e∈cY m k v):e=(k,v)\/e∈m:=by
 induction m with
 |nil=>grind [cY]
 |cons a m ih=>grind [cY]
theorem zlR.put(h:zlR m)(hv:v.eR=k):zlR (cY m k v):=by
 refine⟨?_,λe he=>?_⟩
 ·rw[mP];split;·exact h.1
  ·rename_i hk;rw[List.nodup_append];refine⟨h.1,qk,λa ha b hb=>?_⟩;grind
 ·rcases zqA he with rfl|he;·exact hv
  ·exact h.2 e he
theorem zlR.dist(h:zlR m):Oc (smV m):=by
 intro x hx y hy hxy;obtain⟨⟨k,s⟩,he,rfl⟩:=T2.1 hx;obtain⟨⟨k',s'⟩,he',rfl⟩:=T2.1 hy;have h1:=h.2 _ he;have h2:=h.2 _ he';simp only at h1 h2 hxy;have hk:k=k':=by rw[<-h1,<-h2,hxy]
 subst hk;have key:∀(m:SM),(m.map (·.1)).Nodup->(k,s)∈m->(k,s')∈m->s=s':=by
  intro m;induction m with
  |nil=>grind
  |cons a m ih=>grind
 exact key m h.1 he he'
theorem xm:∀(l:bV) (x:FK),(l.foldl (xF m1 m2) x).eR=x.eR
 | [],_=>rfl
 |c::l,x=>by rw[List.foldl_cons,xm l];grind [xF]
theorem Fg{w:eO}{bO d5:Int}{m1 m2:IM}:∀(ns:bV) (s:RSM),zlR s.2->zlR (ns.foldl (nbF w bO d5 m1 m2) s).2/\(ns.foldl (nbF w bO d5 m1 m2) s).2.length<=s.2.length+ns.length
 | [],s,h=>⟨h,qk⟩
 |n::ns,s,h=>by
  have h1:zlR (nbF w bO d5 m1 m2 s n).2:=by
   unfold nbF;cases eY ((zkA w bO d5 m1 m2 s.2 n).tries>0);·exact h
   ·exact h.put (xm _ _)
  have h2:(nbF w bO d5 m1 m2 s n).2.length<=s.2.length+1:=by
   unfold nbF;cases eY ((zkA w bO d5 m1 m2 s.2 n).tries>0);·simp
   ·have:=congrArg S7 (mP s.2 n (zkA w bO d5 m1 m2 s.2 n));grind
  have h3:=Fg (w:=w) (bO:=bO) (d5:=d5) (m1:=m1) (m2:=m2) ns _ h1;grind
theorem Bf:∀(now:bV) (s:Int×SM) {s':Int×SM},zlR s.2->zj snF now s=.inl s'->zlR s'.2/\s'.2.length<=s.2.length+now.length
 | [],s,s',h,he=>by grind [zj,Sum.inl.injEq]
 | c::now,s,s',h,he=>by
  simp[zj,snF] at he;cases hk:ST s.1 c<;>rw[hk] at he;·simp at he
  ·simp at he;have h3:=Bf now _ (h.put (k:=c) (v:=⟨c,0,-1,true⟩) rfl) he;have:=congrArg S7 (mP s.2 c ⟨c,0,-1,true⟩);grind
def zon(la:iN):Unit⊕Int:=if (cz la).2 != 0 then .inr (cz la).2 else if (bX la).2.2 != 0 then .inr (bX la).2.2 else .inl ()
def CL(w:eO)(rs:iF)(la:iN)(l:If):Exit×AS:=bf .ret (λ_:Unit=>pwE w rs la l) (λe:Int=>(.ret,pwX w e)) (zon la)
theorem Fh(w:eO)(rs:iF)(la:iN)(l:If):(CL w rs la l).1=.ret:=by unfold CL;cases zon la<;>rfl
theorem Od{w:eO}{bO st:Int}{sm:SM}{rs:iF}{la:iN}{as_:bv}{m1 m2:IM}(hla:ah la)(Θ:zlR sm)(hsm:sm.length<=1000000):CW S5 jV [] N (zf (al Uy) 4) (nbE w bO st sm rs (la.map Tb) as_ m1 m2) (CL w rs la (smV sm)).1 (CL w rs la (smV sm)).2:=by
 rw[Fh];refine Ob hsm λl bs hp=>?_;have hd:Oc l:=λx hx y hy=>Θ.dist x (hp.mem_iff.1 hx) y (hp.mem_iff.1 hy);have hl:l.length<4611686018427387904:=by have:=hp.length_eq;simp only[smV,List.length_map] at this;omega
 have hs:=CK hp Θ.dist;unfold CL zon;cases h1:((cz la).2 != 0)
 ·cases h2:((bX la).2.2 != 0);·have:=pw_c (w:=w) (bO:=bO) (st:=st) (sm:=sm) (rs:=rs) hla (as_:=as_) (m1:=m1) (m2:=m2) (bs:=bs) hl hd h1 h2;rw[pwE,hs] at this;exact this
  ·exact pw_b (w:=w) (bO:=bO) (st:=st) (sm:=sm) (rs:=rs) hla (as_:=as_) (m1:=m1) (m2:=m2) (bs:=bs) hl hd h1 h2
 ·exact pw_a (w:=w) (bO:=bO) (st:=st) (sm:=sm) (rs:=rs) hla (as_:=as_) (m1:=m1) (m2:=m2) (bs:=bs) hl hd h1
def xn(e:Int):D:=tf [kb (ziM fw),fw,dd e]
def sitOk(seen:If)(xe n d:Int)(rs:iF):D:=tf [kb [ab (seen.map TQ),dd xe,dd n,dd d],ab (qm rs),dd 0]
noncomputable abbrev s9(w:eO):aT:=[eF (ZA w),eF zaA]
theorem Oe(hb:(!(eY (st>=0)&&eY (st<=19999))||!(eY (d5>=0)&&eY (d5<=1023)))=J)(h:aT):(Ev S5 jV 33 [kb w.l,dd st,dd d5,dd bO,ab (zaQ now)] h (xn 150) h):=y0 [.v (Tp (Γ':=jV) (@bc st 0 19999 (s9 w))),.w (!!(eY (st>=0)&&eY (st<=19999))) (Tp (Γ':=jV) (@bc d5 0 1023 (s9 w))),.b hb] h
def mQ(w:eO)(bO d5:Int)(aa:iN)(rs:iF)(sm:SM):RSM:=(af w.f bO).foldl (nbF w bO d5 (bg aa).1 (bg aa).2) (rs,sm)
def Og(w:eO)(bO d5:Int)(now:bV)(rr qq:iF)(aa la:iN)(ee:Int):D:=match snR now with
 |.inr _=>xn 150
 |.inl s=>match (ee != 0) with
  |true=>xn ee
  |false=>match zon la with
   |.inr e=>xn e
   |.inl _=>sitOk ((smV (mQ w bO d5 aa (rr++qq++[rdN]) s.2).2).mergeSort leS) (mnI (cz la).1 10000) (bX la).1 (bX la).2.1 (mQ w bO d5 aa (rr++qq++[rdN]) s.2).1
theorem Fi{ns:bV}(h:snR now=.inl s):zlR (ns.foldl (nbF w bO d5 m1 m2) (rs,s.2)).2 :=(Fg ns (rs,s.2) (Bf now (-1,[]) ⟨by simp,by simp⟩ h).1).1
theorem zp{ns:bV}(hn:now.length<=1000)(hs:ns.length<=1000)(h:snR now=.inl s):(ns.foldl (nbF w bO d5 m1 m2) (rs,s.2)).2.length<=1000000:=by have h1:=(Fg (w:=w) (bO:=bO) (d5:=d5) (m1:=m1) (m2:=m2) ns (rs,s.2) (Bf now (-1,[]) ⟨by simp,by simp⟩ h).1).2;have h2:=(Bf now (-1,[]) ⟨by simp,by simp⟩ h).2;grind
noncomputable abbrev eI(w:eO):aT:=[eF (ZA w),eF zaA]
abbrev zhy(a:eO)(b:Int×SM)(c:bY)(d:List (bY))(e:Nat)(f:bY)(g:iN):aT:=[eF (TC a),eF zaA,J2 (bp 0 b.2) (S7 b.2),eF c,.eQ d e 5,eF f,J2 (aG 0 (bg g).fst) (S7 (bg g).fst),J2 (aG 0 (bg g).2) (S7 (bg g).2)]
abbrev zhO(a:eO)(b:Int×SM)(c:bY)(d:List (bY))(e:Nat)(f:bY):aT:=[eF (TC a),eF zaA,J2 (bp 0 b.2) (S7 b.2),eF c,.eQ d e 5,eF f]
abbrev zhT(a:eO)(b:Int×SM)(c:bY)(d:List (bY))(e:Nat):aT:=[eF (TC a),eF zaA,J2 (bp 0 b.2) (S7 b.2),eF c,.eQ d e 5]
theorem sit_a(hw:w.ok)(hn:now.length<=1000)(hl:ah now)(hN:(af w.f bO).length<=100)(hN2:(af w.f bO).length<=1000){rr qq:iF}{aa:iN}{ee:Int}(haa:ah aa)(hla:ah la)(hrs:(rr++qq++[rdN]).length<=800000000)(hrq:(rr++qq).length<=999999000)(hof:Ev S5 jV 91 (zbF 0 st d5) (lkH w bO [] 0) (.agg [dd st,ab (aa.map Tb)]) (lkH w bO rr 1)) (zlq:Ev S5 jV 92 [.ref (.ptr 0 0),ab (aa.map Tb),dd d5] (lkH w bO rr 0) (.JY [ab (la.map Tb),dd ee]) (lkH w bO (rr++qq) 1))(hb:(!(eY (st>=0)&&eY (st<=19999))||!(eY (d5>=0)&&eY (d5<=1023)))=false) (h:aT):(Ev S5 jV 33 [.agg w.l,dd st,dd d5,dd bO,ab (zaQ now)] h (Og w bO d5 now rr qq aa la ee) h):=by
 have xd:=(@sn_cw (w) (st) (d5) (bO) (now) (hl));unfold NW at xd;revert xd;cases Χ:snR now with
 | inl EW =>
  intro xd;cases Φ:ee != 0
  ·have hl3:=(@st_cw (w) (bO) (st) (d5) (EW.2) (rr++qq) (S2 Tb la) (aa) (haa));have hl4:=(@nb_cw (w) (hw) (bO) (st) (d5) (hN) (EW.2) (rr++qq++[rdN]) (hrs) (S2 Tb la) (S2 Tb aa) ((bg aa).fst) ((bg aa).2));have hl5:=(@Od (w) (bO) (st) ((TE (nbF w bO d5 (bg aa).fst (bg aa).2) (rr++qq++[rdN],EW.2) (af w.f bO)).2) ((TE (nbF w bO d5 (bg aa).fst (bg aa).2) (rr++qq++[rdN],EW.2) (af w.f bO)).fst) (la) (S2 Tb aa) ((bg aa).fst) ((bg aa).2) (hla) (by first|assumption|rfl|omega|exact Fi (by assumption)|exact zp hn hN2 (by assumption)|exact aB _ _|exact dg _ _ _|exact cK _ _ _|exact ge|exact sZ|exact br) (by first|assumption|rfl|omega|exact Fi (by assumption)|exact zp hn hN2 (by assumption)|exact aB _ _|exact dg _ _ _|exact cK _ _ _|exact ge|exact sZ|exact br));unfold CL at hl5;revert hl5;cases ho6:zon la with
   | inl o6_0_0 =>intro hl5;let v0:=TE (nbF w bO d5 (bg aa).fst (bg aa).2) (rr++qq++[rdN],EW.2) (af w.f bO);let v1:bY:=(zhl 4 0 w bO);let v2:bY:=(zhl 4 1 w bO);let v3:bY:=(zfj st (S2 Tb aa));let v4:bY:=[ab (zg0 (smV v0.2)),dd (mnI (cz la).fst 10000),dd (bX la).fst,dd (bX la).2.fst];refine yD (TT [TF v4,ab (qm v0.fst),dd 0]) [.v (Tp (Γ':=jV) (@bc st 0 19999 (eI w))),.w (!!(eY (st>=0)&&eY (st<=19999))) (Tp (Γ':=jV) (@bc d5 0 1023 (eI w))),.b hb,.s [1,2,3,5,10,11,12,13,14,42,43,44] xd,.n 1,.o (.zfG 3 0 5),.c ((fX [3,4] (@hof) ⟨(by subst v0 v1 v2 v3 v4;grind),trivial⟩ ⟨(by subst v0 v1 v2 v3 v4;exact aj _ _),trivial⟩):Ev S5 jV 91 (zbF 3 st d5) (zhT w EW v1 [] 0) (TF v3) (zhT w EW v2 (ad (qm rr)) 1)),(?_:S2 (Tz (ar 4 1 0)) (ad (qm rr))=ad (qm rr)),(?_:(zav 4 (bp 0 EW.2))=bp 0 EW.2),.o (.ren 4 0),.c ((fX [3,4] (@zlq) ⟨(by subst v0 v1 v2 v3 v4;exact aj _ _),trivial⟩ ⟨(by subst v0 v1 v2 v3 v4;exact aj _ _),trivial⟩):Ev S5 jV 92 (zf7 3 aa d5) (zhO w EW v1 (ad (qm rr)) 0 v3) (zjc la ee) (zhO w EW v2 (zct rr qq) 1 v3)),.b Φ,(?_:S2 (Tz (ar 4 1 0)) (zct rr qq)=ad (qm (rr++qq))),(?_:(zav 4 (bp 0 EW.2))=bp 0 EW.2),.o (.ren 4 0),.s [2,10,11,13,17,19,20,21,80,81,82] hl3,.c ((fX [3,4] (@u6 w hw bO (rr++qq) hrq) ⟨(by subst v0 v1 v2 v3 v4;exact aj _ _),trivial⟩ ⟨(by subst v0 v1 v2 v3 v4;exact aj _ _),trivial⟩):Ev S5 jV 93 zek (zhy w EW v1 (zct rr qq) 0 v3 aa) (ab (zcd (af w.f bO))) (zhy w EW v2 (zdJ rr qq [rdN]) 1 v3 aa)),(?_:S2 (Tz (ar 4 1 0)) (zdJ rr qq [rdN])=ad (qm (rr++qq++[rdN]))),(?_:(zav 4 (bp 0 EW.2))=bp 0 EW.2),(?_:(zav 4 (aG 0 (bg aa).fst))=aG 0 (bg aa).fst),(?_:(zav 4 (aG 0 (bg aa).2))=aG 0 (bg aa).2),.o (.ren 4 0),.s [2,10,11,13,17,19,20,21,102,103,104] hl4,hl5,.a1 (.zkf [10,11,13,17,19] VM {t:=oz 190 0 [WF,(11,ab (qm v0.fst)),(12,dd 0)],h:=[.var (TC w),.var v4]})] h (by subst v0 v1 v2 v3 v4;(simp only[Og,Χ,Φ,ho6];first|done|rfl))<;>subst v0 v1 v2 v3 v4<;>(first|exact aB _ _|exact dg _ _ _|exact cK _ _ _)
   | inr zst =>intro hl5;let v0:bY:=(zhl 4 0 w bO);let v1:bY:=(zhl 4 1 w bO);let v2:bY:=(zfj st (S2 Tb aa));refine yD (TT [TF zaA,nq,dd zst]) [.v (Tp (Γ':=jV) (@bc st 0 19999 (eI w))),.w (!!(eY (st>=0)&&eY (st<=19999))) (Tp (Γ':=jV) (@bc d5 0 1023 (eI w))),.b hb,.s [1,2,3,5,10,11,12,13,14,42,43,44] xd,.n 1,.o (.zfG 3 0 5),.c ((fX [3,4] (@hof) ⟨(by subst v0 v1 v2;grind),trivial⟩ ⟨(by subst v0 v1 v2;exact aj _ _),trivial⟩):Ev S5 jV 91 (zbF 3 st d5) (zhT w EW v0 [] 0) (TF v2) (zhT w EW v1 (ad (qm rr)) 1)),(?_:S2 (Tz (ar 4 1 0)) (ad (qm rr))=ad (qm rr)),(?_:(zav 4 (bp 0 EW.2))=bp 0 EW.2),.o (.ren 4 0),.c ((fX [3,4] (@zlq) ⟨(by subst v0 v1 v2;exact aj _ _),trivial⟩ ⟨(by subst v0 v1 v2;exact aj _ _),trivial⟩):Ev S5 jV 92 (zf7 3 aa d5) (zhO w EW v0 (ad (qm rr)) 0 v2) (zjc la ee) (zhO w EW v1 (zct rr qq) 1 v2)),.b Φ,(?_:S2 (Tz (ar 4 1 0)) (zct rr qq)=ad (qm (rr++qq))),(?_:(zav 4 (bp 0 EW.2))=bp 0 EW.2),.o (.ren 4 0),.s [2,10,11,13,17,19,20,21,80,81,82] hl3,.c ((fX [3,4] (@u6 w hw bO (rr++qq) hrq) ⟨(by subst v0 v1 v2;exact aj _ _),trivial⟩ ⟨(by subst v0 v1 v2;exact aj _ _),trivial⟩):Ev S5 jV 93 zek (zhy w EW v0 (zct rr qq) 0 v2 aa) (ab (zcd (af w.f bO))) (zhy w EW v1 (zdJ rr qq [rdN]) 1 v2 aa)),(?_:S2 (Tz (ar 4 1 0)) (zdJ rr qq [rdN])=ad (qm (rr++qq++[rdN]))),(?_:(zav 4 (bp 0 EW.2))=bp 0 EW.2),(?_:(zav 4 (aG 0 (bg aa).fst))=aG 0 (bg aa).fst),(?_:(zav 4 (aG 0 (bg aa).2))=aG 0 (bg aa).2),.o (.ren 4 0),.s [2,10,11,13,17,19,20,21,102,103,104] hl4,hl5,.a1 (.zkf [10,11,13,17,19] VM {t:=oz 190 0 [WF,(11,nq),(12,dd zst)],h:=(eI w)})] h (by subst v0 v1 v2;(simp[Og,Χ,Φ,ho6];first|done|rfl))<;>subst v0 v1 v2<;>(first|exact aB _ _|exact dg _ _ _|exact cK _ _ _)
  ·let v0:bY:=(zhl 4 0 w bO);let v1:bY:=(zhl 4 1 w bO);let v2:bY:=(zfj st (S2 Tb aa));refine yD (TT [TF zaA,nq,dd ee]) [.v (Tp (Γ':=jV) (@bc st 0 19999 (eI w))),.w (!!(eY (st>=0)&&eY (st<=19999))) (Tp (Γ':=jV) (@bc d5 0 1023 (eI w))),.b hb,.s [1,2,3,5,10,11,12,13,14,42,43,44] xd,.n 1,.o (.zfG 3 0 5),.c ((fX [3,4] (@hof) ⟨(by subst v0 v1 v2;grind),trivial⟩ ⟨?_,trivial⟩):Ev S5 jV 91 (zbF 3 st d5) (zhT w EW v0 [] 0) (TF v2) (zhT w EW v1 (ad (qm rr)) 1)),((by subst v0 v1 v2;exact aB _ _):S2 (Tz (ar 4 1 0)) (ad (qm rr))=ad (qm rr)),((by subst v0 v1 v2;exact dg _ _ _):S2 (λe=>(Ty (ar 4 1 0) e.fst,Ty (ar 4 1 0) e.2.fst,e.2.2)) (bp 0 EW.2)=bp 0 EW.2),.o (.ren 4 0),.c ((fX [3,4] (@zlq) ⟨?_,trivial⟩ ⟨?_,trivial⟩):Ev S5 jV 92 (zf7 3 aa d5) (zhO w EW v0 (ad (qm rr)) 0 v2) (zjc la ee) (zhO w EW v1 (zct rr qq) 1 v2)),.b Φ] h (by subst v0 v1 v2;(simp[Og,Χ,Φ];first|done|rfl))<;>subst v0 v1 v2<;>(exact aj _ _)
 | inr ζ =>intro xd;exact yD (TT [TF zaA,nq,dd 150]) [.v (Tp (Γ':=jV) (@bc st 0 19999 (eI w))),.w (!!(eY (st>=0)&&eY (st<=19999))) (Tp (Γ':=jV) (@bc d5 0 1023 (eI w))),.b hb,.s [1,2,3,5,10,11,12,13,14,42,43,44] xd] h (by(simp[Og,Χ];first|done|rfl))
def xp(last:Int)(x:FK):Bool:=!(eY (x.eR>=last+1)&&eY (x.eR<=4095))||!(eY (x.tries>=0)&&eY (x.tries<=100))||!(eY (x.tj >= -1)&&eY (x.tj<=12))||(eY (x.tj>=0) != eY (x.tries>=1))
def HZ(x:FK)(last:Int):Int⊕Unit:=bif xp last x then .inr () else .inl x.eR
abbrev zcP(a:D)(b c f:Int):aT:=[eF [a,dd b,dd c,dd f]]
abbrev SU(l:bv)(e n d:Int)(last i:Int):AS:={t:=oz 53 0 [zdN,(2,dd 0),(3,dd last),(7,ab l),(8,dd l.length),(9,dd i)],h:=(zcP (ab l) e n d),m:=[]}
abbrev sftE(l:bv)(e n d:Int):AS:={t:=oz 53 0 [zdN],h:=(zcP (ab l) e n d),m:=[]}
abbrev sftX:Unit->Exit×AS:=λ_=>(.ret,{t:=oz 53 0 [(2,dd 120)],h:=[],m:=[]})
noncomputable abbrev dW(l:bv)(e:Int)(n:Int)(d:Int)(x:FK):aT:=[eF [ab l,dd e,dd n,dd d],eF (zaX x)]
theorem Jd{l:List (List Dp)}(hr:ao (i:Int) l x.row 4)(hlw:S6.wrap (last+1)=last+1)(lL:eY ((i:Int)<(l.length:Int))=true)(hw:S6.wrap ((i:Int)+1)=((i+1:Nat):Int)):(CW S5 fI [] false (sub Tryz.f170 0) (SU l e n d last i) (ai (λs=>SU l e n d s ((i+1:Nat):Int)) sftX (HZ x last)).1 (ai (λs=>SU l e n d s ((i+1:Nat):Int)) sftX (HZ x last)).2):=by
 cases sQ:!(eY (x.eR>=S8 S6 (last+1))&&eY (x.eR<=4095))||!(eY (x.tries>=0)&&eY (x.tries<=100))||!(eY (x.tj >= -1)&&eY (x.tj<=12))||!eY (x.tj>=0)==eY (x.tries>=1)
 ·refine yX {t:=oz 53 0 [(1,.ref (.ptr 0 0)),(2,dd 0),(3,dd x.eR),(7,ab l),(8,dd (↑(S7 l):Int)),(9,dd (S8 S6 ((↑i:Int)+1)))],h:=[.var [ab l,dd e,dd n,dd d]],m:=[]} Tr [.st (.mask [1,2,3,7,8,9]),.st (.trim 1)] [.b lL,.r hr,.v (@a7 (x.eR) (S8 S6 (last+1)) 4095 (dW l e n d x)),.w (!!(eY (x.eR>=S8 S6 (last+1))&&eY (x.eR<=4095))) (@a7 (x.tries) 0 100 (dW l e n d x)),.w (!(!(eY (x.eR>=S8 S6 (last+1))&&eY (x.eR<=4095))||!(eY (x.tries>=0)&&eY (x.tries<=100)))) (@a7 (x.tj) (-1) 12 (dW l e n d x)),.b sQ] ?_ ?_<;>(have hh:xp last x=false:=(by have:=sQ;rw[hlw] at this;exact this);simp only[HZ,hh,cond_false];first|done|rfl|(rw[hw];rfl))
 ·refine yX {t:=oz 53 0 [(2,dd 120)],h:=[],m:=[]} VM [.st (.mask [2]),.st (.trim 0)] [.b lL,.r hr,.v (@a7 (x.eR) (S8 S6 (last+1)) 4095 (dW l e n d x)),.w (!!(eY (x.eR>=S8 S6 (last+1))&&eY (x.eR<=4095))) (@a7 (x.tries) 0 100 (dW l e n d x)),.w (!(!(eY (x.eR>=S8 S6 (last+1))&&eY (x.eR<=4095))||!(eY (x.tries>=0)&&eY (x.tries<=100)))) (@a7 (x.tj) (-1) 12 (dW l e n d x)),.b sQ] ?_ ?_<;>(have hh:xp last x=true:=(by have:=sQ;rw[hlw] at this;exact this);simp only[HZ,hh,cond_true];first|done|rfl)
theorem Je{l:bv}(lL:eY ((i:Int)<(l.length:Int))=N):(CW S5 fI [] N (sub Tryz.f170 0) (SU l e n d last i) (E8 0) (sftE l e n d)):=yx (zeI 1) [.b lL]
def Fj(l:If)(e n d:Int):Exit×AS:=bf (E8 0) (λ_:Int=>sftE (l.map TQ) e n d) sftX (zj HZ l (-1))
theorem sft_bd{s:Int}(hl : -1<=last)(h:HZ x last=.inl s):-1<=s/\s<=4095:=by unfold HZ at h;cases hb:xp last x<;>rw[hb] at h<;>simp at h;grind [xp]
theorem sft_cw{l:If}{e n d:Int}(hl:ah l):CW S5 fI [] false (.loop (sub Tryz.f170 0)) (SU (l.map TQ) e n d (-1) 0) (Fj l e n d).1 (Fj l e n d).2:=by
 refine UR l HZ (λi s=>SU (l.map TQ) e n d s (i:Int)) (.exit 0) (λ_=>sftE (l.map TQ) e n d) sftX (λ_ s => -1<=s/\s<=4095) (by simp) (λ_=>by simp[sftX]) ?_ ?_ (-1) (by omega);·intro i x s hx hs;have hi:=(Td.1 hx).1;exact⟨λs' h=>sft_bd hs.1 h,Jd (rowAt hx rfl) (wrap_i64 (by omega) (by omega)) (EV TQ hi) (sR hi hl)⟩
 ·intro s _;exact Je (aR TQ l)
def uJ(l:If)(e n d:Int):Int:=match zj HZ l (-1) with
 |.inr _=>120
 |.inl _=>bif (!(eY (e>=0)&&eY (e<=10000))||!(C0 n d)) then 120 else 0
theorem Jf(hl:ah l)(hn:NI n)(hd:NI d)(h:aT):(Ev S5 fI 170 [kb [ab (l.map TQ),dd e,dd n,dd d]] h (dd (uJ l e n d)) h):=by
 have xd:=(@sft_cw (l) (e) (n) (d) (hl));unfold Fj at xd;revert xd;cases Χ:zj HZ l (-1) with
 |inl EW=>
  intro xd;cases Φ:!(eY (e>=0)&&eY (e<=10000))||!(ex n d==0&&eY (n>=0)&&eY (n<=S8 S6 (12*d)))
  ·exact yD (dd 0) [.s [1,2,3,7,8,9] xd,.v (@a7 e 0 10000 (zcP (ab (S2 TQ l)) e n d)),.w (!!(eY (e>=0)&&eY (e<=10000))) (@zG n d hn hd (zcP (ab (S2 TQ l)) e n d)),.b Φ] h (by(simp only[uJ,C0,Χ,Φ,cond_false];first|done|rfl))
  ·exact yD (dd 120) [.s [1,2,3,7,8,9] xd,.v (@a7 e 0 10000 (zcP (ab (S2 TQ l)) e n d)),.w (!!(eY (e>=0)&&eY (e<=10000))) (@zG n d hn hd (zcP (ab (S2 TQ l)) e n d)),.b Φ] h (by(simp only[uJ,C0,Χ,Φ,cond_true];first|done|rfl))
 |inr ζ=>intro xd;exact yD (dd 120) [.s [1,2,3,7,8,9] xd] h (by(simp[uJ,Χ];done))
end Go.Vi
