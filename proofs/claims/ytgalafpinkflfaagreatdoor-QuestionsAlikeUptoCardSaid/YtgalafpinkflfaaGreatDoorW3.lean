/- A part of the proof; no conditions of its own. -/
import Derived.Test.YtgalafpinkflfaaGreatDoorW2
import Derived.Shelf.SlSortCmp.NoneTotal
import Derived.Sort.EveryDepth
import Derived.Ground.SlsfProg
open Bool renaming true->J,false->N
open Option renaming some->G,none->Y
open Go.Vi.Ans renaming st->δ,ov->zjr,inl->zfF
open Go.Exit renaming normal->NO,exit->η
open Go.Vi.D renaming Ρ->JV,agg->uT,ref->mW
open Go.LoopState renaming exhausted->zhL,ready->ζ
open Go.Vi.SOp renaming frz->zed,Μ->zmj,mask->τ
open Go.Vi.F2 renaming var->iI,loop->χ,zaB->Ζ
open Go.IntKind renaming i64->zfN
open Go.Vi.Ref renaming ptr->J0
open Decidable renaming decide -> lL
open List renaming range' -> US, flatten_cons -> W6, mem_map -> T2, length -> S7, flatten -> Tv, getElem?_eq_some_iff -> Td, foldl -> TE, map -> S2, set -> UE, range -> T1, getD -> Th, getElem?_eq_getElem -> TH, length_map -> Uw, all_eq_true -> TW, replicate -> Ti, map_cons -> U5, map_append -> Uh, all -> Tq, length_range' -> Zx, getElem?_append_left -> Ul, getElem?_append_right -> T8, length_cons -> Ue, ext_getElem? -> Wx, mergeSort_perm -> X0, mergeSort -> UF, foldl_cons -> TG, filterMap_cons -> X1, flatMap_cons -> Yl, mem_flatMap -> Yu
open Go.Vi.VS renaming ok -> YY
open Go.Proofs.Tryz renaming prog -> S5, f251 -> Xo, f127 -> TV, f60 -> Za, f91 -> WN
open Go.Vi.D renaming zhz -> TL, fn -> UL, agg -> TF, zbk -> Tz
open Go.Vi.F2 renaming inn -> Tl
open Go.IntKind renaming i64 -> S6, wrap -> S8
open Go.LoopState renaming ready -> TJ, exhausted -> Uu
open Go.Fn renaming func -> TM
open Go.Exit renaming normal -> Tr
open Go.Value renaming tuple -> VZ, oneCell' -> Up
open Go.Vi.JX renaming row -> Ta
open Go.Vi.CW renaming each -> UR
open Go.Vi.Ev renaming zly -> Tw, zlh -> Tp, post -> Yd
open Int renaming toNat -> S9, tmod -> TY, tdiv -> TR
open Option renaming some -> Vs
open Go.Sort renaming grow -> WU, heap_grow_old -> VT, putRow -> Un, mapBlock -> Ur, ahead -> Uz, putCells -> UW
open Go.World renaming cell? -> Xh
open Array renaming getElem?_modify -> Xx, getElem?_eq_some_iff -> V8, getElem?_toList -> Uo, extract_size -> Zp
open Go.Calls renaming mono -> Xp
open Go.Proofs.SlLaysF0 renaming n6 -> Yt
open Go.Vi.L9 renaming row -> Tc
open Go.Vi.zcR renaming row -> Tj
open Go.Vi.kc renaming l -> TC
open Go.Vi.xE renaming fl -> Te
open Go.Vi.JZ renaming row -> Tb
open Nat renaming le_trans -> Vj
open Go Go.Proofs
namespace Go.Vi
set_option maxRecDepth 100000
set_option maxHeartbeats 4000000
abbrev Of:=List zcR
abbrev IF:=List L9
def PY(f:JX):Int:=if J=J then if f.uR>0 then f.uR else 0 else if f.uR<0 then f.uR else 0
def vaF(f:JX)(s:VS):VS:=Ka f (PY f) s
theorem PZ{f:JX}{x:Int}{s:VS}(h:s.ok):(Ka f x s).ok:=by
 unfold Ka;generalize US x.toNat (C8 f-x).toNat=l;induction l generalizing s with
 |nil=>exact h
 |cons n l ih=>exact ih (zmn n h)
theorem P0{kk ks ko d5:Int}{fs:bv}{rs:bY}{JY:AT}{G:Bv}(ho:YY (JY,G)){f:JX}:Iv S5 mX (mW (.yl 8)) [ag f.row] (vaH kk ks ko d5 fs rs JY G ζ (ziT f)) (kr J) (vaH kk ks ko d5 fs rs (vaF f (JY,G)).1 (vaF f (JY,G)).2 ζ (zbg f)) :=Iv.round (h1:=vaH kk ks ko d5 fs rs JY G ζ (zbg f)) rfl rfl va_asg rfl (PX ho) rfl
def ziw(kk ks ko d5:Int)(s:VS)(f:JX):VS:=bif zmO kk ks ko d5 f then vaF f s else s
theorem lr{n:Nat}:∀{es:List (bY)},(∀r∈es,TL n r=J)->TL n es.flatten=J
 | [],_=>rfl
 |e::es,h=>by
  have key:∀(xs ys:bY),TL n xs=J->TL n ys=J->TL n (xs++ys)=J:=by
   intro xs ys h1 h2;induction xs with
   |nil=>exact h2
   |cons x xs ih=>simp[TL] at h1 ⊢;grind
  rw[W6];exact key _ _ (h e F1) (lr λr hr=>h r (by simp[hr]))
theorem u0{n:Nat}{l:AT}:Tl n (iI (zg6 l))=J:=lr λr hr=>by obtain⟨_,_,rfl⟩:=T2.1 hr;rfl
theorem u3{n:Nat}{l:Bv}:Tl n (iI (ey l).flatten)=J:=lr λr hr=>by obtain⟨_,_,rfl⟩:=T2.1 hr;rfl
abbrev zbC(a:bV):bY:=(bP a).flatten
theorem qL{n:Nat}{l:bV}:Tl n (iI (zbC l))=J:=lr λr hr=>by obtain⟨_,_,rfl⟩:=T2.1 hr;rfl
abbrev zfm(a:Int):F2:=(iI [go a])
theorem vo_body{kk ks ko d5:Int}{fs:List (List Dp)}{rs:List Int}{JY b0:List JX}{some s0:List Bool}(ho:YY (JY,some)){f:JX}{i:Nat}(hr:ao (i:Int) fs f.row 8)(xD:lL ((i:Int)<(fs.length:Int))=true)(hw:S6.wrap ((i:Int)+1)=((i+1:Nat):Int)):(CW S5 mX (vaH kk ks ko d5 fs (bP rs).flatten b0 s0 .ready []) false (sub Xo 0) {t:=ofT fs i,h:=vaH kk ks ko d5 fs (bP rs).flatten JY some .ready [],m:=[]} .normal {t:=ofT fs ((i+1:Nat):Int),h:=vaH kk ks ko d5 fs (bP rs).flatten (ziw kk ks ko d5 (JY,some) f).1 (ziw kk ks ko d5 (JY,some) f).2 .ready [],m:=[]}):=by
 let r:=(rfl:false=false)
 let A:List Ans:=[.st (.mask [0,1,2,3,7,8,9]),.st (.Μ 9)]
 let k:=bi 9 (.var [go kk,go ks,go ko])
 let B(a:List JX)(b:List Bool):List Stp:=[k,qL (n:=9) (l:=rs),u0 (n:=9) (l:=a),u3 (n:=9) (l:=b),bi 9 (.var [ab fs]),k,bi 9 (.var [go d5]),bi 9 .zaB,bi 9 (vaL .ready)]
 rw[<-hw]
 cases F3:f.kind==kk&&(f.sub==ks&&(f.obj==ko&&true))
 ·simp only[ziw,zmO,Cx,F3,Bool.false_and,cond_false];exact yx A ([.b xD,.r hr]++zGn 4 F3++zCf 22 F3++zGn 4 r++zCf 28 r++[.b r]++B JY some)
 cases Α:lL (f.d5<=d5)
 ·simp only[ziw,zmO,Α,Bool.and_false,cond_false];exact yx A ([.b xD,.r hr]++zGn 4 F3++zCt 22 F3 (lL (f.d5<=d5))++zGn 4 Α++zCf 28 Α++[.b r]++B JY some)
 simp only[ziw,zmO,Cx,F3,Α,Bool.and_self,cond_true];exact yx A ([.b xD,.r hr]++zGn 4 F3++zCt 22 F3 (lL (f.d5<=d5))++zGn 3 Α++[.j (@P0 kk ks ko d5 fs (Tv (bP rs)) JY some ho f)]++zGn 1 Α++zCt 28 Α (!true)++[.b (rfl:(!true)=false)]++B (vaF f (JY,some)).1 (vaF f (JY,some)).2)
theorem P5{kk ks ko d5:Int}{fs:bv}{rs:bV}{JY b0:AT}{G s0:Bv}{i:Nat}(xD:lL ((i:Int)<(fs.length:Int))=N):(CW S5 mX (vaH kk ks ko d5 fs (zbC rs) b0 s0 ζ []) N (sub Xo 0) {t:=ofT fs i,h:=vaH kk ks ko d5 fs (zbC rs) JY G ζ [],m:=[]} (η 0) {t:=Bn 30 0 [],h:=vaH kk ks ko d5 fs (zbC rs) JY G ζ [],m:=[]}):=yx zbN [.b xD]
theorem zoC{kk ks ko d5:Int}{s:VS}(f:JX)(h:s.ok):(ziw kk ks ko d5 s f).ok:=by
 unfold ziw;cases zmO kk ks ko d5 f;·exact h
 ·exact PZ h
noncomputable abbrev ziG(a b c d:Int)(e:AT)(f:bV)(g:AT)(h:Bv)(i:LoopState):aT:=vaH a b c d (e.map Ta) (zbC f) (e.foldl (ziw a b c d) (g,h)).1 (e.foldl (ziw a b c d) (g,h)).2 i []
theorem vo_cw{kk ks ko d5:Int}{l:AT}(hl:ah l){rs:bV}{b0:AT}{s0:Bv}(ho:YY (b0,s0)):CW S5 mX (vaH kk ks ko d5 (l.map Ta) (zbC rs) b0 s0 .ready []) false (.loop (sub Xo 0)) {t:=ofT (l.map Ta) 0,h:=vaH kk ks ko d5 (l.map Ta) (zbC rs) b0 s0 .ready [],m:=[]} (.exit 0)
   {t:=Bn 30 0 [],h:=(ziG kk ks ko d5 l rs b0 s0 (.ready)),m:=[]}:=by
 have:=UR (P:=S5) (Γ:=mX) (h0:=vaH kk ks ko d5 (l.map Ta) (zbC rs) b0 s0 .ready []) (rd:=false) (c:=sub Xo 0) (σ:=VS) (ρ:=Empty) l (λf s=>.inl (ziw kk ks ko d5 s f))
  (λi s=>{t:=ofT (l.map Ta) (i:Int),h:=vaH kk ks ko d5 (l.map Ta) (zbC rs) s.1 s.2 .ready [],m:=[]}) (.exit 0) (λs=>{t:=Bn 30 0 [],h:=vaH kk ks ko d5 (l.map Ta) (zbC rs) s.1 s.2 .ready [],m:=[]}) (λr=>r.elim)
  (λ_ s=>s.ok) (by simp) (λr=>r.elim) ?_ ?_ (b0,s0) ho
 ·rw[aM] at this
  exact this
 ·intro i f s hf hs
  have hi:=(Td.1 hf).1
  exact⟨λs' h=>by cases h;exact zoC f hs,vo_body hs (rowAt hf rfl) (κ _ hi) (J3 hi hl)⟩
 ·intro s _
  exact P5 (aR _ l)
theorem Gq{kk ks ko d5:Int}{l:AT}(hl:ah l){rs:bV}{b0:AT}{s0:Bv}(ho:YY (b0,s0)):(Ev S5 mX 251 zgy (vaH kk ks ko d5 (l.map Ta) (zbC rs) b0 s0 ζ []) (JV []) (ziG kk ks ko d5 l rs b0 s0 (ζ))):=by have Pq:=(@vo_cw (kk) (ks) (ko) (d5) (l) (hl) (rs) (b0) (s0) (ho));exact Tw (yF (h':=(zjZ (zh9 kk ks ko) (Tv (bP rs)) (Tv (dK (TE (ziw kk ks ko d5) (b0,s0) l).fst)) (Tv (ey (TE (ziw kk ks ko d5) (b0,s0) l).2)) (iI [ab (S2 Ta l)]) [go d5] zhk ziK (sub TV 0))) (d:=D.Ρ []) [.s [0,1,2,3,7,8,9] Pq]) ο ο
noncomputable abbrev vaH0(kk ks ko d5:Int)(fs:bv)(rs:bV)(JY:AT)(G:Bv):aT :=[iI (Z8 kk ks ko),iI (zbC rs),iI (zg6 JY),iI (ey G).flatten,iI [ab fs],iI (Z8 kk ks ko),iI [go d5]]
theorem Kb{kk ks ko d5:Int}{l:AT}(hl:ah l){rs:bV}{b0:AT}{s0:Bv}(ho:YY (b0,s0)):CW S5 mX [] N (sub TV 0) {t:=vaT,h:=vaH0 kk ks ko d5 (l.map Ta) rs b0 s0,m:=[]} NO
  {t:=vaT,h:=(ziG kk ks ko d5 l rs b0 s0 (zhL)),m:=[7]} :=
 CW.rangeFunc (f:=251) (fi:=[]) (ca:=zac) pok (s:={t:=vaT,h:=vaH0 kk ks ko d5 (l.map Ta) rs b0 s0,m:=[]}) (g:=.tmp 15) (ps:=#[16]) (asg:=ax (sub TV 0)) (body:=ak (sub TV 0)) rfl Z (Gq hl ho) rfl
theorem va_val{h:aT}{off n:Nat}{l:AT}{g:JX}(hb:h[2]?=G (iI (zg6 l)))(hs:l[n]?=G g)(ho:off=n*8+3):aQ S5 h 3 (zgH off)=G (go g.value):=by subst ho;exact pX (sz:=8) (j:=3) (row:=g.row.map .p) Z Z hb (by simp[Ta]) (by simp[hs]) rfl
theorem Gr{h:List F2}{off n:Nat}{l:List Int}{x:Int}(hb:h[1]? = some (.var (bP l).flatten))(hn:n<l.length)(ho:off=n*1):aY S5 h 3 (.ref (.ptr 1 off)) (go x)=some (h.set 1 (.var (bP (l.set n x)).flatten)):=by
 subst ho
 rw[pY (sz:=1) (new:=[go x]) rfl (by kernel_rfl) rfl hb (λr hr=>by grind) (by simpa using hn),bP,bP,List.map_set]
abbrev SV(v:Int):Int:=if J=J then if -1>v then -1 else v else if -1<v then -1 else v
noncomputable abbrev vlS(kk ks ko d5:Int)(fs:bv)(rs:bV)(JY:AT)(G:Bv)(i:Int):AS:={t:=Bn 63 0 [zaE,zbw,zaV,(46,go i)],h:=vaH kk ks ko d5 fs (zbC rs) JY G zhL [],m:=[7]}
abbrev zia(c:Bool)(d e:Int):D:=go (if c=J then if d>e then d else e else if d<e then d else e)
abbrev Z0(a b:Int):D:=(zia J a b)
abbrev zdf(a:Tmp)(b:Int):Ans:=(zjr a (go b))
abbrev zkj(a:bY):bY:=(Bn 63 0 [zaE,zbw,zaV,(15,UL (TM 251) [] a)])
theorem vl_b{kk ks ko d5:Int}{fs:bv}{rs:bV}{JY:AT}{G:Bv}{g:JX}{n:Nat}{b:Bool}(hb:JY[n]?=.some g)(hs:G[n]?=.some b)(hn:Φ (n:Int) 1024=J)(hr:n<rs.length)(xD:lL ((n:Int)<1024)=J):(CW S5 mX [] N (sub TV 2) (vlS kk ks ko d5 fs rs JY G (n:Int)) NO (vlS kk ks ko d5 fs (bif b then (rs.set n (-1)).set n (SV g.value) else rs.set n (-1)) JY G (S6.wrap ((n:Int)+1)))):=by
 cases F3:b;·let v0:aT:=[iI (zh9 kk ks ko),iI (Tv (bP (UE rs n (-1)))),iI (Tv (dK JY)),iI (Tv (ey G)),iI [ab fs],iI (zh9 kk ks ko),iI [go d5],Ζ,χ Uu Y 0 zhk ziK (ax (sub TV 0)) (ak (sub TV 0))];refine yX {t:=Bn 63 0 [zaE,zbw,zaV,(46,(ZZ n))],h:=v0,m:=[7]} Tr [δ (τ [6,7,8,46])] [.b xD,hn,(?_:@Eq (Option (aT)) (aY S5 [iI (zh9 kk ks ko),iI (Tv (bP rs)),iI (Tv (dK JY)),iI (Tv (ey G)),iI [ab fs],iI (zh9 kk ks ko),iI [go d5],Ζ,χ Uu Y 0 zhk ziK (ax (sub TV 0)) (ak (sub TV 0))] 3 (zb6 1 n) (go (-1))) (Vs v0)),hn,(?_:@Eq (At) (aQ S5 v0 4 (zb6 3 n)) (Vs (kr b))),.a1 (.oh 10050 D.any (vaH kk ks ko d5 fs (Tv (bP (UE rs n (-1)))) JY G Uu [])),.a1 (zjr 53 (kr b)),.b F3] (by subst v0;grind) (by subst v0;grind)<;>subst v0<;>(first|exact uZ rfl hs F1|exact Gr rfl hr F1)
 ·let v2:bY:=zac;let v3:=Tv (bP (UE (UE rs n (-1)) n (SV g.value)));let v4:=Tv (dK JY);let v5:=Tv (ey G);let v0:aT:=[iI (Z8 kk ks ko),iI (Tv (bP (UE rs n (-1)))),iI v4,iI v5,iI [ab fs],iI (Z8 kk ks ko),iI [go d5],Ζ,χ Uu Y 0 (zkj v2) zdA (ax (sub TV 0)) (ak (sub TV 0))];let v1:aT:=[iI (Z8 kk ks ko),iI v3,iI v4,iI v5,iI [ab fs],iI (Z8 kk ks ko),iI [go d5],Ζ,χ Uu Y 0 (zkj v2) zdA (ax (sub TV 0)) (ak (sub TV 0))];refine yX {t:=Bn 63 0 [zaE,zbw,zaV,(46,(ZZ n))],h:=v1,m:=[7]} Tr [δ (τ [6,7,8,46])] [.b xD,hn,(?_:@Eq (Option (aT)) (aY S5 [iI (Z8 kk ks ko),iI (Tv (bP rs)),iI v4,iI v5,iI [ab fs],iI (Z8 kk ks ko),iI [go d5],Ζ,χ Uu Y 0 (zkj v2) zdA (ax (sub TV 0)) (ak (sub TV 0))] 3 (zb6 1 n) (go (-1))) (Vs v0)),hn,(?_:@Eq (At) (aQ S5 v0 4 (zb6 3 n)) (Vs (kr b))),.a1 (.oh 10050 D.any (vaH kk ks ko d5 fs (Tv (bP (UE rs n (-1)))) JY G Uu [])),.a1 (zjr 53 (kr b)),.b F3,hn,(?_:@Eq (At) (aQ S5 v0 3 (mW (J0 2 (0+S9 (↑n:Int)*8+3)))) (Vs (go g.value))),hn,(?_:@Eq (Option (aT)) (aY S5 v0 3 (zb6 1 n) (Z0 (-1) g.value)) (Vs v1)),.a1 (zdf 58 g.value),.a1 (.oh 10060 D.any (vaH kk ks ko d5 fs v3 JY G Uu []))] (by subst v2 v3 v4 v5 v0 v1;grind) (by subst v2 v3 v4 v5 v0 v1;grind)<;>subst v2 v3 v4 v5 v0 v1<;>(first|exact uZ rfl hs F1|exact va_val rfl hb F1|exact Gr rfl hr F1|exact Gr rfl (by simpa using hr) F1)
abbrev ziX:bY:=Bn 63 0 [zaE]
theorem P6{kk ks ko d5:Int}{fs:bv}{rs:bV}{JY:AT}{G:Bv}:(CW S5 mX [] N (sub TV 2) (vlS kk ks ko d5 fs rs JY G 1024) (η 4) {t:=ziX,h:=vaH kk ks ko d5 fs (zbC rs) JY G zhL [],m:=[7]}):=yx (zeI 6) [.e]
def zjP(s:VS)(rs:bV)(n:Nat):bV:=bif s.2.getD n N then (rs.set n (-1)).set n (SV (s.1.getD n default).value) else rs.set n (-1)
def yb(s:VS)(rs:bV):bV:=(T1 1024).foldl (zjP s) rs
theorem vl_cw{kk ks ko d5:Int}{fs:bv}{rs:bV}{JY:AT}{some:Bv}(ho:YY (JY,some))(hr:rs.length=1024):CW S5 mX [] false (.loop (sub TV 2)) (vlS kk ks ko d5 fs rs JY some 0) (.exit 4) {t:=ziX,h:=vaH kk ks ko d5 fs (zbC (yb (JY,some) rs)) JY some .exhausted [],m:=[7]}:=by
 have:=UR (P:=S5) (Γ:=mX) (h0:=[]) (rd:=false) (c:=sub TV 2) (σ:=bV) (ρ:=Empty) (T1 1024) (λn rs=>.inl (zjP (JY,some) rs n))
  (λi rs=>vlS kk ks ko d5 fs rs JY some (i:Int)) (.exit 4) (λrs=>{t:=ziX,h:=vaH kk ks ko d5 fs (zbC rs) JY some .exhausted [],m:=[7]}) (λr=>r.elim)
  (λ_ rs=>rs.length=1024) (by simp) (λr=>r.elim) ?_ ?_ rs hr
 ·rw[aM (λrs n=>zjP (JY,some) rs n)] at this;exact this
 ·intro i n rs hn hs;obtain⟨hi,he⟩:=Td.1 hn;simp at hi;simp at he;subst he;have hb:JY[i]? = .some (JY.getD i default):=by rw[Th,TH (by rw[ho.1];omega)];rfl
  have hc:some[i]? = .some (some.getD i false):=by rw[Th,TH (by rw[ho.2];omega)];rfl
  refine⟨λs' h=>by cases h;unfold zjP;grind,?_⟩;have key:=vl_b (kk:=kk) (ks:=ks) (ko:=ko) (d5:=d5) (fs:=fs) (rs:=rs) hb hc (by simp[Φ];omega) (by omega) (by simp;omega);rw[wrap_i64 (by omega) (by omega)] at key;simp only[ai];unfold zjP;grind
 ·intro rs _;simp only[List.length_range];exact P6
theorem Gs{h:aT}{l:bV}(hb:h[1]?=G (iI (zbC l)))(hl:l.length=1024):aQ S5 h 221 zbB=G (uT (zbC l)) :=IA Z (by rw[gK (sz:=1) (bP l) (λr hr=>uU)];simp only[Uw,hl];kernel_rfl) hb
theorem yc{l:bV}:(TF (zbC l)).cells=G (zbC l):=by
 have:(bP l).flatten.all D.one=J:=by rw[TW];intro d hd;obtain⟨r,hr,hd⟩:=List.mem_flatten.1 hd;obtain⟨n,_,rfl⟩:=T2.1 hr;simp only[List.mem_singleton] at hd;subst hd;rfl
 simp[D.cells,this]
theorem st_int{h:aT}{l:bV}(hb:h[1]?=G (iI (zbC l)))(hl:l.length=1024):aY S5 h 221 zbB (uT (zbC l))=G (h.set 1 (iI (zbC l))) :=wQ yc (by rw[gK (sz:=1) (bP l) (λr hr=>uU)];simp only[Uw,hl];kernel_rfl) rfl hb
theorem qM{s:VS}{rs:bV}(h:rs.length=1024):(yb s rs).length=1024:=by
 unfold yb;generalize T1 1024=l;induction l generalizing rs with
 |nil=>exact h
 |cons n l ih=>exact ih (by unfold zjP;grind)
noncomputable abbrev vaE(kk ks ko d5:Int)(l:AT)(rs:bV)(s:VS):aT:=vaH kk ks ko d5 (l.map Ta) (zbC (yb (l.foldl (ziw kk ks ko d5) s) rs)) (l.foldl (ziw kk ks ko d5) s).1 (l.foldl (ziw kk ks ko d5) s).2 zhL []
abbrev zcb:D:=(mW (J0 2 0))
abbrev zcN:D:=(mW (J0 3 0))
theorem Kc{kk ks ko d5:Int}{l:AT}(hl:ah l){rs:bV}{b0:AT}{s0:Bv}(ho:YY (b0,s0))(hf:YY (l.foldl (ziw kk ks ko d5) (b0,s0)))(hr:rs.length=1024)(e1:dS S5 [iI (Z8 kk ks ko)] 221 zbB [iI (Z8 kk ks ko),iI (zbC rs)])(e2:dS S5 [iI (Z8 kk ks ko),iI (zbC rs)] 292 zcb [iI (Z8 kk ks ko),iI (zbC rs),iI (zg6 b0)])(e3:dS S5 [iI (Z8 kk ks ko),iI (zbC rs),iI (zg6 b0)] 293 zcN [iI (Z8 kk ks ko),iI (zbC rs),iI (zg6 b0),iI (ey s0).flatten]):(CW S5 mX [] N (al TV) {t:=Bn 63 0 [(0,ab (l.map Ta)),(1,uT (Z8 kk ks ko)),(2,go d5)],h:=[],m:=[]} .ret {t:=ziX,h:=vaE kk ks ko d5 l rs (b0,s0),m:=[7]}):=by have Pq:=(@Kb (kk) (ks) (ko) (d5) (l) (hl) (rs) (b0) (s0) (ho));have hl1:=(@vl_cw (kk) (ks) (ko) (d5) (S2 Ta l) (rs) ((TE (ziw kk ks ko d5) (b0,s0) l).fst) ((TE (ziw kk ks ko d5) (b0,s0) l).2) (hf) (hr));let v1:=TE (ziw kk ks ko d5) (b0,s0) l;let v0:aT:=[iI (zh9 kk ks ko),iI (Tv (bP (yb (v1.fst,v1.2) rs))),iI (Tv (dK v1.fst)),iI (Tv (ey v1.2)),iI [ab (S2 Ta l)],iI (zh9 kk ks ko),iI [go d5],Ζ,χ Uu Y 0 zhk ziK (ax (sub TV 0)) (ak (sub TV 0))];let v2:aT:=[iI (Z8 kk ks ko),iI (Tv (bP rs)),iI (Tv (dK b0))];let v3:aT:=[iI (Z8 kk ks ko),iI (Tv (bP rs)),iI (Tv (dK b0)),iI (Tv (ey s0))];let v4:aT:=[iI (Z8 kk ks ko),iI (Tv (bP rs))];let v5:=Tv (bP (yb v1 rs));refine yx (zeI 6) [((by subst v1 v0 v2 v3 v4 v5;grind):dS S5 [iI [go kk,go ks,go ko]] 221 (mW (J0 1 0)) v4),((by subst v1 v0 v2 v3 v4 v5;grind):dS S5 v4 292 (mW (J0 2 0)) v2),((by subst v1 v0 v2 v3 v4 v5;grind):dS S5 v2 293 (mW (J0 3 0)) v3),.a1 (.oh 6 zbB v4),.a1 (.oh 7 zcb v2),.a1 (.oh 8 zcN v3),.a1 zfF,.s [6,7,8,15] Pq,.s [6,7,8,46] hl1,(?_:@Eq (At) (aQ S5 v0 221 zbB) (G (TF v5))),(?_:@Eq (Option (aT)) (aY S5 v0 221 zbB (TF v5)) (G [iI (zh9 kk ks ko),iI v5,iI (Tv (dK v1.fst)),iI (Tv (ey v1.2)),iI [ab (S2 Ta l)],iI (zh9 kk ks ko),iI [go d5],Ζ,χ Uu Y 0 zhk ziK (ax (sub TV 0)) (ak (sub TV 0))])),.a1 (zjr 62 (TF v5)),.a1 (.oh 10006 D.any (vaE kk ks ko d5 l rs (b0,s0)))]<;>subst v1 v0 v2 v3 v4 v5<;>(first|exact Gs rfl (qM hr)|exact st_int rfl (qM hr))
theorem P7{n:Nat}{l:bV}:D.inn n (uT (zbC l))=J:=qL (n:=n) (l:=l)
def vZ:VS:=(Ti 1024 fz,Ti 1024 N)
theorem Ke:vZ.ok:=⟨by simp[vZ],by simp[vZ]⟩
theorem Gt{kk ks ko d5:Int}{l:AT}{s:VS}(h:s.ok):(l.foldl (ziw kk ks ko d5) s).ok:=by
 induction l generalizing s with
 |nil=>exact h
 |cons f l ih=>exact ih (zoC f h)
def bJ(kk ks ko d5:Int)(l:AT):bV:=yb (l.foldl (ziw kk ks ko d5) vZ) (Ti 1024 0)
theorem gS{kk ks ko d5:Int}{l:AT}:(bJ kk ks ko d5 l).length=1024:=qM F1
noncomputable abbrev zhd(a b c d:Int)(e:AT):aT:=(tY [7] (vaE a b c d e (Ti 1024 0) vZ))
theorem Kf{kk ks ko d5:Int}{l:AT}(hl:ah l):Ev S5 mX 127 [ab (l.map Ta),uT (Z8 kk ks ko),go d5] [] (uT (zbC (bJ kk ks ko d5 l))) (zhd kk ks ko d5 l):=by
 have hw:=Kc (kk:=kk) (ks:=ks) (ko:=ko) (d5:=d5) hl (rs:=Ti 1024 0) (b0:=vZ.1) (s0:=vZ.2) Ke (Gt Ke) F1 (by unfold dS;kernel_rfl) (by unfold dS vZ;kernel_rfl) (by unfold dS vZ;kernel_rfl);refine Ev.zrj (fn:=TV) Z Z hw ?_;have hc:aQ S5 (zhd kk ks ko d5 l) 221 zbB=G (uT (zbC (bJ kk ks ko d5 l))):=Gs rfl gS;have hr:bM S5 (ziX) (zhd kk ks ko d5 l) TV.results.toList=G [uT (zbC (bJ kk ks ko d5 l))]:=by
  show(match l5 S5 (ziX) (zhd kk ks ko d5 l) (.cell 6 221),G [] with
   |some d,some ds=>G (d::ds)
   |_,_=>Y)=_
  have:l5 S5 (ziX) (zhd kk ks ko d5 l) (.cell 6 221)=G (uT (zbC (bJ kk ks ko d5 l))):=hc;rw[this]
 simp only[finF,pre];rw[hr];rfl
theorem Gu{kk ks ko d5:Int}{l:AT}(hl:ah l)(h:aT):Ev S5 mX 127 [ab (l.map Ta),uT (Z8 kk ks ko),go d5] h (uT (zbC (bJ kk ks ko d5 l))) h :=Ev.zkE rfl (by have:=Ev.trim (h:=[]) (d:=uT (zbC (bJ kk ks ko d5 l))) P7 rfl (Kf (kk:=kk) (ks:=ks) (ko:=ko) (d5:=d5) hl);grind) h
abbrev ad(rs:bv):List (bY):=rs.map (S2 D.p)
theorem u4(rs:bv)(r:dO):ad rs++[r.map .p]=ad (rs++[r]):=by simp[ad]
theorem aB(rs:bv)(f:Ref->D):(ad rs).map (Tz f)=ad rs:=aj f rs
theorem Mf(k:Nat):∀r:dO,TL k (r.map .p)=J
 | []=>rfl
 |_::r=>by simp[TL,D.inn,Mf k r]
theorem aD(rs:bv)(k:Nat):(ad rs).all (TL k)=J:=by rw[TW];intro r hr;obtain⟨x,_,rfl⟩:=T2.1 hr;exact Mf k x
theorem Gv{h:aT}{l r:bV}(hb:h[1]?=G (iI (zbC r)))(hr:r.length=1024)(hl:l.length=1024):aY S5 h 221 zbB (uT (zbC l))=G (h.set 1 (iI (zbC l))) :=wQ yc (by rw[gK (sz:=1) (bP l) (λr hr=>uU)];simp only[Uw,hl];kernel_rfl)
  (by rw[gK (sz:=1) (bP l) (λr hr=>uU),gK (sz:=1) (bP r) (λr hr=>uU)];simp[hl,hr]) hb
structure PtT where
 fI:Int
 value:Int
 deriving Inhabited,DecidableEq
def PtT.row(p:PtT):dO:=[vi p.fI,vi p.value]
theorem Gw{h:aT}{off n:Nat}{l:bV}{v:Int}(hb:h[1]?=G (iI (zbC l)))(hs:l[n]?=G v)(ho:off=n*1):aQ S5 h 3 (mW (J0 1 off))=G (go v):=by subst ho;exact pX (sz:=1) (j:=0) (row:=[go v]) Z Z hb (λr hr=>uU) (by simp[hs]) rfl
noncomputable abbrev ptH(kk ks ko:Int)(rs:bV)(l:List PtT):aT:=[iI (Z8 kk ks ko),iI (zbC rs),.lk (ad (l.map PtT.row)) 0 2]
abbrev zfg(a:Nat):Nat×D:=(11,mW (J0 a 0))
abbrev zfI:Nat×D:=(10,mW (.lk 2 0))
noncomputable abbrev ptS(kk ks ko to:Int)(rs:bV)(l:List PtT)(x:Int):AS:={t:=Bn 38 0 [(3,go to),zfI,(zfg 1),(12,go x)],h:=ptH kk ks ko rs l,m:=[]}
theorem qN(f:Ref->D)(l:List Int):Tz f (bP l).flatten=(bP l).flatten:=by
 induction l with
 | nil=>rfl
 | cons n l ih=>simp only[bP,U5,W6,List.cons_append,List.nil_append,Tz,D.π] at ih ⊢;rw[ih]
theorem Bt{n:Nat}{l:bV}{f:Ref->D}:Tl n (iI (Tz f (zbC l)))=J:=by rw[qN];exact qL
theorem br{n:Nat}{rs:bv}{e sz:Nat}:Tl n (.lk (ad rs) e sz)=J:=aD rs n
theorem iV(n:Nat)(rs:bv)(e sz:Nat):Tl n (.lk (ad rs) e sz)=J:=br
theorem vM(rs:bv)(a b c:Nat):(ad rs).map (Tz (ar a b c))=ad rs:=aj (ar a b c) rs
theorem iVa(n:Nat)(rs:bv)(b:List (bY))(e sz:Nat)(h:b.all (TL n)=J:=by first|rfl|exact aD _ _):Tl n (.lk (ad rs++b) e sz)=J:=(List.all_append).trans (by rw[aD rs n,h];rfl)
theorem vMa(rs:bv)(q:List (bY))(a b c:Nat)(h:q.map (Tz (ar a b c))=q:=by first|rfl|exact aj _ _):(ad rs++q).map (Tz (ar a b c))=ad rs++q:=Uh.trans (by rw[aj (ar a b c) rs,h])
def ptF(v:Int)(n:Nat)(l:List PtT):List PtT:=bif lL (v>=0) then l++[⟨(n:Int),v⟩] else l
theorem zJ(l:List PtT)(n:Nat)(v:Int):ad (l.map PtT.row)++[[go (n:Int),go v]]=ad ((l++[PtT.mk (n:Int) v]).map PtT.row):=by simp[PtT.row]
abbrev zjv(g h:Nat)(i:List (bY))(j k l:Nat)(m:F2):F2:=match g==h with|true=>.lk i j k|false=>ZK (ar h l j) m
abbrev ZT(a b:Nat)(c:List (bY))(d e f:Nat):F2:=(zjv (a+1) b (c) d e f (.lk (c) f e))
abbrev zhp(f g:Nat)(h:List (bY))(i j k:Nat)(l:F2):F2:=(zjv f g (h) i j k (l))
abbrev zaT(a:Nat)(b:List (bY))(c d:Nat)(e:F2):F2:=(zhp (0+1) a b 0 c d e)
abbrev zc9(a:iS)(b c d:Nat):Do:=[δ (τ a),δ (.ren b c),δ (zmj d)]
abbrev zd4(a:List PtT):List (bY):=ad (S2 PtT.row a)
theorem pt_b{kk ks ko to:Int}{rs:List Int}{l:List PtT}{n:Nat}{v:Int}(hv:rs[n]? = .some v)(hn:Φ (n:Int) 1024=true)(hl:l.length<=2000)(xD:lL ((n:Int)<if false=true then if 1024>to then 1024 else to else if 1024<to then 1024 else to)=true)(hw:S6.wrap ((n:Int)+1)=((n+1:Nat):Int)):(CW S5 mX [] false (sub Za 0) (ptS kk ks ko to rs l (n:Int)) .normal (ptS kk ks ko to rs (ptF v n l) ((n+1:Nat):Int))):=by
 cases F3:lL (v>=0)
 ·refine yX {t:=Bn 38 0 [(3,go to),(10,.ref (.lk 2 0)),(11,.ref (.ptr 1 0)),(12,go (S8 S6 ((↑n:Int)+1)))],h:=[.var [go kk,go ks,go ko],.var (Tz (ar 2 0 0) (Tv (bP rs))),.lk (ad (S2 PtT.row l)) 0 2],m:=[]} Tr [.st (.mask [3,10,11,12]),.st (.ren 2 0),.st (.Μ 3)] [.b xD,hn,(?_:@Eq (Option D) (aQ S5 [.var [go kk,go ks,go ko],.var (Tv (bP rs)),.lk (ad (S2 PtT.row l)) 0 2] 3 (.ref (.ptr 1 (0+S9 (↑n:Int)*1)))) (some (go v))),.a1 (.ov 27 (go v)),.b F3,(?_:S2 (Tz (ar 2 0 0)) (ad (S2 PtT.row l))=ad (S2 PtT.row l)),(rfl:Tl 3 (match 0==2 with|true=>.lk (ad (S2 PtT.row l)) 0 2|false=>ZK (ar 2 0 0) (.var [go kk,go ks,go ko]))=true),(?_:Tl 3 (match 0+1==2 with|true=>.lk (ad (S2 PtT.row l)) 0 2|false=>ZK (ar 2 0 0) (.var (Tv (bP rs))))=true),(?_:Tl 3 (match 0+1+1==2 with|true=>.lk (ad (S2 PtT.row l)) 0 2|false=>ZK (ar 2 0 0) (.lk (ad (S2 PtT.row l)) 0 2))=true)] (by grind) (by(simp[hw,ptF,F3,qN];done))<;>(first|exact Gw rfl hv (by simp)|exact aB _ _|exact Bt|exact br)
 ·let v0:List F2:=[.var [go kk,go ks,go ko],.var (Tv (bP rs)),.lk (ad (S2 PtT.row l)) 0 2]
  refine yX {t:=Bn 38 0 [(3,go to),(10,.ref (.lk 2 0)),(11,.ref (.ptr 1 0)),(12,go (S8 S6 ((↑n:Int)+1)))],h:=[.var [go kk,go ks,go ko],.var (Tz (ar 2 1 0) (Tv (bP rs))),.lk (ad (S2 PtT.row l)++[[go (↑n:Int),go v]]) 0 2],m:=[]} Tr [.st (.mask [3,10,11,12]),.st (.ren 2 0),.st (.Μ 3)] [.b xD,hn,(?_:@Eq (Option D) (aQ S5 v0 3 (.ref (.ptr 1 (0+S9 (↑n:Int)*1)))) (some (go v))),.a1 (.ov 27 (go v)),.b F3,hn,(?_:@Eq (Option D) (aQ S5 v0 3 (.ref (.ptr 1 (0+S9 (↑n:Int)*1)))) (some (go v))),((by subst v0;grind [aL,D.one,Up,L8]):(Tq [[go (↑n:Int),go v]] (aL 2)&&L8 (S7 (ad (S2 PtT.row l))+S7 [[go (↑n:Int),go v]]) 16)=true),(?_:S2 (Tz (ar 2 1 0)) (ad (S2 PtT.row l)++[[go (↑n:Int),go v]])=ad (S2 PtT.row l)++[[go (↑n:Int),go v]]),pr [[go (↑n:Int),go v]],(rfl:Tl 3 (match 0==2 with|true=>.lk (ad (S2 PtT.row l)++[[go (↑n:Int),go v]]) 0 2|false=>ZK (ar 2 1 0) (.var [go kk,go ks,go ko]))=true),(?_:Tl 3 (match 0+1==2 with|true=>.lk (ad (S2 PtT.row l)++[[go (↑n:Int),go v]]) 0 2|false=>ZK (ar 2 1 0) (.var (Tv (bP rs))))=true),(?_:Tl 3 (match 0+1+1==2 with|true=>.lk (ad (S2 PtT.row l)++[[go (↑n:Int),go v]]) 0 2|false=>ZK (ar 2 1 0) (.lk (ad (S2 PtT.row l)++[[go (↑n:Int),go v]]) 1 2))=true),.a1 (.ov 33 (go v))] (by subst v0;grind) (by subst v0;(simp only[hw,ptF,F3,cond_true,zJ,qN];first|done|rfl))<;>subst v0<;>(first|exact Gw rfl hv (by simp)|(rw[zJ];exact aB _ _)|exact Bt|(rw[zJ];exact br))
theorem P8{kk ks ko to:Int}{rs:bV}{l:List PtT}{x:Int}(xD:lL (x<if N=J then if 1024>to then 1024 else to else if 1024<to then 1024 else to)=N):(CW S5 mX [] N (sub Za 0) (ptS kk ks ko to rs l x) (η 0) {t:=Bn 38 0 [zfI],h:=ptH kk ks ko rs l,m:=[]}):=yx (zeI 10) [.b xD]
def vF(to:Int):Int:=if to<1024 then to else 1024
theorem Gx(to:Int):(if N=J then if 1024>to then 1024 else to else if 1024<to then 1024 else to)=vF to:=by unfold vF;grind
def Kg(rs:bV)(x to:Int):List PtT:=(US x.toNat (vF to-x).toNat).foldl (λl n=>ptF (rs.getD n 0) n l) []
theorem Gy(v:Int)(n:Nat)(l:List PtT):(ptF v n l).length<=l.length+1:=by unfold ptF;grind
theorem pt_cw{kk ks ko to:Int}{rs:bV}(hr:rs.length=1024){x:Int}(hx:0<=x):CW S5 mX [] false (.loop (sub Za 0)) (ptS kk ks ko to rs [] x) (.exit 0) {t:=Bn 38 0 [zfI],h:=ptH kk ks ko rs (Kg rs x to),m:=[]}:=by
 have hx':((x.toNat:Nat):Int)=x:=by omega
 have hh:vF to<=1024:=by unfold vF;split<;>omega
 have:=UR (P:=S5) (Γ:=mX) (h0:=[]) (rd:=false) (c:=sub Za 0) (σ:=List PtT) (ρ:=Empty) (US x.toNat (vF to-x).toNat) (λn l=>.inl (ptF (rs.getD n 0) n l))
  (λi l=>ptS kk ks ko to rs l (x+(i:Int))) (.exit 0) (λl=>{t:=Bn 38 0 [zfI],h:=ptH kk ks ko rs l,m:=[]}) (λr=>r.elim)
  (λi l=>l.length<=i) (by simp) (λr=>r.elim) ?_ ?_ [] (by simp)
 ·rw[aM (λl n=>ptF (rs.getD n 0) n l)] at this;grind [bf,Kg]
 ·intro i n l hn hs;obtain⟨hi,he⟩:=Td.1 hn;simp only[Zx] at hi;simp at he;have xD:(n:Int)<vF to:=by omega
  have hb:rs[n]? = some (rs.getD n 0):=by rw[Th,TH (by rw[hr];omega)];rfl
  refine⟨λs' h=>by cases h;have:=Gy (rs.getD n 0) n l;omega,?_⟩;have key:=pt_b (kk:=kk) (ks:=ks) (ko:=ko) (to:=to) (l:=l) hb (by simp[Φ];omega) (by omega) (by grind [Gx]) (by rw[wrap_i64 (by omega) (by omega)];omega);have e1:x+(i:Int)=(n:Int):=by omega
  have e2:x+((i+1:Nat):Int)=((n+1:Nat):Int):=by omega
  simp only[ai,e1,e2];exact key
 ·intro l _;refine P8 ?_;grind [Gx]
def Mg(uR:Int):Int:=if J=J then if uR>0 then uR else 0 else if uR<0 then uR else 0
def aH(kk ks ko uR to d5:Int)(l:AT):List PtT:=Kg (bJ kk ks ko d5 l) (Mg uR) to
theorem Gz(uR:Int):0<=(if J=J then if uR>0 then uR else 0 else if uR<0 then uR else 0):=uU
theorem Kh{kk ks ko uR to d5:Int}{l:AT}(hl:ah l){r0:bV}(e1:dS S5 [iI (Z8 kk ks ko)] 221 zbB [iI (Z8 kk ks ko),iI (zbC r0)])(h0:r0.length=1024)(h:aT):(Ev S5 mX 60 [ab (l.map Ta),uT (Z8 kk ks ko),go uR,go to,go d5] h (ab ((aH kk ks ko uR to d5 l).map PtT.row)) h):=by have Pq:=(@pt_cw (kk) (ks) (ko) (to) (bJ kk ks ko d5 l) (by first|assumption|rfl|exact gS|exact Gz _|exact Gv rfl h0 gS|(simp;done)) (if J=J then if uR>0 then uR else 0 else if uR<0 then uR else 0) uU);let v0:aT:=[iI (Z8 kk ks ko),iI (Tv (bP r0))];let v1:=Tv (bP (bJ kk ks ko d5 l));let v2:=S2 PtT.row (aH kk ks ko uR to d5 l);refine y0 [.v (@Gu kk ks ko d5 l hl ([iI (Z8 kk ks ko)])),((by subst v0 v1 v2;grind):dS S5 [iI [go kk,go ks,go ko]] 221 (mW (J0 1 0)) v0),(?_:@Eq (Option (aT)) (aY S5 v0 221 zbB (TF v1)) (G [iI (Z8 kk ks ko),iI v1])),.a1 (.oh 11 zbB v0),.a1 (.oh 10011 D.any [iI (Z8 kk ks ko),iI v1]),.n 1,.o (.zpx 10 2),.s [3,10,11,12] Pq,(?_:(zd4 (Kg (bJ kk ks ko d5 l) (if J=J then if uR>0 then uR else 0 else if uR<0 then uR else 0) to))=S2 (λx=>S2 D.p x) v2),.o (zed 2 v2)] h<;>subst v0 v1 v2<;>(first|rfl|exact Gv rfl h0 gS)
theorem iM{kk ks ko uR to d5:Int}{l:AT}(hl:ah l)(h:aT):Ev S5 mX 60 [ab (l.map Ta),uT (Z8 kk ks ko),go uR,go to,go d5] h (ab ((aH kk ks ko uR to d5 l).map PtT.row)) h :=Kh hl (r0:=Ti 1024 0) (by unfold dS;kernel_rfl) F1 h
end Go.Vi
open Go Go.Proofs Go.Shelf Go.RowKit Go.Sort
namespace Go.Vi
set_option maxRecDepth 100000
set_option maxHeartbeats 4000000
abbrev u5{α:Type}(enc:α->oR)(l:List α):List (bY):=l.map λx=>(enc x).map lit
theorem mZ{w:World}{av:Nat->Prop}{loc:Loc}{h:aT}:∀{vs ys:oR},qH w av loc h (vs.map lit) ys->ys=vs
  | [],[],_=>rfl
  | [],_::_,r=>by simp[qH] at r
  |_::_,[],r=>by simp[qH] at r
  |v::vs,y::ys,r=>by
    simp[qH] at r;have h1:y=v:=by simpa[Rel,ς] using r.1
    rw[h1,mZ r.2]
theorem gT{w:World}{av:Nat->Prop}{loc:Loc}{h:aT}:∀{vs:oR},qH w av loc h (vs.map lit) vs
  | []=>trivial
  |v::vs=>by simp[qH];exact⟨by simp[Rel,ς],gT⟩
theorem tm{α:Type}(enc:α->oR)(l:List α):(u5 enc l).flatten=((l.map enc).flatten).map lit:=by
  induction l with
  |nil=>rfl
  |cons a l ih=>grind
theorem m9{α:Type}[Inhabited α](enc:α->oR)(k:Nat)(hk:∀x,(enc x).length=k)(l:List α):(flatK enc k l.toArray).toList=(l.map enc).flatten:=by
  have key:∀(l:List α) (t:Nat),t<l.length*k->((l.map enc).flatten)[t]?=G ((enc (l.toArray[t / k]!))[t % k]!):=by
    intro l;induction l with
    |nil=>grind
    |cons a l ih=>
      intro t h;simp only[U5,W6];rcases Nat.lt_or_ge t k with xD|hge
      · rw[Ul uU,Nat.div_eq_of_lt xD,Nat.mod_eq_of_lt xD]
        grind
      · have k0 : 0 < k := by rcases Nat.eq_zero_or_pos k with h0 | h0
                              · grind
                              · exact h0
        rw[T8 uU,hk]
        obtain⟨u,rfl⟩:∃u,t=u+k:=⟨t-k,tj⟩
        have hu:u<l.length*k:=by simp only[Ue,Nat.add_mul,Nat.one_mul] at h;omega
        simp_all
  apply Wx;intro t;have hlen:((l.map enc).flatten).length=l.length*k:=by
    clear key;induction l with
    |nil=>simp
    |cons a l ih=>grind
  by_cases ht:t<l.length*k
  · rw[key l t ht]
    simp[flatK,ht]
  grind [flatK]
theorem tp{w w':World}(h1:w.heap.size<=w'.heap.size)(h2:∀k,k<w.heap.size->w'.heap[k]?=w.heap[k]?)(h3:w'.tape=w.tape/\w'.os=w.os/\w'.output=w.output/\w.drawn<=w'.drawn):∃q os',w'=WU (w.drewN q) os':=by
  refine⟨w'.drawn-w.drawn,w'.heap.extract w.heap.size w'.heap.size,?_⟩;obtain⟨heap,tape,drawn,os,output⟩:=w;obtain⟨heap',tape',drawn',os',output'⟩:=w';obtain⟨rfl,rfl,rfl,h4⟩:=h3;simp only[WU,World.drewN] at h1 h2 h4 ⊢;congr 1;· grind
  · omega
theorem C9{P:Program}{Γ:au}{O:Nat->Prop}{α:Type}[Inhabited α]{enc:α->oR}{k g:Nat}{cf:α->α->Int}{w:World}{loc:Loc}{h:aT}(R:Β Γ O w loc h){mN:Nat}(hblk:J4 O loc h mN)(hE:∀x y,Ev P Γ g [.agg ((enc x).map lit),.agg ((enc y).map lit)] [] (go (cf x y)) []) (o size:Nat):CmpLays P g #[] enc k cf mN o size w:=by
  intro m os dk hs x y;generalize hW:sortWorldK enc k w mN o m dk os=W;have hb:mN<w.heap.size:=by
    rcases hblk with ho|ho;· exact R.obd mN ho
    · exact(R.inb mN ho).1
  have znv:∀b off v,¬J4 O loc h b->w.cell? ⟨b,off,none⟩=some v->W.cell? ⟨b,off,none⟩=some v/\¬J4 (λ_=>False) loc [] b:=by
    intro b off v hn hc;have hne:b≠mN:=λe=>hn (e▸hblk);refine⟨?_,λho=>ho.elim id (λh=>absurd h dT)⟩;subst hW;have xD:b<w.heap.size:=by
      simp only[Xh] at hc;split at hc;· grind
      · simp at hc
    have:(sortWorldK enc k w mN o m dk os).heap[b]? = w.heap[b]?:=by unfold sortWorldK;rw[VT _ _ (by grind [putRowK,Un,Ur,Uz])];simp[putRowK,Un,Ur,Uz,Xx,Ne.symm hne]
    simp only[Xh,this];exact hc
  have R0:Β Γ (λ_=>False) W loc []:=by refine⟨λmN ho=>absurd ho dT,λmN ho=>ho.elim,λb b' x x' k c c' hb=>by simp at hb,λb x hb=>by simp at hb,λg cs hg=>?_⟩;exact Pt.mono znv g 0 cs (R.glo g cs hg)
  have ra:qH W (J4 (λ_=>False) loc []) loc [] [.agg ((enc x).map lit),.agg ((enc y).map lit)] [.agg (enc x).toArray,.agg (enc y).toArray]:=by refine⟨⟨_,rfl,gT⟩,⟨_,rfl,gT⟩,trivial⟩
  refine Xp (callsIn_wide.1 (hE x y (λ_=>False) W loc _ R0 ra)) ?_;rintro e w' ⟨v,d2,h2,l',rfl,⟨rfl,rfl⟩,R',E',rd⟩;refine⟨?_,tp E'.size (λb hb=>E'.same b hb dT) E'.tape⟩;have:v=.int .i64 (cf x y):=by simpa[Rel,ς] using rd
  rw[this]
theorem nI{P:Program}{ρ:Ren}{Γ:au}(ok:POk P)(L:SlLaysF0.n6 P ρ){α:Type}[Inhabited α]{enc:α->oR}{k:Nat}(aE:∀w,(isAgg (ρ.t 24)).run P w=.ok true w)(zE:∀w,(Go.sizeOf (ρ.t 24)).run P w=.ok k w)(hk:∀x,(enc x).length=k)(h1:∀x,∀v∈enc x,v.oneCell'=true){cf:α->α->Int} (hO:Sort.SWO (ltOf cf)) {g:Nat} (hg:fK P g=true) (hE:∀x y,Ev P Γ g [.agg ((enc x).map lit),.agg ((enc y).map lit)] [] (go (cf x y)) []){h:aT} {b e:Nat} {l:List α} (hb:h[b]? = some (.lk (u5 enc l) e k)) (hl:l.length<4611686018427387904) (hT:∀x∈l,∀y∈l,(ltOf cf) x y=false->(ltOf cf) y x=false->x=y) :Ev P Γ (ρ.f 6) [.ref (.lk b e),.p (.v (.func (.func g) #[] #[]))] h (.Ρ []) (h.set b (.lk (u5 enc (l.mergeSort λx y=>!(ltOf cf) y x)) e k)):=by
  intro O w loc vs R ra;obtain⟨y,rfl⟩:∃y,vs=[y,.func (.func g) #[] #[]]:=by
    match vs,ra with
    | [y, z], r => exact ⟨y, by have : z = .func (.func g) #[] #[] := by simpa [Rel, ς, qH] using r.2
                                rw[this]⟩
    | [],r=>simp[qH] at r
    | [_],r=>simp[qH] at r
    | _::_::_::_,r=>simp[qH] at r
  have r:=ra.1;simp only[Rel,J1,hb] at r;have hv:=r.2.2 trivial;have B:=R.mN b _ hb;simp only[Z2] at B;have hlen:(u5 enc l).length=l.length:=by simp[u5]
  refine callsIn_wide.2 ?_;cases hlb:loc b with
  | none =>
    rw[hlb] at hv B;obtain⟨hn,rfl⟩:=hv;have Pq:l=[]:=by simpa[u5] using hn
    subst Pq;refine Xp (AnyF.slices_SortFunc_none L none 0 _ w) ?_;rintro e' w' ⟨rfl,rfl⟩;have hset:h.set b (.lk (u5 enc (([]:List α).mergeSort λx y=>!(ltOf cf) y x)) e k)=h:=by
      apply Wx;intro i;by_cases hi:i=b;· subst hi;rw[bk hb,hb];simp
      · grind
    refine⟨.tuple #[],.Ρ [],_,loc,rfl,⟨rfl,rfl⟩,?_,?_,?_⟩;· grind
    · rw[hset];exact Ext.refl _ _ _
    · simp[Rel,qH]
  | some p =>
    obtain⟨mN,cp⟩:=p;rw[hlb] at hv B;obtain⟨o,cap,rfl,rfl,zmV⟩:=hv;simp only at B;obtain⟨o',cap',rc,c,T,fr,ys,zla,hcs,hle,hfr,hsz,zmS,pr,rest,hpr,hcl⟩:=B;obtain⟨rfl,rfl⟩:=dh rc;rw[tm] at zmS;have hys:=mZ zmS;subst hys;have hblk:mN<w.heap.size:=(V8.1 zla).1;have zlu:J4 O loc h mN:=.inr ⟨b,_,mkP o cap,hb,by simp,hlb⟩;have hH:HoldsK enc k w mN o l.toArray:=by
      intro j hj;have hj':j<l.length*k:=by simpa using hj
      have hc:c[o+j]? = some (flatK enc k l.toArray)[j]!:=by rw[<-Uo,hcl,<-m9 enc k hk l,<-hpr,jP,Ul (by simpa using hj')];rw[Uo,getElem!_pos _ j (by simpa using hj')];exact Array.getElem?_eq_getElem _
      constructor;· simp[Xh,zla,hc]
      · have:=hfr (o+j) (V8.1 hc).1
        obtain⟨lo,hi⟩:=fr
        simp only[World.frozen?,zla]
        grind
    have eg:∀args w,(callFunc g args).run P w=.ok (.enter g args) w:=λargs w=>by
      unfold fK at hg;split at hg;· rename_i fn hfn;exact zkR ok hfn hg args w
      · simp at hg
    rw[hlen];refine Xp (AnyQ.slices_SortFunc L k aE zE enc hk h1 cf hO g #[] mN o cap l.toArray w eg (C9 R zlu hE o _) hH hblk hl) ?_;rintro e' w' ⟨rfl,d',n,os,hP,hS,rfl⟩;have hd':d'.toList=l.mergeSort λx y=>!(ltOf cf) y x:=by
      obtain⟨hsz',_,zpC⟩:=hP;have e1:d'.extract 0 l.toArray.size=d':=by rw[<-hsz'];exact Zp
      rw[e1,Zp] at zpC;refine List.Perm.eq_of_pairwise (le:=λx y=>(!(ltOf cf) y x)=true) ?_ ?_ ?_ (zpC.trans (X0 _ _).symm)
      · intro a b' ha hb' h1 h2
        simp at h1 h2
        have ha':a∈l:=by simpa using zpC.mem_iff.1 ha
        have hb2:b'∈l:=(X0 _ _).mem_iff.1 hb'
        grind
      · rw[List.pairwise_iff_getElem]
        intro i j hi hj hij
        have hi':i<d'.size:=by simpa using hi
        have hj':j<d'.size:=by simpa using hj
        have:=hS i j (Nat.zero_le _) hij (by omega)
        grind
      · exact List.pairwise_mergeSort (λa b c h1 h2 => by
          simp at h1 h2 ⊢
          exact hO.ntrans _ _ _ h2 h1) (λa b=>by
          cases hab:(ltOf cf) b a
          · simp
          · have : (ltOf cf) a b = false:=by
              cases hba:(ltOf cf) a b
              · rfl
              · have:=hO.trans _ _ _ hab hba
                grind [hO.irrefl]
            simp[this]) l
    have hdA:d'=(l.mergeSort λx y=>!(ltOf cf) y x).toArray:=by rw[<-hd']
    have hlm:(l.mergeSort λx y=>!(ltOf cf) y x).length=l.length:=by simp
    subst hdA;clear hP hS hd';generalize (l.mergeSort λx y=>!(ltOf cf) y x)=m at hlm ⊢;have zpD:(sortWorldK enc k w mN o n m.toArray os).heap[mN]? = some (.cells (UW id o (flatK enc k m.toArray) c) T fr):=by unfold sortWorldK;rw[VT _ _ (by grind [putRowK,Un,Ur,Uz])];simp[putRowK,Un,Ur,Uz,Xx,zla,Sort.onCells]
    have hfl:((l.map enc).flatten).length=l.length*k:=by rw[<-m9 enc k hk];simp
    have zmA:(UW id o (flatK enc k m.toArray) c).toList=pr++(m.map enc).flatten++rest:=by
      unfold UW;rw[Array.toList_mapIdx,hcl,<-m9 enc k hk m];apply Wx;intro i;rw[List.getElem?_mapIdx];by_cases hp:i<pr.length;· grind
      obtain⟨q,rfl⟩:∃q,i=pr.length+q:=⟨i-pr.length,by omega⟩;rw[jP,jP];subst hpr;by_cases hi:q<l.length*k
      · rw[Ul (by grind),Ul (by simpa[hlm] using hi)]
        simp_all
      · rw[T8 (by grind),T8 (by simp_all)]
        simp[hi,hlm,hfl]
    have key:=R.step (w':=sortWorldK enc k w mN o n m.toArray os) (l':=loc) (h':=h.set b (.lk (u5 enc m) e k)) b (.lk (u5 enc m) e k)
      (by simp[sortWorldK,WU,putRowK,Un,Ur,Uz]) ⟨rfl,rfl,rfl,by simp[sortWorldK,WU,putRowK,Un,Ur,Uz]⟩ (λi hi=>b9 _ _ hi) (bk hb) (λ_ _=>rfl)
      (λz hz=>by rw[hb] at hz;cases hz;exact⟨⟨Nat.le_refl _,λ_=>by grind,rfl⟩,λ_=>rfl⟩)
      (λk' hk' hno=>by
        have hkb:k'≠mN:=λe=>hno _ (mkP o cap) hb (by simp) (by rw[hlb,e])
        unfold sortWorldK
        rw[VT _ _ (by grind [putRowK,Un,Ur,Uz])]
        grind [putRowK,Un,Ur,Uz])
      (λk' c' hk'=>.inl ⟨_,c',hb,by simp,hk'⟩)
      (λE=>by
        simp only[Z2,hlb]
        refine⟨o,cap,rfl,_,T,fr,(m.map enc).flatten,zpD,?_,?_,?_,?_,?_,pr,rest,hpr,zmA⟩
        · grind [UW]
        · grind
        · grind [UW]
        · grind
        · rw[tm];exact gT)
    grind [Rel,qH]
end Go.Vi
open Go Go.Proofs Go.Shelf
namespace Go.Proofs
def Tryz.zpu:Go.Shelf.Ren:=⟨fun|6=>164|15=>109|14=>233|28=>186|29=>187|20=>289|21=>290|22=>291|23=>292|24=>293|25=>294|26=>295|27=>296|46=>322|47=>262|48=>263|49=>323|50=>324|57=>337|n=>n,fun|22=>104|24=>170|25=>243|3=>3|39=>196|0=>0|53=>263|55=>265|4=>4|46=>257|45=>256|50=>191|5=>5|9=>9|66=>334|70=>338|76=>361|77=>362|n=>n,fun|n=>n⟩
theorem Tryz.sortAtt:Yt S5 Tryz.zpu:={
 mixed:=by kernel_rfl
 f6:=⟨Tryz.f164.name,by decide,Tryz.func164.trans (congrArg some (by kernel_rfl))⟩
 f14:=⟨Tryz.f233.name,by decide,Tryz.func233.trans (congrArg some (by kernel_rfl))⟩
 f15:=Tryz.func109.trans (congrArg some (by kernel_rfl))
 f20:=⟨Tryz.f289.name,by decide,Tryz.func289.trans (congrArg some (by kernel_rfl))⟩
 f21:=⟨Tryz.f290.name,by decide,Tryz.func290.trans (congrArg some (by kernel_rfl))⟩
 f22:=⟨Tryz.f291.name,by decide,Tryz.func291.trans (congrArg some (by kernel_rfl))⟩
 f23:=⟨Tryz.f292.name,by decide,Tryz.func292.trans (congrArg some (by kernel_rfl))⟩
 f24:=⟨Tryz.f293.name,by decide,Tryz.func293.trans (congrArg some (by kernel_rfl))⟩
 f25:=⟨Tryz.f294.name,by decide,Tryz.func294.trans (congrArg some (by kernel_rfl))⟩
 f26:=⟨Tryz.f295.name,by decide,Tryz.func295.trans (congrArg some (by kernel_rfl))⟩
 f27:=⟨Tryz.f296.name,by decide,Tryz.func296.trans (congrArg some (by kernel_rfl))⟩
 f28:=Tryz.func186.trans (congrArg some (by kernel_rfl))
 f29:=Tryz.func187.trans (congrArg some (by kernel_rfl))
 f46:=⟨Tryz.f322.name,by decide,Tryz.func322.trans (congrArg some (by kernel_rfl))⟩
 f47:=Tryz.func262.trans (congrArg some (by kernel_rfl))
 f48:=Tryz.func263.trans (congrArg some (by kernel_rfl))
 f49:=⟨Tryz.f323.name,by decide,Tryz.func323.trans (congrArg some (by kernel_rfl))⟩
 f50:=⟨Tryz.f324.name,by decide,Tryz.func324.trans (congrArg some (by kernel_rfl))⟩
 f57:=⟨Tryz.f337.name,by decide,Tryz.func337.trans (congrArg some (by kernel_rfl))⟩
 t0:=Tryz.underlying0
 a0:=Tryz.isAgg0
 z0:=Tryz.sizeOf0
 v0:=Tryz.zeroValue0
 t3:=Tryz.underlying3
 a3:=Tryz.isAgg3
 z3:=Tryz.sizeOf3
 v3:=Tryz.zeroValue3
 t4:=Tryz.underlying4
 a4:=Tryz.isAgg4
 z4:=Tryz.sizeOf4
 v4:=Tryz.zeroValue4
 t5:=Tryz.underlying5
 a5:=Tryz.isAgg5
 z5:=Tryz.sizeOf5
 v5:=Tryz.zeroValue5
 t9:=Tryz.underlying9
 a9:=Tryz.isAgg9
 z9:=Tryz.sizeOf9
 v9:=Tryz.zeroValue9
 t22:=Tryz.underlying104
 a22:=Tryz.isAgg104
 z22:=Tryz.sizeOf104
 v22:=Tryz.zeroValue104
 t25:=Tryz.underlying243
 a25:=Tryz.isAgg243
 z25:=Tryz.sizeOf243
 v25:=Tryz.zeroValue243
 t39:=Tryz.underlying196
 a39:=Tryz.isAgg196
 z39:=Tryz.sizeOf196
 v39:=Tryz.zeroValue196
 t45:=Tryz.underlying256
 a45:=Tryz.isAgg256
 z45:=Tryz.sizeOf256
 v45:=Tryz.zeroValue256
 t46:=Tryz.underlying257
 a46:=Tryz.isAgg257
 z46:=Tryz.sizeOf257
 v46:=Tryz.zeroValue257
 t50:=Tryz.underlying191
 a50:=Tryz.isAgg191
 z50:=Tryz.sizeOf191
 v50:=Tryz.zeroValue191
 t53:=Tryz.underlying263
 a53:=Tryz.isAgg263
 z53:=Tryz.sizeOf263
 v53:=Tryz.zeroValue263
 t55:=Tryz.underlying265
 a55:=Tryz.isAgg265
 z55:=Tryz.sizeOf265
 v55:=Tryz.zeroValue265
 t66:=Tryz.underlying334
 a66:=Tryz.isAgg334
 z66:=Tryz.sizeOf334
 v66:=Tryz.zeroValue334
 t70:=Tryz.underlying338
 a70:=Tryz.isAgg338
 z70:=Tryz.sizeOf338
 v70:=Tryz.zeroValue338
 t76:=Tryz.underlying361
 a76:=Tryz.isAgg361
 z76:=Tryz.sizeOf361
 v76:=Tryz.zeroValue361
 t77:=Tryz.underlying362
 a77:=Tryz.isAgg362
 z77:=Tryz.sizeOf362
 v77:=Tryz.zeroValue362}
end Go.Proofs
namespace Go.Vi
set_option maxRecDepth 100000
set_option maxHeartbeats 4000000
open Go.Sort
def Mh(a b:JZ):Int:=orI (cF a.fI b.fI) (cF a.lm b.lm)
def leA(a b:JZ):Bool:=!(ltOf Mh) b a
theorem GA(a b:JZ):(ltOf Mh) a b=J ↔ a.fI<b.fI\/(a.fI=b.fI/\a.lm<b.lm):=by unfold ltOf Mh orI cF;grind
theorem zK(a b:JZ):(ltOf Mh) a b=N ↔ ¬(a.fI<b.fI\/(a.fI=b.fI/\a.lm<b.lm)):=by rw[<-GA,Bool.not_eq_true]
theorem swoA:SWO (ltOf Mh) where
 irrefl x:=by rw[zK];omega
 trans x y z h1 h2:=by grind [GA]
 ntrans x y z h1 h2:=by grind [zK]
def encA(a:JZ):oR:=[.int zfN a.lm,.int zfN a.fI,.int zfN a.ZO,.int zfN a.Λ,.int zfN a.oA]
abbrev P9(l:iN):List (bY):=l.map λa=>a.row.map .p
abbrev zcs(a:FuncId):Dp:=(.v (.func (.func a) #[] #[]))
theorem Da{h:aT}{b e:Nat}{l:iN}(hb:h[b]?=G (.lk (P9 l) e 5))(hl:l.length<4611686018427387904)(hT:∀x∈l,∀y∈l,x.fI=y.fI->x.lm=y.lm->x=y):Ev S5 mX 164 [mW (.lk b e),.p (zcs 165)] h (JV []) (h.set b (.lk (P9 (l.mergeSort leA)) e 5)) :=nI (α:=JZ) (enc:=encA) (k:=5) (cf:=Mh) pok Tryz.sortAtt Tryz.isAgg170 Tryz.sizeOf170 (λ_=>rfl) (λx v hv=>by simp[encA] at hv;rcases hv with rfl|rfl|rfl|rfl|rfl<;>rfl) swoA Z (λx y=>lb []) hb hl
  (λx hx y hy h1 h2=>by
   grind [zK])
end Go.Vi
open Go Go.Proofs
namespace Go.Vi
set_option maxRecDepth 100000
set_option maxHeartbeats 4000000
structure ZH where
 kind:Int
 sub:Int
 obj:Int
 uR:Int
 til:Int
 deriving Inhabited,DecidableEq
def ZH.row(r:ZH):dO:=[vi r.kind,vi r.sub,vi r.obj,vi r.uR,vi r.til]
abbrev J2(l:List ZH):bv:=l.map ZH.row
theorem Qa(l:List ZH):(ad (J2 l)).all (aL 5)=J:=by rw[TW];intro r hr;obtain⟨x,hx,rfl⟩:=T2.1 hr;obtain⟨y,_,rfl⟩:=T2.1 hx;rfl
abbrev zfl(a b:Nat)(d:kc)(g:Int):bY:=[mW (.lk a b),ab (d.c.map Tc),ab d.p,ab (d.s.map Tj),ab (d.f.map Ta),go g]
abbrev lkH(w:kc)(d5:Int)(rs:List ZH)(e:Nat):aT:=[iI (zfl 1 e w d5),.lk (ad (J2 rs)) e 5]
abbrev ZQ(a:Nat)(b:kc)(d:Int):bY:=[mW (.lk 1 a),ab (S2 Tc b.c),ab b.p,ab (S2 Tj b.s),ab (S2 Ta b.f),go d]
abbrev zdI(a:List ZH):bY:=[mW (J0 0 0),ab (J2 a)]
abbrev zkd(a:List ZH)(b:List (bY)):List (bY):=(ad (J2 a)++b)
theorem Bu{w:kc}{d5:Int}{rs qs:List ZH}(hb:rs.length+qs.length<=1000000000):(Ev S5 uS 167 (zdI qs) (lkH w d5 rs 0) (JV []) (lkH w d5 (rs++qs) 1)):=Tw (yF (h':=[iI (ZQ 1 w d5),.lk (zkd rs (S2 (λx=>S2 D.p x) (J2 qs))) 1 5]) (d:=D.Ρ []) [((by(simp only[Qa,L8,Bool.true_and,Bool.and_eq_true,decide_eq_true_eq,Uw];omega)):(Tq (S2 (λx=>S2 D.p x) (J2 qs)) (aL 5)&&L8 (S7 (ad (J2 rs))+S7 (S2 (λx=>S2 D.p x) (J2 qs))) 40)=J)]) uU uU
abbrev zdg(a:ZH):bY:=[go a.kind,go a.sub,go a.obj,go a.uR,go a.til]
theorem yd{w:kc}{d5:Int}{rs:List ZH}{q:ZH}(hb:rs.length<=999999999):(Ev S5 uS 167 [mW (J0 0 0),mW (.lk 2 0)] (lkH w d5 rs 0++[.lk [(zdg q)] 0 5]) (JV []) (lkH w d5 (rs++[q]) 1++[.lk [(zdg q)] 0 5])):=by let v0:bY:=(zdg q);exact Tw (yF (h':=[iI (ZQ 1 w d5),.lk (ad (J2 rs)++[v0]) 1 5,.lk [v0] 0 5]) (d:=D.Ρ []) [((by subst v0;(simp[aL,D.one,Up,L8];omega)):(Tq [v0] (aL 5)&&L8 (S7 (ad (J2 rs))+S7 [v0]) 40)=J)]) (by subst v0;grind) (by subst v0;(simp only[lkH,J2,ad,Uh];rfl))
def rdN:ZH:=⟨12,0,0,0,1⟩
theorem zL{w:kc}(hw:w.ok){d5:Int}(h:aT):Ev S5 uS 105 [uT w.l,go d5] h (JV [ab (zaQ (af w.f d5)),mW (.lk h.length 0)]) (h++[.lk (ad (J2 [rdN])) 0 5]) :=Tp (qj hw.lf hw.sf h)
def rdT(kk ks ko fI:Int):List ZH:=match zlK fI with
 |true=>[]
 |false=>[⟨kk,ks,ko,fI,S6.wrap (fI+1)⟩]
theorem zM(kk ks ko fI:Int):ic kk ks ko fI=J2 (rdT kk ks ko fI):=by unfold ic rdT;cases zlK fI<;>rfl
theorem fk(kk ks ko fI:Int):(rdT kk ks ko fI).length<=1:=by unfold rdT;grind
theorem jk{w:kc}(hw:w.ok){n fI d5:Int}(h:aT):Ev S5 uS 32 (zbE w n fI d5) h (zg7 w n fI d5 (J2 (rdT 1 n 0 fI))) h:=by rw[<-zM];exact C7 hw h
theorem na{w:kc}(hw:w.ok){fI d5:Int}(h:aT):Ev S5 uS 121 [uT w.l,go fI,go d5] h (JV [ag (bU w fI d5).1.row,ab (J2 (rdT 4 0 0 fI))]) h:=by rw[<-zM];exact C5 hw h
abbrev zct(a b:List ZH):List (bY):=(ad (J2 (a++b)))
noncomputable abbrev zN(w:kc)(d5:Int)(rs:List ZH):aT:=[iI (ZQ 1 w d5),.lk (zct rs [rdN]) 1 5,.lk [(zdg rdN)] 0 5]
noncomputable abbrev zO(w:kc)(d5:Int)(rs:List ZH):aT:=[iI (ZQ 0 w d5),.lk (ad (J2 rs)) 0 5]
abbrev zdv:D:=(mW (J0 0 5))
abbrev zg3:Do:=[δ (zmj 2)]
theorem u6{w:kc}(hw:w.ok){d5:Int}{rs:List ZH}(hb:rs.length<=999999000):(Ev S5 uS 93 za8 (lkH w d5 rs 0) (ab (zaQ (af w.f d5))) (lkH w d5 (rs++[rdN]) 1)):=by let v0:bY:=(ZQ 1 w d5);refine Tw (Yd (d2:=ab (zcd (af w.f d5))) (h2:=[iI v0,.lk (zct rs [rdN]) 1 5]) (φ:=[Tl 2 (iI v0)=J,Tl 2 (.lk (zct rs [rdN]) 1 5)=J]) zg3 (yF (h':=(zN w d5 rs)) (d:=ab (zcd (af w.f d5))) [.c (@zL w hw d5 (zO w d5 rs)),pe zab,pe zcM,pe (TF (TC w)),pe zab,pe zdv,po (Ω d5),.c (@yd w d5 rs rdN ?_)]) Z ⟨rfl,?_,trivial⟩) (by subst v0;grind) (by subst v0;grind)<;>subst v0<;>(first|omega|exact aD _ _)
noncomputable abbrev rO(w:kc)(d5:Int)(rs:List ZH):aT:=[iI (ZQ 0 w d5),.lk (ad (J2 rs)) 0 5,iI zaa,iI zaa]
noncomputable abbrev fQ(w:kc)(d5:Int)(rs:List ZH):aT:=[iI (ZQ 0 w d5),.lk (ad (J2 rs)) 0 5,iI zaa]
abbrev ZC(a:kc)(b e f:Int):bY:=[am (ac a b e f).fst.name,go (ac a b e f).fst.number,go (ac a b e f).fst.oA,go (ac a b e f).fst.rep,go (Te (ac a b e f).fst.Ι).op,go (Te (ac a b e f).fst.Ι).c,am (Te (ac a b e f).fst.Ι).nm,go (Te (ac a b e f).fst.Ι).n,go (Te (ac a b e f).fst.Ι).d,ab (Te (ac a b e f).fst.Ι).ks,go (Te (ac a b e f).fst.bar).op,go (Te (ac a b e f).fst.bar).c,am (Te (ac a b e f).fst.bar).nm,go (Te (ac a b e f).fst.bar).n,go (Te (ac a b e f).fst.bar).d,ab (Te (ac a b e f).fst.bar).ks]
abbrev zbF(a:Nat)(b c:Int):bY:=[mW (J0 a 0),go b,go c]
abbrev zb8(a:List ZH)(b:Nat):F2:=(.lk (ad (J2 a)) b 5)
abbrev zcL(a:List ZH)(b c d:Int):List (bY):=(ad (J2 (a++rdT b c 0 d)))
theorem qO{w:kc}(hw:w.ok){d5 n fI:Int}{rs:List ZH}(hb:rs.length<=999999000):(Ev S5 uS 163 (zbF 0 n fI) (lkH w d5 rs 0) (ag (ac w n fI d5).1.row) (lkH w d5 (rs++rdT 1 n 0 fI) 1)):=by let v0:bY:=(ZQ 1 w d5);refine Tw (Yd (d2:=TF (ZC w n fI d5)) (h2:=[iI v0,.lk (zcL rs 1 n fI) 1 5]) (φ:=[Tl 2 (iI v0)=J,Tl 2 (zb8 (rs++rdT 1 n 0 fI) 1)=J]) zg3 (yF (h':=[iI v0,.lk (zcL rs 1 n fI) 1 5,iI (ZC w n fI d5),iI (ZC w n fI d5)]) (d:=TF (ZC w n fI d5)) [.v (@jk w hw n fI d5 (fQ w d5 rs)),pe zab,pe zab,pe zcM,pe zcM,pe (TF (TC w)),pe (TF (TC w)),pe zab,pe zab,pe zdv,pe zdv,po (Ω d5),po (Ω d5),pr (fQ w d5 rs),(@jk w hw n fI d5 (fQ w d5 rs)),(@jk w hw n fI d5 (rO w d5 rs)),.c ((fX [0,1] (@Bu w d5 rs (rdT 1 n 0 fI) (by subst v0;(have:=fk 1 n 0 fI;omega))) ⟨?_,trivial⟩ ⟨?_,trivial⟩):Ev S5 uS 167 [mW (J0 0 0),ab (J2 (rdT 1 n 0 fI))] [iI (ZQ 0 w d5),.lk (ad (J2 rs)) 0 5,iI zaa,iI (ZC w n fI d5)] (D.Ρ []) [iI v0,.lk (zcL rs 1 n fI) 1 5,iI zaa,iI (ZC w n fI d5)])]) Z ⟨rfl,(by subst v0;exact aD _ _),trivial⟩) (by subst v0;rfl) (by subst v0;grind)<;>subst v0<;>(exact aj _ _)
abbrev zfa(a:List ZH)(b c d:Int):bv:=(J2 (a++[{kind:=5,sub:=b,obj:=c,uR:=0,til:=d}]))
noncomputable abbrev fR(w:kc)(d5:Int)(st:Int)(n:Int)(fI:Int)(rs:List ZH):aT:=[iI (ZQ 1 w d5),.lk (ad (zfa rs st n fI)) 1 5,iI (Z8 5 st n),.lk [[go 5,go st,go n,go 0,go fI]] 0 5]
theorem zP{w:kc}(hw:w.ok){d5 st n fI:Int}{rs:List ZH}(hb:rs.length<=999999000):(Ev S5 uS 162 [mW (J0 0 0),go st,go n,go fI] (lkH w d5 rs 0) (ab ((aH 5 st n 0 fI d5 w.f).map PtT.row)) (lkH w d5 (rs++[⟨5,st,n,0,fI⟩]) 1)):=by let v0:bY:=(ZQ 1 w d5);let v1:=S2 PtT.row (aH 5 st n 0 fI d5 w.f);refine Tw (Yd (d2:=ab v1) (h2:=[iI v0,.lk (ad (zfa rs st n fI)) 1 5]) (φ:=[Tl 2 (iI v0)=J,Tl 2 (zb8 (rs++[{kind:=5,sub:=st,obj:=n,uR:=0,til:=fI}]) 1)=J]) zg3 (yF (h':=(fR w d5 st n fI rs)) (d:=ab v1) [.c ((fX [0,1,3] (@yd w d5 rs ({kind:=5,sub:=st,obj:=n,uR:=0,til:=fI}) (by subst v0 v1;omega)) ⟨?_,?_,trivial⟩ ⟨?_,?_,trivial⟩):Ev S5 uS 167 [mW (J0 0 0),mW (.lk 3 0)] [iI (ZQ 0 w d5),.lk (ad (J2 rs)) 0 5,iI (Z8 5 st n),.lk [[go 5,go st,go n,go 0,go fI]] 0 5] (D.Ρ []) (fR w d5 st n fI rs)),pe zab,pe zab,pe zab,pe zab,pe (TF (Z8 5 st n)),.v (Tp (Γ':=uS) (@iM 5 st n 0 fI d5 (w.f) (by subst v0 v1;exact hw.sf) (fR w d5 st n fI rs)))]) Z ⟨rfl,(by subst v0 v1;exact aD _ _),trivial⟩) (by subst v0 v1;grind) (by subst v0 v1;grind)<;>subst v0 v1<;>(first|rfl|exact aj _ _)
theorem zQ{h:aT}{b e:Nat}{l:iN}(hb:h[b]?=G (.lk (ad (l.map Tb)) e 5))(hl:l.length<4611686018427387904)(hT:∀x∈l,∀y∈l,x.fI=y.fI->x.lm=y.lm->x=y):Ev S5 mX 164 [mW (.lk b e),.p (zcs 165)] h (JV []) (h.set b (.lk (ad ((l.mergeSort leA).map Tb)) e 5)):=by
 have e1:∀l:iN,ad (l.map Tb)=P9 l:=λl=>by simp[ad]
 rw[e1] at hb ⊢;exact Da hb hl hT
abbrev zdm(a:Int):bY:=[go a,mW (.lk 3 0)]
abbrev ofH(w:kc)(d5 st:Int)(rs:List ZH)(ats:iN):aT:=[iI (zfl 1 1 w d5),.lk (ad (J2 rs)) 1 5,iI (zdm st),.lk (ad (ats.map Tb)) 0 5]
abbrev ziy(a:Nat):Nat×D:=(a,mW (J0 2 0))
abbrev zdt:Nat×D:=(ziy 6)
abbrev zhA(a b:Nat):Nat×D:=(a,mW (J0 b 0))
abbrev zdM:Nat×D:=(zhA 0 0)
abbrev oiS(w:kc)(d5 st fI:Int)(ns:bv)(ni n:Int)(ps:bv)(rs:List ZH)(ats:iN)(j:Int):AS :={t:=Bn 67 0 [zdM,(1,go st),(2,go fI),zdt,(8,go n),(16,ab ns),(17,go ns.length),(18,go ni),(26,ab ps),(27,go ps.length),(28,go j)],h:=ofH w d5 st rs ats,m:=[]}
abbrev RA:=List ZH×iN
def zle(p:PtT):Bool:=lL (TY p.value 16>12)||lL (S6.wrap (TR p.value 16)>=7)
def GB(w:kc)(d5 n:Int)(p:PtT):JZ:=⟨n,p.fI,TY p.value 16,S6.wrap (TR p.value 16),(ac w n p.fI d5).1.oA⟩
def ye(w:kc)(d5 n:Int)(s:RA)(p:PtT):RA:=bif zle p then s else (s.1++rdT 1 n 0 p.fI,s.2++[GB w d5 n p])
theorem u7(l:iN)(a b c d e:Int):ad (l.map Tb)++[[go a,go b,go c,go d,go e]]=ad ((l++[JZ.mk a b c d e]).map Tb):=by simp[Tb]
abbrev zae(a b c:Nat)(d:List (bY))(e f g:Nat)(h:F2):Bool:=Tl a (zjv (b+1+1) c (d) e f g h)
abbrev zcl(a:Nat):At:=(G (mW (.lk a 0)))
abbrev zcI(a b:Nat):Nat×D:=(a,go (↑b:Int))
abbrev zdb(a:iN):List (bY):=ad (S2 Tb a)
abbrev zfV:D:=(mW (J0 4 0))
abbrev zhK(a:Nat)(b:List (bY))(c d e:Nat)(f:F2):F2:=(zjv (0+1+1+1) a b c d e (f))
abbrev zjW(a:List ZH)(b c:Int):bv:=(J2 (a++rdT 1 b 0 c))
theorem Qb{w:kc}(hw:w.ok){d5 st fI:Int}{ns:List (List Dp)}{ni n:Int}{ps:List (List Dp)}{rs0 rs:List ZH}{ats:List JZ}{j:Nat}{p:PtT}(hr:ao (j:Int) ps p.row 2)(xD:lL ((j:Int)<(ps.length:Int))=true)(hwr:S6.wrap ((j:Int)+1)=((j+1:Nat):Int))(hb:rs.length<=999998000)(ha:ats.length<=999998000):(CW S5 uS (lkH w d5 rs0 0) false (sub WN 1) (oiS w d5 st fI ns ni n ps rs ats j) .normal (oiS w d5 st fI ns ni n ps (ye w d5 n (rs,ats) p).1 (ye w d5 n (rs,ats) p).2 ((j+1:Nat):Int))):=by
 cases F3:lL (TY p.value 16>12)||lL (S8 S6 (TR p.value 16)>=7)
 ·let v0:List D:=[go n,go p.fI,go (TY p.value 16),go (S8 S6 (TR p.value 16)),go (ac w n p.fI d5).fst.oA]
  let v1:List D:=[.ref (.lk 1 1),ab (S2 Tc w.c),ab w.p,ab (S2 Tj w.s),ab (S2 Ta w.f),go d5]
  let v2:List D:=[.ref (.lk 1 2),ab (S2 Tc w.c),ab w.p,ab (S2 Tj w.s),ab (S2 Ta w.f),go d5]
  refine yX {t:=Bn 67 0 [(0,.ref (.ptr 0 0)),(1,go st),(2,go fI),(6,.ref (.ptr 2 0)),(8,go n),(16,ab ns),(17,go (↑(S7 ns):Int)),(18,go ni),(26,ab ps),(27,go (↑(S7 ps):Int)),(28,go (S8 S6 ((↑j:Int)+1)))],h:=[.var v1,.lk (ad (J2 (rs++rdT 1 n 0 p.fI))) 1 5,.var [go st,.ref (.lk 3 0)],.lk (ad (S2 Tb ats)++[v0]) 0 5],m:=[]} Tr [.st (.mask [0,1,2,6,8,16,17,18,26,27,28]),.st (.ren 1 1),.st (.ren 3 0),.st (.Μ 4)] [.b xD,.r hr,(rfl:(!lL (16=0))=true),(rfl:(!lL (16=0))=true),.b F3,.c ((fX [0,1] (Ev.upX [0,1] (@qO w hw d5 n (p.fI) rs (by subst v0 v1 v2;grind)) (by kernel_rfl) ⟨(by subst v0 v1 v2;exact aj _ _),trivial⟩ ⟨(by subst v0 v1 v2;exact aj _ _),trivial⟩) ⟨(by subst v0 v1 v2;exact aj _ _),trivial⟩ ⟨(by subst v0 v1 v2;exact aj _ _),trivial⟩):Ev S5 uS 163 [.ref (.ptr 0 0),go n,go p.fI] [.var v1,.lk (ad (J2 rs)) 1 5,.var [go st,.ref (.lk 3 0)],.lk (ad (S2 Tb ats)) 0 5,.var [go p.fI,go p.value]] (TF [am (ac w n p.fI d5).fst.name,go (ac w n p.fI d5).fst.number,go (ac w n p.fI d5).fst.oA,go (ac w n p.fI d5).fst.rep,go (Te (ac w n p.fI d5).fst.Ι).op,go (Te (ac w n p.fI d5).fst.Ι).c,am (Te (ac w n p.fI d5).fst.Ι).nm,go (Te (ac w n p.fI d5).fst.Ι).n,go (Te (ac w n p.fI d5).fst.Ι).d,ab (Te (ac w n p.fI d5).fst.Ι).ks,go (Te (ac w n p.fI d5).fst.bar).op,go (Te (ac w n p.fI d5).fst.bar).c,am (Te (ac w n p.fI d5).fst.bar).nm,go (Te (ac w n p.fI d5).fst.bar).n,go (Te (ac w n p.fI d5).fst.bar).d,ab (Te (ac w n p.fI d5).fst.bar).ks]) [.var v2,.lk (ad (J2 (rs++rdT 1 n 0 p.fI))) 2 5,.var [go st,.ref (.lk 3 0)],.lk (ad (S2 Tb ats)) 0 5,.var [go p.fI,go p.value]]),(?_:(Tq [v0] (aL 5)&&L8 (S7 (ad (S2 Tb ats))+S7 [v0]) 40)=true),pe (.ref (.ptr 2 1)),pe (.ref (.ptr 2 1)),pe (.ref (.ptr 2 1)),po (some (.ref (.lk 3 0))),po (some (.ref (.lk 3 0))),po (some (.ref (.lk 3 0))),pe (.ref (.ptr 4 0)),pe (.ref (.ptr 4 0)),po (some (go p.fI)),po (some (go p.fI)),pe (.ref (.ptr 4 0)),po (some (go p.fI)),pe (.ref (.ptr 2 1)),(vM (J2 (rs++rdT 1 n 0 p.fI)) 1 2 1),(vMa (S2 Tb ats) [v0] 1 2 1),pr [v0],(vMa (S2 Tb ats) [v0] 3 1 0),(vM (J2 (rs++rdT 1 n 0 p.fI)) 3 1 0),pr [v0],(rfl:Tl 4 (match 0==3 with|true=>.lk (ad (S2 Tb ats)++[v0]) 0 5|false=>ZK (ar 3 1 0) (match 0==1 with|true=>.lk (ad (J2 (rs++rdT 1 n 0 p.fI))) 1 5|false=>ZK (ar 1 2 1) (.var v2)))=true),(?_:Tl 4 (match 0+1==3 with|true=>.lk (ad (S2 Tb ats)++[v0]) 0 5|false=>ZK (ar 3 1 0) (match 0+1==1 with|true=>.lk (ad (J2 (rs++rdT 1 n 0 p.fI))) 1 5|false=>ZK (ar 1 2 1) (.lk (ad (J2 (rs++rdT 1 n 0 p.fI))) 2 5)))=true),(rfl:Tl 4 (match 0+1+1==3 with|true=>.lk (ad (S2 Tb ats)++[v0]) 0 5|false=>ZK (ar 3 1 0) (match 0+1+1==1 with|true=>.lk (ad (J2 (rs++rdT 1 n 0 p.fI))) 1 5|false=>ZK (ar 1 2 1) (.var [go st,.ref (.lk 3 1)])))=true),(iVa 4 (S2 Tb ats) [v0] 0 5)] (by subst v0 v1 v2;grind) (by subst v0 v1 v2;(have hh:zle p=false:=F3;simp only[hwr,ye,hh,cond_false,u7];first|done|rfl))<;>subst v0 v1 v2<;>(first|exact br|(simp[aL,D.one,Up,L8];omega))
 ·let v0:List D:=[.ref (.lk 1 1),ab (S2 Tc w.c),ab w.p,ab (S2 Tj w.s),ab (S2 Ta w.f),go d5]
  refine yX {t:=Bn 67 0 [(0,.ref (.ptr 0 0)),(1,go st),(2,go fI),(6,.ref (.ptr 2 0)),(8,go n),(16,ab ns),(17,go (↑(S7 ns):Int)),(18,go ni),(26,ab ps),(27,go (↑(S7 ps):Int)),(28,go (S8 S6 ((↑j:Int)+1)))],h:=[.var v0,.lk (ad (J2 rs)) 1 5,.var [go st,.ref (.lk 3 0)],.lk (ad (S2 Tb ats)) 0 5],m:=[]} Tr [.st (.mask [0,1,2,6,8,16,17,18,26,27,28]),.st (.ren 1 1),.st (.ren 3 0),.st (.Μ 4)] [.b xD,.r hr,.b (rfl:(!lL (16=0))=true),(rfl:(!lL (16=0))=true),F3,(?_:S2 (Tz (ar 1 1 1)) (ad (J2 rs))=ad (J2 rs)),(?_:S2 (Tz (ar 1 1 1)) (ad (S2 Tb ats))=ad (S2 Tb ats)),(?_:S2 (Tz (ar 3 0 0)) (ad (S2 Tb ats))=ad (S2 Tb ats)),(?_:S2 (Tz (ar 3 0 0)) (ad (J2 rs))=ad (J2 rs)),(rfl:Tl 4 (match 0==3 with|true=>.lk (ad (S2 Tb ats)) 0 5|false=>ZK (ar 3 0 0) (match 0==1 with|true=>.lk (ad (J2 rs)) 1 5|false=>ZK (ar 1 1 1) (.var v0)))=true),(?_:Tl 4 (match 0+1==3 with|true=>.lk (ad (S2 Tb ats)) 0 5|false=>ZK (ar 3 0 0) (match 0+1==1 with|true=>.lk (ad (J2 rs)) 1 5|false=>ZK (ar 1 1 1) (.lk (ad (J2 rs)) 1 5)))=true),(rfl:Tl 4 (match 0+1+1==3 with|true=>.lk (ad (S2 Tb ats)) 0 5|false=>ZK (ar 3 0 0) (match 0+1+1==1 with|true=>.lk (ad (J2 rs)) 1 5|false=>ZK (ar 1 1 1) (.var [go st,.ref (.lk 3 0)])))=true),(?_:Tl 4 (match 0+1+1+1==3 with|true=>.lk (ad (S2 Tb ats)) 0 5|false=>ZK (ar 3 0 0) (match 0+1+1+1==1 with|true=>.lk (ad (J2 rs)) 1 5|false=>ZK (ar 1 1 1) (.lk (ad (S2 Tb ats)) 0 5)))=true)] (by subst v0;grind) (by subst v0;(have hh:zle p=true:=F3;simp[hwr,ye,hh];first|done|rfl))<;>subst v0<;>(first|exact aB _ _|exact br)
abbrev zco(a b:Int)(c:bv)(d:D)(e:Int):List (Nat×D):=[(zhA 0 0),(1,go a),(2,go b),(ziy 6),(16,ab c),(17,d),(18,go e)]
theorem Qc{w:kc}{d5 st fI:Int}{ns:bv}{ni n:Int}{ps:bv}{rs0 rs:List ZH}{ats:iN}{j:Nat}(xD:lL ((j:Int)<(ps.length:Int))=N):(CW S5 uS (lkH w d5 rs0 0) N (sub WN 1) (oiS w d5 st fI ns ni n ps rs ats j) (η 2) {t:=Bn 67 0 (zco st fI ns (go ns.length) ni),h:=ofH w d5 st rs ats,m:=[]}):=yx [δ (τ [0,1,2,6,16,17,18])] [.b xD]
theorem Bw{w:kc}{d5 n:Int}{s:RA}(p:PtT):(ye w d5 n s p).1.length<=s.1.length+1/\(ye w d5 n s p).2.length<=s.2.length+1:=by
 unfold ye;cases zle p;·have:=fk 1 n 0 p.fI;simp;omega
 ·simp
theorem oi_cw{w:kc}(hw:w.ok){d5 st fI:Int}{ns:bv}{ni n:Int}{ps:List PtT}(hp:ps.length<=2000){rs0 rs:List ZH}{ats:iN}(hb:rs.length<=999990000)(ha:ats.length<=999990000):CW S5 uS (lkH w d5 rs0 0) false (.loop (sub WN 1)) (oiS w d5 st fI ns ni n (ps.map PtT.row) rs ats 0) (.exit 2) {t:=Bn 67 0 (zco st fI ns (go ns.length) ni),h:=ofH w d5 st (ps.foldl (ye w d5 n) (rs,ats)).1 (ps.foldl (ye w d5 n) (rs,ats)).2,m:=[]}:=by
 have hl:ah ps:=by unfold ah;omega
 have:=UR (P:=S5) (Γ:=uS) (h0:=lkH w d5 rs0 0) (rd:=false) (c:=sub WN 1) (σ:=RA) (ρ:=Empty) ps (λp s=>.inl (ye w d5 n s p))
  (λj s=>oiS w d5 st fI ns ni n (ps.map PtT.row) s.1 s.2 (j:Int)) (.exit 2) (λs=>{t:=Bn 67 0 (zco st fI ns (go ns.length) ni),h:=ofH w d5 st s.1 s.2,m:=[]}) (λr=>r.elim)
  (λj s=>s.1.length<=rs.length+j/\s.2.length<=ats.length+j) (by simp) (λr=>r.elim) ?_ ?_ (rs,ats) (by simp)
 ·rw[aM] at this;exact this
 ·intro j p s hpj hs;have hi:=(Td.1 hpj).1;refine⟨λs' h=>by cases h;have:=Bw (w:=w) (d5:=d5) (n:=n) (s:=s) p;omega,Qb hw (rowAt hpj rfl) (κ _ hi) (J3 hi hl) (by omega) (by omega)⟩
 ·intro s _;exact Qc (aR _ ps)
theorem dq{kk ks ko uR to d5:Int}{l:AT}:(aH kk ks ko uR to d5 l).length<=1024:=by
 have key:∀(rs:bV) (ns:iS) (l:List PtT),(ns.foldl (λl n=>ptF (rs.getD n 0) n l) l).length<=l.length+ns.length:=by
  intro rs ns;induction ns with
  |nil=>intro l;simp
  |cons n ns ih=>intro l;have:=ih (ptF (rs.getD n 0) n l);have h2:=Gy (rs.getD n 0) n l;grind
 unfold aH Kg;refine Vj (key _ _ _) ?_;have:vF to<=1024:=by unfold vF;split<;>omega
 simp only[List.length_nil,Zx];have:0<=Mg uR:=Gz uR;omega
abbrev ooS(w:kc)(d5 st fI:Int)(ns:bv)(rs:List ZH)(ats:iN)(i:Int):AS :={t:=Bn 67 0 (zco st fI ns (go ns.length) i),h:=ofH w d5 st rs ats,m:=[]}
def ii(w:kc)(d5 st fI:Int)(s:RA)(n:Int):RA:=(aH 5 st n 0 fI d5 w.f).foldl (ye w d5 n) (s.1++[⟨5,st,n,0,fI⟩],s.2)
noncomputable abbrev Db(w:kc)(d5:Int)(st:Int)(rs:List ZH)(ats:iN):aT:=[iI (ZQ 1 w d5),.lk (ad (J2 rs)) 1 5,iI (zdm st),.lk (zdb ats) 0 5]
theorem Qd{w:kc}(hw:w.ok){d5 st fI:Int}{ns:List (List Dp)}{n:Int}{rs0 rs:List ZH}{ats:List JZ}{i:Nat}(hr:ao (i:Int) ns [vi n] 1)(xD:lL ((i:Int)<(ns.length:Int))=true)(hwr:S6.wrap ((i:Int)+1)=((i+1:Nat):Int))(hb:rs.length<=999980000)(ha:ats.length<=999980000):(CW S5 uS (lkH w d5 rs0 0) false (sub WN 0) (ooS w d5 st fI ns rs ats i) .normal (ooS w d5 st fI ns (ii w d5 st fI (rs,ats) n).1 (ii w d5 st fI (rs,ats) n).2 ((i+1:Nat):Int))):=by
 have Pq:=(@oi_cw (w) (hw) (d5) (st) (fI) (ns) ((↑i:Int)) (n) (aH 5 st n 0 fI d5 w.f) (by first|assumption|rfl|omega|exact aB _ _|exact Vj dq (by omega)|(simp;omega)) (rs0) (rs++[{kind:=5,sub:=st,obj:=n,uR:=0,til:=fI}]) (ats) (by grind) (by grind))
 let v0:=TE (ye w d5 n) (rs++[{kind:=5,sub:=st,obj:=n,uR:=0,til:=fI}],ats) (aH 5 st n 0 fI d5 w.f)
 refine yX {t:=Bn 67 0 [(0,.ref (.ptr 0 0)),(1,go st),(2,go fI),(6,.ref (.ptr 2 0)),(16,ab ns),(17,go (↑(S7 ns):Int)),(18,go (S8 S6 ((↑i:Int)+1)))],h:=[.var [.ref (.lk 1 1),ab (S2 Tc w.c),ab w.p,ab (S2 Tj w.s),ab (S2 Ta w.f),go d5],.lk (ad (J2 v0.fst)) 1 5,.var [go st,.ref (.lk 3 0)],.lk (ad (S2 Tb v0.2)) 0 5],m:=[]} Tr [.st (.mask [0,1,2,6,16,17,18])] [.b xD,.r hr,.c ((fX [0,1] (Ev.upX [0,1] (@zP w hw d5 st n fI rs (by subst v0;grind)) (by kernel_rfl) ⟨?_,trivial⟩ ⟨?_,trivial⟩) ⟨?_,trivial⟩ ⟨?_,trivial⟩):Ev S5 uS 162 [.ref (.ptr 0 0),go st,go n,go fI] (Db w d5 st rs ats) (ab (S2 PtT.row (aH 5 st n 0 fI d5 w.f))) [.var [.ref (.lk 1 2),ab (S2 Tc w.c),ab w.p,ab (S2 Tj w.s),ab (S2 Ta w.f),go d5],.lk (ad (J2 (rs++[{kind:=5,sub:=st,obj:=n,uR:=0,til:=fI}]))) 2 5,.var [go st,.ref (.lk 3 0)],.lk (ad (S2 Tb ats)) 0 5]),(vM (J2 (rs++[{kind:=5,sub:=st,obj:=n,uR:=0,til:=fI}])) 1 2 1),(vM (S2 Tb ats) 1 2 1),.o (.ren 1 1),.s [0,1,2,6,8,16,17,18,26,27,28] Pq] (by subst v0;grind) (by subst v0;(simp only[hwr];rfl))<;>subst v0<;>(exact aj _ _)
theorem Qe{w:kc}{d5 st fI:Int}{ns:bv}{rs0 rs:List ZH}{ats:iN}{i:Nat}(xD:lL ((i:Int)<(ns.length:Int))=N):(CW S5 uS (lkH w d5 rs0 0) N (sub WN 0) (ooS w d5 st fI ns rs ats i) (η 0) {t:=Bn 67 0 [zdt],h:=ofH w d5 st rs ats,m:=[]}):=yx (zeI 6) [.b xD]
theorem tq{w:kc}{d5 n:Int}:∀(ps:List PtT) (s:RA),(ps.foldl (ye w d5 n) s).1.length<=s.1.length+ps.length/\(ps.foldl (ye w d5 n) s).2.length<=s.2.length+ps.length
 | [],s=>F1
 |p::ps,s=>by have h1:=Bw (w:=w) (d5:=d5) (n:=n) (s:=s) p;have h2:=tq (w:=w) (d5:=d5) (n:=n) ps (ye w d5 n s p);grind
theorem GC{w:kc}{d5 st fI:Int}(s:RA)(n:Int):(ii w d5 st fI s n).1.length<=s.1.length+1025/\(ii w d5 st fI s n).2.length<=s.2.length+1024:=by unfold ii;have h1:=tq (w:=w) (d5:=d5) (n:=n) (aH 5 st n 0 fI d5 w.f) (s.1++[⟨5,st,n,0,fI⟩],s.2);have h2:=dq (kk:=5) (ks:=st) (ko:=n) (uR:=0) (to:=fI) (d5:=d5) (l:=w.f);grind
theorem oo_g{w:kc}(hw:w.ok){d5 st fI:Int}{ns:bV}(hn:ns.length<=69000){rs0 rs:List ZH}(hb:rs.length<=800000000){ats:iN}(ha:ats.length<=1000):CW S5 uS (lkH w d5 rs0 0) false (.loop (sub WN 0)) (ooS w d5 st fI (zaQ ns) rs ats 0) (.exit 0) {t:=Bn 67 0 [zdt],h:=ofH w d5 st (ns.foldl (ii w d5 st fI) (rs,ats)).1 (ns.foldl (ii w d5 st fI) (rs,ats)).2,m:=[]}:=by
 have hl:ah ns:=by unfold ah;omega
 have:=UR (P:=S5) (Γ:=uS) (h0:=lkH w d5 rs0 0) (rd:=false) (c:=sub WN 0) (σ:=RA) (ρ:=Empty) ns (λn s=>.inl (ii w d5 st fI s n))
  (λi s=>ooS w d5 st fI (zaQ ns) s.1 s.2 (i:Int)) (.exit 0) (λs=>{t:=Bn 67 0 [zdt],h:=ofH w d5 st s.1 s.2,m:=[]}) (λr=>r.elim)
  (λi s=>s.1.length<=rs.length+i*1025/\s.2.length<=ats.length+i*1025) (by simp) (λr=>r.elim) ?_ ?_ (rs,ats) (by simp)
 ·rw[aM] at this;exact this
 ·intro i n s hni hs;have hi:=(Td.1 hni).1;refine⟨λs' h=>by cases h;have:=GC (w:=w) (d5:=d5) (st:=st) (fI:=fI) s n;omega,Qd hw (rowAt (row:=λn=>[vi n]) hni rfl) (κ (λn=>[vi n]) hi) (J3 hi hl) (by omega) (by omega)⟩
 ·intro s _;exact Qe (aR (λn=>[vi n]) ns)
theorem oo_cw{w:kc}(hw:w.ok){d5 st fI:Int}{ns:bV}(hn:ns.length<=69000){rs0 rs:List ZH}(hb:rs.length<=800000000):CW S5 uS (lkH w d5 rs0 0) false (.loop (sub WN 0)) (ooS w d5 st fI (zaQ ns) rs [] 0) (.exit 0) {t:=Bn 67 0 [zdt],h:=ofH w d5 st (ns.foldl (ii w d5 st fI) (rs,[])).1 (ns.foldl (ii w d5 st fI) (rs,[])).2,m:=[]}:=oo_g hw hn hb (by simp)
def H1(w:kc)(d5 st fI:Int)(rs:List ZH):RA:=(af w.f d5).foldl (ii w d5 st fI) (rs++[rdN],[])
def zR(w:kc)(d5 st fI:Int)(rs:List ZH):iN:=(H1 w d5 st fI rs).2.mergeSort leA
theorem bF{fs:AT}{d5:Int}:(af fs d5).length<=fs.length:=by have:=jS (many:=sM fs d5) fs [];simp at this;unfold af EQ;simpa using this
noncomputable abbrev Qf(w:kc)(d5:Int)(st:Int)(fI:Int)(rs:List ZH):aT:=[iI (ZQ 1 w d5),.lk (ad (J2 (TE (ii w d5 st fI) (rs++[rdN],[]) (af w.f d5)).fst)) 1 5,iI (zdm st),.lk (zdb ((TE (ii w d5 st fI) (rs++[rdN],[]) (af w.f d5)).2)) 0 5]
noncomputable abbrev Qg(w:kc)(d5:Int)(st:Int)(fI:Int)(rs:List ZH):aT:=[iI (ZQ 1 w d5),.lk (ad (J2 (TE (ii w d5 st fI) (rs++[rdN],[]) (af w.f d5)).fst)) 1 5,iI (zdm st),.lk (zdb (UF (H1 w d5 st fI rs).2 leA)) 0 5]
abbrev zib(a b c:Nat)(d:bv)(e:F2):F2:=(match a==b with|true=>.ν|false=>ZK (cw b c d) (e))
theorem of_a{w:kc}(hw:w.ok){d5 st fI:Int}{rs:List ZH}(hb:rs.length<=700000000)(hn:(af w.f d5).length<=69000)(hl:(H1 w d5 st fI rs).2.length<4611686018427387904)(hT:∀x∈(H1 w d5 st fI rs).2,∀y∈(H1 w d5 st fI rs).2,x.fI=y.fI->x.lm=y.lm->x=y):(Ev S5 uS 91 (zbF 0 st fI) (lkH w d5 rs 0) (uT [go st,ab ((zR w d5 st fI rs).map Tb)]) (lkH w d5 (H1 w d5 st fI rs).1 1)):=by have Pq:=(@oo_cw (w) (hw) (d5) (st) (fI) (af w.f d5) (hn) (rs) (rs++[rdN]) uU);let v0:bY:=(ZQ 1 w d5);let v1:=S2 Tb (zR w d5 st fI rs);let v2:=TE (ii w d5 st fI) (rs++[rdN],[]) (af w.f d5);refine Tw (Yd (d2:=TF [go st,ab v1]) (h2:=[iI v0,.lk (ad (J2 v2.fst)) 1 5]) (φ:=[(zdb (UF (H1 w d5 st fI rs).2 leA))=S2 (λx=>S2 D.p x) v1,S2 (Tz (cw 3 0 v1)) (ad (J2 v2.fst))=ad (J2 v2.fst),Tl 2 (zib 0 3 0 v1 (iI v0))=J,Tl 2 (match 0+1==3 with|true=>.ν|false=>ZK (cw 3 0 v1) (.lk (ad (J2 v2.fst)) 1 5))=J]) [δ (zed 3 v1),δ (zmj 2)] (yF (h':=(Qg w d5 st fI rs)) (d:=TF (zdm st)) [.c ((fX [0,1] (@u6 w hw d5 rs (by subst v0 v1 v2;grind)) ⟨(by subst v0 v1 v2;exact aj _ _),trivial⟩ ⟨(by subst v0 v1 v2;exact aj _ _),trivial⟩):Ev S5 uS 93 za8 [iI (ZQ 0 w d5),.lk (ad (J2 rs)) 0 5,iI [go st,nq]] (ab (zcd (af w.f d5))) [iI v0,.lk (zct rs [rdN]) 1 5,iI [go st,nq]]),.o (.zjT 2 1 5),.s [0,1,2,6,16,17,18] Pq,.c (Tp (Γ':=uS) (@zQ (Qf w d5 st fI rs) 3 0 ((H1 w d5 st fI rs).2) ?_ hl hT))]) Z ⟨?_,?_,rfl,?_,trivial⟩) ο ο<;>subst v0 v1 v2<;>(first|rfl|exact aB _ _|exact br)
def ptO(rs:bV)(n:Nat):Option PtT:=bif lL (rs.getD n 0>=0) then G ⟨(n:Int),rs.getD n 0⟩ else Y
theorem GD(rs:bV)(x to:Int):Kg rs x to=(US x.toNat (vF to-x).toNat).filterMap (ptO rs):=by
 have key:∀(ns:iS) (l:List PtT),ns.foldl (λl n=>ptF (rs.getD n 0) n l) l=l++ns.filterMap (ptO rs):=by
  intro ns;induction ns with
  |nil=>intro l;simp
  |cons n ns ih=>intro l;rw[TG,ih,X1];grind [ptF,ptO]
 unfold Kg;rw[key];simp
theorem Qh{rs:bV}{x to:Int}:(Kg rs x to).Pairwise λp q=>p.fI<q.fI:=by rw[GD];refine List.Pairwise.filterMap (R:=λa b=>a<b) (ptO rs) ?_ (List.pairwise_lt_range' ..);intro a b hab p hp q hq;unfold ptO at hp hq;grind
theorem Dc{kk ks ko uR to d5:Int}{l:AT}:(aH kk ks ko uR to d5 l).Pairwise λp q=>p.fI<q.fI:=Qh
def Mi(w:kc)(d5 n:Int)(p:PtT):Option JZ:=bif zle p then Y else G (GB w d5 n p)
def rdO(n:Int)(p:PtT):List ZH:=bif zle p then [] else rdT 1 n 0 p.fI
theorem yf(w:kc)(d5 n:Int):∀(ps:List PtT) (s:RA),ps.foldl (ye w d5 n) s=(s.1++ps.flatMap (rdO n),s.2++ps.filterMap (Mi w d5 n))
 | [],s=>F1
 |p::ps,s=>by rw[TG,yf w d5 n ps,X1,Yl];grind [ye,Mi,rdO]
abbrev zS(w:kc)(d5 st fI n:Int):List PtT:=aH 5 st n 0 fI d5 w.f
def co(w:kc)(d5 st fI n:Int):List ZH:=⟨5,st,n,0,fI⟩::(zS w d5 st fI n).flatMap (rdO n)
def er(w:kc)(d5 st fI n:Int):iN:=(zS w d5 st fI n).filterMap (Mi w d5 n)
theorem ztw(w:kc)(d5 st fI:Int)(s:RA)(n:Int):ii w d5 st fI s n=(s.1++co w d5 st fI n,s.2++er w d5 st fI n):=by grind [yf,co,er,ii]
theorem zT(w:kc)(d5 st fI:Int)(rs:List ZH):H1 w d5 st fI rs=(rs++rdN::(af w.f d5).flatMap (co w d5 st fI),(af w.f d5).flatMap (er w d5 st fI)):=by
 have key:∀(ns:bV) (s:RA),ns.foldl (ii w d5 st fI) s=(s.1++ns.flatMap (co w d5 st fI),s.2++ns.flatMap (er w d5 st fI)):=by
  intro ns;induction ns with
  |nil=>intro s;simp
  |cons n ns ih=>intro s;rw[TG,ih,ztw];simp
 unfold H1;rw[key];simp
def ba(w:kc)(d5 st fI:Int):List ZH:=rdN::(af w.f d5).flatMap (co w d5 st fI)
def jC(w:kc)(d5 st fI:Int):iN:=(af w.f d5).flatMap (er w d5 st fI)
def gU(w:kc)(d5 st fI:Int):iN:=(jC w d5 st fI).mergeSort leA
theorem lu{w:kc}{d5 st fI n:Int}{a:JZ}(h:a∈er w d5 st fI n):a.lm=n/\∃p∈zS w d5 st fI n,zle p=N/\a=GB w d5 n p:=by unfold er at h;obtain⟨p,hp,he⟩:=List.mem_filterMap.1 h;unfold Mi at he;cases hb:zle p<;>rw[hb] at he<;>simp at he;subst he;exact⟨rfl,p,hp,hb,rfl⟩
theorem Ki{w:kc}{d5 st fI:Int}:∀x∈jC w d5 st fI,∀y∈jC w d5 st fI,x.fI=y.fI->x.lm=y.lm->x=y:=by
 intro x hx y hy ht hc;obtain⟨n,hn,hx⟩:=Yu.1 hx;obtain⟨n',hn',hy⟩:=Yu.1 hy;obtain⟨e1,p,hp,_,rfl⟩:=lu hx;obtain⟨e2,q,hq,_,rfl⟩:=lu hy;have:n=n':=by rw[<-e1,<-e2,hc]
 subst this;have hpq:p=q:=by
  have hinc:=Dc (kk:=5) (ks:=st) (ko:=n) (uR:=0) (to:=fI) (d5:=d5) (l:=w.f);have key:∀(l:List PtT),l.Pairwise (λp q=>p.fI<q.fI)->∀p∈l,∀q∈l,p.fI=q.fI->p=q:=by
   intro l;induction l with
   |nil=>grind
   |cons a l ih=>intro hl p hp q hq e;rw[List.pairwise_cons] at hl;grind
  exact key _ hinc p hp q hq ht
 rw[hpq]
theorem fm{α β:Type}(f:α->List β)(k:Nat):∀l:List α,(∀a∈l,(f a).length<=k)->(l.flatMap f).length<=l.length*k
 | [],_=>by simp
 | a::l,h=>by have:=fm f k l (λb hb=>h b (by simp[hb]));grind [List.length_append,Ue,Nat.add_mul]
theorem tt{w:kc}(hw:w.ok){d5 st fI:Int}:(jC w d5 st fI).length<=70656000:=by have h1:=fm (er w d5 st fI) 1024 (af w.f d5) (λn _=>Vj (List.length_filterMap_le ..) dq);have h2:=bF (fs:=w.f) (d5:=d5);have h3:=hw.lf;grind [jC]
theorem zU{w:kc}{d5 st fI n:Int}:(co w d5 st fI n).length<=1025:=by unfold co;have h1:=fm (rdO n) 1 (zS w d5 st fI n) (λp _=>by unfold rdO;grind [fk]);have h2:=dq (kk:=5) (ks:=st) (ko:=n) (uR:=0) (to:=fI) (d5:=d5) (l:=w.f);grind
theorem iO{w:kc}(hw:w.ok){d5 st fI:Int}:(ba w d5 st fI).length<=70725001:=by have h1:=fm (co w d5 st fI) 1025 (af w.f d5) (λn _=>zU);have h2:=bF (fs:=w.f) (d5:=d5);have h3:=hw.lf;grind [Ue,ba]
abbrev zfj(a:Int)(b:bv):bY:=[go a,ab b]
theorem Kj{w:kc}(hw:w.ok){d5 st fI:Int}{rs:List ZH}(hb:rs.length<=700000000):Ev S5 uS 91 (zbF 0 st fI) (lkH w d5 rs 0) (uT (zfj st ((gU w d5 st fI).map Tb))) (lkH w d5 (rs++ba w d5 st fI) 1):=by have h:=of_a hw (d5:=d5) (st:=st) (fI:=fI) hb (Vj bF hw.lf) (by rw[zT];have:=tt hw (d5:=d5) (st:=st) (fI:=fI);grind [jC]) (by rw[zT];exact Ki);unfold zR at h;rw[zT] at h;exact h
end Go.Vi
