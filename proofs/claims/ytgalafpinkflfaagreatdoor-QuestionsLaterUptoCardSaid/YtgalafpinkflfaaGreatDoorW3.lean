/- A part of the proof; no conditions of its own. -/
import Derived.Test.YtgalafpinkflfaaGreatDoorW2
import Derived.Shelf.SlSortCmp.NoneTotal
import Derived.Sort.EveryDepth
import Derived.Ground.SlsfProg
open Bool renaming true->J,false->N
open Option renaming some->G,none->Y
open Go.Vi.η renaming st->E6,ov->zfG,inl->Τ
open Go.Exit renaming normal->w8,exit->EY
open Go.Vi.D renaming Pp->uN,agg->mS,ref->gM
open Go.LoopState renaming exhausted->zca,ready->EV
open Go.Vi.SOp renaming frz->Λ,P1->zlw,mask->IW
open Go.Vi.ql renaming var->eP,loop->Js,δ->NH
open Go.IntKind renaming i64->Χ
open Go.Vi.Ref renaming ptr->qn
open Decidable renaming decide -> fE
open List renaming range' -> US, flatten_cons -> W6, mem_map -> T2, length -> S7, flatten -> Tv, getElem?_eq_some_iff -> Td, foldl -> TE, map -> S2, set -> UE, range -> T1, getD -> Th, getElem?_eq_getElem -> TH, length_map -> Uw, all_eq_true -> TW, replicate -> Ti, map_cons -> U5, map_append -> Uh, all -> Tq, length_range' -> Zx, getElem?_append_left -> Ul, getElem?_append_right -> T8, length_cons -> Ue, ext_getElem? -> Wx, mergeSort_perm -> X0, mergeSort -> UF, foldl_cons -> TG, filterMap_cons -> X1, flatMap_cons -> Yl, mem_flatMap -> Yu
open Go.Vi.VS renaming ok -> YY
open Go.Proofs.Tryz renaming prog -> S5, f251 -> Xo, f127 -> TV, f60 -> Za, f91 -> WN
open Go.Vi.D renaming zbk -> TL, fn -> UL, agg -> TF, θ -> Tz
open Go.Vi.ql renaming inn -> Tl
open Go.IntKind renaming i64 -> S6, wrap -> S8
open Go.LoopState renaming ready -> TJ, exhausted -> Uu
open Go.Fn renaming func -> TM
open Go.Exit renaming normal -> Tr
open Go.Value renaming tuple -> VZ, oneCell' -> Up
open Go.Vi.qH renaming row -> Ta
open Go.Vi.CW renaming each -> UR
open Go.Vi.Ev renaming zkJ -> Tw, zkr -> Tp, post -> Yd
open Int renaming toNat -> S9, tmod -> TY, tdiv -> TR
open Option renaming some -> Vs
open Go.Sort renaming grow -> WU, heap_grow_old -> VT, putRow -> Un, mapBlock -> Ur, ahead -> Uz, putCells -> UW
open Go.World renaming cell? -> Xh
open Array renaming getElem?_modify -> Xx, getElem?_eq_some_iff -> V8, getElem?_toList -> Uo, extract_size -> Zp
open Go.Calls renaming mono -> Xp
open Go.Proofs.SlLaysF0 renaming n6 -> Yt
open Go.Vi.uT renaming row -> Tc
open Go.Vi.Β renaming row -> Tj
open Go.Vi.eQ renaming l -> TC
open Go.Vi.oz renaming fl -> Te
open Go.Vi.uS renaming row -> Tb
open Nat renaming le_trans -> Vj
open Go Go.Proofs
namespace Go.Vi
set_option maxRecDepth 100000
set_option maxHeartbeats 4000000
abbrev Of:=List Β
abbrev IF:=List uT
def PY(f:qH):Int:=if J=J then if f.lk>0 then f.lk else 0 else if f.lk<0 then f.lk else 0
def vaF(f:qH)(s:VS):VS:=Ka f (PY f) s
theorem PZ{f:qH}{x:Int}{s:VS}(h:s.ok):(Ka f x s).ok:=by
 unfold Ka;generalize US x.toNat (C8 f-x).toNat=l;induction l generalizing s with
 |nil=>exact h
 |cons n l ih=>exact ih (zlA n h)
theorem P0{kk ks ko bO:Int}{fs:bv}{rs:bY}{uR:AT}{G:Bv}(ho:YY (uR,G)){f:qH}:Iv S5 ji (gM (.yl 8)) [ag f.row] (vaH kk ks ko bO fs rs uR G EV (ziT f)) (eR J) (vaH kk ks ko bO fs rs (vaF f (uR,G)).1 (vaF f (uR,G)).2 EV (zbg f)) :=Iv.round (h1:=vaH kk ks ko bO fs rs uR G EV (zbg f)) rfl rfl va_asg rfl (PX ho) rfl
def zdU(kk ks ko bO:Int)(s:VS)(f:qH):VS:=bif zlF kk ks ko bO f then vaF f s else s
theorem lr{n:Nat}:∀{es:List (bY)},(∀r∈es,TL n r=J)->TL n es.flatten=J
 | [],_=>rfl
 |e::es,h=>by
  have key:∀(xs ys:bY),TL n xs=J->TL n ys=J->TL n (xs++ys)=J:=by
   intro xs ys h1 h2;induction xs with
   |nil=>exact h2
   |cons x xs ih=>simp[TL] at h1 ⊢;grind
  rw[W6];exact key _ _ (h e qk) (lr λr hr=>h r (by simp[hr]))
theorem u0{n:Nat}{l:AT}:Tl n (eP (zg6 l))=J:=lr λr hr=>by obtain⟨_,_,rfl⟩:=T2.1 hr;rfl
theorem u3{n:Nat}{l:Bv}:Tl n (eP (ey l).flatten)=J:=lr λr hr=>by obtain⟨_,_,rfl⟩:=T2.1 hr;rfl
abbrev zbC(a:bV):bY:=(bP a).flatten
theorem qL{n:Nat}{l:bV}:Tl n (eP (zbC l))=J:=lr λr hr=>by obtain⟨_,_,rfl⟩:=T2.1 hr;rfl
abbrev zfm(a:Int):ql:=(eP [eO a])
theorem vo_body{kk ks ko bO:Int}{fs:List (List Dp)}{rs:List Int}{uR b0:List qH}{some s0:List Bool}(ho:YY (uR,some)){f:qH}{i:Nat}(hr:ao (i:Int) fs f.row 8)(oA:fE ((i:Int)<(fs.length:Int))=true)(hw:S6.wrap ((i:Int)+1)=((i+1:Nat):Int)):(CW S5 ji (vaH kk ks ko bO fs (bP rs).flatten b0 s0 .ready []) false (sub Xo 0) {t:=ofT fs i,h:=vaH kk ks ko bO fs (bP rs).flatten uR some .ready [],m:=[]} .normal {t:=ofT fs ((i+1:Nat):Int),h:=vaH kk ks ko bO fs (bP rs).flatten (zdU kk ks ko bO (uR,some) f).1 (zdU kk ks ko bO (uR,some) f).2 .ready [],m:=[]}):=by
 let r:=(rfl:false=false)
 let A:List η:=[.st (.mask [0,1,2,3,7,8,9]),.st (.P1 9)]
 let k:=bi 9 (.var [eO kk,eO ks,eO ko])
 let B(a:List qH)(b:List Bool):List Stp:=[k,qL (n:=9) (l:=rs),u0 (n:=9) (l:=a),u3 (n:=9) (l:=b),bi 9 (.var [ab fs]),k,bi 9 (.var [eO bO]),bi 9 .δ,bi 9 (vaL .ready)]
 rw[<-hw]
 cases sR:f.kind==kk&&(f.sub==ks&&(f.obj==ko&&true))
 ·simp only[zdU,zlF,Cx,sR,Bool.false_and,cond_false];exact yx A ([.b oA,.r hr]++zGn 4 sR++zCf 22 sR++zGn 4 r++zCf 28 r++[.b r]++B uR some)
 cases Jw:fE (f.bO<=bO)
 ·simp only[zdU,zlF,Jw,Bool.and_false,cond_false];exact yx A ([.b oA,.r hr]++zGn 4 sR++zCt 22 sR (fE (f.bO<=bO))++zGn 4 Jw++zCf 28 Jw++[.b r]++B uR some)
 simp only[zdU,zlF,Cx,sR,Jw,Bool.and_self,cond_true];exact yx A ([.b oA,.r hr]++zGn 4 sR++zCt 22 sR (fE (f.bO<=bO))++zGn 3 Jw++[.j (@P0 kk ks ko bO fs (Tv (bP rs)) uR some ho f)]++zGn 1 Jw++zCt 28 Jw (!true)++[.b (rfl:(!true)=false)]++B (vaF f (uR,some)).1 (vaF f (uR,some)).2)
theorem P5{kk ks ko bO:Int}{fs:bv}{rs:bV}{uR b0:AT}{G s0:Bv}{i:Nat}(oA:fE ((i:Int)<(fs.length:Int))=N):(CW S5 ji (vaH kk ks ko bO fs (zbC rs) b0 s0 EV []) N (sub Xo 0) {t:=ofT fs i,h:=vaH kk ks ko bO fs (zbC rs) uR G EV [],m:=[]} (EY 0) {t:=qm 30 0 [],h:=vaH kk ks ko bO fs (zbC rs) uR G EV [],m:=[]}):=yx zbN [.b oA]
theorem znM{kk ks ko bO:Int}{s:VS}(f:qH)(h:s.ok):(zdU kk ks ko bO s f).ok:=by
 unfold zdU;cases zlF kk ks ko bO f;·exact h
 ·exact PZ h
noncomputable abbrev ziG(a b c d:Int)(e:AT)(f:bV)(g:AT)(h:Bv)(i:LoopState):aT:=vaH a b c d (e.map Ta) (zbC f) (e.foldl (zdU a b c d) (g,h)).1 (e.foldl (zdU a b c d) (g,h)).2 i []
theorem vo_cw{kk ks ko bO:Int}{l:AT}(hl:ah l){rs:bV}{b0:AT}{s0:Bv}(ho:YY (b0,s0)):CW S5 ji (vaH kk ks ko bO (l.map Ta) (zbC rs) b0 s0 .ready []) false (.loop (sub Xo 0)) {t:=ofT (l.map Ta) 0,h:=vaH kk ks ko bO (l.map Ta) (zbC rs) b0 s0 .ready [],m:=[]} (.exit 0)
   {t:=qm 30 0 [],h:=(ziG kk ks ko bO l rs b0 s0 (.ready)),m:=[]}:=by
 have:=UR (P:=S5) (Γ:=ji) (h0:=vaH kk ks ko bO (l.map Ta) (zbC rs) b0 s0 .ready []) (rd:=false) (c:=sub Xo 0) (σ:=VS) (ρ:=Empty) l (λf s=>.inl (zdU kk ks ko bO s f))
  (λi s=>{t:=ofT (l.map Ta) (i:Int),h:=vaH kk ks ko bO (l.map Ta) (zbC rs) s.1 s.2 .ready [],m:=[]}) (.exit 0) (λs=>{t:=qm 30 0 [],h:=vaH kk ks ko bO (l.map Ta) (zbC rs) s.1 s.2 .ready [],m:=[]}) (λr=>r.elim)
  (λ_ s=>s.ok) (by simp) (λr=>r.elim) ?_ ?_ (b0,s0) ho
 ·rw[aM] at this
  exact this
 ·intro i f s hf hs
  have hi:=(Td.1 hf).1
  exact⟨λs' h=>by cases h;exact znM f hs,vo_body hs (rowAt hf rfl) (F1 _ hi) (sV hi hl)⟩
 ·intro s _
  exact P5 (aR _ l)
theorem Gq{kk ks ko bO:Int}{l:AT}(hl:ah l){rs:bV}{b0:AT}{s0:Bv}(ho:YY (b0,s0)):(Ev S5 ji 251 zgy (vaH kk ks ko bO (l.map Ta) (zbC rs) b0 s0 EV []) (uN []) (ziG kk ks ko bO l rs b0 s0 (EV))):=by have xd:=(@vo_cw (kk) (ks) (ko) (bO) (l) (hl) (rs) (b0) (s0) (ho));exact Tw (yF (h':=(zjZ (zh9 kk ks ko) (Tv (bP rs)) (Tv (dK (TE (zdU kk ks ko bO) (b0,s0) l).fst)) (Tv (ey (TE (zdU kk ks ko bO) (b0,s0) l).2)) (eP [ab (S2 Ta l)]) [eO bO] zhk ziK (sub TV 0))) (d:=D.Pp []) [.s [0,1,2,3,7,8,9] xd]) Fb Fb
noncomputable abbrev vaH0(kk ks ko bO:Int)(fs:bv)(rs:bV)(uR:AT)(G:Bv):aT :=[eP (Z8 kk ks ko),eP (zbC rs),eP (zg6 uR),eP (ey G).flatten,eP [ab fs],eP (Z8 kk ks ko),eP [eO bO]]
theorem Kb{kk ks ko bO:Int}{l:AT}(hl:ah l){rs:bV}{b0:AT}{s0:Bv}(ho:YY (b0,s0)):CW S5 ji [] N (sub TV 0) {t:=vaT,h:=vaH0 kk ks ko bO (l.map Ta) rs b0 s0,m:=[]} w8
  {t:=vaT,h:=(ziG kk ks ko bO l rs b0 s0 (zca)),m:=[7]} :=
 CW.rangeFunc (f:=251) (fi:=[]) (ca:=zac) τ (s:={t:=vaT,h:=vaH0 kk ks ko bO (l.map Ta) rs b0 s0,m:=[]}) (g:=.tmp 15) (ps:=#[16]) (asg:=ax (sub TV 0)) (body:=ak (sub TV 0)) rfl Z (Gq hl ho) rfl
theorem va_val{h:aT}{off n:Nat}{l:AT}{g:qH}(hb:h[2]?=G (eP (zg6 l)))(hs:l[n]?=G g)(ho:off=n*8+3):aQ S5 h 3 (zgH off)=G (eO g.value):=by subst ho;exact pX (sz:=8) (j:=3) (row:=g.row.map .p) Z Z hb (by simp[Ta]) (by simp[hs]) rfl
theorem Gr{h:List ql}{off n:Nat}{l:List Int}{x:Int}(hb:h[1]? = some (.var (bP l).flatten))(hn:n<l.length)(ho:off=n*1):aY S5 h 3 (.ref (.ptr 1 off)) (eO x)=some (h.set 1 (.var (bP (l.set n x)).flatten)):=by
 subst ho
 rw[pY (sz:=1) (new:=[eO x]) rfl (by kernel_rfl) rfl hb (λr hr=>by grind) (by simpa using hn),bP,bP,List.map_set]
abbrev SV(v:Int):Int:=if J=J then if -1>v then -1 else v else if -1<v then -1 else v
noncomputable abbrev vlS(kk ks ko bO:Int)(fs:bv)(rs:bV)(uR:AT)(G:Bv)(i:Int):AS:={t:=qm 63 0 [zaE,zbw,zaV,(46,eO i)],h:=vaH kk ks ko bO fs (zbC rs) uR G zca [],m:=[7]}
abbrev zia(c:Bool)(d e:Int):D:=eO (if c=J then if d>e then d else e else if d<e then d else e)
abbrev Z0(a b:Int):D:=(zia J a b)
abbrev zdf(a:Tmp)(b:Int):η:=(zfG a (eO b))
abbrev zkj(a:bY):bY:=(qm 63 0 [zaE,zbw,zaV,(15,UL (TM 251) [] a)])
theorem vl_b{kk ks ko bO:Int}{fs:bv}{rs:bV}{uR:AT}{G:Bv}{g:qH}{n:Nat}{b:Bool}(hb:uR[n]?=.some g)(hs:G[n]?=.some b)(hn:Ps (n:Int) 1024=J)(hr:n<rs.length)(oA:fE ((n:Int)<1024)=J):(CW S5 ji [] N (sub TV 2) (vlS kk ks ko bO fs rs uR G (n:Int)) w8 (vlS kk ks ko bO fs (bif b then (rs.set n (-1)).set n (SV g.value) else rs.set n (-1)) uR G (S6.wrap ((n:Int)+1)))):=by
 cases sR:b;·let v0:aT:=[eP (zh9 kk ks ko),eP (Tv (bP (UE rs n (-1)))),eP (Tv (dK uR)),eP (Tv (ey G)),eP [ab fs],eP (zh9 kk ks ko),eP [eO bO],NH,Js Uu Y 0 zhk ziK (ax (sub TV 0)) (ak (sub TV 0))];refine yX {t:=qm 63 0 [zaE,zbw,zaV,(46,(ZZ n))],h:=v0,m:=[7]} Tr [E6 (IW [6,7,8,46])] [.b oA,hn,(?_:@Eq (Option (aT)) (aY S5 [eP (zh9 kk ks ko),eP (Tv (bP rs)),eP (Tv (dK uR)),eP (Tv (ey G)),eP [ab fs],eP (zh9 kk ks ko),eP [eO bO],NH,Js Uu Y 0 zhk ziK (ax (sub TV 0)) (ak (sub TV 0))] 3 (zb6 1 n) (eO (-1))) (Vs v0)),hn,(?_:@Eq (At) (aQ S5 v0 4 (zb6 3 n)) (Vs (eR b))),.a1 (.oh 10050 D.any (vaH kk ks ko bO fs (Tv (bP (UE rs n (-1)))) uR G Uu [])),.a1 (zfG 53 (eR b)),.b sR] (by subst v0;grind) (by subst v0;grind)<;>subst v0<;>(first|exact uZ rfl hs qk|exact Gr rfl hr qk)
 ·let v2:bY:=zac;let v3:=Tv (bP (UE (UE rs n (-1)) n (SV g.value)));let v4:=Tv (dK uR);let v5:=Tv (ey G);let v0:aT:=[eP (Z8 kk ks ko),eP (Tv (bP (UE rs n (-1)))),eP v4,eP v5,eP [ab fs],eP (Z8 kk ks ko),eP [eO bO],NH,Js Uu Y 0 (zkj v2) zdA (ax (sub TV 0)) (ak (sub TV 0))];let v1:aT:=[eP (Z8 kk ks ko),eP v3,eP v4,eP v5,eP [ab fs],eP (Z8 kk ks ko),eP [eO bO],NH,Js Uu Y 0 (zkj v2) zdA (ax (sub TV 0)) (ak (sub TV 0))];refine yX {t:=qm 63 0 [zaE,zbw,zaV,(46,(ZZ n))],h:=v1,m:=[7]} Tr [E6 (IW [6,7,8,46])] [.b oA,hn,(?_:@Eq (Option (aT)) (aY S5 [eP (Z8 kk ks ko),eP (Tv (bP rs)),eP v4,eP v5,eP [ab fs],eP (Z8 kk ks ko),eP [eO bO],NH,Js Uu Y 0 (zkj v2) zdA (ax (sub TV 0)) (ak (sub TV 0))] 3 (zb6 1 n) (eO (-1))) (Vs v0)),hn,(?_:@Eq (At) (aQ S5 v0 4 (zb6 3 n)) (Vs (eR b))),.a1 (.oh 10050 D.any (vaH kk ks ko bO fs (Tv (bP (UE rs n (-1)))) uR G Uu [])),.a1 (zfG 53 (eR b)),.b sR,hn,(?_:@Eq (At) (aQ S5 v0 3 (gM (qn 2 (0+S9 (↑n:Int)*8+3)))) (Vs (eO g.value))),hn,(?_:@Eq (Option (aT)) (aY S5 v0 3 (zb6 1 n) (Z0 (-1) g.value)) (Vs v1)),.a1 (zdf 58 g.value),.a1 (.oh 10060 D.any (vaH kk ks ko bO fs v3 uR G Uu []))] (by subst v2 v3 v4 v5 v0 v1;grind) (by subst v2 v3 v4 v5 v0 v1;grind)<;>subst v2 v3 v4 v5 v0 v1<;>(first|exact uZ rfl hs qk|exact va_val rfl hb qk|exact Gr rfl hr qk|exact Gr rfl (by simpa using hr) qk)
abbrev ziX:bY:=qm 63 0 [zaE]
theorem P6{kk ks ko bO:Int}{fs:bv}{rs:bV}{uR:AT}{G:Bv}:(CW S5 ji [] N (sub TV 2) (vlS kk ks ko bO fs rs uR G 1024) (EY 4) {t:=ziX,h:=vaH kk ks ko bO fs (zbC rs) uR G zca [],m:=[7]}):=yx (zeI 6) [.e]
def zgM(s:VS)(rs:bV)(n:Nat):bV:=bif s.2.getD n N then (rs.set n (-1)).set n (SV (s.1.getD n default).value) else rs.set n (-1)
def yb(s:VS)(rs:bV):bV:=(T1 1024).foldl (zgM s) rs
theorem vl_cw{kk ks ko bO:Int}{fs:bv}{rs:bV}{uR:AT}{some:Bv}(ho:YY (uR,some))(hr:rs.length=1024):CW S5 ji [] false (.loop (sub TV 2)) (vlS kk ks ko bO fs rs uR some 0) (.exit 4) {t:=ziX,h:=vaH kk ks ko bO fs (zbC (yb (uR,some) rs)) uR some .exhausted [],m:=[7]}:=by
 have:=UR (P:=S5) (Γ:=ji) (h0:=[]) (rd:=false) (c:=sub TV 2) (σ:=bV) (ρ:=Empty) (T1 1024) (λn rs=>.inl (zgM (uR,some) rs n))
  (λi rs=>vlS kk ks ko bO fs rs uR some (i:Int)) (.exit 4) (λrs=>{t:=ziX,h:=vaH kk ks ko bO fs (zbC rs) uR some .exhausted [],m:=[7]}) (λr=>r.elim)
  (λ_ rs=>rs.length=1024) (by simp) (λr=>r.elim) ?_ ?_ rs hr
 ·rw[aM (λrs n=>zgM (uR,some) rs n)] at this;exact this
 ·intro i n rs hn hs;obtain⟨hi,he⟩:=Td.1 hn;simp at hi;simp at he;subst he;have hb:uR[i]? = .some (uR.getD i default):=by rw[Th,TH (by rw[ho.1];omega)];rfl
  have hc:some[i]? = .some (some.getD i false):=by rw[Th,TH (by rw[ho.2];omega)];rfl
  refine⟨λs' h=>by cases h;unfold zgM;grind,?_⟩;have key:=vl_b (kk:=kk) (ks:=ks) (ko:=ko) (bO:=bO) (fs:=fs) (rs:=rs) hb hc (by simp[Ps];omega) (by omega) (by simp;omega);rw[wrap_i64 (by omega) (by omega)] at key;simp only[ai];unfold zgM;grind
 ·intro rs _;simp only[List.length_range];exact P6
theorem Gs{h:aT}{l:bV}(hb:h[1]?=G (eP (zbC l)))(hl:l.length=1024):aQ S5 h 221 zbB=G (mS (zbC l)) :=IA Z (by rw[gK (sz:=1) (bP l) (λr hr=>mW)];simp only[Uw,hl];kernel_rfl) hb
theorem yc{l:bV}:(TF (zbC l)).cells=G (zbC l):=by
 have:(bP l).flatten.all D.one=J:=by rw[TW];intro d hd;obtain⟨r,hr,hd⟩:=List.mem_flatten.1 hd;obtain⟨n,_,rfl⟩:=T2.1 hr;simp only[List.mem_singleton] at hd;subst hd;rfl
 simp[D.cells,this]
theorem st_int{h:aT}{l:bV}(hb:h[1]?=G (eP (zbC l)))(hl:l.length=1024):aY S5 h 221 zbB (mS (zbC l))=G (h.set 1 (eP (zbC l))) :=wQ yc (by rw[gK (sz:=1) (bP l) (λr hr=>mW)];simp only[Uw,hl];kernel_rfl) rfl hb
theorem qM{s:VS}{rs:bV}(h:rs.length=1024):(yb s rs).length=1024:=by
 unfold yb;generalize T1 1024=l;induction l generalizing rs with
 |nil=>exact h
 |cons n l ih=>exact ih (by unfold zgM;grind)
noncomputable abbrev vaE(kk ks ko bO:Int)(l:AT)(rs:bV)(s:VS):aT:=vaH kk ks ko bO (l.map Ta) (zbC (yb (l.foldl (zdU kk ks ko bO) s) rs)) (l.foldl (zdU kk ks ko bO) s).1 (l.foldl (zdU kk ks ko bO) s).2 zca []
abbrev zcb:D:=(gM (qn 2 0))
abbrev zcN:D:=(gM (qn 3 0))
theorem Kc{kk ks ko bO:Int}{l:AT}(hl:ah l){rs:bV}{b0:AT}{s0:Bv}(ho:YY (b0,s0))(hf:YY (l.foldl (zdU kk ks ko bO) (b0,s0)))(hr:rs.length=1024)(e1:dS S5 [eP (Z8 kk ks ko)] 221 zbB [eP (Z8 kk ks ko),eP (zbC rs)])(e2:dS S5 [eP (Z8 kk ks ko),eP (zbC rs)] 292 zcb [eP (Z8 kk ks ko),eP (zbC rs),eP (zg6 b0)])(e3:dS S5 [eP (Z8 kk ks ko),eP (zbC rs),eP (zg6 b0)] 293 zcN [eP (Z8 kk ks ko),eP (zbC rs),eP (zg6 b0),eP (ey s0).flatten]):(CW S5 ji [] N (al TV) {t:=qm 63 0 [(0,ab (l.map Ta)),(1,mS (Z8 kk ks ko)),(2,eO bO)],h:=[],m:=[]} .ret {t:=ziX,h:=vaE kk ks ko bO l rs (b0,s0),m:=[7]}):=by have xd:=(@Kb (kk) (ks) (ko) (bO) (l) (hl) (rs) (b0) (s0) (ho));have hl1:=(@vl_cw (kk) (ks) (ko) (bO) (S2 Ta l) (rs) ((TE (zdU kk ks ko bO) (b0,s0) l).fst) ((TE (zdU kk ks ko bO) (b0,s0) l).2) (hf) (hr));let v1:=TE (zdU kk ks ko bO) (b0,s0) l;let v0:aT:=[eP (zh9 kk ks ko),eP (Tv (bP (yb (v1.fst,v1.2) rs))),eP (Tv (dK v1.fst)),eP (Tv (ey v1.2)),eP [ab (S2 Ta l)],eP (zh9 kk ks ko),eP [eO bO],NH,Js Uu Y 0 zhk ziK (ax (sub TV 0)) (ak (sub TV 0))];let v2:aT:=[eP (Z8 kk ks ko),eP (Tv (bP rs)),eP (Tv (dK b0))];let v3:aT:=[eP (Z8 kk ks ko),eP (Tv (bP rs)),eP (Tv (dK b0)),eP (Tv (ey s0))];let v4:aT:=[eP (Z8 kk ks ko),eP (Tv (bP rs))];let v5:=Tv (bP (yb v1 rs));refine yx (zeI 6) [((by subst v1 v0 v2 v3 v4 v5;grind):dS S5 [eP [eO kk,eO ks,eO ko]] 221 (gM (qn 1 0)) v4),((by subst v1 v0 v2 v3 v4 v5;grind):dS S5 v4 292 (gM (qn 2 0)) v2),((by subst v1 v0 v2 v3 v4 v5;grind):dS S5 v2 293 (gM (qn 3 0)) v3),.a1 (.oh 6 zbB v4),.a1 (.oh 7 zcb v2),.a1 (.oh 8 zcN v3),.a1 Τ,.s [6,7,8,15] xd,.s [6,7,8,46] hl1,(?_:@Eq (At) (aQ S5 v0 221 zbB) (G (TF v5))),(?_:@Eq (Option (aT)) (aY S5 v0 221 zbB (TF v5)) (G [eP (zh9 kk ks ko),eP v5,eP (Tv (dK v1.fst)),eP (Tv (ey v1.2)),eP [ab (S2 Ta l)],eP (zh9 kk ks ko),eP [eO bO],NH,Js Uu Y 0 zhk ziK (ax (sub TV 0)) (ak (sub TV 0))])),.a1 (zfG 62 (TF v5)),.a1 (.oh 10006 D.any (vaE kk ks ko bO l rs (b0,s0)))]<;>subst v1 v0 v2 v3 v4 v5<;>(first|exact Gs rfl (qM hr)|exact st_int rfl (qM hr))
theorem P7{n:Nat}{l:bV}:D.inn n (mS (zbC l))=J:=qL (n:=n) (l:=l)
def vZ:VS:=(Ti 1024 fz,Ti 1024 N)
theorem Ke:vZ.ok:=⟨by simp[vZ],by simp[vZ]⟩
theorem Gt{kk ks ko bO:Int}{l:AT}{s:VS}(h:s.ok):(l.foldl (zdU kk ks ko bO) s).ok:=by
 induction l generalizing s with
 |nil=>exact h
 |cons f l ih=>exact ih (znM f h)
def bJ(kk ks ko bO:Int)(l:AT):bV:=yb (l.foldl (zdU kk ks ko bO) vZ) (Ti 1024 0)
theorem gS{kk ks ko bO:Int}{l:AT}:(bJ kk ks ko bO l).length=1024:=qM qk
noncomputable abbrev zhd(a b c d:Int)(e:AT):aT:=(tY [7] (vaE a b c d e (Ti 1024 0) vZ))
theorem Kf{kk ks ko bO:Int}{l:AT}(hl:ah l):Ev S5 ji 127 [ab (l.map Ta),mS (Z8 kk ks ko),eO bO] [] (mS (zbC (bJ kk ks ko bO l))) (zhd kk ks ko bO l):=by
 have hw:=Kc (kk:=kk) (ks:=ks) (ko:=ko) (bO:=bO) hl (rs:=Ti 1024 0) (b0:=vZ.1) (s0:=vZ.2) Ke (Gt Ke) qk (by unfold dS;kernel_rfl) (by unfold dS vZ;kernel_rfl) (by unfold dS vZ;kernel_rfl);refine Ev.zqt (fn:=TV) Z Z hw ?_;have hc:aQ S5 (zhd kk ks ko bO l) 221 zbB=G (mS (zbC (bJ kk ks ko bO l))):=Gs rfl gS;have hr:bM S5 (ziX) (zhd kk ks ko bO l) TV.results.toList=G [mS (zbC (bJ kk ks ko bO l))]:=by
  show(match l5 S5 (ziX) (zhd kk ks ko bO l) (.cell 6 221),G [] with
   |some d,some ds=>G (d::ds)
   |_,_=>Y)=_
  have:l5 S5 (ziX) (zhd kk ks ko bO l) (.cell 6 221)=G (mS (zbC (bJ kk ks ko bO l))):=hc;rw[this]
 simp only[finF,pre];rw[hr];rfl
theorem Gu{kk ks ko bO:Int}{l:AT}(hl:ah l)(h:aT):Ev S5 ji 127 [ab (l.map Ta),mS (Z8 kk ks ko),eO bO] h (mS (zbC (bJ kk ks ko bO l))) h :=Ev.zjo rfl (by have:=Ev.trim (h:=[]) (d:=mS (zbC (bJ kk ks ko bO l))) P7 rfl (Kf (kk:=kk) (ks:=ks) (ko:=ko) (bO:=bO) hl);grind) h
abbrev ad(rs:bv):List (bY):=rs.map (S2 D.p)
theorem u4(rs:bv)(r:dO):ad rs++[r.map .p]=ad (rs++[r]):=by simp[ad]
theorem aB(rs:bv)(f:Ref->D):(ad rs).map (Tz f)=ad rs:=aj f rs
theorem Mf(k:Nat):∀r:dO,TL k (r.map .p)=J
 | []=>rfl
 |_::r=>by simp[TL,D.inn,Mf k r]
theorem aD(rs:bv)(k:Nat):(ad rs).all (TL k)=J:=by rw[TW];intro r hr;obtain⟨x,_,rfl⟩:=T2.1 hr;exact Mf k x
theorem Gv{h:aT}{l r:bV}(hb:h[1]?=G (eP (zbC r)))(hr:r.length=1024)(hl:l.length=1024):aY S5 h 221 zbB (mS (zbC l))=G (h.set 1 (eP (zbC l))) :=wQ yc (by rw[gK (sz:=1) (bP l) (λr hr=>mW)];simp only[Uw,hl];kernel_rfl)
  (by rw[gK (sz:=1) (bP l) (λr hr=>mW),gK (sz:=1) (bP r) (λr hr=>mW)];simp[hl,hr]) hb
structure PtT where
 eF:Int
 value:Int
 deriving Inhabited,DecidableEq
def PtT.row(p:PtT):dO:=[vi p.eF,vi p.value]
theorem Gw{h:aT}{off n:Nat}{l:bV}{v:Int}(hb:h[1]?=G (eP (zbC l)))(hs:l[n]?=G v)(ho:off=n*1):aQ S5 h 3 (gM (qn 1 off))=G (eO v):=by subst ho;exact pX (sz:=1) (j:=0) (row:=[eO v]) Z Z hb (λr hr=>mW) (by simp[hs]) rfl
noncomputable abbrev ptH(kk ks ko:Int)(rs:bV)(l:List PtT):aT:=[eP (Z8 kk ks ko),eP (zbC rs),.eY (ad (l.map PtT.row)) 0 2]
abbrev zfg(a:Nat):Nat×D:=(11,gM (qn a 0))
abbrev zfI:Nat×D:=(10,gM (.eY 2 0))
noncomputable abbrev ptS(kk ks ko to:Int)(rs:bV)(l:List PtT)(x:Int):AS:={t:=qm 38 0 [(3,eO to),zfI,(zfg 1),(12,eO x)],h:=ptH kk ks ko rs l,m:=[]}
theorem qN(f:Ref->D)(l:List Int):Tz f (bP l).flatten=(bP l).flatten:=by
 induction l with
 | nil=>rfl
 | cons n l ih=>simp only[bP,U5,W6,List.cons_append,List.nil_append,Tz,D.FK] at ih ⊢;rw[ih]
theorem Bt{n:Nat}{l:bV}{f:Ref->D}:Tl n (eP (Tz f (zbC l)))=J:=by rw[qN];exact qL
theorem br{n:Nat}{rs:bv}{e sz:Nat}:Tl n (.eY (ad rs) e sz)=J:=aD rs n
theorem iV(n:Nat)(rs:bv)(e sz:Nat):Tl n (.eY (ad rs) e sz)=J:=br
theorem vM(rs:bv)(a b c:Nat):(ad rs).map (Tz (ar a b c))=ad rs:=aj (ar a b c) rs
theorem iVa(n:Nat)(rs:bv)(b:List (bY))(e sz:Nat)(h:b.all (TL n)=J:=by first|rfl|exact aD _ _):Tl n (.eY (ad rs++b) e sz)=J:=(List.all_append).trans (by rw[aD rs n,h];rfl)
theorem vMa(rs:bv)(q:List (bY))(a b c:Nat)(h:q.map (Tz (ar a b c))=q:=by first|rfl|exact aj _ _):(ad rs++q).map (Tz (ar a b c))=ad rs++q:=Uh.trans (by rw[aj (ar a b c) rs,h])
def ptF(v:Int)(n:Nat)(l:List PtT):List PtT:=bif fE (v>=0) then l++[⟨(n:Int),v⟩] else l
theorem zJ(l:List PtT)(n:Nat)(v:Int):ad (l.map PtT.row)++[[eO (n:Int),eO v]]=ad ((l++[PtT.mk (n:Int) v]).map PtT.row):=by simp[PtT.row]
abbrev zjv(g h:Nat)(i:List (bY))(j k l:Nat)(m:ql):ql:=match g==h with|true=>.eY i j k|false=>CV (ar h l j) m
abbrev ZT(a b:Nat)(c:List (bY))(d e f:Nat):ql:=(zjv (a+1) b (c) d e f (.eY (c) f e))
abbrev zhp(f g:Nat)(h:List (bY))(i j k:Nat)(l:ql):ql:=(zjv f g (h) i j k (l))
abbrev zaT(a:Nat)(b:List (bY))(c d:Nat)(e:ql):ql:=(zhp (0+1) a b 0 c d e)
abbrev zc9(a:iS)(b c d:Nat):Do:=[E6 (IW a),E6 (.ren b c),E6 (zlw d)]
abbrev zd4(a:List PtT):List (bY):=ad (S2 PtT.row a)
theorem pt_b{kk ks ko to:Int}{rs:List Int}{l:List PtT}{n:Nat}{v:Int}(hv:rs[n]? = .some v)(hn:Ps (n:Int) 1024=true)(hl:l.length<=2000)(oA:fE ((n:Int)<if false=true then if 1024>to then 1024 else to else if 1024<to then 1024 else to)=true)(hw:S6.wrap ((n:Int)+1)=((n+1:Nat):Int)):(CW S5 ji [] false (sub Za 0) (ptS kk ks ko to rs l (n:Int)) .normal (ptS kk ks ko to rs (ptF v n l) ((n+1:Nat):Int))):=by
 cases sR:fE (v>=0)
 ·refine yX {t:=qm 38 0 [(3,eO to),(10,.ref (.eY 2 0)),(11,.ref (.ptr 1 0)),(12,eO (S8 S6 ((↑n:Int)+1)))],h:=[.var [eO kk,eO ks,eO ko],.var (Tz (ar 2 0 0) (Tv (bP rs))),.eY (ad (S2 PtT.row l)) 0 2],m:=[]} Tr [.st (.mask [3,10,11,12]),.st (.ren 2 0),.st (.P1 3)] [.b oA,hn,(?_:@Eq (Option D) (aQ S5 [.var [eO kk,eO ks,eO ko],.var (Tv (bP rs)),.eY (ad (S2 PtT.row l)) 0 2] 3 (.ref (.ptr 1 (0+S9 (↑n:Int)*1)))) (some (eO v))),.a1 (.ov 27 (eO v)),.b sR,(?_:S2 (Tz (ar 2 0 0)) (ad (S2 PtT.row l))=ad (S2 PtT.row l)),(rfl:Tl 3 (match 0==2 with|true=>.eY (ad (S2 PtT.row l)) 0 2|false=>CV (ar 2 0 0) (.var [eO kk,eO ks,eO ko]))=true),(?_:Tl 3 (match 0+1==2 with|true=>.eY (ad (S2 PtT.row l)) 0 2|false=>CV (ar 2 0 0) (.var (Tv (bP rs))))=true),(?_:Tl 3 (match 0+1+1==2 with|true=>.eY (ad (S2 PtT.row l)) 0 2|false=>CV (ar 2 0 0) (.eY (ad (S2 PtT.row l)) 0 2))=true)] (by grind) (by(simp[hw,ptF,sR,qN];done))<;>(first|exact Gw rfl hv (by simp)|exact aB _ _|exact Bt|exact br)
 ·let v0:List ql:=[.var [eO kk,eO ks,eO ko],.var (Tv (bP rs)),.eY (ad (S2 PtT.row l)) 0 2]
  refine yX {t:=qm 38 0 [(3,eO to),(10,.ref (.eY 2 0)),(11,.ref (.ptr 1 0)),(12,eO (S8 S6 ((↑n:Int)+1)))],h:=[.var [eO kk,eO ks,eO ko],.var (Tz (ar 2 1 0) (Tv (bP rs))),.eY (ad (S2 PtT.row l)++[[eO (↑n:Int),eO v]]) 0 2],m:=[]} Tr [.st (.mask [3,10,11,12]),.st (.ren 2 0),.st (.P1 3)] [.b oA,hn,(?_:@Eq (Option D) (aQ S5 v0 3 (.ref (.ptr 1 (0+S9 (↑n:Int)*1)))) (some (eO v))),.a1 (.ov 27 (eO v)),.b sR,hn,(?_:@Eq (Option D) (aQ S5 v0 3 (.ref (.ptr 1 (0+S9 (↑n:Int)*1)))) (some (eO v))),((by subst v0;grind [aL,D.one,Up,uO]):(Tq [[eO (↑n:Int),eO v]] (aL 2)&&uO (S7 (ad (S2 PtT.row l))+S7 [[eO (↑n:Int),eO v]]) 16)=true),(?_:S2 (Tz (ar 2 1 0)) (ad (S2 PtT.row l)++[[eO (↑n:Int),eO v]])=ad (S2 PtT.row l)++[[eO (↑n:Int),eO v]]),pr [[eO (↑n:Int),eO v]],(rfl:Tl 3 (match 0==2 with|true=>.eY (ad (S2 PtT.row l)++[[eO (↑n:Int),eO v]]) 0 2|false=>CV (ar 2 1 0) (.var [eO kk,eO ks,eO ko]))=true),(?_:Tl 3 (match 0+1==2 with|true=>.eY (ad (S2 PtT.row l)++[[eO (↑n:Int),eO v]]) 0 2|false=>CV (ar 2 1 0) (.var (Tv (bP rs))))=true),(?_:Tl 3 (match 0+1+1==2 with|true=>.eY (ad (S2 PtT.row l)++[[eO (↑n:Int),eO v]]) 0 2|false=>CV (ar 2 1 0) (.eY (ad (S2 PtT.row l)++[[eO (↑n:Int),eO v]]) 1 2))=true),.a1 (.ov 33 (eO v))] (by subst v0;grind) (by subst v0;(simp only[hw,ptF,sR,cond_true,zJ,qN];first|done|rfl))<;>subst v0<;>(first|exact Gw rfl hv (by simp)|(rw[zJ];exact aB _ _)|exact Bt|(rw[zJ];exact br))
theorem P8{kk ks ko to:Int}{rs:bV}{l:List PtT}{x:Int}(oA:fE (x<if N=J then if 1024>to then 1024 else to else if 1024<to then 1024 else to)=N):(CW S5 ji [] N (sub Za 0) (ptS kk ks ko to rs l x) (EY 0) {t:=qm 38 0 [zfI],h:=ptH kk ks ko rs l,m:=[]}):=yx (zeI 10) [.b oA]
def vF(to:Int):Int:=if to<1024 then to else 1024
theorem Gx(to:Int):(if N=J then if 1024>to then 1024 else to else if 1024<to then 1024 else to)=vF to:=by unfold vF;grind
def Kg(rs:bV)(x to:Int):List PtT:=(US x.toNat (vF to-x).toNat).foldl (λl n=>ptF (rs.getD n 0) n l) []
theorem Gy(v:Int)(n:Nat)(l:List PtT):(ptF v n l).length<=l.length+1:=by unfold ptF;grind
theorem pt_cw{kk ks ko to:Int}{rs:bV}(hr:rs.length=1024){x:Int}(hx:0<=x):CW S5 ji [] false (.loop (sub Za 0)) (ptS kk ks ko to rs [] x) (.exit 0) {t:=qm 38 0 [zfI],h:=ptH kk ks ko rs (Kg rs x to),m:=[]}:=by
 have hx':((x.toNat:Nat):Int)=x:=by omega
 have hh:vF to<=1024:=by unfold vF;split<;>omega
 have:=UR (P:=S5) (Γ:=ji) (h0:=[]) (rd:=false) (c:=sub Za 0) (σ:=List PtT) (ρ:=Empty) (US x.toNat (vF to-x).toNat) (λn l=>.inl (ptF (rs.getD n 0) n l))
  (λi l=>ptS kk ks ko to rs l (x+(i:Int))) (.exit 0) (λl=>{t:=qm 38 0 [zfI],h:=ptH kk ks ko rs l,m:=[]}) (λr=>r.elim)
  (λi l=>l.length<=i) (by simp) (λr=>r.elim) ?_ ?_ [] (by simp)
 ·rw[aM (λl n=>ptF (rs.getD n 0) n l)] at this;grind [bf,Kg]
 ·intro i n l hn hs;obtain⟨hi,he⟩:=Td.1 hn;simp only[Zx] at hi;simp at he;have oA:(n:Int)<vF to:=by omega
  have hb:rs[n]? = some (rs.getD n 0):=by rw[Th,TH (by rw[hr];omega)];rfl
  refine⟨λs' h=>by cases h;have:=Gy (rs.getD n 0) n l;omega,?_⟩;have key:=pt_b (kk:=kk) (ks:=ks) (ko:=ko) (to:=to) (l:=l) hb (by simp[Ps];omega) (by omega) (by grind [Gx]) (by rw[wrap_i64 (by omega) (by omega)];omega);have e1:x+(i:Int)=(n:Int):=by omega
  have e2:x+((i+1:Nat):Int)=((n+1:Nat):Int):=by omega
  simp only[ai,e1,e2];exact key
 ·intro l _;refine P8 ?_;grind [Gx]
def Mg(lk:Int):Int:=if J=J then if lk>0 then lk else 0 else if lk<0 then lk else 0
def aH(kk ks ko lk to bO:Int)(l:AT):List PtT:=Kg (bJ kk ks ko bO l) (Mg lk) to
theorem Gz(lk:Int):0<=(if J=J then if lk>0 then lk else 0 else if lk<0 then lk else 0):=mW
theorem Kh{kk ks ko lk to bO:Int}{l:AT}(hl:ah l){r0:bV}(e1:dS S5 [eP (Z8 kk ks ko)] 221 zbB [eP (Z8 kk ks ko),eP (zbC r0)])(h0:r0.length=1024)(h:aT):(Ev S5 ji 60 [ab (l.map Ta),mS (Z8 kk ks ko),eO lk,eO to,eO bO] h (ab ((aH kk ks ko lk to bO l).map PtT.row)) h):=by have xd:=(@pt_cw (kk) (ks) (ko) (to) (bJ kk ks ko bO l) (by first|assumption|rfl|exact gS|exact Gz _|exact Gv rfl h0 gS|(simp;done)) (if J=J then if lk>0 then lk else 0 else if lk<0 then lk else 0) mW);let v0:aT:=[eP (Z8 kk ks ko),eP (Tv (bP r0))];let v1:=Tv (bP (bJ kk ks ko bO l));let v2:=S2 PtT.row (aH kk ks ko lk to bO l);refine y0 [.v (@Gu kk ks ko bO l hl ([eP (Z8 kk ks ko)])),((by subst v0 v1 v2;grind):dS S5 [eP [eO kk,eO ks,eO ko]] 221 (gM (qn 1 0)) v0),(?_:@Eq (Option (aT)) (aY S5 v0 221 zbB (TF v1)) (G [eP (Z8 kk ks ko),eP v1])),.a1 (.oh 11 zbB v0),.a1 (.oh 10011 D.any [eP (Z8 kk ks ko),eP v1]),.n 1,.o (.zoL 10 2),.s [3,10,11,12] xd,(?_:(zd4 (Kg (bJ kk ks ko bO l) (if J=J then if lk>0 then lk else 0 else if lk<0 then lk else 0) to))=S2 (λx=>S2 D.p x) v2),.o (Λ 2 v2)] h<;>subst v0 v1 v2<;>(first|rfl|exact Gv rfl h0 gS)
theorem iM{kk ks ko lk to bO:Int}{l:AT}(hl:ah l)(h:aT):Ev S5 ji 60 [ab (l.map Ta),mS (Z8 kk ks ko),eO lk,eO to,eO bO] h (ab ((aH kk ks ko lk to bO l).map PtT.row)) h :=Kh hl (r0:=Ti 1024 0) (by unfold dS;kernel_rfl) qk h
end Go.Vi
open Go Go.Proofs Go.Shelf Go.RowKit Go.Sort
namespace Go.Vi
set_option maxRecDepth 100000
set_option maxHeartbeats 4000000
abbrev u5{α:Type}(enc:α->oR)(l:List α):List (bY):=l.map λx=>(enc x).map lit
theorem mZ{w:World}{av:Nat->Prop}{loc:Loc}{h:aT}:∀{vs ys:oR},kc w av loc h (vs.map lit) ys->ys=vs
  | [],[],_=>rfl
  | [],_::_,r=>by simp[kc] at r
  |_::_,[],r=>by simp[kc] at r
  |v::vs,y::ys,r=>by
    simp[kc] at r;have h1:y=v:=by simpa[Rel,FL] using r.1
    rw[h1,mZ r.2]
theorem gT{w:World}{av:Nat->Prop}{loc:Loc}{h:aT}:∀{vs:oR},kc w av loc h (vs.map lit) vs
  | []=>trivial
  |v::vs=>by simp[kc];exact⟨by simp[Rel,FL],gT⟩
theorem tm{α:Type}(enc:α->oR)(l:List α):(u5 enc l).flatten=((l.map enc).flatten).map lit:=by
  induction l with
  |nil=>rfl
  |cons a l ih=>grind
theorem m9{α:Type}[Inhabited α](enc:α->oR)(k:Nat)(hk:∀x,(enc x).length=k)(l:List α):(flatK enc k l.toArray).toList=(l.map enc).flatten:=by
  have key:∀(l:List α) (t:Nat),t<l.length*k->((l.map enc).flatten)[t]?=G ((enc (l.toArray[t / k]!))[t % k]!):=by
    intro l;induction l with
    |nil=>grind
    |cons a l ih=>
      intro t h;simp only[U5,W6];rcases Nat.lt_or_ge t k with oA|hge
      · rw[Ul mW,Nat.div_eq_of_lt oA,Nat.mod_eq_of_lt oA]
        grind
      · have k0 : 0 < k := by rcases Nat.eq_zero_or_pos k with h0 | h0
                              · grind
                              · exact h0
        rw[T8 mW,hk]
        obtain⟨u,rfl⟩:∃u,t=u+k:=⟨t-k,lj⟩
        have hu:u<l.length*k:=by simp only[Ue,Nat.add_mul,Nat.one_mul] at h;omega
        simp_all
  apply Wx;intro t;have hlen:((l.map enc).flatten).length=l.length*k:=by
    clear key;induction l with
    |nil=>simp
    |cons a l ih=>grind
  by_cases ht:t<l.length*k
  · rw[key l t ht]
    simp[flatK,ht]
  grind [flatK]
theorem tp{w w':World}(h1:w.heap.size<=w'.heap.size)(h2:∀k,k<w.heap.size->w'.heap[k]?=w.heap[k]?)(h3:w'.tape=w.tape/\w'.os=w.os/\w'.output=w.output/\w.drawn<=w'.drawn):∃q os',w'=WU (w.drewN q) os':=by
  refine⟨w'.drawn-w.drawn,w'.heap.extract w.heap.size w'.heap.size,?_⟩;obtain⟨heap,tape,drawn,os,output⟩:=w;obtain⟨heap',tape',drawn',os',output'⟩:=w';obtain⟨rfl,rfl,rfl,h4⟩:=h3;simp only[WU,World.drewN] at h1 h2 h4 ⊢;congr 1;· grind
  · omega
theorem C9{P:Program}{Γ:au}{O:Nat->Prop}{α:Type}[Inhabited α]{enc:α->oR}{k g:Nat}{cf:α->α->Int}{w:World}{loc:Loc}{h:aT}(R:JW Γ O w loc h){fI:Nat}(hblk:tf O loc h fI)(hE:∀x y,Ev P Γ g [.agg ((enc x).map lit),.agg ((enc y).map lit)] [] (eO (cf x y)) []) (o size:Nat):CmpLays P g #[] enc k cf fI o size w:=by
  intro m os dk hs x y;generalize hW:sortWorldK enc k w fI o m dk os=W;have hb:fI<w.heap.size:=by
    rcases hblk with ho|ho;· exact R.obd fI ho
    · exact(R.inb fI ho).1
  have zmG:∀b off v,¬tf O loc h b->w.cell? ⟨b,off,none⟩=some v->W.cell? ⟨b,off,none⟩=some v/\¬tf (λ_=>False) loc [] b:=by
    intro b off v hn hc;have hne:b≠fI:=λe=>hn (e▸hblk);refine⟨?_,λho=>ho.elim id (λh=>absurd h dT)⟩;subst hW;have oA:b<w.heap.size:=by
      simp only[Xh] at hc;split at hc;· grind
      · simp at hc
    have:(sortWorldK enc k w fI o m dk os).heap[b]? = w.heap[b]?:=by unfold sortWorldK;rw[VT _ _ (by grind [putRowK,Un,Ur,Uz])];simp[putRowK,Un,Ur,Uz,Xx,Ne.symm hne]
    simp only[Xh,this];exact hc
  have R0:JW Γ (λ_=>False) W loc []:=by refine⟨λfI ho=>absurd ho dT,λfI ho=>ho.elim,λb b' x x' k c c' hb=>by simp at hb,λb x hb=>by simp at hb,λg cs hg=>?_⟩;exact xf.mono zmG g 0 cs (R.glo g cs hg)
  have ra:kc W (tf (λ_=>False) loc []) loc [] [.agg ((enc x).map lit),.agg ((enc y).map lit)] [.agg (enc x).toArray,.agg (enc y).toArray]:=by refine⟨⟨_,rfl,gT⟩,⟨_,rfl,gT⟩,trivial⟩
  refine Xp (callsIn_wide.1 (hE x y (λ_=>False) W loc _ R0 ra)) ?_;rintro e w' ⟨v,d2,h2,l',rfl,⟨rfl,rfl⟩,R',E',rd⟩;refine⟨?_,tp E'.size (λb hb=>E'.same b hb dT) E'.tape⟩;have:v=.int .i64 (cf x y):=by simpa[Rel,FL] using rd
  rw[this]
theorem nI{P:Program}{ρ:Ren}{Γ:au}(ok:POk P)(L:SlLaysF0.n6 P ρ){α:Type}[Inhabited α]{enc:α->oR}{k:Nat}(aE:∀w,(isAgg (ρ.t 24)).run P w=.ok true w)(zE:∀w,(Go.sizeOf (ρ.t 24)).run P w=.ok k w)(hk:∀x,(enc x).length=k)(h1:∀x,∀v∈enc x,v.oneCell'=true){cf:α->α->Int} (hO:Sort.SWO (ltOf cf)) {g:Nat} (hg:fK P g=true) (hE:∀x y,Ev P Γ g [.agg ((enc x).map lit),.agg ((enc y).map lit)] [] (eO (cf x y)) []){h:aT} {b e:Nat} {l:List α} (hb:h[b]? = some (.eY (u5 enc l) e k)) (hl:l.length<4611686018427387904) (hT:∀x∈l,∀y∈l,(ltOf cf) x y=false->(ltOf cf) y x=false->x=y) :Ev P Γ (ρ.f 6) [.ref (.eY b e),.p (.v (.func (.func g) #[] #[]))] h (.Pp []) (h.set b (.eY (u5 enc (l.mergeSort λx y=>!(ltOf cf) y x)) e k)):=by
  intro O w loc vs R ra;obtain⟨y,rfl⟩:∃y,vs=[y,.func (.func g) #[] #[]]:=by
    match vs,ra with
    | [y, z], r => exact ⟨y, by have : z = .func (.func g) #[] #[] := by simpa [Rel, FL, kc] using r.2
                                rw[this]⟩
    | [],r=>simp[kc] at r
    | [_],r=>simp[kc] at r
    | _::_::_::_,r=>simp[kc] at r
  have r:=ra.1;simp only[Rel,qI,hb] at r;have hv:=r.2.2 trivial;have B:=R.fI b _ hb;simp only[zm] at B;have hlen:(u5 enc l).length=l.length:=by simp[u5]
  refine callsIn_wide.2 ?_;cases ο:loc b with
  | none =>
    rw[ο] at hv B;obtain⟨hn,rfl⟩:=hv;have xd:l=[]:=by simpa[u5] using hn
    subst xd;refine Xp (AnyF.slices_SortFunc_none L none 0 _ w) ?_;rintro e' w' ⟨rfl,rfl⟩;have hset:h.set b (.eY (u5 enc (([]:List α).mergeSort λx y=>!(ltOf cf) y x)) e k)=h:=by
      apply Wx;intro i;by_cases hi:i=b;· subst hi;rw[bk hb,hb];simp
      · grind
    refine⟨.tuple #[],.Pp [],_,loc,rfl,⟨rfl,rfl⟩,?_,?_,?_⟩;· grind
    · rw[hset];exact Ext.refl _ _ _
    · simp[Rel,kc]
  | some p =>
    obtain⟨fI,cp⟩:=p;rw[ο] at hv B;obtain⟨o,cap,rfl,rfl,zmi⟩:=hv;simp only at B;obtain⟨o',cap',rc,c,T,fr,ys,zki,hcs,hle,hfr,hsz,zmf,pr,rest,hpr,hcl⟩:=B;obtain⟨rfl,rfl⟩:=dh rc;rw[tm] at zmf;have hys:=mZ zmf;subst hys;have hblk:fI<w.heap.size:=(V8.1 zki).1;have zkF:tf O loc h fI:=.inr ⟨b,_,mkP o cap,hb,by simp,ο⟩;have hH:HoldsK enc k w fI o l.toArray:=by
      intro j hj;have hj':j<l.length*k:=by simpa using hj
      have hc:c[o+j]? = some (flatK enc k l.toArray)[j]!:=by rw[<-Uo,hcl,<-m9 enc k hk l,<-hpr,jP,Ul (by simpa using hj')];rw[Uo,getElem!_pos _ j (by simpa using hj')];exact Array.getElem?_eq_getElem _
      constructor;· simp[Xh,zki,hc]
      · have:=hfr (o+j) (V8.1 hc).1
        obtain⟨lo,hi⟩:=fr
        simp only[World.frozen?,zki]
        grind
    have eg:∀args w,(callFunc g args).run P w=.ok (.enter g args) w:=λargs w=>by
      unfold fK at hg;split at hg;· rename_i fn hfn;exact zjP ok hfn hg args w
      · simp at hg
    rw[hlen];refine Xp (AnyQ.slices_SortFunc L k aE zE enc hk h1 cf hO g #[] fI o cap l.toArray w eg (C9 R zkF hE o _) hH hblk hl) ?_;rintro e' w' ⟨rfl,d',n,os,hP,hS,rfl⟩;have hd':d'.toList=l.mergeSort λx y=>!(ltOf cf) y x:=by
      obtain⟨hsz',_,zoP⟩:=hP;have e1:d'.extract 0 l.toArray.size=d':=by rw[<-hsz'];exact Zp
      rw[e1,Zp] at zoP;refine List.Perm.eq_of_pairwise (le:=λx y=>(!(ltOf cf) y x)=true) ?_ ?_ ?_ (zoP.trans (X0 _ _).symm)
      · intro a b' ha hb' h1 h2
        simp at h1 h2
        have ha':a∈l:=by simpa using zoP.mem_iff.1 ha
        have hb2:b'∈l:=(X0 _ _).mem_iff.1 hb'
        grind
      · rw[List.pairwise_iff_getElem]
        intro i j hi hj hij
        have hi':i<d'.size:=by simpa using hi
        have hj':j<d'.size:=by simpa using hj
        have:=hS i j (Nat.zero_le _) hij (by omega)
        grind
      · exact List.pairwise_mergeSort (λa b c h1 h2 => by
          simp at h1 h2 ⊢
          exact hO.ntrans _ _ _ h2 h1) (λa b=>by
          cases hab:(ltOf cf) b a
          · simp
          · have : (ltOf cf) a b = false:=by
              cases hba:(ltOf cf) a b
              · rfl
              · have:=hO.trans _ _ _ hab hba
                grind [hO.irrefl]
            simp[this]) l
    have hdA:d'=(l.mergeSort λx y=>!(ltOf cf) y x).toArray:=by rw[<-hd']
    have hlm:(l.mergeSort λx y=>!(ltOf cf) y x).length=l.length:=by simp
    subst hdA;clear hP hS hd';generalize (l.mergeSort λx y=>!(ltOf cf) y x)=m at hlm ⊢;have zoQ:(sortWorldK enc k w fI o n m.toArray os).heap[fI]? = some (.cells (UW id o (flatK enc k m.toArray) c) T fr):=by unfold sortWorldK;rw[VT _ _ (by grind [putRowK,Un,Ur,Uz])];simp[putRowK,Un,Ur,Uz,Xx,zki,Sort.onCells]
    have hfl:((l.map enc).flatten).length=l.length*k:=by rw[<-m9 enc k hk];simp
    have zlM:(UW id o (flatK enc k m.toArray) c).toList=pr++(m.map enc).flatten++rest:=by
      unfold UW;rw[Array.toList_mapIdx,hcl,<-m9 enc k hk m];apply Wx;intro i;rw[List.getElem?_mapIdx];by_cases hp:i<pr.length;· grind
      obtain⟨q,rfl⟩:∃q,i=pr.length+q:=⟨i-pr.length,by omega⟩;rw[jP,jP];subst hpr;by_cases hi:q<l.length*k
      · rw[Ul (by grind),Ul (by simpa[hlm] using hi)]
        simp_all
      · rw[T8 (by grind),T8 (by simp_all)]
        simp[hi,hlm,hfl]
    have key:=R.step (w':=sortWorldK enc k w fI o n m.toArray os) (l':=loc) (h':=h.set b (.eY (u5 enc m) e k)) b (.eY (u5 enc m) e k)
      (by simp[sortWorldK,WU,putRowK,Un,Ur,Uz]) ⟨rfl,rfl,rfl,by simp[sortWorldK,WU,putRowK,Un,Ur,Uz]⟩ (λi hi=>b9 _ _ hi) (bk hb) (λ_ _=>rfl)
      (λz hz=>by rw[hb] at hz;cases hz;exact⟨⟨Nat.le_refl _,λ_=>by grind,rfl⟩,λ_=>rfl⟩)
      (λk' hk' hno=>by
        have hkb:k'≠fI:=λe=>hno _ (mkP o cap) hb (by simp) (by rw[ο,e])
        unfold sortWorldK
        rw[VT _ _ (by grind [putRowK,Un,Ur,Uz])]
        grind [putRowK,Un,Ur,Uz])
      (λk' c' hk'=>.inl ⟨_,c',hb,by simp,hk'⟩)
      (λE=>by
        simp only[zm,ο]
        refine⟨o,cap,rfl,_,T,fr,(m.map enc).flatten,zoQ,?_,?_,?_,?_,?_,pr,rest,hpr,zlM⟩
        · grind [UW]
        · grind
        · grind [UW]
        · grind
        · rw[tm];exact gT)
    grind [Rel,kc]
end Go.Vi
open Go Go.Proofs Go.Shelf
namespace Go.Proofs
def Tryz.zoH:Go.Shelf.Ren:=⟨fun|6=>164|15=>109|14=>233|28=>186|29=>187|20=>289|21=>290|22=>291|23=>292|24=>293|25=>294|26=>295|27=>296|46=>322|47=>262|48=>263|49=>323|50=>324|57=>337|n=>n,fun|22=>104|24=>170|25=>243|3=>3|39=>196|0=>0|53=>263|55=>265|4=>4|46=>257|45=>256|50=>191|5=>5|9=>9|66=>334|70=>338|76=>361|77=>362|n=>n,fun|n=>n⟩
theorem Tryz.sortAtt:Yt S5 Tryz.zoH:={
 mixed:=by kernel_rfl
 f6:=⟨Tryz.f164.name,by decide,Tryz.func164.trans (congrArg some (by kernel_rfl))⟩
 f14:=⟨Tryz.f233.name,by decide,Tryz.func233.trans (congrArg some (by kernel_rfl))⟩
 f15:=Tryz.func109.trans (congrArg some (by kernel_rfl))
 f20:=⟨Tryz.f289.name,by decide,Tryz.func289.trans (congrArg some (by kernel_rfl))⟩
 f21:=⟨Tryz.f290.name,by decide,Tryz.func290.trans (congrArg some (by kernel_rfl))⟩
 f22:=⟨Tryz.f291.name,by decide,Tryz.func291.trans (congrArg some (by kernel_rfl))⟩
 f23:=⟨Tryz.f292.name,by decide,Tryz.func292.trans (congrArg some (by kernel_rfl))⟩
 f24:=⟨Tryz.f293.name,by decide,Tryz.func293.trans (congrArg some (by kernel_rfl))⟩
 f25:=⟨Tryz.f294.name,by decide,Tryz.func294.trans (congrArg some (by kernel_rfl))⟩
 f26:=⟨Tryz.f295.name,by decide,Tryz.func295.trans (congrArg some (by kernel_rfl))⟩
 f27:=⟨Tryz.f296.name,by decide,Tryz.func296.trans (congrArg some (by kernel_rfl))⟩
 f28:=Tryz.func186.trans (congrArg some (by kernel_rfl))
 f29:=Tryz.func187.trans (congrArg some (by kernel_rfl))
 f46:=⟨Tryz.f322.name,by decide,Tryz.func322.trans (congrArg some (by kernel_rfl))⟩
 f47:=Tryz.func262.trans (congrArg some (by kernel_rfl))
 f48:=Tryz.func263.trans (congrArg some (by kernel_rfl))
 f49:=⟨Tryz.f323.name,by decide,Tryz.func323.trans (congrArg some (by kernel_rfl))⟩
 f50:=⟨Tryz.f324.name,by decide,Tryz.func324.trans (congrArg some (by kernel_rfl))⟩
 f57:=⟨Tryz.f337.name,by decide,Tryz.func337.trans (congrArg some (by kernel_rfl))⟩
 t0:=Tryz.underlying0
 a0:=Tryz.isAgg0
 z0:=Tryz.sizeOf0
 v0:=Tryz.zeroValue0
 t3:=Tryz.underlying3
 a3:=Tryz.isAgg3
 z3:=Tryz.sizeOf3
 v3:=Tryz.zeroValue3
 t4:=Tryz.underlying4
 a4:=Tryz.isAgg4
 z4:=Tryz.sizeOf4
 v4:=Tryz.zeroValue4
 t5:=Tryz.underlying5
 a5:=Tryz.isAgg5
 z5:=Tryz.sizeOf5
 v5:=Tryz.zeroValue5
 t9:=Tryz.underlying9
 a9:=Tryz.isAgg9
 z9:=Tryz.sizeOf9
 v9:=Tryz.zeroValue9
 t22:=Tryz.underlying104
 a22:=Tryz.isAgg104
 z22:=Tryz.sizeOf104
 v22:=Tryz.zeroValue104
 t25:=Tryz.underlying243
 a25:=Tryz.isAgg243
 z25:=Tryz.sizeOf243
 v25:=Tryz.zeroValue243
 t39:=Tryz.underlying196
 a39:=Tryz.isAgg196
 z39:=Tryz.sizeOf196
 v39:=Tryz.zeroValue196
 t45:=Tryz.underlying256
 a45:=Tryz.isAgg256
 z45:=Tryz.sizeOf256
 v45:=Tryz.zeroValue256
 t46:=Tryz.underlying257
 a46:=Tryz.isAgg257
 z46:=Tryz.sizeOf257
 v46:=Tryz.zeroValue257
 t50:=Tryz.underlying191
 a50:=Tryz.isAgg191
 z50:=Tryz.sizeOf191
 v50:=Tryz.zeroValue191
 t53:=Tryz.underlying263
 a53:=Tryz.isAgg263
 z53:=Tryz.sizeOf263
 v53:=Tryz.zeroValue263
 t55:=Tryz.underlying265
 a55:=Tryz.isAgg265
 z55:=Tryz.sizeOf265
 v55:=Tryz.zeroValue265
 t66:=Tryz.underlying334
 a66:=Tryz.isAgg334
 z66:=Tryz.sizeOf334
 v66:=Tryz.zeroValue334
 t70:=Tryz.underlying338
 a70:=Tryz.isAgg338
 z70:=Tryz.sizeOf338
 v70:=Tryz.zeroValue338
 t76:=Tryz.underlying361
 a76:=Tryz.isAgg361
 z76:=Tryz.sizeOf361
 v76:=Tryz.zeroValue361
 t77:=Tryz.underlying362
 a77:=Tryz.isAgg362
 z77:=Tryz.sizeOf362
 v77:=Tryz.zeroValue362}
end Go.Proofs
namespace Go.Vi
set_option maxRecDepth 100000
set_option maxHeartbeats 4000000
open Go.Sort
def Mh(a b:uS):Int:=orI (cF a.eF b.eF) (cF a.f7 b.f7)
def leA(a b:uS):Bool:=!(ltOf Mh) b a
theorem GA(a b:uS):(ltOf Mh) a b=J ↔ a.eF<b.eF\/(a.eF=b.eF/\a.f7<b.f7):=by unfold ltOf Mh orI cF;grind
theorem zK(a b:uS):(ltOf Mh) a b=N ↔ ¬(a.eF<b.eF\/(a.eF=b.eF/\a.f7<b.f7)):=by rw[<-GA,Bool.not_eq_true]
theorem swoA:SWO (ltOf Mh) where
 irrefl x:=by rw[zK];omega
 trans x y z h1 h2:=by grind [GA]
 ntrans x y z h1 h2:=by grind [zK]
def encA(a:uS):oR:=[.int Χ a.f7,.int Χ a.eF,.int Χ a.CX,.int Χ a.NL,.int Χ a.ia]
abbrev P9(l:iN):List (bY):=l.map λa=>a.row.map .p
abbrev zcs(a:FuncId):Dp:=(.v (.func (.func a) #[] #[]))
theorem Da{h:aT}{b e:Nat}{l:iN}(hb:h[b]?=G (.eY (P9 l) e 5))(hl:l.length<4611686018427387904)(hT:∀x∈l,∀y∈l,x.eF=y.eF->x.f7=y.f7->x=y):Ev S5 ji 164 [gM (.eY b e),.p (zcs 165)] h (uN []) (h.set b (.eY (P9 (l.mergeSort leA)) e 5)) :=nI (α:=uS) (enc:=encA) (k:=5) (cf:=Mh) τ Tryz.sortAtt Tryz.isAgg170 Tryz.sizeOf170 (λ_=>rfl) (λx v hv=>by simp[encA] at hv;rcases hv with rfl|rfl|rfl|rfl|rfl<;>rfl) swoA Z (λx y=>lb []) hb hl
  (λx hx y hy h1 h2=>by
   grind [zK])
end Go.Vi
open Go Go.Proofs
namespace Go.Vi
set_option maxRecDepth 100000
set_option maxHeartbeats 4000000
structure EU where
 kind:Int
 sub:Int
 obj:Int
 lk:Int
 Z5:Int
 deriving Inhabited,DecidableEq
def EU.row(r:EU):dO:=[vi r.kind,vi r.sub,vi r.obj,vi r.lk,vi r.Z5]
abbrev sU(l:List EU):bv:=l.map EU.row
theorem Qa(l:List EU):(ad (sU l)).all (aL 5)=J:=by rw[TW];intro r hr;obtain⟨x,hx,rfl⟩:=T2.1 hr;obtain⟨y,_,rfl⟩:=T2.1 hx;rfl
abbrev zfl(a b:Nat)(d:eQ)(g:Int):bY:=[gM (.eY a b),ab (d.c.map Tc),ab d.p,ab (d.s.map Tj),ab (d.f.map Ta),eO g]
abbrev lkH(w:eQ)(bO:Int)(rs:List EU)(e:Nat):aT:=[eP (zfl 1 e w bO),.eY (ad (sU rs)) e 5]
abbrev ZQ(a:Nat)(b:eQ)(d:Int):bY:=[gM (.eY 1 a),ab (S2 Tc b.c),ab b.p,ab (S2 Tj b.s),ab (S2 Ta b.f),eO d]
abbrev zdI(a:List EU):bY:=[gM (qn 0 0),ab (sU a)]
abbrev zkd(a:List EU)(b:List (bY)):List (bY):=(ad (sU a)++b)
theorem Bu{w:eQ}{bO:Int}{rs qs:List EU}(hb:rs.length+qs.length<=1000000000):(Ev S5 lL 167 (zdI qs) (lkH w bO rs 0) (uN []) (lkH w bO (rs++qs) 1)):=Tw (yF (h':=[eP (ZQ 1 w bO),.eY (zkd rs (S2 (λx=>S2 D.p x) (sU qs))) 1 5]) (d:=D.Pp []) [((by(simp only[Qa,uO,Bool.true_and,Bool.and_eq_true,decide_eq_true_eq,Uw];omega)):(Tq (S2 (λx=>S2 D.p x) (sU qs)) (aL 5)&&uO (S7 (ad (sU rs))+S7 (S2 (λx=>S2 D.p x) (sU qs))) 40)=J)]) mW mW
abbrev zdg(a:EU):bY:=[eO a.kind,eO a.sub,eO a.obj,eO a.lk,eO a.Z5]
theorem yd{w:eQ}{bO:Int}{rs:List EU}{q:EU}(hb:rs.length<=999999999):(Ev S5 lL 167 [gM (qn 0 0),gM (.eY 2 0)] (lkH w bO rs 0++[.eY [(zdg q)] 0 5]) (uN []) (lkH w bO (rs++[q]) 1++[.eY [(zdg q)] 0 5])):=by let v0:bY:=(zdg q);exact Tw (yF (h':=[eP (ZQ 1 w bO),.eY (ad (sU rs)++[v0]) 1 5,.eY [v0] 0 5]) (d:=D.Pp []) [((by subst v0;(simp[aL,D.one,Up,uO];omega)):(Tq [v0] (aL 5)&&uO (S7 (ad (sU rs))+S7 [v0]) 40)=J)]) (by subst v0;grind) (by subst v0;(simp only[lkH,sU,ad,Uh];rfl))
def rdN:EU:=⟨12,0,0,0,1⟩
theorem zL{w:eQ}(hw:w.ok){bO:Int}(h:aT):Ev S5 lL 105 [mS w.l,eO bO] h (uN [ab (zaQ (af w.f bO)),gM (.eY h.length 0)]) (h++[.eY (ad (sU [rdN])) 0 5]) :=Tp (qj hw.lf hw.sf h)
def rdT(kk ks ko eF:Int):List EU:=match znp eF with
 |true=>[]
 |false=>[⟨kk,ks,ko,eF,S6.wrap (eF+1)⟩]
theorem zM(kk ks ko eF:Int):ic kk ks ko eF=sU (rdT kk ks ko eF):=by unfold ic rdT;cases znp eF<;>rfl
theorem fk(kk ks ko eF:Int):(rdT kk ks ko eF).length<=1:=by unfold rdT;grind
theorem jk{w:eQ}(hw:w.ok){n eF bO:Int}(h:aT):Ev S5 lL 32 (zbE w n eF bO) h (zg7 w n eF bO (sU (rdT 1 n 0 eF))) h:=by rw[<-zM];exact C7 hw h
theorem na{w:eQ}(hw:w.ok){eF bO:Int}(h:aT):Ev S5 lL 121 [mS w.l,eO eF,eO bO] h (uN [ag (bU w eF bO).1.row,ab (sU (rdT 4 0 0 eF))]) h:=by rw[<-zM];exact C5 hw h
abbrev zct(a b:List EU):List (bY):=(ad (sU (a++b)))
noncomputable abbrev zN(w:eQ)(bO:Int)(rs:List EU):aT:=[eP (ZQ 1 w bO),.eY (zct rs [rdN]) 1 5,.eY [(zdg rdN)] 0 5]
noncomputable abbrev zO(w:eQ)(bO:Int)(rs:List EU):aT:=[eP (ZQ 0 w bO),.eY (ad (sU rs)) 0 5]
abbrev zdv:D:=(gM (qn 0 5))
abbrev zg3:Do:=[E6 (zlw 2)]
theorem u6{w:eQ}(hw:w.ok){bO:Int}{rs:List EU}(hb:rs.length<=999999000):(Ev S5 lL 93 za8 (lkH w bO rs 0) (ab (zaQ (af w.f bO))) (lkH w bO (rs++[rdN]) 1)):=by let v0:bY:=(ZQ 1 w bO);refine Tw (Yd (d2:=ab (zcd (af w.f bO))) (h2:=[eP v0,.eY (zct rs [rdN]) 1 5]) (φ:=[Tl 2 (eP v0)=J,Tl 2 (.eY (zct rs [rdN]) 1 5)=J]) zg3 (yF (h':=(zN w bO rs)) (d:=ab (zcd (af w.f bO))) [.c (@zL w hw bO (zO w bO rs)),pe Θ,pe zcM,pe (TF (TC w)),pe Θ,pe zdv,po (TO bO),.c (@yd w bO rs rdN ?_)]) Z ⟨rfl,?_,trivial⟩) (by subst v0;grind) (by subst v0;grind)<;>subst v0<;>(first|omega|exact aD _ _)
noncomputable abbrev rO(w:eQ)(bO:Int)(rs:List EU):aT:=[eP (ZQ 0 w bO),.eY (ad (sU rs)) 0 5,eP zaa,eP zaa]
noncomputable abbrev fQ(w:eQ)(bO:Int)(rs:List EU):aT:=[eP (ZQ 0 w bO),.eY (ad (sU rs)) 0 5,eP zaa]
abbrev ZC(a:eQ)(b e f:Int):bY:=[am (ac a b e f).fst.name,eO (ac a b e f).fst.number,eO (ac a b e f).fst.ia,eO (ac a b e f).fst.rep,eO (Te (ac a b e f).fst.NJ).op,eO (Te (ac a b e f).fst.NJ).c,am (Te (ac a b e f).fst.NJ).nm,eO (Te (ac a b e f).fst.NJ).n,eO (Te (ac a b e f).fst.NJ).d,ab (Te (ac a b e f).fst.NJ).ks,eO (Te (ac a b e f).fst.bar).op,eO (Te (ac a b e f).fst.bar).c,am (Te (ac a b e f).fst.bar).nm,eO (Te (ac a b e f).fst.bar).n,eO (Te (ac a b e f).fst.bar).d,ab (Te (ac a b e f).fst.bar).ks]
abbrev zbF(a:Nat)(b c:Int):bY:=[gM (qn a 0),eO b,eO c]
abbrev zb8(a:List EU)(b:Nat):ql:=(.eY (ad (sU a)) b 5)
abbrev zcL(a:List EU)(b c d:Int):List (bY):=(ad (sU (a++rdT b c 0 d)))
theorem qO{w:eQ}(hw:w.ok){bO n eF:Int}{rs:List EU}(hb:rs.length<=999999000):(Ev S5 lL 163 (zbF 0 n eF) (lkH w bO rs 0) (ag (ac w n eF bO).1.row) (lkH w bO (rs++rdT 1 n 0 eF) 1)):=by let v0:bY:=(ZQ 1 w bO);refine Tw (Yd (d2:=TF (ZC w n eF bO)) (h2:=[eP v0,.eY (zcL rs 1 n eF) 1 5]) (φ:=[Tl 2 (eP v0)=J,Tl 2 (zb8 (rs++rdT 1 n 0 eF) 1)=J]) zg3 (yF (h':=[eP v0,.eY (zcL rs 1 n eF) 1 5,eP (ZC w n eF bO),eP (ZC w n eF bO)]) (d:=TF (ZC w n eF bO)) [.v (@jk w hw n eF bO (fQ w bO rs)),pe Θ,pe Θ,pe zcM,pe zcM,pe (TF (TC w)),pe (TF (TC w)),pe Θ,pe Θ,pe zdv,pe zdv,po (TO bO),po (TO bO),pr (fQ w bO rs),(@jk w hw n eF bO (fQ w bO rs)),(@jk w hw n eF bO (rO w bO rs)),.c ((fX [0,1] (@Bu w bO rs (rdT 1 n 0 eF) (by subst v0;(have:=fk 1 n 0 eF;omega))) ⟨?_,trivial⟩ ⟨?_,trivial⟩):Ev S5 lL 167 [gM (qn 0 0),ab (sU (rdT 1 n 0 eF))] [eP (ZQ 0 w bO),.eY (ad (sU rs)) 0 5,eP zaa,eP (ZC w n eF bO)] (D.Pp []) [eP v0,.eY (zcL rs 1 n eF) 1 5,eP zaa,eP (ZC w n eF bO)])]) Z ⟨rfl,(by subst v0;exact aD _ _),trivial⟩) (by subst v0;rfl) (by subst v0;grind)<;>subst v0<;>(exact aj _ _)
abbrev zfa(a:List EU)(b c d:Int):bv:=(sU (a++[{kind:=5,sub:=b,obj:=c,lk:=0,Z5:=d}]))
noncomputable abbrev fR(w:eQ)(bO:Int)(st:Int)(n:Int)(eF:Int)(rs:List EU):aT:=[eP (ZQ 1 w bO),.eY (ad (zfa rs st n eF)) 1 5,eP (Z8 5 st n),.eY [[eO 5,eO st,eO n,eO 0,eO eF]] 0 5]
theorem zP{w:eQ}(hw:w.ok){bO st n eF:Int}{rs:List EU}(hb:rs.length<=999999000):(Ev S5 lL 162 [gM (qn 0 0),eO st,eO n,eO eF] (lkH w bO rs 0) (ab ((aH 5 st n 0 eF bO w.f).map PtT.row)) (lkH w bO (rs++[⟨5,st,n,0,eF⟩]) 1)):=by let v0:bY:=(ZQ 1 w bO);let v1:=S2 PtT.row (aH 5 st n 0 eF bO w.f);refine Tw (Yd (d2:=ab v1) (h2:=[eP v0,.eY (ad (zfa rs st n eF)) 1 5]) (φ:=[Tl 2 (eP v0)=J,Tl 2 (zb8 (rs++[{kind:=5,sub:=st,obj:=n,lk:=0,Z5:=eF}]) 1)=J]) zg3 (yF (h':=(fR w bO st n eF rs)) (d:=ab v1) [.c ((fX [0,1,3] (@yd w bO rs ({kind:=5,sub:=st,obj:=n,lk:=0,Z5:=eF}) (by subst v0 v1;omega)) ⟨?_,?_,trivial⟩ ⟨?_,?_,trivial⟩):Ev S5 lL 167 [gM (qn 0 0),gM (.eY 3 0)] [eP (ZQ 0 w bO),.eY (ad (sU rs)) 0 5,eP (Z8 5 st n),.eY [[eO 5,eO st,eO n,eO 0,eO eF]] 0 5] (D.Pp []) (fR w bO st n eF rs)),pe Θ,pe Θ,pe Θ,pe Θ,pe (TF (Z8 5 st n)),.v (Tp (Γ':=lL) (@iM 5 st n 0 eF bO (w.f) (by subst v0 v1;exact hw.sf) (fR w bO st n eF rs)))]) Z ⟨rfl,(by subst v0 v1;exact aD _ _),trivial⟩) (by subst v0 v1;grind) (by subst v0 v1;grind)<;>subst v0 v1<;>(first|rfl|exact aj _ _)
theorem zQ{h:aT}{b e:Nat}{l:iN}(hb:h[b]?=G (.eY (ad (l.map Tb)) e 5))(hl:l.length<4611686018427387904)(hT:∀x∈l,∀y∈l,x.eF=y.eF->x.f7=y.f7->x=y):Ev S5 ji 164 [gM (.eY b e),.p (zcs 165)] h (uN []) (h.set b (.eY (ad ((l.mergeSort leA).map Tb)) e 5)):=by
 have e1:∀l:iN,ad (l.map Tb)=P9 l:=λl=>by simp[ad]
 rw[e1] at hb ⊢;exact Da hb hl hT
abbrev zdm(a:Int):bY:=[eO a,gM (.eY 3 0)]
abbrev ofH(w:eQ)(bO st:Int)(rs:List EU)(ats:iN):aT:=[eP (zfl 1 1 w bO),.eY (ad (sU rs)) 1 5,eP (zdm st),.eY (ad (ats.map Tb)) 0 5]
abbrev ziy(a:Nat):Nat×D:=(a,gM (qn 2 0))
abbrev zdt:Nat×D:=(ziy 6)
abbrev zhA(a b:Nat):Nat×D:=(a,gM (qn b 0))
abbrev zdM:Nat×D:=(zhA 0 0)
abbrev oiS(w:eQ)(bO st eF:Int)(ns:bv)(ni n:Int)(ps:bv)(rs:List EU)(ats:iN)(j:Int):AS :={t:=qm 67 0 [zdM,(1,eO st),(2,eO eF),zdt,(8,eO n),(16,ab ns),(17,eO ns.length),(18,eO ni),(26,ab ps),(27,eO ps.length),(28,eO j)],h:=ofH w bO st rs ats,m:=[]}
abbrev RA:=List EU×iN
def zkM(p:PtT):Bool:=fE (TY p.value 16>12)||fE (S6.wrap (TR p.value 16)>=7)
def GB(w:eQ)(bO n:Int)(p:PtT):uS:=⟨n,p.eF,TY p.value 16,S6.wrap (TR p.value 16),(ac w n p.eF bO).1.ia⟩
def ye(w:eQ)(bO n:Int)(s:RA)(p:PtT):RA:=bif zkM p then s else (s.1++rdT 1 n 0 p.eF,s.2++[GB w bO n p])
theorem u7(l:iN)(a b c d e:Int):ad (l.map Tb)++[[eO a,eO b,eO c,eO d,eO e]]=ad ((l++[uS.mk a b c d e]).map Tb):=by simp[Tb]
abbrev zae(a b c:Nat)(d:List (bY))(e f g:Nat)(h:ql):Bool:=Tl a (zjv (b+1+1) c (d) e f g h)
abbrev zcl(a:Nat):At:=(G (gM (.eY a 0)))
abbrev zcI(a b:Nat):Nat×D:=(a,eO (↑b:Int))
abbrev zdb(a:iN):List (bY):=ad (S2 Tb a)
abbrev zfV:D:=(gM (qn 4 0))
abbrev zhK(a:Nat)(b:List (bY))(c d e:Nat)(f:ql):ql:=(zjv (0+1+1+1) a b c d e (f))
abbrev zjW(a:List EU)(b c:Int):bv:=(sU (a++rdT 1 b 0 c))
theorem Qb{w:eQ}(hw:w.ok){bO st eF:Int}{ns:List (List Dp)}{ni n:Int}{ps:List (List Dp)}{rs0 rs:List EU}{ats:List uS}{j:Nat}{p:PtT}(hr:ao (j:Int) ps p.row 2)(oA:fE ((j:Int)<(ps.length:Int))=true)(hwr:S6.wrap ((j:Int)+1)=((j+1:Nat):Int))(hb:rs.length<=999998000)(ha:ats.length<=999998000):(CW S5 lL (lkH w bO rs0 0) false (sub WN 1) (oiS w bO st eF ns ni n ps rs ats j) .normal (oiS w bO st eF ns ni n ps (ye w bO n (rs,ats) p).1 (ye w bO n (rs,ats) p).2 ((j+1:Nat):Int))):=by
 cases sR:fE (TY p.value 16>12)||fE (S8 S6 (TR p.value 16)>=7)
 ·let v0:List D:=[eO n,eO p.eF,eO (TY p.value 16),eO (S8 S6 (TR p.value 16)),eO (ac w n p.eF bO).fst.ia]
  let v1:List D:=[.ref (.eY 1 1),ab (S2 Tc w.c),ab w.p,ab (S2 Tj w.s),ab (S2 Ta w.f),eO bO]
  let v2:List D:=[.ref (.eY 1 2),ab (S2 Tc w.c),ab w.p,ab (S2 Tj w.s),ab (S2 Ta w.f),eO bO]
  refine yX {t:=qm 67 0 [(0,.ref (.ptr 0 0)),(1,eO st),(2,eO eF),(6,.ref (.ptr 2 0)),(8,eO n),(16,ab ns),(17,eO (↑(S7 ns):Int)),(18,eO ni),(26,ab ps),(27,eO (↑(S7 ps):Int)),(28,eO (S8 S6 ((↑j:Int)+1)))],h:=[.var v1,.eY (ad (sU (rs++rdT 1 n 0 p.eF))) 1 5,.var [eO st,.ref (.eY 3 0)],.eY (ad (S2 Tb ats)++[v0]) 0 5],m:=[]} Tr [.st (.mask [0,1,2,6,8,16,17,18,26,27,28]),.st (.ren 1 1),.st (.ren 3 0),.st (.P1 4)] [.b oA,.r hr,(rfl:(!fE (16=0))=true),(rfl:(!fE (16=0))=true),.b sR,.c ((fX [0,1] (Ev.upX [0,1] (@qO w hw bO n (p.eF) rs (by subst v0 v1 v2;grind)) (by kernel_rfl) ⟨(by subst v0 v1 v2;exact aj _ _),trivial⟩ ⟨(by subst v0 v1 v2;exact aj _ _),trivial⟩) ⟨(by subst v0 v1 v2;exact aj _ _),trivial⟩ ⟨(by subst v0 v1 v2;exact aj _ _),trivial⟩):Ev S5 lL 163 [.ref (.ptr 0 0),eO n,eO p.eF] [.var v1,.eY (ad (sU rs)) 1 5,.var [eO st,.ref (.eY 3 0)],.eY (ad (S2 Tb ats)) 0 5,.var [eO p.eF,eO p.value]] (TF [am (ac w n p.eF bO).fst.name,eO (ac w n p.eF bO).fst.number,eO (ac w n p.eF bO).fst.ia,eO (ac w n p.eF bO).fst.rep,eO (Te (ac w n p.eF bO).fst.NJ).op,eO (Te (ac w n p.eF bO).fst.NJ).c,am (Te (ac w n p.eF bO).fst.NJ).nm,eO (Te (ac w n p.eF bO).fst.NJ).n,eO (Te (ac w n p.eF bO).fst.NJ).d,ab (Te (ac w n p.eF bO).fst.NJ).ks,eO (Te (ac w n p.eF bO).fst.bar).op,eO (Te (ac w n p.eF bO).fst.bar).c,am (Te (ac w n p.eF bO).fst.bar).nm,eO (Te (ac w n p.eF bO).fst.bar).n,eO (Te (ac w n p.eF bO).fst.bar).d,ab (Te (ac w n p.eF bO).fst.bar).ks]) [.var v2,.eY (ad (sU (rs++rdT 1 n 0 p.eF))) 2 5,.var [eO st,.ref (.eY 3 0)],.eY (ad (S2 Tb ats)) 0 5,.var [eO p.eF,eO p.value]]),(?_:(Tq [v0] (aL 5)&&uO (S7 (ad (S2 Tb ats))+S7 [v0]) 40)=true),pe (.ref (.ptr 2 1)),pe (.ref (.ptr 2 1)),pe (.ref (.ptr 2 1)),po (some (.ref (.eY 3 0))),po (some (.ref (.eY 3 0))),po (some (.ref (.eY 3 0))),pe (.ref (.ptr 4 0)),pe (.ref (.ptr 4 0)),po (some (eO p.eF)),po (some (eO p.eF)),pe (.ref (.ptr 4 0)),po (some (eO p.eF)),pe (.ref (.ptr 2 1)),(vM (sU (rs++rdT 1 n 0 p.eF)) 1 2 1),(vMa (S2 Tb ats) [v0] 1 2 1),pr [v0],(vMa (S2 Tb ats) [v0] 3 1 0),(vM (sU (rs++rdT 1 n 0 p.eF)) 3 1 0),pr [v0],(rfl:Tl 4 (match 0==3 with|true=>.eY (ad (S2 Tb ats)++[v0]) 0 5|false=>CV (ar 3 1 0) (match 0==1 with|true=>.eY (ad (sU (rs++rdT 1 n 0 p.eF))) 1 5|false=>CV (ar 1 2 1) (.var v2)))=true),(?_:Tl 4 (match 0+1==3 with|true=>.eY (ad (S2 Tb ats)++[v0]) 0 5|false=>CV (ar 3 1 0) (match 0+1==1 with|true=>.eY (ad (sU (rs++rdT 1 n 0 p.eF))) 1 5|false=>CV (ar 1 2 1) (.eY (ad (sU (rs++rdT 1 n 0 p.eF))) 2 5)))=true),(rfl:Tl 4 (match 0+1+1==3 with|true=>.eY (ad (S2 Tb ats)++[v0]) 0 5|false=>CV (ar 3 1 0) (match 0+1+1==1 with|true=>.eY (ad (sU (rs++rdT 1 n 0 p.eF))) 1 5|false=>CV (ar 1 2 1) (.var [eO st,.ref (.eY 3 1)])))=true),(iVa 4 (S2 Tb ats) [v0] 0 5)] (by subst v0 v1 v2;grind) (by subst v0 v1 v2;(have hh:zkM p=false:=sR;simp only[hwr,ye,hh,cond_false,u7];first|done|rfl))<;>subst v0 v1 v2<;>(first|exact br|(simp[aL,D.one,Up,uO];omega))
 ·let v0:List D:=[.ref (.eY 1 1),ab (S2 Tc w.c),ab w.p,ab (S2 Tj w.s),ab (S2 Ta w.f),eO bO]
  refine yX {t:=qm 67 0 [(0,.ref (.ptr 0 0)),(1,eO st),(2,eO eF),(6,.ref (.ptr 2 0)),(8,eO n),(16,ab ns),(17,eO (↑(S7 ns):Int)),(18,eO ni),(26,ab ps),(27,eO (↑(S7 ps):Int)),(28,eO (S8 S6 ((↑j:Int)+1)))],h:=[.var v0,.eY (ad (sU rs)) 1 5,.var [eO st,.ref (.eY 3 0)],.eY (ad (S2 Tb ats)) 0 5],m:=[]} Tr [.st (.mask [0,1,2,6,8,16,17,18,26,27,28]),.st (.ren 1 1),.st (.ren 3 0),.st (.P1 4)] [.b oA,.r hr,.b (rfl:(!fE (16=0))=true),(rfl:(!fE (16=0))=true),sR,(?_:S2 (Tz (ar 1 1 1)) (ad (sU rs))=ad (sU rs)),(?_:S2 (Tz (ar 1 1 1)) (ad (S2 Tb ats))=ad (S2 Tb ats)),(?_:S2 (Tz (ar 3 0 0)) (ad (S2 Tb ats))=ad (S2 Tb ats)),(?_:S2 (Tz (ar 3 0 0)) (ad (sU rs))=ad (sU rs)),(rfl:Tl 4 (match 0==3 with|true=>.eY (ad (S2 Tb ats)) 0 5|false=>CV (ar 3 0 0) (match 0==1 with|true=>.eY (ad (sU rs)) 1 5|false=>CV (ar 1 1 1) (.var v0)))=true),(?_:Tl 4 (match 0+1==3 with|true=>.eY (ad (S2 Tb ats)) 0 5|false=>CV (ar 3 0 0) (match 0+1==1 with|true=>.eY (ad (sU rs)) 1 5|false=>CV (ar 1 1 1) (.eY (ad (sU rs)) 1 5)))=true),(rfl:Tl 4 (match 0+1+1==3 with|true=>.eY (ad (S2 Tb ats)) 0 5|false=>CV (ar 3 0 0) (match 0+1+1==1 with|true=>.eY (ad (sU rs)) 1 5|false=>CV (ar 1 1 1) (.var [eO st,.ref (.eY 3 0)])))=true),(?_:Tl 4 (match 0+1+1+1==3 with|true=>.eY (ad (S2 Tb ats)) 0 5|false=>CV (ar 3 0 0) (match 0+1+1+1==1 with|true=>.eY (ad (sU rs)) 1 5|false=>CV (ar 1 1 1) (.eY (ad (S2 Tb ats)) 0 5)))=true)] (by subst v0;grind) (by subst v0;(have hh:zkM p=true:=sR;simp[hwr,ye,hh];first|done|rfl))<;>subst v0<;>(first|exact aB _ _|exact br)
abbrev zco(a b:Int)(c:bv)(d:D)(e:Int):List (Nat×D):=[(zhA 0 0),(1,eO a),(2,eO b),(ziy 6),(16,ab c),(17,d),(18,eO e)]
theorem Qc{w:eQ}{bO st eF:Int}{ns:bv}{ni n:Int}{ps:bv}{rs0 rs:List EU}{ats:iN}{j:Nat}(oA:fE ((j:Int)<(ps.length:Int))=N):(CW S5 lL (lkH w bO rs0 0) N (sub WN 1) (oiS w bO st eF ns ni n ps rs ats j) (EY 2) {t:=qm 67 0 (zco st eF ns (eO ns.length) ni),h:=ofH w bO st rs ats,m:=[]}):=yx [E6 (IW [0,1,2,6,16,17,18])] [.b oA]
theorem Bw{w:eQ}{bO n:Int}{s:RA}(p:PtT):(ye w bO n s p).1.length<=s.1.length+1/\(ye w bO n s p).2.length<=s.2.length+1:=by
 unfold ye;cases zkM p;·have:=fk 1 n 0 p.eF;simp;omega
 ·simp
theorem oi_cw{w:eQ}(hw:w.ok){bO st eF:Int}{ns:bv}{ni n:Int}{ps:List PtT}(hp:ps.length<=2000){rs0 rs:List EU}{ats:iN}(hb:rs.length<=999990000)(ha:ats.length<=999990000):CW S5 lL (lkH w bO rs0 0) false (.loop (sub WN 1)) (oiS w bO st eF ns ni n (ps.map PtT.row) rs ats 0) (.exit 2) {t:=qm 67 0 (zco st eF ns (eO ns.length) ni),h:=ofH w bO st (ps.foldl (ye w bO n) (rs,ats)).1 (ps.foldl (ye w bO n) (rs,ats)).2,m:=[]}:=by
 have hl:ah ps:=by unfold ah;omega
 have:=UR (P:=S5) (Γ:=lL) (h0:=lkH w bO rs0 0) (rd:=false) (c:=sub WN 1) (σ:=RA) (ρ:=Empty) ps (λp s=>.inl (ye w bO n s p))
  (λj s=>oiS w bO st eF ns ni n (ps.map PtT.row) s.1 s.2 (j:Int)) (.exit 2) (λs=>{t:=qm 67 0 (zco st eF ns (eO ns.length) ni),h:=ofH w bO st s.1 s.2,m:=[]}) (λr=>r.elim)
  (λj s=>s.1.length<=rs.length+j/\s.2.length<=ats.length+j) (by simp) (λr=>r.elim) ?_ ?_ (rs,ats) (by simp)
 ·rw[aM] at this;exact this
 ·intro j p s hpj hs;have hi:=(Td.1 hpj).1;refine⟨λs' h=>by cases h;have:=Bw (w:=w) (bO:=bO) (n:=n) (s:=s) p;omega,Qb hw (rowAt hpj rfl) (F1 _ hi) (sV hi hl) (by omega) (by omega)⟩
 ·intro s _;exact Qc (aR _ ps)
theorem dq{kk ks ko lk to bO:Int}{l:AT}:(aH kk ks ko lk to bO l).length<=1024:=by
 have key:∀(rs:bV) (ns:iS) (l:List PtT),(ns.foldl (λl n=>ptF (rs.getD n 0) n l) l).length<=l.length+ns.length:=by
  intro rs ns;induction ns with
  |nil=>intro l;simp
  |cons n ns ih=>intro l;have:=ih (ptF (rs.getD n 0) n l);have h2:=Gy (rs.getD n 0) n l;grind
 unfold aH Kg;refine Vj (key _ _ _) ?_;have:vF to<=1024:=by unfold vF;split<;>omega
 simp only[List.length_nil,Zx];have:0<=Mg lk:=Gz lk;omega
abbrev ooS(w:eQ)(bO st eF:Int)(ns:bv)(rs:List EU)(ats:iN)(i:Int):AS :={t:=qm 67 0 (zco st eF ns (eO ns.length) i),h:=ofH w bO st rs ats,m:=[]}
def ii(w:eQ)(bO st eF:Int)(s:RA)(n:Int):RA:=(aH 5 st n 0 eF bO w.f).foldl (ye w bO n) (s.1++[⟨5,st,n,0,eF⟩],s.2)
noncomputable abbrev Db(w:eQ)(bO:Int)(st:Int)(rs:List EU)(ats:iN):aT:=[eP (ZQ 1 w bO),.eY (ad (sU rs)) 1 5,eP (zdm st),.eY (zdb ats) 0 5]
theorem Qd{w:eQ}(hw:w.ok){bO st eF:Int}{ns:List (List Dp)}{n:Int}{rs0 rs:List EU}{ats:List uS}{i:Nat}(hr:ao (i:Int) ns [vi n] 1)(oA:fE ((i:Int)<(ns.length:Int))=true)(hwr:S6.wrap ((i:Int)+1)=((i+1:Nat):Int))(hb:rs.length<=999980000)(ha:ats.length<=999980000):(CW S5 lL (lkH w bO rs0 0) false (sub WN 0) (ooS w bO st eF ns rs ats i) .normal (ooS w bO st eF ns (ii w bO st eF (rs,ats) n).1 (ii w bO st eF (rs,ats) n).2 ((i+1:Nat):Int))):=by
 have xd:=(@oi_cw (w) (hw) (bO) (st) (eF) (ns) ((↑i:Int)) (n) (aH 5 st n 0 eF bO w.f) (by first|assumption|rfl|omega|exact aB _ _|exact Vj dq (by omega)|(simp;omega)) (rs0) (rs++[{kind:=5,sub:=st,obj:=n,lk:=0,Z5:=eF}]) (ats) (by grind) (by grind))
 let v0:=TE (ye w bO n) (rs++[{kind:=5,sub:=st,obj:=n,lk:=0,Z5:=eF}],ats) (aH 5 st n 0 eF bO w.f)
 refine yX {t:=qm 67 0 [(0,.ref (.ptr 0 0)),(1,eO st),(2,eO eF),(6,.ref (.ptr 2 0)),(16,ab ns),(17,eO (↑(S7 ns):Int)),(18,eO (S8 S6 ((↑i:Int)+1)))],h:=[.var [.ref (.eY 1 1),ab (S2 Tc w.c),ab w.p,ab (S2 Tj w.s),ab (S2 Ta w.f),eO bO],.eY (ad (sU v0.fst)) 1 5,.var [eO st,.ref (.eY 3 0)],.eY (ad (S2 Tb v0.2)) 0 5],m:=[]} Tr [.st (.mask [0,1,2,6,16,17,18])] [.b oA,.r hr,.c ((fX [0,1] (Ev.upX [0,1] (@zP w hw bO st n eF rs (by subst v0;grind)) (by kernel_rfl) ⟨?_,trivial⟩ ⟨?_,trivial⟩) ⟨?_,trivial⟩ ⟨?_,trivial⟩):Ev S5 lL 162 [.ref (.ptr 0 0),eO st,eO n,eO eF] (Db w bO st rs ats) (ab (S2 PtT.row (aH 5 st n 0 eF bO w.f))) [.var [.ref (.eY 1 2),ab (S2 Tc w.c),ab w.p,ab (S2 Tj w.s),ab (S2 Ta w.f),eO bO],.eY (ad (sU (rs++[{kind:=5,sub:=st,obj:=n,lk:=0,Z5:=eF}]))) 2 5,.var [eO st,.ref (.eY 3 0)],.eY (ad (S2 Tb ats)) 0 5]),(vM (sU (rs++[{kind:=5,sub:=st,obj:=n,lk:=0,Z5:=eF}])) 1 2 1),(vM (S2 Tb ats) 1 2 1),.o (.ren 1 1),.s [0,1,2,6,8,16,17,18,26,27,28] xd] (by subst v0;grind) (by subst v0;(simp only[hwr];rfl))<;>subst v0<;>(exact aj _ _)
theorem Qe{w:eQ}{bO st eF:Int}{ns:bv}{rs0 rs:List EU}{ats:iN}{i:Nat}(oA:fE ((i:Int)<(ns.length:Int))=N):(CW S5 lL (lkH w bO rs0 0) N (sub WN 0) (ooS w bO st eF ns rs ats i) (EY 0) {t:=qm 67 0 [zdt],h:=ofH w bO st rs ats,m:=[]}):=yx (zeI 6) [.b oA]
theorem tq{w:eQ}{bO n:Int}:∀(ps:List PtT) (s:RA),(ps.foldl (ye w bO n) s).1.length<=s.1.length+ps.length/\(ps.foldl (ye w bO n) s).2.length<=s.2.length+ps.length
 | [],s=>qk
 |p::ps,s=>by have h1:=Bw (w:=w) (bO:=bO) (n:=n) (s:=s) p;have h2:=tq (w:=w) (bO:=bO) (n:=n) ps (ye w bO n s p);grind
theorem GC{w:eQ}{bO st eF:Int}(s:RA)(n:Int):(ii w bO st eF s n).1.length<=s.1.length+1025/\(ii w bO st eF s n).2.length<=s.2.length+1024:=by unfold ii;have h1:=tq (w:=w) (bO:=bO) (n:=n) (aH 5 st n 0 eF bO w.f) (s.1++[⟨5,st,n,0,eF⟩],s.2);have h2:=dq (kk:=5) (ks:=st) (ko:=n) (lk:=0) (to:=eF) (bO:=bO) (l:=w.f);grind
theorem oo_g{w:eQ}(hw:w.ok){bO st eF:Int}{ns:bV}(hn:ns.length<=69000){rs0 rs:List EU}(hb:rs.length<=800000000){ats:iN}(ha:ats.length<=1000):CW S5 lL (lkH w bO rs0 0) false (.loop (sub WN 0)) (ooS w bO st eF (zaQ ns) rs ats 0) (.exit 0) {t:=qm 67 0 [zdt],h:=ofH w bO st (ns.foldl (ii w bO st eF) (rs,ats)).1 (ns.foldl (ii w bO st eF) (rs,ats)).2,m:=[]}:=by
 have hl:ah ns:=by unfold ah;omega
 have:=UR (P:=S5) (Γ:=lL) (h0:=lkH w bO rs0 0) (rd:=false) (c:=sub WN 0) (σ:=RA) (ρ:=Empty) ns (λn s=>.inl (ii w bO st eF s n))
  (λi s=>ooS w bO st eF (zaQ ns) s.1 s.2 (i:Int)) (.exit 0) (λs=>{t:=qm 67 0 [zdt],h:=ofH w bO st s.1 s.2,m:=[]}) (λr=>r.elim)
  (λi s=>s.1.length<=rs.length+i*1025/\s.2.length<=ats.length+i*1025) (by simp) (λr=>r.elim) ?_ ?_ (rs,ats) (by simp)
 ·rw[aM] at this;exact this
 ·intro i n s hni hs;have hi:=(Td.1 hni).1;refine⟨λs' h=>by cases h;have:=GC (w:=w) (bO:=bO) (st:=st) (eF:=eF) s n;omega,Qd hw (rowAt (row:=λn=>[vi n]) hni rfl) (F1 (λn=>[vi n]) hi) (sV hi hl) (by omega) (by omega)⟩
 ·intro s _;exact Qe (aR (λn=>[vi n]) ns)
theorem oo_cw{w:eQ}(hw:w.ok){bO st eF:Int}{ns:bV}(hn:ns.length<=69000){rs0 rs:List EU}(hb:rs.length<=800000000):CW S5 lL (lkH w bO rs0 0) false (.loop (sub WN 0)) (ooS w bO st eF (zaQ ns) rs [] 0) (.exit 0) {t:=qm 67 0 [zdt],h:=ofH w bO st (ns.foldl (ii w bO st eF) (rs,[])).1 (ns.foldl (ii w bO st eF) (rs,[])).2,m:=[]}:=oo_g hw hn hb (by simp)
def H1(w:eQ)(bO st eF:Int)(rs:List EU):RA:=(af w.f bO).foldl (ii w bO st eF) (rs++[rdN],[])
def zR(w:eQ)(bO st eF:Int)(rs:List EU):iN:=(H1 w bO st eF rs).2.mergeSort leA
theorem bF{fs:AT}{bO:Int}:(af fs bO).length<=fs.length:=by have:=jS (many:=sM fs bO) fs [];simp at this;unfold af EQ;simpa using this
noncomputable abbrev Qf(w:eQ)(bO:Int)(st:Int)(eF:Int)(rs:List EU):aT:=[eP (ZQ 1 w bO),.eY (ad (sU (TE (ii w bO st eF) (rs++[rdN],[]) (af w.f bO)).fst)) 1 5,eP (zdm st),.eY (zdb ((TE (ii w bO st eF) (rs++[rdN],[]) (af w.f bO)).2)) 0 5]
noncomputable abbrev Qg(w:eQ)(bO:Int)(st:Int)(eF:Int)(rs:List EU):aT:=[eP (ZQ 1 w bO),.eY (ad (sU (TE (ii w bO st eF) (rs++[rdN],[]) (af w.f bO)).fst)) 1 5,eP (zdm st),.eY (zdb (UF (H1 w bO st eF rs).2 leA)) 0 5]
abbrev zib(a b c:Nat)(d:bv)(e:ql):ql:=(match a==b with|true=>.EZ|false=>CV (cw b c d) (e))
theorem of_a{w:eQ}(hw:w.ok){bO st eF:Int}{rs:List EU}(hb:rs.length<=700000000)(hn:(af w.f bO).length<=69000)(hl:(H1 w bO st eF rs).2.length<4611686018427387904)(hT:∀x∈(H1 w bO st eF rs).2,∀y∈(H1 w bO st eF rs).2,x.eF=y.eF->x.f7=y.f7->x=y):(Ev S5 lL 91 (zbF 0 st eF) (lkH w bO rs 0) (mS [eO st,ab ((zR w bO st eF rs).map Tb)]) (lkH w bO (H1 w bO st eF rs).1 1)):=by have xd:=(@oo_cw (w) (hw) (bO) (st) (eF) (af w.f bO) (hn) (rs) (rs++[rdN]) mW);let v0:bY:=(ZQ 1 w bO);let v1:=S2 Tb (zR w bO st eF rs);let v2:=TE (ii w bO st eF) (rs++[rdN],[]) (af w.f bO);refine Tw (Yd (d2:=TF [eO st,ab v1]) (h2:=[eP v0,.eY (ad (sU v2.fst)) 1 5]) (φ:=[(zdb (UF (H1 w bO st eF rs).2 leA))=S2 (λx=>S2 D.p x) v1,S2 (Tz (cw 3 0 v1)) (ad (sU v2.fst))=ad (sU v2.fst),Tl 2 (zib 0 3 0 v1 (eP v0))=J,Tl 2 (match 0+1==3 with|true=>.EZ|false=>CV (cw 3 0 v1) (.eY (ad (sU v2.fst)) 1 5))=J]) [E6 (Λ 3 v1),E6 (zlw 2)] (yF (h':=(Qg w bO st eF rs)) (d:=TF (zdm st)) [.c ((fX [0,1] (@u6 w hw bO rs (by subst v0 v1 v2;grind)) ⟨(by subst v0 v1 v2;exact aj _ _),trivial⟩ ⟨(by subst v0 v1 v2;exact aj _ _),trivial⟩):Ev S5 lL 93 za8 [eP (ZQ 0 w bO),.eY (ad (sU rs)) 0 5,eP [eO st,nq]] (ab (zcd (af w.f bO))) [eP v0,.eY (zct rs [rdN]) 1 5,eP [eO st,nq]]),.o (.zhs 2 1 5),.s [0,1,2,6,16,17,18] xd,.c (Tp (Γ':=lL) (@zQ (Qf w bO st eF rs) 3 0 ((H1 w bO st eF rs).2) ?_ hl hT))]) Z ⟨?_,?_,rfl,?_,trivial⟩) Fb Fb<;>subst v0 v1 v2<;>(first|rfl|exact aB _ _|exact br)
def ptO(rs:bV)(n:Nat):Option PtT:=bif fE (rs.getD n 0>=0) then G ⟨(n:Int),rs.getD n 0⟩ else Y
theorem GD(rs:bV)(x to:Int):Kg rs x to=(US x.toNat (vF to-x).toNat).filterMap (ptO rs):=by
 have key:∀(ns:iS) (l:List PtT),ns.foldl (λl n=>ptF (rs.getD n 0) n l) l=l++ns.filterMap (ptO rs):=by
  intro ns;induction ns with
  |nil=>intro l;simp
  |cons n ns ih=>intro l;rw[TG,ih,X1];grind [ptF,ptO]
 unfold Kg;rw[key];simp
theorem Qh{rs:bV}{x to:Int}:(Kg rs x to).Pairwise λp q=>p.eF<q.eF:=by rw[GD];refine List.Pairwise.filterMap (R:=λa b=>a<b) (ptO rs) ?_ (List.pairwise_lt_range' ..);intro a b hab p hp q hq;unfold ptO at hp hq;grind
theorem Dc{kk ks ko lk to bO:Int}{l:AT}:(aH kk ks ko lk to bO l).Pairwise λp q=>p.eF<q.eF:=Qh
def Mi(w:eQ)(bO n:Int)(p:PtT):Option uS:=bif zkM p then Y else G (GB w bO n p)
def rdO(n:Int)(p:PtT):List EU:=bif zkM p then [] else rdT 1 n 0 p.eF
theorem yf(w:eQ)(bO n:Int):∀(ps:List PtT) (s:RA),ps.foldl (ye w bO n) s=(s.1++ps.flatMap (rdO n),s.2++ps.filterMap (Mi w bO n))
 | [],s=>qk
 |p::ps,s=>by rw[TG,yf w bO n ps,X1,Yl];grind [ye,Mi,rdO]
abbrev zS(w:eQ)(bO st eF n:Int):List PtT:=aH 5 st n 0 eF bO w.f
def co(w:eQ)(bO st eF n:Int):List EU:=⟨5,st,n,0,eF⟩::(zS w bO st eF n).flatMap (rdO n)
def er(w:eQ)(bO st eF n:Int):iN:=(zS w bO st eF n).filterMap (Mi w bO n)
theorem zsJ(w:eQ)(bO st eF:Int)(s:RA)(n:Int):ii w bO st eF s n=(s.1++co w bO st eF n,s.2++er w bO st eF n):=by grind [yf,co,er,ii]
theorem zT(w:eQ)(bO st eF:Int)(rs:List EU):H1 w bO st eF rs=(rs++rdN::(af w.f bO).flatMap (co w bO st eF),(af w.f bO).flatMap (er w bO st eF)):=by
 have key:∀(ns:bV) (s:RA),ns.foldl (ii w bO st eF) s=(s.1++ns.flatMap (co w bO st eF),s.2++ns.flatMap (er w bO st eF)):=by
  intro ns;induction ns with
  |nil=>intro s;simp
  |cons n ns ih=>intro s;rw[TG,ih,zsJ];simp
 unfold H1;rw[key];simp
def ba(w:eQ)(bO st eF:Int):List EU:=rdN::(af w.f bO).flatMap (co w bO st eF)
def jC(w:eQ)(bO st eF:Int):iN:=(af w.f bO).flatMap (er w bO st eF)
def gU(w:eQ)(bO st eF:Int):iN:=(jC w bO st eF).mergeSort leA
theorem lu{w:eQ}{bO st eF n:Int}{a:uS}(h:a∈er w bO st eF n):a.f7=n/\∃p∈zS w bO st eF n,zkM p=N/\a=GB w bO n p:=by unfold er at h;obtain⟨p,hp,he⟩:=List.mem_filterMap.1 h;unfold Mi at he;cases hb:zkM p<;>rw[hb] at he<;>simp at he;subst he;exact⟨rfl,p,hp,hb,rfl⟩
theorem Ki{w:eQ}{bO st eF:Int}:∀x∈jC w bO st eF,∀y∈jC w bO st eF,x.eF=y.eF->x.f7=y.f7->x=y:=by
 intro x hx y hy ht hc;obtain⟨n,hn,hx⟩:=Yu.1 hx;obtain⟨n',hn',hy⟩:=Yu.1 hy;obtain⟨e1,p,hp,_,rfl⟩:=lu hx;obtain⟨e2,q,hq,_,rfl⟩:=lu hy;have:n=n':=by rw[<-e1,<-e2,hc]
 subst this;have hpq:p=q:=by
  have hinc:=Dc (kk:=5) (ks:=st) (ko:=n) (lk:=0) (to:=eF) (bO:=bO) (l:=w.f);have key:∀(l:List PtT),l.Pairwise (λp q=>p.eF<q.eF)->∀p∈l,∀q∈l,p.eF=q.eF->p=q:=by
   intro l;induction l with
   |nil=>grind
   |cons a l ih=>intro hl p hp q hq e;rw[List.pairwise_cons] at hl;grind
  exact key _ hinc p hp q hq ht
 rw[hpq]
theorem fm{α β:Type}(f:α->List β)(k:Nat):∀l:List α,(∀a∈l,(f a).length<=k)->(l.flatMap f).length<=l.length*k
 | [],_=>by simp
 | a::l,h=>by have:=fm f k l (λb hb=>h b (by simp[hb]));grind [List.length_append,Ue,Nat.add_mul]
theorem tt{w:eQ}(hw:w.ok){bO st eF:Int}:(jC w bO st eF).length<=70656000:=by have h1:=fm (er w bO st eF) 1024 (af w.f bO) (λn _=>Vj (List.length_filterMap_le ..) dq);have h2:=bF (fs:=w.f) (bO:=bO);have h3:=hw.lf;grind [jC]
theorem zU{w:eQ}{bO st eF n:Int}:(co w bO st eF n).length<=1025:=by unfold co;have h1:=fm (rdO n) 1 (zS w bO st eF n) (λp _=>by unfold rdO;grind [fk]);have h2:=dq (kk:=5) (ks:=st) (ko:=n) (lk:=0) (to:=eF) (bO:=bO) (l:=w.f);grind
theorem iO{w:eQ}(hw:w.ok){bO st eF:Int}:(ba w bO st eF).length<=70725001:=by have h1:=fm (co w bO st eF) 1025 (af w.f bO) (λn _=>zU);have h2:=bF (fs:=w.f) (bO:=bO);have h3:=hw.lf;grind [Ue,ba]
abbrev zfj(a:Int)(b:bv):bY:=[eO a,ab b]
theorem Kj{w:eQ}(hw:w.ok){bO st eF:Int}{rs:List EU}(hb:rs.length<=700000000):Ev S5 lL 91 (zbF 0 st eF) (lkH w bO rs 0) (mS (zfj st ((gU w bO st eF).map Tb))) (lkH w bO (rs++ba w bO st eF) 1):=by have h:=of_a hw (bO:=bO) (st:=st) (eF:=eF) hb (Vj bF hw.lf) (by rw[zT];have:=tt hw (bO:=bO) (st:=st) (eF:=eF);grind [jC]) (by rw[zT];exact Ki);unfold zR at h;rw[zT] at h;exact h
end Go.Vi
