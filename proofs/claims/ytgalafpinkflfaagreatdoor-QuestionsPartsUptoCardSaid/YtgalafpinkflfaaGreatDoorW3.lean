/- A part of the proof; no conditions of its own. -/
import Derived.Test.YtgalafpinkflfaaGreatDoorW2
import Derived.Shelf.SlSortCmp.NoneTotal
import Derived.Sort.EveryDepth
import Derived.Ground.SlsfProg
open Bool renaming true->J,false->N
open Option renaming some->G,none->Y
open Go.Vi.S4 renaming st->CE,ov->zcB,inl->Α
open Go.Exit renaming normal->w8,exit->E8
open Go.Vi.D renaming JY->tf,agg->kb,ref->fE
open Go.LoopState renaming exhausted->zap,ready->E6
open Go.Vi.SOp renaming frz->τ,Ju->zld,mask->EZ
open Go.Vi.mX renaming var->eF,loop->Fa,P2->J1
open Go.IntKind renaming i64->Ζ
open Go.Vi.Ref renaming ptr->ql
open Decidable renaming decide -> eY
open List renaming range' -> US, flatten_cons -> W6, mem_map -> T2, length -> S7, flatten -> Tv, getElem?_eq_some_iff -> Td, foldl -> TE, map -> S2, set -> UE, range -> T1, getD -> Th, getElem?_eq_getElem -> TH, length_map -> Uw, all_eq_true -> TW, replicate -> Ti, map_cons -> U5, map_append -> Uh, all -> Tq, length_range' -> Zx, getElem?_append_left -> Ul, getElem?_append_right -> T8, length_cons -> Ue, ext_getElem? -> Wx, mergeSort_perm -> X0, mergeSort -> UF, foldl_cons -> TG, filterMap_cons -> X1, flatMap_cons -> Yl, mem_flatMap -> Yu
open Go.Vi.VS renaming ok -> YY
open Go.Proofs.Tryz renaming prog -> S5, f251 -> Xo, f127 -> TV, f60 -> Za, f91 -> WN
open Go.Vi.D renaming Υ -> TL, fn -> UL, agg -> TF, TO -> Tz
open Go.Vi.mX renaming inn -> Tl
open Go.IntKind renaming i64 -> S6, wrap -> S8
open Go.LoopState renaming ready -> TJ, exhausted -> Uu
open Go.Fn renaming func -> TM
open Go.Exit renaming normal -> Tr
open Go.Value renaming tuple -> VZ, oneCell' -> Up
open Go.Vi.uN renaming row -> Ta
open Go.Vi.CW renaming each -> UR
open Go.Vi.Ev renaming zkp -> Tw, zjM -> Tp, post -> Yd
open Int renaming toNat -> S9, tmod -> TY, tdiv -> TR
open Option renaming some -> Vs
open Go.Sort renaming grow -> WU, heap_grow_old -> VT, putRow -> Un, mapBlock -> Ur, ahead -> Uz, putCells -> UW
open Go.World renaming cell? -> Xh
open Array renaming getElem?_modify -> Xx, getElem?_eq_some_iff -> V8, getElem?_toList -> Uo, extract_size -> Zp
open Go.Calls renaming mono -> Xp
open Go.Proofs.SlLaysF0 renaming n6 -> Yt
open Go.Vi.uU renaming row -> Tc
open Go.Vi.η renaming row -> Tj
open Go.Vi.eO renaming l -> TC
open Go.Vi.lm renaming fl -> Te
open Go.Vi.uB renaming row -> Tb
open Nat renaming le_trans -> Vj
open Go Go.Proofs
namespace Go.Vi
set_option maxRecDepth 100000
set_option maxHeartbeats 4000000
abbrev Of:=List η
abbrev IF:=List uU
def PY(f:uN):Int:=if J=J then if f.jW>0 then f.jW else 0 else if f.jW<0 then f.jW else 0
def vaF(f:uN)(s:VS):VS:=Ka f (PY f) s
theorem PZ{f:uN}{x:Int}{s:VS}(h:s.ok):(Ka f x s).ok:=by
 unfold Ka;generalize US x.toNat (C8 f-x).toNat=l;induction l generalizing s with
 |nil=>exact h
 |cons n l ih=>exact ih (znd n h)
theorem P0{kk ks ko bO:Int}{fs:bv}{rs:bY}{tj:AT}{G:Bv}(ho:YY (tj,G)){f:uN}:Iv S5 fI (fE (.yl 8)) [ag f.row] (vaH kk ks ko bO fs rs tj G E6 (ziT f)) (eP J) (vaH kk ks ko bO fs rs (vaF f (tj,G)).1 (vaF f (tj,G)).2 E6 (zbg f)) :=Iv.round (h1:=vaH kk ks ko bO fs rs tj G E6 (zbg f)) rfl rfl va_asg rfl (PX ho) rfl
def zgM(kk ks ko bO:Int)(s:VS)(f:uN):VS:=bif zmd kk ks ko bO f then vaF f s else s
theorem lr{n:Nat}:∀{es:List (bY)},(∀r∈es,TL n r=J)->TL n es.flatten=J
 | [],_=>rfl
 |e::es,h=>by
  have key:∀(xs ys:bY),TL n xs=J->TL n ys=J->TL n (xs++ys)=J:=by
   intro xs ys h1 h2;induction xs with
   |nil=>exact h2
   |cons x xs ih=>simp[TL] at h1 ⊢;grind
  rw[W6];exact key _ _ (h e qk) (lr λr hr=>h r (by simp[hr]))
theorem u0{n:Nat}{l:AT}:Tl n (eF (zg6 l))=J:=lr λr hr=>by obtain⟨_,_,rfl⟩:=T2.1 hr;rfl
theorem u3{n:Nat}{l:Bv}:Tl n (eF (ey l).flatten)=J:=lr λr hr=>by obtain⟨_,_,rfl⟩:=T2.1 hr;rfl
abbrev zbC(a:bV):bY:=(bP a).flatten
theorem qL{n:Nat}{l:bV}:Tl n (eF (zbC l))=J:=lr λr hr=>by obtain⟨_,_,rfl⟩:=T2.1 hr;rfl
abbrev zfm(a:Int):mX:=(eF [dd a])
theorem vo_body{kk ks ko bO:Int}{fs:List (List Dp)}{rs:List Int}{tj b0:List uN}{some s0:List Bool}(ho:YY (tj,some)){f:uN}{i:Nat}(hr:ao (i:Int) fs f.row 8)(lL:eY ((i:Int)<(fs.length:Int))=true)(hw:S6.wrap ((i:Int)+1)=((i+1:Nat):Int)):(CW S5 fI (vaH kk ks ko bO fs (bP rs).flatten b0 s0 .ready []) false (sub Xo 0) {t:=ofT fs i,h:=vaH kk ks ko bO fs (bP rs).flatten tj some .ready [],m:=[]} .normal {t:=ofT fs ((i+1:Nat):Int),h:=vaH kk ks ko bO fs (bP rs).flatten (zgM kk ks ko bO (tj,some) f).1 (zgM kk ks ko bO (tj,some) f).2 .ready [],m:=[]}):=by
 let r:=(rfl:false=false)
 let A:List S4:=[.st (.mask [0,1,2,3,7,8,9]),.st (.Ju 9)]
 let k:=bi 9 (.var [dd kk,dd ks,dd ko])
 let B(a:List uN)(b:List Bool):List Stp:=[k,qL (n:=9) (l:=rs),u0 (n:=9) (l:=a),u3 (n:=9) (l:=b),bi 9 (.var [ab fs]),k,bi 9 (.var [dd bO]),bi 9 .P2,bi 9 (vaL .ready)]
 rw[<-hw]
 cases sQ:f.kind==kk&&(f.sub==ks&&(f.obj==ko&&true))
 ·simp only[zgM,zmd,Cx,sQ,Bool.false_and,cond_false];exact yx A ([.b lL,.r hr]++zGn 4 sQ++zCf 22 sQ++zGn 4 r++zCf 28 r++[.b r]++B tj some)
 cases FL:eY (f.bO<=bO)
 ·simp only[zgM,zmd,FL,Bool.and_false,cond_false];exact yx A ([.b lL,.r hr]++zGn 4 sQ++zCt 22 sQ (eY (f.bO<=bO))++zGn 4 FL++zCf 28 FL++[.b r]++B tj some)
 simp only[zgM,zmd,Cx,sQ,FL,Bool.and_self,cond_true];exact yx A ([.b lL,.r hr]++zGn 4 sQ++zCt 22 sQ (eY (f.bO<=bO))++zGn 3 FL++[.j (@P0 kk ks ko bO fs (Tv (bP rs)) tj some ho f)]++zGn 1 FL++zCt 28 FL (!true)++[.b (rfl:(!true)=false)]++B (vaF f (tj,some)).1 (vaF f (tj,some)).2)
theorem P5{kk ks ko bO:Int}{fs:bv}{rs:bV}{tj b0:AT}{G s0:Bv}{i:Nat}(lL:eY ((i:Int)<(fs.length:Int))=N):(CW S5 fI (vaH kk ks ko bO fs (zbC rs) b0 s0 E6 []) N (sub Xo 0) {t:=ofT fs i,h:=vaH kk ks ko bO fs (zbC rs) tj G E6 [],m:=[]} (E8 0) {t:=oz 30 0 [],h:=vaH kk ks ko bO fs (zbC rs) tj G E6 [],m:=[]}):=yx zbN [.b lL]
theorem zpZ{kk ks ko bO:Int}{s:VS}(f:uN)(h:s.ok):(zgM kk ks ko bO s f).ok:=by
 unfold zgM;cases zmd kk ks ko bO f;·exact h
 ·exact PZ h
noncomputable abbrev ziG(a b c d:Int)(e:AT)(f:bV)(g:AT)(h:Bv)(i:LoopState):aT:=vaH a b c d (e.map Ta) (zbC f) (e.foldl (zgM a b c d) (g,h)).1 (e.foldl (zgM a b c d) (g,h)).2 i []
theorem vo_cw{kk ks ko bO:Int}{l:AT}(hl:ah l){rs:bV}{b0:AT}{s0:Bv}(ho:YY (b0,s0)):CW S5 fI (vaH kk ks ko bO (l.map Ta) (zbC rs) b0 s0 .ready []) false (.loop (sub Xo 0)) {t:=ofT (l.map Ta) 0,h:=vaH kk ks ko bO (l.map Ta) (zbC rs) b0 s0 .ready [],m:=[]} (.exit 0)
   {t:=oz 30 0 [],h:=(ziG kk ks ko bO l rs b0 s0 (.ready)),m:=[]}:=by
 have:=UR (P:=S5) (Γ:=fI) (h0:=vaH kk ks ko bO (l.map Ta) (zbC rs) b0 s0 .ready []) (rd:=false) (c:=sub Xo 0) (σ:=VS) (ρ:=Empty) l (λf s=>.inl (zgM kk ks ko bO s f))
  (λi s=>{t:=ofT (l.map Ta) (i:Int),h:=vaH kk ks ko bO (l.map Ta) (zbC rs) s.1 s.2 .ready [],m:=[]}) (.exit 0) (λs=>{t:=oz 30 0 [],h:=vaH kk ks ko bO (l.map Ta) (zbC rs) s.1 s.2 .ready [],m:=[]}) (λr=>r.elim)
  (λ_ s=>s.ok) (by simp) (λr=>r.elim) ?_ ?_ (b0,s0) ho
 ·rw[aM] at this
  exact this
 ·intro i f s hf hs
  have hi:=(Td.1 hf).1
  exact⟨λs' h=>by cases h;exact zpZ f hs,vo_body hs (rowAt hf rfl) (EV _ hi) (sR hi hl)⟩
 ·intro s _
  exact P5 (aR _ l)
theorem Gq{kk ks ko bO:Int}{l:AT}(hl:ah l){rs:bV}{b0:AT}{s0:Bv}(ho:YY (b0,s0)):(Ev S5 fI 251 zgy (vaH kk ks ko bO (l.map Ta) (zbC rs) b0 s0 E6 []) (tf []) (ziG kk ks ko bO l rs b0 s0 (E6))):=by have xd:=(@vo_cw (kk) (ks) (ko) (bO) (l) (hl) (rs) (b0) (s0) (ho));exact Tw (yF (h':=(zjZ (zh9 kk ks ko) (Tv (bP rs)) (Tv (dK (TE (zgM kk ks ko bO) (b0,s0) l).fst)) (Tv (ey (TE (zgM kk ks ko bO) (b0,s0) l).2)) (eF [ab (S2 Ta l)]) [dd bO] zhk ziK (sub TV 0))) (d:=D.JY []) [.s [0,1,2,3,7,8,9] xd]) EX EX
noncomputable abbrev vaH0(kk ks ko bO:Int)(fs:bv)(rs:bV)(tj:AT)(G:Bv):aT :=[eF (Z8 kk ks ko),eF (zbC rs),eF (zg6 tj),eF (ey G).flatten,eF [ab fs],eF (Z8 kk ks ko),eF [dd bO]]
theorem Kb{kk ks ko bO:Int}{l:AT}(hl:ah l){rs:bV}{b0:AT}{s0:Bv}(ho:YY (b0,s0)):CW S5 fI [] N (sub TV 0) {t:=vaT,h:=vaH0 kk ks ko bO (l.map Ta) rs b0 s0,m:=[]} w8
  {t:=vaT,h:=(ziG kk ks ko bO l rs b0 s0 (zap)),m:=[7]} :=
 CW.rangeFunc (f:=251) (fi:=[]) (ca:=zac) ZK (s:={t:=vaT,h:=vaH0 kk ks ko bO (l.map Ta) rs b0 s0,m:=[]}) (g:=.tmp 15) (ps:=#[16]) (asg:=ax (sub TV 0)) (body:=ak (sub TV 0)) rfl Z (Gq hl ho) rfl
theorem va_val{h:aT}{off n:Nat}{l:AT}{g:uN}(hb:h[2]?=G (eF (zg6 l)))(hs:l[n]?=G g)(ho:off=n*8+3):aQ S5 h 3 (zgH off)=G (dd g.value):=by subst ho;exact pX (sz:=8) (j:=3) (row:=g.row.map .p) Z Z hb (by simp[Ta]) (by simp[hs]) rfl
theorem Gr{h:List mX}{off n:Nat}{l:List Int}{x:Int}(hb:h[1]? = some (.var (bP l).flatten))(hn:n<l.length)(ho:off=n*1):aY S5 h 3 (.ref (.ptr 1 off)) (dd x)=some (h.set 1 (.var (bP (l.set n x)).flatten)):=by
 subst ho
 rw[pY (sz:=1) (new:=[dd x]) rfl (by kernel_rfl) rfl hb (λr hr=>by grind) (by simpa using hn),bP,bP,List.map_set]
abbrev SV(v:Int):Int:=if J=J then if -1>v then -1 else v else if -1<v then -1 else v
noncomputable abbrev vlS(kk ks ko bO:Int)(fs:bv)(rs:bV)(tj:AT)(G:Bv)(i:Int):AS:={t:=oz 63 0 [zaE,zbw,zaV,(46,dd i)],h:=vaH kk ks ko bO fs (zbC rs) tj G zap [],m:=[7]}
abbrev zia(c:Bool)(d e:Int):D:=dd (if c=J then if d>e then d else e else if d<e then d else e)
abbrev Z0(a b:Int):D:=(zia J a b)
abbrev zdf(a:Tmp)(b:Int):S4:=(zcB a (dd b))
abbrev zkj(a:bY):bY:=(oz 63 0 [zaE,zbw,zaV,(15,UL (TM 251) [] a)])
theorem vl_b{kk ks ko bO:Int}{fs:bv}{rs:bV}{tj:AT}{G:Bv}{g:uN}{n:Nat}{b:Bool}(hb:tj[n]?=.some g)(hs:G[n]?=.some b)(hn:L9 (n:Int) 1024=J)(hr:n<rs.length)(lL:eY ((n:Int)<1024)=J):(CW S5 fI [] N (sub TV 2) (vlS kk ks ko bO fs rs tj G (n:Int)) w8 (vlS kk ks ko bO fs (bif b then (rs.set n (-1)).set n (SV g.value) else rs.set n (-1)) tj G (S6.wrap ((n:Int)+1)))):=by
 cases sQ:b;·let v0:aT:=[eF (zh9 kk ks ko),eF (Tv (bP (UE rs n (-1)))),eF (Tv (dK tj)),eF (Tv (ey G)),eF [ab fs],eF (zh9 kk ks ko),eF [dd bO],J1,Fa Uu Y 0 zhk ziK (ax (sub TV 0)) (ak (sub TV 0))];refine yX {t:=oz 63 0 [zaE,zbw,zaV,(46,(ZZ n))],h:=v0,m:=[7]} Tr [CE (EZ [6,7,8,46])] [.b lL,hn,(?_:@Eq (Option (aT)) (aY S5 [eF (zh9 kk ks ko),eF (Tv (bP rs)),eF (Tv (dK tj)),eF (Tv (ey G)),eF [ab fs],eF (zh9 kk ks ko),eF [dd bO],J1,Fa Uu Y 0 zhk ziK (ax (sub TV 0)) (ak (sub TV 0))] 3 (zb6 1 n) (dd (-1))) (Vs v0)),hn,(?_:@Eq (At) (aQ S5 v0 4 (zb6 3 n)) (Vs (eP b))),.a1 (.oh 10050 D.any (vaH kk ks ko bO fs (Tv (bP (UE rs n (-1)))) tj G Uu [])),.a1 (zcB 53 (eP b)),.b sQ] (by subst v0;grind) (by subst v0;grind)<;>subst v0<;>(first|exact uZ rfl hs qk|exact Gr rfl hr qk)
 ·let v2:bY:=zac;let v3:=Tv (bP (UE (UE rs n (-1)) n (SV g.value)));let v4:=Tv (dK tj);let v5:=Tv (ey G);let v0:aT:=[eF (Z8 kk ks ko),eF (Tv (bP (UE rs n (-1)))),eF v4,eF v5,eF [ab fs],eF (Z8 kk ks ko),eF [dd bO],J1,Fa Uu Y 0 (zkj v2) zdA (ax (sub TV 0)) (ak (sub TV 0))];let v1:aT:=[eF (Z8 kk ks ko),eF v3,eF v4,eF v5,eF [ab fs],eF (Z8 kk ks ko),eF [dd bO],J1,Fa Uu Y 0 (zkj v2) zdA (ax (sub TV 0)) (ak (sub TV 0))];refine yX {t:=oz 63 0 [zaE,zbw,zaV,(46,(ZZ n))],h:=v1,m:=[7]} Tr [CE (EZ [6,7,8,46])] [.b lL,hn,(?_:@Eq (Option (aT)) (aY S5 [eF (Z8 kk ks ko),eF (Tv (bP rs)),eF v4,eF v5,eF [ab fs],eF (Z8 kk ks ko),eF [dd bO],J1,Fa Uu Y 0 (zkj v2) zdA (ax (sub TV 0)) (ak (sub TV 0))] 3 (zb6 1 n) (dd (-1))) (Vs v0)),hn,(?_:@Eq (At) (aQ S5 v0 4 (zb6 3 n)) (Vs (eP b))),.a1 (.oh 10050 D.any (vaH kk ks ko bO fs (Tv (bP (UE rs n (-1)))) tj G Uu [])),.a1 (zcB 53 (eP b)),.b sQ,hn,(?_:@Eq (At) (aQ S5 v0 3 (fE (ql 2 (0+S9 (↑n:Int)*8+3)))) (Vs (dd g.value))),hn,(?_:@Eq (Option (aT)) (aY S5 v0 3 (zb6 1 n) (Z0 (-1) g.value)) (Vs v1)),.a1 (zdf 58 g.value),.a1 (.oh 10060 D.any (vaH kk ks ko bO fs v3 tj G Uu []))] (by subst v2 v3 v4 v5 v0 v1;grind) (by subst v2 v3 v4 v5 v0 v1;grind)<;>subst v2 v3 v4 v5 v0 v1<;>(first|exact uZ rfl hs qk|exact va_val rfl hb qk|exact Gr rfl hr qk|exact Gr rfl (by simpa using hr) qk)
abbrev ziX:bY:=oz 63 0 [zaE]
theorem P6{kk ks ko bO:Int}{fs:bv}{rs:bV}{tj:AT}{G:Bv}:(CW S5 fI [] N (sub TV 2) (vlS kk ks ko bO fs rs tj G 1024) (E8 4) {t:=ziX,h:=vaH kk ks ko bO fs (zbC rs) tj G zap [],m:=[7]}):=yx (zeI 6) [.e]
def zfB(s:VS)(rs:bV)(n:Nat):bV:=bif s.2.getD n N then (rs.set n (-1)).set n (SV (s.1.getD n default).value) else rs.set n (-1)
def yb(s:VS)(rs:bV):bV:=(T1 1024).foldl (zfB s) rs
theorem vl_cw{kk ks ko bO:Int}{fs:bv}{rs:bV}{tj:AT}{some:Bv}(ho:YY (tj,some))(hr:rs.length=1024):CW S5 fI [] false (.loop (sub TV 2)) (vlS kk ks ko bO fs rs tj some 0) (.exit 4) {t:=ziX,h:=vaH kk ks ko bO fs (zbC (yb (tj,some) rs)) tj some .exhausted [],m:=[7]}:=by
 have:=UR (P:=S5) (Γ:=fI) (h0:=[]) (rd:=false) (c:=sub TV 2) (σ:=bV) (ρ:=Empty) (T1 1024) (λn rs=>.inl (zfB (tj,some) rs n))
  (λi rs=>vlS kk ks ko bO fs rs tj some (i:Int)) (.exit 4) (λrs=>{t:=ziX,h:=vaH kk ks ko bO fs (zbC rs) tj some .exhausted [],m:=[7]}) (λr=>r.elim)
  (λ_ rs=>rs.length=1024) (by simp) (λr=>r.elim) ?_ ?_ rs hr
 ·rw[aM (λrs n=>zfB (tj,some) rs n)] at this;exact this
 ·intro i n rs hn hs;obtain⟨hi,he⟩:=Td.1 hn;simp at hi;simp at he;subst he;have hb:tj[i]? = .some (tj.getD i default):=by rw[Th,TH (by rw[ho.1];omega)];rfl
  have hc:some[i]? = .some (some.getD i false):=by rw[Th,TH (by rw[ho.2];omega)];rfl
  refine⟨λs' h=>by cases h;unfold zfB;grind,?_⟩;have key:=vl_b (kk:=kk) (ks:=ks) (ko:=ko) (bO:=bO) (fs:=fs) (rs:=rs) hb hc (by simp[L9];omega) (by omega) (by simp;omega);rw[wrap_i64 (by omega) (by omega)] at key;simp only[ai];unfold zfB;grind
 ·intro rs _;simp only[List.length_range];exact P6
theorem Gs{h:aT}{l:bV}(hb:h[1]?=G (eF (zbC l)))(hl:l.length=1024):aQ S5 h 221 zbB=G (kb (zbC l)) :=IA Z (by rw[gK (sz:=1) (bP l) (λr hr=>lj)];simp only[Uw,hl];kernel_rfl) hb
theorem yc{l:bV}:(TF (zbC l)).cells=G (zbC l):=by
 have:(bP l).flatten.all D.one=J:=by rw[TW];intro d hd;obtain⟨r,hr,hd⟩:=List.mem_flatten.1 hd;obtain⟨n,_,rfl⟩:=T2.1 hr;simp only[List.mem_singleton] at hd;subst hd;rfl
 simp[D.cells,this]
theorem st_int{h:aT}{l:bV}(hb:h[1]?=G (eF (zbC l)))(hl:l.length=1024):aY S5 h 221 zbB (kb (zbC l))=G (h.set 1 (eF (zbC l))) :=wQ yc (by rw[gK (sz:=1) (bP l) (λr hr=>lj)];simp only[Uw,hl];kernel_rfl) rfl hb
theorem qM{s:VS}{rs:bV}(h:rs.length=1024):(yb s rs).length=1024:=by
 unfold yb;generalize T1 1024=l;induction l generalizing rs with
 |nil=>exact h
 |cons n l ih=>exact ih (by unfold zfB;grind)
noncomputable abbrev vaE(kk ks ko bO:Int)(l:AT)(rs:bV)(s:VS):aT:=vaH kk ks ko bO (l.map Ta) (zbC (yb (l.foldl (zgM kk ks ko bO) s) rs)) (l.foldl (zgM kk ks ko bO) s).1 (l.foldl (zgM kk ks ko bO) s).2 zap []
abbrev zcb:D:=(fE (ql 2 0))
abbrev zcN:D:=(fE (ql 3 0))
theorem Kc{kk ks ko bO:Int}{l:AT}(hl:ah l){rs:bV}{b0:AT}{s0:Bv}(ho:YY (b0,s0))(hf:YY (l.foldl (zgM kk ks ko bO) (b0,s0)))(hr:rs.length=1024)(e1:dS S5 [eF (Z8 kk ks ko)] 221 zbB [eF (Z8 kk ks ko),eF (zbC rs)])(e2:dS S5 [eF (Z8 kk ks ko),eF (zbC rs)] 292 zcb [eF (Z8 kk ks ko),eF (zbC rs),eF (zg6 b0)])(e3:dS S5 [eF (Z8 kk ks ko),eF (zbC rs),eF (zg6 b0)] 293 zcN [eF (Z8 kk ks ko),eF (zbC rs),eF (zg6 b0),eF (ey s0).flatten]):(CW S5 fI [] N (al TV) {t:=oz 63 0 [(0,ab (l.map Ta)),(1,kb (Z8 kk ks ko)),(2,dd bO)],h:=[],m:=[]} .ret {t:=ziX,h:=vaE kk ks ko bO l rs (b0,s0),m:=[7]}):=by have xd:=(@Kb (kk) (ks) (ko) (bO) (l) (hl) (rs) (b0) (s0) (ho));have hl1:=(@vl_cw (kk) (ks) (ko) (bO) (S2 Ta l) (rs) ((TE (zgM kk ks ko bO) (b0,s0) l).fst) ((TE (zgM kk ks ko bO) (b0,s0) l).2) (hf) (hr));let v1:=TE (zgM kk ks ko bO) (b0,s0) l;let v0:aT:=[eF (zh9 kk ks ko),eF (Tv (bP (yb (v1.fst,v1.2) rs))),eF (Tv (dK v1.fst)),eF (Tv (ey v1.2)),eF [ab (S2 Ta l)],eF (zh9 kk ks ko),eF [dd bO],J1,Fa Uu Y 0 zhk ziK (ax (sub TV 0)) (ak (sub TV 0))];let v2:aT:=[eF (Z8 kk ks ko),eF (Tv (bP rs)),eF (Tv (dK b0))];let v3:aT:=[eF (Z8 kk ks ko),eF (Tv (bP rs)),eF (Tv (dK b0)),eF (Tv (ey s0))];let v4:aT:=[eF (Z8 kk ks ko),eF (Tv (bP rs))];let v5:=Tv (bP (yb v1 rs));refine yx (zeI 6) [((by subst v1 v0 v2 v3 v4 v5;grind):dS S5 [eF [dd kk,dd ks,dd ko]] 221 (fE (ql 1 0)) v4),((by subst v1 v0 v2 v3 v4 v5;grind):dS S5 v4 292 (fE (ql 2 0)) v2),((by subst v1 v0 v2 v3 v4 v5;grind):dS S5 v2 293 (fE (ql 3 0)) v3),.a1 (.oh 6 zbB v4),.a1 (.oh 7 zcb v2),.a1 (.oh 8 zcN v3),.a1 Α,.s [6,7,8,15] xd,.s [6,7,8,46] hl1,(?_:@Eq (At) (aQ S5 v0 221 zbB) (G (TF v5))),(?_:@Eq (Option (aT)) (aY S5 v0 221 zbB (TF v5)) (G [eF (zh9 kk ks ko),eF v5,eF (Tv (dK v1.fst)),eF (Tv (ey v1.2)),eF [ab (S2 Ta l)],eF (zh9 kk ks ko),eF [dd bO],J1,Fa Uu Y 0 zhk ziK (ax (sub TV 0)) (ak (sub TV 0))])),.a1 (zcB 62 (TF v5)),.a1 (.oh 10006 D.any (vaE kk ks ko bO l rs (b0,s0)))]<;>subst v1 v0 v2 v3 v4 v5<;>(first|exact Gs rfl (qM hr)|exact st_int rfl (qM hr))
theorem P7{n:Nat}{l:bV}:D.inn n (kb (zbC l))=J:=qL (n:=n) (l:=l)
def vZ:VS:=(Ti 1024 fz,Ti 1024 N)
theorem Ke:vZ.ok:=⟨by simp[vZ],by simp[vZ]⟩
theorem Gt{kk ks ko bO:Int}{l:AT}{s:VS}(h:s.ok):(l.foldl (zgM kk ks ko bO) s).ok:=by
 induction l generalizing s with
 |nil=>exact h
 |cons f l ih=>exact ih (zpZ f h)
def bJ(kk ks ko bO:Int)(l:AT):bV:=yb (l.foldl (zgM kk ks ko bO) vZ) (Ti 1024 0)
theorem gS{kk ks ko bO:Int}{l:AT}:(bJ kk ks ko bO l).length=1024:=qM qk
noncomputable abbrev zhd(a b c d:Int)(e:AT):aT:=(tY [7] (vaE a b c d e (Ti 1024 0) vZ))
theorem Kf{kk ks ko bO:Int}{l:AT}(hl:ah l):Ev S5 fI 127 [ab (l.map Ta),kb (Z8 kk ks ko),dd bO] [] (kb (zbC (bJ kk ks ko bO l))) (zhd kk ks ko bO l):=by
 have hw:=Kc (kk:=kk) (ks:=ks) (ko:=ko) (bO:=bO) hl (rs:=Ti 1024 0) (b0:=vZ.1) (s0:=vZ.2) Ke (Gt Ke) qk (by unfold dS;kernel_rfl) (by unfold dS vZ;kernel_rfl) (by unfold dS vZ;kernel_rfl);refine Ev.zqd (fn:=TV) Z Z hw ?_;have hc:aQ S5 (zhd kk ks ko bO l) 221 zbB=G (kb (zbC (bJ kk ks ko bO l))):=Gs rfl gS;have hr:bM S5 (ziX) (zhd kk ks ko bO l) TV.results.toList=G [kb (zbC (bJ kk ks ko bO l))]:=by
  show(match l5 S5 (ziX) (zhd kk ks ko bO l) (.cell 6 221),G [] with
   |some d,some ds=>G (d::ds)
   |_,_=>Y)=_
  have:l5 S5 (ziX) (zhd kk ks ko bO l) (.cell 6 221)=G (kb (zbC (bJ kk ks ko bO l))):=hc;rw[this]
 simp only[finF,pre];rw[hr];rfl
theorem Gu{kk ks ko bO:Int}{l:AT}(hl:ah l)(h:aT):Ev S5 fI 127 [ab (l.map Ta),kb (Z8 kk ks ko),dd bO] h (kb (zbC (bJ kk ks ko bO l))) h :=Ev.zhU rfl (by have:=Ev.trim (h:=[]) (d:=kb (zbC (bJ kk ks ko bO l))) P7 rfl (Kf (kk:=kk) (ks:=ks) (ko:=ko) (bO:=bO) hl);grind) h
abbrev ad(rs:bv):List (bY):=rs.map (S2 D.p)
theorem u4(rs:bv)(r:dO):ad rs++[r.map .p]=ad (rs++[r]):=by simp[ad]
theorem aB(rs:bv)(f:Ref->D):(ad rs).map (Tz f)=ad rs:=aj f rs
theorem Mf(k:Nat):∀r:dO,TL k (r.map .p)=J
 | []=>rfl
 |_::r=>by simp[TL,D.inn,Mf k r]
theorem aD(rs:bv)(k:Nat):(ad rs).all (TL k)=J:=by rw[TW];intro r hr;obtain⟨x,_,rfl⟩:=T2.1 hr;exact Mf k x
theorem Gv{h:aT}{l r:bV}(hb:h[1]?=G (eF (zbC r)))(hr:r.length=1024)(hl:l.length=1024):aY S5 h 221 zbB (kb (zbC l))=G (h.set 1 (eF (zbC l))) :=wQ yc (by rw[gK (sz:=1) (bP l) (λr hr=>lj)];simp only[Uw,hl];kernel_rfl)
  (by rw[gK (sz:=1) (bP l) (λr hr=>lj),gK (sz:=1) (bP r) (λr hr=>lj)];simp[hl,hr]) hb
structure Ξ where
 d5:Int
 value:Int
 deriving Inhabited,DecidableEq
def Ξ.row(p:Ξ):dO:=[vi p.d5,vi p.value]
theorem Gw{h:aT}{off n:Nat}{l:bV}{v:Int}(hb:h[1]?=G (eF (zbC l)))(hs:l[n]?=G v)(ho:off=n*1):aQ S5 h 3 (fE (ql 1 off))=G (dd v):=by subst ho;exact pX (sz:=1) (j:=0) (row:=[dd v]) Z Z hb (λr hr=>lj) (by simp[hs]) rfl
noncomputable abbrev ptH(kk ks ko:Int)(rs:bV)(l:List Ξ):aT:=[eF (Z8 kk ks ko),eF (zbC rs),.eQ (ad (l.map Ξ.row)) 0 2]
abbrev zfg(a:Nat):Nat×D:=(11,fE (ql a 0))
abbrev zfI:Nat×D:=(10,fE (.eQ 2 0))
noncomputable abbrev ptS(kk ks ko to:Int)(rs:bV)(l:List Ξ)(x:Int):AS:={t:=oz 38 0 [(3,dd to),zfI,(zfg 1),(12,dd x)],h:=ptH kk ks ko rs l,m:=[]}
theorem qN(f:Ref->D)(l:List Int):Tz f (bP l).flatten=(bP l).flatten:=by
 induction l with
 | nil=>rfl
 | cons n l ih=>simp only[bP,U5,W6,List.cons_append,List.nil_append,Tz,D.EY] at ih ⊢;rw[ih]
theorem Bt{n:Nat}{l:bV}{f:Ref->D}:Tl n (eF (Tz f (zbC l)))=J:=by rw[qN];exact qL
theorem br{n:Nat}{rs:bv}{e sz:Nat}:Tl n (.eQ (ad rs) e sz)=J:=aD rs n
theorem iV(n:Nat)(rs:bv)(e sz:Nat):Tl n (.eQ (ad rs) e sz)=J:=br
theorem vM(rs:bv)(a b c:Nat):(ad rs).map (Tz (ar a b c))=ad rs:=aj (ar a b c) rs
theorem iVa(n:Nat)(rs:bv)(b:List (bY))(e sz:Nat)(h:b.all (TL n)=J:=by first|rfl|exact aD _ _):Tl n (.eQ (ad rs++b) e sz)=J:=(List.all_append).trans (by rw[aD rs n,h];rfl)
theorem vMa(rs:bv)(q:List (bY))(a b c:Nat)(h:q.map (Tz (ar a b c))=q:=by first|rfl|exact aj _ _):(ad rs++q).map (Tz (ar a b c))=ad rs++q:=Uh.trans (by rw[aj (ar a b c) rs,h])
def ptF(v:Int)(n:Nat)(l:List Ξ):List Ξ:=bif eY (v>=0) then l++[⟨(n:Int),v⟩] else l
theorem zJ(l:List Ξ)(n:Nat)(v:Int):ad (l.map Ξ.row)++[[dd (n:Int),dd v]]=ad ((l++[Ξ.mk (n:Int) v]).map Ξ.row):=by simp[Ξ.row]
abbrev zjv(g h:Nat)(i:List (bY))(j k l:Nat)(m:mX):mX:=match g==h with|true=>.eQ i j k|false=>A7 (ar h l j) m
abbrev ZT(a b:Nat)(c:List (bY))(d e f:Nat):mX:=(zjv (a+1) b (c) d e f (.eQ (c) f e))
abbrev zhp(f g:Nat)(h:List (bY))(i j k:Nat)(l:mX):mX:=(zjv f g (h) i j k (l))
abbrev zaT(a:Nat)(b:List (bY))(c d:Nat)(e:mX):mX:=(zhp (0+1) a b 0 c d e)
abbrev zc9(a:iS)(b c d:Nat):Do:=[CE (EZ a),CE (.ren b c),CE (zld d)]
abbrev zd4(a:List Ξ):List (bY):=ad (S2 Ξ.row a)
theorem pt_b{kk ks ko to:Int}{rs:List Int}{l:List Ξ}{n:Nat}{v:Int}(hv:rs[n]? = .some v)(hn:L9 (n:Int) 1024=true)(hl:l.length<=2000)(lL:eY ((n:Int)<if false=true then if 1024>to then 1024 else to else if 1024<to then 1024 else to)=true)(hw:S6.wrap ((n:Int)+1)=((n+1:Nat):Int)):(CW S5 fI [] false (sub Za 0) (ptS kk ks ko to rs l (n:Int)) .normal (ptS kk ks ko to rs (ptF v n l) ((n+1:Nat):Int))):=by
 cases sQ:eY (v>=0)
 ·refine yX {t:=oz 38 0 [(3,dd to),(10,.ref (.eQ 2 0)),(11,.ref (.ptr 1 0)),(12,dd (S8 S6 ((↑n:Int)+1)))],h:=[.var [dd kk,dd ks,dd ko],.var (Tz (ar 2 0 0) (Tv (bP rs))),.eQ (ad (S2 Ξ.row l)) 0 2],m:=[]} Tr [.st (.mask [3,10,11,12]),.st (.ren 2 0),.st (.Ju 3)] [.b lL,hn,(?_:@Eq (Option D) (aQ S5 [.var [dd kk,dd ks,dd ko],.var (Tv (bP rs)),.eQ (ad (S2 Ξ.row l)) 0 2] 3 (.ref (.ptr 1 (0+S9 (↑n:Int)*1)))) (some (dd v))),.a1 (.ov 27 (dd v)),.b sQ,(?_:S2 (Tz (ar 2 0 0)) (ad (S2 Ξ.row l))=ad (S2 Ξ.row l)),(rfl:Tl 3 (match 0==2 with|true=>.eQ (ad (S2 Ξ.row l)) 0 2|false=>A7 (ar 2 0 0) (.var [dd kk,dd ks,dd ko]))=true),(?_:Tl 3 (match 0+1==2 with|true=>.eQ (ad (S2 Ξ.row l)) 0 2|false=>A7 (ar 2 0 0) (.var (Tv (bP rs))))=true),(?_:Tl 3 (match 0+1+1==2 with|true=>.eQ (ad (S2 Ξ.row l)) 0 2|false=>A7 (ar 2 0 0) (.eQ (ad (S2 Ξ.row l)) 0 2))=true)] (by grind) (by(simp[hw,ptF,sQ,qN];done))<;>(first|exact Gw rfl hv (by simp)|exact aB _ _|exact Bt|exact br)
 ·let v0:List mX:=[.var [dd kk,dd ks,dd ko],.var (Tv (bP rs)),.eQ (ad (S2 Ξ.row l)) 0 2]
  refine yX {t:=oz 38 0 [(3,dd to),(10,.ref (.eQ 2 0)),(11,.ref (.ptr 1 0)),(12,dd (S8 S6 ((↑n:Int)+1)))],h:=[.var [dd kk,dd ks,dd ko],.var (Tz (ar 2 1 0) (Tv (bP rs))),.eQ (ad (S2 Ξ.row l)++[[dd (↑n:Int),dd v]]) 0 2],m:=[]} Tr [.st (.mask [3,10,11,12]),.st (.ren 2 0),.st (.Ju 3)] [.b lL,hn,(?_:@Eq (Option D) (aQ S5 v0 3 (.ref (.ptr 1 (0+S9 (↑n:Int)*1)))) (some (dd v))),.a1 (.ov 27 (dd v)),.b sQ,hn,(?_:@Eq (Option D) (aQ S5 v0 3 (.ref (.ptr 1 (0+S9 (↑n:Int)*1)))) (some (dd v))),((by subst v0;grind [aL,D.one,Up,uO]):(Tq [[dd (↑n:Int),dd v]] (aL 2)&&uO (S7 (ad (S2 Ξ.row l))+S7 [[dd (↑n:Int),dd v]]) 16)=true),(?_:S2 (Tz (ar 2 1 0)) (ad (S2 Ξ.row l)++[[dd (↑n:Int),dd v]])=ad (S2 Ξ.row l)++[[dd (↑n:Int),dd v]]),pr [[dd (↑n:Int),dd v]],(rfl:Tl 3 (match 0==2 with|true=>.eQ (ad (S2 Ξ.row l)++[[dd (↑n:Int),dd v]]) 0 2|false=>A7 (ar 2 1 0) (.var [dd kk,dd ks,dd ko]))=true),(?_:Tl 3 (match 0+1==2 with|true=>.eQ (ad (S2 Ξ.row l)++[[dd (↑n:Int),dd v]]) 0 2|false=>A7 (ar 2 1 0) (.var (Tv (bP rs))))=true),(?_:Tl 3 (match 0+1+1==2 with|true=>.eQ (ad (S2 Ξ.row l)++[[dd (↑n:Int),dd v]]) 0 2|false=>A7 (ar 2 1 0) (.eQ (ad (S2 Ξ.row l)++[[dd (↑n:Int),dd v]]) 1 2))=true),.a1 (.ov 33 (dd v))] (by subst v0;grind) (by subst v0;(simp only[hw,ptF,sQ,cond_true,zJ,qN];first|done|rfl))<;>subst v0<;>(first|exact Gw rfl hv (by simp)|(rw[zJ];exact aB _ _)|exact Bt|(rw[zJ];exact br))
theorem P8{kk ks ko to:Int}{rs:bV}{l:List Ξ}{x:Int}(lL:eY (x<if N=J then if 1024>to then 1024 else to else if 1024<to then 1024 else to)=N):(CW S5 fI [] N (sub Za 0) (ptS kk ks ko to rs l x) (E8 0) {t:=oz 38 0 [zfI],h:=ptH kk ks ko rs l,m:=[]}):=yx (zeI 10) [.b lL]
def vF(to:Int):Int:=if to<1024 then to else 1024
theorem Gx(to:Int):(if N=J then if 1024>to then 1024 else to else if 1024<to then 1024 else to)=vF to:=by unfold vF;grind
def Kg(rs:bV)(x to:Int):List Ξ:=(US x.toNat (vF to-x).toNat).foldl (λl n=>ptF (rs.getD n 0) n l) []
theorem Gy(v:Int)(n:Nat)(l:List Ξ):(ptF v n l).length<=l.length+1:=by unfold ptF;grind
theorem pt_cw{kk ks ko to:Int}{rs:bV}(hr:rs.length=1024){x:Int}(hx:0<=x):CW S5 fI [] false (.loop (sub Za 0)) (ptS kk ks ko to rs [] x) (.exit 0) {t:=oz 38 0 [zfI],h:=ptH kk ks ko rs (Kg rs x to),m:=[]}:=by
 have hx':((x.toNat:Nat):Int)=x:=by omega
 have hh:vF to<=1024:=by unfold vF;split<;>omega
 have:=UR (P:=S5) (Γ:=fI) (h0:=[]) (rd:=false) (c:=sub Za 0) (σ:=List Ξ) (ρ:=Empty) (US x.toNat (vF to-x).toNat) (λn l=>.inl (ptF (rs.getD n 0) n l))
  (λi l=>ptS kk ks ko to rs l (x+(i:Int))) (.exit 0) (λl=>{t:=oz 38 0 [zfI],h:=ptH kk ks ko rs l,m:=[]}) (λr=>r.elim)
  (λi l=>l.length<=i) (by simp) (λr=>r.elim) ?_ ?_ [] (by simp)
 ·rw[aM (λl n=>ptF (rs.getD n 0) n l)] at this;grind [bf,Kg]
 ·intro i n l hn hs;obtain⟨hi,he⟩:=Td.1 hn;simp only[Zx] at hi;simp at he;have lL:(n:Int)<vF to:=by omega
  have hb:rs[n]? = some (rs.getD n 0):=by rw[Th,TH (by rw[hr];omega)];rfl
  refine⟨λs' h=>by cases h;have:=Gy (rs.getD n 0) n l;omega,?_⟩;have key:=pt_b (kk:=kk) (ks:=ks) (ko:=ko) (to:=to) (l:=l) hb (by simp[L9];omega) (by omega) (by grind [Gx]) (by rw[wrap_i64 (by omega) (by omega)];omega);have e1:x+(i:Int)=(n:Int):=by omega
  have e2:x+((i+1:Nat):Int)=((n+1:Nat):Int):=by omega
  simp only[ai,e1,e2];exact key
 ·intro l _;refine P8 ?_;grind [Gx]
def Mg(jW:Int):Int:=if J=J then if jW>0 then jW else 0 else if jW<0 then jW else 0
def aH(kk ks ko jW to bO:Int)(l:AT):List Ξ:=Kg (bJ kk ks ko bO l) (Mg jW) to
theorem Gz(jW:Int):0<=(if J=J then if jW>0 then jW else 0 else if jW<0 then jW else 0):=lj
theorem Kh{kk ks ko jW to bO:Int}{l:AT}(hl:ah l){r0:bV}(e1:dS S5 [eF (Z8 kk ks ko)] 221 zbB [eF (Z8 kk ks ko),eF (zbC r0)])(h0:r0.length=1024)(h:aT):(Ev S5 fI 60 [ab (l.map Ta),kb (Z8 kk ks ko),dd jW,dd to,dd bO] h (ab ((aH kk ks ko jW to bO l).map Ξ.row)) h):=by have xd:=(@pt_cw (kk) (ks) (ko) (to) (bJ kk ks ko bO l) (by first|assumption|rfl|exact gS|exact Gz _|exact Gv rfl h0 gS|(simp;done)) (if J=J then if jW>0 then jW else 0 else if jW<0 then jW else 0) lj);let v0:aT:=[eF (Z8 kk ks ko),eF (Tv (bP r0))];let v1:=Tv (bP (bJ kk ks ko bO l));let v2:=S2 Ξ.row (aH kk ks ko jW to bO l);refine y0 [.v (@Gu kk ks ko bO l hl ([eF (Z8 kk ks ko)])),((by subst v0 v1 v2;grind):dS S5 [eF [dd kk,dd ks,dd ko]] 221 (fE (ql 1 0)) v0),(?_:@Eq (Option (aT)) (aY S5 v0 221 zbB (TF v1)) (G [eF (Z8 kk ks ko),eF v1])),.a1 (.oh 11 zbB v0),.a1 (.oh 10011 D.any [eF (Z8 kk ks ko),eF v1]),.n 1,.o (.zor 10 2),.s [3,10,11,12] xd,(?_:(zd4 (Kg (bJ kk ks ko bO l) (if J=J then if jW>0 then jW else 0 else if jW<0 then jW else 0) to))=S2 (λx=>S2 D.p x) v2),.o (τ 2 v2)] h<;>subst v0 v1 v2<;>(first|rfl|exact Gv rfl h0 gS)
theorem iM{kk ks ko jW to bO:Int}{l:AT}(hl:ah l)(h:aT):Ev S5 fI 60 [ab (l.map Ta),kb (Z8 kk ks ko),dd jW,dd to,dd bO] h (ab ((aH kk ks ko jW to bO l).map Ξ.row)) h :=Kh hl (r0:=Ti 1024 0) (by unfold dS;kernel_rfl) qk h
end Go.Vi
open Go Go.Proofs Go.Shelf Go.RowKit Go.Sort
namespace Go.Vi
set_option maxRecDepth 100000
set_option maxHeartbeats 4000000
abbrev u5{α:Type}(enc:α->oR)(l:List α):List (bY):=l.map λx=>(enc x).map lit
theorem mZ{w:World}{av:Nat->Prop}{loc:Loc}{h:aT}:∀{vs ys:oR},ia w av loc h (vs.map lit) ys->ys=vs
  | [],[],_=>rfl
  | [],_::_,r=>by simp[ia] at r
  |_::_,[],r=>by simp[ia] at r
  |v::vs,y::ys,r=>by
    simp[ia] at r;have h1:y=v:=by simpa[Rel,F3] using r.1
    rw[h1,mZ r.2]
theorem gT{w:World}{av:Nat->Prop}{loc:Loc}{h:aT}:∀{vs:oR},ia w av loc h (vs.map lit) vs
  | []=>trivial
  |v::vs=>by simp[ia];exact⟨by simp[Rel,F3],gT⟩
theorem tm{α:Type}(enc:α->oR)(l:List α):(u5 enc l).flatten=((l.map enc).flatten).map lit:=by
  induction l with
  |nil=>rfl
  |cons a l ih=>grind
theorem m9{α:Type}[Inhabited α](enc:α->oR)(k:Nat)(hk:∀x,(enc x).length=k)(l:List α):(flatK enc k l.toArray).toList=(l.map enc).flatten:=by
  have key:∀(l:List α) (t:Nat),t<l.length*k->((l.map enc).flatten)[t]?=G ((enc (l.toArray[t / k]!))[t % k]!):=by
    intro l;induction l with
    |nil=>grind
    |cons a l ih=>
      intro t h;simp only[U5,W6];rcases Nat.lt_or_ge t k with lL|hge
      · rw[Ul lj,Nat.div_eq_of_lt lL,Nat.mod_eq_of_lt lL]
        grind
      · have k0 : 0 < k := by rcases Nat.eq_zero_or_pos k with h0 | h0
                              · grind
                              · exact h0
        rw[T8 lj,hk]
        obtain⟨u,rfl⟩:∃u,t=u+k:=⟨t-k,ji⟩
        have hu:u<l.length*k:=by simp only[Ue,Nat.add_mul,Nat.one_mul] at h;omega
        simp_all
  apply Wx;intro t;have hlen:((l.map enc).flatten).length=l.length*k:=by
    clear key;induction l with
    |nil=>simp
    |cons a l ih=>grind
  by_cases ht:t<l.length*k
  · rw[key l t ht]
    simp[flatK,ht]
  grind [flatK]
theorem tp{w w':World}(h1:w.heap.size<=w'.heap.size)(h2:∀k,k<w.heap.size->w'.heap[k]?=w.heap[k]?)(h3:w'.tape=w.tape/\w'.os=w.os/\w'.output=w.output/\w.drawn<=w'.drawn):∃q os',w'=WU (w.drewN q) os':=by
  refine⟨w'.drawn-w.drawn,w'.heap.extract w.heap.size w'.heap.size,?_⟩;obtain⟨heap,tape,drawn,os,output⟩:=w;obtain⟨heap',tape',drawn',os',output'⟩:=w';obtain⟨rfl,rfl,rfl,h4⟩:=h3;simp only[WU,World.drewN] at h1 h2 h4 ⊢;congr 1;· grind
  · omega
theorem C9{P:Program}{Γ:au}{O:Nat->Prop}{α:Type}[Inhabited α]{enc:α->oR}{k g:Nat}{cf:α->α->Int}{w:World}{loc:Loc}{h:aT}(R:IW Γ O w loc h){f7:Nat}(hblk:sU O loc h f7)(hE:∀x y,Ev P Γ g [.agg ((enc x).map lit),.agg ((enc y).map lit)] [] (dd (cf x y)) []) (o size:Nat):CmpLays P g #[] enc k cf f7 o size w:=by
  intro m os dk hs x y;generalize hW:sortWorldK enc k w f7 o m dk os=W;have hb:f7<w.heap.size:=by
    rcases hblk with ho|ho;· exact R.obd f7 ho
    · exact(R.inb f7 ho).1
  have zml:∀b off v,¬sU O loc h b->w.cell? ⟨b,off,none⟩=some v->W.cell? ⟨b,off,none⟩=some v/\¬sU (λ_=>False) loc [] b:=by
    intro b off v hn hc;have hne:b≠f7:=λe=>hn (e▸hblk);refine⟨?_,λho=>ho.elim id (λh=>absurd h dT)⟩;subst hW;have lL:b<w.heap.size:=by
      simp only[Xh] at hc;split at hc;· grind
      · simp at hc
    have:(sortWorldK enc k w f7 o m dk os).heap[b]? = w.heap[b]?:=by unfold sortWorldK;rw[VT _ _ (by grind [putRowK,Un,Ur,Uz])];simp[putRowK,Un,Ur,Uz,Xx,Ne.symm hne]
    simp only[Xh,this];exact hc
  have R0:IW Γ (λ_=>False) W loc []:=by refine⟨λf7 ho=>absurd ho dT,λf7 ho=>ho.elim,λb b' x x' k c c' hb=>by simp at hb,λb x hb=>by simp at hb,λg cs hg=>?_⟩;exact xf.mono zml g 0 cs (R.glo g cs hg)
  have ra:ia W (sU (λ_=>False) loc []) loc [] [.agg ((enc x).map lit),.agg ((enc y).map lit)] [.agg (enc x).toArray,.agg (enc y).toArray]:=by refine⟨⟨_,rfl,gT⟩,⟨_,rfl,gT⟩,trivial⟩
  refine Xp (callsIn_wide.1 (hE x y (λ_=>False) W loc _ R0 ra)) ?_;rintro e w' ⟨v,d2,h2,l',rfl,⟨rfl,rfl⟩,R',E',rd⟩;refine⟨?_,tp E'.size (λb hb=>E'.same b hb dT) E'.tape⟩;have:v=.int .i64 (cf x y):=by simpa[Rel,F3] using rd
  rw[this]
theorem nI{P:Program}{ρ:Ren}{Γ:au}(ok:POk P)(L:SlLaysF0.n6 P ρ){α:Type}[Inhabited α]{enc:α->oR}{k:Nat}(aE:∀w,(isAgg (ρ.t 24)).run P w=.ok true w)(zE:∀w,(Go.sizeOf (ρ.t 24)).run P w=.ok k w)(hk:∀x,(enc x).length=k)(h1:∀x,∀v∈enc x,v.oneCell'=true){cf:α->α->Int} (hO:Sort.SWO (ltOf cf)) {g:Nat} (hg:fK P g=true) (hE:∀x y,Ev P Γ g [.agg ((enc x).map lit),.agg ((enc y).map lit)] [] (dd (cf x y)) []){h:aT} {b e:Nat} {l:List α} (hb:h[b]? = some (.eQ (u5 enc l) e k)) (hl:l.length<4611686018427387904) (hT:∀x∈l,∀y∈l,(ltOf cf) x y=false->(ltOf cf) y x=false->x=y) :Ev P Γ (ρ.f 6) [.ref (.eQ b e),.p (.v (.func (.func g) #[] #[]))] h (.JY []) (h.set b (.eQ (u5 enc (l.mergeSort λx y=>!(ltOf cf) y x)) e k)):=by
  intro O w loc vs R ra;obtain⟨y,rfl⟩:∃y,vs=[y,.func (.func g) #[] #[]]:=by
    match vs,ra with
    | [y, z], r => exact ⟨y, by have : z = .func (.func g) #[] #[] := by simpa [Rel, F3, ia] using r.2
                                rw[this]⟩
    | [],r=>simp[ia] at r
    | [_],r=>simp[ia] at r
    | _::_::_::_,r=>simp[ia] at r
  have r:=ra.1;simp only[Rel,qn,hb] at r;have hv:=r.2.2 trivial;have B:=R.f7 b _ hb;simp only[xD] at B;have hlen:(u5 enc l).length=l.length:=by simp[u5]
  refine callsIn_wide.2 ?_;cases ZD:loc b with
  | none =>
    rw[ZD] at hv B;obtain⟨hn,rfl⟩:=hv;have xd:l=[]:=by simpa[u5] using hn
    subst xd;refine Xp (AnyF.slices_SortFunc_none L none 0 _ w) ?_;rintro e' w' ⟨rfl,rfl⟩;have hset:h.set b (.eQ (u5 enc (([]:List α).mergeSort λx y=>!(ltOf cf) y x)) e k)=h:=by
      apply Wx;intro i;by_cases hi:i=b;· subst hi;rw[bk hb,hb];simp
      · grind
    refine⟨.tuple #[],.JY [],_,loc,rfl,⟨rfl,rfl⟩,?_,?_,?_⟩;· grind
    · rw[hset];exact Ext.refl _ _ _
    · simp[Rel,ia]
  | some p =>
    obtain⟨f7,cp⟩:=p;rw[ZD] at hv B;obtain⟨o,cap,rfl,rfl,zlM⟩:=hv;simp only at B;obtain⟨o',cap',rc,c,T,fr,ys,zjx,hcs,hle,hfr,hsz,zlJ,pr,rest,hpr,hcl⟩:=B;obtain⟨rfl,rfl⟩:=dh rc;rw[tm] at zlJ;have hys:=mZ zlJ;subst hys;have hblk:f7<w.heap.size:=(V8.1 zjx).1;have zki:sU O loc h f7:=.inr ⟨b,_,mkP o cap,hb,by simp,ZD⟩;have hH:HoldsK enc k w f7 o l.toArray:=by
      intro j hj;have hj':j<l.length*k:=by simpa using hj
      have hc:c[o+j]? = some (flatK enc k l.toArray)[j]!:=by rw[<-Uo,hcl,<-m9 enc k hk l,<-hpr,jP,Ul (by simpa using hj')];rw[Uo,getElem!_pos _ j (by simpa using hj')];exact Array.getElem?_eq_getElem _
      constructor;· simp[Xh,zjx,hc]
      · have:=hfr (o+j) (V8.1 hc).1
        obtain⟨lo,hi⟩:=fr
        simp only[World.frozen?,zjx]
        grind
    have eg:∀args w,(callFunc g args).run P w=.ok (.enter g args) w:=λargs w=>by
      unfold fK at hg;split at hg;· rename_i fn hfn;exact ziR ok hfn hg args w
      · simp at hg
    rw[hlen];refine Xp (AnyQ.slices_SortFunc L k aE zE enc hk h1 cf hO g #[] f7 o cap l.toArray w eg (C9 R zki hE o _) hH hblk hl) ?_;rintro e' w' ⟨rfl,d',n,os,hP,hS,rfl⟩;have hd':d'.toList=l.mergeSort λx y=>!(ltOf cf) y x:=by
      obtain⟨hsz',_,zov⟩:=hP;have e1:d'.extract 0 l.toArray.size=d':=by rw[<-hsz'];exact Zp
      rw[e1,Zp] at zov;refine List.Perm.eq_of_pairwise (le:=λx y=>(!(ltOf cf) y x)=true) ?_ ?_ ?_ (zov.trans (X0 _ _).symm)
      · intro a b' ha hb' h1 h2
        simp at h1 h2
        have ha':a∈l:=by simpa using zov.mem_iff.1 ha
        have hb2:b'∈l:=(X0 _ _).mem_iff.1 hb'
        grind
      · rw[List.pairwise_iff_getElem]
        intro i j hi hj hij
        have hi':i<d'.size:=by simpa using hi
        have hj':j<d'.size:=by simpa using hj
        have:=hS i j (Nat.zero_le _) hij (by omega)
        grind
      · exact List.pairwise_mergeSort (λa b c h1 h2 => by
          simp at h1 h2 ⊢
          exact hO.ntrans _ _ _ h2 h1) (λa b=>by
          cases hab:(ltOf cf) b a
          · simp
          · have : (ltOf cf) a b = false:=by
              cases hba:(ltOf cf) a b
              · rfl
              · have:=hO.trans _ _ _ hab hba
                grind [hO.irrefl]
            simp[this]) l
    have hdA:d'=(l.mergeSort λx y=>!(ltOf cf) y x).toArray:=by rw[<-hd']
    have hlm:(l.mergeSort λx y=>!(ltOf cf) y x).length=l.length:=by simp
    subst hdA;clear hP hS hd';generalize (l.mergeSort λx y=>!(ltOf cf) y x)=m at hlm ⊢;have zow:(sortWorldK enc k w f7 o n m.toArray os).heap[f7]? = some (.cells (UW id o (flatK enc k m.toArray) c) T fr):=by unfold sortWorldK;rw[VT _ _ (by grind [putRowK,Un,Ur,Uz])];simp[putRowK,Un,Ur,Uz,Xx,zjx,Sort.onCells]
    have hfl:((l.map enc).flatten).length=l.length*k:=by rw[<-m9 enc k hk];simp
    have zlr:(UW id o (flatK enc k m.toArray) c).toList=pr++(m.map enc).flatten++rest:=by
      unfold UW;rw[Array.toList_mapIdx,hcl,<-m9 enc k hk m];apply Wx;intro i;rw[List.getElem?_mapIdx];by_cases hp:i<pr.length;· grind
      obtain⟨q,rfl⟩:∃q,i=pr.length+q:=⟨i-pr.length,by omega⟩;rw[jP,jP];subst hpr;by_cases hi:q<l.length*k
      · rw[Ul (by grind),Ul (by simpa[hlm] using hi)]
        simp_all
      · rw[T8 (by grind),T8 (by simp_all)]
        simp[hi,hlm,hfl]
    have key:=R.step (w':=sortWorldK enc k w f7 o n m.toArray os) (l':=loc) (h':=h.set b (.eQ (u5 enc m) e k)) b (.eQ (u5 enc m) e k)
      (by simp[sortWorldK,WU,putRowK,Un,Ur,Uz]) ⟨rfl,rfl,rfl,by simp[sortWorldK,WU,putRowK,Un,Ur,Uz]⟩ (λi hi=>b9 _ _ hi) (bk hb) (λ_ _=>rfl)
      (λz hz=>by rw[hb] at hz;cases hz;exact⟨⟨Nat.le_refl _,λ_=>by grind,rfl⟩,λ_=>rfl⟩)
      (λk' hk' hno=>by
        have hkb:k'≠f7:=λe=>hno _ (mkP o cap) hb (by simp) (by rw[ZD,e])
        unfold sortWorldK
        rw[VT _ _ (by grind [putRowK,Un,Ur,Uz])]
        grind [putRowK,Un,Ur,Uz])
      (λk' c' hk'=>.inl ⟨_,c',hb,by simp,hk'⟩)
      (λE=>by
        simp only[xD,ZD]
        refine⟨o,cap,rfl,_,T,fr,(m.map enc).flatten,zow,?_,?_,?_,?_,?_,pr,rest,hpr,zlr⟩
        · grind [UW]
        · grind
        · grind [UW]
        · grind
        · rw[tm];exact gT)
    grind [Rel,ia]
end Go.Vi
open Go Go.Proofs Go.Shelf
namespace Go.Proofs
def Tryz.zom:Go.Shelf.Ren:=⟨fun|6=>164|15=>109|14=>233|28=>186|29=>187|20=>289|21=>290|22=>291|23=>292|24=>293|25=>294|26=>295|27=>296|46=>322|47=>262|48=>263|49=>323|50=>324|57=>337|n=>n,fun|22=>104|24=>170|25=>243|3=>3|39=>196|0=>0|53=>263|55=>265|4=>4|46=>257|45=>256|50=>191|5=>5|9=>9|66=>334|70=>338|76=>361|77=>362|n=>n,fun|n=>n⟩
theorem Tryz.sortAtt:Yt S5 Tryz.zom:={
 mixed:=by kernel_rfl
 f6:=⟨Tryz.f164.name,by decide,Tryz.func164.trans (congrArg some (by kernel_rfl))⟩
 f14:=⟨Tryz.f233.name,by decide,Tryz.func233.trans (congrArg some (by kernel_rfl))⟩
 f15:=Tryz.func109.trans (congrArg some (by kernel_rfl))
 f20:=⟨Tryz.f289.name,by decide,Tryz.func289.trans (congrArg some (by kernel_rfl))⟩
 f21:=⟨Tryz.f290.name,by decide,Tryz.func290.trans (congrArg some (by kernel_rfl))⟩
 f22:=⟨Tryz.f291.name,by decide,Tryz.func291.trans (congrArg some (by kernel_rfl))⟩
 f23:=⟨Tryz.f292.name,by decide,Tryz.func292.trans (congrArg some (by kernel_rfl))⟩
 f24:=⟨Tryz.f293.name,by decide,Tryz.func293.trans (congrArg some (by kernel_rfl))⟩
 f25:=⟨Tryz.f294.name,by decide,Tryz.func294.trans (congrArg some (by kernel_rfl))⟩
 f26:=⟨Tryz.f295.name,by decide,Tryz.func295.trans (congrArg some (by kernel_rfl))⟩
 f27:=⟨Tryz.f296.name,by decide,Tryz.func296.trans (congrArg some (by kernel_rfl))⟩
 f28:=Tryz.func186.trans (congrArg some (by kernel_rfl))
 f29:=Tryz.func187.trans (congrArg some (by kernel_rfl))
 f46:=⟨Tryz.f322.name,by decide,Tryz.func322.trans (congrArg some (by kernel_rfl))⟩
 f47:=Tryz.func262.trans (congrArg some (by kernel_rfl))
 f48:=Tryz.func263.trans (congrArg some (by kernel_rfl))
 f49:=⟨Tryz.f323.name,by decide,Tryz.func323.trans (congrArg some (by kernel_rfl))⟩
 f50:=⟨Tryz.f324.name,by decide,Tryz.func324.trans (congrArg some (by kernel_rfl))⟩
 f57:=⟨Tryz.f337.name,by decide,Tryz.func337.trans (congrArg some (by kernel_rfl))⟩
 t0:=Tryz.underlying0
 a0:=Tryz.isAgg0
 z0:=Tryz.sizeOf0
 v0:=Tryz.zeroValue0
 t3:=Tryz.underlying3
 a3:=Tryz.isAgg3
 z3:=Tryz.sizeOf3
 v3:=Tryz.zeroValue3
 t4:=Tryz.underlying4
 a4:=Tryz.isAgg4
 z4:=Tryz.sizeOf4
 v4:=Tryz.zeroValue4
 t5:=Tryz.underlying5
 a5:=Tryz.isAgg5
 z5:=Tryz.sizeOf5
 v5:=Tryz.zeroValue5
 t9:=Tryz.underlying9
 a9:=Tryz.isAgg9
 z9:=Tryz.sizeOf9
 v9:=Tryz.zeroValue9
 t22:=Tryz.underlying104
 a22:=Tryz.isAgg104
 z22:=Tryz.sizeOf104
 v22:=Tryz.zeroValue104
 t25:=Tryz.underlying243
 a25:=Tryz.isAgg243
 z25:=Tryz.sizeOf243
 v25:=Tryz.zeroValue243
 t39:=Tryz.underlying196
 a39:=Tryz.isAgg196
 z39:=Tryz.sizeOf196
 v39:=Tryz.zeroValue196
 t45:=Tryz.underlying256
 a45:=Tryz.isAgg256
 z45:=Tryz.sizeOf256
 v45:=Tryz.zeroValue256
 t46:=Tryz.underlying257
 a46:=Tryz.isAgg257
 z46:=Tryz.sizeOf257
 v46:=Tryz.zeroValue257
 t50:=Tryz.underlying191
 a50:=Tryz.isAgg191
 z50:=Tryz.sizeOf191
 v50:=Tryz.zeroValue191
 t53:=Tryz.underlying263
 a53:=Tryz.isAgg263
 z53:=Tryz.sizeOf263
 v53:=Tryz.zeroValue263
 t55:=Tryz.underlying265
 a55:=Tryz.isAgg265
 z55:=Tryz.sizeOf265
 v55:=Tryz.zeroValue265
 t66:=Tryz.underlying334
 a66:=Tryz.isAgg334
 z66:=Tryz.sizeOf334
 v66:=Tryz.zeroValue334
 t70:=Tryz.underlying338
 a70:=Tryz.isAgg338
 z70:=Tryz.sizeOf338
 v70:=Tryz.zeroValue338
 t76:=Tryz.underlying361
 a76:=Tryz.isAgg361
 z76:=Tryz.sizeOf361
 v76:=Tryz.zeroValue361
 t77:=Tryz.underlying362
 a77:=Tryz.isAgg362
 z77:=Tryz.sizeOf362
 v77:=Tryz.zeroValue362}
end Go.Proofs
namespace Go.Vi
set_option maxRecDepth 100000
set_option maxHeartbeats 4000000
open Go.Sort
def Mh(a b:uB):Int:=orI (cF a.d5 b.d5) (cF a.eR b.eR)
def leA(a b:uB):Bool:=!(ltOf Mh) b a
theorem GA(a b:uB):(ltOf Mh) a b=J ↔ a.d5<b.d5\/(a.d5=b.d5/\a.eR<b.eR):=by unfold ltOf Mh orI cF;grind
theorem zK(a b:uB):(ltOf Mh) a b=N ↔ ¬(a.d5<b.d5\/(a.d5=b.d5/\a.eR<b.eR)):=by rw[<-GA,Bool.not_eq_true]
theorem swoA:SWO (ltOf Mh) where
 irrefl x:=by rw[zK];omega
 trans x y z h1 h2:=by grind [GA]
 ntrans x y z h1 h2:=by grind [zK]
def encA(a:uB):oR:=[.int Ζ a.eR,.int Ζ a.d5,.int Ζ a.Bn,.int Ζ a.Js,.int Ζ a.go]
abbrev P9(l:iN):List (bY):=l.map λa=>a.row.map .p
abbrev zcs(a:FuncId):Dp:=(.v (.func (.func a) #[] #[]))
theorem Da{h:aT}{b e:Nat}{l:iN}(hb:h[b]?=G (.eQ (P9 l) e 5))(hl:l.length<4611686018427387904)(hT:∀x∈l,∀y∈l,x.d5=y.d5->x.eR=y.eR->x=y):Ev S5 fI 164 [fE (.eQ b e),.p (zcs 165)] h (tf []) (h.set b (.eQ (P9 (l.mergeSort leA)) e 5)) :=nI (α:=uB) (enc:=encA) (k:=5) (cf:=Mh) ZK Tryz.sortAtt Tryz.isAgg170 Tryz.sizeOf170 (λ_=>rfl) (λx v hv=>by simp[encA] at hv;rcases hv with rfl|rfl|rfl|rfl|rfl<;>rfl) swoA Z (λx y=>lb []) hb hl
  (λx hx y hy h1 h2=>by
   grind [zK])
end Go.Vi
open Go Go.Proofs
namespace Go.Vi
set_option maxRecDepth 100000
set_option maxHeartbeats 4000000
structure CX where
 kind:Int
 sub:Int
 obj:Int
 jW:Int
 P4:Int
 deriving Inhabited,DecidableEq
def CX.row(r:CX):dO:=[vi r.kind,vi r.sub,vi r.obj,vi r.jW,vi r.P4]
abbrev qm(l:List CX):bv:=l.map CX.row
theorem Qa(l:List CX):(ad (qm l)).all (aL 5)=J:=by rw[TW];intro r hr;obtain⟨x,hx,rfl⟩:=T2.1 hr;obtain⟨y,_,rfl⟩:=T2.1 hx;rfl
abbrev zfl(a b:Nat)(d:eO)(g:Int):bY:=[fE (.eQ a b),ab (d.c.map Tc),ab d.p,ab (d.s.map Tj),ab (d.f.map Ta),dd g]
abbrev lkH(w:eO)(bO:Int)(rs:List CX)(e:Nat):aT:=[eF (zfl 1 e w bO),.eQ (ad (qm rs)) e 5]
abbrev ZQ(a:Nat)(b:eO)(d:Int):bY:=[fE (.eQ 1 a),ab (S2 Tc b.c),ab b.p,ab (S2 Tj b.s),ab (S2 Ta b.f),dd d]
abbrev zdI(a:List CX):bY:=[fE (ql 0 0),ab (qm a)]
abbrev zkd(a:List CX)(b:List (bY)):List (bY):=(ad (qm a)++b)
theorem Bu{w:eO}{bO:Int}{rs qs:List CX}(hb:rs.length+qs.length<=1000000000):(Ev S5 jV 167 (zdI qs) (lkH w bO rs 0) (tf []) (lkH w bO (rs++qs) 1)):=Tw (yF (h':=[eF (ZQ 1 w bO),.eQ (zkd rs (S2 (λx=>S2 D.p x) (qm qs))) 1 5]) (d:=D.JY []) [((by(simp only[Qa,uO,Bool.true_and,Bool.and_eq_true,decide_eq_true_eq,Uw];omega)):(Tq (S2 (λx=>S2 D.p x) (qm qs)) (aL 5)&&uO (S7 (ad (qm rs))+S7 (S2 (λx=>S2 D.p x) (qm qs))) 40)=J)]) lj lj
abbrev zdg(a:CX):bY:=[dd a.kind,dd a.sub,dd a.obj,dd a.jW,dd a.P4]
theorem yd{w:eO}{bO:Int}{rs:List CX}{q:CX}(hb:rs.length<=999999999):(Ev S5 jV 167 [fE (ql 0 0),fE (.eQ 2 0)] (lkH w bO rs 0++[.eQ [(zdg q)] 0 5]) (tf []) (lkH w bO (rs++[q]) 1++[.eQ [(zdg q)] 0 5])):=by let v0:bY:=(zdg q);exact Tw (yF (h':=[eF (ZQ 1 w bO),.eQ (ad (qm rs)++[v0]) 1 5,.eQ [v0] 0 5]) (d:=D.JY []) [((by subst v0;(simp[aL,D.one,Up,uO];omega)):(Tq [v0] (aL 5)&&uO (S7 (ad (qm rs))+S7 [v0]) 40)=J)]) (by subst v0;grind) (by subst v0;(simp only[lkH,qm,ad,Uh];rfl))
def rdN:CX:=⟨12,0,0,0,1⟩
theorem zL{w:eO}(hw:w.ok){bO:Int}(h:aT):Ev S5 jV 105 [kb w.l,dd bO] h (tf [ab (zaQ (af w.f bO)),fE (.eQ h.length 0)]) (h++[.eQ (ad (qm [rdN])) 0 5]) :=Tp (qj hw.lf hw.sf h)
def rdT(kk ks ko d5:Int):List CX:=match zmW d5 with
 |true=>[]
 |false=>[⟨kk,ks,ko,d5,S6.wrap (d5+1)⟩]
theorem zM(kk ks ko d5:Int):ic kk ks ko d5=qm (rdT kk ks ko d5):=by unfold ic rdT;cases zmW d5<;>rfl
theorem fk(kk ks ko d5:Int):(rdT kk ks ko d5).length<=1:=by unfold rdT;grind
theorem jk{w:eO}(hw:w.ok){n d5 bO:Int}(h:aT):Ev S5 jV 32 (zbE w n d5 bO) h (zg7 w n d5 bO (qm (rdT 1 n 0 d5))) h:=by rw[<-zM];exact C7 hw h
theorem na{w:eO}(hw:w.ok){d5 bO:Int}(h:aT):Ev S5 jV 121 [kb w.l,dd d5,dd bO] h (tf [ag (bU w d5 bO).1.row,ab (qm (rdT 4 0 0 d5))]) h:=by rw[<-zM];exact C5 hw h
abbrev zct(a b:List CX):List (bY):=(ad (qm (a++b)))
noncomputable abbrev zN(w:eO)(bO:Int)(rs:List CX):aT:=[eF (ZQ 1 w bO),.eQ (zct rs [rdN]) 1 5,.eQ [(zdg rdN)] 0 5]
noncomputable abbrev zO(w:eO)(bO:Int)(rs:List CX):aT:=[eF (ZQ 0 w bO),.eQ (ad (qm rs)) 0 5]
abbrev zdv:D:=(fE (ql 0 5))
abbrev zg3:Do:=[CE (zld 2)]
theorem u6{w:eO}(hw:w.ok){bO:Int}{rs:List CX}(hb:rs.length<=999999000):(Ev S5 jV 93 za8 (lkH w bO rs 0) (ab (zaQ (af w.f bO))) (lkH w bO (rs++[rdN]) 1)):=by let v0:bY:=(ZQ 1 w bO);refine Tw (Yd (d2:=ab (zcd (af w.f bO))) (h2:=[eF v0,.eQ (zct rs [rdN]) 1 5]) (φ:=[Tl 2 (eF v0)=J,Tl 2 (.eQ (zct rs [rdN]) 1 5)=J]) zg3 (yF (h':=(zN w bO rs)) (d:=ab (zcd (af w.f bO))) [.c (@zL w hw bO (zO w bO rs)),pe Β,pe zcM,pe (TF (TC w)),pe Β,pe zdv,po (NJ bO),.c (@yd w bO rs rdN ?_)]) Z ⟨rfl,?_,trivial⟩) (by subst v0;grind) (by subst v0;grind)<;>subst v0<;>(first|omega|exact aD _ _)
noncomputable abbrev rO(w:eO)(bO:Int)(rs:List CX):aT:=[eF (ZQ 0 w bO),.eQ (ad (qm rs)) 0 5,eF zaa,eF zaa]
noncomputable abbrev fQ(w:eO)(bO:Int)(rs:List CX):aT:=[eF (ZQ 0 w bO),.eQ (ad (qm rs)) 0 5,eF zaa]
abbrev ZC(a:eO)(b e f:Int):bY:=[am (ac a b e f).fst.name,dd (ac a b e f).fst.number,dd (ac a b e f).fst.go,dd (ac a b e f).fst.rep,dd (Te (ac a b e f).fst.J3).op,dd (Te (ac a b e f).fst.J3).c,am (Te (ac a b e f).fst.J3).nm,dd (Te (ac a b e f).fst.J3).n,dd (Te (ac a b e f).fst.J3).d,ab (Te (ac a b e f).fst.J3).ks,dd (Te (ac a b e f).fst.Ω).op,dd (Te (ac a b e f).fst.Ω).c,am (Te (ac a b e f).fst.Ω).nm,dd (Te (ac a b e f).fst.Ω).n,dd (Te (ac a b e f).fst.Ω).d,ab (Te (ac a b e f).fst.Ω).ks]
abbrev zbF(a:Nat)(b c:Int):bY:=[fE (ql a 0),dd b,dd c]
abbrev zb8(a:List CX)(b:Nat):mX:=(.eQ (ad (qm a)) b 5)
abbrev zcL(a:List CX)(b c d:Int):List (bY):=(ad (qm (a++rdT b c 0 d)))
theorem qO{w:eO}(hw:w.ok){bO n d5:Int}{rs:List CX}(hb:rs.length<=999999000):(Ev S5 jV 163 (zbF 0 n d5) (lkH w bO rs 0) (ag (ac w n d5 bO).1.row) (lkH w bO (rs++rdT 1 n 0 d5) 1)):=by let v0:bY:=(ZQ 1 w bO);refine Tw (Yd (d2:=TF (ZC w n d5 bO)) (h2:=[eF v0,.eQ (zcL rs 1 n d5) 1 5]) (φ:=[Tl 2 (eF v0)=J,Tl 2 (zb8 (rs++rdT 1 n 0 d5) 1)=J]) zg3 (yF (h':=[eF v0,.eQ (zcL rs 1 n d5) 1 5,eF (ZC w n d5 bO),eF (ZC w n d5 bO)]) (d:=TF (ZC w n d5 bO)) [.v (@jk w hw n d5 bO (fQ w bO rs)),pe Β,pe Β,pe zcM,pe zcM,pe (TF (TC w)),pe (TF (TC w)),pe Β,pe Β,pe zdv,pe zdv,po (NJ bO),po (NJ bO),pr (fQ w bO rs),(@jk w hw n d5 bO (fQ w bO rs)),(@jk w hw n d5 bO (rO w bO rs)),.c ((fX [0,1] (@Bu w bO rs (rdT 1 n 0 d5) (by subst v0;(have:=fk 1 n 0 d5;omega))) ⟨?_,trivial⟩ ⟨?_,trivial⟩):Ev S5 jV 167 [fE (ql 0 0),ab (qm (rdT 1 n 0 d5))] [eF (ZQ 0 w bO),.eQ (ad (qm rs)) 0 5,eF zaa,eF (ZC w n d5 bO)] (D.JY []) [eF v0,.eQ (zcL rs 1 n d5) 1 5,eF zaa,eF (ZC w n d5 bO)])]) Z ⟨rfl,(by subst v0;exact aD _ _),trivial⟩) (by subst v0;rfl) (by subst v0;grind)<;>subst v0<;>(exact aj _ _)
abbrev zfa(a:List CX)(b c d:Int):bv:=(qm (a++[{kind:=5,sub:=b,obj:=c,jW:=0,P4:=d}]))
noncomputable abbrev fR(w:eO)(bO:Int)(st:Int)(n:Int)(d5:Int)(rs:List CX):aT:=[eF (ZQ 1 w bO),.eQ (ad (zfa rs st n d5)) 1 5,eF (Z8 5 st n),.eQ [[dd 5,dd st,dd n,dd 0,dd d5]] 0 5]
theorem zP{w:eO}(hw:w.ok){bO st n d5:Int}{rs:List CX}(hb:rs.length<=999999000):(Ev S5 jV 162 [fE (ql 0 0),dd st,dd n,dd d5] (lkH w bO rs 0) (ab ((aH 5 st n 0 d5 bO w.f).map Ξ.row)) (lkH w bO (rs++[⟨5,st,n,0,d5⟩]) 1)):=by let v0:bY:=(ZQ 1 w bO);let v1:=S2 Ξ.row (aH 5 st n 0 d5 bO w.f);refine Tw (Yd (d2:=ab v1) (h2:=[eF v0,.eQ (ad (zfa rs st n d5)) 1 5]) (φ:=[Tl 2 (eF v0)=J,Tl 2 (zb8 (rs++[{kind:=5,sub:=st,obj:=n,jW:=0,P4:=d5}]) 1)=J]) zg3 (yF (h':=(fR w bO st n d5 rs)) (d:=ab v1) [.c ((fX [0,1,3] (@yd w bO rs ({kind:=5,sub:=st,obj:=n,jW:=0,P4:=d5}) (by subst v0 v1;omega)) ⟨?_,?_,trivial⟩ ⟨?_,?_,trivial⟩):Ev S5 jV 167 [fE (ql 0 0),fE (.eQ 3 0)] [eF (ZQ 0 w bO),.eQ (ad (qm rs)) 0 5,eF (Z8 5 st n),.eQ [[dd 5,dd st,dd n,dd 0,dd d5]] 0 5] (D.JY []) (fR w bO st n d5 rs)),pe Β,pe Β,pe Β,pe Β,pe (TF (Z8 5 st n)),.v (Tp (Γ':=jV) (@iM 5 st n 0 d5 bO (w.f) (by subst v0 v1;exact hw.sf) (fR w bO st n d5 rs)))]) Z ⟨rfl,(by subst v0 v1;exact aD _ _),trivial⟩) (by subst v0 v1;grind) (by subst v0 v1;grind)<;>subst v0 v1<;>(first|rfl|exact aj _ _)
theorem zQ{h:aT}{b e:Nat}{l:iN}(hb:h[b]?=G (.eQ (ad (l.map Tb)) e 5))(hl:l.length<4611686018427387904)(hT:∀x∈l,∀y∈l,x.d5=y.d5->x.eR=y.eR->x=y):Ev S5 fI 164 [fE (.eQ b e),.p (zcs 165)] h (tf []) (h.set b (.eQ (ad ((l.mergeSort leA).map Tb)) e 5)):=by
 have e1:∀l:iN,ad (l.map Tb)=P9 l:=λl=>by simp[ad]
 rw[e1] at hb ⊢;exact Da hb hl hT
abbrev zdm(a:Int):bY:=[dd a,fE (.eQ 3 0)]
abbrev ofH(w:eO)(bO st:Int)(rs:List CX)(ats:iN):aT:=[eF (zfl 1 1 w bO),.eQ (ad (qm rs)) 1 5,eF (zdm st),.eQ (ad (ats.map Tb)) 0 5]
abbrev ziy(a:Nat):Nat×D:=(a,fE (ql 2 0))
abbrev zdt:Nat×D:=(ziy 6)
abbrev zhA(a b:Nat):Nat×D:=(a,fE (ql b 0))
abbrev zdM:Nat×D:=(zhA 0 0)
abbrev oiS(w:eO)(bO st d5:Int)(ns:bv)(ni n:Int)(ps:bv)(rs:List CX)(ats:iN)(j:Int):AS :={t:=oz 67 0 [zdM,(1,dd st),(2,dd d5),zdt,(8,dd n),(16,ab ns),(17,dd ns.length),(18,dd ni),(26,ab ps),(27,dd ps.length),(28,dd j)],h:=ofH w bO st rs ats,m:=[]}
abbrev RA:=List CX×iN
def zks(p:Ξ):Bool:=eY (TY p.value 16>12)||eY (S6.wrap (TR p.value 16)>=7)
def GB(w:eO)(bO n:Int)(p:Ξ):uB:=⟨n,p.d5,TY p.value 16,S6.wrap (TR p.value 16),(ac w n p.d5 bO).1.go⟩
def ye(w:eO)(bO n:Int)(s:RA)(p:Ξ):RA:=bif zks p then s else (s.1++rdT 1 n 0 p.d5,s.2++[GB w bO n p])
theorem u7(l:iN)(a b c d e:Int):ad (l.map Tb)++[[dd a,dd b,dd c,dd d,dd e]]=ad ((l++[uB.mk a b c d e]).map Tb):=by simp[Tb]
abbrev zae(a b c:Nat)(d:List (bY))(e f g:Nat)(h:mX):Bool:=Tl a (zjv (b+1+1) c (d) e f g h)
abbrev zcl(a:Nat):At:=(G (fE (.eQ a 0)))
abbrev zcI(a b:Nat):Nat×D:=(a,dd (↑b:Int))
abbrev zdb(a:iN):List (bY):=ad (S2 Tb a)
abbrev zfV:D:=(fE (ql 4 0))
abbrev zhK(a:Nat)(b:List (bY))(c d e:Nat)(f:mX):mX:=(zjv (0+1+1+1) a b c d e (f))
abbrev zjW(a:List CX)(b c:Int):bv:=(qm (a++rdT 1 b 0 c))
theorem Qb{w:eO}(hw:w.ok){bO st d5:Int}{ns:List (List Dp)}{ni n:Int}{ps:List (List Dp)}{rs0 rs:List CX}{ats:List uB}{j:Nat}{p:Ξ}(hr:ao (j:Int) ps p.row 2)(lL:eY ((j:Int)<(ps.length:Int))=true)(hwr:S6.wrap ((j:Int)+1)=((j+1:Nat):Int))(hb:rs.length<=999998000)(ha:ats.length<=999998000):(CW S5 jV (lkH w bO rs0 0) false (sub WN 1) (oiS w bO st d5 ns ni n ps rs ats j) .normal (oiS w bO st d5 ns ni n ps (ye w bO n (rs,ats) p).1 (ye w bO n (rs,ats) p).2 ((j+1:Nat):Int))):=by
 cases sQ:eY (TY p.value 16>12)||eY (S8 S6 (TR p.value 16)>=7)
 ·let v0:List D:=[dd n,dd p.d5,dd (TY p.value 16),dd (S8 S6 (TR p.value 16)),dd (ac w n p.d5 bO).fst.go]
  let v1:List D:=[.ref (.eQ 1 1),ab (S2 Tc w.c),ab w.p,ab (S2 Tj w.s),ab (S2 Ta w.f),dd bO]
  let v2:List D:=[.ref (.eQ 1 2),ab (S2 Tc w.c),ab w.p,ab (S2 Tj w.s),ab (S2 Ta w.f),dd bO]
  refine yX {t:=oz 67 0 [(0,.ref (.ptr 0 0)),(1,dd st),(2,dd d5),(6,.ref (.ptr 2 0)),(8,dd n),(16,ab ns),(17,dd (↑(S7 ns):Int)),(18,dd ni),(26,ab ps),(27,dd (↑(S7 ps):Int)),(28,dd (S8 S6 ((↑j:Int)+1)))],h:=[.var v1,.eQ (ad (qm (rs++rdT 1 n 0 p.d5))) 1 5,.var [dd st,.ref (.eQ 3 0)],.eQ (ad (S2 Tb ats)++[v0]) 0 5],m:=[]} Tr [.st (.mask [0,1,2,6,8,16,17,18,26,27,28]),.st (.ren 1 1),.st (.ren 3 0),.st (.Ju 4)] [.b lL,.r hr,(rfl:(!eY (16=0))=true),(rfl:(!eY (16=0))=true),.b sQ,.c ((fX [0,1] (Ev.upX [0,1] (@qO w hw bO n (p.d5) rs (by subst v0 v1 v2;grind)) (by kernel_rfl) ⟨(by subst v0 v1 v2;exact aj _ _),trivial⟩ ⟨(by subst v0 v1 v2;exact aj _ _),trivial⟩) ⟨(by subst v0 v1 v2;exact aj _ _),trivial⟩ ⟨(by subst v0 v1 v2;exact aj _ _),trivial⟩):Ev S5 jV 163 [.ref (.ptr 0 0),dd n,dd p.d5] [.var v1,.eQ (ad (qm rs)) 1 5,.var [dd st,.ref (.eQ 3 0)],.eQ (ad (S2 Tb ats)) 0 5,.var [dd p.d5,dd p.value]] (TF [am (ac w n p.d5 bO).fst.name,dd (ac w n p.d5 bO).fst.number,dd (ac w n p.d5 bO).fst.go,dd (ac w n p.d5 bO).fst.rep,dd (Te (ac w n p.d5 bO).fst.J3).op,dd (Te (ac w n p.d5 bO).fst.J3).c,am (Te (ac w n p.d5 bO).fst.J3).nm,dd (Te (ac w n p.d5 bO).fst.J3).n,dd (Te (ac w n p.d5 bO).fst.J3).d,ab (Te (ac w n p.d5 bO).fst.J3).ks,dd (Te (ac w n p.d5 bO).fst.Ω).op,dd (Te (ac w n p.d5 bO).fst.Ω).c,am (Te (ac w n p.d5 bO).fst.Ω).nm,dd (Te (ac w n p.d5 bO).fst.Ω).n,dd (Te (ac w n p.d5 bO).fst.Ω).d,ab (Te (ac w n p.d5 bO).fst.Ω).ks]) [.var v2,.eQ (ad (qm (rs++rdT 1 n 0 p.d5))) 2 5,.var [dd st,.ref (.eQ 3 0)],.eQ (ad (S2 Tb ats)) 0 5,.var [dd p.d5,dd p.value]]),(?_:(Tq [v0] (aL 5)&&uO (S7 (ad (S2 Tb ats))+S7 [v0]) 40)=true),pe (.ref (.ptr 2 1)),pe (.ref (.ptr 2 1)),pe (.ref (.ptr 2 1)),po (some (.ref (.eQ 3 0))),po (some (.ref (.eQ 3 0))),po (some (.ref (.eQ 3 0))),pe (.ref (.ptr 4 0)),pe (.ref (.ptr 4 0)),po (some (dd p.d5)),po (some (dd p.d5)),pe (.ref (.ptr 4 0)),po (some (dd p.d5)),pe (.ref (.ptr 2 1)),(vM (qm (rs++rdT 1 n 0 p.d5)) 1 2 1),(vMa (S2 Tb ats) [v0] 1 2 1),pr [v0],(vMa (S2 Tb ats) [v0] 3 1 0),(vM (qm (rs++rdT 1 n 0 p.d5)) 3 1 0),pr [v0],(rfl:Tl 4 (match 0==3 with|true=>.eQ (ad (S2 Tb ats)++[v0]) 0 5|false=>A7 (ar 3 1 0) (match 0==1 with|true=>.eQ (ad (qm (rs++rdT 1 n 0 p.d5))) 1 5|false=>A7 (ar 1 2 1) (.var v2)))=true),(?_:Tl 4 (match 0+1==3 with|true=>.eQ (ad (S2 Tb ats)++[v0]) 0 5|false=>A7 (ar 3 1 0) (match 0+1==1 with|true=>.eQ (ad (qm (rs++rdT 1 n 0 p.d5))) 1 5|false=>A7 (ar 1 2 1) (.eQ (ad (qm (rs++rdT 1 n 0 p.d5))) 2 5)))=true),(rfl:Tl 4 (match 0+1+1==3 with|true=>.eQ (ad (S2 Tb ats)++[v0]) 0 5|false=>A7 (ar 3 1 0) (match 0+1+1==1 with|true=>.eQ (ad (qm (rs++rdT 1 n 0 p.d5))) 1 5|false=>A7 (ar 1 2 1) (.var [dd st,.ref (.eQ 3 1)])))=true),(iVa 4 (S2 Tb ats) [v0] 0 5)] (by subst v0 v1 v2;grind) (by subst v0 v1 v2;(have hh:zks p=false:=sQ;simp only[hwr,ye,hh,cond_false,u7];first|done|rfl))<;>subst v0 v1 v2<;>(first|exact br|(simp[aL,D.one,Up,uO];omega))
 ·let v0:List D:=[.ref (.eQ 1 1),ab (S2 Tc w.c),ab w.p,ab (S2 Tj w.s),ab (S2 Ta w.f),dd bO]
  refine yX {t:=oz 67 0 [(0,.ref (.ptr 0 0)),(1,dd st),(2,dd d5),(6,.ref (.ptr 2 0)),(8,dd n),(16,ab ns),(17,dd (↑(S7 ns):Int)),(18,dd ni),(26,ab ps),(27,dd (↑(S7 ps):Int)),(28,dd (S8 S6 ((↑j:Int)+1)))],h:=[.var v0,.eQ (ad (qm rs)) 1 5,.var [dd st,.ref (.eQ 3 0)],.eQ (ad (S2 Tb ats)) 0 5],m:=[]} Tr [.st (.mask [0,1,2,6,8,16,17,18,26,27,28]),.st (.ren 1 1),.st (.ren 3 0),.st (.Ju 4)] [.b lL,.r hr,.b (rfl:(!eY (16=0))=true),(rfl:(!eY (16=0))=true),sQ,(?_:S2 (Tz (ar 1 1 1)) (ad (qm rs))=ad (qm rs)),(?_:S2 (Tz (ar 1 1 1)) (ad (S2 Tb ats))=ad (S2 Tb ats)),(?_:S2 (Tz (ar 3 0 0)) (ad (S2 Tb ats))=ad (S2 Tb ats)),(?_:S2 (Tz (ar 3 0 0)) (ad (qm rs))=ad (qm rs)),(rfl:Tl 4 (match 0==3 with|true=>.eQ (ad (S2 Tb ats)) 0 5|false=>A7 (ar 3 0 0) (match 0==1 with|true=>.eQ (ad (qm rs)) 1 5|false=>A7 (ar 1 1 1) (.var v0)))=true),(?_:Tl 4 (match 0+1==3 with|true=>.eQ (ad (S2 Tb ats)) 0 5|false=>A7 (ar 3 0 0) (match 0+1==1 with|true=>.eQ (ad (qm rs)) 1 5|false=>A7 (ar 1 1 1) (.eQ (ad (qm rs)) 1 5)))=true),(rfl:Tl 4 (match 0+1+1==3 with|true=>.eQ (ad (S2 Tb ats)) 0 5|false=>A7 (ar 3 0 0) (match 0+1+1==1 with|true=>.eQ (ad (qm rs)) 1 5|false=>A7 (ar 1 1 1) (.var [dd st,.ref (.eQ 3 0)])))=true),(?_:Tl 4 (match 0+1+1+1==3 with|true=>.eQ (ad (S2 Tb ats)) 0 5|false=>A7 (ar 3 0 0) (match 0+1+1+1==1 with|true=>.eQ (ad (qm rs)) 1 5|false=>A7 (ar 1 1 1) (.eQ (ad (S2 Tb ats)) 0 5)))=true)] (by subst v0;grind) (by subst v0;(have hh:zks p=true:=sQ;simp[hwr,ye,hh];first|done|rfl))<;>subst v0<;>(first|exact aB _ _|exact br)
abbrev zco(a b:Int)(c:bv)(d:D)(e:Int):List (Nat×D):=[(zhA 0 0),(1,dd a),(2,dd b),(ziy 6),(16,ab c),(17,d),(18,dd e)]
theorem Qc{w:eO}{bO st d5:Int}{ns:bv}{ni n:Int}{ps:bv}{rs0 rs:List CX}{ats:iN}{j:Nat}(lL:eY ((j:Int)<(ps.length:Int))=N):(CW S5 jV (lkH w bO rs0 0) N (sub WN 1) (oiS w bO st d5 ns ni n ps rs ats j) (E8 2) {t:=oz 67 0 (zco st d5 ns (dd ns.length) ni),h:=ofH w bO st rs ats,m:=[]}):=yx [CE (EZ [0,1,2,6,16,17,18])] [.b lL]
theorem Bw{w:eO}{bO n:Int}{s:RA}(p:Ξ):(ye w bO n s p).1.length<=s.1.length+1/\(ye w bO n s p).2.length<=s.2.length+1:=by
 unfold ye;cases zks p;·have:=fk 1 n 0 p.d5;simp;omega
 ·simp
theorem oi_cw{w:eO}(hw:w.ok){bO st d5:Int}{ns:bv}{ni n:Int}{ps:List Ξ}(hp:ps.length<=2000){rs0 rs:List CX}{ats:iN}(hb:rs.length<=999990000)(ha:ats.length<=999990000):CW S5 jV (lkH w bO rs0 0) false (.loop (sub WN 1)) (oiS w bO st d5 ns ni n (ps.map Ξ.row) rs ats 0) (.exit 2) {t:=oz 67 0 (zco st d5 ns (dd ns.length) ni),h:=ofH w bO st (ps.foldl (ye w bO n) (rs,ats)).1 (ps.foldl (ye w bO n) (rs,ats)).2,m:=[]}:=by
 have hl:ah ps:=by unfold ah;omega
 have:=UR (P:=S5) (Γ:=jV) (h0:=lkH w bO rs0 0) (rd:=false) (c:=sub WN 1) (σ:=RA) (ρ:=Empty) ps (λp s=>.inl (ye w bO n s p))
  (λj s=>oiS w bO st d5 ns ni n (ps.map Ξ.row) s.1 s.2 (j:Int)) (.exit 2) (λs=>{t:=oz 67 0 (zco st d5 ns (dd ns.length) ni),h:=ofH w bO st s.1 s.2,m:=[]}) (λr=>r.elim)
  (λj s=>s.1.length<=rs.length+j/\s.2.length<=ats.length+j) (by simp) (λr=>r.elim) ?_ ?_ (rs,ats) (by simp)
 ·rw[aM] at this;exact this
 ·intro j p s hpj hs;have hi:=(Td.1 hpj).1;refine⟨λs' h=>by cases h;have:=Bw (w:=w) (bO:=bO) (n:=n) (s:=s) p;omega,Qb hw (rowAt hpj rfl) (EV _ hi) (sR hi hl) (by omega) (by omega)⟩
 ·intro s _;exact Qc (aR _ ps)
theorem dq{kk ks ko jW to bO:Int}{l:AT}:(aH kk ks ko jW to bO l).length<=1024:=by
 have key:∀(rs:bV) (ns:iS) (l:List Ξ),(ns.foldl (λl n=>ptF (rs.getD n 0) n l) l).length<=l.length+ns.length:=by
  intro rs ns;induction ns with
  |nil=>intro l;simp
  |cons n ns ih=>intro l;have:=ih (ptF (rs.getD n 0) n l);have h2:=Gy (rs.getD n 0) n l;grind
 unfold aH Kg;refine Vj (key _ _ _) ?_;have:vF to<=1024:=by unfold vF;split<;>omega
 simp only[List.length_nil,Zx];have:0<=Mg jW:=Gz jW;omega
abbrev ooS(w:eO)(bO st d5:Int)(ns:bv)(rs:List CX)(ats:iN)(i:Int):AS :={t:=oz 67 0 (zco st d5 ns (dd ns.length) i),h:=ofH w bO st rs ats,m:=[]}
def ii(w:eO)(bO st d5:Int)(s:RA)(n:Int):RA:=(aH 5 st n 0 d5 bO w.f).foldl (ye w bO n) (s.1++[⟨5,st,n,0,d5⟩],s.2)
noncomputable abbrev Db(w:eO)(bO:Int)(st:Int)(rs:List CX)(ats:iN):aT:=[eF (ZQ 1 w bO),.eQ (ad (qm rs)) 1 5,eF (zdm st),.eQ (zdb ats) 0 5]
theorem Qd{w:eO}(hw:w.ok){bO st d5:Int}{ns:List (List Dp)}{n:Int}{rs0 rs:List CX}{ats:List uB}{i:Nat}(hr:ao (i:Int) ns [vi n] 1)(lL:eY ((i:Int)<(ns.length:Int))=true)(hwr:S6.wrap ((i:Int)+1)=((i+1:Nat):Int))(hb:rs.length<=999980000)(ha:ats.length<=999980000):(CW S5 jV (lkH w bO rs0 0) false (sub WN 0) (ooS w bO st d5 ns rs ats i) .normal (ooS w bO st d5 ns (ii w bO st d5 (rs,ats) n).1 (ii w bO st d5 (rs,ats) n).2 ((i+1:Nat):Int))):=by
 have xd:=(@oi_cw (w) (hw) (bO) (st) (d5) (ns) ((↑i:Int)) (n) (aH 5 st n 0 d5 bO w.f) (by first|assumption|rfl|omega|exact aB _ _|exact Vj dq (by omega)|(simp;omega)) (rs0) (rs++[{kind:=5,sub:=st,obj:=n,jW:=0,P4:=d5}]) (ats) (by grind) (by grind))
 let v0:=TE (ye w bO n) (rs++[{kind:=5,sub:=st,obj:=n,jW:=0,P4:=d5}],ats) (aH 5 st n 0 d5 bO w.f)
 refine yX {t:=oz 67 0 [(0,.ref (.ptr 0 0)),(1,dd st),(2,dd d5),(6,.ref (.ptr 2 0)),(16,ab ns),(17,dd (↑(S7 ns):Int)),(18,dd (S8 S6 ((↑i:Int)+1)))],h:=[.var [.ref (.eQ 1 1),ab (S2 Tc w.c),ab w.p,ab (S2 Tj w.s),ab (S2 Ta w.f),dd bO],.eQ (ad (qm v0.fst)) 1 5,.var [dd st,.ref (.eQ 3 0)],.eQ (ad (S2 Tb v0.2)) 0 5],m:=[]} Tr [.st (.mask [0,1,2,6,16,17,18])] [.b lL,.r hr,.c ((fX [0,1] (Ev.upX [0,1] (@zP w hw bO st n d5 rs (by subst v0;grind)) (by kernel_rfl) ⟨?_,trivial⟩ ⟨?_,trivial⟩) ⟨?_,trivial⟩ ⟨?_,trivial⟩):Ev S5 jV 162 [.ref (.ptr 0 0),dd st,dd n,dd d5] (Db w bO st rs ats) (ab (S2 Ξ.row (aH 5 st n 0 d5 bO w.f))) [.var [.ref (.eQ 1 2),ab (S2 Tc w.c),ab w.p,ab (S2 Tj w.s),ab (S2 Ta w.f),dd bO],.eQ (ad (qm (rs++[{kind:=5,sub:=st,obj:=n,jW:=0,P4:=d5}]))) 2 5,.var [dd st,.ref (.eQ 3 0)],.eQ (ad (S2 Tb ats)) 0 5]),(vM (qm (rs++[{kind:=5,sub:=st,obj:=n,jW:=0,P4:=d5}])) 1 2 1),(vM (S2 Tb ats) 1 2 1),.o (.ren 1 1),.s [0,1,2,6,8,16,17,18,26,27,28] xd] (by subst v0;grind) (by subst v0;(simp only[hwr];rfl))<;>subst v0<;>(exact aj _ _)
theorem Qe{w:eO}{bO st d5:Int}{ns:bv}{rs0 rs:List CX}{ats:iN}{i:Nat}(lL:eY ((i:Int)<(ns.length:Int))=N):(CW S5 jV (lkH w bO rs0 0) N (sub WN 0) (ooS w bO st d5 ns rs ats i) (E8 0) {t:=oz 67 0 [zdt],h:=ofH w bO st rs ats,m:=[]}):=yx (zeI 6) [.b lL]
theorem tq{w:eO}{bO n:Int}:∀(ps:List Ξ) (s:RA),(ps.foldl (ye w bO n) s).1.length<=s.1.length+ps.length/\(ps.foldl (ye w bO n) s).2.length<=s.2.length+ps.length
 | [],s=>qk
 |p::ps,s=>by have h1:=Bw (w:=w) (bO:=bO) (n:=n) (s:=s) p;have h2:=tq (w:=w) (bO:=bO) (n:=n) ps (ye w bO n s p);grind
theorem GC{w:eO}{bO st d5:Int}(s:RA)(n:Int):(ii w bO st d5 s n).1.length<=s.1.length+1025/\(ii w bO st d5 s n).2.length<=s.2.length+1024:=by unfold ii;have h1:=tq (w:=w) (bO:=bO) (n:=n) (aH 5 st n 0 d5 bO w.f) (s.1++[⟨5,st,n,0,d5⟩],s.2);have h2:=dq (kk:=5) (ks:=st) (ko:=n) (jW:=0) (to:=d5) (bO:=bO) (l:=w.f);grind
theorem oo_g{w:eO}(hw:w.ok){bO st d5:Int}{ns:bV}(hn:ns.length<=69000){rs0 rs:List CX}(hb:rs.length<=800000000){ats:iN}(ha:ats.length<=1000):CW S5 jV (lkH w bO rs0 0) false (.loop (sub WN 0)) (ooS w bO st d5 (zaQ ns) rs ats 0) (.exit 0) {t:=oz 67 0 [zdt],h:=ofH w bO st (ns.foldl (ii w bO st d5) (rs,ats)).1 (ns.foldl (ii w bO st d5) (rs,ats)).2,m:=[]}:=by
 have hl:ah ns:=by unfold ah;omega
 have:=UR (P:=S5) (Γ:=jV) (h0:=lkH w bO rs0 0) (rd:=false) (c:=sub WN 0) (σ:=RA) (ρ:=Empty) ns (λn s=>.inl (ii w bO st d5 s n))
  (λi s=>ooS w bO st d5 (zaQ ns) s.1 s.2 (i:Int)) (.exit 0) (λs=>{t:=oz 67 0 [zdt],h:=ofH w bO st s.1 s.2,m:=[]}) (λr=>r.elim)
  (λi s=>s.1.length<=rs.length+i*1025/\s.2.length<=ats.length+i*1025) (by simp) (λr=>r.elim) ?_ ?_ (rs,ats) (by simp)
 ·rw[aM] at this;exact this
 ·intro i n s hni hs;have hi:=(Td.1 hni).1;refine⟨λs' h=>by cases h;have:=GC (w:=w) (bO:=bO) (st:=st) (d5:=d5) s n;omega,Qd hw (rowAt (row:=λn=>[vi n]) hni rfl) (EV (λn=>[vi n]) hi) (sR hi hl) (by omega) (by omega)⟩
 ·intro s _;exact Qe (aR (λn=>[vi n]) ns)
theorem oo_cw{w:eO}(hw:w.ok){bO st d5:Int}{ns:bV}(hn:ns.length<=69000){rs0 rs:List CX}(hb:rs.length<=800000000):CW S5 jV (lkH w bO rs0 0) false (.loop (sub WN 0)) (ooS w bO st d5 (zaQ ns) rs [] 0) (.exit 0) {t:=oz 67 0 [zdt],h:=ofH w bO st (ns.foldl (ii w bO st d5) (rs,[])).1 (ns.foldl (ii w bO st d5) (rs,[])).2,m:=[]}:=oo_g hw hn hb (by simp)
def H1(w:eO)(bO st d5:Int)(rs:List CX):RA:=(af w.f bO).foldl (ii w bO st d5) (rs++[rdN],[])
def zR(w:eO)(bO st d5:Int)(rs:List CX):iN:=(H1 w bO st d5 rs).2.mergeSort leA
theorem bF{fs:AT}{bO:Int}:(af fs bO).length<=fs.length:=by have:=jS (many:=sM fs bO) fs [];simp at this;unfold af EQ;simpa using this
noncomputable abbrev Qf(w:eO)(bO:Int)(st:Int)(d5:Int)(rs:List CX):aT:=[eF (ZQ 1 w bO),.eQ (ad (qm (TE (ii w bO st d5) (rs++[rdN],[]) (af w.f bO)).fst)) 1 5,eF (zdm st),.eQ (zdb ((TE (ii w bO st d5) (rs++[rdN],[]) (af w.f bO)).2)) 0 5]
noncomputable abbrev Qg(w:eO)(bO:Int)(st:Int)(d5:Int)(rs:List CX):aT:=[eF (ZQ 1 w bO),.eQ (ad (qm (TE (ii w bO st d5) (rs++[rdN],[]) (af w.f bO)).fst)) 1 5,eF (zdm st),.eQ (zdb (UF (H1 w bO st d5 rs).2 leA)) 0 5]
abbrev zib(a b c:Nat)(d:bv)(e:mX):mX:=(match a==b with|true=>.EU|false=>A7 (cw b c d) (e))
theorem of_a{w:eO}(hw:w.ok){bO st d5:Int}{rs:List CX}(hb:rs.length<=700000000)(hn:(af w.f bO).length<=69000)(hl:(H1 w bO st d5 rs).2.length<4611686018427387904)(hT:∀x∈(H1 w bO st d5 rs).2,∀y∈(H1 w bO st d5 rs).2,x.d5=y.d5->x.eR=y.eR->x=y):(Ev S5 jV 91 (zbF 0 st d5) (lkH w bO rs 0) (kb [dd st,ab ((zR w bO st d5 rs).map Tb)]) (lkH w bO (H1 w bO st d5 rs).1 1)):=by have xd:=(@oo_cw (w) (hw) (bO) (st) (d5) (af w.f bO) (hn) (rs) (rs++[rdN]) lj);let v0:bY:=(ZQ 1 w bO);let v1:=S2 Tb (zR w bO st d5 rs);let v2:=TE (ii w bO st d5) (rs++[rdN],[]) (af w.f bO);refine Tw (Yd (d2:=TF [dd st,ab v1]) (h2:=[eF v0,.eQ (ad (qm v2.fst)) 1 5]) (φ:=[(zdb (UF (H1 w bO st d5 rs).2 leA))=S2 (λx=>S2 D.p x) v1,S2 (Tz (cw 3 0 v1)) (ad (qm v2.fst))=ad (qm v2.fst),Tl 2 (zib 0 3 0 v1 (eF v0))=J,Tl 2 (match 0+1==3 with|true=>.EU|false=>A7 (cw 3 0 v1) (.eQ (ad (qm v2.fst)) 1 5))=J]) [CE (τ 3 v1),CE (zld 2)] (yF (h':=(Qg w bO st d5 rs)) (d:=TF (zdm st)) [.c ((fX [0,1] (@u6 w hw bO rs (by subst v0 v1 v2;grind)) ⟨(by subst v0 v1 v2;exact aj _ _),trivial⟩ ⟨(by subst v0 v1 v2;exact aj _ _),trivial⟩):Ev S5 jV 93 za8 [eF (ZQ 0 w bO),.eQ (ad (qm rs)) 0 5,eF [dd st,nq]] (ab (zcd (af w.f bO))) [eF v0,.eQ (zct rs [rdN]) 1 5,eF [dd st,nq]]),.o (.zfG 2 1 5),.s [0,1,2,6,16,17,18] xd,.c (Tp (Γ':=jV) (@zQ (Qf w bO st d5 rs) 3 0 ((H1 w bO st d5 rs).2) ?_ hl hT))]) Z ⟨?_,?_,rfl,?_,trivial⟩) EX EX<;>subst v0 v1 v2<;>(first|rfl|exact aB _ _|exact br)
def ptO(rs:bV)(n:Nat):Option Ξ:=bif eY (rs.getD n 0>=0) then G ⟨(n:Int),rs.getD n 0⟩ else Y
theorem GD(rs:bV)(x to:Int):Kg rs x to=(US x.toNat (vF to-x).toNat).filterMap (ptO rs):=by
 have key:∀(ns:iS) (l:List Ξ),ns.foldl (λl n=>ptF (rs.getD n 0) n l) l=l++ns.filterMap (ptO rs):=by
  intro ns;induction ns with
  |nil=>intro l;simp
  |cons n ns ih=>intro l;rw[TG,ih,X1];grind [ptF,ptO]
 unfold Kg;rw[key];simp
theorem Qh{rs:bV}{x to:Int}:(Kg rs x to).Pairwise λp q=>p.d5<q.d5:=by rw[GD];refine List.Pairwise.filterMap (R:=λa b=>a<b) (ptO rs) ?_ (List.pairwise_lt_range' ..);intro a b hab p hp q hq;unfold ptO at hp hq;grind
theorem Dc{kk ks ko jW to bO:Int}{l:AT}:(aH kk ks ko jW to bO l).Pairwise λp q=>p.d5<q.d5:=Qh
def Mi(w:eO)(bO n:Int)(p:Ξ):Option uB:=bif zks p then Y else G (GB w bO n p)
def rdO(n:Int)(p:Ξ):List CX:=bif zks p then [] else rdT 1 n 0 p.d5
theorem yf(w:eO)(bO n:Int):∀(ps:List Ξ) (s:RA),ps.foldl (ye w bO n) s=(s.1++ps.flatMap (rdO n),s.2++ps.filterMap (Mi w bO n))
 | [],s=>qk
 |p::ps,s=>by rw[TG,yf w bO n ps,X1,Yl];grind [ye,Mi,rdO]
abbrev zS(w:eO)(bO st d5 n:Int):List Ξ:=aH 5 st n 0 d5 bO w.f
def co(w:eO)(bO st d5 n:Int):List CX:=⟨5,st,n,0,d5⟩::(zS w bO st d5 n).flatMap (rdO n)
def er(w:eO)(bO st d5 n:Int):iN:=(zS w bO st d5 n).filterMap (Mi w bO n)
theorem zss(w:eO)(bO st d5:Int)(s:RA)(n:Int):ii w bO st d5 s n=(s.1++co w bO st d5 n,s.2++er w bO st d5 n):=by grind [yf,co,er,ii]
theorem zT(w:eO)(bO st d5:Int)(rs:List CX):H1 w bO st d5 rs=(rs++rdN::(af w.f bO).flatMap (co w bO st d5),(af w.f bO).flatMap (er w bO st d5)):=by
 have key:∀(ns:bV) (s:RA),ns.foldl (ii w bO st d5) s=(s.1++ns.flatMap (co w bO st d5),s.2++ns.flatMap (er w bO st d5)):=by
  intro ns;induction ns with
  |nil=>intro s;simp
  |cons n ns ih=>intro s;rw[TG,ih,zss];simp
 unfold H1;rw[key];simp
def ba(w:eO)(bO st d5:Int):List CX:=rdN::(af w.f bO).flatMap (co w bO st d5)
def jC(w:eO)(bO st d5:Int):iN:=(af w.f bO).flatMap (er w bO st d5)
def gU(w:eO)(bO st d5:Int):iN:=(jC w bO st d5).mergeSort leA
theorem lu{w:eO}{bO st d5 n:Int}{a:uB}(h:a∈er w bO st d5 n):a.eR=n/\∃p∈zS w bO st d5 n,zks p=N/\a=GB w bO n p:=by unfold er at h;obtain⟨p,hp,he⟩:=List.mem_filterMap.1 h;unfold Mi at he;cases hb:zks p<;>rw[hb] at he<;>simp at he;subst he;exact⟨rfl,p,hp,hb,rfl⟩
theorem Ki{w:eO}{bO st d5:Int}:∀x∈jC w bO st d5,∀y∈jC w bO st d5,x.d5=y.d5->x.eR=y.eR->x=y:=by
 intro x hx y hy ht hc;obtain⟨n,hn,hx⟩:=Yu.1 hx;obtain⟨n',hn',hy⟩:=Yu.1 hy;obtain⟨e1,p,hp,_,rfl⟩:=lu hx;obtain⟨e2,q,hq,_,rfl⟩:=lu hy;have:n=n':=by rw[<-e1,<-e2,hc]
 subst this;have hpq:p=q:=by
  have hinc:=Dc (kk:=5) (ks:=st) (ko:=n) (jW:=0) (to:=d5) (bO:=bO) (l:=w.f);have key:∀(l:List Ξ),l.Pairwise (λp q=>p.d5<q.d5)->∀p∈l,∀q∈l,p.d5=q.d5->p=q:=by
   intro l;induction l with
   |nil=>grind
   |cons a l ih=>intro hl p hp q hq e;rw[List.pairwise_cons] at hl;grind
  exact key _ hinc p hp q hq ht
 rw[hpq]
theorem fm{α β:Type}(f:α->List β)(k:Nat):∀l:List α,(∀a∈l,(f a).length<=k)->(l.flatMap f).length<=l.length*k
 | [],_=>by simp
 | a::l,h=>by have:=fm f k l (λb hb=>h b (by simp[hb]));grind [List.length_append,Ue,Nat.add_mul]
theorem tt{w:eO}(hw:w.ok){bO st d5:Int}:(jC w bO st d5).length<=70656000:=by have h1:=fm (er w bO st d5) 1024 (af w.f bO) (λn _=>Vj (List.length_filterMap_le ..) dq);have h2:=bF (fs:=w.f) (bO:=bO);have h3:=hw.lf;grind [jC]
theorem zU{w:eO}{bO st d5 n:Int}:(co w bO st d5 n).length<=1025:=by unfold co;have h1:=fm (rdO n) 1 (zS w bO st d5 n) (λp _=>by unfold rdO;grind [fk]);have h2:=dq (kk:=5) (ks:=st) (ko:=n) (jW:=0) (to:=d5) (bO:=bO) (l:=w.f);grind
theorem iO{w:eO}(hw:w.ok){bO st d5:Int}:(ba w bO st d5).length<=70725001:=by have h1:=fm (co w bO st d5) 1025 (af w.f bO) (λn _=>zU);have h2:=bF (fs:=w.f) (bO:=bO);have h3:=hw.lf;grind [Ue,ba]
abbrev zfj(a:Int)(b:bv):bY:=[dd a,ab b]
theorem Kj{w:eO}(hw:w.ok){bO st d5:Int}{rs:List CX}(hb:rs.length<=700000000):Ev S5 jV 91 (zbF 0 st d5) (lkH w bO rs 0) (kb (zfj st ((gU w bO st d5).map Tb))) (lkH w bO (rs++ba w bO st d5) 1):=by have h:=of_a hw (bO:=bO) (st:=st) (d5:=d5) hb (Vj bF hw.lf) (by rw[zT];have:=tt hw (bO:=bO) (st:=st) (d5:=d5);grind [jC]) (by rw[zT];exact Ki);unfold zR at h;rw[zT] at h;exact h
end Go.Vi
