/- A part of the proof; no conditions of its own. -/
import Derived.Test.YtelhocjibmofiaaGreatDoorW2
import Derived.Shelf.SlSortCmp.NoneTotal
import Derived.Sort.EveryDepth
import Derived.Ground.SlsfProg
open Decidable renaming decide -> Zd
open List renaming range' -> O8, cons_append -> R7, flatten_cons -> N0, mem_map -> Nt, length -> MO, flatten -> Nf, getElem?_eq_some_iff -> MR, foldl -> ND, map -> MK, set -> OZ, range -> N9, getD -> Nb, getElem?_eq_getElem -> Nd, length_map -> N1, all_eq_true -> Ni, replicate -> MS, map_cons -> NW, map_append -> NP, all -> N2, getElem?_append_left -> M4, getElem?_append_right -> Nm, length_cons -> Nq, ext_getElem? -> P9, getElem?_eq_none -> OV, mergeSort_perm -> TP
open Go.Vi.VS renaming ok -> Th
open Go.Proofs.Tryz renaming prog -> MJ, f170 -> Rw, f100 -> NA, f45 -> Tu
open Go.Vi.D renaming zcN -> Ob, fn -> Oe, UI -> NG, agg -> Oo, one -> RI, YK -> N8
open Bool renaming and_eq_true -> MT, and_false -> Oa, false_and -> N3, true_and -> Ou, and_self -> Ow, not_eq_true' -> OC
open Go.Vi.Uc renaming inn -> MY
open Go.IntKind renaming i64 -> ML, wrap -> MN
open Go.LoopState renaming ready -> Nl, exhausted -> NM
open Go.Fn renaming func -> M7
open Go.Exit renaming normal -> M6, exit -> NR
open Go.Value renaming tuple -> P3, oneCell' -> NZ
open Go.Vi.Uh renaming row -> M3
open Go.Vi.Ev renaming zfO -> Na, zet -> Oc
open Int renaming toNat -> MU
open Option renaming some -> Ps
open Nat renaming one_mul -> TM, le_of_not_lt -> PG
open Go.Sort renaming grow -> Qf, heap_grow_old -> P0, putRow -> Oh, mapBlock -> Oj, ahead -> Ot, putCells -> O4
open Array renaming getElem?_toList -> NV, getElem?_eq_some_iff -> OH, getElem?_modify -> Pv, getElem?_eq_getElem -> NL, extract_size -> TN
open Go.World renaming cell? -> Rp
open Go.Calls renaming mono -> Rx
open Go.Vi.Uv renaming row -> MZ
open Go.Vi.zfx renaming row -> M9
open Go.Vi.T9 renaming l -> Oi
open Go.Vi.U9 renaming fl -> MX
open Go Go.Proofs
namespace Go.Vi
set_option maxRecDepth 100000
set_option maxHeartbeats 4000000
variable {b0 Ug:By}{f g:Uh}{fs:bv}{h:aT}{i n off:Nat}{kk ST ko ks to v x:Int}{l rs:bV}{s:VS}{s0:Bv}
abbrev IF:=List Uv
def Kz(f:Uh):Int:=if true=true then if f.U3>0 then f.U3 else 0 else if f.U3<0 then f.U3 else 0
def vaF(f:Uh)(s:VS):VS:=CS f (Kz f) s
theorem KA(h:s.ok):(CS f x s).ok:=by
 unfold CS
 generalize O8 x.toNat (An f-x).toNat=l
 induction l generalizing s with
 | nil=>exact h
 | cons n l ih=>exact ih (zgF n h)
theorem KB{kk ks ko ST:Int}{fs:bv}{rs:bY}{Ug:By}{some:Bv}(ho:Th (Ug,some)){f:Uh}:Iv MJ U2 (.ref (.yl 8)) [ag f.row] (vaH kk ks ko ST fs rs Ug some .ready [.var (Xi f)]) (T6 true) (vaH kk ks ko ST fs rs (vaF f (Ug,some)).1 (vaF f (Ug,some)).2 .ready (YA f)) :=
 Iv.round (h1:=vaH kk ks ko ST fs rs Ug some .ready (YA f)) rfl rfl va_asg rfl (Ky ho) rfl
def Ρ(kk ks ko ST:Int)(s:VS)(f:Uh):VS:=bif zgh kk ks ko ST f then vaF f s else s
theorem kD:∀{es:List (bY)},(∀r∈es,Ob n r=true)->Ob n es.flatten=true
 | [],_=>rfl
 | e::es,h=>by
  have key:∀(xs ys:bY),Ob n xs=true->Ob n ys=true->Ob n (xs++ys)=true:=by
   intro xs ys h1 h2
   induction xs with
   | nil=>exact h2
   | cons x xs ih=>simp only[Ob,MT,R7] at h1 ⊢;exact⟨h1.1,ih h1.2⟩
  rw[N0]
  exact key _ _ (h e (by simp)) (kD λr hr=>h r (by simp[hr]))
theorem sN{l:By}:MY n (.var (zbJ l))=true:=kD λr hr=>by obtain⟨_,_,rfl⟩:=Nt.1 hr;rfl
theorem sO{l:Bv}:MY n (.var (eo l).flatten)=true:=kD λr hr=>by obtain⟨_,_,rfl⟩:=Nt.1 hr;rfl
abbrev YS(a:bV):bY:=(bF a).flatten
theorem jF:MY n (.var (YS l))=true:=kD λr hr=>by obtain⟨_,_,rfl⟩:=Nt.1 hr;rfl
abbrev VD(a:bY):Nat×D:=(15,Oe (M7 170) [] a)
abbrev V7(a:Int):Uc:=(.var [SW a])
abbrev zaw:BY:=[.st (.mask [0,1,2,3,7,8,9]),.st (.UN 9)]
abbrev zbi:D:=(D.p (Dp.v (P3 {toList:=[]})))
abbrev zcJ(a:LoopState)(b:bY)(c:Array Tmp)(d:Code):Uc:=(.loop a none 0 b c (ar (d)) (af (d)))
abbrev zdW(a:bY):bY:=Ue 63 0 [ZH,YB,ZW,(VD a)]
theorem vo_body{some:Bv}(ho:Th (Ug,some))(hr:ax (i:Int) fs f.row 8)(U8:Zd ((i:Int)<(fs.length:Int))=true)(hw:ML.wrap ((i:Int)+1)=((i+1:Nat):Int)):(CW MJ U2 (vaH kk ks ko ST fs (bF rs).flatten b0 s0 .ready []) false (sub Rw 0) {t:=ofT fs i,h:=vaH kk ks ko ST fs (bF rs).flatten Ug some .ready [],m:=[]} .normal {t:=ofT fs ((i+1:Nat):Int),h:=vaH kk ks ko ST fs (bF rs).flatten (Ρ kk ks ko ST (Ug,some) f).1 (Ρ kk ks ko ST (Ug,some) f).2 .ready [],m:=[]}):=by
 cases U5:f.kind==kk&&(f.sub==ks&&(f.obj==ko&&true))
 ·refine zX {t:=Ue 30 0 [(0,.ref (.yl 8)),(1,.ref (.ptr 4 0)),(2,.ref (.ptr 5 0)),(3,.ref (.ptr 6 0)),(7,ab fs),(8,SW (↑(MO fs):Int)),(9,SW (MN ML ((↑i:Int)+1)))],h:=[.var [SW kk,SW ks,SW ko],.var (Nf (bF rs)),.var (Nf (dB Ug)),.var (Nf (eo some)),.var [ab fs],.var [SW kk,SW ks,SW ko],.var [SW ST],.Ut,.loop Nl none 0 (Ue 63 0 [(6,.ref (.ptr 1 0)),(7,.ref (.ptr 2 0)),(8,.ref (.ptr 3 0)),(15,Oe (M7 170) [] [.ref (.ptr 4 0),.ref (.ptr 5 0),.ref (.ptr 6 0)])]) {toList:=[16]} (ar (sub NA 0)) (af (sub NA 0))],m:=[]} M6 [.st (.mask [0,1,2,3,7,8,9]),.st (.UN 9)] [.b true,.row [vi f.kind,vi f.sub,vi f.obj,vi f.value,vi f.U3,vi f.Λ,vi f.ST,vi f.no],.g false,.g false,.g false,.g false,.ov 22 (T6 false),.g false,.g false,.g false,.g false,.ov 28 (T6 false),.b false] (.c U8 (.c hr (.c (show((f.kind==kk&&(f.sub==ks&&(f.obj==ko&&true)))==true)=false from(by rw[U5]<;>rfl)) (.c (show((f.kind==kk&&(f.sub==ks&&(f.obj==ko&&true)))==true)=false from(by rw[U5]<;>rfl)) (.c (show((f.kind==kk&&(f.sub==ks&&(f.obj==ko&&true)))==true)=false from(by rw[U5]<;>rfl)) (.c (show((f.kind==kk&&(f.sub==ks&&(f.obj==ko&&true)))==true)=false from(by rw[U5]<;>rfl)) (.c (pkf (D.p (Dp.v (P3 {toList:=[]}))) (T6 false) U5) (.f (.f (.f (.f (.c (pkf (D.p (Dp.v (P3 {toList:=[]}))) (T6 false) rfl) (.er false (.c (iqT 9 (.var [SW kk,SW ks,SW ko])) (.c (show MY 9 (.var (Nf (bF rs)))=true from ?_) (.c (show MY 9 (.var (Nf (dB Ug)))=true from ?_) (.c (show MY 9 (.var (Nf (eo some)))=true from ?_) (.c (iqT 9 (.var [ab fs])) (.c (iqT 9 (.var [SW kk,SW ks,SW ko])) (.c (iqT 9 (.var [SW ST])) (.c (iqT 9 .Ut) (.c (iqT 9 (.loop Nl none 0 (Ue 63 0 [(6,.ref (.ptr 1 0)),(7,.ref (.ptr 2 0)),(8,.ref (.ptr 3 0)),(15,Oe (M7 170) [] [.ref (.ptr 4 0),.ref (.ptr 5 0),.ref (.ptr 6 0)])]) {toList:=[16]} (ar (sub NA 0)) (af (sub NA 0)))) .n)))))))))))))))))))))) (by first|rfl|(simp only[hw,Ρ,zgh,qe,U5,Oa,N3,Ou,Ow,cond_true,cond_false];rfl)) (by first|rfl|(simp only[hw,Ρ,zgh,qe,U5,N3,cond_false];rfl))<;>(first|assumption|rfl|exact sN|exact sO|exact jF|(simp_all;done))
 ·cases Uy:Zd (f.ST<=ST)
  ·refine zX {t:=Ue 30 0 [(0,.ref (.yl 8)),(1,.ref (.ptr 4 0)),(2,.ref (.ptr 5 0)),(3,.ref (.ptr 6 0)),(7,ab fs),(8,SW (↑(MO fs):Int)),(9,SW (MN ML ((↑i:Int)+1)))],h:=[.var [SW kk,SW ks,SW ko],.var (Nf (bF rs)),.var (Nf (dB Ug)),.var (Nf (eo some)),.var [ab fs],.var [SW kk,SW ks,SW ko],.var [SW ST],.Ut,.loop Nl none 0 (Ue 63 0 [(6,.ref (.ptr 1 0)),(7,.ref (.ptr 2 0)),(8,.ref (.ptr 3 0)),(15,Oe (M7 170) [] [.ref (.ptr 4 0),.ref (.ptr 5 0),.ref (.ptr 6 0)])]) {toList:=[16]} (ar (sub NA 0)) (af (sub NA 0))],m:=[]} M6 [.st (.mask [0,1,2,3,7,8,9]),.st (.UN 9)] [.b true,.row [vi f.kind,vi f.sub,vi f.obj,vi f.value,vi f.U3,vi f.Λ,vi f.ST,vi f.no],.g true,.g true,.g true,.g true,.ov 22 (T6 (Zd (f.ST<=ST))),.g false,.g false,.g false,.g false,.ov 28 (T6 false),.b false] (.c U8 (.c hr (.c (show((f.kind==kk&&(f.sub==ks&&(f.obj==ko&&true)))==true)=true from(by rw[U5]<;>rfl)) (.c (show((f.kind==kk&&(f.sub==ks&&(f.obj==ko&&true)))==true)=true from(by rw[U5]<;>rfl)) (.c (show((f.kind==kk&&(f.sub==ks&&(f.obj==ko&&true)))==true)=true from(by rw[U5]<;>rfl)) (.c (show((f.kind==kk&&(f.sub==ks&&(f.obj==ko&&true)))==true)=true from(by rw[U5]<;>rfl)) (.c (pkt (T6 (Zd (f.ST<=ST))) (T6 false) U5) (.c (show(Zd (f.ST<=ST)==true)=false from(by rw[Uy]<;>rfl)) (.c (show(Zd (f.ST<=ST)==true)=false from(by rw[Uy]<;>rfl)) (.c (show(Zd (f.ST<=ST)==true)=false from(by rw[Uy]<;>rfl)) (.c (show(Zd (f.ST<=ST)==true)=false from(by rw[Uy]<;>rfl)) (.c (pkf (D.p (Dp.v (P3 {toList:=[]}))) (T6 false) Uy) (.er false (.c (iqT 9 (.var [SW kk,SW ks,SW ko])) (.c (show MY 9 (.var (Nf (bF rs)))=true from ?_) (.c (show MY 9 (.var (Nf (dB Ug)))=true from ?_) (.c (show MY 9 (.var (Nf (eo some)))=true from ?_) (.c (iqT 9 (.var [ab fs])) (.c (iqT 9 (.var [SW kk,SW ks,SW ko])) (.c (iqT 9 (.var [SW ST])) (.c (iqT 9 .Ut) (.c (iqT 9 (.loop Nl none 0 (Ue 63 0 [(6,.ref (.ptr 1 0)),(7,.ref (.ptr 2 0)),(8,.ref (.ptr 3 0)),(15,Oe (M7 170) [] [.ref (.ptr 4 0),.ref (.ptr 5 0),.ref (.ptr 6 0)])]) {toList:=[16]} (ar (sub NA 0)) (af (sub NA 0)))) .n)))))))))))))))))))))) (by first|rfl|(simp only[hw,Ρ,zgh,qe,U5,Uy,Oa,N3,Ou,Ow,cond_true,cond_false];rfl)) (by first|rfl|(simp only[hw,Ρ,zgh,qe,U5,Uy,Oa,cond_false];rfl))<;>(first|assumption|rfl|exact sN|exact sO|exact jF|(simp_all;done))
  ·let v0:=Nf (dB (vaF f (Ug,some)).fst)
   let v1:=Nf (eo (vaF f (Ug,some)).2)
   let v2:bY:=[.ref (.ptr 4 0),.ref (.ptr 5 0),.ref (.ptr 6 0)]
   let v3:bY:=[SW f.kind,SW f.sub,SW f.obj,SW f.value,SW f.U3,SW f.Λ,SW f.ST,SW f.no]
   refine zX {t:=Ue 30 0 [(0,.ref (.yl 8)),(1,.ref (.ptr 4 0)),(2,.ref (.ptr 5 0)),(3,.ref (.ptr 6 0)),(7,ab fs),(8,SW (↑(MO fs):Int)),(9,SW (MN ML ((↑i:Int)+1)))],h:=[.var [SW kk,SW ks,SW ko],.var (Nf (bF rs)),.var v0,.var v1,.var [ab fs],.var [SW kk,SW ks,SW ko],.var [SW ST],.Ut,.loop Nl none 0 (Ue 63 0 [(6,.ref (.ptr 1 0)),(7,.ref (.ptr 2 0)),(8,.ref (.ptr 3 0)),(15,Oe (M7 170) [] v2)]) {toList:=[16]} (ar (sub NA 0)) (af (sub NA 0))],m:=[]} M6 [.st (.mask [0,1,2,3,7,8,9]),.st (.UN 9)] [.b true,.row [vi f.kind,vi f.sub,vi f.obj,vi f.value,vi f.U3,vi f.Λ,vi f.ST,vi f.no],.g true,.g true,.g true,.g true,.ov 22 (T6 (Zd (f.ST<=ST))),.g true,.g true,.g true,.inv (T6 true) [.var [SW kk,SW ks,SW ko],.var (Nf (bF rs)),.var v0,.var v1,.var [ab fs],.var [SW kk,SW ks,SW ko],.var [SW ST],.Ut,.loop Nl none 0 (Ue 63 0 [(6,.ref (.ptr 1 0)),(7,.ref (.ptr 2 0)),(8,.ref (.ptr 3 0)),(15,Oe (M7 170) [] v2)]) {toList:=[16]} (ar (sub NA 0)) (af (sub NA 0)),.var v3,.var v3],.g true,.ov 28 (T6 !true),.b false] (.c U8 (.c hr (.c (show((f.kind==kk&&(f.sub==ks&&(f.obj==ko&&true)))==true)=true from(by subst v0 v1 v2 v3;rw[U5]<;>rfl)) (.c (show((f.kind==kk&&(f.sub==ks&&(f.obj==ko&&true)))==true)=true from(by subst v0 v1 v2 v3;rw[U5]<;>rfl)) (.c (show((f.kind==kk&&(f.sub==ks&&(f.obj==ko&&true)))==true)=true from(by subst v0 v1 v2 v3;rw[U5]<;>rfl)) (.c (show((f.kind==kk&&(f.sub==ks&&(f.obj==ko&&true)))==true)=true from(by subst v0 v1 v2 v3;rw[U5]<;>rfl)) (.c (pkt (T6 (Zd (f.ST<=ST))) (T6 false) U5) (.c (show(Zd (f.ST<=ST)==true)=true from(by subst v0 v1 v2 v3;rw[Uy]<;>rfl)) (.c (show(Zd (f.ST<=ST)==true)=true from(by subst v0 v1 v2 v3;rw[Uy]<;>rfl)) (.c (show(Zd (f.ST<=ST)==true)=true from(by subst v0 v1 v2 v3;rw[Uy]<;>rfl)) (.c (@KB kk ks ko ST fs (Nf (bF rs)) Ug some ho f) (.c (show(Zd (f.ST<=ST)==true)=true from(by subst v0 v1 v2 v3;rw[Uy]<;>rfl)) (.c (pkt (T6 !true) (T6 false) Uy) (.c (show(!true)=false from rfl) (.c (iqT 9 (.var [SW kk,SW ks,SW ko])) (.c (show MY 9 (.var (Nf (bF rs)))=true from ?_) (.c (show MY 9 (.var v0)=true from ?_) (.c (show MY 9 (.var v1)=true from ?_) (.c (iqT 9 (.var [ab fs])) (.c (iqT 9 (.var [SW kk,SW ks,SW ko])) (.c (iqT 9 (.var [SW ST])) (.c (iqT 9 .Ut) (.c (iqT 9 (.loop Nl none 0 (Ue 63 0 [(6,.ref (.ptr 1 0)),(7,.ref (.ptr 2 0)),(8,.ref (.ptr 3 0)),(15,Oe (M7 170) [] v2)]) {toList:=[16]} (ar (sub NA 0)) (af (sub NA 0)))) .n))))))))))))))))))))))) (by subst v0 v1 v2 v3;first|rfl|(simp only[hw,Ρ,zgh,qe,U5,Uy,Oa,N3,Ou,Ow,cond_true,cond_false];rfl)) (by subst v0 v1 v2 v3;first|rfl|(simp only[hw,Ρ,zgh,qe,U5,Uy,Ow,cond_true];rfl))<;>subst v0 v1 v2 v3<;>(first|assumption|rfl|exact sN|exact sO|exact jF|(simp_all;done))
theorem KC{some:Bv}(U8:Zd ((i:Int)<(fs.length:Int))=false):(CW MJ U2 (vaH kk ks ko ST fs (YS rs) b0 s0 .ready []) false (sub Rw 0) {t:=ofT fs i,h:=vaH kk ks ko ST fs (YS rs) Ug some .ready [],m:=[]} (.exit 0) (Yn 30 (vaH kk ks ko ST fs (bF rs).flatten Ug some .ready []))):=by
 exact zx Xd [.b false] (.c U8 .n)
theorem ziq(f:Uh)(h:s.ok):(Ρ kk ks ko ST s f).ok:=by
 unfold Ρ
 cases zgh kk ks ko ST f
 ·exact h
 ·exact KA h
noncomputable abbrev zdi(a b c d:Int)(e:By)(f:bV)(g:By)(h:Bv)(i:LoopState):aT:=vaH a b c d (e.map M3) (YS f) (e.foldl (Ρ a b c d) (g,h)).1 (e.foldl (Ρ a b c d) (g,h)).2 i []
theorem vo_cw{kk ks ko ST:Int}{l:By}(hl:am l){rs:bV}{b0:By}{s0:Bv}(ho:Th (b0,s0)):
  CW MJ U2 (vaH kk ks ko ST (l.map M3) (YS rs) b0 s0 .ready []) false (.loop (sub Rw 0)) {t:=ofT (l.map M3) 0,h:=vaH kk ks ko ST (l.map M3) (YS rs) b0 s0 .ready [],m:=[]} (.exit 0)
   {t:=Ue 30 0 [],h:=(zdi kk ks ko ST l rs b0 s0 (.ready)),m:=[]}:=by
 have:=CW.each (P:=MJ) (Γ:=U2) (h0:=vaH kk ks ko ST (l.map M3) (YS rs) b0 s0 .ready []) (rd:=false) (c:=sub Rw 0) (σ:=VS) (ρ:=Empty) l (λf s=>.inl (Ρ kk ks ko ST s f))
  (λi s=>{t:=ofT (l.map M3) (i:Int),h:=vaH kk ks ko ST (l.map M3) (YS rs) s.1 s.2 .ready [],m:=[]}) (.exit 0) (λs=>(Yn 30 (vaH kk ks ko ST (l.map M3) (bF rs).flatten s.1 s.2 .ready []))) (λr=>r.elim)
  (λ_ s=>s.ok) (by simp) (λr=>r.elim) ?_ ?_ (b0,s0) ho
 ·rw[aY] at this
  exact this
 ·intro i f s hf hs
  have hi:=(MR.1 hf).1
  exact⟨λs' h=>by cases h;exact ziq f hs,vo_body hs (rowAt hf rfl) (UO _ hi) (Uo hi hl)⟩
 ·intro s _
  exact KC (bl _ l)
theorem CU{l:By}(hl:am l)(ho:Th (b0,s0)):(Ev MJ U2 170 zbf (vaH kk ks ko ST (l.map M3) (YS rs) b0 s0 .ready []) (.UI []) (zdi kk ks ko ST l rs b0 s0 (.ready))):=by
 have UE:=(@vo_cw (kk) (ks) (ko) (ST) (l) (hl) (rs) (b0) (s0) (ho))
 let v0:aT:=[.var (Zw kk ks ko),.var (Nf (bF rs)),.var (Nf (dB (ND (Ρ kk ks ko ST) (b0,s0) l).fst)),.var (Nf (eo (ND (Ρ kk ks ko ST) (b0,s0) l).2)),.var [ab (MK M3 l)],.var (Zw kk ks ko),.var [SW ST],.Ut,.loop Nl none 0 Zt X9 (ar (sub NA 0)) (af (sub NA 0))]
 exact Na (Oc (h':=v0) (d:=NG []) UR [.sum [0,1,2,3,7,8,9] (NR 0) (Yn 30 v0)] (by kernel_rfl) (.c UE .n)) (by rfl) (by rfl)
noncomputable abbrev vaH0(kk ks ko ST:Int)(fs:bv)(rs:bV)(Ug:By)(some:Bv):aT :=
 [.var (Zw kk ks ko),.var (YS rs),.var (zbJ Ug),.var (eo some).flatten,.var [ab fs],.var (Zw kk ks ko),.var [SW ST]]
theorem Gf{kk ks ko ST:Int}{l:By}(hl:am l){rs:bV}{b0:By}{s0:Bv}(ho:Th (b0,s0)):CW MJ U2 [] false (sub NA 0) {t:=vaT,h:=vaH0 kk ks ko ST (l.map M3) rs b0 s0,m:=[]} .normal
  {t:=vaT,h:=(zdi kk ks ko ST l rs b0 s0 (.exhausted)),m:=[7]} :=
 CW.rangeFunc (f:=170) (fi:=[]) (ca:=Zv) UR (s:={t:=vaT,h:=vaH0 kk ks ko ST (l.map M3) rs b0 s0,m:=[]}) (g:=.tmp 15) (ps:=#[16]) (asg:=ar (sub NA 0)) (body:=af (sub NA 0)) rfl (by kernel_rfl) (CU hl ho) rfl
theorem HY{l:By}(hb:h[2]? = some (.var (zbJ l)))(hs:l[n]? = some g)(ho:off=n*8+3):aN MJ h 3 (zbp off)=some (SW g.value):=by
 subst ho
 exact nI (sz:=8) (j:=3) (row:=g.row.map .p) (by kernel_rfl) (by kernel_rfl) hb (by simp[M3]) (by simp[hs]) rfl
theorem yM(hb:h[1]? = some (.var (bF l).flatten))(hn:n<l.length)(ho:off=n*1):aX MJ h 3 (.ref (.ptr 1 off)) (SW x)=some (h.set 1 (.var (bF (l.set n x)).flatten)):=by
 subst ho
 rw[nJ (sz:=1) (new:=[SW x]) rfl (by kernel_rfl) rfl hb (λr hr=>by obtain⟨_,_,rfl⟩:=Nt.1 hr;rfl) (by simpa using hn),bF,bF,List.map_set]
abbrev maxV(v:Int):Int:=if true=true then if -1>v then -1 else v else if -1<v then -1 else v
noncomputable abbrev vlS(kk ks ko ST:Int)(fs:bv)(rs:bV)(Ug:By)(some:Bv)(i:Int):AS:={t:=Ue 63 0 [ZH,YB,ZW,(46,SW i)],h:=vaH kk ks ko ST fs (YS rs) Ug some .exhausted [],m:=[7]}
abbrev Z0(a:Bool)(b c:Int):D:=SW (if a=true then if b>c then b else c else if b<c then b else c)
theorem vl_b{some:Bv}{b:Bool}(hb:Ug[n]? = .some g)(hs:some[n]? = .some b)(hn:UU (n:Int) 1024=true)(hr:n<rs.length)(U8:Zd ((n:Int)<1024)=true):(CW MJ U2 [] false (sub NA 2) (vlS kk ks ko ST fs rs Ug some (n:Int)) .normal (vlS kk ks ko ST fs (bif b then (rs.set n (-1)).set n (maxV g.value) else rs.set n (-1)) Ug some (ML.wrap ((n:Int)+1)))):=by
 cases U5:b
 ·let v0:aT:=[.var (Zw kk ks ko),.var (Nf (bF (OZ rs n (-1)))),.var (Nf (dB Ug)),.var (Nf (eo some)),.var [ab fs],.var (Zw kk ks ko),.var [SW ST],.Ut,.loop NM none 0 Zt X9 (ar (sub NA 0)) (af (sub NA 0))]
  refine zX {t:=Ue 63 0 [ZH,YB,ZW,(46,(Zy n))],h:=v0,m:=[7]} M6 [.st (.mask [6,7,8,46])] [.b true,.oh 10050 D.any (vaH kk ks ko ST fs (Nf (bF (OZ rs n (-1)))) Ug some NM []),.ov 53 (T6 b),.b false] (.c U8 (.c hn (.c (show @Eq (Option (aT)) (aX MJ [.var (Zw kk ks ko),.var (Nf (bF rs)),.var (Nf (dB Ug)),.var (Nf (eo some)),.var [ab fs],.var (Zw kk ks ko),.var [SW ST],.Ut,.loop NM none 0 Zt X9 (ar (sub NA 0)) (af (sub NA 0))] 3 (Xa 1 n 1) (SW (-1))) (Ps v0) from ?_) (.c hn (.c (show @Eq (oN) (aN MJ v0 4 (Xa 3 n 1)) (Ps (T6 b)) from ?_) (.c U5 .n)))))) (by subst v0;first|rfl|(simp only[U5,cond_true,cond_false];first|done|rfl)) (by subst v0;first|rfl|(simp only[U5,cond_true,cond_false];first|done|rfl))<;>subst v0<;>(first|assumption|rfl|exact sM rfl hs (by simp)|exact HY rfl hb (by simp)|exact yM rfl hr (by simp)|exact yM rfl (by simpa using hr) (by simp)|(simp_all;done))
 ·let v2:bY:=Zv
  let v3:=Nf (bF (OZ (OZ rs n (-1)) n (maxV g.value)))
  let v4:=Nf (dB Ug)
  let v5:=Nf (eo some)
  let v0:aT:=(zeq (Zw kk ks ko) (Nf (bF (OZ rs n (-1)))) v4 v5 (.var [ab fs]) [SW ST] (zdW v2) X9 (sub NA 0))
  let v1:aT:=(zeq (Zw kk ks ko) v3 v4 v5 (.var [ab fs]) [SW ST] (zdW v2) X9 (sub NA 0))
  refine zX {t:=Ue 63 0 [ZH,YB,ZW,(46,(Zy n))],h:=v1,m:=[7]} M6 [.st (.mask [6,7,8,46])] [.b true,.oh 10050 D.any (vaH kk ks ko ST fs (Nf (bF (OZ rs n (-1)))) Ug some NM []),.ov 53 (T6 b),.b true,.ov 58 (SW g.value),.oh 10060 D.any (vaH kk ks ko ST fs v3 Ug some NM [])] (.c U8 (.c hn (.c (show @Eq (Option (aT)) (aX MJ (zeq (Zw kk ks ko) (Nf (bF rs)) v4 v5 (.var [ab fs]) [SW ST] (zdW v2) X9 (sub NA 0)) 3 (Xa 1 n 1) (SW (-1))) (Ps v0) from ?_) (.c hn (.c (show @Eq (oN) (aN MJ v0 4 (Xa 3 n 1)) (Ps (T6 b)) from ?_) (.c U5 (.c hn (.c (show @Eq (oN) (aN MJ v0 3 (.ref (.ptr 2 (0+MU (↑n:Int)*8+3)))) (Ps (SW g.value)) from ?_) (.c hn (.c (show @Eq (Option (aT)) (aX MJ v0 3 (Xa 1 n 1) (Z0 true (-1) g.value)) (Ps v1) from ?_) .n)))))))))) (by subst v2 v3 v4 v5 v0 v1;first|rfl|(simp only[U5,cond_true,cond_false];first|done|rfl)) (by subst v2 v3 v4 v5 v0 v1;first|rfl|(simp only[U5,cond_true,cond_false];first|done|rfl))<;>subst v2 v3 v4 v5 v0 v1<;>(first|assumption|rfl|exact sM rfl hs (by simp)|exact HY rfl hb (by simp)|exact yM rfl hr (by simp)|exact yM rfl (by simpa using hr) (by simp)|(simp_all;done))
theorem KD{some:Bv}:(CW MJ U2 [] false (sub NA 2) (vlS kk ks ko ST fs rs Ug some 1024) (.exit 4) {t:=Ue 63 0 [ZH],h:=vaH kk ks ko ST fs (YS rs) Ug some .exhausted [],m:=[7]}):=by
 exact zx (zaM 6) [.b false] (.c (show Zd (1024<1024)=false from rfl) .n)
def zeo(s:VS)(rs:bV)(n:Nat):bV:=bif s.2.getD n false then (rs.set n (-1)).set n (maxV (s.1.getD n default).value) else rs.set n (-1)
def ve(s:VS)(rs:bV):bV:=(N9 1024).foldl (zeo s) rs
theorem vl_cw{kk ks ko ST:Int}{fs:bv}{rs:bV}{Ug:By}{some:Bv}(ho:Th (Ug,some))(hr:rs.length=1024):
  CW MJ U2 [] false (.loop (sub NA 2)) (vlS kk ks ko ST fs rs Ug some 0) (.exit 4) {t:=Ue 63 0 [ZH],h:=vaH kk ks ko ST fs (YS (ve (Ug,some) rs)) Ug some .exhausted [],m:=[7]}:=by
 have:=CW.each (P:=MJ) (Γ:=U2) (h0:=[]) (rd:=false) (c:=sub NA 2) (σ:=bV) (ρ:=Empty) (N9 1024) (λn rs=>.inl (zeo (Ug,some) rs n))
  (λi rs=>vlS kk ks ko ST fs rs Ug some (i:Int)) (.exit 4) (λrs=>{t:=Ue 63 0 [ZH],h:=vaH kk ks ko ST fs (YS rs) Ug some .exhausted [],m:=[7]}) (λr=>r.elim)
  (λ_ rs=>rs.length=1024) (by simp) (λr=>r.elim) ?_ ?_ rs hr
 ·rw[aY (λrs n=>zeo (Ug,some) rs n)] at this
  exact this
 ·intro i n rs hn hs
  obtain⟨hi,he⟩:=MR.1 hn
  simp only[List.length_range] at hi
  simp only[List.getElem_range] at he
  subst he
  have hb:Ug[i]? = .some (Ug.getD i default):=by
   rw[Nb,Nd (by rw[ho.1];omega)];rfl
  have hc:some[i]? = .some (some.getD i false):=by
   rw[Nb,Nd (by rw[ho.2];omega)];rfl
  refine⟨λs' h=>by cases h;unfold zeo;cases some.getD i false<;>simp[hs],?_⟩
  have key:=vl_b (kk:=kk) (ks:=ks) (ko:=ko) (ST:=ST) (fs:=fs) (rs:=rs) hb hc (by simp[UU];omega) (by omega) (by simp;omega)
  rw[wrap_i64 (by omega) (by omega)] at key
  simp only[ad]
  unfold zeo
  cases hq:some.getD i false<;>rw[hq] at key<;>exact key
 ·intro rs _
  simp only[List.length_range]
  exact KD
theorem CV(hb:h[1]? = some (.var (YS l)))(hl:l.length=1024):aN MJ h 161 Xu=some (.agg (YS l)) :=
 Es (by kernel_rfl) (by rw[gl (sz:=1) (bF l) (λr hr=>by obtain⟨_,_,rfl⟩:=Nt.1 hr;rfl)];simp only[bF,N1,hl];kernel_rfl) hb
theorem vf:(Oo (YS l)).cells=some (YS l):=by
 have:(bF l).flatten.all RI=true:=by
  rw[Ni]
  intro d hd
  obtain⟨r,hr,hd⟩:=List.mem_flatten.1 hd
  obtain⟨n,_,rfl⟩:=Nt.1 hr
  simp only[List.mem_singleton] at hd
  subst hd;rfl
 simp only[D.cells,this,if_true]
theorem st_int(hb:h[1]? = some (.var (YS l)))(hl:l.length=1024):aX MJ h 161 Xu (.agg (YS l))=some (h.set 1 (.var (YS l))) :=
 tE vf (by rw[gl (sz:=1) (bF l) (λr hr=>by obtain⟨_,_,rfl⟩:=Nt.1 hr;rfl)];simp only[bF,N1,hl];kernel_rfl) rfl hb
theorem pp(h:rs.length=1024):(ve s rs).length=1024:=by
 unfold ve
 generalize N9 1024=l
 induction l generalizing rs with
 | nil=>exact h
 | cons n l ih=>exact ih (by unfold zeo;cases s.2.getD n false<;>simp[h])
noncomputable abbrev vaE(kk ks ko ST:Int)(l:By)(rs:bV)(s:VS):aT:=vaH kk ks ko ST (l.map M3) (YS (ve (l.foldl (Ρ kk ks ko ST) s) rs)) (l.foldl (Ρ kk ks ko ST) s).1 (l.foldl (Ρ kk ks ko ST) s).2 .exhausted []
abbrev Xs:D:=(.ref (.ptr 2 0))
abbrev Wy:D:=(.ref (.ptr 3 0))
theorem Gg{l:By}(hl:am l)(ho:Th (b0,s0))(hf:Th (l.foldl (Ρ kk ks ko ST) (b0,s0)))(hr:rs.length=1024)(e1:dH MJ [.var (Zw kk ks ko)] 161 Xu [.var (Zw kk ks ko),.var (YS rs)])
  (e2:dH MJ [.var (Zw kk ks ko),.var (YS rs)] 219 Xs [.var (Zw kk ks ko),.var (YS rs),.var (zbJ b0)])
  (e3:dH MJ [.var (Zw kk ks ko),.var (YS rs),.var (zbJ b0)] 220 Wy [.var (Zw kk ks ko),.var (YS rs),.var (zbJ b0),.var (eo s0).flatten]):(CW MJ U2 [] false (au NA) (zb6 63 [(0,ab (l.map M3)),(1,.agg (Zw kk ks ko)),(2,SW ST)] []) .ret {t:=Ue 63 0 [ZH],h:=vaE kk ks ko ST l rs (b0,s0),m:=[7]}):=by
 have UE:=(@Gf (kk) (ks) (ko) (ST) (l) (hl) (rs) (b0) (s0) (ho))
 have hl1:=(@vl_cw (kk) (ks) (ko) (ST) (MK M3 l) (rs) ((ND (Ρ kk ks ko ST) (b0,s0) l).fst) ((ND (Ρ kk ks ko ST) (b0,s0) l).2) (hf) (hr))
 let v2:=ND (Ρ kk ks ko ST) (b0,s0) l
 let v3:aT:=[.var (Zw kk ks ko),.var (Nf (bF rs)),.var (Nf (dB b0))]
 let v4:bY:=Zv
 let v5:aT:=[.var (Zw kk ks ko),.var (Nf (bF rs)),.var (Nf (dB b0)),.var (Nf (eo s0))]
 let v6:aT:=[.var (Zw kk ks ko),.var (Nf (bF rs))]
 let v7:=Nf (bF (ve v2 rs))
 let v8:=Nf (dB v2.fst)
 let v9:=Nf (eo v2.2)
 let v10:bY:=[ab (MK M3 l)]
 let v0:aT:=(zeq (Zw kk ks ko) (Nf (bF (ve (v2.fst,v2.2) rs))) v8 v9 (.var v10) [SW ST] (zdW v4) X9 (sub NA 0))
 let v1:aT:=(zeq (Zw kk ks ko) v7 v8 v9 (.var v10) [SW ST] (zdW v4) X9 (sub NA 0))
 refine zx (zaM 6) [.oh 6 Xu v6,.oh 7 Xs v3,.oh 8 Wy v5,.inl,.sum [6,7,8,15] (M6) (zdR (Ue 63 0 [ZH,YB,ZW,(VD v4)]) (Zw kk ks ko) (Nf (bF rs)) v8 v9 (.var v10) [SW ST] X9 (sub NA 0)),.sum [6,7,8,46] (NR 4) {t:=Ue 63 0 [ZH],h:=v0,m:=[7]},.ov 62 (Oo v7),.oh 10006 D.any (vaE kk ks ko ST l rs (b0,s0))] (.c (show dH MJ [.var (Zw kk ks ko)] 161 Xu v6 from ?_) (.c (show dH MJ v6 219 Xs v3 from ?_) (.c (show dH MJ v3 220 Wy v5 from ?_) (.c UE (.c hl1 (.c (show @Eq (oN) (aN MJ v0 161 Xu) (some (Oo v7)) from ?_) (.c (show @Eq (Option (aT)) (aX MJ v0 161 Xu (Oo v7)) (some v1) from ?_) .n)))))))<;>subst v2 v3 v4 v5 v6 v7 v8 v9 v10 v0 v1<;>(first|assumption|exact CV rfl (pp hr)|exact st_int rfl (pp hr)|(simp_all;done))
theorem KE:D.inn n (.agg (YS l))=true:=jF (n:=n) (l:=l)
def vZ:VS:=(MS 1024 fz,MS 1024 false)
theorem KF:vZ.ok:=⟨by simp[vZ],by simp[vZ]⟩
theorem CX{l:By}(h:s.ok):(l.foldl (Ρ kk ks ko ST) s).ok:=by
 induction l generalizing s with
 | nil=>exact h
 | cons f l ih=>exact ih (ziq f h)
def Zk(kk ks ko ST:Int)(l:By):bV:=ve (l.foldl (Ρ kk ks ko ST) vZ) (MS 1024 0)
theorem cY{l:By}:(Zk kk ks ko ST l).length=1024:=pp (by simp)
noncomputable abbrev zbV(a b c d:Int)(e:By):aT:=(rZ [7] (vaE a b c d e (MS 1024 0) vZ))
theorem Gh{l:By}(hl:am l):Ev MJ U2 100 [ab (l.map M3),.agg (Zw kk ks ko),SW ST] [] (.agg (YS (Zk kk ks ko ST l))) (zbV kk ks ko ST l):=by
 have hw:=Gg (kk:=kk) (ks:=ks) (ko:=ko) (ST:=ST) hl (rs:=MS 1024 0) (b0:=vZ.1) (s0:=vZ.2) KF (CX KF) (by simp) (by unfold dH;kernel_rfl) (by unfold dH vZ;kernel_rfl) (by unfold dH vZ;kernel_rfl)
 refine Ev.zky (fn:=NA) (by kernel_rfl) (by kernel_rfl) hw ?_
 have hc:aN MJ (zbV kk ks ko ST l) 161 Xu=some (.agg (YS (Zk kk ks ko ST l))):=CV rfl cY
 have hr:bL MJ (Ue 63 0 [ZH]) (zbV kk ks ko ST l) NA.results.toList=some [.agg (YS (Zk kk ks ko ST l))]:=by
  show(match lj MJ (Ue 63 0 [ZH]) (zbV kk ks ko ST l) (.cell 6 161),some [] with
   | some d,some ds=>some (d::ds)
   | _,_=>none)=_
  have:lj MJ (Ue 63 0 [ZH]) (zbV kk ks ko ST l) (.cell 6 161)=some (.agg (YS (Zk kk ks ko ST l))):=hc
  rw[this]
 simp only[finF,pre]
 rw[hr]
 rfl
theorem CY{kk ks ko ST:Int}{l:By}(hl:am l)(h:aT):Ev MJ U2 100 [ab (l.map M3),.agg (Zw kk ks ko),SW ST] h (.agg (YS (Zk kk ks ko ST l))) h :=
 Ev.zfM rfl (by have:=Ev.trim (h:=[]) (d:=.agg (YS (Zk kk ks ko ST l))) KE rfl (Gh (kk:=kk) (ks:=ks) (ko:=ko) (ST:=ST) hl);simpa using this) h
abbrev ap(rs:bv):List (bY):=rs.map (MK D.p)
theorem aj(rs:bv)(f:Ref->D):(ap rs).map (N8 f)=ap rs:=al f rs
theorem HZ(k:Nat):∀r:dO,Ob k (r.map .p)=true
 | []=>rfl
 | _::r=>by simp[Ob,D.inn,HZ k r]
theorem aD(rs:bv)(k:Nat):(ap rs).all (Ob k)=true:=by
 rw[Ni]
 intro r hr
 obtain⟨x,_,rfl⟩:=Nt.1 hr
 exact HZ k x
theorem wP{r:bV}(hb:h[1]? = some (.var (YS r)))(hr:r.length=1024)(hl:l.length=1024):aX MJ h 161 Xu (.agg (YS l))=some (h.set 1 (.var (YS l))) :=
 tE vf (by rw[gl (sz:=1) (bF l) (λr hr=>by obtain⟨_,_,rfl⟩:=Nt.1 hr;rfl)];simp only[bF,N1,hl];kernel_rfl)
  (by rw[gl (sz:=1) (bF l) (λr hr=>by obtain⟨_,_,rfl⟩:=Nt.1 hr;rfl),gl (sz:=1) (bF r) (λr hr=>by obtain⟨_,_,rfl⟩:=Nt.1 hr;rfl)];simp[hl,hr]) hb
structure PtT where
 T4:Int
 value:Int
 deriving Inhabited,DecidableEq
abbrev zat(a:PtT):dO:=[vi a.T4,vi a.value]
def PtT.row(p:PtT):dO:=(zat p)
theorem CZ(hb:h[1]? = some (.var (YS l)))(hs:l[n]? = some v)(ho:off=n*1):aN MJ h 3 (.ref (.ptr 1 off))=some (SW v):=by
 subst ho
 exact nI (sz:=1) (j:=0) (row:=[SW v]) (by kernel_rfl) (by kernel_rfl) hb (λr hr=>by obtain⟨_,_,rfl⟩:=Nt.1 hr;rfl) (by simp[hs]) rfl
noncomputable abbrev ptH(kk ks ko:Int)(rs:bV)(l:List PtT):aT:=[.var (Zw kk ks ko),.var (YS rs),.T7 (ap (l.map PtT.row)) 0 2]
abbrev VZ:Nat×D:=(10,.ref (.T7 2 0))
noncomputable abbrev ptS(kk ks ko to:Int)(rs:bV)(l:List PtT)(x:Int):AS:={t:=Ue 38 0 [(3,SW to),VZ,(zcL 11),(12,SW x)],h:=ptH kk ks ko rs l,m:=[]}
theorem e9(f:Ref->D)(l:bV):N8 f (bF l).flatten=(bF l).flatten:=by
 induction l with
 | nil=>rfl
 | cons n l ih=>simp only[bF,NW,N0,R7,List.nil_append,N8,D.UG] at ih ⊢;rw[ih]
theorem yN{f:Ref->D}:MY n (.var (N8 f (YS l)))=true:=by rw[e9];exact jF
theorem ai{rs:bv}{e sz:Nat}:MY n (.T7 (ap rs) e sz)=true:=aD rs n
theorem iV(n:Nat)(rs:bv)(e sz:Nat):MY n (.T7 (ap rs) e sz)=true:=ai
theorem vM(rs:bv)(a b c:Nat):(ap rs).map (N8 (a8 a b c))=ap rs:=al (a8 a b c) rs
theorem iVa(n:Nat)(rs:bv)(b:List (bY))(e sz:Nat)(h:b.all (Ob n)=true:=by first|rfl|exact aD _ _):MY n (.T7 (ap rs++b) e sz)=true:=(List.all_append).trans (by rw[aD rs n,h];rfl)
theorem vMa(rs:bv)(q:List (bY))(a b c:Nat)(h:q.map (N8 (a8 a b c))=q:=by first|rfl|exact al _ _):(ap rs++q).map (N8 (a8 a b c))=ap rs++q:=NP.trans (by rw[al (a8 a b c) rs,h])
def ptF(v:Int)(n:Nat)(l:List PtT):List PtT:=bif Zd (v>=0) then l++[⟨(n:Int),v⟩] else l
theorem fI(l:List PtT)(n:Nat)(v:Int):ap (l.map PtT.row)++[[SW (n:Int),SW v]]=ap ((l++[PtT.mk (n:Int) v]).map PtT.row):=by simp[PtT.row]
abbrev WQ(a:iS)(b c d:Nat):BY:=[.st (.mask a),.st (.ren b c),.st (.UN d)]
abbrev zaR(a:List PtT):bv:=(MK PtT.row a)
abbrev zb4(a b:Nat)(c:List (bY))(d e f:Nat)(g:Uc):Uc:=(match a==b with|true=>.T7 (c) d e|false=>Ux (a8 b f d) g)
theorem pt_b{l:List PtT}(hv:rs[n]? = .some v)(hn:UU (n:Int) 1024=true)(hl:l.length<=2000)(U8:Zd ((n:Int)<if false=true then if 1024>to then 1024 else to else if 1024<to then 1024 else to)=true)(hw:ML.wrap ((n:Int)+1)=((n+1:Nat):Int)):(CW MJ U2 [] false (sub Tu 0) (ptS kk ks ko to rs l (n:Int)) .normal (ptS kk ks ko to rs (ptF v n l) ((n+1:Nat):Int))):=by
 cases U5:Zd (v>=0)
 ·refine zX {t:=Ue 38 0 [(3,SW to),(10,.ref (.T7 2 0)),(11,.ref (.ptr 1 0)),(12,SW (MN ML ((↑n:Int)+1)))],h:=[.var [SW kk,SW ks,SW ko],.var (N8 (a8 2 0 0) (Nf (bF rs))),.T7 (ap (MK PtT.row l)) 0 2],m:=[]} M6 [.st (.mask [3,10,11,12]),.st (.ren 2 0),.st (.UN 3)] [.b true,.ov 27 (SW v),.b false] (.c U8 (.c hn (.c (show @Eq (oN) (aN MJ [.var [SW kk,SW ks,SW ko],.var (Nf (bF rs)),.T7 (ap (MK PtT.row l)) 0 2] 3 (.ref (.ptr 1 (0+MU (↑n:Int)*1)))) (some (SW v)) from ?_) (.c U5 (.c (vM (MK PtT.row l) 2 0 0) (.c (iqT 3 (match 0==2 with|true=>.T7 (ap (MK PtT.row l)) 0 2|false=>Ux (a8 2 0 0) (.var [SW kk,SW ks,SW ko]))) (.c (show MY 3 (match 0+1==2 with|true=>.T7 (ap (MK PtT.row l)) 0 2|false=>Ux (a8 2 0 0) (.var (Nf (bF rs))))=true from ?_) (.c (iV 3 (MK PtT.row l) 0 2) .n)))))))) (by first|(simp only[];done)|(simp only[hw,ptF,U5,cond_true,cond_false,fI,e9];first|done|rfl)) (by first|(simp only[hw,ptF,U5,cond_false,e9];done)|(simp only[hw,ptF,U5,cond_true,cond_false,fI,e9];first|done|rfl))<;>(first|assumption|rfl|exact CZ rfl hv (by simp)|exact aj _ _|(rw[fI];exact aj _ _)|exact jF|exact yN|exact ai|(rw[fI];exact ai)|exact aD _ _|(rw[fI];exact aD _ _)|(simp[aR,RI,NZ,Um];omega))
 ·let v0:aT:=[.var [SW kk,SW ks,SW ko],.var (Nf (bF rs)),.T7 (ap (MK PtT.row l)) 0 2]
  refine zX {t:=Ue 38 0 [(3,SW to),(10,.ref (.T7 2 0)),(11,.ref (.ptr 1 0)),(12,SW (MN ML ((↑n:Int)+1)))],h:=[.var [SW kk,SW ks,SW ko],.var (N8 (a8 2 1 0) (Nf (bF rs))),.T7 (ap (MK PtT.row l)++[[SW (↑n:Int),SW v]]) 0 2],m:=[]} M6 [.st (.mask [3,10,11,12]),.st (.ren 2 0),.st (.UN 3)] [.b true,.ov 27 (SW v),.b true,.ov 33 (SW v)] (.c U8 (.c hn (.c (show @Eq (oN) (aN MJ v0 3 (.ref (.ptr 1 (0+MU (↑n:Int)*1)))) (some (SW v)) from ?_) (.c U5 (.c hn (.c (show @Eq (oN) (aN MJ v0 3 (.ref (.ptr 1 (0+MU (↑n:Int)*1)))) (some (SW v)) from ?_) (.c (show(N2 [[SW (↑n:Int),SW v]] (aR 2)&&Um (MO (ap (MK PtT.row l))+MO [[SW (↑n:Int),SW v]]) 16)=true from ?_) (.c (vMa (MK PtT.row l) [[SW (↑n:Int),SW v]] 2 1 0) (.er [[SW (↑n:Int),SW v]] (.c (iqT 3 (match 0==2 with|true=>.T7 (ap (MK PtT.row l)++[[SW (↑n:Int),SW v]]) 0 2|false=>Ux (a8 2 1 0) (.var [SW kk,SW ks,SW ko]))) (.c (show MY 3 (match 0+1==2 with|true=>.T7 (ap (MK PtT.row l)++[[SW (↑n:Int),SW v]]) 0 2|false=>Ux (a8 2 1 0) (.var (Nf (bF rs))))=true from ?_) (.c (iVa 3 (MK PtT.row l) [[SW (↑n:Int),SW v]] 0 2) .n)))))))))))) (by subst v0;first|(simp only[];done)|(simp only[hw,ptF,U5,cond_true,cond_false,fI,e9];first|done|rfl)) (by subst v0;first|(simp only[hw,ptF,U5,cond_true,e9];done)|(simp only[hw,ptF,U5,cond_true,fI,e9];first|done|rfl))<;>subst v0<;>(first|assumption|rfl|exact CZ rfl hv (by simp)|exact aj _ _|(rw[fI];exact aj _ _)|exact jF|exact yN|exact ai|(rw[fI];exact ai)|exact aD _ _|(rw[fI];exact aD _ _)|(simp[aR,RI,NZ,Um];omega))
abbrev Vx(a b c:Nat)(d:aT):AS:={t:=Ue a 0 [(b,.ref (.T7 c 0))],h:=d,m:=[]}
theorem KG{l:List PtT}(U8:Zd (x<if false=true then if 1024>to then 1024 else to else if 1024<to then 1024 else to)=false):(CW MJ U2 [] false (sub Tu 0) (ptS kk ks ko to rs l x) (.exit 0) (Vx 38 10 2 (ptH kk ks ko rs l))):=by
 exact zx [.st (.mask [10])] [.b false] (.c U8 .n)
def AL(to:Int):Int:=if to<1024 then to else 1024
theorem C0(to:Int):(if false=true then if 1024>to then 1024 else to else if 1024<to then 1024 else to)=AL to:=by
 unfold AL;simp;split<;>split<;>omega
def H0(rs:bV)(x to:Int):List PtT:=(O8 x.toNat (AL to-x).toNat).foldl (λl n=>ptF (rs.getD n 0) n l) []
theorem C1(v:Int)(n:Nat)(l:List PtT):(ptF v n l).length<=l.length+1:=by unfold ptF;cases Zd (v>=0)<;>simp
theorem pt_cw{kk ks ko to:Int}{rs:bV}(hr:rs.length=1024){x:Int}(hx:0<=x):
  CW MJ U2 [] false (.loop (sub Tu 0)) (ptS kk ks ko to rs [] x) (.exit 0) {t:=Ue 38 0 [VZ],h:=ptH kk ks ko rs (H0 rs x to),m:=[]}:=by
 have hx':((x.toNat:Nat):Int)=x:=by omega
 have hh:AL to<=1024:=by unfold AL;split<;>omega
 have:=CW.each (P:=MJ) (Γ:=U2) (h0:=[]) (rd:=false) (c:=sub Tu 0) (σ:=List PtT) (ρ:=Empty) (O8 x.toNat (AL to-x).toNat) (λn l=>.inl (ptF (rs.getD n 0) n l))
  (λi l=>ptS kk ks ko to rs l (x+(i:Int))) (.exit 0) (λl=>(Vx 38 10 2 (ptH kk ks ko rs l))) (λr=>r.elim)
  (λi l=>l.length<=i) (by simp) (λr=>r.elim) ?_ ?_ [] (by simp)
 ·rw[aY (λl n=>ptF (rs.getD n 0) n l)] at this
  simpa[bJ,H0] using this
 ·intro i n l hn hs
  obtain⟨hi,he⟩:=MR.1 hn
  simp only[List.length_range'] at hi
  simp only[List.getElem_range',TM] at he
  have U8:(n:Int)<AL to:=by omega
  have hb:rs[n]? = some (rs.getD n 0):=by
   rw[Nb,Nd (by rw[hr];omega)];rfl
  refine⟨λs' h=>by cases h;have:=C1 (rs.getD n 0) n l;omega,?_⟩
  have key:=pt_b (kk:=kk) (ks:=ks) (ko:=ko) (to:=to) (l:=l) hb (by simp[UU];omega) (by omega) (by rw[C0];simpa using U8) (by rw[wrap_i64 (by omega) (by omega)];omega)
  have e1:x+(i:Int)=(n:Int):=by omega
  have e2:x+((i+1:Nat):Int)=((n+1:Nat):Int):=by omega
  simp only[ad,e1,e2]
  exact key
 ·intro l _
  refine KG ?_
  rw[C0]
  simp
  omega
def ptLo(U3:Int):Int:=if true=true then if U3>0 then U3 else 0 else if U3<0 then U3 else 0
def bO(kk ks ko U3 to ST:Int)(l:By):List PtT:=H0 (Zk kk ks ko ST l) (ptLo U3) to
theorem sP(U3:Int):0<=(if true=true then if U3>0 then U3 else 0 else if U3<0 then U3 else 0):=by simp;split<;>omega
abbrev W8(a:bv):List (bY):=MK (λx=>MK D.p x) a
theorem Gi{U3:Int}{l:By}(hl:am l){r0:bV}(e1:dH MJ [.var (Zw kk ks ko)] 161 Xu [.var (Zw kk ks ko),.var (YS r0)])(h0:r0.length=1024)(h:aT):(Ev MJ U2 45 [ab (l.map M3),.agg (Zw kk ks ko),SW U3,SW to,SW ST] h (ab ((bO kk ks ko U3 to ST l).map PtT.row)) h):=by
 have UE:=(@pt_cw (kk) (ks) (ko) (to) (Zk kk ks ko ST l) (by first|assumption|rfl|exact cY|exact sP _|exact wP rfl h0 cY|(simp;done)) (if true=true then if U3>0 then U3 else 0 else if U3<0 then U3 else 0) (by first|assumption|rfl|exact cY|exact sP _|exact wP rfl h0 cY|(simp;done)))
 let v0:=Nf (bF (Zk kk ks ko ST l))
 let v1:=MK PtT.row (H0 (Zk kk ks ko ST l) (if true=true then if U3>0 then U3 else 0 else if U3<0 then U3 else 0) to)
 let v2:aT:=[.var (Zw kk ks ko),.var (Nf (bF r0))]
 let v3:=MK PtT.row (bO kk ks ko U3 to ST l)
 refine z0 [.val (Oo v0),.oh 11 Xu v2,.oh 10011 D.any [.var (Zw kk ks ko),.var v0],.nx 1,.st (.zjQ 10 2),.sum [3,10,11,12] (NR 0) (zb6 38 [VZ] [.var (Zw kk ks ko),.var v0,.T7 (ap v1) 0 2]),.st (.frz 2 v3)] (.c (@CY kk ks ko ST l hl ([.var (Zw kk ks ko)])) (.c (show dH MJ [.var (Zw kk ks ko)] 161 Xu v2 from ?_) (.c (show @Eq (Option (aT)) (aX MJ v2 161 Xu (Oo v0)) (some [.var (Zw kk ks ko),.var v0]) from ?_) (.c UE (.c (show ap v1=(W8 v3) from ?_) .n))))) h<;>subst v0 v1 v2 v3<;>(first|assumption|rfl|exact cY|exact sP _|exact wP rfl h0 cY|(simp;done))
theorem vg{kk ks ko U3 to ST:Int}{l:By}(hl:am l)(h:aT):Ev MJ U2 45 [ab (l.map M3),.agg (Zw kk ks ko),SW U3,SW to,SW ST] h (ab ((bO kk ks ko U3 to ST l).map PtT.row)) h :=
 Gi hl (r0:=MS 1024 0) (by unfold dH;kernel_rfl) (by simp) h
end Go.Vi
open Go Go.Proofs Go.Shelf Go.RowKit Go.Sort
namespace Go.Vi
set_option maxRecDepth 100000
set_option maxHeartbeats 4000000
variable {P:Program}{av:Nat->Prop}{g k:Nat}{h:aT}{loc:Loc}{w:World}{Γ:aq}{α:Type}
abbrev mR(enc:α->At)(l:List α):List (bY):=l.map λx=>(enc x).map lit
theorem lT:∀{vs ys:At},U1 w av loc h (vs.map lit) ys->ys=vs
  | [],[],_=>rfl
  | [],_::_,r=>by simp[U1] at r
  | _::_,[],r=>by simp[U1] at r
  | v::vs,y::ys,r=>by
    simp only[NW,U1] at r
    have h1:y=v:=by simpa[Rel,UF] using r.1
    rw[h1,lT r.2]
theorem gK:∀{vs:At},U1 w av loc h (vs.map lit) vs
  | []=>trivial
  | v::vs=>by
    simp only[NW,U1]
    exact⟨by simp[Rel,UF],gK⟩
theorem rA(enc:α->At)(l:List α):(mR enc l).flatten=((l.map enc).flatten).map lit:=by
  induction l with
  | nil=>rfl
  | cons a l ih=>simp only[mR,NW,N0,NP] at ih ⊢;rw[ih]
theorem lU[Inhabited α](enc:α->At)(k:Nat)(hk:∀x,(enc x).length=k)(l:List α):(flatK enc k l.toArray).toList=(l.map enc).flatten:=by
  have key:∀(l:List α) (t:Nat),t<l.length*k->((l.map enc).flatten)[t]? = some ((enc (l.toArray[t / k]!))[t % k]!):=by
    intro l
    induction l with
    | nil=>intro t h;simp at h
    | cons a l ih =>
      intro t h
      simp only[NW,N0]
      rcases Nat.lt_or_ge t k with U8|hge
      · rw[M4 (by rw[hk];exact U8),Nat.div_eq_of_lt U8,Nat.mod_eq_of_lt U8]
        have:t<(enc a).length:=by rw[hk];exact U8
        simp[this]
      · have k0 : 0 < k := by rcases Nat.eq_zero_or_pos k with h0 | h0
                              · subst h0;simp at h
                              · exact h0
        rw[Nm (by rw[hk];exact hge),hk]
        obtain⟨u,rfl⟩:∃u,t=u+k:=⟨t-k,by omega⟩
        have hu:u<l.length*k:=by simp only[Nq,Nat.add_mul,TM] at h;omega
        rw[show u+k-k=u by omega,ih u hu,Nat.add_div_right _ k0,Nat.add_mod_right]
        simp
  apply P9
  intro t
  have hlen:((l.map enc).flatten).length=l.length*k:=by
    clear key
    induction l with
    | nil=>simp
    | cons a l ih=>simp only[NW,N0,List.length_append,hk,ih,Nq,Nat.add_mul,TM];omega
  by_cases ht:t<l.length*k
  · rw[key l t ht]
    simp[flatK,ht]
  · rw[OV (by simp[flatK];omega),OV (by omega)]
theorem rB{w':World}(h1:w.heap.size<=w'.heap.size)(h2:∀k,k<w.heap.size->w'.heap[k]? = w.heap[k]?)(h3:w'.tape=w.tape/\w'.os=w.os/\w'.output=w.output/\w.drawn<=w'.drawn):
    ∃q os',w'=Qf (w.drewN q) os':=by
  refine⟨w'.drawn-w.drawn,w'.heap.extract w.heap.size w'.heap.size,?_⟩
  obtain⟨heap,tape,drawn,os,output⟩:=w
  obtain⟨heap',tape',drawn',os',output'⟩:=w'
  obtain⟨rfl,rfl,rfl,h4⟩:=h3
  simp only[Qf,World.drewN] at h1 h2 h4 ⊢
  congr 1
  · apply Array.ext'
    rw[Array.toList_append,Array.toList_extract]
    apply P9
    intro i
    by_cases hi:i<heap.size
    · rw[M4 (by simpa using hi)]
      have:=h2 i hi
      rw[<-NV,<-NV] at this
      exact this
    · rw[Nm (by simpa using PG hi)]
      simp only[List.extract_eq_take_drop,Array.length_toList]
      by_cases hj:i<heap'.size
      · rw[List.getElem?_take,if_pos (by omega),List.getElem?_drop]
        congr 1;omega
      · rw[OV (by simpa using PG hj),OV (by simp;omega)]
  · omega
theorem Ao{O:Nat->Prop}[Inhabited α]{enc:α->At}{cf:α->α->Int}(R:UJ Γ O w loc h){T8:Nat}(hblk:Ub O loc h T8)
    (hE:∀x y,Ev P Γ g [.agg ((enc x).map lit),.agg ((enc y).map lit)] [] (SW (cf x y)) []) (o size:Nat):CmpLays P g #[] enc k cf T8 o size w:=by
  intro m os dk hs x y
  generalize hW:sortWorldK enc k w T8 o m dk os=W
  have hb:T8<w.heap.size:=by
    rcases hblk with ho|ho
    · exact R.obd T8 ho
    · exact(R.inb T8 ho).1
  have zhC:∀b off v,¬Ub O loc h b->w.cell? ⟨b,off,none⟩=some v->W.cell? ⟨b,off,none⟩=some v/\¬Ub (λ_=>False) loc [] b:=by
    intro b off v hn hc
    have Μ:b≠T8:=λe=>hn (e▸hblk)
    refine⟨?_,λho=>ho.elim id (λh=>absurd h dI)⟩
    subst hW
    have U8:b<w.heap.size:=by
      simp only[Rp] at hc
      split at hc
      · rename_i hx;exact(OH.1 hx).1
      · simp at hc
    have:(sortWorldK enc k w T8 o m dk os).heap[b]? = w.heap[b]?:=by
      unfold sortWorldK
      rw[P0 _ _ (by simpa[putRowK,Oh,Oj,Ot] using U8)]
      simp[putRowK,Oh,Oj,Ot,Pv,Ne.symm Μ]
    simp only[Rp,this]
    exact hc
  have R0:UJ Γ (λ_=>False) W loc []:=by
    refine⟨λT8 ho=>absurd ho dI,λT8 ho=>ho.elim,λb b' x x' k c c' hb=>by simp at hb,λb x hb=>by simp at hb,λg cs hg=>?_⟩
    exact Ur.mono zhC g 0 cs (R.glo g cs hg)
  have ra:U1 W (Ub (λ_=>False) loc []) loc [] [.agg ((enc x).map lit),.agg ((enc y).map lit)] [.agg (enc x).toArray,.agg (enc y).toArray]:=by
    refine⟨⟨_,rfl,gK⟩,⟨_,rfl,gK⟩,trivial⟩
  refine Rx (callsIn_wide.1 (hE x y (λ_=>False) W loc _ R0 ra)) ?_
  rintro e w' ⟨v,d2,h2,l',rfl,⟨rfl,rfl⟩,R',E',rd⟩
  refine⟨?_,rB E'.size (λb hb=>E'.same b hb dI) E'.tape⟩
  have:v=.int .i64 (cf x y):=by simpa[Rel,UF] using rd
  rw[this]
theorem vj{ρ:Ren}(ok:POk P)(L:SlLaysF0.n6 P ρ)[Inhabited α]{enc:α->At}(aE:∀w,(isAgg (ρ.t 24)).run P w=.ok true w)(zE:∀w,(Go.sizeOf (ρ.t 24)).run P w=.ok k w)(hk:∀x,(enc x).length=k)(h1:∀x,∀v∈enc x,v.oneCell'=true)
    {cf:α->α->Int} (hO:Sort.SWO (ltOf cf))  (hg:ff P g=true) (hE:∀x y,Ev P Γ g [.agg ((enc x).map lit),.agg ((enc y).map lit)] [] (SW (cf x y)) [])
     {b e:Nat} {l:List α} (hb:h[b]? = some (.T7 (mR enc l) e k)) (hl:l.length<4611686018427387904) (hT:∀x∈l,∀y∈l,(ltOf cf) x y=false->(ltOf cf) y x=false->x=y) :
    Ev P Γ (ρ.f 6) [.ref (.T7 b e),.p (.v (.func (.func g) #[] #[]))] h (.UI []) (h.set b (.T7 (mR enc (l.mergeSort λx y=>!(ltOf cf) y x)) e k)):=by
  intro O w loc vs R ra
  obtain⟨y,rfl⟩:∃y,vs=[y,.func (.func g) #[] #[]]:=by
    match vs,ra with
    | [y, z], r => exact ⟨y, by have : z = .func (.func g) #[] #[] := by simpa [Rel, UF, U1] using r.2
                                rw[this]⟩
    | [],r=>simp[U1] at r
    | [_],r=>simp[U1] at r
    | _::_::_::_,r=>simp[U1] at r
  have r:=ra.1
  simp only[Rel,Ua,hb] at r
  have hv:=r.2.2 trivial
  have B:=R.T8 b _ hb
  simp only[Up] at B
  have hlen:(mR enc l).length=l.length:=by simp[mR]
  refine callsIn_wide.2 ?_
  cases UZ:loc b with
  | none =>
    rw[UZ] at hv B
    obtain⟨hn,rfl⟩:=hv
    have UE:l=[]:=by simpa[mR] using hn
    subst UE
    refine Rx (AnyF.slices_SortFunc_none L none 0 _ w) ?_
    rintro e' w' ⟨rfl,rfl⟩
    have hset:h.set b (.T7 (mR enc (([]:List α).mergeSort λx y=>!(ltOf cf) y x)) e k)=h:=by
      apply P9
      intro i
      by_cases hi:i=b
      · subst hi;rw[aK hb,hb];simp
      · rw[be _ _ hi]
    refine⟨.tuple #[],.UI [],_,loc,rfl,⟨rfl,rfl⟩,?_,?_,?_⟩
    · rw[hset];exact R
    · rw[hset];exact Ext.refl _ _ _
    · simp[Rel,U1]
  | some p =>
    obtain⟨T8,cp⟩:=p
    rw[UZ] at hv B
    obtain⟨o,cap,rfl,rfl,zgp⟩:=hv
    simp only at B
    obtain⟨o',cap',rc,c,T,fr,ys,zft,hcs,hle,hfr,hsz,zgY,pr,rest,hpr,hcl⟩:=B
    obtain⟨rfl,rfl⟩:=co rc
    rw[rA] at zgY
    have hys:=lT zgY
    subst hys
    have hblk:T8<w.heap.size:=(OH.1 zft).1
    have zfG:Ub O loc h T8:=.inr ⟨b,_,mkP o cap,hb,by simp,UZ⟩
    have hH:HoldsK enc k w T8 o l.toArray:=by
      intro j hj
      have hj':j<l.length*k:=by simpa using hj
      have hc:c[o+j]? = some (flatK enc k l.toArray)[j]!:=by
        rw[<-NV,hcl,<-lU enc k hk l,<-hpr,jy,M4 (by simpa using hj')]
        rw[NV,getElem!_pos _ j (by simpa using hj')]
        exact NL _
      constructor
      · simp[Rp,zft,hc]
      · have:=hfr (o+j) (OH.1 hc).1
        obtain⟨lo,hi⟩:=fr
        simp only[World.frozen?,zft]
        rw[<-Bool.not_eq_true]
        simpa using this
    have eg:∀args w,(callFunc g args).run P w=.ok (.enter g args) w:=λargs w=>by
      unfold ff at hg
      split at hg
      · rename_i fn hfn;exact zfh ok hfn hg args w
      · simp at hg
    rw[hlen]
    refine Rx (AnyQ.slices_SortFunc L k aE zE enc hk h1 cf hO g #[] T8 o cap l.toArray w eg (Ao R zfG hE o _) hH hblk hl) ?_
    rintro e' w' ⟨rfl,d',n,os,hP,hS,rfl⟩
    have hd':d'.toList=l.mergeSort λx y=>!(ltOf cf) y x:=by
      obtain⟨hsz',_,zmm⟩:=hP
      have e1:d'.extract 0 l.toArray.size=d':=by rw[<-hsz'];exact TN
      rw[e1,TN] at zmm
      refine List.Perm.eq_of_pairwise (le:=λx y=>(!(ltOf cf) y x)=true) ?_ ?_ ?_ (zmm.trans (TP _ _).symm)
      · intro a b' ha hb' h1 h2
        simp only[OC] at h1 h2
        have ha':a∈l:=by simpa using zmm.mem_iff.1 ha
        have hb2:b'∈l:=(TP _ _).mem_iff.1 hb'
        exact hT a ha' b' hb2 h2 h1
      · rw[List.pairwise_iff_getElem]
        intro i j hi hj hij
        have hi':i<d'.size:=by simpa using hi
        have hj':j<d'.size:=by simpa using hj
        have:=hS i j (Nat.zero_le _) hij (by omega)
        rw[getElem!_pos d' j hj',getElem!_pos d' i hi'] at this
        simpa using this
      · exact List.pairwise_mergeSort (λa b c h1 h2 => by
          simp only[OC] at h1 h2 ⊢
          exact hO.ntrans _ _ _ h2 h1) (λa b=>by
          cases hab:(ltOf cf) b a
          · simp
          · have : (ltOf cf) a b = false:=by
              cases hba:(ltOf cf) a b
              · rfl
              · have:=hO.trans _ _ _ hab hba
                rw[hO.irrefl] at this;exact absurd this (by simp)
            simp[this]) l
    have hdA:d'=(l.mergeSort λx y=>!(ltOf cf) y x).toArray:=by rw[<-hd']
    have hlm:(l.mergeSort λx y=>!(ltOf cf) y x).length=l.length:=by simp
    subst hdA
    clear hP hS hd'
    generalize (l.mergeSort λx y=>!(ltOf cf) y x)=m at hlm ⊢
    have zjg:(sortWorldK enc k w T8 o n m.toArray os).heap[T8]? = some (.cells (O4 id o (flatK enc k m.toArray) c) T fr):=by
      unfold sortWorldK
      rw[P0 _ _ (by simpa[putRowK,Oh,Oj,Ot] using hblk)]
      simp[putRowK,Oh,Oj,Ot,Pv,zft,Sort.onCells]
    have hfl:((l.map enc).flatten).length=l.length*k:=by rw[<-lU enc k hk];simp
    have zgo:(O4 id o (flatK enc k m.toArray) c).toList=pr++(m.map enc).flatten++rest:=by
      unfold O4
      rw[Array.toList_mapIdx,hcl,<-lU enc k hk m]
      apply P9
      intro i
      rw[List.getElem?_mapIdx]
      by_cases hp:i<pr.length
      · rw[iZ hp,iZ hp]
        have:¬o<=i:=by omega
        simp[this,hp]
      obtain⟨q,rfl⟩:∃q,i=pr.length+q:=⟨i-pr.length,by omega⟩
      rw[jy,jy]
      subst hpr
      by_cases hi:q<l.length*k
      · rw[M4 (by rw[hfl];exact hi),M4 (by simpa[hlm] using hi)]
        have hi2:q<((l.map enc).flatten).length:=by rw[hfl];exact hi
        have hi3:q<(flatK enc k m.toArray).size:=by simpa[hlm] using hi
        rw[Nd hi2,NV,NL hi3]
        simp only[Option.map_some,Nat.le_add_right,Nat.add_lt_add_iff_left,Nat.add_sub_cancel_left,true_and,id_eq,if_pos hi3]
        rw[getElem!_pos _ q hi3]
      · rw[Nm (by rw[hfl];exact PG hi),Nm (by simpa[hlm] using PG hi)]
        simp[hi,hlm,hfl]
    have key:=R.step (w':=sortWorldK enc k w T8 o n m.toArray os) (l':=loc) (h':=h.set b (.T7 (mR enc m) e k)) b (.T7 (mR enc m) e k)
      (by simp[sortWorldK,Qf,putRowK,Oh,Oj,Ot]) ⟨rfl,rfl,rfl,by simp[sortWorldK,Qf,putRowK,Oh,Oj,Ot]⟩ (λi hi=>be _ _ hi) (aK hb) (λ_ _=>rfl)
      (λz hz=>by rw[hb] at hz;cases hz;exact⟨⟨Nat.le_refl _,λ_=>by simp[mR,hlm],rfl⟩,λ_=>rfl⟩)
      (λk' hk' hno=>by
        have hkb:k'≠T8:=λe=>hno _ (mkP o cap) hb (by simp) (by rw[UZ,e])
        unfold sortWorldK
        rw[P0 _ _ (by simpa[putRowK,Oh,Oj,Ot] using hk')]
        simp[putRowK,Oh,Oj,Ot,Pv,Ne.symm hkb])
      (λk' c' hk'=>.inl ⟨_,c',hb,by simp,hk'⟩)
      (λE=>by
        simp only[Up,UZ]
        refine⟨o,cap,rfl,_,T,fr,(m.map enc).flatten,zjg,?_,?_,?_,?_,?_,pr,rest,hpr,zgo⟩
        · simpa[O4] using hcs
        · simpa[mR,hlm] using hle
        · simpa[O4] using hfr
        · intro r hr
          obtain⟨x,_,rfl⟩:=Nt.1 hr
          simp[hk]
        · rw[rA];exact gK)
    exact⟨.tuple #[],.UI [],_,loc,rfl,⟨rfl,rfl⟩,key.1,key.2,by simp[Rel,U1]⟩
end Go.Vi
open Go Go.Proofs Go.Shelf
namespace Go.Proofs
def Tryz.ziX:Go.Shelf.Ren:=⟨fun|6=>121|15=>71|14=>166|28=>135|29=>136|20=>199|21=>200|22=>201|23=>202|24=>203|25=>204|26=>205|27=>206|46=>220|47=>181|48=>182|49=>221|50=>222|57=>227|n=>n,fun|22=>50|24=>67|25=>186|3=>3|39=>146|0=>0|53=>204|55=>176|4=>4|46=>198|45=>197|50=>141|5=>5|9=>9|66=>239|70=>243|76=>261|77=>262|n=>n,fun|n=>n⟩
theorem Tryz.sortAtt:Go.Proofs.SlLaysF0.n6 MJ Tryz.ziX:={
 mixed:=by kernel_rfl
 f6:=⟨Tryz.f121.name,by decide,Tryz.func121.trans (congrArg some (by kernel_rfl))⟩
 f14:=⟨Tryz.f166.name,by decide,Tryz.func166.trans (congrArg some (by kernel_rfl))⟩
 f15:=Tryz.func71.trans (congrArg some (by kernel_rfl))
 f20:=⟨Tryz.f199.name,by decide,Tryz.func199.trans (congrArg some (by kernel_rfl))⟩
 f21:=⟨Tryz.f200.name,by decide,Tryz.func200.trans (congrArg some (by kernel_rfl))⟩
 f22:=⟨Tryz.f201.name,by decide,Tryz.func201.trans (congrArg some (by kernel_rfl))⟩
 f23:=⟨Tryz.f202.name,by decide,Tryz.func202.trans (congrArg some (by kernel_rfl))⟩
 f24:=⟨Tryz.f203.name,by decide,Tryz.func203.trans (congrArg some (by kernel_rfl))⟩
 f25:=⟨Tryz.f204.name,by decide,Tryz.func204.trans (congrArg some (by kernel_rfl))⟩
 f26:=⟨Tryz.f205.name,by decide,Tryz.func205.trans (congrArg some (by kernel_rfl))⟩
 f27:=⟨Tryz.f206.name,by decide,Tryz.func206.trans (congrArg some (by kernel_rfl))⟩
 f28:=Tryz.func135.trans (congrArg some (by kernel_rfl))
 f29:=Tryz.func136.trans (congrArg some (by kernel_rfl))
 f46:=⟨Tryz.f220.name,by decide,Tryz.func220.trans (congrArg some (by kernel_rfl))⟩
 f47:=Tryz.func181.trans (congrArg some (by kernel_rfl))
 f48:=Tryz.func182.trans (congrArg some (by kernel_rfl))
 f49:=⟨Tryz.f221.name,by decide,Tryz.func221.trans (congrArg some (by kernel_rfl))⟩
 f50:=⟨Tryz.f222.name,by decide,Tryz.func222.trans (congrArg some (by kernel_rfl))⟩
 f57:=⟨Tryz.f227.name,by decide,Tryz.func227.trans (congrArg some (by kernel_rfl))⟩
 t0:=Tryz.underlying0
 a0:=Tryz.isAgg0
 z0:=Tryz.sizeOf0
 v0:=Tryz.zeroValue0
 t3:=Tryz.underlying3
 a3:=Tryz.isAgg3
 z3:=Tryz.sizeOf3
 v3:=Tryz.zeroValue3
 t4:=Tryz.underlying4
 a4:=Tryz.isAgg4
 z4:=Tryz.sizeOf4
 v4:=Tryz.zeroValue4
 t5:=Tryz.underlying5
 a5:=Tryz.isAgg5
 z5:=Tryz.sizeOf5
 v5:=Tryz.zeroValue5
 t9:=Tryz.underlying9
 a9:=Tryz.isAgg9
 z9:=Tryz.sizeOf9
 v9:=Tryz.zeroValue9
 t22:=Tryz.underlying50
 a22:=Tryz.isAgg50
 z22:=Tryz.sizeOf50
 v22:=Tryz.zeroValue50
 t25:=Tryz.underlying186
 a25:=Tryz.isAgg186
 z25:=Tryz.sizeOf186
 v25:=Tryz.zeroValue186
 t39:=Tryz.underlying146
 a39:=Tryz.isAgg146
 z39:=Tryz.sizeOf146
 v39:=Tryz.zeroValue146
 t45:=Tryz.underlying197
 a45:=Tryz.isAgg197
 z45:=Tryz.sizeOf197
 v45:=Tryz.zeroValue197
 t46:=Tryz.underlying198
 a46:=Tryz.isAgg198
 z46:=Tryz.sizeOf198
 v46:=Tryz.zeroValue198
 t50:=Tryz.underlying141
 a50:=Tryz.isAgg141
 z50:=Tryz.sizeOf141
 v50:=Tryz.zeroValue141
 t53:=Tryz.underlying204
 a53:=Tryz.isAgg204
 z53:=Tryz.sizeOf204
 v53:=Tryz.zeroValue204
 t55:=Tryz.underlying176
 a55:=Tryz.isAgg176
 z55:=Tryz.sizeOf176
 v55:=Tryz.zeroValue176
 t66:=Tryz.underlying239
 a66:=Tryz.isAgg239
 z66:=Tryz.sizeOf239
 v66:=Tryz.zeroValue239
 t70:=Tryz.underlying243
 a70:=Tryz.isAgg243
 z70:=Tryz.sizeOf243
 v70:=Tryz.zeroValue243
 t76:=Tryz.underlying261
 a76:=Tryz.isAgg261
 z76:=Tryz.sizeOf261
 v76:=Tryz.zeroValue261
 t77:=Tryz.underlying262
 a77:=Tryz.isAgg262
 z77:=Tryz.sizeOf262
 v77:=Tryz.zeroValue262}
end Go.Proofs
namespace Go.Vi
set_option maxRecDepth 100000
set_option maxHeartbeats 4000000
open Go.Sort
def H1(a b:Uj):Int:=orI (br a.T4 b.T4) (br a.T5 b.T5)
def leA(a b:Uj):Bool:=!(ltOf H1) b a
theorem C2(a b:Uj):(ltOf H1) a b=true ↔ a.T4<b.T4\/(a.T4=b.T4/\a.T5<b.T5):=by
 unfold ltOf H1 orI br
 simp only[decide_eq_true_eq]
 repeat' split
 all_goals simp_all
 all_goals omega
theorem wQ(a b:Uj):(ltOf H1) a b=false ↔ ¬(a.T4<b.T4\/(a.T4=b.T4/\a.T5<b.T5)):=by
 rw[<-C2,Bool.not_eq_true]
theorem swoA:SWO (ltOf H1) where
 irrefl x:=by rw[wQ];omega
 trans x y z h1 h2:=by rw[C2] at *;omega
 ntrans x y z h1 h2:=by rw[wQ] at *;omega
def encA(a:Uj):At:=[.int .i64 a.T5,.int .i64 a.T4,.int .i64 a.Uf,.int .i64 a.UK,.int .i64 a.To]
abbrev KH(l:iF):List (bY):=l.map λa=>a.row.map .p
abbrev Wl(a:FuncId):Dp:=(.v (.func (.func a) #[] #[]))
theorem Ap{h:aT}{b e:Nat}{l:iF}(hb:h[b]? = some (.T7 (KH l) e 5))(hl:l.length<4611686018427387904)(hT:∀x∈l,∀y∈l,x.T4=y.T4->x.T5=y.T5->x=y):
  Ev MJ U2 121 [.ref (.T7 b e),.p (Wl 122)] h (.UI []) (h.set b (.T7 (KH (l.mergeSort leA)) e 5)) :=
 vj (α:=Uj) (enc:=encA) (k:=5) (cf:=H1) UR Tryz.sortAtt Tryz.isAgg67 Tryz.sizeOf67 (λ_=>rfl) (λx v hv=>by simp[encA] at hv;rcases hv with rfl|rfl|rfl|rfl|rfl<;>rfl) swoA (by kernel_rfl) (λx y=>kp []) hb hl
  (λx hx y hy h1 h2=>by
   rw[wQ] at h1 h2
   exact hT x hx y hy (by omega) (by omega))
end Go.Vi
open Go Go.Proofs
namespace Go.Vi
set_option maxRecDepth 100000
set_option maxHeartbeats 4000000
structure XG where
 kind:Int
 sub:Int
 obj:Int
 U3:Int
 Λ:Int
 deriving Inhabited,DecidableEq
abbrev WU(a:XG):dO:=[vi a.kind,vi a.sub,vi a.obj,vi a.U3,vi a.Λ]
def XG.row(r:XG):dO:=(WU r)
abbrev Us(l:List XG):bv:=l.map XG.row
theorem Aq(l:List XG):(ap (Us l)).all (aR 5)=true:=by
 rw[Ni]
 intro r hr
 obtain⟨x,hx,rfl⟩:=Nt.1 hr
 obtain⟨y,_,rfl⟩:=Nt.1 hx
 rfl
abbrev lkH(w:T9)(ST:Int)(rs:List XG)(e:Nat):aT:=[.var [.ref (.T7 1 e),ab (w.c.map MZ),ab w.p,ab (w.s.map M9),ab (w.f.map M3),SW ST],.T7 (ap (Us rs)) e 5]
abbrev Zl(a b:Nat)(d:T9)(e:Int):bY:=[.ref (.T7 a b),ab (MK MZ d.c),ab d.p,ab (MK M9 d.s),ab (MK M3 d.f),SW e]
abbrev Y9(a:List (bY))(b:Nat)(c:List (bY))(d:Nat):Bool:=N2 a (aR b)&&Um (MO c+MO a) d
theorem Gj{w:T9}{ST:Int}{rs qs:List XG}(hb:rs.length+qs.length<=1000000000):(Ev MJ Un 164 [.ref (.ptr 0 0),ab (Us qs)] (lkH w ST rs 0) (.UI []) (lkH w ST (rs++qs) 1)):=by
 refine Na (Oc (h':=[.var [.ref (.T7 1 1),ab (MK MZ w.c),ab w.p,ab (MK M9 w.s),ab (MK M3 w.f),SW ST],.T7 (ap (Us rs)++MK (λx=>MK D.p x) (Us qs)) 1 5]) (d:=NG []) UR [] (by kernel_rfl) (.c (show(N2 (MK (λx=>MK D.p x) (Us qs)) (aR 5)&&Um (MO (ap (Us rs))+MO (MK (λx=>MK D.p x) (Us qs))) 40)=true from(by first|assumption|rfl|omega|(simp only[Aq,Um,Ou,MT,decide_eq_true_eq,N1];omega))) .n)) ?_ ?_<;>(first|rfl|(simp only[lkH,Us,ap,NP];rfl)|(simp only[lkH,Us,ap,NP];done))
abbrev XC(a:XG):bY:=[SW a.kind,SW a.sub,SW a.obj,SW a.U3,SW a.Λ]
abbrev zbS(a:Nat):bY:=[.ref (.ptr 0 0),.ref (.T7 a 0)]
abbrev zej(a:List XG)(b:bY):List (bY):=ap (Us a)++[b]
theorem vk{w:T9}{ST:Int}{rs:List XG}{q:XG}(hb:rs.length<=999999999):(Ev MJ Un 164 (zbS 2) (lkH w ST rs 0++[.T7 [(XC q)] 0 5]) (.UI []) (lkH w ST (rs++[q]) 1++[.T7 [(XC q)] 0 5])):=by
 let v0:bY:=(XC q)
 refine Na (Oc (h':=[.var (Zl 1 1 w ST),.T7 (zej rs v0) 1 5,.T7 [v0] 0 5]) (d:=NG []) UR [] (by kernel_rfl) (.c (show(N2 [v0] (aR 5)&&Um (MO (ap (Us rs))+MO [v0]) 40)=true from(by subst v0;first|assumption|rfl|omega|(simp[aR,RI,NZ,Um];omega))) .n)) ?_ ?_<;>subst v0<;>(first|rfl|(simp only[lkH,Us,ap,NP];rfl)|(simp only[lkH,Us,ap,NP];done))
def rdN:XG:=⟨12,0,0,0,1⟩
theorem wR{w:T9}(hw:w.ok){ST:Int}(h:aT):Ev MJ Un 67 [.agg w.l,SW ST] h (.UI [ab (Ys (ah w.f ST)),.ref (.T7 h.length 0)]) (h++[.T7 (ap (Us [rdN])) 0 5]) :=
 Ev.zfL (oZ hw.lf hw.sf h)
def rdT(kk ks ko T4:Int):List XG:=match zgK T4 with
 | true=>[]
 | false=>[⟨kk,ks,ko,T4,ML.wrap (T4+1)⟩]
theorem C3(kk ks ko T4:Int):kC kk ks ko T4=Us (rdT kk ks ko T4):=by
 unfold kC rdT
 cases zgK T4<;>rfl
theorem zeT(kk ks ko T4:Int):(rdT kk ks ko T4).length<=1:=by unfold rdT;cases zgK T4<;>simp
theorem lV{w:T9}(hw:w.ok){n T4 ST:Int}(h:aT):Ev MJ Un 165 (Wp w n T4 ST) h (zbL w n T4 ST (Us (rdT 1 n 0 T4))) h:=by
 rw[<-C3];exact Am hw h
abbrev zbm(a b:List XG):List (bY):=(ap (Us (a++b)))
noncomputable abbrev pq(w:T9)(ST:Int)(rs:List XG):aT:=[.var (Zl 1 1 w ST),.T7 (zbm rs [rdN]) 1 5,.T7 [(XC rdN)] 0 5]
noncomputable abbrev wS(w:T9)(ST:Int)(rs:List XG):aT:=[.var (Zl 1 0 w ST),.T7 (ap (Us rs)) 0 5,.T7 [(XC rdN)] 0 5]
noncomputable abbrev wT(w:T9)(ST:Int)(rs:List XG):aT:=[.var (Zl 1 0 w ST),.T7 (ap (Us rs)) 0 5]
theorem Gk{w:T9}(hw:w.ok){ST:Int}{rs:List XG}(hb:rs.length<=999999000):(Ev MJ Un 118 YT (lkH w ST rs 0) (ab (Ys (ah w.f ST))) (lkH w ST (rs++[rdN]) 1)):=by
 let v0:bY:=(Zl 1 1 w ST)
 refine Na (Ev.post (d2:=ab (YZ (ah w.f ST))) (h2:=[.var v0,.T7 (zbm rs [rdN]) 1 5]) (φ:=[MY 2 (.var v0)=true,MY 2 (.T7 (zbm rs [rdN]) 1 5)=true]) [.st (.UN 2)] (Oc (h':=(pq w ST rs)) (d:=ab (YZ (ah w.f ST))) UR [.call (NG [ab (YZ (ah w.f ST)),.ref (.T7 2 0)]) (wS w ST rs),.call (NG []) (pq w ST rs)] (by kernel_rfl) (.c (@wR w hw ST (wT w ST rs)) (.e XU (.e zaH (.e (Oo (Oi w)) (.e XU (.e (zbK 5) (.c (show @Eq (oN) (Yc ST) (Yc ST) from rfl) (.c (@vk w ST rs rdN ?_) .n))))))))) (by kernel_rfl) ⟨rfl,?_,trivial⟩) (by subst v0;first|rfl|(simp only[lkH,Us,ap,NP];rfl)|(simp only[lkH,Us,ap,NP];done)) (by subst v0;first|rfl|(simp only[lkH,Us,ap,NP];rfl)|(simp only[lkH,Us,ap,NP];done))<;>subst v0<;>(first|assumption|rfl|omega|exact aD _ _|exact ai|(simp;omega)|(simp only[Aq,Um,Ou,MT,decide_eq_true_eq,N1];omega))
noncomputable abbrev qi(w:T9)(ST:Int)(rs:List XG):aT:=[.var (Zl 1 0 w ST),.T7 (ap (Us rs)) 0 5,.var ZA,.var ZA]
noncomputable abbrev fJ(w:T9)(ST:Int)(rs:List XG):aT:=[.var (Zl 1 0 w ST),.T7 (ap (Us rs)) 0 5,.var ZA]
abbrev Zi(a:T9):bY:=[ab (MK MZ a.c),ab a.p,ab (MK M9 a.s),ab (MK M3 a.f)]
noncomputable abbrev Eh(w:T9)(ST:Int)(n:Int)(T4:Int):bY:=[Oo (Zi w),SW n,SW T4,SW ST]
abbrev Za(a:T9)(b e f:Int):bY:=[ak (ac a b e f).fst.name,SW (ac a b e f).fst.number,SW (ac a b e f).fst.To,SW (ac a b e f).fst.rep,SW (MX (ac a b e f).fst.need).op,SW (MX (ac a b e f).fst.need).c,ak (MX (ac a b e f).fst.need).nm,SW (MX (ac a b e f).fst.need).n,SW (MX (ac a b e f).fst.need).d,ab (MX (ac a b e f).fst.need).ks,SW (MX (ac a b e f).fst.ζ).op,SW (MX (ac a b e f).fst.ζ).c,ak (MX (ac a b e f).fst.ζ).nm,SW (MX (ac a b e f).fst.ζ).n,SW (MX (ac a b e f).fst.ζ).d,ab (MX (ac a b e f).fst.ζ).ks]
abbrev YO(a:Nat)(b c:Int):bY:=[.ref (.ptr a 0),SW b,SW c]
abbrev We(a:List XG)(b c:Int):List (bY):=(ap (Us (a++rdT 1 b 0 c)))
theorem pt{w:T9}(hw:w.ok){ST n T4:Int}{rs:List XG}(hb:rs.length<=999999000):(Ev MJ Un 120 (YO 0 n T4) (lkH w ST rs 0) (ag (ac w n T4 ST).1.row) (lkH w ST (rs++rdT 1 n 0 T4) 1)):=by
 let v1:aT:=[.var (Zl 1 0 w ST),.T7 (ap (Us rs)) 0 5,.var ZA,.var (Za w n T4 ST)]
 let v2:bY:=(Zl 1 1 w ST)
 let v0:aT:=[.var v2,.T7 (We rs n T4) 1 5,.var ZA,.var (Za w n T4 ST)]
 refine Na (Ev.post (d2:=Oo (Za w n T4 ST)) (h2:=[.var v2,.T7 (We rs n T4) 1 5]) (φ:=[MY 2 (.var v2)=true,MY 2 (.T7 (We rs n T4) 1 5)=true]) [.st (.UN 2)] (Oc (h':=[.var v2,.T7 (We rs n T4) 1 5,.var (Za w n T4 ST),.var (Za w n T4 ST)]) (d:=Oo (Za w n T4 ST)) UR [.val (NG [Oo (Za w n T4 ST),ab (Us (rdT 1 n 0 T4)),T6 (ac w n T4 ST).2]),.call (NG []) v0] (by kernel_rfl) (.c (@lV w hw n T4 ST (fJ w ST rs)) (.e XU (.e XU (.e zaH (.e zaH (.e (Oo (Oi w)) (.e (Oo (Oi w)) (.e XU (.e XU (.e (zbK 5) (.e (zbK 5) (.c (show @Eq (oN) (Yc ST) (Yc ST) from rfl) (.c (show @Eq (oN) (Yc ST) (Yc ST) from rfl) (.er (fJ w ST rs) (.c (@lV w hw n T4 ST (fJ w ST rs)) (.c (@lV w hw n T4 ST (qi w ST rs)) (.c (show Ev MJ Un 164 [.ref (.ptr 0 0),ab (Us (rdT 1 n 0 T4))] v1 (NG []) v0 from(Na (Ev.zeY (args:=[.ref (.ptr 0 0),ab (Us (rdT 1 n 0 T4))]) (H:=v1) [0,1] (@Gj w ST rs (rdT 1 n 0 T4) (by subst v1 v2 v0;first|assumption|rfl|omega|exact aD _ _|exact ai|(have:=zeT 1 n 0 T4;omega)|(simp;omega))) (by kernel_rfl) (by kernel_rfl) (by kernel_rfl) ⟨?_,trivial⟩ ⟨?_,trivial⟩) (by kernel_rfl) (by kernel_rfl))) .n)))))))))))))))))) (by kernel_rfl) ⟨rfl,(by subst v1 v2 v0;first|assumption|rfl|omega|exact aD _ _|exact ai|(have:=zeT 1 n 0 T4;omega)|(simp;omega)),trivial⟩) (by subst v1 v2 v0;first|rfl|(simp only[lkH,Us,ap,NP];rfl)|(simp only[lkH,Us,ap,NP];done)) (by subst v1 v2 v0;first|rfl|(simp only[lkH,Us,ap,NP];rfl)|(simp only[lkH,Us,ap,NP];done))<;>subst v1 v2 v0<;>(first|rfl|exact al _ _|first|assumption|rfl|omega|exact aD _ _|exact ai|(have:=zeT 1 n 0 T4;omega)|(simp;omega))
abbrev VX(a:List XG)(b c d:Int):bv:=(Us (a++[{kind:=5,sub:=b,obj:=c,U3:=0,Λ:=d}]))
noncomputable abbrev dM(w:T9)(ST:Int)(st:Int)(n:Int)(T4:Int)(rs:List XG):aT:=[.var (Zl 1 1 w ST),.T7 (ap (VX rs st n T4)) 1 5,.var (Zw 5 st n),.T7 [[SW 5,SW st,SW n,SW 0,SW T4]] 0 5]
theorem wU{w:T9}(hw:w.ok){ST st n T4:Int}{rs:List XG}(hb:rs.length<=999999000):(Ev MJ Un 119 [.ref (.ptr 0 0),SW st,SW n,SW T4] (lkH w ST rs 0) (ab ((bO 5 st n 0 T4 ST w.f).map PtT.row)) (lkH w ST (rs++[⟨5,st,n,0,T4⟩]) 1)):=by
 let v0:aT:=[.var (Zl 1 0 w ST),.T7 (ap (Us rs)) 0 5,.var (Zw 5 st n),.T7 [[SW 5,SW st,SW n,SW 0,SW T4]] 0 5]
 let v1:bY:=(Zl 1 1 w ST)
 let v2:=MK PtT.row (bO 5 st n 0 T4 ST w.f)
 refine Na (Ev.post (d2:=ab v2) (h2:=[.var v1,.T7 (ap (VX rs st n T4)) 1 5]) (φ:=[MY 2 (.var v1)=true,MY 2 (.T7 (ap (VX rs st n T4)) 1 5)=true]) [.st (.UN 2)] (Oc (h':=(dM w ST st n T4 rs)) (d:=ab v2) UR [.call (NG []) (dM w ST st n T4 rs),.val (ab v2)] (by kernel_rfl) (.c (show Ev MJ Un 164 (zbS 3) v0 (NG []) (dM w ST st n T4 rs) from(Na (Ev.zeY (args:=(zbS 3)) (H:=v0) [0,1,3] (@vk w ST rs ({kind:=5,sub:=st,obj:=n,U3:=0,Λ:=T4}) (by subst v0 v1 v2;first|assumption|rfl|omega|exact aD _ _|exact ai|exact hw.sf|(simp;omega)|(simp[aR,RI,NZ,Um];omega))) (by kernel_rfl) (by kernel_rfl) (by kernel_rfl) ⟨?_,?_,trivial⟩ ⟨?_,?_,trivial⟩) (by kernel_rfl) (by kernel_rfl))) (.e XU (.e XU (.e XU (.e XU (.e (Oo (Zw 5 st n)) (.c (Ev.zfL (Γ':=Un) (@vg 5 st n 0 T4 ST (w.f) (by subst v0 v1 v2;first|assumption|rfl|omega|exact aD _ _|exact ai|exact hw.sf|(simp;omega)|(simp[aR,RI,NZ,Um];omega)) (dM w ST st n T4 rs))) .n)))))))) (by kernel_rfl) ⟨rfl,(by subst v0 v1 v2;first|assumption|rfl|omega|exact aD _ _|exact ai|exact hw.sf|(simp;omega)|(simp[aR,RI,NZ,Um];omega)),trivial⟩) (by subst v0 v1 v2;first|rfl|(simp only[lkH,Us,ap,NP];rfl)|(simp only[lkH,Us,ap,NP];done)) (by subst v0 v1 v2;first|rfl|(simp only[lkH,Us,ap,NP];rfl)|(simp only[lkH,Us,ap,NP];done))<;>subst v0 v1 v2<;>(first|rfl|exact al _ _|first|assumption|rfl|omega|exact aD _ _|exact ai|exact hw.sf|(simp;omega)|(simp[aR,RI,NZ,Um];omega))
end Go.Vi
