/- A part of the proof; no conditions of its own. -/
import Derived.Test.YtgalafpinkflfaaGreatDoorW2
import Derived.Shelf.SlSortCmp.NoneTotal
import Derived.Sort.EveryDepth
import Derived.Ground.SlsfProg
open Decidable renaming decide -> Zd
open List renaming range' -> Oo, flatten_cons -> QA, mem_map -> NK, length -> MO, flatten -> M7, getElem?_eq_some_iff -> MR, foldl -> Nx, map -> ML, set -> Oe, range -> NC, getD -> MT, getElem?_eq_getElem -> Nh, length_map -> N7, all_eq_true -> Ns, replicate -> MU, map_cons -> Pr, map_append -> O8, all -> NH, length_range' -> Tg, getElem?_append_left -> NW, getElem?_append_right -> NJ, length_cons -> N3, ext_getElem? -> P6, mergeSort_perm -> S7, mergeSort -> Sz, foldl_cons -> NI, filterMap_cons -> S8
open Go.Vi.VS renaming ok -> Sy
open Go.Proofs.Tryz renaming prog -> MK, f251 -> QO, f127 -> Nr, f60 -> SO, f91 -> Qj
open Go.Vi.D renaming UP -> NS, fn -> Ot, agg -> Nk, U7 -> Nm
open Go.Vi.iN renaming UV -> MZ
open Go.IntKind renaming i64 -> MM, wrap -> MN
open Go.LoopState renaming ready -> Np, exhausted -> N2
open Go.Fn renaming func -> Nl
open Go.Exit renaming normal -> M8
open Go.Value renaming tuple -> Pz, oneCell' -> OM
open Go.Vi.If renaming row -> MY
open Go.Vi.CW renaming each -> OS
open Go.Vi.Ev renaming WB -> Na, Xj -> M9, post -> RJ
open Int renaming toNat -> MP, tmod -> P0, tdiv -> Nn
open Option renaming some -> O6
open Go.Sort renaming grow -> Qp, heap_grow_old -> Pu, putRow -> NY, mapBlock -> N0, ahead -> N6, putCells -> Ow
open Go.World renaming cell? -> Ri
open Array renaming getElem?_modify -> QX, getElem?_eq_some_iff -> PH, getElem?_toList -> NU, extract_size -> S6
open Go.Calls renaming mono -> QP
open Go.Vi.IS renaming row -> MX
open Go.Vi.TK renaming row -> M4
open Go.Vi.iS renaming l -> Nz
open Go.Vi.BV renaming fl -> M1
open Go.Vi.tO renaming row -> MQ
open Nat renaming le_trans -> OX
open Go Go.Proofs
namespace Go.Vi
set_option maxRecDepth 100000
set_option maxHeartbeats 4000000
def vaLo(f:If):Int:=if true=true then if f.Do>0 then f.Do else 0 else if f.Do<0 then f.Do else 0
def vaF(f:If)(s:VS):VS:=Hv f (vaLo f) s
theorem JZ{f:If}{x:Int}{s:VS}(h:s.ok):(Hv f x s).ok:=by
 unfold Hv
 generalize Oo x.toNat (Hu f-x).toNat=l
 induction l generalizing s with
 | nil=>exact h
 | cons n l ih=>exact ih (Yk n h)
theorem J0{kk ks ko bv:Int}{fs:List (List Dp)}{rs:List D}{OR:List If}{some:List Bool}(ho:Sy (OR,some)){f:If}:Iv MK At (.ref (.yl 8)) [ag f.row] (VE kk ks ko bv fs rs OR some .ready [.var (f.row.map .p)]) (iF true) (VE kk ks ko bv fs rs (vaF f (OR,some)).1 (vaF f (OR,some)).2 .ready [.var (f.row.map .p),.var (f.row.map .p)]) :=
 Iv.round (h1:=VE kk ks ko bv fs rs OR some .ready [.var (f.row.map .p),.var (f.row.map .p)]) rfl rfl va_asg rfl (JY ho) rfl
def kU(kk ks ko bv:Int)(s:VS)(f:If):VS:=bif XK kk ks ko bv f then vaF f s else s
theorem jK{n:Nat}:∀{es:List (List D)},(∀r∈es,NS n r=true)->NS n es.flatten=true
 | [],_=>rfl
 | e::es,h=>by
  have key:∀(xs ys:List D),NS n xs=true->NS n ys=true->NS n (xs++ys)=true:=by
   intro xs ys h1 h2
   induction xs with
   | nil=>exact h2
   | cons x xs ih=>simp[NS] at h1 ⊢;grind
  rw[QA]
  exact key _ _ (h e (by simp)) (jK λr hr=>h r (by simp[hr]))
theorem rZ{n:Nat}{l:List If}:MZ n (.var (dc l).flatten)=true:=jK λr hr=>by obtain⟨_,_,rfl⟩:=NK.1 hr;rfl
theorem r8{n:Nat}{l:List Bool}:MZ n (.var (dP l).flatten)=true:=jK λr hr=>by obtain⟨_,_,rfl⟩:=NK.1 hr;rfl
theorem oe{n:Nat}{l:List Int}:MZ n (.var (bB l).flatten)=true:=jK λr hr=>by obtain⟨_,_,rfl⟩:=NK.1 hr;rfl
theorem vo_body{kk ks ko bv:Int}{fs:List (List Dp)}{rs:List Int}{OR b0:List If}{some s0:List Bool}(ho:Sy (OR,some)){f:If}{i:Nat}(hr:ap (i:Int) fs f.row 8)(IN:Zd ((i:Int)<(fs.length:Int))=true)(hw:MM.wrap ((i:Int)+1)=((i+1:Nat):Int)):(CW MK At (VE kk ks ko bv fs (bB rs).flatten b0 s0 .ready []) false (sub QO 0) {t:=ofT fs i,h:=VE kk ks ko bv fs (bB rs).flatten OR some .ready [],m:=[]} .normal {t:=ofT fs ((i+1:Nat):Int),h:=VE kk ks ko bv fs (bB rs).flatten (kU kk ks ko bv (OR,some) f).1 (kU kk ks ko bv (OR,some) f).2 .ready [],m:=[]}):=by
 cases Of:f.kind==kk&&(f.sub==ks&&(f.obj==ko&&true))
 ·refine yX {t:=DO 30 0 [(0,.ref (.yl 8)),(1,.ref (.ptr 4 0)),(2,.ref (.ptr 5 0)),(3,.ref (.ptr 6 0)),(7,ab fs),(8,aT (↑(MO fs):Int)),(9,aT (MN MM ((↑i:Int)+1)))],h:=[.var [aT kk,aT ks,aT ko],.var (M7 (bB rs)),.var (M7 (dc OR)),.var (M7 (dP some)),.var [ab fs],.var [aT kk,aT ks,aT ko],.var [aT bv],.Ts,.loop Np none 0 (DO 63 0 [(6,.ref (.ptr 1 0)),(7,.ref (.ptr 2 0)),(8,.ref (.ptr 3 0)),(15,Ot (Nl 251) [] [.ref (.ptr 4 0),.ref (.ptr 5 0),.ref (.ptr 6 0)])]) {toList:=[16]} (au (sub Nr 0)) (ai (sub Nr 0))],m:=[]} M8 [.st (.mask [0,1,2,3,7,8,9]),.st (.TD 9)] [.b IN,.r hr,.g ((by grind):((f.kind==kk&&(f.sub==ks&&(f.obj==ko&&true)))==true)=false),.g ((by grind):((f.kind==kk&&(f.sub==ks&&(f.obj==ko&&true)))==true)=false),.g ((by grind):((f.kind==kk&&(f.sub==ks&&(f.obj==ko&&true)))==true)=false),.g ((by grind):((f.kind==kk&&(f.sub==ks&&(f.obj==ko&&true)))==true)=false),((bX Of rfl):aZ (iF (f.kind==kk&&(f.sub==ks&&(f.obj==ko&&true)))) (D.p (Dp.v (Pz {toList:=[]}))) (iF false) (iF false)),.a1 (.ov 22 (iF false)),.g (rfl:(false==true)=false),.g (rfl:(false==true)=false),.g (rfl:(false==true)=false),.g (rfl:(false==true)=false),((bX rfl rfl):aZ (iF false) (D.p (Dp.v (Pz {toList:=[]}))) (iF false) (iF false)),.a1 (.ov 28 (iF false)),.b (rfl:false=false),bi 9 (.var [aT kk,aT ks,aT ko]),(?_:MZ 9 (.var (M7 (bB rs)))=true),(?_:MZ 9 (.var (M7 (dc OR)))=true),(?_:MZ 9 (.var (M7 (dP some)))=true),bi 9 (.var [ab fs]),bi 9 (.var [aT kk,aT ks,aT ko]),bi 9 (.var [aT bv]),bi 9 .Ts,bi 9 (.loop Np none 0 (DO 63 0 [(6,.ref (.ptr 1 0)),(7,.ref (.ptr 2 0)),(8,.ref (.ptr 3 0)),(15,Ot (Nl 251) [] [.ref (.ptr 4 0),.ref (.ptr 5 0),.ref (.ptr 6 0)])]) {toList:=[16]} (au (sub Nr 0)) (ai (sub Nr 0)))] (by grind) (by(simp only[hw,kU,XK,Bp,Of,Bool.false_and,cond_false];rfl))<;>(first|exact rZ|exact r8|exact oe)
 ·cases TH:Zd (f.bv<=bv)
  ·refine yX {t:=DO 30 0 [(0,.ref (.yl 8)),(1,.ref (.ptr 4 0)),(2,.ref (.ptr 5 0)),(3,.ref (.ptr 6 0)),(7,ab fs),(8,aT (↑(MO fs):Int)),(9,aT (MN MM ((↑i:Int)+1)))],h:=[.var [aT kk,aT ks,aT ko],.var (M7 (bB rs)),.var (M7 (dc OR)),.var (M7 (dP some)),.var [ab fs],.var [aT kk,aT ks,aT ko],.var [aT bv],.Ts,.loop Np none 0 (DO 63 0 [(6,.ref (.ptr 1 0)),(7,.ref (.ptr 2 0)),(8,.ref (.ptr 3 0)),(15,Ot (Nl 251) [] [.ref (.ptr 4 0),.ref (.ptr 5 0),.ref (.ptr 6 0)])]) {toList:=[16]} (au (sub Nr 0)) (ai (sub Nr 0))],m:=[]} M8 [.st (.mask [0,1,2,3,7,8,9]),.st (.TD 9)] [.b IN,.r hr,.g ((by grind):((f.kind==kk&&(f.sub==ks&&(f.obj==ko&&true)))==true)=true),.g ((by grind):((f.kind==kk&&(f.sub==ks&&(f.obj==ko&&true)))==true)=true),.g ((by grind):((f.kind==kk&&(f.sub==ks&&(f.obj==ko&&true)))==true)=true),.g ((by grind):((f.kind==kk&&(f.sub==ks&&(f.obj==ko&&true)))==true)=true),((bA Of rfl):aZ (iF (f.kind==kk&&(f.sub==ks&&(f.obj==ko&&true)))) (iF (Zd (f.bv<=bv))) (iF false) (iF (Zd (f.bv<=bv)))),.a1 (.ov 22 (iF (Zd (f.bv<=bv)))),.g ((by grind):(Zd (f.bv<=bv)==true)=false),.g ((by grind):(Zd (f.bv<=bv)==true)=false),.g ((by grind):(Zd (f.bv<=bv)==true)=false),.g ((by grind):(Zd (f.bv<=bv)==true)=false),((bX TH rfl):aZ (iF (Zd (f.bv<=bv))) (D.p (Dp.v (Pz {toList:=[]}))) (iF false) (iF false)),.a1 (.ov 28 (iF false)),.b (rfl:false=false),bi 9 (.var [aT kk,aT ks,aT ko]),(?_:MZ 9 (.var (M7 (bB rs)))=true),(?_:MZ 9 (.var (M7 (dc OR)))=true),(?_:MZ 9 (.var (M7 (dP some)))=true),bi 9 (.var [ab fs]),bi 9 (.var [aT kk,aT ks,aT ko]),bi 9 (.var [aT bv]),bi 9 .Ts,bi 9 (.loop Np none 0 (DO 63 0 [(6,.ref (.ptr 1 0)),(7,.ref (.ptr 2 0)),(8,.ref (.ptr 3 0)),(15,Ot (Nl 251) [] [.ref (.ptr 4 0),.ref (.ptr 5 0),.ref (.ptr 6 0)])]) {toList:=[16]} (au (sub Nr 0)) (ai (sub Nr 0)))] (by grind) (by(simp only[hw,kU,XK,TH,Bool.and_false,cond_false];rfl))<;>(first|exact rZ|exact r8|exact oe)
  ·refine yX {t:=DO 30 0 [(0,.ref (.yl 8)),(1,.ref (.ptr 4 0)),(2,.ref (.ptr 5 0)),(3,.ref (.ptr 6 0)),(7,ab fs),(8,aT (↑(MO fs):Int)),(9,aT (MN MM ((↑i:Int)+1)))],h:=[.var [aT kk,aT ks,aT ko],.var (M7 (bB rs)),.var (M7 (dc (vaF f (OR,some)).fst)),.var (M7 (dP (vaF f (OR,some)).2)),.var [ab fs],.var [aT kk,aT ks,aT ko],.var [aT bv],.Ts,.loop Np none 0 (DO 63 0 [(6,.ref (.ptr 1 0)),(7,.ref (.ptr 2 0)),(8,.ref (.ptr 3 0)),(15,Ot (Nl 251) [] [.ref (.ptr 4 0),.ref (.ptr 5 0),.ref (.ptr 6 0)])]) {toList:=[16]} (au (sub Nr 0)) (ai (sub Nr 0))],m:=[]} M8 [.st (.mask [0,1,2,3,7,8,9]),.st (.TD 9)] [.b IN,.r hr,.g ((by grind):((f.kind==kk&&(f.sub==ks&&(f.obj==ko&&true)))==true)=true),.g ((by grind):((f.kind==kk&&(f.sub==ks&&(f.obj==ko&&true)))==true)=true),.g ((by grind):((f.kind==kk&&(f.sub==ks&&(f.obj==ko&&true)))==true)=true),.g ((by grind):((f.kind==kk&&(f.sub==ks&&(f.obj==ko&&true)))==true)=true),((bA Of rfl):aZ (iF (f.kind==kk&&(f.sub==ks&&(f.obj==ko&&true)))) (iF (Zd (f.bv<=bv))) (iF false) (iF (Zd (f.bv<=bv)))),.a1 (.ov 22 (iF (Zd (f.bv<=bv)))),.g ((by grind):(Zd (f.bv<=bv)==true)=true),.g ((by grind):(Zd (f.bv<=bv)==true)=true),.g ((by grind):(Zd (f.bv<=bv)==true)=true),.j (@J0 kk ks ko bv fs (M7 (bB rs)) OR some ho f),.g ((by grind):(Zd (f.bv<=bv)==true)=true),((bA TH rfl):aZ (iF (Zd (f.bv<=bv))) (iF !true) (iF false) (iF !true)),.a1 (.ov 28 (iF !true)),.b (rfl:(!true)=false),bi 9 (.var [aT kk,aT ks,aT ko]),(?_:MZ 9 (.var (M7 (bB rs)))=true),(?_:MZ 9 (.var (M7 (dc (vaF f (OR,some)).fst)))=true),(?_:MZ 9 (.var (M7 (dP (vaF f (OR,some)).2)))=true),bi 9 (.var [ab fs]),bi 9 (.var [aT kk,aT ks,aT ko]),bi 9 (.var [aT bv]),bi 9 .Ts,bi 9 (.loop Np none 0 (DO 63 0 [(6,.ref (.ptr 1 0)),(7,.ref (.ptr 2 0)),(8,.ref (.ptr 3 0)),(15,Ot (Nl 251) [] [.ref (.ptr 4 0),.ref (.ptr 5 0),.ref (.ptr 6 0)])]) {toList:=[16]} (au (sub Nr 0)) (ai (sub Nr 0)))] (by grind) (by(simp only[hw,kU,XK,Bp,Of,TH,Bool.and_self,cond_true];rfl))<;>(first|exact rZ|exact r8|exact oe)
theorem J1{kk ks ko bv:Int}{fs:List (List Dp)}{rs:List Int}{OR b0:List If}{some s0:List Bool}{i:Nat}(IN:Zd ((i:Int)<(fs.length:Int))=false):(CW MK At (VE kk ks ko bv fs (bB rs).flatten b0 s0 .ready []) false (sub QO 0) {t:=ofT fs i,h:=VE kk ks ko bv fs (bB rs).flatten OR some .ready [],m:=[]} (.exit 0) {t:=DO 30 0 [],h:=VE kk ks ko bv fs (bB rs).flatten OR some .ready [],m:=[]}):=by
 exact yx [.st (.mask [])] [.b IN]
theorem υ{kk ks ko bv:Int}{s:VS}(f:If)(h:s.ok):(kU kk ks ko bv s f).ok:=by
 unfold kU
 cases XK kk ks ko bv f
 ·exact h
 ·exact JZ h
theorem vo_cw{kk ks ko bv:Int}{l:List If}(hl:ah l){rs:List Int}{b0:List If}{s0:List Bool}(ho:Sy (b0,s0)):
  CW MK At (VE kk ks ko bv (l.map MY) (bB rs).flatten b0 s0 .ready []) false (.loop (sub QO 0)) {t:=ofT (l.map MY) 0,h:=VE kk ks ko bv (l.map MY) (bB rs).flatten b0 s0 .ready [],m:=[]} (.exit 0)
   {t:=DO 30 0 [],h:=VE kk ks ko bv (l.map MY) (bB rs).flatten (l.foldl (kU kk ks ko bv) (b0,s0)).1 (l.foldl (kU kk ks ko bv) (b0,s0)).2 .ready [],m:=[]}:=by
 have:=OS (P:=MK) (Γ:=At) (h0:=VE kk ks ko bv (l.map MY) (bB rs).flatten b0 s0 .ready []) (rd:=false) (c:=sub QO 0) (σ:=VS) (ρ:=Empty) l (λf s=>.inl (kU kk ks ko bv s f))
  (λi s=>{t:=ofT (l.map MY) (i:Int),h:=VE kk ks ko bv (l.map MY) (bB rs).flatten s.1 s.2 .ready [],m:=[]}) (.exit 0) (λs=>{t:=DO 30 0 [],h:=VE kk ks ko bv (l.map MY) (bB rs).flatten s.1 s.2 .ready [],m:=[]}) (λr=>r.elim)
  (λ_ s=>s.ok) (by simp) (λr=>r.elim) ?_ ?_ (b0,s0) ho
 ·rw[aP] at this
  exact this
 ·intro i f s hf hs
  have hi:=(MR.1 hf).1
  exact⟨λs' h=>by cases h;exact υ f hs,vo_body hs (rowAt hf rfl) (TG _ hi) (T4 hi hl)⟩
 ·intro s _
  exact J1 (be _ l)
theorem Cf{kk ks ko bv:Int}{l:List If}(hl:ah l){rs:List Int}{b0:List If}{s0:List Bool}(ho:Sy (b0,s0)):(Ev MK At 251 [.ref (.yl 8),.ref (.ptr 4 0),.ref (.ptr 5 0),.ref (.ptr 6 0)] (VE kk ks ko bv (l.map MY) (bB rs).flatten b0 s0 .ready []) (.Tt []) (VE kk ks ko bv (l.map MY) (bB rs).flatten (l.foldl (kU kk ks ko bv) (b0,s0)).1 (l.foldl (kU kk ks ko bv) (b0,s0)).2 .ready [])):=by
 have Tv:=(@vo_cw (kk) (ks) (ko) (bv) (l) (hl) (rs) (b0) (s0) (ho))
 exact Na (yF (h':=[.var [aT kk,aT ks,aT ko],.var (M7 (bB rs)),.var (M7 (dc (Nx (kU kk ks ko bv) (b0,s0) l).fst)),.var (M7 (dP (Nx (kU kk ks ko bv) (b0,s0) l).2)),.var [ab (ML MY l)],.var [aT kk,aT ks,aT ko],.var [aT bv],.Ts,.loop Np none 0 (DO 63 0 [(6,.ref (.ptr 1 0)),(7,.ref (.ptr 2 0)),(8,.ref (.ptr 3 0)),(15,Ot (Nl 251) [] [.ref (.ptr 4 0),.ref (.ptr 5 0),.ref (.ptr 6 0)])]) {toList:=[16]} (au (sub Nr 0)) (ai (sub Nr 0))]) (d:=D.Tt []) [.s [0,1,2,3,7,8,9] Tv]) (by rfl) (by rfl)
noncomputable abbrev vaH0(kk ks ko bv:Int)(fs:List (List Dp))(rs:List Int)(OR:List If)(some:List Bool):List iN :=
 [.var [aT kk,aT ks,aT ko],.var (bB rs).flatten,.var (dc OR).flatten,.var (dP some).flatten,.var [ab fs],.var [aT kk,aT ks,aT ko],.var [aT bv]]
theorem Fs{kk ks ko bv:Int}{l:List If}(hl:ah l){rs:List Int}{b0:List If}{s0:List Bool}(ho:Sy (b0,s0)):CW MK At [] false (sub Nr 0) {t:=vaT,h:=vaH0 kk ks ko bv (l.map MY) rs b0 s0,m:=[]} .normal
  {t:=vaT,h:=VE kk ks ko bv (l.map MY) (bB rs).flatten (l.foldl (kU kk ks ko bv) (b0,s0)).1 (l.foldl (kU kk ks ko bv) (b0,s0)).2 .exhausted [],m:=[7]} :=
 CW.rangeFunc (f:=251) (fi:=[]) (ca:=[.ref (.ptr 4 0),.ref (.ptr 5 0),.ref (.ptr 6 0)]) Ug (s:={t:=vaT,h:=vaH0 kk ks ko bv (l.map MY) rs b0 s0,m:=[]}) (g:=.tmp 15) (ps:=#[16]) (asg:=au (sub Nr 0)) (body:=ai (sub Nr 0)) rfl (by kernel_rfl) (Cf hl ho) rfl
theorem va_val{h:List iN}{off n:Nat}{l:List If}{g:If}(hb:h[2]? = some (.var (dc l).flatten))(hs:l[n]? = some g)(ho:off=n*8+3):aI MK h 3 (.ref (.ptr 2 off))=some (aT g.value):=by
 subst ho
 exact nQ (sz:=8) (j:=3) (row:=g.row.map .p) (by kernel_rfl) (by kernel_rfl) hb (by simp[MY]) (by simp[hs]) rfl
theorem Cg{h:List iN}{off n:Nat}{l:List Int}{x:Int}(hb:h[1]? = some (.var (bB l).flatten))(hn:n<l.length)(ho:off=n*1):aN MK h 3 (.ref (.ptr 1 off)) (aT x)=some (h.set 1 (.var (bB (l.set n x)).flatten)):=by
 subst ho
 rw[nR (sz:=1) (new:=[aT x]) rfl (by kernel_rfl) rfl hb (λr hr=>by grind) (by simpa using hn),bB,bB,List.map_set]
abbrev maxV(v:Int):Int:=if true=true then if -1>v then -1 else v else if -1<v then -1 else v
noncomputable abbrev vlS(kk ks ko bv:Int)(fs:List (List Dp))(rs:List Int)(OR:List If)(some:List Bool)(i:Int):AS:={t:=DO 63 0 [(6,.ref (.ptr 1 0)),(7,.ref (.ptr 2 0)),(8,.ref (.ptr 3 0)),(46,aT i)],h:=VE kk ks ko bv fs (bB rs).flatten OR some .exhausted [],m:=[7]}
theorem vl_b{kk ks ko bv:Int}{fs:List (List Dp)}{rs:List Int}{OR:List If}{some:List Bool}{g:If}{n:Nat}{b:Bool}(hb:OR[n]? = .some g)(hs:some[n]? = .some b)(hn:TU (n:Int) 1024=true)(hr:n<rs.length)(IN:Zd ((n:Int)<1024)=true):(CW MK At [] false (sub Nr 2) (vlS kk ks ko bv fs rs OR some (n:Int)) .normal (vlS kk ks ko bv fs (bif b then (rs.set n (-1)).set n (maxV g.value) else rs.set n (-1)) OR some (MM.wrap ((n:Int)+1)))):=by
 cases Of:b
 ·let v0:List iN:=[.var [aT kk,aT ks,aT ko],.var (M7 (bB (Oe rs n (-1)))),.var (M7 (dc OR)),.var (M7 (dP some)),.var [ab fs],.var [aT kk,aT ks,aT ko],.var [aT bv],.Ts,.loop N2 none 0 (DO 63 0 [(6,.ref (.ptr 1 0)),(7,.ref (.ptr 2 0)),(8,.ref (.ptr 3 0)),(15,Ot (Nl 251) [] [.ref (.ptr 4 0),.ref (.ptr 5 0),.ref (.ptr 6 0)])]) {toList:=[16]} (au (sub Nr 0)) (ai (sub Nr 0))]
  refine yX {t:=DO 63 0 [(6,.ref (.ptr 1 0)),(7,.ref (.ptr 2 0)),(8,.ref (.ptr 3 0)),(46,aT (MN MM ((↑n:Int)+1)))],h:=v0,m:=[7]} M8 [.st (.mask [6,7,8,46])] [.b IN,hn,(?_:@Eq (Option (List iN)) (aN MK [.var [aT kk,aT ks,aT ko],.var (M7 (bB rs)),.var (M7 (dc OR)),.var (M7 (dP some)),.var [ab fs],.var [aT kk,aT ks,aT ko],.var [aT bv],.Ts,.loop N2 none 0 (DO 63 0 [(6,.ref (.ptr 1 0)),(7,.ref (.ptr 2 0)),(8,.ref (.ptr 3 0)),(15,Ot (Nl 251) [] [.ref (.ptr 4 0),.ref (.ptr 5 0),.ref (.ptr 6 0)])]) {toList:=[16]} (au (sub Nr 0)) (ai (sub Nr 0))] 3 (.ref (.ptr 1 (0+MP (↑n:Int)*1))) (aT (-1))) (O6 v0)),hn,(?_:@Eq (Option D) (aI MK v0 4 (.ref (.ptr 3 (0+MP (↑n:Int)*1)))) (O6 (iF b))),.a1 (.oh 10050 D.any (VE kk ks ko bv fs (M7 (bB (Oe rs n (-1)))) OR some N2 [])),.a1 (.ov 53 (iF b)),.b Of] (by subst v0;grind) (by subst v0;grind)<;>subst v0<;>(first|exact rY rfl hs (by simp)|exact Cg rfl hr (by simp))
 ·let v2:List D:=[.ref (.ptr 4 0),.ref (.ptr 5 0),.ref (.ptr 6 0)]
  let v3:=M7 (bB (Oe (Oe rs n (-1)) n (maxV g.value)))
  let v4:=M7 (dc OR)
  let v5:=M7 (dP some)
  let v0:List iN:=[.var [aT kk,aT ks,aT ko],.var (M7 (bB (Oe rs n (-1)))),.var v4,.var v5,.var [ab fs],.var [aT kk,aT ks,aT ko],.var [aT bv],.Ts,.loop N2 none 0 (DO 63 0 [(6,.ref (.ptr 1 0)),(7,.ref (.ptr 2 0)),(8,.ref (.ptr 3 0)),(15,Ot (Nl 251) [] v2)]) {toList:=[16]} (au (sub Nr 0)) (ai (sub Nr 0))]
  let v1:List iN:=[.var [aT kk,aT ks,aT ko],.var v3,.var v4,.var v5,.var [ab fs],.var [aT kk,aT ks,aT ko],.var [aT bv],.Ts,.loop N2 none 0 (DO 63 0 [(6,.ref (.ptr 1 0)),(7,.ref (.ptr 2 0)),(8,.ref (.ptr 3 0)),(15,Ot (Nl 251) [] v2)]) {toList:=[16]} (au (sub Nr 0)) (ai (sub Nr 0))]
  refine yX {t:=DO 63 0 [(6,.ref (.ptr 1 0)),(7,.ref (.ptr 2 0)),(8,.ref (.ptr 3 0)),(46,aT (MN MM ((↑n:Int)+1)))],h:=v1,m:=[7]} M8 [.st (.mask [6,7,8,46])] [.b IN,hn,(?_:@Eq (Option (List iN)) (aN MK [.var [aT kk,aT ks,aT ko],.var (M7 (bB rs)),.var v4,.var v5,.var [ab fs],.var [aT kk,aT ks,aT ko],.var [aT bv],.Ts,.loop N2 none 0 (DO 63 0 [(6,.ref (.ptr 1 0)),(7,.ref (.ptr 2 0)),(8,.ref (.ptr 3 0)),(15,Ot (Nl 251) [] v2)]) {toList:=[16]} (au (sub Nr 0)) (ai (sub Nr 0))] 3 (.ref (.ptr 1 (0+MP (↑n:Int)*1))) (aT (-1))) (O6 v0)),hn,(?_:@Eq (Option D) (aI MK v0 4 (.ref (.ptr 3 (0+MP (↑n:Int)*1)))) (O6 (iF b))),.a1 (.oh 10050 D.any (VE kk ks ko bv fs (M7 (bB (Oe rs n (-1)))) OR some N2 [])),.a1 (.ov 53 (iF b)),.b Of,hn,(?_:@Eq (Option D) (aI MK v0 3 (.ref (.ptr 2 (0+MP (↑n:Int)*8+3)))) (O6 (aT g.value))),hn,(?_:@Eq (Option (List iN)) (aN MK v0 3 (.ref (.ptr 1 (0+MP (↑n:Int)*1))) (aT (if true=true then if -1>g.value then -1 else g.value else if -1<g.value then -1 else g.value))) (O6 v1)),.a1 (.ov 58 (aT g.value)),.a1 (.oh 10060 D.any (VE kk ks ko bv fs v3 OR some N2 []))] (by subst v2 v3 v4 v5 v0 v1;grind) (by subst v2 v3 v4 v5 v0 v1;grind)<;>subst v2 v3 v4 v5 v0 v1<;>(first|exact rY rfl hs (by simp)|exact va_val rfl hb (by simp)|exact Cg rfl hr (by simp)|exact Cg rfl (by simpa using hr) (by simp))
theorem J2{kk ks ko bv:Int}{fs:List (List Dp)}{rs:List Int}{OR:List If}{some:List Bool}:(CW MK At [] false (sub Nr 2) (vlS kk ks ko bv fs rs OR some 1024) (.exit 4) {t:=DO 63 0 [(6,.ref (.ptr 1 0))],h:=VE kk ks ko bv fs (bB rs).flatten OR some .exhausted [],m:=[7]}):=by
 exact yx [.st (.mask [6])] [.e]
def Vg(s:VS)(rs:List Int)(n:Nat):List Int:=bif s.2.getD n false then (rs.set n (-1)).set n (maxV (s.1.getD n default).value) else rs.set n (-1)
def uE(s:VS)(rs:List Int):List Int:=(NC 1024).foldl (Vg s) rs
theorem vl_cw{kk ks ko bv:Int}{fs:List (List Dp)}{rs:List Int}{OR:List If}{some:List Bool}(ho:Sy (OR,some))(hr:rs.length=1024):
  CW MK At [] false (.loop (sub Nr 2)) (vlS kk ks ko bv fs rs OR some 0) (.exit 4) {t:=DO 63 0 [(6,.ref (.ptr 1 0))],h:=VE kk ks ko bv fs (bB (uE (OR,some) rs)).flatten OR some .exhausted [],m:=[7]}:=by
 have:=OS (P:=MK) (Γ:=At) (h0:=[]) (rd:=false) (c:=sub Nr 2) (σ:=List Int) (ρ:=Empty) (NC 1024) (λn rs=>.inl (Vg (OR,some) rs n))
  (λi rs=>vlS kk ks ko bv fs rs OR some (i:Int)) (.exit 4) (λrs=>{t:=DO 63 0 [(6,.ref (.ptr 1 0))],h:=VE kk ks ko bv fs (bB rs).flatten OR some .exhausted [],m:=[7]}) (λr=>r.elim)
  (λ_ rs=>rs.length=1024) (by simp) (λr=>r.elim) ?_ ?_ rs hr
 ·rw[aP (λrs n=>Vg (OR,some) rs n)] at this
  exact this
 ·intro i n rs hn hs
  obtain⟨hi,he⟩:=MR.1 hn
  simp at hi
  simp at he
  subst he
  have hb:OR[i]? = .some (OR.getD i default):=by
   rw[MT,Nh (by rw[ho.1];omega)];rfl
  have hc:some[i]? = .some (some.getD i false):=by
   rw[MT,Nh (by rw[ho.2];omega)];rfl
  refine⟨λs' h=>by cases h;unfold Vg;grind,?_⟩
  have key:=vl_b (kk:=kk) (ks:=ks) (ko:=ko) (bv:=bv) (fs:=fs) (rs:=rs) hb hc (by simp[TU];omega) (by omega) (by simp;omega)
  rw[wrap_i64 (by omega) (by omega)] at key
  simp only[af]
  unfold Vg
  grind
 ·intro rs _
  simp only[List.length_range]
  exact J2
theorem Ch{h:List iN}{l:List Int}(hb:h[1]? = some (.var (bB l).flatten))(hl:l.length=1024):aI MK h 221 (.ref (.ptr 1 0))=some (.agg (bB l).flatten) :=
 Ek (by kernel_rfl) (by rw[fQ (sz:=1) (bB l) (λr hr=>by grind)];simp only[N7,hl];kernel_rfl) hb
theorem uF{l:List Int}:(Nk (bB l).flatten).cells=some (bB l).flatten:=by
 have:(bB l).flatten.all D.one=true:=by
  rw[Ns]
  intro d hd
  obtain⟨r,hr,hd⟩:=List.mem_flatten.1 hd
  obtain⟨n,_,rfl⟩:=NK.1 hr
  simp only[List.mem_singleton] at hd
  subst hd;rfl
 simp[D.cells,this]
theorem st_int{h:List iN}{l:List Int}(hb:h[1]? = some (.var (bB l).flatten))(hl:l.length=1024):aN MK h 221 (.ref (.ptr 1 0)) (.agg (bB l).flatten)=some (h.set 1 (.var (bB l).flatten)) :=
 tR uF (by rw[fQ (sz:=1) (bB l) (λr hr=>by grind)];simp only[N7,hl];kernel_rfl) rfl hb
theorem og{s:VS}{rs:List Int}(h:rs.length=1024):(uE s rs).length=1024:=by
 unfold uE
 generalize NC 1024=l
 induction l generalizing rs with
 | nil=>exact h
 | cons n l ih=>exact ih (by unfold Vg;grind)
noncomputable abbrev vaE(kk ks ko bv:Int)(l:List If)(rs:List Int)(s:VS):List iN:=VE kk ks ko bv (l.map MY) (bB (uE (l.foldl (kU kk ks ko bv) s) rs)).flatten (l.foldl (kU kk ks ko bv) s).1 (l.foldl (kU kk ks ko bv) s).2 .exhausted []
theorem Ft{kk ks ko bv:Int}{l:List If}(hl:ah l){rs:List Int}{b0:List If}{s0:List Bool}(ho:Sy (b0,s0))(hf:Sy (l.foldl (kU kk ks ko bv) (b0,s0)))(hr:rs.length=1024)(e1:dm MK [.var [aT kk,aT ks,aT ko]] 221 (.ref (.ptr 1 0)) [.var [aT kk,aT ks,aT ko],.var (bB rs).flatten])
  (e2:dm MK [.var [aT kk,aT ks,aT ko],.var (bB rs).flatten] 292 (.ref (.ptr 2 0)) [.var [aT kk,aT ks,aT ko],.var (bB rs).flatten,.var (dc b0).flatten])
  (e3:dm MK [.var [aT kk,aT ks,aT ko],.var (bB rs).flatten,.var (dc b0).flatten] 293 (.ref (.ptr 3 0)) [.var [aT kk,aT ks,aT ko],.var (bB rs).flatten,.var (dc b0).flatten,.var (dP s0).flatten]):(CW MK At [] false (ar Nr) {t:=DO 63 0 [(0,ab (l.map MY)),(1,.agg [aT kk,aT ks,aT ko]),(2,aT bv)],h:=[],m:=[]} .ret {t:=DO 63 0 [(6,.ref (.ptr 1 0))],h:=vaE kk ks ko bv l rs (b0,s0),m:=[7]}):=by
 have Tv:=(@Fs (kk) (ks) (ko) (bv) (l) (hl) (rs) (b0) (s0) (ho))
 have W1:=(@vl_cw (kk) (ks) (ko) (bv) (ML MY l) (rs) ((Nx (kU kk ks ko bv) (b0,s0) l).fst) ((Nx (kU kk ks ko bv) (b0,s0) l).2) (hf) (hr))
 let v1:=Nx (kU kk ks ko bv) (b0,s0) l
 let v0:List iN:=[.var [aT kk,aT ks,aT ko],.var (M7 (bB (uE (v1.fst,v1.2) rs))),.var (M7 (dc v1.fst)),.var (M7 (dP v1.2)),.var [ab (ML MY l)],.var [aT kk,aT ks,aT ko],.var [aT bv],.Ts,.loop N2 none 0 (DO 63 0 [(6,.ref (.ptr 1 0)),(7,.ref (.ptr 2 0)),(8,.ref (.ptr 3 0)),(15,Ot (Nl 251) [] [.ref (.ptr 4 0),.ref (.ptr 5 0),.ref (.ptr 6 0)])]) {toList:=[16]} (au (sub Nr 0)) (ai (sub Nr 0))]
 let v2:List iN:=[.var [aT kk,aT ks,aT ko],.var (M7 (bB rs)),.var (M7 (dc b0))]
 let v3:List iN:=[.var [aT kk,aT ks,aT ko],.var (M7 (bB rs)),.var (M7 (dc b0)),.var (M7 (dP s0))]
 let v4:List iN:=[.var [aT kk,aT ks,aT ko],.var (M7 (bB rs))]
 let v5:=M7 (bB (uE v1 rs))
 refine yx [.st (.mask [6])] [((by subst v1 v0 v2 v3 v4 v5;grind):dm MK [.var [aT kk,aT ks,aT ko]] 221 (.ref (.ptr 1 0)) v4),((by subst v1 v0 v2 v3 v4 v5;grind):dm MK v4 292 (.ref (.ptr 2 0)) v2),((by subst v1 v0 v2 v3 v4 v5;grind):dm MK v2 293 (.ref (.ptr 3 0)) v3),.a1 (.oh 6 (.ref (.ptr 1 0)) v4),.a1 (.oh 7 (.ref (.ptr 2 0)) v2),.a1 (.oh 8 (.ref (.ptr 3 0)) v3),.a1 .inl,.s [6,7,8,15] Tv,.s [6,7,8,46] W1,(?_:@Eq (Option D) (aI MK v0 221 (.ref (.ptr 1 0))) (some (Nk v5))),(?_:@Eq (Option (List iN)) (aN MK v0 221 (.ref (.ptr 1 0)) (Nk v5)) (some [.var [aT kk,aT ks,aT ko],.var v5,.var (M7 (dc v1.fst)),.var (M7 (dP v1.2)),.var [ab (ML MY l)],.var [aT kk,aT ks,aT ko],.var [aT bv],.Ts,.loop N2 none 0 (DO 63 0 [(6,.ref (.ptr 1 0)),(7,.ref (.ptr 2 0)),(8,.ref (.ptr 3 0)),(15,Ot (Nl 251) [] [.ref (.ptr 4 0),.ref (.ptr 5 0),.ref (.ptr 6 0)])]) {toList:=[16]} (au (sub Nr 0)) (ai (sub Nr 0))])),.a1 (.ov 62 (Nk v5)),.a1 (.oh 10006 D.any (vaE kk ks ko bv l rs (b0,s0)))]<;>subst v1 v0 v2 v3 v4 v5<;>(first|exact Ch rfl (og hr)|exact st_int rfl (og hr))
theorem J3{n:Nat}{l:List Int}:D.UV n (.agg (bB l).flatten)=true:=oe (n:=n) (l:=l)
def vZ:VS:=(MU 1024 fz,MU 1024 false)
theorem vZ_ok:vZ.ok:=⟨by simp[vZ],by simp[vZ]⟩
theorem Ci{kk ks ko bv:Int}{l:List If}{s:VS}(h:s.ok):(l.foldl (kU kk ks ko bv) s).ok:=by
 induction l generalizing s with
 | nil=>exact h
 | cons f l ih=>exact ih (υ f h)
def cM(kk ks ko bv:Int)(l:List If):List Int:=uE (l.foldl (kU kk ks ko bv) vZ) (MU 1024 0)
theorem fT{kk ks ko bv:Int}{l:List If}:(cM kk ks ko bv l).length=1024:=og (by simp)
theorem Fu{kk ks ko bv:Int}{l:List If}(hl:ah l):Ev MK At 127 [ab (l.map MY),.agg [aT kk,aT ks,aT ko],aT bv] [] (.agg (bB (cM kk ks ko bv l)).flatten) (qY [7] (vaE kk ks ko bv l (MU 1024 0) vZ)):=by
 have hw:=Ft (kk:=kk) (ks:=ks) (ko:=ko) (bv:=bv) hl (rs:=MU 1024 0) (b0:=vZ.1) (s0:=vZ.2) vZ_ok (Ci vZ_ok) (by simp) (by unfold dm;kernel_rfl) (by unfold dm vZ;kernel_rfl) (by unfold dm vZ;kernel_rfl)
 refine Ev.Β (fn:=Nr) (by kernel_rfl) (by kernel_rfl) hw ?_
 have hc:aI MK (qY [7] (vaE kk ks ko bv l (MU 1024 0) vZ)) 221 (.ref (.ptr 1 0))=some (.agg (bB (cM kk ks ko bv l)).flatten):=Ch rfl fT
 have hr:bz MK (DO 63 0 [(6,.ref (.ptr 1 0))]) (qY [7] (vaE kk ks ko bv l (MU 1024 0) vZ)) Nr.results.toList=some [.agg (bB (cM kk ks ko bv l)).flatten]:=by
  show(match j8 MK (DO 63 0 [(6,.ref (.ptr 1 0))]) (qY [7] (vaE kk ks ko bv l (MU 1024 0) vZ)) (.cell 6 221),some [] with
   | some d,some ds=>some (d::ds)
   | _,_=>none)=_
  have:j8 MK (DO 63 0 [(6,.ref (.ptr 1 0))]) (qY [7] (vaE kk ks ko bv l (MU 1024 0) vZ)) (.cell 6 221)=some (.agg (bB (cM kk ks ko bv l)).flatten):=hc
  rw[this]
 simp only[finF,pre]
 rw[hr]
 rfl
theorem Cj{kk ks ko bv:Int}{l:List If}(hl:ah l)(h:List iN):Ev MK At 127 [ab (l.map MY),.agg [aT kk,aT ks,aT ko],aT bv] h (.agg (bB (cM kk ks ko bv l)).flatten) h :=
 Ev.YI rfl (by have:=Ev.trim (h:=[]) (d:=.agg (bB (cM kk ks ko bv l)).flatten) J3 rfl (Fu (kk:=kk) (ks:=ks) (ko:=ko) (bv:=bv) hl);grind) h
abbrev ad(rs:List (List Dp)):List (List D):=rs.map (ML D.p)
theorem aX(rs:List (List Dp))(f:Ref->D):(ad rs).map (Nm f)=ad rs:=ak f rs
theorem Hw(k:Nat):∀r:List Dp,NS k (r.map .p)=true
 | []=>rfl
 | _::r=>by simp[NS,D.UV,Hw k r]
theorem bZ(rs:List (List Dp))(k:Nat):(ad rs).all (NS k)=true:=by
 rw[Ns]
 intro r hr
 obtain⟨x,_,rfl⟩:=NK.1 hr
 exact Hw k x
theorem Ck{h:List iN}{l r:List Int}(hb:h[1]? = some (.var (bB r).flatten))(hr:r.length=1024)(hl:l.length=1024):aN MK h 221 (.ref (.ptr 1 0)) (.agg (bB l).flatten)=some (h.set 1 (.var (bB l).flatten)) :=
 tR uF (by rw[fQ (sz:=1) (bB l) (λr hr=>by grind)];simp only[N7,hl];kernel_rfl)
  (by rw[fQ (sz:=1) (bB l) (λr hr=>by grind),fQ (sz:=1) (bB r) (λr hr=>by grind)];simp[hl,hr]) hb
structure UL where
 bV:Int
 value:Int
 deriving Inhabited,DecidableEq
def UL.row(p:UL):List Dp:=[vi p.bV,vi p.value]
theorem Cl{h:List iN}{off n:Nat}{l:List Int}{v:Int}(hb:h[1]? = some (.var (bB l).flatten))(hs:l[n]? = some v)(ho:off=n*1):aI MK h 3 (.ref (.ptr 1 off))=some (aT v):=by
 subst ho
 exact nQ (sz:=1) (j:=0) (row:=[aT v]) (by kernel_rfl) (by kernel_rfl) hb (λr hr=>by grind) (by simp[hs]) rfl
noncomputable abbrev ptH(kk ks ko:Int)(rs:List Int)(l:List UL):List iN:=[.var [aT kk,aT ks,aT ko],.var (bB rs).flatten,.bY (ad (l.map UL.row)) 0 2]
noncomputable abbrev ptS(kk ks ko to:Int)(rs:List Int)(l:List UL)(x:Int):AS:={t:=DO 38 0 [(3,aT to),(10,.ref (.bY 2 0)),(11,.ref (.ptr 1 0)),(12,aT x)],h:=ptH kk ks ko rs l,m:=[]}
theorem oi(f:Ref->D)(l:List Int):Nm f (bB l).flatten=(bB l).flatten:=by
 induction l with
 | nil=>rfl
 | cons n l ih=>simp only[bB,Pr,QA,List.cons_append,List.nil_append,Nm,D.Tz] at ih ⊢;rw[ih]
theorem x6{n:Nat}{l:List Int}{f:Ref->D}:MZ n (.var (Nm f (bB l).flatten))=true:=by rw[oi];exact oe
theorem b9{n:Nat}{rs:List (List Dp)}{e sz:Nat}:MZ n (.bY (ad rs) e sz)=true:=bZ rs n
theorem iV(n:Nat)(rs:List (List Dp))(e sz:Nat):MZ n (.bY (ad rs) e sz)=true:=b9
theorem vM(rs:List (List Dp))(a b c:Nat):(ad rs).map (Nm (ax a b c))=ad rs:=ak (ax a b c) rs
theorem iVa(n:Nat)(rs:List (List Dp))(b:List (List D))(e sz:Nat)(h:b.all (NS n)=true:=by first|rfl|exact bZ _ _):MZ n (.bY (ad rs++b) e sz)=true:=(List.all_append).trans (by rw[bZ rs n,h];rfl)
theorem vMa(rs:List (List Dp))(q:List (List D))(a b c:Nat)(h:q.map (Nm (ax a b c))=q:=by first|rfl|exact ak _ _):(ad rs++q).map (Nm (ax a b c))=ad rs++q:=O8.trans (by rw[ak (ax a b c) rs,h])
def ZK(v:Int)(n:Nat)(l:List UL):List UL:=bif Zd (v>=0) then l++[⟨(n:Int),v⟩] else l
theorem wj(l:List UL)(n:Nat)(v:Int):ad (l.map UL.row)++[[aT (n:Int),aT v]]=ad ((l++[UL.mk (n:Int) v]).map UL.row):=by simp[UL.row]
theorem pt_b{kk ks ko to:Int}{rs:List Int}{l:List UL}{n:Nat}{v:Int}(hv:rs[n]? = .some v)(hn:TU (n:Int) 1024=true)(hl:l.length<=2000)(IN:Zd ((n:Int)<if false=true then if 1024>to then 1024 else to else if 1024<to then 1024 else to)=true)(hw:MM.wrap ((n:Int)+1)=((n+1:Nat):Int)):(CW MK At [] false (sub SO 0) (ptS kk ks ko to rs l (n:Int)) .normal (ptS kk ks ko to rs (ZK v n l) ((n+1:Nat):Int))):=by
 cases Of:Zd (v>=0)
 ·refine yX {t:=DO 38 0 [(3,aT to),(10,.ref (.bY 2 0)),(11,.ref (.ptr 1 0)),(12,aT (MN MM ((↑n:Int)+1)))],h:=[.var [aT kk,aT ks,aT ko],.var (Nm (ax 2 0 0) (M7 (bB rs))),.bY (ad (ML UL.row l)) 0 2],m:=[]} M8 [.st (.mask [3,10,11,12]),.st (.Vz 2 0),.st (.TD 3)] [.b IN,hn,(?_:@Eq (Option D) (aI MK [.var [aT kk,aT ks,aT ko],.var (M7 (bB rs)),.bY (ad (ML UL.row l)) 0 2] 3 (.ref (.ptr 1 (0+MP (↑n:Int)*1)))) (some (aT v))),.a1 (.ov 27 (aT v)),.b Of,(?_:ML (Nm (ax 2 0 0)) (ad (ML UL.row l))=ad (ML UL.row l)),(rfl:MZ 3 (match 0==2 with|true=>.bY (ad (ML UL.row l)) 0 2|false=>ST (ax 2 0 0) (.var [aT kk,aT ks,aT ko]))=true),(?_:MZ 3 (match 0+1==2 with|true=>.bY (ad (ML UL.row l)) 0 2|false=>ST (ax 2 0 0) (.var (M7 (bB rs))))=true),(?_:MZ 3 (match 0+1+1==2 with|true=>.bY (ad (ML UL.row l)) 0 2|false=>ST (ax 2 0 0) (.bY (ad (ML UL.row l)) 0 2))=true)] (by grind) (by(simp[hw,ZK,Of,oi];done))<;>(first|exact Cl rfl hv (by simp)|exact aX _ _|exact x6|exact b9)
 ·let v0:List iN:=[.var [aT kk,aT ks,aT ko],.var (M7 (bB rs)),.bY (ad (ML UL.row l)) 0 2]
  refine yX {t:=DO 38 0 [(3,aT to),(10,.ref (.bY 2 0)),(11,.ref (.ptr 1 0)),(12,aT (MN MM ((↑n:Int)+1)))],h:=[.var [aT kk,aT ks,aT ko],.var (Nm (ax 2 1 0) (M7 (bB rs))),.bY (ad (ML UL.row l)++[[aT (↑n:Int),aT v]]) 0 2],m:=[]} M8 [.st (.mask [3,10,11,12]),.st (.Vz 2 0),.st (.TD 3)] [.b IN,hn,(?_:@Eq (Option D) (aI MK v0 3 (.ref (.ptr 1 (0+MP (↑n:Int)*1)))) (some (aT v))),.a1 (.ov 27 (aT v)),.b Of,hn,(?_:@Eq (Option D) (aI MK v0 3 (.ref (.ptr 1 (0+MP (↑n:Int)*1)))) (some (aT v))),((by subst v0;grind [bf,D.one,OM,Tw]):(NH [[aT (↑n:Int),aT v]] (bf 2)&&Tw (MO (ad (ML UL.row l))+MO [[aT (↑n:Int),aT v]]) 16)=true),(?_:ML (Nm (ax 2 1 0)) (ad (ML UL.row l)++[[aT (↑n:Int),aT v]])=ad (ML UL.row l)++[[aT (↑n:Int),aT v]]),pr [[aT (↑n:Int),aT v]],(rfl:MZ 3 (match 0==2 with|true=>.bY (ad (ML UL.row l)++[[aT (↑n:Int),aT v]]) 0 2|false=>ST (ax 2 1 0) (.var [aT kk,aT ks,aT ko]))=true),(?_:MZ 3 (match 0+1==2 with|true=>.bY (ad (ML UL.row l)++[[aT (↑n:Int),aT v]]) 0 2|false=>ST (ax 2 1 0) (.var (M7 (bB rs))))=true),(?_:MZ 3 (match 0+1+1==2 with|true=>.bY (ad (ML UL.row l)++[[aT (↑n:Int),aT v]]) 0 2|false=>ST (ax 2 1 0) (.bY (ad (ML UL.row l)++[[aT (↑n:Int),aT v]]) 1 2))=true),.a1 (.ov 33 (aT v))] (by subst v0;grind) (by subst v0;(simp only[hw,ZK,Of,cond_true,wj,oi];first|done|rfl))<;>subst v0<;>(first|exact Cl rfl hv (by simp)|(rw[wj];exact aX _ _)|exact x6|(rw[wj];exact b9))
theorem J4{kk ks ko to:Int}{rs:List Int}{l:List UL}{x:Int}(IN:Zd (x<if false=true then if 1024>to then 1024 else to else if 1024<to then 1024 else to)=false):(CW MK At [] false (sub SO 0) (ptS kk ks ko to rs l x) (.exit 0) {t:=DO 38 0 [(10,.ref (.bY 2 0))],h:=ptH kk ks ko rs l,m:=[]}):=by
 exact yx [.st (.mask [10])] [.b IN]
def Ad(to:Int):Int:=if to<1024 then to else 1024
theorem Cm(to:Int):(if false=true then if 1024>to then 1024 else to else if 1024<to then 1024 else to)=Ad to:=by
 unfold Ad;grind
def Hx(rs:List Int)(x to:Int):List UL:=(Oo x.toNat (Ad to-x).toNat).foldl (λl n=>ZK (rs.getD n 0) n l) []
theorem Cn(v:Int)(n:Nat)(l:List UL):(ZK v n l).length<=l.length+1:=by unfold ZK;grind
theorem pt_cw{kk ks ko to:Int}{rs:List Int}(hr:rs.length=1024){x:Int}(hx:0<=x):
  CW MK At [] false (.loop (sub SO 0)) (ptS kk ks ko to rs [] x) (.exit 0) {t:=DO 38 0 [(10,.ref (.bY 2 0))],h:=ptH kk ks ko rs (Hx rs x to),m:=[]}:=by
 have Wu:((x.toNat:Nat):Int)=x:=by omega
 have hh:Ad to<=1024:=by unfold Ad;split<;>omega
 have:=OS (P:=MK) (Γ:=At) (h0:=[]) (rd:=false) (c:=sub SO 0) (σ:=List UL) (ρ:=Empty) (Oo x.toNat (Ad to-x).toNat) (λn l=>.inl (ZK (rs.getD n 0) n l))
  (λi l=>ptS kk ks ko to rs l (x+(i:Int))) (.exit 0) (λl=>{t:=DO 38 0 [(10,.ref (.bY 2 0))],h:=ptH kk ks ko rs l,m:=[]}) (λr=>r.elim)
  (λi l=>l.length<=i) (by simp) (λr=>r.elim) ?_ ?_ [] (by simp)
 ·rw[aP (λl n=>ZK (rs.getD n 0) n l)] at this
  grind [bu,Hx]
 ·intro i n l hn hs
  obtain⟨hi,he⟩:=MR.1 hn
  simp only[Tg] at hi
  simp at he
  have IN:(n:Int)<Ad to:=by omega
  have hb:rs[n]? = some (rs.getD n 0):=by
   rw[MT,Nh (by rw[hr];omega)];rfl
  refine⟨λs' h=>by cases h;have:=Cn (rs.getD n 0) n l;omega,?_⟩
  have key:=pt_b (kk:=kk) (ks:=ks) (ko:=ko) (to:=to) (l:=l) hb (by simp[TU];omega) (by omega) (by grind [Cm]) (by rw[wrap_i64 (by omega) (by omega)];omega)
  have e1:x+(i:Int)=(n:Int):=by omega
  have e2:x+((i+1:Nat):Int)=((n+1:Nat):Int):=by omega
  simp only[af,e1,e2]
  exact key
 ·intro l _
  refine J4 ?_
  grind [Cm]
def ptLo(Do:Int):Int:=if true=true then if Do>0 then Do else 0 else if Do<0 then Do else 0
def cy(kk ks ko Do to bv:Int)(l:List If):List UL:=Hx (cM kk ks ko bv l) (ptLo Do) to
theorem Co(Do:Int):0<=(if true=true then if Do>0 then Do else 0 else if Do<0 then Do else 0):=by grind
theorem Fv{kk ks ko Do to bv:Int}{l:List If}(hl:ah l){r0:List Int}(e1:dm MK [.var [aT kk,aT ks,aT ko]] 221 (.ref (.ptr 1 0)) [.var [aT kk,aT ks,aT ko],.var (bB r0).flatten])(h0:r0.length=1024)(h:List iN):(Ev MK At 60 [ab (l.map MY),.agg [aT kk,aT ks,aT ko],aT Do,aT to,aT bv] h (ab ((cy kk ks ko Do to bv l).map UL.row)) h):=by
 have Tv:=(@pt_cw (kk) (ks) (ko) (to) (cM kk ks ko bv l) (by first|assumption|rfl|exact fT|exact Co _|exact Ck rfl h0 fT|(simp;done)) (if true=true then if Do>0 then Do else 0 else if Do<0 then Do else 0) (by grind))
 let v0:List iN:=[.var [aT kk,aT ks,aT ko],.var (M7 (bB r0))]
 let v1:=M7 (bB (cM kk ks ko bv l))
 let v2:=ML UL.row (cy kk ks ko Do to bv l)
 refine y0 [.v (@Cj kk ks ko bv l hl ([.var [aT kk,aT ks,aT ko]])),((by subst v0 v1 v2;grind):dm MK [.var [aT kk,aT ks,aT ko]] 221 (.ref (.ptr 1 0)) v0),(?_:@Eq (Option (List iN)) (aN MK v0 221 (.ref (.ptr 1 0)) (Nk v1)) (some [.var [aT kk,aT ks,aT ko],.var v1])),.a1 (.oh 11 (.ref (.ptr 1 0)) v0),.a1 (.oh 10011 D.any [.var [aT kk,aT ks,aT ko],.var v1]),.n 1,.o (.ZN 10 2),.s [3,10,11,12] Tv,(?_:ad (ML UL.row (Hx (cM kk ks ko bv l) (if true=true then if Do>0 then Do else 0 else if Do<0 then Do else 0) to))=ML (λx=>ML D.p x) v2),.o (.Vw 2 v2)] h<;>subst v0 v1 v2<;>(first|rfl|exact Ck rfl h0 fT)
theorem uG{kk ks ko Do to bv:Int}{l:List If}(hl:ah l)(h:List iN):Ev MK At 60 [ab (l.map MY),.agg [aT kk,aT ks,aT ko],aT Do,aT to,aT bv] h (ab ((cy kk ks ko Do to bv l).map UL.row)) h :=
 Fv hl (r0:=MU 1024 0) (by unfold dm;kernel_rfl) (by simp) h
end Go.Vi
open Go Go.Proofs Go.Shelf Go.RowKit Go.Sort
namespace Go.Vi
set_option maxRecDepth 100000
set_option maxHeartbeats 4000000
abbrev r9{α:Type}(enc:α->List Value)(l:List α):List (List D):=l.map λx=>(enc x).map lit
theorem kV{w:World}{av:Nat->Prop}{loc:Loc}{h:List iN}:∀{vs ys:List Value},AT w av loc h (vs.map lit) ys->ys=vs
  | [],[],_=>rfl
  | [],_::_,r=>by simp[AT] at r
  | _::_,[],r=>by simp[AT] at r
  | v::vs,y::ys,r=>by
    simp[AT] at r
    have h1:y=v:=by simpa[Rel,TB] using r.1
    rw[h1,kV r.2]
theorem fU{w:World}{av:Nat->Prop}{loc:Loc}{h:List iN}:∀{vs:List Value},AT w av loc h (vs.map lit) vs
  | []=>trivial
  | v::vs=>by
    simp[AT]
    exact⟨by simp[Rel,TB],fU⟩
theorem qq{α:Type}(enc:α->List Value)(l:List α):(r9 enc l).flatten=((l.map enc).flatten).map lit:=by
  induction l with
  | nil=>rfl
  | cons a l ih=>grind
theorem kW{α:Type}[Inhabited α](enc:α->List Value)(k:Nat)(hk:∀x,(enc x).length=k)(l:List α):(flatK enc k l.toArray).toList=(l.map enc).flatten:=by
  have key:∀(l:List α) (t:Nat),t<l.length*k->((l.map enc).flatten)[t]? = some ((enc (l.toArray[t / k]!))[t % k]!):=by
    intro l
    induction l with
    | nil=>grind
    | cons a l ih =>
      intro t h
      simp only[Pr,QA]
      rcases Nat.lt_or_ge t k with IN|hge
      · rw[NW (by grind),Nat.div_eq_of_lt IN,Nat.mod_eq_of_lt IN]
        grind
      · have k0 : 0 < k := by rcases Nat.eq_zero_or_pos k with h0 | h0
                              · grind
                              · exact h0
        rw[NJ (by grind),hk]
        obtain⟨u,rfl⟩:∃u,t=u+k:=⟨t-k,by omega⟩
        have hu:u<l.length*k:=by simp only[N3,Nat.add_mul,Nat.one_mul] at h;omega
        simp_all
  apply P6
  intro t
  have hlen:((l.map enc).flatten).length=l.length*k:=by
    clear key
    induction l with
    | nil=>simp
    | cons a l ih=>grind
  by_cases ht:t<l.length*k
  · rw[key l t ht]
    simp[flatK,ht]
  grind [flatK]
theorem qr{w w':World}(h1:w.heap.size<=w'.heap.size)(h2:∀k,k<w.heap.size->w'.heap[k]? = w.heap[k]?)(h3:w'.tape=w.tape/\w'.os=w.os/\w'.output=w.output/\w.drawn<=w'.drawn):
    ∃q os',w'=Qp (w.drewN q) os':=by
  refine⟨w'.drawn-w.drawn,w'.heap.extract w.heap.size w'.heap.size,?_⟩
  obtain⟨heap,tape,drawn,os,output⟩:=w
  obtain⟨heap',tape',drawn',os',output'⟩:=w'
  obtain⟨rfl,rfl,rfl,h4⟩:=h3
  simp only[Qp,World.drewN] at h1 h2 h4 ⊢
  congr 1
  · grind
  · omega
theorem zG{P:Program}{Γ:ao}{O:Nat->Prop}{α:Type}[Inhabited α]{enc:α->List Value}{k g:Nat}{cf:α->α->Int}{w:World}{loc:Loc}{h:List iN}(R:TL Γ O w loc h){oR:Nat}(hblk:On O loc h oR)
    (hE:∀x y,Ev P Γ g [.agg ((enc x).map lit),.agg ((enc y).map lit)] [] (aT (cf x y)) []) (o size:Nat):CmpLays P g #[] enc k cf oR o size w:=by
  intro m os dk hs x y
  generalize hW:sortWorldK enc k w oR o m dk os=W
  have hb:oR<w.heap.size:=by
    rcases hblk with ho|ho
    · exact R.We oR ho
    · exact(R.V3 oR ho).1
  have XS:∀b off v,¬On O loc h b->w.cell? ⟨b,off,none⟩=some v->W.cell? ⟨b,off,none⟩=some v/\¬On (λ_=>False) loc [] b:=by
    intro b off v hn hc
    have UQ:b≠oR:=λe=>hn (e▸hblk)
    refine⟨?_,λho=>ho.elim id (λh=>absurd h dq)⟩
    subst hW
    have IN:b<w.heap.size:=by
      simp only[Ri] at hc
      split at hc
      · grind
      · simp at hc
    have:(sortWorldK enc k w oR o m dk os).heap[b]? = w.heap[b]?:=by
      unfold sortWorldK
      rw[Pu _ _ (by grind [putRowK,NY,N0,N6])]
      simp[putRowK,NY,N0,N6,QX,Ne.symm UQ]
    simp only[Ri,this]
    exact hc
  have R0:TL Γ (λ_=>False) W loc []:=by
    refine⟨λoR ho=>absurd ho dq,λoR ho=>ho.elim,λb b' x x' k c c' hb=>by simp at hb,λb x hb=>by simp at hb,λg cs hg=>?_⟩
    exact T9.mono XS g 0 cs (R.Xk g cs hg)
  have ra:AT W (On (λ_=>False) loc []) loc [] [.agg ((enc x).map lit),.agg ((enc y).map lit)] [.agg (enc x).toArray,.agg (enc y).toArray]:=by
    refine⟨⟨_,rfl,fU⟩,⟨_,rfl,fU⟩,trivial⟩
  refine QP (callsIn_wide.1 (hE x y (λ_=>False) W loc _ R0 ra)) ?_
  rintro e w' ⟨v,d2,h2,l',rfl,⟨rfl,rfl⟩,R',E',rd⟩
  refine⟨?_,qr E'.size (λb hb=>E'.same b hb dq) E'.tape⟩
  have:v=.int .i64 (cf x y):=by simpa[Rel,TB] using rd
  rw[this]
theorem uH{P:Program}{ρ:Ren}{Γ:ao}(ok:Vl P)(L:SlLaysF0.n6 P ρ){α:Type}[Inhabited α]{enc:α->List Value}{k:Nat}(aE:∀w,(isAgg (ρ.t 24)).run P w=.ok true w)(zE:∀w,(Go.sizeOf (ρ.t 24)).run P w=.ok k w)(hk:∀x,(enc x).length=k)(h1:∀x,∀v∈enc x,v.oneCell'=true)
    {cf:α->α->Int} (hO:Sort.SWO (ltOf cf)) {g:Nat} (hg:eP P g=true) (hE:∀x y,Ev P Γ g [.agg ((enc x).map lit),.agg ((enc y).map lit)] [] (aT (cf x y)) [])
    {h:List iN} {b e:Nat} {l:List α} (hb:h[b]? = some (.bY (r9 enc l) e k)) (hl:l.length<4611686018427387904) (hT:∀x∈l,∀y∈l,(ltOf cf) x y=false->(ltOf cf) y x=false->x=y) :
    Ev P Γ (ρ.f 6) [.ref (.bY b e),.p (.v (.func (.func g) #[] #[]))] h (.Tt []) (h.set b (.bY (r9 enc (l.mergeSort λx y=>!(ltOf cf) y x)) e k)):=by
  intro O w loc vs R ra
  obtain⟨y,rfl⟩:∃y,vs=[y,.func (.func g) #[] #[]]:=by
    match vs,ra with
    | [y, z], r => exact ⟨y, by have : z = .func (.func g) #[] #[] := by simpa [Rel, TB, AT] using r.2
                                rw[this]⟩
    | [],r=>simp[AT] at r
    | [_],r=>simp[AT] at r
    | _::_::_::_,r=>simp[AT] at r
  have r:=ra.1
  simp only[Rel,NE,hb] at r
  have hv:=r.2.2 trivial
  have B:=R.oR b _ hb
  simp only[Tl] at B
  have hlen:(r9 enc l).length=l.length:=by simp[r9]
  refine callsIn_wide.2 ?_
  cases U8:loc b with
  | none =>
    rw[U8] at hv B
    obtain⟨hn,rfl⟩:=hv
    have Tv:l=[]:=by simpa[r9] using hn
    subst Tv
    refine QP (AnyF.slices_SortFunc_none L none 0 _ w) ?_
    rintro e' w' ⟨rfl,rfl⟩
    have hset:h.set b (.bY (r9 enc (([]:List α).mergeSort λx y=>!(ltOf cf) y x)) e k)=h:=by
      apply P6
      intro i
      by_cases hi:i=b
      · subst hi;rw[aY hb,hb];simp
      · grind
    refine⟨.tuple #[],.Tt [],_,loc,rfl,⟨rfl,rfl⟩,?_,?_,?_⟩
    · grind
    · rw[hset];exact Ext.refl _ _ _
    · simp[Rel,AT]
  | some p =>
    obtain⟨oR,cp⟩:=p
    rw[U8] at hv B
    obtain⟨o,cap,rfl,rfl,Xs⟩:=hv
    simp only at B
    obtain⟨o',cap',rc,c,T,fr,ys,W0,hcs,hle,X1,XO,Xp,pr,rest,hpr,Vs⟩:=B
    obtain⟨rfl,rfl⟩:=cI rc
    rw[qq] at Xp
    have hys:=kV Xp
    subst hys
    have hblk:oR<w.heap.size:=(PH.1 W0).1
    have Wl:On O loc h oR:=.inr ⟨b,_,X9 o cap,hb,by simp,U8⟩
    have hH:HoldsK enc k w oR o l.toArray:=by
      intro j hj
      have hj':j<l.length*k:=by simpa using hj
      have hc:c[o+j]? = some (flatK enc k l.toArray)[j]!:=by
        rw[<-NU,Vs,<-kW enc k hk l,<-hpr,iD,NW (by simpa using hj')]
        rw[NU,getElem!_pos _ j (by simpa using hj')]
        exact Array.getElem?_eq_getElem _
      constructor
      · simp[Ri,W0,hc]
      · have:=X1 (o+j) (PH.1 hc).1
        obtain⟨lo,hi⟩:=fr
        simp only[World.frozen?,W0]
        grind
    have eg:∀args w,(callFunc g args).run P w=.ok (.enter g args) w:=λargs w=>by
      unfold eP at hg
      split at hg
      · rename_i fn hfn;exact VM ok hfn hg args w
      · simp at hg
    rw[hlen]
    refine QP (AnyQ.slices_SortFunc L k aE zE enc hk h1 cf hO g #[] oR o cap l.toArray w eg (zG R Wl hE o _) hH hblk hl) ?_
    rintro e' w' ⟨rfl,d',n,os,hP,hS,rfl⟩
    have Vv:d'.toList=l.mergeSort λx y=>!(ltOf cf) y x:=by
      obtain⟨hsz',_,zbt⟩:=hP
      have e1:d'.extract 0 l.toArray.size=d':=by rw[<-hsz'];exact S6
      rw[e1,S6] at zbt
      refine List.Perm.eq_of_pairwise (le:=λx y=>(!(ltOf cf) y x)=true) ?_ ?_ ?_ (zbt.trans (S7 _ _).symm)
      · intro a b' ha YG h1 h2
        simp at h1 h2
        have ha':a∈l:=by simpa using zbt.mem_iff.1 ha
        have YY:b'∈l:=(S7 _ _).mem_iff.1 YG
        grind
      · rw[List.pairwise_iff_getElem]
        intro i j hi hj hij
        have Ι:i<d'.size:=by simpa using hi
        have hj':j<d'.size:=by simpa using hj
        have:=hS i j (Nat.zero_le _) hij (by omega)
        grind
      · exact List.pairwise_mergeSort (λa b c h1 h2 => by
          simp at h1 h2 ⊢
          exact hO.ntrans _ _ _ h2 h1) (λa b=>by
          cases hab:(ltOf cf) b a
          · simp
          · have : (ltOf cf) a b = false:=by
              cases hba:(ltOf cf) a b
              · rfl
              · have:=hO.trans _ _ _ hab hba
                grind [hO.irrefl]
            simp[this]) l
    have hdA:d'=(l.mergeSort λx y=>!(ltOf cf) y x).toArray:=by rw[<-Vv]
    have hlm:(l.mergeSort λx y=>!(ltOf cf) y x).length=l.length:=by simp
    subst hdA
    clear hP hS Vv
    generalize (l.mergeSort λx y=>!(ltOf cf) y x)=m at hlm ⊢
    have Zb:(sortWorldK enc k w oR o n m.toArray os).heap[oR]? = some (.cells (Ow id o (flatK enc k m.toArray) c) T fr):=by
      unfold sortWorldK
      rw[Pu _ _ (by grind [putRowK,NY,N0,N6])]
      simp[putRowK,NY,N0,N6,QX,W0,Sort.onCells]
    have Y6:((l.map enc).flatten).length=l.length*k:=by rw[<-kW enc k hk];simp
    have Xb:(Ow id o (flatK enc k m.toArray) c).toList=pr++(m.map enc).flatten++rest:=by
      unfold Ow
      rw[Array.toList_mapIdx,Vs,<-kW enc k hk m]
      apply P6
      intro i
      rw[List.getElem?_mapIdx]
      by_cases hp:i<pr.length
      · grind
      obtain⟨q,rfl⟩:∃q,i=pr.length+q:=⟨i-pr.length,by omega⟩
      rw[iD,iD]
      subst hpr
      by_cases hi:q<l.length*k
      · rw[NW (by grind),NW (by simpa[hlm] using hi)]
        simp_all
      · rw[NJ (by grind),NJ (by simp_all)]
        simp[hi,hlm,Y6]
    have key:=R.step (w':=sortWorldK enc k w oR o n m.toArray os) (l':=loc) (h':=h.set b (.bY (r9 enc m) e k)) b (.bY (r9 enc m) e k)
      (by simp[sortWorldK,Qp,putRowK,NY,N0,N6]) ⟨rfl,rfl,rfl,by simp[sortWorldK,Qp,putRowK,NY,N0,N6]⟩ (λi hi=>bG _ _ hi) (aY hb) (λ_ _=>rfl)
      (λz hz=>by rw[hb] at hz;cases hz;exact⟨⟨Nat.le_refl _,λ_=>by grind,rfl⟩,λ_=>rfl⟩)
      (λk' VQ Ve=>by
        have hkb:k'≠oR:=λe=>Ve _ (X9 o cap) hb (by simp) (by rw[U8,e])
        unfold sortWorldK
        rw[Pu _ _ (by grind [putRowK,NY,N0,N6])]
        grind [putRowK,NY,N0,N6])
      (λk' c' VQ=>.inl ⟨_,c',hb,by simp,VQ⟩)
      (λE=>by
        simp only[Tl,U8]
        refine⟨o,cap,rfl,_,T,fr,(m.map enc).flatten,Zb,?_,?_,?_,?_,?_,pr,rest,hpr,Xb⟩
        · grind [Ow]
        · grind
        · grind [Ow]
        · grind
        · rw[qq];exact fU)
    grind [Rel,AT]
end Go.Vi
open Go Go.Proofs Go.Shelf
namespace Go.Proofs
def Tryz.Z3:Go.Shelf.Ren:=⟨fun|6=>164|15=>109|14=>233|28=>186|29=>187|20=>289|21=>290|22=>291|23=>292|24=>293|25=>294|26=>295|27=>296|46=>322|47=>262|48=>263|49=>323|50=>324|57=>337|n=>n,fun|22=>104|24=>170|25=>243|3=>3|39=>196|0=>0|53=>263|55=>265|4=>4|46=>257|45=>256|50=>191|5=>5|9=>9|66=>334|70=>338|76=>361|77=>362|n=>n,fun|n=>n⟩
theorem Tryz.sortAtt:Go.Proofs.SlLaysF0.n6 MK Tryz.Z3:={
 mixed:=by kernel_rfl
 f6:=⟨Tryz.f164.name,by decide,Tryz.func164.trans (congrArg some (by kernel_rfl))⟩
 f14:=⟨Tryz.f233.name,by decide,Tryz.func233.trans (congrArg some (by kernel_rfl))⟩
 f15:=Tryz.func109.trans (congrArg some (by kernel_rfl))
 f20:=⟨Tryz.f289.name,by decide,Tryz.func289.trans (congrArg some (by kernel_rfl))⟩
 f21:=⟨Tryz.f290.name,by decide,Tryz.func290.trans (congrArg some (by kernel_rfl))⟩
 f22:=⟨Tryz.f291.name,by decide,Tryz.func291.trans (congrArg some (by kernel_rfl))⟩
 f23:=⟨Tryz.f292.name,by decide,Tryz.func292.trans (congrArg some (by kernel_rfl))⟩
 f24:=⟨Tryz.f293.name,by decide,Tryz.func293.trans (congrArg some (by kernel_rfl))⟩
 f25:=⟨Tryz.f294.name,by decide,Tryz.func294.trans (congrArg some (by kernel_rfl))⟩
 f26:=⟨Tryz.f295.name,by decide,Tryz.func295.trans (congrArg some (by kernel_rfl))⟩
 f27:=⟨Tryz.f296.name,by decide,Tryz.func296.trans (congrArg some (by kernel_rfl))⟩
 f28:=Tryz.func186.trans (congrArg some (by kernel_rfl))
 f29:=Tryz.func187.trans (congrArg some (by kernel_rfl))
 f46:=⟨Tryz.f322.name,by decide,Tryz.func322.trans (congrArg some (by kernel_rfl))⟩
 f47:=Tryz.func262.trans (congrArg some (by kernel_rfl))
 f48:=Tryz.func263.trans (congrArg some (by kernel_rfl))
 f49:=⟨Tryz.f323.name,by decide,Tryz.func323.trans (congrArg some (by kernel_rfl))⟩
 f50:=⟨Tryz.f324.name,by decide,Tryz.func324.trans (congrArg some (by kernel_rfl))⟩
 f57:=⟨Tryz.f337.name,by decide,Tryz.func337.trans (congrArg some (by kernel_rfl))⟩
 t0:=Tryz.underlying0
 a0:=Tryz.isAgg0
 z0:=Tryz.sizeOf0
 v0:=Tryz.zeroValue0
 t3:=Tryz.underlying3
 a3:=Tryz.isAgg3
 z3:=Tryz.sizeOf3
 v3:=Tryz.zeroValue3
 t4:=Tryz.underlying4
 a4:=Tryz.isAgg4
 z4:=Tryz.sizeOf4
 v4:=Tryz.zeroValue4
 t5:=Tryz.underlying5
 a5:=Tryz.isAgg5
 z5:=Tryz.sizeOf5
 v5:=Tryz.zeroValue5
 t9:=Tryz.underlying9
 a9:=Tryz.isAgg9
 z9:=Tryz.sizeOf9
 v9:=Tryz.zeroValue9
 t22:=Tryz.underlying104
 a22:=Tryz.isAgg104
 z22:=Tryz.sizeOf104
 v22:=Tryz.zeroValue104
 t25:=Tryz.underlying243
 a25:=Tryz.isAgg243
 z25:=Tryz.sizeOf243
 v25:=Tryz.zeroValue243
 t39:=Tryz.underlying196
 a39:=Tryz.isAgg196
 z39:=Tryz.sizeOf196
 v39:=Tryz.zeroValue196
 t45:=Tryz.underlying256
 a45:=Tryz.isAgg256
 z45:=Tryz.sizeOf256
 v45:=Tryz.zeroValue256
 t46:=Tryz.underlying257
 a46:=Tryz.isAgg257
 z46:=Tryz.sizeOf257
 v46:=Tryz.zeroValue257
 t50:=Tryz.underlying191
 a50:=Tryz.isAgg191
 z50:=Tryz.sizeOf191
 v50:=Tryz.zeroValue191
 t53:=Tryz.underlying263
 a53:=Tryz.isAgg263
 z53:=Tryz.sizeOf263
 v53:=Tryz.zeroValue263
 t55:=Tryz.underlying265
 a55:=Tryz.isAgg265
 z55:=Tryz.sizeOf265
 v55:=Tryz.zeroValue265
 t66:=Tryz.underlying334
 a66:=Tryz.isAgg334
 z66:=Tryz.sizeOf334
 v66:=Tryz.zeroValue334
 t70:=Tryz.underlying338
 a70:=Tryz.isAgg338
 z70:=Tryz.sizeOf338
 v70:=Tryz.zeroValue338
 t76:=Tryz.underlying361
 a76:=Tryz.isAgg361
 z76:=Tryz.sizeOf361
 v76:=Tryz.zeroValue361
 t77:=Tryz.underlying362
 a77:=Tryz.isAgg362
 z77:=Tryz.sizeOf362
 v77:=Tryz.zeroValue362}
end Go.Proofs
namespace Go.Vi
set_option maxRecDepth 100000
set_option maxHeartbeats 4000000
open Go.Sort
def Hy(a b:tO):Int:=Z6 (cz a.bV b.bV) (cz a.dO b.dO)
def leA(a b:tO):Bool:=!(ltOf Hy) b a
theorem Cp(a b:tO):(ltOf Hy) a b=true ↔ a.bV<b.bV\/(a.bV=b.bV/\a.dO<b.dO):=by
 unfold ltOf Hy Z6 cz
 grind
theorem wl(a b:tO):(ltOf Hy) a b=false ↔ ¬(a.bV<b.bV\/(a.bV=b.bV/\a.dO<b.dO)):=by
 rw[<-Cp,Bool.not_eq_true]
theorem swoA:SWO (ltOf Hy) where
 irrefl x:=by rw[wl];omega
 trans x y z h1 h2:=by grind [Cp]
 ntrans x y z h1 h2:=by grind [wl]
def encA(a:tO):List Value:=[.int .i64 a.dO,.int .i64 a.bV,.int .i64 a.IF,.int .i64 a.SW,.int .i64 a.oF]
abbrev J5(l:List tO):List (List D):=l.map λa=>a.row.map .p
theorem zH{h:List iN}{b e:Nat}{l:List tO}(hb:h[b]? = some (.bY (J5 l) e 5))(hl:l.length<4611686018427387904)(hT:∀x∈l,∀y∈l,x.bV=y.bV->x.dO=y.dO->x=y):
  Ev MK At 164 [.ref (.bY b e),.p (.v (.func (.func 165) #[] #[]))] h (.Tt []) (h.set b (.bY (J5 (l.mergeSort leA)) e 5)) :=
 uH (α:=tO) (enc:=encA) (k:=5) (cf:=Hy) Ug Tryz.sortAtt Tryz.isAgg170 Tryz.sizeOf170 (λ_=>rfl) (λx v hv=>by simp[encA] at hv;rcases hv with rfl|rfl|rfl|rfl|rfl<;>rfl) swoA (by kernel_rfl) (λx y=>jF []) hb hl
  (λx hx y hy h1 h2=>by
   grind [wl])
end Go.Vi
open Go Go.Proofs
namespace Go.Vi
set_option maxRecDepth 100000
set_option maxHeartbeats 4000000
structure BY where
 kind:Int
 sub:Int
 obj:Int
 Do:Int
 UE:Int
 deriving Inhabited,DecidableEq
def BY.row(r:BY):List Dp:=[vi r.kind,vi r.sub,vi r.obj,vi r.Do,vi r.UE]
abbrev M2(l:List BY):List (List Dp):=l.map BY.row
theorem J6(l:List BY):(ad (M2 l)).all (bf 5)=true:=by
 rw[Ns]
 intro r hr
 obtain⟨x,hx,rfl⟩:=NK.1 hr
 obtain⟨y,_,rfl⟩:=NK.1 hx
 rfl
abbrev VF(w:iS)(bv:Int)(rs:List BY)(e:Nat):List iN:=[.var [.ref (.bY 1 e),ab (w.c.map MX),ab w.p,ab (w.s.map M4),ab (w.f.map MY),aT bv],.bY (ad (M2 rs)) e 5]
theorem Fw{w:iS}{bv:Int}{rs qs:List BY}(hb:rs.length+qs.length<=1000000000):(Ev MK Or 167 [.ref (.ptr 0 0),ab (M2 qs)] (VF w bv rs 0) (.Tt []) (VF w bv (rs++qs) 1)):=by
 exact Na (yF (h':=[.var [.ref (.bY 1 1),ab (ML MX w.c),ab w.p,ab (ML M4 w.s),ab (ML MY w.f),aT bv],.bY (ad (M2 rs)++ML (λx=>ML D.p x) (M2 qs)) 1 5]) (d:=D.Tt []) [((by(simp only[J6,Tw,Bool.true_and,Bool.and_eq_true,decide_eq_true_eq,N7];omega)):(NH (ML (λx=>ML D.p x) (M2 qs)) (bf 5)&&Tw (MO (ad (M2 rs))+MO (ML (λx=>ML D.p x) (M2 qs))) 40)=true)]) (by grind) (by grind)
theorem uI{w:iS}{bv:Int}{rs:List BY}{q:BY}(hb:rs.length<=999999999):(Ev MK Or 167 [.ref (.ptr 0 0),.ref (.bY 2 0)] (VF w bv rs 0++[.bY [[aT q.kind,aT q.sub,aT q.obj,aT q.Do,aT q.UE]] 0 5]) (.Tt []) (VF w bv (rs++[q]) 1++[.bY [[aT q.kind,aT q.sub,aT q.obj,aT q.Do,aT q.UE]] 0 5])):=by
 let v0:List D:=[aT q.kind,aT q.sub,aT q.obj,aT q.Do,aT q.UE]
 exact Na (yF (h':=[.var [.ref (.bY 1 1),ab (ML MX w.c),ab w.p,ab (ML M4 w.s),ab (ML MY w.f),aT bv],.bY (ad (M2 rs)++[v0]) 1 5,.bY [v0] 0 5]) (d:=D.Tt []) [((by subst v0;(simp[bf,D.one,OM,Tw];omega)):(NH [v0] (bf 5)&&Tw (MO (ad (M2 rs))+MO [v0]) 40)=true)]) (by subst v0;grind) (by subst v0;(simp only[VF,M2,ad,O8];rfl))
def Xw:BY:=⟨12,0,0,0,1⟩
theorem wm{w:iS}(hw:w.ok){bv:Int}(h:List iN):Ev MK Or 105 [.agg w.l,aT bv] h (.Tt [ab ((aj w.f bv).map λn=>[vi n]),.ref (.bY h.length 0)]) (h++[.bY (ad (M2 [Xw])) 0 5]) :=
 M9 (nY hw.lf hw.sf h)
def Vm(kk ks ko bV:Int):List BY:=match Ye bV with
 | true=>[]
 | false=>[⟨kk,ks,ko,bV,MM.wrap (bV+1)⟩]
theorem wn(kk ks ko bV:Int):gg kk ks ko bV=M2 (Vm kk ks ko bV):=by
 unfold gg Vm
 cases Ye bV<;>rfl
theorem fV(kk ks ko bV:Int):(Vm kk ks ko bV).length<=1:=by unfold Vm;grind
theorem kX{w:iS}(hw:w.ok){n bV bv:Int}(h:List iN):Ev MK Or 32 [.agg w.l,aT n,aT bV,aT bv] h (.Tt [ag (ac w n bV bv).1.row,ab (M2 (Vm 1 n 0 bV)),iF (ac w n bV bv).2]) h:=by
 rw[<-wn];exact zF hw h
theorem kY{w:iS}(hw:w.ok){bV bv:Int}(h:List iN):Ev MK Or 121 [.agg w.l,aT bV,aT bv] h (.Tt [ag (dv w bV bv).1.row,ab (M2 (Vm 4 0 0 bV))]) h:=by
 rw[<-wn];exact zC hw h
noncomputable abbrev wo(w:iS)(bv:Int)(rs:List BY):List iN:=[.var [.ref (.bY 1 1),ab (ML MX w.c),ab w.p,ab (ML M4 w.s),ab (ML MY w.f),aT bv],.bY (ad (M2 (rs++[Xw]))) 1 5,.bY [[aT Xw.kind,aT Xw.sub,aT Xw.obj,aT Xw.Do,aT Xw.UE]] 0 5]
noncomputable abbrev wq(w:iS)(bv:Int)(rs:List BY):List iN:=[.var [.ref (.bY 1 0),ab (ML MX w.c),ab w.p,ab (ML M4 w.s),ab (ML MY w.f),aT bv],.bY (ad (M2 rs)) 0 5]
theorem Fy{w:iS}(hw:w.ok){bv:Int}{rs:List BY}(hb:rs.length<=999999000):(Ev MK Or 93 [.ref (.ptr 0 0)] (VF w bv rs 0) (ab ((aj w.f bv).map λn=>[vi n])) (VF w bv (rs++[Xw]) 1)):=by
 let v0:List D:=[.ref (.bY 1 1),ab (ML MX w.c),ab w.p,ab (ML M4 w.s),ab (ML MY w.f),aT bv]
 refine Na (RJ (d2:=ab (ML (λn=>[vi n]) (aj w.f bv))) (h2:=[.var v0,.bY (ad (M2 (rs++[Xw]))) 1 5]) (φ:=[MZ 2 (.var v0)=true,MZ 2 (.bY (ad (M2 (rs++[Xw]))) 1 5)=true]) [.st (.TD 2)] (yF (h':=(wo w bv rs)) (d:=ab (ML (λn=>[vi n]) (aj w.f bv))) [.c (@wm w hw bv (wq w bv rs)),pe (.ref (.ptr 0 0)),pe (.ref (.ptr 0 1)),pe (Nk (Nz w)),pe (.ref (.ptr 0 0)),pe (.ref (.ptr 0 5)),po (some (aT bv)),.c (@uI w bv rs Xw ?_)]) (by kernel_rfl) ⟨rfl,?_,trivial⟩) (by subst v0;grind) (by subst v0;grind)<;>subst v0<;>(first|omega|exact bZ _ _)
noncomputable abbrev pg(w:iS)(bv:Int)(rs:List BY):List iN:=[.var [.ref (.bY 1 0),ab (ML MX w.c),ab w.p,ab (ML M4 w.s),ab (ML MY w.f),aT bv],.bY (ad (M2 rs)) 0 5,.var [aq {data:=#[]},aT 0,aT 0,aT 0,aT 0,aT 0,aq {data:=#[]},aT 0,aT 0,nq,aT 0,aT 0,aq {data:=#[]},aT 0,aT 0,nq],.var [aq {data:=#[]},aT 0,aT 0,aT 0,aT 0,aT 0,aq {data:=#[]},aT 0,aT 0,nq,aT 0,aT 0,aq {data:=#[]},aT 0,aT 0,nq]]
noncomputable abbrev eU(w:iS)(bv:Int)(rs:List BY):List iN:=[.var [.ref (.bY 1 0),ab (ML MX w.c),ab w.p,ab (ML M4 w.s),ab (ML MY w.f),aT bv],.bY (ad (M2 rs)) 0 5,.var [aq {data:=#[]},aT 0,aT 0,aT 0,aT 0,aT 0,aq {data:=#[]},aT 0,aT 0,nq,aT 0,aT 0,aq {data:=#[]},aT 0,aT 0,nq]]
theorem oj{w:iS}(hw:w.ok){bv n bV:Int}{rs:List BY}(hb:rs.length<=999999000):(Ev MK Or 163 [.ref (.ptr 0 0),aT n,aT bV] (VF w bv rs 0) (ag (ac w n bV bv).1.row) (VF w bv (rs++Vm 1 n 0 bV) 1)):=by
 let v0:List D:=[.ref (.bY 1 1),ab (ML MX w.c),ab w.p,ab (ML M4 w.s),ab (ML MY w.f),aT bv]
 refine Na (RJ (d2:=Nk [aq (ac w n bV bv).fst.name,aT (ac w n bV bv).fst.number,aT (ac w n bV bv).fst.oF,aT (ac w n bV bv).fst.rep,aT (M1 (ac w n bV bv).fst.T0).op,aT (M1 (ac w n bV bv).fst.T0).c,aq (M1 (ac w n bV bv).fst.T0).nm,aT (M1 (ac w n bV bv).fst.T0).n,aT (M1 (ac w n bV bv).fst.T0).d,ab (M1 (ac w n bV bv).fst.T0).ks,aT (M1 (ac w n bV bv).fst.TM).op,aT (M1 (ac w n bV bv).fst.TM).c,aq (M1 (ac w n bV bv).fst.TM).nm,aT (M1 (ac w n bV bv).fst.TM).n,aT (M1 (ac w n bV bv).fst.TM).d,ab (M1 (ac w n bV bv).fst.TM).ks]) (h2:=[.var v0,.bY (ad (M2 (rs++Vm 1 n 0 bV))) 1 5]) (φ:=[MZ 2 (.var v0)=true,MZ 2 (.bY (ad (M2 (rs++Vm 1 n 0 bV))) 1 5)=true]) [.st (.TD 2)] (yF (h':=[.var v0,.bY (ad (M2 (rs++Vm 1 n 0 bV))) 1 5,.var [aq (ac w n bV bv).fst.name,aT (ac w n bV bv).fst.number,aT (ac w n bV bv).fst.oF,aT (ac w n bV bv).fst.rep,aT (M1 (ac w n bV bv).fst.T0).op,aT (M1 (ac w n bV bv).fst.T0).c,aq (M1 (ac w n bV bv).fst.T0).nm,aT (M1 (ac w n bV bv).fst.T0).n,aT (M1 (ac w n bV bv).fst.T0).d,ab (M1 (ac w n bV bv).fst.T0).ks,aT (M1 (ac w n bV bv).fst.TM).op,aT (M1 (ac w n bV bv).fst.TM).c,aq (M1 (ac w n bV bv).fst.TM).nm,aT (M1 (ac w n bV bv).fst.TM).n,aT (M1 (ac w n bV bv).fst.TM).d,ab (M1 (ac w n bV bv).fst.TM).ks],.var [aq (ac w n bV bv).fst.name,aT (ac w n bV bv).fst.number,aT (ac w n bV bv).fst.oF,aT (ac w n bV bv).fst.rep,aT (M1 (ac w n bV bv).fst.T0).op,aT (M1 (ac w n bV bv).fst.T0).c,aq (M1 (ac w n bV bv).fst.T0).nm,aT (M1 (ac w n bV bv).fst.T0).n,aT (M1 (ac w n bV bv).fst.T0).d,ab (M1 (ac w n bV bv).fst.T0).ks,aT (M1 (ac w n bV bv).fst.TM).op,aT (M1 (ac w n bV bv).fst.TM).c,aq (M1 (ac w n bV bv).fst.TM).nm,aT (M1 (ac w n bV bv).fst.TM).n,aT (M1 (ac w n bV bv).fst.TM).d,ab (M1 (ac w n bV bv).fst.TM).ks]]) (d:=Nk [aq (ac w n bV bv).fst.name,aT (ac w n bV bv).fst.number,aT (ac w n bV bv).fst.oF,aT (ac w n bV bv).fst.rep,aT (M1 (ac w n bV bv).fst.T0).op,aT (M1 (ac w n bV bv).fst.T0).c,aq (M1 (ac w n bV bv).fst.T0).nm,aT (M1 (ac w n bV bv).fst.T0).n,aT (M1 (ac w n bV bv).fst.T0).d,ab (M1 (ac w n bV bv).fst.T0).ks,aT (M1 (ac w n bV bv).fst.TM).op,aT (M1 (ac w n bV bv).fst.TM).c,aq (M1 (ac w n bV bv).fst.TM).nm,aT (M1 (ac w n bV bv).fst.TM).n,aT (M1 (ac w n bV bv).fst.TM).d,ab (M1 (ac w n bV bv).fst.TM).ks]) [.v (@kX w hw n bV bv (eU w bv rs)),pe (.ref (.ptr 0 0)),pe (.ref (.ptr 0 0)),pe (.ref (.ptr 0 1)),pe (.ref (.ptr 0 1)),pe (Nk (Nz w)),pe (Nk (Nz w)),pe (.ref (.ptr 0 0)),pe (.ref (.ptr 0 0)),pe (.ref (.ptr 0 5)),pe (.ref (.ptr 0 5)),po (some (aT bv)),po (some (aT bv)),pr (eU w bv rs),(@kX w hw n bV bv (eU w bv rs)),(@kX w hw n bV bv (pg w bv rs)),.c ((fX [0,1] (@Fw w bv rs (Vm 1 n 0 bV) (by subst v0;(have:=fV 1 n 0 bV;omega))) ⟨?_,trivial⟩ ⟨?_,trivial⟩):Ev MK Or 167 [.ref (.ptr 0 0),ab (M2 (Vm 1 n 0 bV))] [.var [.ref (.bY 1 0),ab (ML MX w.c),ab w.p,ab (ML M4 w.s),ab (ML MY w.f),aT bv],.bY (ad (M2 rs)) 0 5,.var [aq {data:=#[]},aT 0,aT 0,aT 0,aT 0,aT 0,aq {data:=#[]},aT 0,aT 0,nq,aT 0,aT 0,aq {data:=#[]},aT 0,aT 0,nq],.var [aq (ac w n bV bv).fst.name,aT (ac w n bV bv).fst.number,aT (ac w n bV bv).fst.oF,aT (ac w n bV bv).fst.rep,aT (M1 (ac w n bV bv).fst.T0).op,aT (M1 (ac w n bV bv).fst.T0).c,aq (M1 (ac w n bV bv).fst.T0).nm,aT (M1 (ac w n bV bv).fst.T0).n,aT (M1 (ac w n bV bv).fst.T0).d,ab (M1 (ac w n bV bv).fst.T0).ks,aT (M1 (ac w n bV bv).fst.TM).op,aT (M1 (ac w n bV bv).fst.TM).c,aq (M1 (ac w n bV bv).fst.TM).nm,aT (M1 (ac w n bV bv).fst.TM).n,aT (M1 (ac w n bV bv).fst.TM).d,ab (M1 (ac w n bV bv).fst.TM).ks]] (D.Tt []) [.var v0,.bY (ad (M2 (rs++Vm 1 n 0 bV))) 1 5,.var [aq {data:=#[]},aT 0,aT 0,aT 0,aT 0,aT 0,aq {data:=#[]},aT 0,aT 0,nq,aT 0,aT 0,aq {data:=#[]},aT 0,aT 0,nq],.var [aq (ac w n bV bv).fst.name,aT (ac w n bV bv).fst.number,aT (ac w n bV bv).fst.oF,aT (ac w n bV bv).fst.rep,aT (M1 (ac w n bV bv).fst.T0).op,aT (M1 (ac w n bV bv).fst.T0).c,aq (M1 (ac w n bV bv).fst.T0).nm,aT (M1 (ac w n bV bv).fst.T0).n,aT (M1 (ac w n bV bv).fst.T0).d,ab (M1 (ac w n bV bv).fst.T0).ks,aT (M1 (ac w n bV bv).fst.TM).op,aT (M1 (ac w n bV bv).fst.TM).c,aq (M1 (ac w n bV bv).fst.TM).nm,aT (M1 (ac w n bV bv).fst.TM).n,aT (M1 (ac w n bV bv).fst.TM).d,ab (M1 (ac w n bV bv).fst.TM).ks]])]) (by kernel_rfl) ⟨rfl,(by subst v0;exact bZ _ _),trivial⟩) (by subst v0;rfl) (by subst v0;grind)<;>subst v0<;>(exact ak _ _)
noncomputable abbrev eV(w:iS)(bv:Int)(st:Int)(n:Int)(bV:Int)(rs:List BY):List iN:=[.var [.ref (.bY 1 1),ab (ML MX w.c),ab w.p,ab (ML M4 w.s),ab (ML MY w.f),aT bv],.bY (ad (M2 (rs++[{kind:=5,sub:=st,obj:=n,Do:=0,UE:=bV}]))) 1 5,.var [aT 5,aT st,aT n],.bY [[aT 5,aT st,aT n,aT 0,aT bV]] 0 5]
theorem wr{w:iS}(hw:w.ok){bv st n bV:Int}{rs:List BY}(hb:rs.length<=999999000):(Ev MK Or 162 [.ref (.ptr 0 0),aT st,aT n,aT bV] (VF w bv rs 0) (ab ((cy 5 st n 0 bV bv w.f).map UL.row)) (VF w bv (rs++[⟨5,st,n,0,bV⟩]) 1)):=by
 let v0:List D:=[.ref (.bY 1 1),ab (ML MX w.c),ab w.p,ab (ML M4 w.s),ab (ML MY w.f),aT bv]
 let v1:=ML UL.row (cy 5 st n 0 bV bv w.f)
 refine Na (RJ (d2:=ab v1) (h2:=[.var v0,.bY (ad (M2 (rs++[{kind:=5,sub:=st,obj:=n,Do:=0,UE:=bV}]))) 1 5]) (φ:=[MZ 2 (.var v0)=true,MZ 2 (.bY (ad (M2 (rs++[{kind:=5,sub:=st,obj:=n,Do:=0,UE:=bV}]))) 1 5)=true]) [.st (.TD 2)] (yF (h':=(eV w bv st n bV rs)) (d:=ab v1) [.c ((fX [0,1,3] (@uI w bv rs ({kind:=5,sub:=st,obj:=n,Do:=0,UE:=bV}) (by subst v0 v1;omega)) ⟨?_,?_,trivial⟩ ⟨?_,?_,trivial⟩):Ev MK Or 167 [.ref (.ptr 0 0),.ref (.bY 3 0)] [.var [.ref (.bY 1 0),ab (ML MX w.c),ab w.p,ab (ML M4 w.s),ab (ML MY w.f),aT bv],.bY (ad (M2 rs)) 0 5,.var [aT 5,aT st,aT n],.bY [[aT 5,aT st,aT n,aT 0,aT bV]] 0 5] (D.Tt []) (eV w bv st n bV rs)),pe (.ref (.ptr 0 0)),pe (.ref (.ptr 0 0)),pe (.ref (.ptr 0 0)),pe (.ref (.ptr 0 0)),pe (Nk [aT 5,aT st,aT n]),.v (M9 (Γ':=Or) (@uG 5 st n 0 bV bv (w.f) (by subst v0 v1;exact hw.sf) (eV w bv st n bV rs)))]) (by kernel_rfl) ⟨rfl,(by subst v0 v1;exact bZ _ _),trivial⟩) (by subst v0 v1;grind) (by subst v0 v1;grind)<;>subst v0 v1<;>(first|rfl|exact ak _ _)
theorem ws{h:List iN}{b e:Nat}{l:List tO}(hb:h[b]? = some (.bY (ad (l.map MQ)) e 5))(hl:l.length<4611686018427387904)(hT:∀x∈l,∀y∈l,x.bV=y.bV->x.dO=y.dO->x=y):
  Ev MK At 164 [.ref (.bY b e),.p (.v (.func (.func 165) #[] #[]))] h (.Tt []) (h.set b (.bY (ad ((l.mergeSort leA).map MQ)) e 5)):=by
 have e1:∀l:List tO,ad (l.map MQ)=J5 l:=λl=>by simp[ad]
 rw[e1] at hb ⊢
 exact zH hb hl hT
abbrev ofH(w:iS)(bv st:Int)(rs:List BY)(ats:List tO):List iN:=[.var [.ref (.bY 1 1),ab (w.c.map MX),ab w.p,ab (w.s.map M4),ab (w.f.map MY),aT bv],.bY (ad (M2 rs)) 1 5,.var [aT st,.ref (.bY 3 0)],.bY (ad (ats.map MQ)) 0 5]
abbrev oiS(w:iS)(bv st bV:Int)(ns:List (List Dp))(ni n:Int)(ps:List (List Dp))(rs:List BY)(ats:List tO)(j:Int):AS :=
 {t:=DO 67 0 [(0,.ref (.ptr 0 0)),(1,aT st),(2,aT bV),(6,.ref (.ptr 2 0)),(8,aT n),(16,ab ns),(17,aT ns.length),(18,aT ni),(26,ab ps),(27,aT ps.length),(28,aT j)],h:=ofH w bv st rs ats,m:=[]}
abbrev RA:=List BY×List tO
def Ws(p:UL):Bool:=Zd (P0 p.value 16>12)||Zd (MM.wrap (Nn p.value 16)>=7)
def J7(w:iS)(bv n:Int)(p:UL):tO:=⟨n,p.bV,P0 p.value 16,MM.wrap (Nn p.value 16),(ac w n p.bV bv).1.oF⟩
def uJ(w:iS)(bv n:Int)(s:RA)(p:UL):RA:=bif Ws p then s else (s.1++Vm 1 n 0 p.bV,s.2++[J7 w bv n p])
theorem sa(l:List tO)(a b c d e:Int):ad (l.map MQ)++[[aT a,aT b,aT c,aT d,aT e]]=ad ((l++[tO.mk a b c d e]).map MQ):=by simp[MQ]
theorem J8{w:iS}(hw:w.ok){bv st bV:Int}{ns:List (List Dp)}{ni n:Int}{ps:List (List Dp)}{rs0 rs:List BY}{ats:List tO}{j:Nat}{p:UL}(hr:ap (j:Int) ps p.row 2)(IN:Zd ((j:Int)<(ps.length:Int))=true)(Yr:MM.wrap ((j:Int)+1)=((j+1:Nat):Int))(hb:rs.length<=999998000)(ha:ats.length<=999998000):(CW MK Or (VF w bv rs0 0) false (sub Qj 1) (oiS w bv st bV ns ni n ps rs ats j) .normal (oiS w bv st bV ns ni n ps (uJ w bv n (rs,ats) p).1 (uJ w bv n (rs,ats) p).2 ((j+1:Nat):Int))):=by
 cases Of:Zd (P0 p.value 16>12)||Zd (MN MM (Nn p.value 16)>=7)
 ·let v0:List D:=[aT n,aT p.bV,aT (P0 p.value 16),aT (MN MM (Nn p.value 16)),aT (ac w n p.bV bv).fst.oF]
  let v1:List D:=[.ref (.bY 1 1),ab (ML MX w.c),ab w.p,ab (ML M4 w.s),ab (ML MY w.f),aT bv]
  let v2:List D:=[.ref (.bY 1 2),ab (ML MX w.c),ab w.p,ab (ML M4 w.s),ab (ML MY w.f),aT bv]
  refine yX {t:=DO 67 0 [(0,.ref (.ptr 0 0)),(1,aT st),(2,aT bV),(6,.ref (.ptr 2 0)),(8,aT n),(16,ab ns),(17,aT (↑(MO ns):Int)),(18,aT ni),(26,ab ps),(27,aT (↑(MO ps):Int)),(28,aT (MN MM ((↑j:Int)+1)))],h:=[.var v1,.bY (ad (M2 (rs++Vm 1 n 0 p.bV))) 1 5,.var [aT st,.ref (.bY 3 0)],.bY (ad (ML MQ ats)++[v0]) 0 5],m:=[]} M8 [.st (.mask [0,1,2,6,8,16,17,18,26,27,28]),.st (.Vz 1 1),.st (.Vz 3 0),.st (.TD 4)] [.b IN,.r hr,(rfl:(!Zd (16=0))=true),(rfl:(!Zd (16=0))=true),.b Of,.c ((fX [0,1] (Ev.upX [0,1] (@oj w hw bv n (p.bV) rs (by subst v0 v1 v2;grind)) (by kernel_rfl) ⟨(by subst v0 v1 v2;exact ak _ _),trivial⟩ ⟨(by subst v0 v1 v2;exact ak _ _),trivial⟩) ⟨(by subst v0 v1 v2;exact ak _ _),trivial⟩ ⟨(by subst v0 v1 v2;exact ak _ _),trivial⟩):Ev MK Or 163 [.ref (.ptr 0 0),aT n,aT p.bV] [.var v1,.bY (ad (M2 rs)) 1 5,.var [aT st,.ref (.bY 3 0)],.bY (ad (ML MQ ats)) 0 5,.var [aT p.bV,aT p.value]] (Nk [aq (ac w n p.bV bv).fst.name,aT (ac w n p.bV bv).fst.number,aT (ac w n p.bV bv).fst.oF,aT (ac w n p.bV bv).fst.rep,aT (M1 (ac w n p.bV bv).fst.T0).op,aT (M1 (ac w n p.bV bv).fst.T0).c,aq (M1 (ac w n p.bV bv).fst.T0).nm,aT (M1 (ac w n p.bV bv).fst.T0).n,aT (M1 (ac w n p.bV bv).fst.T0).d,ab (M1 (ac w n p.bV bv).fst.T0).ks,aT (M1 (ac w n p.bV bv).fst.TM).op,aT (M1 (ac w n p.bV bv).fst.TM).c,aq (M1 (ac w n p.bV bv).fst.TM).nm,aT (M1 (ac w n p.bV bv).fst.TM).n,aT (M1 (ac w n p.bV bv).fst.TM).d,ab (M1 (ac w n p.bV bv).fst.TM).ks]) [.var v2,.bY (ad (M2 (rs++Vm 1 n 0 p.bV))) 2 5,.var [aT st,.ref (.bY 3 0)],.bY (ad (ML MQ ats)) 0 5,.var [aT p.bV,aT p.value]]),(?_:(NH [v0] (bf 5)&&Tw (MO (ad (ML MQ ats))+MO [v0]) 40)=true),pe (.ref (.ptr 2 1)),pe (.ref (.ptr 2 1)),pe (.ref (.ptr 2 1)),po (some (.ref (.bY 3 0))),po (some (.ref (.bY 3 0))),po (some (.ref (.bY 3 0))),pe (.ref (.ptr 4 0)),pe (.ref (.ptr 4 0)),po (some (aT p.bV)),po (some (aT p.bV)),pe (.ref (.ptr 4 0)),po (some (aT p.bV)),pe (.ref (.ptr 2 1)),(vM (M2 (rs++Vm 1 n 0 p.bV)) 1 2 1),(vMa (ML MQ ats) [v0] 1 2 1),pr [v0],(vMa (ML MQ ats) [v0] 3 1 0),(vM (M2 (rs++Vm 1 n 0 p.bV)) 3 1 0),pr [v0],(rfl:MZ 4 (match 0==3 with|true=>.bY (ad (ML MQ ats)++[v0]) 0 5|false=>ST (ax 3 1 0) (match 0==1 with|true=>.bY (ad (M2 (rs++Vm 1 n 0 p.bV))) 1 5|false=>ST (ax 1 2 1) (.var v2)))=true),(?_:MZ 4 (match 0+1==3 with|true=>.bY (ad (ML MQ ats)++[v0]) 0 5|false=>ST (ax 3 1 0) (match 0+1==1 with|true=>.bY (ad (M2 (rs++Vm 1 n 0 p.bV))) 1 5|false=>ST (ax 1 2 1) (.bY (ad (M2 (rs++Vm 1 n 0 p.bV))) 2 5)))=true),(rfl:MZ 4 (match 0+1+1==3 with|true=>.bY (ad (ML MQ ats)++[v0]) 0 5|false=>ST (ax 3 1 0) (match 0+1+1==1 with|true=>.bY (ad (M2 (rs++Vm 1 n 0 p.bV))) 1 5|false=>ST (ax 1 2 1) (.var [aT st,.ref (.bY 3 1)])))=true),(iVa 4 (ML MQ ats) [v0] 0 5)] (by subst v0 v1 v2;grind) (by subst v0 v1 v2;(have hh:Ws p=false:=Of;simp only[Yr,uJ,hh,cond_false,sa];first|done|rfl))<;>subst v0 v1 v2<;>(first|exact b9|(simp[bf,D.one,OM,Tw];omega))
 ·let v0:List D:=[.ref (.bY 1 1),ab (ML MX w.c),ab w.p,ab (ML M4 w.s),ab (ML MY w.f),aT bv]
  refine yX {t:=DO 67 0 [(0,.ref (.ptr 0 0)),(1,aT st),(2,aT bV),(6,.ref (.ptr 2 0)),(8,aT n),(16,ab ns),(17,aT (↑(MO ns):Int)),(18,aT ni),(26,ab ps),(27,aT (↑(MO ps):Int)),(28,aT (MN MM ((↑j:Int)+1)))],h:=[.var v0,.bY (ad (M2 rs)) 1 5,.var [aT st,.ref (.bY 3 0)],.bY (ad (ML MQ ats)) 0 5],m:=[]} M8 [.st (.mask [0,1,2,6,8,16,17,18,26,27,28]),.st (.Vz 1 1),.st (.Vz 3 0),.st (.TD 4)] [.b IN,.r hr,.b (rfl:(!Zd (16=0))=true),(rfl:(!Zd (16=0))=true),Of,(?_:ML (Nm (ax 1 1 1)) (ad (M2 rs))=ad (M2 rs)),(?_:ML (Nm (ax 1 1 1)) (ad (ML MQ ats))=ad (ML MQ ats)),(?_:ML (Nm (ax 3 0 0)) (ad (ML MQ ats))=ad (ML MQ ats)),(?_:ML (Nm (ax 3 0 0)) (ad (M2 rs))=ad (M2 rs)),(rfl:MZ 4 (match 0==3 with|true=>.bY (ad (ML MQ ats)) 0 5|false=>ST (ax 3 0 0) (match 0==1 with|true=>.bY (ad (M2 rs)) 1 5|false=>ST (ax 1 1 1) (.var v0)))=true),(?_:MZ 4 (match 0+1==3 with|true=>.bY (ad (ML MQ ats)) 0 5|false=>ST (ax 3 0 0) (match 0+1==1 with|true=>.bY (ad (M2 rs)) 1 5|false=>ST (ax 1 1 1) (.bY (ad (M2 rs)) 1 5)))=true),(rfl:MZ 4 (match 0+1+1==3 with|true=>.bY (ad (ML MQ ats)) 0 5|false=>ST (ax 3 0 0) (match 0+1+1==1 with|true=>.bY (ad (M2 rs)) 1 5|false=>ST (ax 1 1 1) (.var [aT st,.ref (.bY 3 0)])))=true),(?_:MZ 4 (match 0+1+1+1==3 with|true=>.bY (ad (ML MQ ats)) 0 5|false=>ST (ax 3 0 0) (match 0+1+1+1==1 with|true=>.bY (ad (M2 rs)) 1 5|false=>ST (ax 1 1 1) (.bY (ad (ML MQ ats)) 0 5)))=true)] (by subst v0;grind) (by subst v0;(have hh:Ws p=true:=Of;simp[Yr,uJ,hh];first|done|rfl))<;>subst v0<;>(first|exact aX _ _|exact b9)
theorem J9{w:iS}{bv st bV:Int}{ns:List (List Dp)}{ni n:Int}{ps:List (List Dp)}{rs0 rs:List BY}{ats:List tO}{j:Nat}(IN:Zd ((j:Int)<(ps.length:Int))=false):(CW MK Or (VF w bv rs0 0) false (sub Qj 1) (oiS w bv st bV ns ni n ps rs ats j) (.exit 2) {t:=DO 67 0 [(0,.ref (.ptr 0 0)),(1,aT st),(2,aT bV),(6,.ref (.ptr 2 0)),(16,ab ns),(17,aT ns.length),(18,aT ni)],h:=ofH w bv st rs ats,m:=[]}):=by
 exact yx [.st (.mask [0,1,2,6,16,17,18])] [.b IN]
theorem x7{w:iS}{bv n:Int}{s:RA}(p:UL):(uJ w bv n s p).1.length<=s.1.length+1/\(uJ w bv n s p).2.length<=s.2.length+1:=by
 unfold uJ
 cases Ws p
 ·have:=fV 1 n 0 p.bV
  simp;omega
 ·simp
theorem oi_cw{w:iS}(hw:w.ok){bv st bV:Int}{ns:List (List Dp)}{ni n:Int}{ps:List UL}(hp:ps.length<=2000){rs0 rs:List BY}{ats:List tO}(hb:rs.length<=999990000)(ha:ats.length<=999990000):
  CW MK Or (VF w bv rs0 0) false (.loop (sub Qj 1)) (oiS w bv st bV ns ni n (ps.map UL.row) rs ats 0) (.exit 2) {t:=DO 67 0 [(0,.ref (.ptr 0 0)),(1,aT st),(2,aT bV),(6,.ref (.ptr 2 0)),(16,ab ns),(17,aT ns.length),(18,aT ni)],h:=ofH w bv st (ps.foldl (uJ w bv n) (rs,ats)).1 (ps.foldl (uJ w bv n) (rs,ats)).2,m:=[]}:=by
 have hl:ah ps:=by unfold ah;omega
 have:=OS (P:=MK) (Γ:=Or) (h0:=VF w bv rs0 0) (rd:=false) (c:=sub Qj 1) (σ:=RA) (ρ:=Empty) ps (λp s=>.inl (uJ w bv n s p))
  (λj s=>oiS w bv st bV ns ni n (ps.map UL.row) s.1 s.2 (j:Int)) (.exit 2) (λs=>{t:=DO 67 0 [(0,.ref (.ptr 0 0)),(1,aT st),(2,aT bV),(6,.ref (.ptr 2 0)),(16,ab ns),(17,aT ns.length),(18,aT ni)],h:=ofH w bv st s.1 s.2,m:=[]}) (λr=>r.elim)
  (λj s=>s.1.length<=rs.length+j/\s.2.length<=ats.length+j) (by simp) (λr=>r.elim) ?_ ?_ (rs,ats) (by simp)
 ·rw[aP] at this
  exact this
 ·intro j p s hpj hs
  have hi:=(MR.1 hpj).1
  refine⟨λs' h=>by cases h;have:=x7 (w:=w) (bv:=bv) (n:=n) (s:=s) p;omega,J8 hw (rowAt hpj rfl) (TG _ hi) (T4 hi hl) (by omega) (by omega)⟩
 ·intro s _
  exact J9 (be _ ps)
theorem eB{kk ks ko Do to bv:Int}{l:List If}:(cy kk ks ko Do to bv l).length<=1024:=by
 have key:∀(rs:List Int) (ns:List Nat) (l:List UL),(ns.foldl (λl n=>ZK (rs.getD n 0) n l) l).length<=l.length+ns.length:=by
  intro rs ns
  induction ns with
  | nil=>intro l;simp
  | cons n ns ih=>intro l;have:=ih (ZK (rs.getD n 0) n l);have h2:=Cn (rs.getD n 0) n l;grind
 unfold cy Hx
 refine OX (key _ _ _) ?_
 have:Ad to<=1024:=by unfold Ad;split<;>omega
 simp only[List.length_nil,Tg]
 have:0<=ptLo Do:=Co Do
 omega
abbrev ooS(w:iS)(bv st bV:Int)(ns:List (List Dp))(rs:List BY)(ats:List tO)(i:Int):AS :=
 {t:=DO 67 0 [(0,.ref (.ptr 0 0)),(1,aT st),(2,aT bV),(6,.ref (.ptr 2 0)),(16,ab ns),(17,aT ns.length),(18,aT i)],h:=ofH w bv st rs ats,m:=[]}
def gi(w:iS)(bv st bV:Int)(s:RA)(n:Int):RA:=(cy 5 st n 0 bV bv w.f).foldl (uJ w bv n) (s.1++[⟨5,st,n,0,bV⟩],s.2)
noncomputable abbrev zI(w:iS)(bv:Int)(st:Int)(rs:List BY)(ats:List tO):List iN:=[.var [.ref (.bY 1 1),ab (ML MX w.c),ab w.p,ab (ML M4 w.s),ab (ML MY w.f),aT bv],.bY (ad (M2 rs)) 1 5,.var [aT st,.ref (.bY 3 0)],.bY (ad (ML MQ ats)) 0 5]
theorem Ka{w:iS}(hw:w.ok){bv st bV:Int}{ns:List (List Dp)}{n:Int}{rs0 rs:List BY}{ats:List tO}{i:Nat}(hr:ap (i:Int) ns [vi n] 1)(IN:Zd ((i:Int)<(ns.length:Int))=true)(Yr:MM.wrap ((i:Int)+1)=((i+1:Nat):Int))(hb:rs.length<=999980000)(ha:ats.length<=999980000):(CW MK Or (VF w bv rs0 0) false (sub Qj 0) (ooS w bv st bV ns rs ats i) .normal (ooS w bv st bV ns (gi w bv st bV (rs,ats) n).1 (gi w bv st bV (rs,ats) n).2 ((i+1:Nat):Int))):=by
 have Tv:=(@oi_cw (w) (hw) (bv) (st) (bV) (ns) ((↑i:Int)) (n) (cy 5 st n 0 bV bv w.f) (by first|assumption|rfl|omega|exact aX _ _|exact OX eB (by omega)|(simp;omega)) (rs0) (rs++[{kind:=5,sub:=st,obj:=n,Do:=0,UE:=bV}]) (ats) (by grind) (by grind))
 let v0:=Nx (uJ w bv n) (rs++[{kind:=5,sub:=st,obj:=n,Do:=0,UE:=bV}],ats) (cy 5 st n 0 bV bv w.f)
 refine yX {t:=DO 67 0 [(0,.ref (.ptr 0 0)),(1,aT st),(2,aT bV),(6,.ref (.ptr 2 0)),(16,ab ns),(17,aT (↑(MO ns):Int)),(18,aT (MN MM ((↑i:Int)+1)))],h:=[.var [.ref (.bY 1 1),ab (ML MX w.c),ab w.p,ab (ML M4 w.s),ab (ML MY w.f),aT bv],.bY (ad (M2 v0.fst)) 1 5,.var [aT st,.ref (.bY 3 0)],.bY (ad (ML MQ v0.2)) 0 5],m:=[]} M8 [.st (.mask [0,1,2,6,16,17,18])] [.b IN,.r hr,.c ((fX [0,1] (Ev.upX [0,1] (@wr w hw bv st n bV rs (by subst v0;grind)) (by kernel_rfl) ⟨?_,trivial⟩ ⟨?_,trivial⟩) ⟨?_,trivial⟩ ⟨?_,trivial⟩):Ev MK Or 162 [.ref (.ptr 0 0),aT st,aT n,aT bV] (zI w bv st rs ats) (ab (ML UL.row (cy 5 st n 0 bV bv w.f))) [.var [.ref (.bY 1 2),ab (ML MX w.c),ab w.p,ab (ML M4 w.s),ab (ML MY w.f),aT bv],.bY (ad (M2 (rs++[{kind:=5,sub:=st,obj:=n,Do:=0,UE:=bV}]))) 2 5,.var [aT st,.ref (.bY 3 0)],.bY (ad (ML MQ ats)) 0 5]),(vM (M2 (rs++[{kind:=5,sub:=st,obj:=n,Do:=0,UE:=bV}])) 1 2 1),(vM (ML MQ ats) 1 2 1),.o (.Vz 1 1),.s [0,1,2,6,8,16,17,18,26,27,28] Tv] (by subst v0;grind) (by subst v0;(simp only[Yr];rfl))<;>subst v0<;>(exact ak _ _)
theorem Kb{w:iS}{bv st bV:Int}{ns:List (List Dp)}{rs0 rs:List BY}{ats:List tO}{i:Nat}(IN:Zd ((i:Int)<(ns.length:Int))=false):(CW MK Or (VF w bv rs0 0) false (sub Qj 0) (ooS w bv st bV ns rs ats i) (.exit 0) {t:=DO 67 0 [(6,.ref (.ptr 2 0))],h:=ofH w bv st rs ats,m:=[]}):=by
 exact yx [.st (.mask [6])] [.b IN]
theorem qt{w:iS}{bv n:Int}:∀(ps:List UL) (s:RA),(ps.foldl (uJ w bv n) s).1.length<=s.1.length+ps.length/\(ps.foldl (uJ w bv n) s).2.length<=s.2.length+ps.length
 | [],s=>by simp
 | p::ps,s=>by
  have h1:=x7 (w:=w) (bv:=bv) (n:=n) (s:=s) p
  have h2:=qt (w:=w) (bv:=bv) (n:=n) ps (uJ w bv n s p)
  grind
theorem Cq{w:iS}{bv st bV:Int}(s:RA)(n:Int):(gi w bv st bV s n).1.length<=s.1.length+1025/\(gi w bv st bV s n).2.length<=s.2.length+1024:=by
 unfold gi
 have h1:=qt (w:=w) (bv:=bv) (n:=n) (cy 5 st n 0 bV bv w.f) (s.1++[⟨5,st,n,0,bV⟩],s.2)
 have h2:=eB (kk:=5) (ks:=st) (ko:=n) (Do:=0) (to:=bV) (bv:=bv) (l:=w.f)
 grind
theorem oo_g{w:iS}(hw:w.ok){bv st bV:Int}{ns:List Int}(hn:ns.length<=69000){rs0 rs:List BY}(hb:rs.length<=800000000){ats:List tO}(ha:ats.length<=1000):
  CW MK Or (VF w bv rs0 0) false (.loop (sub Qj 0)) (ooS w bv st bV (ns.map λn=>[vi n]) rs ats 0) (.exit 0) {t:=DO 67 0 [(6,.ref (.ptr 2 0))],h:=ofH w bv st (ns.foldl (gi w bv st bV) (rs,ats)).1 (ns.foldl (gi w bv st bV) (rs,ats)).2,m:=[]}:=by
 have hl:ah ns:=by unfold ah;omega
 have:=OS (P:=MK) (Γ:=Or) (h0:=VF w bv rs0 0) (rd:=false) (c:=sub Qj 0) (σ:=RA) (ρ:=Empty) ns (λn s=>.inl (gi w bv st bV s n))
  (λi s=>ooS w bv st bV (ns.map λn=>[vi n]) s.1 s.2 (i:Int)) (.exit 0) (λs=>{t:=DO 67 0 [(6,.ref (.ptr 2 0))],h:=ofH w bv st s.1 s.2,m:=[]}) (λr=>r.elim)
  (λi s=>s.1.length<=rs.length+i*1025/\s.2.length<=ats.length+i*1025) (by simp) (λr=>r.elim) ?_ ?_ (rs,ats) (by simp)
 ·rw[aP] at this
  exact this
 ·intro i n s hni hs
  have hi:=(MR.1 hni).1
  refine⟨λs' h=>by cases h;have:=Cq (w:=w) (bv:=bv) (st:=st) (bV:=bV) s n;omega,Ka hw (rowAt (row:=λn=>[vi n]) hni rfl) (TG (λn=>[vi n]) hi) (T4 hi hl) (by omega) (by omega)⟩
 ·intro s _
  exact Kb (be (λn=>[vi n]) ns)
theorem oo_cw{w:iS}(hw:w.ok){bv st bV:Int}{ns:List Int}(hn:ns.length<=69000){rs0 rs:List BY}(hb:rs.length<=800000000):
  CW MK Or (VF w bv rs0 0) false (.loop (sub Qj 0)) (ooS w bv st bV (ns.map λn=>[vi n]) rs [] 0) (.exit 0) {t:=DO 67 0 [(6,.ref (.ptr 2 0))],h:=ofH w bv st (ns.foldl (gi w bv st bV) (rs,[])).1 (ns.foldl (gi w bv st bV) (rs,[])).2,m:=[]}:=oo_g hw hn hb (by simp)
def DN(w:iS)(bv st bV:Int)(rs:List BY):RA:=(aj w.f bv).foldl (gi w bv st bV) (rs++[Xw],[])
def wu(w:iS)(bv st bV:Int)(rs:List BY):List tO:=(DN w bv st bV rs).2.mergeSort leA
theorem ce{fs:List If}{bv:Int}:(aj fs bv).length<=fs.length:=by
 have:=iG (many:=Hi fs bv) fs []
 simp at this
 unfold aj Hh
 simpa using this
noncomputable abbrev Kc(w:iS)(bv:Int)(st:Int)(bV:Int)(rs:List BY):List iN:=[.var [.ref (.bY 1 1),ab (ML MX w.c),ab w.p,ab (ML M4 w.s),ab (ML MY w.f),aT bv],.bY (ad (M2 (Nx (gi w bv st bV) (rs++[Xw],[]) (aj w.f bv)).fst)) 1 5,.var [aT st,.ref (.bY 3 0)],.bY (ad (ML MQ (Nx (gi w bv st bV) (rs++[Xw],[]) (aj w.f bv)).2)) 0 5]
noncomputable abbrev Ke(w:iS)(bv:Int)(st:Int)(bV:Int)(rs:List BY):List iN:=[.var [.ref (.bY 1 1),ab (ML MX w.c),ab w.p,ab (ML M4 w.s),ab (ML MY w.f),aT bv],.bY (ad (M2 (Nx (gi w bv st bV) (rs++[Xw],[]) (aj w.f bv)).fst)) 1 5,.var [aT st,.ref (.bY 3 0)],.bY (ad (ML MQ (Sz (DN w bv st bV rs).2 leA))) 0 5]
theorem of_a{w:iS}(hw:w.ok){bv st bV:Int}{rs:List BY}(hb:rs.length<=700000000)(hn:(aj w.f bv).length<=69000)(hl:(DN w bv st bV rs).2.length<4611686018427387904)(hT:∀x∈(DN w bv st bV rs).2,∀y∈(DN w bv st bV rs).2,x.bV=y.bV->x.dO=y.dO->x=y):(Ev MK Or 91 [.ref (.ptr 0 0),aT st,aT bV] (VF w bv rs 0) (.agg [aT st,ab ((wu w bv st bV rs).map MQ)]) (VF w bv (DN w bv st bV rs).1 1)):=by
 have Tv:=(@oo_cw (w) (hw) (bv) (st) (bV) (aj w.f bv) (hn) (rs) (rs++[Xw]) (by grind))
 let v0:List D:=[.ref (.bY 1 1),ab (ML MX w.c),ab w.p,ab (ML M4 w.s),ab (ML MY w.f),aT bv]
 let v1:=ML MQ (wu w bv st bV rs)
 let v2:=Nx (gi w bv st bV) (rs++[Xw],[]) (aj w.f bv)
 refine Na (RJ (d2:=Nk [aT st,ab v1]) (h2:=[.var v0,.bY (ad (M2 v2.fst)) 1 5]) (φ:=[ad (ML MQ (Sz (DN w bv st bV rs).2 leA))=ML (λx=>ML D.p x) v1,ML (Nm (ed 3 0 v1)) (ad (M2 v2.fst))=ad (M2 v2.fst),MZ 2 (match 0==3 with|true=>.T1|false=>ST (ed 3 0 v1) (.var v0))=true,MZ 2 (match 0+1==3 with|true=>.T1|false=>ST (ed 3 0 v1) (.bY (ad (M2 v2.fst)) 1 5))=true]) [.st (.Vw 3 v1),.st (.TD 2)] (yF (h':=(Ke w bv st bV rs)) (d:=Nk [aT st,.ref (.bY 3 0)]) [.c ((fX [0,1] (@Fy w hw bv rs (by subst v0 v1 v2;grind)) ⟨(by subst v0 v1 v2;exact ak _ _),trivial⟩ ⟨(by subst v0 v1 v2;exact ak _ _),trivial⟩):Ev MK Or 93 [.ref (.ptr 0 0)] [.var [.ref (.bY 1 0),ab (ML MX w.c),ab w.p,ab (ML M4 w.s),ab (ML MY w.f),aT bv],.bY (ad (M2 rs)) 0 5,.var [aT st,nq]] (ab (ML (λn=>[vi n]) (aj w.f bv))) [.var v0,.bY (ad (M2 (rs++[Xw]))) 1 5,.var [aT st,nq]]),.o (.WS 2 1 5),.s [0,1,2,6,16,17,18] Tv,.c (M9 (Γ':=Or) (@ws (Kc w bv st bV rs) 3 0 ((DN w bv st bV rs).2) ?_ hl hT))]) (by kernel_rfl) ⟨?_,?_,rfl,?_,trivial⟩) (by rfl) (by rfl)<;>subst v0 v1 v2<;>(first|rfl|exact aX _ _|exact b9)
def ptO(rs:List Int)(n:Nat):Option UL:=bif Zd (rs.getD n 0>=0) then some ⟨(n:Int),rs.getD n 0⟩ else none
theorem Kf(rs:List Int)(x to:Int):Hx rs x to=(Oo x.toNat (Ad to-x).toNat).filterMap (ptO rs):=by
 have key:∀(ns:List Nat) (l:List UL),ns.foldl (λl n=>ZK (rs.getD n 0) n l) l=l++ns.filterMap (ptO rs):=by
  intro ns
  induction ns with
  | nil=>intro l;simp
  | cons n ns ih =>
   intro l
   rw[NI,ih,S8]
   grind [ZK,ptO]
 unfold Hx
 rw[key];simp
theorem Kg{rs:List Int}{x to:Int}:(Hx rs x to).Pairwise λp q=>p.bV<q.bV:=by
 rw[Kf]
 refine List.Pairwise.filterMap (R:=λa b=>a<b) (ptO rs) ?_ (List.pairwise_lt_range' ..)
 intro a b hab p hp q hq
 unfold ptO at hp hq
 grind
theorem zJ{kk ks ko Do to bv:Int}{l:List If}:(cy kk ks ko Do to bv l).Pairwise λp q=>p.bV<q.bV:=Kg
def attO(w:iS)(bv n:Int)(p:UL):Option tO:=bif Ws p then none else some (J7 w bv n p)
def rdO(n:Int)(p:UL):List BY:=bif Ws p then [] else Vm 1 n 0 p.bV
theorem uK(w:iS)(bv n:Int):∀(ps:List UL) (s:RA),ps.foldl (uJ w bv n) s=(s.1++ps.flatMap (rdO n),s.2++ps.filterMap (attO w bv n))
 | [],s=>by simp
 | p::ps,s=>by
  rw[NI,uK w bv n ps,S8,List.flatMap_cons]
  grind [uJ,attO,rdO]
abbrev Fz(w:iS)(bv st bV n:Int):List UL:=cy 5 st n 0 bV bv w.f
def gG(w:iS)(bv st bV n:Int):List BY:=⟨5,st,n,0,bV⟩::(Fz w bv st bV n).flatMap (rdO n)
def jL(w:iS)(bv st bV n:Int):List tO:=(Fz w bv st bV n).filterMap (attO w bv n)
theorem zbb(w:iS)(bv st bV:Int)(s:RA)(n:Int):gi w bv st bV s n=(s.1++gG w bv st bV n,s.2++jL w bv st bV n):=by
 grind [uK,gG,jL,gi]
theorem wv(w:iS)(bv st bV:Int)(rs:List BY):DN w bv st bV rs=(rs++Xw::(aj w.f bv).flatMap (gG w bv st bV),(aj w.f bv).flatMap (jL w bv st bV)):=by
 have key:∀(ns:List Int) (s:RA),ns.foldl (gi w bv st bV) s=(s.1++ns.flatMap (gG w bv st bV),s.2++ns.flatMap (jL w bv st bV)):=by
  intro ns
  induction ns with
  | nil=>intro s;simp
  | cons n ns ih=>intro s;rw[NI,ih,zbb];simp
 unfold DN
 rw[key];simp
def jM(w:iS)(bv st bV:Int):List BY:=Xw::(aj w.f bv).flatMap (gG w bv st bV)
def lE(w:iS)(bv st bV:Int):List tO:=(aj w.f bv).flatMap (jL w bv st bV)
def Kh(w:iS)(bv st bV:Int):List tO:=(lE w bv st bV).mergeSort leA
theorem jN{w:iS}{bv st bV n:Int}{a:tO}(h:a∈jL w bv st bV n):a.dO=n/\∃p∈Fz w bv st bV n,Ws p=false/\a=J7 w bv n p:=by
 unfold jL at h
 obtain⟨p,hp,he⟩:=List.mem_filterMap.1 h
 unfold attO at he
 cases hb:Ws p<;>rw[hb] at he<;>simp at he
 subst he
 exact⟨rfl,p,hp,hb,rfl⟩
theorem FA{w:iS}{bv st bV:Int}:∀x∈lE w bv st bV,∀y∈lE w bv st bV,x.bV=y.bV->x.dO=y.dO->x=y:=by
 intro x hx y hy ht hc
 obtain⟨n,hn,hx⟩:=List.mem_flatMap.1 hx
 obtain⟨n',hn',hy⟩:=List.mem_flatMap.1 hy
 obtain⟨e1,p,hp,_,rfl⟩:=jN hx
 obtain⟨e2,q,hq,_,rfl⟩:=jN hy
 have:n=n':=by rw[<-e1,<-e2,hc]
 subst this
 have hpq:p=q:=by
  have hinc:=zJ (kk:=5) (ks:=st) (ko:=n) (Do:=0) (to:=bV) (bv:=bv) (l:=w.f)
  have key:∀(l:List UL),l.Pairwise (λp q=>p.bV<q.bV)->∀p∈l,∀q∈l,p.bV=q.bV->p=q:=by
   intro l
   induction l with
   | nil=>grind
   | cons a l ih =>
    intro hl p hp q hq e
    rw[List.pairwise_cons] at hl
    grind
  exact key _ hinc p hp q hq ht
 rw[hpq]
theorem eC{α β:Type}(f:α->List β)(k:Nat):∀l:List α,(∀a∈l,(f a).length<=k)->(l.flatMap f).length<=l.length*k
 | [],_=>by simp
 | a::l,h=>by
  have:=eC f k l (λb hb=>h b (by simp[hb]))
  grind[List.length_append,N3,Nat.add_mul]
theorem qu{w:iS}(hw:w.ok){bv st bV:Int}:(lE w bv st bV).length<=70656000:=by
 have h1:=eC (jL w bv st bV) 1024 (aj w.f bv) (λn _=>OX (List.length_filterMap_le ..) eB)
 have h2:=ce (fs:=w.f) (bv:=bv)
 have h3:=hw.lf
 grind [lE]
theorem ww{w:iS}{bv st bV n:Int}:(gG w bv st bV n).length<=1025:=by
 unfold gG
 have h1:=eC (rdO n) 1 (Fz w bv st bV n) (λp _=>by unfold rdO;grind [fV])
 have h2:=eB (kk:=5) (ks:=st) (ko:=n) (Do:=0) (to:=bV) (bv:=bv) (l:=w.f)
 grind
theorem uL{w:iS}(hw:w.ok){bv st bV:Int}:(jM w bv st bV).length<=70725001:=by
 have h1:=eC (gG w bv st bV) 1025 (aj w.f bv) (λn _=>ww)
 have h2:=ce (fs:=w.f) (bv:=bv)
 have h3:=hw.lf
 grind [N3,jM]
theorem FB{w:iS}(hw:w.ok){bv st bV:Int}{rs:List BY}(hb:rs.length<=700000000):Ev MK Or 91 [.ref (.ptr 0 0),aT st,aT bV] (VF w bv rs 0) (.agg [aT st,ab ((Kh w bv st bV).map MQ)]) (VF w bv (rs++jM w bv st bV) 1):=by
 have h:=of_a hw (bv:=bv) (st:=st) (bV:=bV) hb (OX ce hw.lf) (by rw[wv];have:=qu hw (bv:=bv) (st:=st) (bV:=bV);grind [lE]) (by rw[wv];exact FA)
 unfold wu at h
 rw[wv] at h
 exact h
end Go.Vi
