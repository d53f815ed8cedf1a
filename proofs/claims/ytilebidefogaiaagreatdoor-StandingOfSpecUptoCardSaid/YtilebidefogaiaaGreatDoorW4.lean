/- StandingOfSpecUpto: part of the proof: contracts of the functions that the law reaches, and the law. No conditions beyond the given statement's own. -/
import Derived.Test.YtilebidefogaiaaGreatDoorW3
import Derived.Shelf.SlSortCmp.NoneTotal
import Derived.Sort.EveryDepth
open List renaming map_cons → GJ, idxOf?_eq_none_iff → IT, all_append → JK, map_append → HO, length → Fu, map → Fo, all → FN, contains → G7, getElem?_eq_some_iff → Fy, length_cons → GF, mergeSort → KQ, mem_map → FY, map_set → KI, flatten → FO, set → H0, range' → Jj, length_range' → LA, getElem_range' → Lq, getD → FG, getElem?_eq_getElem → FK, cons_append → Jz, flatten_cons → Gs, foldl → Gx, range → Gy, length_map → GB, all_eq_true → FZ, replicate → FX, getElem?_append_left → FQ, getElem?_append_right → Ga, ext_getElem? → Ia, getElem?_eq_none → GG, mergeSort_perm → JL
open Go.Vi.D renaming mapRL → GA, mapR → Gl, innL → F6, inn → Hg, any → HM, agg → FU, fn → GX, grd → JE
open Function renaming comp_def → KP
open Go.Vi.Blk renaming inn → FL
open Go.Proofs.Tryz renaming prog → Fp, f34 → K8, f159 → F0, f178 → Jd, f111 → Kt
open Go.IntKind renaming i64 → Fs, wrap → Fz
open Go.Vi.Dp renaming v → GT
open Go.Value renaming tuple → Gk, oneCell' → HU
open Go.Exit renaming normal → FH, exit → Gf
open Bool renaming false_and → GC, and_false → GD, and_self → Hq, not_eq_true' → GN
open Go.Vi.FactT renaming row → FC
open Go.Operand renaming const → Ji, tmp → KR
open Go.Vi.CW renaming each → Ha
open Go.Vi.Ev renaming castH → FP
open Go.LoopState renaming busy → Hi, ready → F9, exhausted → Gq
open Go.Fn renaming func → F4
open Int renaming toNat → FA
open Option renaming some → Hr
open Nat renaming one_mul → J0, le_of_not_lt → HV
open Go.Sort renaming grow → Je, heap_grow_old → IQ, putRow → G6, mapBlock → G2, ahead → Ho, putCells → HL
open Array renaming getElem?_toList → GL, getElem?_eq_some_iff → Hh, getElem?_modify → Ie, getElem?_eq_getElem → Gt, extract_size → Ls
open Go.World renaming cell? → J7
open Go.Calls renaming mono → Lr
open Go Go.Proofs
namespace Go.Vi
set_option maxRecDepth 100000
set_option maxHeartbeats 4000000
abbrev aO : D:=lit (.slice none 0 0)
abbrev bG (l : List Int) : List (D × D × Nat):=l.zipIdx.map fun p=>(int p.1,bool true,p.2)
abbrev oP (l : List Int) : Blk:=.map (bG l) l.length
theorem ju (c : Int) : ∀ (l : List Int) (k i : Nat),dC (int c) ((l.zipIdx k).map fun p=>(int p.1,bool true,p.2)) i = some (match l.idxOf? c with | some j=>some (i + j,bool true) | none=>none)
 | [],_,_=>rfl
 | a :: l,k,i=>by
  have ih:=ju c l (k + 1) (i + 1)
  simp only [List.zipIdx_cons,GJ,dC,j1,if_true,List.idxOf?_cons]
  by_cases h : a = c
  ·subst h; simp
  ·have h' : (c == a) = false:=by simp; exact fun e=>h e.symm
   have h'' : (a == c) = false:=by simp; exact h
   rw [h',h'',ih]
   cases l.idxOf? c <;> simp <;> omega
theorem vN {P : Program} {h : List Blk} {t : TypeId} {b : Nat} {l : List Int} {c : Int} {kt et : TypeId} (hk : c8 P kt (int c) = true) (ht : P.underlying t = some (.map kt et)) (hz : jX P et = some (.bool false)) (hb : h[b]? = some (oP l)) :
  aA P h t (.ref (.mp b)) (int c) false = some (bool (l.contains c)):=by
 unfold aA
 simp only [ht,nR,hb,hk,if_true,hz,ju c l 0 0]
 cases hi : l.idxOf? c with
 | none =>
  have : l.contains c = false:=by
   rw [IT] at hi
   simpa using hi
  simp only [this]; rfl
 | some j =>
  have : l.contains c = true:=by
   have : ¬ l.idxOf? c = none:=by rw [hi]; simp
   rw [IT] at this
   simpa using this
  simp only [this]; rfl
theorem vO {P : Program} {h : List Blk} {t : TypeId} {b : Nat} {l : List Int} {c : Int} {kt et : TypeId} (hk : c8 P kt (int c) = true) (ht : P.underlying t = some (.map kt et)) (hb : h[b]? = some (oP l)) (hn : l.contains c = false) :
  aB P h t (.ref (.mp b)) (int c) (bool true) = some (h.set b (oP (l ++ [c]))):=by
 have hi : l.idxOf? c = none:=by rw [IT]; simpa using hn
 unfold aB
 simp only [ht,hb,hk,if_true,ju c l 0 0,hi]
 simp [oP,bG,List.zipIdx_append]
abbrev nuV (l : List Int) : List (List D):=l.map fun n=>[int n]
theorem oQ (l : List Int) (f : Ref → D) : (nuV l).map (GA f) = nuV l:=by simp [nuV,GA,Gl,KP]
theorem el (l : List Int) (k : Nat) : (nuV l).all (F6 k) = true:=by simp [nuV,F6,Hg]
theorem iN (n : Nat) (l : List Int) (e sz : Nat) : FL n (.vec (nuV l) e sz) = true:=el l n
theorem nM (l : List Int) (a b c : Nat) : (nuV l).map (GA (aM a b c)) = nuV l:=oQ l (aM a b c)
theorem iNa (n : Nat) (l : List Int) (b : List (List D)) (e sz : Nat) (h : b.all (F6 n) = true:=by rfl) : FL n (.vec (nuV l ++ b) e sz) = true:=(JK).trans (by rw [el l n,h]; rfl)
theorem nMa (l : List Int) (q : List (List D)) (a b c : Nat) (h : q.map (GA (aM a b c)) = q:=by rfl) : (nuV l ++ q).map (GA (aM a b c)) = nuV l ++ q:=HO.trans (by rw [oQ l,h])
theorem lG (l : List Int) (n : Int) : nuV l ++ [[int n]] = nuV (l ++ [n]):=by simp [nuV]
theorem lH (l : List Int) : (nuV l).length = l.length:=by simp [nuV]
abbrev nuH (c0 c1 c2 : List (List Dp)) (fs : List (List Dp)) (s : Blk) (v : List (List D)) : List Blk:=[.var [ab c0,ab c1,ab c2,ab fs],.var [int 12,int 0,int 0],s,.vec v 0 1]
abbrev nuS (c0 c1 c2 : List (List Dp)) (fs : List (List Dp)) (many : Int) (s : Blk) (v : List (List D)) (i : Int) : AS :=
 { t:=mkT 70 0 [(4,.ref (.vec 3 0)),(5,aO),(6,.ref (.ptr 1 0)),(7,int many),(9,.ref (.mp 2)),(24,ab fs),(25,int fs.length),(26,int i)],h:=nuH c0 c1 c2 fs s v,m:=[] }
abbrev nuE (c0 c1 c2 : List (List Dp)) (fs : List (List Dp)) (many : Int) (s : Blk) (v : List (List D)) : AS :=
 { t:=mkT 70 0 [(4,.ref (.vec 3 0)),(5,aO),(6,.ref (.ptr 1 0))],h:=nuH c0 c1 c2 fs s v,m:=[] }
def isNew (f : FactT) (l : List Int) : Bool:=f.kind == 1 && (f.obj == 0 && (decide (f.sub ≥ 0) && decide (f.sub ≤ 4095) && !l.contains f.sub))
def nuF (many : Int) (f : FactT) (l : List Int) : List Int ⊕ List Int:=if decide ((l.length : Int) ≥ many) = true then .inr l else .inl (bif isNew f l then l ++ [f.sub] else l)
theorem eL (l : List Int) (k : Nat) : ((bG l).all fun e=>Hg k e.1 && Hg k e.2.1) = true:=by simp [bG,Hg]
theorem eM (l : List Int) (f : Ref → D) : (bG l).map (fun e=>(Gl f e.1,Gl f e.2.1,e.2.2)) = bG l:=by simp [bG,Gl,KP]
theorem Bd {many : Int} {f : FactT} {l : List Int} (h : decide (((nuV l).length : Int) ≥ many) = true) : nuF many f l = .inr l:=by
 rw [lH] at h; simp only [nuF,h,if_true]
theorem fT {many : Int} {f : FactT} {l : List Int} (h : decide (((nuV l).length : Int) ≥ many) = false) (hn : isNew f l = false) : nuF many f l = .inl l:=by
 rw [lH] at h; simp [nuF,h,hn]
theorem yy {many : Int} {f : FactT} {l : List Int} (h : decide (((nuV l).length : Int) ≥ many) = false) (hn : isNew f l = true) : nuF many f l = .inl (l ++ [f.sub]):=by
 rw [lH] at h; simp [nuF,h,hn]
theorem lk152 {h : List Blk} {l : List Int} {c : Int} (hb : h[2]? = some (oP l)) : aA Fp h 152 (.ref (.mp 2)) (int c) false = some (bool (l.contains c)):=vN (kt:=3) (et:=4) (by kernel_rfl) (by kernel_rfl) (by kernel_rfl) hb
theorem up152 {h : List Blk} {l : List Int} {c : Int} (hb : h[2]? = some (oP l)) (hn : (!l.contains c) = true) : aB Fp h 152 (.ref (.mp 2)) (int c) (bool true) = some (h.set 2 (oP (l ++ [c]))):=vO (kt:=3) (et:=4) (by kernel_rfl) (by kernel_rfl) hb (by simpa using hn)
noncomputable abbrev dt (c0 : List (List Dp)) (c1 : List (List Dp)) (c2 : List (List Dp)) (fs : List (List Dp)) (l : List Int) (f : FactT) : List Blk:=[.var [ab c0,ab c1,ab c2,ab fs],.var [int 12,int 0,int 0],.map (bG l) (Fu l),.vec (nuV l) 0 1,.var [int f.kind,int f.sub,int f.obj,int f.value,int f.frm,int f.til,int f.known,int f.no]]
theorem Es {c0 c1 c2 : List (List Dp)} {fs : List (List Dp)} {many : Int} {l : List Int} {i : Nat} {f : FactT} (hr : ah (i : Int) fs f.row 8) (hlt : decide ((i : Int) < (fs.length : Int)) = true) (hw : Fs.wrap ((i : Int) + 1) = ((i + 1 : Nat) : Int)) (hl : l.length ≤ 70000)
  (hp : ∀ f,(nuV l).map (GA f) = nuV l) (hi : ∀ k,(nuV l).all (F6 k) = true) : (CW Fp Γ0 [] false (sub K8 0) (nuS c0 c1 c2 fs many (oP l) (nuV l) i) (ae (fun l'=>nuS c0 c1 c2 fs many (oP l') (nuV l') ((i + 1 : Nat) : Int)) (fun l=>(.exit 0,nuE c0 c1 c2 fs many (oP l) (nuV l))) (nuF many f l)).1 (ae (fun l'=>nuS c0 c1 c2 fs many (oP l') (nuV l') ((i + 1 : Nat) : Int)) (fun l=>(.exit 0,nuE c0 c1 c2 fs many (oP l) (nuV l))) (nuF many f l)).2):=by
 cases hc0 : decide ((↑(Fu (nuV l)) : Int) ≥ many)
 ·cases hc1 : f.kind == 1
  ·let v0:=D.p (GT (Gk { toList:=[] }))
   refine zX { t:=mkT 70 0 [(4,.ref (.vec 3 0)),(5,nq),(6,.ref (.ptr 1 0)),(7,int many),(9,.ref (.mp 2)),(24,ab fs),(25,int (↑(Fu fs) : Int)),(26,int (Fz Fs ((↑i : Int) + 1)))],h:=[.var [ab c0,ab c1,ab c2,ab fs],.var [int 12,int 0,int 0],.map (bG l) (Fu l),.vec (nuV l) 0 1],m:=[] } FH [.st (.mask [4,5,6,7,9,24,25,26]),.st (.ren 3 0),.st (.trim 4)] [.b true,.row [vi f.kind,vi f.sub,vi f.obj,vi f.value,vi f.frm,vi f.til,vi f.known,vi f.no],.b false,.g false,.g false,.g false,.g false,.ov 46 (bool false),.g false,.g false,.ov 50 (bool false),.g false,.g false,.g false,.g false,.ov 56 (bool false),.b false] (.c hlt (.c hr (.c hc0 (.c (eqb hc1) (.c (eqb hc1) (.c (eqb hc1) (.c (eqb hc1) (.c (pkf v0 (bool false) hc1) (.f (.f (.c (pkf v0 (bool false) rfl) (.f (.f (.f (.f (.c (pkf v0 (bool false) rfl) (.er false (.c (nM l 3 0 0) (.c (show Fo (fun e=>(Gl (aM 3 0 0) e.fst,Gl (aM 3 0 0) e.snd.fst,e.snd.snd)) (bG l) = bG l from ?_) (.c (show (FN (bG l) fun e=>Hg 4 e.fst && Hg 4 e.snd.fst) = true from ?_) (.c (show FN (nuV l) (F6 4) = true from ?_) .n))))))))))))))))))))) (by subst v0; (rw [fT hc0] <;> first | (simp only [isNew,hc1,GC]; done) | (simp only [ae]; done) | (simp only [ae,hw]; rfl))) (by subst v0; (rw [fT hc0] <;> first | (simp only [isNew,hc1,GC]; done) | (simp only [ae,hw]; done) | (simp only [ae,hw]; rfl))) <;> subst v0 <;> (first | exact eL _ _ | exact eM _ _ | exact el _ _)
  ·cases hc2 : f.obj == 0
   ·refine zX { t:=mkT 70 0 [(4,.ref (.vec 3 0)),(5,nq),(6,.ref (.ptr 1 0)),(7,int many),(9,.ref (.mp 2)),(24,ab fs),(25,int (↑(Fu fs) : Int)),(26,int (Fz Fs ((↑i : Int) + 1)))],h:=[.var [ab c0,ab c1,ab c2,ab fs],.var [int 12,int 0,int 0],.map (bG l) (Fu l),.vec (nuV l) 0 1],m:=[] } FH [.st (.mask [4,5,6,7,9,24,25,26]),.st (.ren 3 0),.st (.trim 4)] [.b true,.row [vi f.kind,vi f.sub,vi f.obj,vi f.value,vi f.frm,vi f.til,vi f.known,vi f.no],.b false,.g true,.g true,.g true,.g true,.ov 46 (bool (f.obj == 0)),.g false,.g false,.ov 50 (bool false),.g false,.g false,.g false,.g false,.ov 56 (bool false),.b false] (.c hlt (.c hr (.c hc0 (.c (eqa hc1) (.c (eqa hc1) (.c (eqa hc1) (.c (eqa hc1) (.c (pkt (bool (f.obj == 0)) (bool false) hc1) (.c (eqb hc2) (.c (eqb hc2) (.c (pkf (D.p (GT (Gk { toList:=[] }))) (bool false) hc2) (.f (.f (.f (.f (.c (pkf (D.p (GT (Gk { toList:=[] }))) (bool false) rfl) (.er false (.c (nM l 3 0 0) (.c (show Fo (fun e=>(Gl (aM 3 0 0) e.fst,Gl (aM 3 0 0) e.snd.fst,e.snd.snd)) (bG l) = bG l from ?_) (.c (show (FN (bG l) fun e=>Hg 4 e.fst && Hg 4 e.snd.fst) = true from ?_) (.c (show FN (nuV l) (F6 4) = true from ?_) .n))))))))))))))))))))) (by (rw [fT hc0] <;> first | (simp only [isNew,hc1,hc2,GD,GC]; done) | (simp only [ae]; done) | (simp only [ae,hw]; rfl))) (by (rw [fT hc0] <;> first | (simp only [isNew,hc1,hc2,GD,GC]; done) | (simp only [ae,hw]; done) | (simp only [ae,hw]; rfl))) <;> (first | exact eL _ _ | exact eM _ _ | exact el _ _)
   ·cases hc3 : decide (f.sub ≥ 0) && decide (f.sub ≤ 4095)
    ·refine zX { t:=mkT 70 0 [(4,.ref (.vec 3 0)),(5,nq),(6,.ref (.ptr 1 0)),(7,int many),(9,.ref (.mp 2)),(24,ab fs),(25,int (↑(Fu fs) : Int)),(26,int (Fz Fs ((↑i : Int) + 1)))],h:=[.var [ab c0,ab c1,ab c2,ab fs],.var [int 12,int 0,int 0],.map (bG l) (Fu l),.vec (nuV l) 0 1],m:=[] } FH [.st (.mask [4,5,6,7,9,24,25,26]),.st (.ren 3 0),.st (.trim 4)] [.b true,.row [vi f.kind,vi f.sub,vi f.obj,vi f.value,vi f.frm,vi f.til,vi f.known,vi f.no],.b false,.g true,.g true,.g true,.g true,.ov 46 (bool (f.obj == 0)),.g true,.g true,.val (bool (decide (f.sub ≥ 0) && decide (f.sub ≤ 4095))),.ov 50 (bool (decide (f.sub ≥ 0) && decide (f.sub ≤ 4095))),.g false,.g false,.g false,.g false,.ov 56 (bool false),.b false] (.c hlt (.c hr (.c hc0 (.c (eqa hc1) (.c (eqa hc1) (.c (eqa hc1) (.c (eqa hc1) (.c (pkt (bool (f.obj == 0)) (bool false) hc1) (.c (eqa hc2) (.c (eqa hc2) (.c (@cn (f.sub) 0 4095 (dt c0 c1 c2 fs l f)) (.c (pkt (bool (decide (f.sub ≥ 0) && decide (f.sub ≤ 4095))) (bool false) hc2) (.c (eqb hc3) (.c (eqb hc3) (.c (eqb hc3) (.c (eqb hc3) (.c (pkf (D.p (GT (Gk { toList:=[] }))) (bool false) hc3) (.er false (.c (nM l 3 0 0) (.c (show Fo (fun e=>(Gl (aM 3 0 0) e.fst,Gl (aM 3 0 0) e.snd.fst,e.snd.snd)) (bG l) = bG l from ?_) (.c (show (FN (bG l) fun e=>Hg 4 e.fst && Hg 4 e.snd.fst) = true from ?_) (.c (show FN (nuV l) (F6 4) = true from ?_) .n)))))))))))))))))))))) (by (rw [fT hc0] <;> first | (simp only [isNew,hc1,hc2,hc3,GD,GC]; done) | (simp only [ae]; done) | (simp only [ae,hw]; rfl))) (by (rw [fT hc0] <;> first | (simp only [isNew,hc1,hc2,hc3,GD,GC]; done) | (simp only [ae,hw]; done) | (simp only [ae,hw]; rfl))) <;> (first | exact eL _ _ | exact eM _ _ | exact el _ _)
    ·cases hc4 : !G7 l f.sub
     ·refine zX { t:=mkT 70 0 [(4,.ref (.vec 3 0)),(5,nq),(6,.ref (.ptr 1 0)),(7,int many),(9,.ref (.mp 2)),(24,ab fs),(25,int (↑(Fu fs) : Int)),(26,int (Fz Fs ((↑i : Int) + 1)))],h:=[.var [ab c0,ab c1,ab c2,ab fs],.var [int 12,int 0,int 0],.map (bG l) (Fu l),.vec (nuV l) 0 1],m:=[] } FH [.st (.mask [4,5,6,7,9,24,25,26]),.st (.ren 3 0),.st (.trim 4)] [.b true,.row [vi f.kind,vi f.sub,vi f.obj,vi f.value,vi f.frm,vi f.til,vi f.known,vi f.no],.b false,.g true,.g true,.g true,.g true,.ov 46 (bool (f.obj == 0)),.g true,.g true,.val (bool (decide (f.sub ≥ 0) && decide (f.sub ≤ 4095))),.ov 50 (bool (decide (f.sub ≥ 0) && decide (f.sub ≤ 4095))),.g true,.g true,.g true,.ov 54 (bool (G7 l f.sub)),.g true,.ov 56 (bool !G7 l f.sub),.b false] (.c hlt (.c hr (.c hc0 (.c (eqa hc1) (.c (eqa hc1) (.c (eqa hc1) (.c (eqa hc1) (.c (pkt (bool (f.obj == 0)) (bool false) hc1) (.c (eqa hc2) (.c (eqa hc2) (.c (@cn (f.sub) 0 4095 (dt c0 c1 c2 fs l f)) (.c (pkt (bool (decide (f.sub ≥ 0) && decide (f.sub ≤ 4095))) (bool false) hc2) (.c (eqa hc3) (.c (eqa hc3) (.c (eqa hc3) (.c (show aA Fp (dt c0 c1 c2 fs l f) 152 (.ref (.mp 2)) (int f.sub) false = some (bool (G7 l f.sub)) from ?_) (.c (eqa hc3) (.c (pkt (bool !G7 l f.sub) (bool false) hc3) (.c hc4 (.c (nM l 3 0 0) (.c (show Fo (fun e=>(Gl (aM 3 0 0) e.fst,Gl (aM 3 0 0) e.snd.fst,e.snd.snd)) (bG l) = bG l from ?_) (.c (show (FN (bG l) fun e=>Hg 4 e.fst && Hg 4 e.snd.fst) = true from ?_) (.c (show FN (nuV l) (F6 4) = true from ?_) .n))))))))))))))))))))))) (by (rw [fT hc0] <;> first | (simp only [isNew,hc1,hc2,hc3,hc4,GD]; done) | (simp only [ae]; done) | (simp only [ae,hw]; rfl))) (by (rw [fT hc0] <;> first | (simp only [isNew,hc1,hc2,hc3,hc4,GD]; done) | (simp only [ae,hw]; done) | (simp only [ae,hw]; rfl))) <;> (first | exact lk152 (l:=l) rfl | exact eL _ _ | exact eM _ _ | exact el _ _)
     ·let v0 : List D:=[int f.kind,int f.sub,int f.obj,int f.value,int f.frm,int f.til,int f.known,int f.no]
      refine zX { t:=mkT 70 0 [(4,.ref (.vec 3 0)),(5,nq),(6,.ref (.ptr 1 0)),(7,int many),(9,.ref (.mp 2)),(24,ab fs),(25,int (↑(Fu fs) : Int)),(26,int (Fz Fs ((↑i : Int) + 1)))],h:=[.var [ab c0,ab c1,ab c2,ab fs],.var [int 12,int 0,int 0],.map (bG (l ++ [f.sub])) (Fu (l ++ [f.sub])),.vec (nuV l ++ [[int f.sub]]) 0 1],m:=[] } FH [.st (.mask [4,5,6,7,9,24,25,26]),.st (.ren 3 0),.st (.trim 4)] [.b true,.row [vi f.kind,vi f.sub,vi f.obj,vi f.value,vi f.frm,vi f.til,vi f.known,vi f.no],.b false,.g true,.g true,.g true,.g true,.ov 46 (bool (f.obj == 0)),.g true,.g true,.val (bool (decide (f.sub ≥ 0) && decide (f.sub ≤ 4095))),.ov 50 (bool (decide (f.sub ≥ 0) && decide (f.sub ≤ 4095))),.g true,.g true,.g true,.ov 54 (bool (G7 l f.sub)),.g true,.ov 56 (bool !G7 l f.sub),.b true,.oh 10057 HM (nuH c0 c1 c2 fs (oP (l ++ [f.sub])) (nuV l) ++ [.var (Fo D.p (FC f))])] (.c hlt (.c hr (.c hc0 (.c (eqa hc1) (.c (eqa hc1) (.c (eqa hc1) (.c (eqa hc1) (.c (pkt (bool (f.obj == 0)) (bool false) hc1) (.c (eqa hc2) (.c (eqa hc2) (.c (@cn (f.sub) 0 4095 (dt c0 c1 c2 fs l f)) (.c (pkt (bool (decide (f.sub ≥ 0) && decide (f.sub ≤ 4095))) (bool false) hc2) (.c (eqa hc3) (.c (eqa hc3) (.c (eqa hc3) (.c (show aA Fp (dt c0 c1 c2 fs l f) 152 (.ref (.mp 2)) (int f.sub) false = some (bool (G7 l f.sub)) from ?_) (.c (eqa hc3) (.c (pkt (bool !G7 l f.sub) (bool false) hc3) (.c hc4 (.c (show aB Fp (dt c0 c1 c2 fs l f) 152 (.ref (.mp 2)) (int f.sub) (evalD Γ0 (HM :: HM :: HM :: HM :: .ref (.vec 3 0) :: nq :: .ref (.ptr 1 0) :: int many :: HM :: .ref (.mp 2) :: HM :: .ref (.ptr 4 0) :: int f.sub :: HM :: HM :: HM :: HM :: HM :: HM :: HM :: HM :: HM :: HM :: HM :: ab fs :: int (↑(Fu fs) : Int) :: int (↑i : Int) :: bool (decide ((↑i : Int) < (↑(Fu fs) : Int))) :: D.ep [vi f.kind,vi f.sub,vi f.obj,vi f.value,vi f.frm,vi f.til,vi f.known,vi f.no] :: FU v0 :: .ref (.vec 3 0) :: int (↑(Fu (nuV l)) : Int) :: int many :: bool (decide ((↑(Fu (nuV l)) : Int) ≥ many)) :: .ref (.ptr 4 0) :: .ref (.ptr 4 1) :: int f.sub :: .ref (.ptr 4 0) :: .ref (.ptr 4 0) :: int f.kind :: bool (f.kind == 1) :: bool (f.kind == 1) :: .ref (.ptr 4 0) :: .ref (.ptr 4 2) :: int f.obj :: bool (f.obj == 0) :: bool (f.obj == 0) :: bool (f.obj == 0) :: mkT 22 0 [(0,int f.sub),(1,bool (decide (f.sub ≥ 0) && decide (f.sub ≤ 4095))),(2,bool (decide (f.sub ≥ 0) && decide (f.sub ≤ 4095))),(3,bool (decide (f.sub ≥ 0) && decide (f.sub ≤ 4095))),(4,.ref (.mp 2)),(5,int f.sub),(6,bool (G7 l f.sub)),(7,bool !G7 l f.sub),(8,bool !G7 l f.sub),(9,.ref (.mp 2)),(10,int f.sub)]) (Ji (Value.bool true))) = some [.var [ab c0,ab c1,ab c2,ab fs],.var [int 12,int 0,int 0],.map (bG (l ++ [f.sub])) (Fu (l ++ [f.sub])),.vec (nuV l) 0 1,.var v0] from ?_) (.c (show (FN [[int f.sub]] (aG 1) && roomOk (Fu (nuV l) + Fu [[int f.sub]]) 8) = true from ?_) (.c (nMa l [[int f.sub]] 3 1 0) (.c (show Fo (fun e=>(Gl (aM 3 1 0) e.fst,Gl (aM 3 1 0) e.snd.fst,e.snd.snd)) (bG (l ++ [f.sub])) = bG (l ++ [f.sub]) from ?_) (.er [[int f.sub]] (.c (show (FN (bG (l ++ [f.sub])) fun e=>Hg 4 e.fst && Hg 4 e.snd.fst) = true from ?_) (.c (show FN (nuV l ++ [[int f.sub]]) (F6 4) = true from ?_) .n)))))))))))))))))))))))))) (by subst v0; (rw [yy hc0] <;> first | (simp only [isNew,hc1,hc2,hc3,hc4,Hq]; done) | (simp only [ae]; done) | (simp only [ae,hw,lG]; rfl))) (by subst v0; (rw [yy hc0] <;> first | (simp only [isNew,hc1,hc2,hc3,hc4,Hq]; done) | (simp only [ae,hw,lG]; done) | (simp only [ae,hw,lG]; rfl))) <;> subst v0 <;> (first | exact lk152 (l:=l) rfl | exact up152 (l:=l) rfl (by assumption) | exact eL _ _ | exact eM _ _ | (rw [lG]; exact el _ _) | (simp [aG,D.one,HU,roomOk]; omega))
 ·refine zX { t:=mkT 70 0 [(4,.ref (.vec 3 0)),(5,nq),(6,.ref (.ptr 1 0))],h:=[.var [ab c0,ab c1,ab c2,ab fs],.var [int 12,int 0,int 0],.map (bG l) (Fu l),.vec (nuV l) 0 1],m:=[] } (Gf 0) [.st (.mask [4,5,6]),.st (.trim 4)] [.b true,.row [vi f.kind,vi f.sub,vi f.obj,vi f.value,vi f.frm,vi f.til,vi f.known,vi f.no],.b true] (.c hlt (.c hr (.c hc0 (.c (show (FN (bG l) fun e=>Hg 4 e.fst && Hg 4 e.snd.fst) = true from (by exact eL _ _)) (.c (show FN (nuV l) (F6 4) = true from (by exact el _ _)) .n))))) ?_ ?_ <;> (rw [Bd hc0]; rfl)
theorem Et {c0 c1 c2 : List (List Dp)} {fs : List (List Dp)} {many : Int} {s : Blk} {v : List (List D)} {i : Nat} (hlt : decide ((i : Int) < (fs.length : Int)) = false) : (CW Fp Γ0 [] false (sub K8 0) (nuS c0 c1 c2 fs many s v i) (.exit 0) (nuE c0 c1 c2 fs many s v)):=by
 exact zx [.st (.mask [4,5,6])] [.b false] (.c hlt .n)
def nuG (r : List Int ⊕ List Int) : List Int:=match r with | .inl l=>l | .inr l=>l
theorem sO {many : Int} {f : FactT} {l l' : List Int} (h : nuF many f l = .inl l') : l'.length ≤ l.length + 1:=by
 unfold nuF at h
 split at h
 ·simp at h
 ·simp at h; subst h
  cases isNew f l <;> simp
theorem nu_cw {c0 c1 c2 : List (List Dp)} {many : Int} {fs : List FactT} (hf : fs.length ≤ 69000) :
  CW Fp Γ0 [] false (.loop (sub K8 0)) (nuS c0 c1 c2 (fs.map FC) many (oP []) (nuV []) 0) (.exit 0) (nuE c0 c1 c2 (fs.map FC) many (oP (nuG (forL (nuF many) fs []))) (nuV (nuG (forL (nuF many) fs [])))):=by
 have:=Ha (P:=Fp) (Γ:=Γ0) (h0:=[]) (rd:=false) (c:=sub K8 0) fs (nuF many) (fun i l=>nuS c0 c1 c2 (fs.map FC) many (oP l) (nuV l) (i : Int)) (.exit 0) (fun l=>nuE c0 c1 c2 (fs.map FC) many (oP l) (nuV l)) (fun l=>(.exit 0,nuE c0 c1 c2 (fs.map FC) many (oP l) (nuV l)))
  (fun i l=>l.length ≤ i) (by simp) (by simp) ?_ ?_ [] (by simp)
 ·cases h : forL (nuF many) fs [] <;> rw [h] at this <;> exact this
 ·intro i f l hfi hl
  have hi:=(Fy.1 hfi).1
  refine ⟨fun l' h=>?_,Es (rowAt hfi rfl) (lt_len _ hi) (wrap_succ hi (by omega)) (by omega) (oQ l) (el l)⟩
  have:=sO h
  omega
 ·intro l hl
  exact Et (aC _ fs)
theorem Cr (l : List Int) : nuV l = (l.map fun n=>[vi n]).map (Fo D.p):=by simp [nuV]
theorem Be {x0 x1 x2 : Blk} {l : List Int} (hl : l.length < 4611686018427387904) : Ev Fp Γ0 88 [.ref (.vec 3 0)] [x0,x1,x2,.vec (nuV l) 0 1] (.tup []) [x0,x1,x2,.vec (nuV (l.mergeSort fun x y=>decide (x ≤ y))) 0 1] :=
 vL (h:=[x0,x1,x2,.vec (nuV l) 0 1]) (b:=3) rfl hl
theorem fd {many : Int} : ∀ (fs : List FactT) (l : List Int),(nuG (forL (nuF many) fs l)).length ≤ l.length + fs.length
 | [],l=>by simp [forL,nuG]
 | f :: fs,l=>by
  simp only [forL]
  cases h : nuF many f l with
  | inl l' =>
   have:=sO h
   have:=fd (many:=many) fs l'
   simp only [GF]; omega
  | inr l' =>
   have : l' = l:=by
    unfold nuF at h; split at h
    ·simp at h; exact h.symm
    ·simp at h
   subst this
   simp only [nuG]; omega
theorem Bf {many : Int} {fs : List FactT} (hf : fs.length ≤ 69000) : (nuG (forL (nuF many) fs [])).length < 4611686018427387904:=by
 have:=fd (many:=many) fs []
 simp at this; omega
def c6 (many : Int) (fs : List FactT) : List Int:=nuG (forL (nuF many) fs [])
def yz (fs : List FactT) (known : Int) : Int:=(atR 12 0 0 0 known fs).1
def aj (fs : List FactT) (known : Int) : List Int:=(c6 (yz fs known) fs).mergeSort fun x y=>decide (x ≤ y)
noncomputable abbrev nuB (c0 c1 c2 : List (List Dp)) (fs : List FactT) (known : Int) (r : Blk) : List Blk:=[.var [ab c0,ab c1,ab c2,ab (fs.map FC)],.var [int 12,int 0,int 0],oP (nuG (forL (nuF (atR 12 0 0 0 known fs).1) fs [])),.gone,r]
noncomputable abbrev qU (c0 : List (List Dp)) (c1 : List (List Dp)) (c2 : List (List Dp)) (fs : List FactT) (known : Int) : List Blk:=[.var [ab c0,ab c1,ab c2,ab (Fo FC fs)],.var [int 12,int 0,int 0],.map (bG (nuG (forL (nuF (atR 12 0 0 0 known fs).fst) fs []))) (Fu (nuG (forL (nuF (atR 12 0 0 0 known fs).fst) fs []))),.vec (nuV (nuG (forL (nuF (atR 12 0 0 0 known fs).fst) fs []))) 0 1]
noncomputable abbrev qV (c0 : List (List Dp)) (c1 : List (List Dp)) (c2 : List (List Dp)) (fs : List FactT) : List Blk:=[.var [ab c0,ab c1,ab c2,ab (Fo FC fs)],.var [int 12,int 0,int 0]]
theorem yA {c0 c1 c2 : List (List Dp)} {fs : List FactT} (hf : fs.length ≤ 69000) (hs : ad fs) {known : Int} : (Ev Fp Γ0 34 [.agg [ab c0,ab c1,ab c2,ab (fs.map FC)],int known] [] (.tup [ab ((aj fs known).map fun n=>[vi n]),.ref (.vec 4 0)]) (nuB c0 c1 c2 fs known (.vec [[int 12,int 0,int 0,int 0,int 1]] 0 5))):=by
 have hl0:=(@nu_cw (c0) (c1) (c2) ((atR 12 0 0 0 known fs).fst) (fs) (hf))
 let v0:=Fu (nuG (forL (nuF (atR 12 0 0 0 known fs).fst) fs []))
 let v1 : List D:=[ab c0,ab c1,ab c2,ab (Fo FC fs)]
 refine FP (Ev.of_sym (h':=[.var v1,.var [int 12,int 0,int 0],.map (bG (nuG (forL (nuF (atR 12 0 0 0 known fs).fst) fs []))) v0,.gone,.vec [[int 12,int 0,int 0,int 0,int 1]] 0 5]) (d:=D.tup [ab (Fo (fun n=>[vi n]) (aj fs known)),.ref (.vec 4 0)]) pok [.val (D.tup [int (atR 12 0 0 0 known fs).fst,bool (atR 12 0 0 0 known fs).snd]),.nx 2,.st (.nilT 4 1),.sum [4,5,6,7,9,24,25,26] (Gf 0) { t:=mkT 70 0 [(4,.ref (.vec 3 0)),(5,nq),(6,.ref (.ptr 1 0))],h:=(qU c0 c1 c2 fs known),m:=[] },.call (D.tup []) [.var v1,.var [int 12,int 0,int 0],.map (bG (nuG (forL (nuF (atR 12 0 0 0 known fs).fst) fs []))) v0,.vec (nuV (KQ (nuG (forL (nuF (atR 12 0 0 0 known fs).fst) fs [])) fun x y=>decide (x ≤ y))) 0 1],.st (.frz 3 (Fo (fun n=>[vi n]) (aj fs known)))] (by kernel_rfl) (.c (@D6 12 0 0 0 known fs hs (qV c0 c1 c2 fs)) (.c hl0 (.c (@Be (.var v1) (.var [int 12,int 0,int 0]) (.map (bG (nuG (forL (nuF (atR 12 0 0 0 known fs).fst) fs []))) v0) (nuG (forL (nuF (atR 12 0 0 0 known fs).fst) fs [])) ?_) (.c (show nuV (KQ (nuG (forL (nuF (atR 12 0 0 0 known fs).fst) fs [])) fun x y=>decide (x ≤ y)) = Fo (fun x=>Fo D.p x) (Fo (fun n=>[vi n]) (aj fs known)) from ?_) (.c (show Fo (fun e=>(Gl (gf 3 0 (Fo (fun n=>[vi n]) (aj fs known))) e.fst,Gl (gf 3 0 (Fo (fun n=>[vi n]) (aj fs known))) e.snd.fst,e.snd.snd)) (bG (nuG (forL (nuF (atR 12 0 0 0 known fs).fst) fs []))) = bG (nuG (forL (nuF (atR 12 0 0 0 known fs).fst) fs [])) from ?_) (.e (FU [int 12,int 0,int 0]) .n))))))) (by rfl) (by rfl) <;> subst v0 v1 <;> (first | exact Bf hf | exact eM _ _ | exact Cr _)
theorem yB {c0 c1 c2 : List (List Dp)} {fs : List FactT} (hf : fs.length ≤ 69000) (hs : ad fs) {known : Int} : Ev Fp Γ0 34 [.agg [ab c0,ab c1,ab c2,ab (fs.map FC)],int known] [] (.tup [ab ((aj fs known).map fun n=>[vi n]),.ref (.vec 0 0)]) [.vec [[int 12,int 0,int 0,int 0,int 1]] 0 5] :=
 FP ((yA (c0:=c0) (c1:=c1) (c2:=c2) (known:=known) hf hs).keepB [4] (by kernel_rfl) ⟨rfl,trivial⟩) (by kernel_rfl) (by kernel_rfl)
theorem sP {c0 c1 c2 : List (List Dp)} {fs : List FactT} (hf : fs.length ≤ 69000) (hs : ad fs) {known : Int} (h : List Blk) : Ev Fp Γ0 34 [.agg [ab c0,ab c1,ab c2,ab (fs.map FC)],int known] h (.tup [ab ((aj fs known).map fun n=>[vi n]),.ref (.vec h.length 0)]) (h ++ [.vec [[int 12,int 0,int 0,int 0,int 1]] 0 5]) :=
 (yB (c0:=c0) (c1:=c1) (c2:=c2) (known:=known) hf hs).frameN (by kernel_rfl) rfl h
abbrev cx (l : List FactT) : List (List D):=l.map fun f=>f.row.map .p
abbrev df (l : List Bool) : List (List D):=l.map fun b=>[bool b]
abbrev bb (l : List Int) : List (List D):=l.map fun n=>[int n]
abbrev vaT : List D:=mkT 63 0 [(6,.ref (.ptr 1 0)),(7,.ref (.ptr 2 0)),(8,.ref (.ptr 3 0)),(15,.fn (.func 178) [] [.ref (.ptr 4 0),.ref (.ptr 5 0),.ref (.ptr 6 0)])]
noncomputable abbrev vaL (st : LoopState) : Blk:=.loop st none 0 vaT #[16] (ax (sub F0 0)) (al (sub F0 0))
noncomputable abbrev vaH (kk ks ko known : Int) (fs : List (List Dp)) (rs : List D) (best : List FactT) (some : List Bool) (st : LoopState) (more : List Blk) : List Blk :=
 [.var [int kk,int ks,int ko],.var rs,.var (cx best).flatten,.var (df some).flatten,.var [ab fs],.var [int kk,int ks,int ko],.var [int known],.defd,vaL st] ++ more
abbrev vaU : List D:=mkT 63 0 [(6,.ref (.ptr 1 0)),(7,.ref (.ptr 2 0)),(8,.ref (.ptr 3 0)),(9,.ref (.ptr 10 0))]
theorem va_asg {kk ks ko known : Int} {fs : List (List Dp)} {rs : List D} {best : List FactT} {some : List Bool} {f : FactT} : (CW Fp Γ0 (vaH kk ks ko known fs rs best some .ready [.var (f.row.map .p)]) true (ax (sub F0 0)) { t:=eD vaT [(16,ag f.row)],h:=vaH kk ks ko known fs rs best some .ready [.var (f.row.map .p)],m:=[] } .normal { t:=vaU,h:=vaH kk ks ko known fs rs best some .ready [.var (f.row.map .p),.var (f.row.map .p)],m:=[] }):=by
 let v0 : List D:=[int f.kind,int f.sub,int f.obj,int f.value,int f.frm,int f.til,int f.known,int f.no]
 exact zx [.st (.mask [6,7,8,9])] [] .n
theorem oS {h : List Blk} {off n : Nat} {l : List Bool} {b : Bool} (hb : h[3]? = some (.var (df l).flatten)) (hs : l[n]? = some b) (ho : off = n * 1) : bD Fp h 4 (.ref (.ptr 3 off)) = some (bool b):=by
 subst ho
 exact lk (sz:=1) (j:=0) (row:=[bool b]) (by kernel_rfl) (by kernel_rfl) hb (fun r hr=>by obtain ⟨_,_,rfl⟩:=FY.1 hr; rfl) (by simp [hs]) rfl
theorem yC {h : List Blk} {off n : Nat} {l : List FactT} {g : FactT} (hb : h[2]? = some (.var (cx l).flatten)) (hs : l[n]? = some g) (ho : off = n * 8) : bD Fp h 60 (.ref (.ptr 2 off)) = some (ag g.row):=by
 subst ho
 exact AE (sz:=8) (row:=g.row.map .p) (by kernel_rfl) (by kernel_rfl) hb (by simp [FC]) (by simp [hs])
theorem va_stB {h : List Blk} {off n : Nat} {l : List FactT} {f : FactT} (hb : h[2]? = some (.var (cx l).flatten)) (hn : n < l.length) (ho : off = n * 8) : bH Fp h 60 (.ref (.ptr 2 off)) (ag f.row) = some (h.set 2 (.var (cx (l.set n f)).flatten)):=by
 subst ho
 rw [lm (sz:=8) (new:=f.row.map .p) rfl (by kernel_rfl) rfl hb (by simp [FC]) (by simpa using hn),cx,cx,KI]
theorem va_stS {h : List Blk} {off n : Nat} {l : List Bool} {b : Bool} (hb : h[3]? = some (.var (df l).flatten)) (hn : n < l.length) (ho : off = n * 1) : bH Fp h 4 (.ref (.ptr 3 off)) (bool b) = some (h.set 3 (.var (df (l.set n b)).flatten)):=by
 subst ho
 rw [lm (sz:=1) (new:=[bool b]) rfl (by kernel_rfl) rfl hb (fun r hr=>by obtain ⟨_,_,rfl⟩:=FY.1 hr; rfl) (by simpa using hn),df,df,KI]
theorem nt {α : Type} {l : List α} {n : Nat} {a : α} (h : l[n]? = some a) : n < l.length:=(Fy.1 h).1
def vaHit (f g : FactT) (b : Bool) : Bool:=!b || decide (orI (aN f.known g.known) (aN f.no g.no) ≥ 0)
noncomputable abbrev vaS (kk ks ko known : Int) (fs : List (List Dp)) (rs : List D) (best : List FactT) (some : List Bool) (f : FactT) (t : Int) : AS:={ t:=mkT 63 0 [(6,.ref (.ptr 1 0)),(7,.ref (.ptr 2 0)),(8,.ref (.ptr 3 0)),(9,.ref (.ptr 10 0)),(10,int t)],h:=vaH kk ks ko known fs rs best some .busy [.var (f.row.map .p),.var (f.row.map .p)],m:=[] }
noncomputable abbrev fU (kk : Int) (ks : Int) (ko : Int) (known : Int) (fs : List (List Dp)) (rs : List D) (best : List FactT) (some : List Bool) (f : FactT) : List Blk:=[.var [int kk,int ks,int ko],.var rs,.var (FO (cx best)),.var (FO (df some)),.var [ab fs],.var [int kk,int ks,int ko],.var [int known],.defd,.loop Hi none 0 (mkT 63 0 [(6,.ref (.ptr 1 0)),(7,.ref (.ptr 2 0)),(8,.ref (.ptr 3 0)),(15,GX (F4 178) [] [.ref (.ptr 4 0),.ref (.ptr 5 0),.ref (.ptr 6 0)])]) { toList:=[16] } (ax (sub F0 0)) (al (sub F0 0)),.var [int f.kind,int f.sub,int f.obj,int f.value,int f.frm,int f.til,int f.known,int f.no],.var [int f.kind,int f.sub,int f.obj,int f.value,int f.frm,int f.til,int f.known,int f.no]]
theorem va_b {kk ks ko known : Int} {fs : List (List Dp)} {rs : List D} {best b0 : List FactT} {some s0 : List Bool} {f g f0 : FactT} {n : Nat} {b : Bool} (hb : best[n]? = .some g) (hs : some[n]? = .some b) (hn : inR (n : Int) 1024 = true) (hlt : decide ((n : Int) < if false = true then if 1024 > f.til then 1024 else f.til else if 1024 < f.til then 1024 else f.til) = true) : (CW Fp Γ0 (vaH kk ks ko known fs rs b0 s0 .ready [.var (f0.row.map .p)]) true (sub F0 1) (vaS kk ks ko known fs rs best some f (n : Int)) .normal (vaS kk ks ko known fs rs (bif vaHit f g b then best.set n f else best) (bif vaHit f g b then some.set n true else some) f (Fs.wrap ((n : Int) + 1)))):=by
 cases hc0 : !b || decide (orI (aN f.known g.known) (aN f.no g.no) ≥ 0)
 ·refine zX { t:=mkT 63 0 [(6,.ref (.ptr 1 0)),(7,.ref (.ptr 2 0)),(8,.ref (.ptr 3 0)),(9,.ref (.ptr 10 0)),(10,int (Fz Fs ((↑n : Int) + 1)))],h:=(fU kk ks ko known fs rs best some f),m:=[] } FH [.st (.mask [6,7,8,9,10])] [.b true,.ov 31 (bool b),.ov 37 (ag (FC g)),.val (int (orI (aN f.known g.known) (aN f.no g.no))),.b false] (.c hlt (.c hn (.c (show bD Fp (fU kk ks ko known fs rs best some f) 4 (.ref (.ptr 3 (0 + FA (↑n : Int) * 1))) = Hr (bool b) from ?_) (.c (show (!!b) = true → inR (↑n : Int) 1024 = true from (fun hg=>hn)) (.c (show (!!b) = true → bD Fp (fU kk ks ko known fs rs best some f) 60 (evalD Γ0 (Fo eG (mkT 63 0 [(6,.ref (.ptr 1 0)),(7,.ref (.ptr 2 0)),(8,.ref (.ptr 3 0)),(9,.ref (.ptr 10 0)),(10,int (↑n : Int)),(21,int (↑n : Int)),(22,.ref (.ptr 10 4)),(23,.ref (.ptr 10 5)),(24,int f.til),(25,int (if false = true then if 1024 > f.til then 1024 else f.til else if 1024 < f.til then 1024 else f.til)),(26,bool (decide ((↑n : Int) < if false = true then if 1024 > f.til then 1024 else f.til else if 1024 < f.til then 1024 else f.til))),(29,int (↑n : Int)),(30,.ref (.ptr 3 (0 + FA (↑n : Int) * 1))),(31,bool b),(32,bool !b),(33,bool !b),(34,JE (!!b) (FU [int f.kind,int f.sub,int f.obj,int f.value,int f.frm,int f.til,int f.known,int f.no])),(35,JE (!!b) (int (↑n : Int))),(36,JE (!!b) (.ref (.ptr 2 (0 + FA (↑n : Int) * 8))))])) (KR 36)) = Hr (FU [int g.kind,int g.sub,int g.obj,int g.value,int g.frm,int g.til,int g.known,int g.no]) from (fun hg=>?_)) (.c (gd (!!b) (@oJ f g (fU kk ks ko known fs rs best some f))) (.c hc0 .n))))))) (by rfl) (by (have hh : vaHit f g b = false:=hc0; simp only [hh,cond_false]; first | done | rfl)) <;> (first | exact oS rfl hs (by simp) | exact yC rfl hb (by simp))
 ·let v0 : List D:=[int f.kind,int f.sub,int f.obj,int f.value,int f.frm,int f.til,int f.known,int f.no]
  let v1 : List Blk:=[.var [int kk,int ks,int ko],.var rs,.var (FO (cx (H0 best n f))),.var (FO (df (H0 some n true))),.var [ab fs],.var [int kk,int ks,int ko],.var [int known],.defd,.loop Hi none 0 (mkT 63 0 [(6,.ref (.ptr 1 0)),(7,.ref (.ptr 2 0)),(8,.ref (.ptr 3 0)),(15,GX (F4 178) [] [.ref (.ptr 4 0),.ref (.ptr 5 0),.ref (.ptr 6 0)])]) { toList:=[16] } (ax (sub F0 0)) (al (sub F0 0)),.var v0,.var v0]
  let v2 : List Blk:=[.var [int kk,int ks,int ko],.var rs,.var (FO (cx (H0 best n f))),.var (FO (df some)),.var [ab fs],.var [int kk,int ks,int ko],.var [int known],.defd,.loop Hi none 0 (mkT 63 0 [(6,.ref (.ptr 1 0)),(7,.ref (.ptr 2 0)),(8,.ref (.ptr 3 0)),(15,GX (F4 178) [] [.ref (.ptr 4 0),.ref (.ptr 5 0),.ref (.ptr 6 0)])]) { toList:=[16] } (ax (sub F0 0)) (al (sub F0 0)),.var v0,.var v0]
  let v3:=FU [int g.kind,int g.sub,int g.obj,int g.value,int g.frm,int g.til,int g.known,int g.no]
  let v4:=Fo D.p (FC f)
  refine zX { t:=mkT 63 0 [(6,.ref (.ptr 1 0)),(7,.ref (.ptr 2 0)),(8,.ref (.ptr 3 0)),(9,.ref (.ptr 10 0)),(10,int (Fz Fs ((↑n : Int) + 1)))],h:=v1,m:=[] } FH [.st (.mask [6,7,8,9,10])] [.b true,.ov 31 (bool b),.ov 37 (ag (FC g)),.val (int (orI (aN f.known g.known) (aN f.no g.no))),.b true,.oh 10044 HM (vaH kk ks ko known fs rs (H0 best n f) some Hi [.var v4,.var v4]),.oh 10045 HM (vaH kk ks ko known fs rs (H0 best n f) (H0 some n true) Hi [.var v4,.var v4])] (.c hlt (.c hn (.c (show bD Fp (fU kk ks ko known fs rs best some f) 4 (.ref (.ptr 3 (0 + FA (↑n : Int) * 1))) = Hr (bool b) from ?_) (.c (show (!!b) = true → inR (↑n : Int) 1024 = true from (fun hg=>hn)) (.c (show (!!b) = true → bD Fp (fU kk ks ko known fs rs best some f) 60 (evalD Γ0 (Fo eG (mkT 63 0 [(6,.ref (.ptr 1 0)),(7,.ref (.ptr 2 0)),(8,.ref (.ptr 3 0)),(9,.ref (.ptr 10 0)),(10,int (↑n : Int)),(21,int (↑n : Int)),(22,.ref (.ptr 10 4)),(23,.ref (.ptr 10 5)),(24,int f.til),(25,int (if false = true then if 1024 > f.til then 1024 else f.til else if 1024 < f.til then 1024 else f.til)),(26,bool (decide ((↑n : Int) < if false = true then if 1024 > f.til then 1024 else f.til else if 1024 < f.til then 1024 else f.til))),(29,int (↑n : Int)),(30,.ref (.ptr 3 (0 + FA (↑n : Int) * 1))),(31,bool b),(32,bool !b),(33,bool !b),(34,JE (!!b) (FU v0)),(35,JE (!!b) (int (↑n : Int))),(36,JE (!!b) (.ref (.ptr 2 (0 + FA (↑n : Int) * 8))))])) (KR 36)) = Hr v3 from (fun hg=>?_)) (.c (gd (!!b) (@oJ f g (fU kk ks ko known fs rs best some f))) (.c hc0 (.c hn (.c (show bH Fp (fU kk ks ko known fs rs best some f) 60 (.ref (.ptr 2 (0 + FA (↑n : Int) * 8))) (FU v0) = Hr v2 from ?_) (.c hn (.c (show bH Fp v2 4 (.ref (.ptr 3 (0 + FA (↑n : Int) * 1))) (evalD Γ0 (mkT 63 0 [(6,.ref (.ptr 1 0)),(7,.ref (.ptr 2 0)),(8,.ref (.ptr 3 0)),(9,.ref (.ptr 10 0)),(10,int (↑n : Int)),(21,int (↑n : Int)),(22,.ref (.ptr 10 4)),(23,.ref (.ptr 10 5)),(24,int f.til),(25,int (if false = true then if 1024 > f.til then 1024 else f.til else if 1024 < f.til then 1024 else f.til)),(26,bool (decide ((↑n : Int) < if false = true then if 1024 > f.til then 1024 else f.til else if 1024 < f.til then 1024 else f.til))),(29,int (↑n : Int)),(30,.ref (.ptr 3 (0 + FA (↑n : Int) * 1))),(31,bool b),(32,bool !b),(33,bool !b),(34,JE (!!b) (FU v0)),(35,JE (!!b) (int (↑n : Int))),(36,JE (!!b) (.ref (.ptr 2 (0 + FA (↑n : Int) * 8)))),(37,JE (!!b) v3),(38,JE (!!b) (int (orI (aN f.known g.known) (aN f.no g.no)))),(39,JE (!!b) (bool (decide (orI (aN f.known g.known) (aN f.no g.no) ≥ 0)))),(40,bool (!b || decide (orI (aN f.known g.known) (aN f.no g.no) ≥ 0))),(41,int (↑n : Int)),(42,int (↑n : Int)),(43,FU v0),(44,.ref (.ptr 2 (0 + FA (↑n : Int) * 8))),(45,.ref (.ptr 3 (0 + FA (↑n : Int) * 1)))]) (Ji (Value.bool true))) = Hr v1 from ?_) .n))))))))))) (by subst v0 v1 v2 v3 v4; rfl) (by subst v0 v1 v2 v3 v4; (have hh : vaHit f g b = true:=hc0; simp only [hh,cond_true]; first | done | rfl)) <;> subst v0 v1 v2 v3 v4 <;> (first | exact oS rfl hs (by simp) | exact yC rfl hb (by simp) | exact va_stB rfl (nt hb) (by simp) | exact va_stS rfl (nt hs) (by simp))
theorem va_l {kk ks ko known : Int} {fs : List (List Dp)} {rs : List D} {best b0 : List FactT} {some s0 : List Bool} {f f0 : FactT} {x : Int} (hlt : decide (x < if false = true then if 1024 > f.til then 1024 else f.til else if 1024 < f.til then 1024 else f.til) = false) : (CW Fp Γ0 (vaH kk ks ko known fs rs b0 s0 .ready [.var (f0.row.map .p)]) true (sub F0 1) (vaS kk ks ko known fs rs best some f x) (.exit 2) { t:=mkT 63 0 [],h:=vaH kk ks ko known fs rs best some .busy [.var (f.row.map .p),.var (f.row.map .p)],m:=[] }):=by
 let v0 : List D:=[int f.kind,int f.sub,int f.obj,int f.value,int f.frm,int f.til,int f.known,int f.no]
 exact zx [.st (.mask [])] [.b false] (.c hlt .n)
abbrev VS:=List FactT × List Bool
def VS.ok (s : VS) : Prop:=s.1.length = 1024 ∧ s.2.length = 1024
def vP (f : FactT) : Int:=if f.til < 1024 then f.til else 1024
def fu (f : FactT) (s : VS) (n : Nat) : VS:=bif vaHit f (s.1.getD n default) (s.2.getD n false) then (s.1.set n f,s.2.set n true) else s
def yD (f : FactT) (x : Int) (s : VS) : VS:=(Jj x.toNat (vP f - x).toNat).foldl (fu f) s
theorem vaStep_ok {f : FactT} {s : VS} (n : Nat) (h : s.ok) : (fu f s n).ok:=by
 unfold fu
 cases vaHit f (s.1.getD n default) (s.2.getD n false)
 ·exact h
 ·exact ⟨by simpa using h.1,by simpa using h.2⟩
theorem yE (f : FactT) : (if false = true then if 1024 > f.til then 1024 else f.til else if 1024 < f.til then 1024 else f.til) = vP f:=by
 unfold vP; simp; split <;> split <;> omega
theorem va_cw {kk ks ko known : Int} {fs : List (List Dp)} {rs : List D} {best b0 : List FactT} {some s0 : List Bool} {f f0 : FactT} {x : Int} (hx : 0 ≤ x) (ho : VS.ok (best,some)) :
  CW Fp Γ0 (vaH kk ks ko known fs rs b0 s0 .ready [.var (f0.row.map .p)]) true (.loop (sub F0 1)) (vaS kk ks ko known fs rs best some f x) (.exit 2) { t:=mkT 63 0 [],h:=vaH kk ks ko known fs rs (yD f x (best,some)).1 (yD f x (best,some)).2 .busy [.var (f.row.map .p),.var (f.row.map .p)],m:=[] }:=by
 have hx' : ((x.toNat : Nat) : Int) = x:=by omega
 have hh : vP f ≤ 1024:=by unfold vP; split <;> omega
 have:=Ha (P:=Fp) (Γ:=Γ0) (h0:=vaH kk ks ko known fs rs b0 s0 .ready [.var (f0.row.map .p)]) (rd:=true) (c:=sub F0 1) (σ:=VS) (ρ:=Empty) (Jj x.toNat (vP f - x).toNat) (fun n s=>.inl (fu f s n))
  (fun i s=>vaS kk ks ko known fs rs s.1 s.2 f (x + (i : Int))) (.exit 2) (fun s=>{ t:=mkT 63 0 [],h:=vaH kk ks ko known fs rs s.1 s.2 .busy [.var (f.row.map .p),.var (f.row.map .p)],m:=[] }) (fun r=>r.elim)
  (fun _ s=>s.ok) (by simp) (fun r=>r.elim) ?_ ?_ (best,some) ho
 ·rw [aK (fun s n=>fu f s n)] at this
  simpa [aV,yD] using this
 ·intro i n s hn hs
  obtain ⟨hi,he⟩:=Fy.1 hn
  simp only [LA] at hi
  simp only [Lq,J0] at he
  have hlt : (n : Int) < vP f:=by omega
  have hb : s.1[n]? = .some (s.1.getD n default):=by
   rw [FG,FK (by rw [hs.1]; omega)]; rfl
  have hc : s.2[n]? = .some (s.2.getD n false):=by
   rw [FG,FK (by rw [hs.2]; omega)]; rfl
  refine ⟨fun s' h=>by cases h; exact vaStep_ok n hs,?_⟩
  have key:=va_b (kk:=kk) (ks:=ks) (ko:=ko) (known:=known) (fs:=fs) (rs:=rs) (b0:=b0) (s0:=s0) (f:=f) (f0:=f0) hb hc (by simp [inR]; omega) (by rw [yE]; simpa using hlt)
  rw [wrap_i64 (by omega) (by omega)] at key
  have e1 : x + (i : Int) = (n : Int):=by omega
  have e2 : x + ((i + 1 : Nat) : Int) = (n : Int) + 1:=by omega
  simp only [ae,e1,e2]
  unfold fu
  cases hq : vaHit f (s.1.getD n default) (s.2.getD n false) <;> rw [hq] at key <;> exact key
 ·intro s _
  refine va_l ?_
  rw [yE]
  simp
  omega
theorem Eu {kk ks ko known : Int} {fs : List (List Dp)} {rs : List D} {best : List FactT} {some : List Bool} (ho : VS.ok (best,some)) {f : FactT} : (CW Fp Γ0 (vaH kk ks ko known fs rs best some .ready [.var (f.row.map .p)]) true (al (sub F0 0)) { t:=vaU,h:=vaH kk ks ko known fs rs best some .busy [.var (f.row.map .p),.var (f.row.map .p)],m:=[] } .normal { t:=mkT 63 0 [],h:=vaH kk ks ko known fs rs (yD f (if true = true then if f.frm > 0 then f.frm else 0 else if f.frm < 0 then f.frm else 0) (best,some)).1 (yD f (if true = true then if f.frm > 0 then f.frm else 0 else if f.frm < 0 then f.frm else 0) (best,some)).2 .busy [.var (f.row.map .p),.var (f.row.map .p)],m:=[] }):=by
 have hl0:=(@va_cw (kk) (ks) (ko) (known) (fs) (rs) (best) (best) (some) (some) (f) (f) (if true = true then if f.frm > 0 then f.frm else 0 else if f.frm < 0 then f.frm else 0) (by first | assumption | (simp; split <;> omega) | (simp; done)) (ho))
 let v1 : List D:=[int f.kind,int f.sub,int f.obj,int f.value,int f.frm,int f.til,int f.known,int f.no]
 let v0 : List Blk:=[.var [int kk,int ks,int ko],.var rs,.var (FO (cx (yD f (if true = true then if f.frm > 0 then f.frm else 0 else if f.frm < 0 then f.frm else 0) (best,some)).fst)),.var (FO (df (yD f (if true = true then if f.frm > 0 then f.frm else 0 else if f.frm < 0 then f.frm else 0) (best,some)).snd)),.var [ab fs],.var [int kk,int ks,int ko],.var [int known],.defd,.loop Hi none 0 (mkT 63 0 [(6,.ref (.ptr 1 0)),(7,.ref (.ptr 2 0)),(8,.ref (.ptr 3 0)),(15,GX (F4 178) [] [.ref (.ptr 4 0),.ref (.ptr 5 0),.ref (.ptr 6 0)])]) { toList:=[16] } (ax (sub F0 0)) (al (sub F0 0)),.var v1,.var v1]
 exact zx [.st (.mask [])] [.sum [6,7,8,9,10] (Gf 2) { t:=mkT 63 0 [],h:=v0,m:=[] }] (.c hl0 .n)
def Ew (f : FactT) : Int:=if true = true then if f.frm > 0 then f.frm else 0 else if f.frm < 0 then f.frm else 0
def vaF (f : FactT) (s : VS) : VS:=yD f (Ew f) s
theorem Ex {f : FactT} {x : Int} {s : VS} (h : s.ok) : (yD f x s).ok:=by
 unfold yD
 generalize Jj x.toNat (vP f - x).toNat = l
 induction l generalizing s with
 | nil=>exact h
 | cons n l ih=>exact ih (vaStep_ok n h)
theorem Ey {kk ks ko known : Int} {fs : List (List Dp)} {rs : List D} {best : List FactT} {some : List Bool} (ho : VS.ok (best,some)) {f : FactT} : Iv Fp Γ0 (.ref (.yl 8)) [ag f.row] (vaH kk ks ko known fs rs best some .ready [.var (f.row.map .p)]) (bool true) (vaH kk ks ko known fs rs (vaF f (best,some)).1 (vaF f (best,some)).2 .ready [.var (f.row.map .p),.var (f.row.map .p)]) :=
 Iv.round (h1:=vaH kk ks ko known fs rs best some .ready [.var (f.row.map .p),.var (f.row.map .p)]) rfl rfl va_asg rfl (Eu ho) rfl
def vaGo (kk ks ko known : Int) (s : VS) (f : FactT) : VS:=bif ofIs kk ks ko known f then vaF f s else s
theorem iE {n : Nat} : ∀ {es : List (List D)},(∀ r ∈ es,F6 n r = true) → F6 n es.flatten = true
 | [],_=>rfl
 | e :: es,h=>by
  have key : ∀ (xs ys : List D),F6 n xs = true → F6 n ys = true → F6 n (xs ++ ys) = true:=by
   intro xs ys h1 h2
   induction xs with
   | nil=>exact h2
   | cons x xs ih=>simp only [F6,Bool.and_eq_true,Jz] at h1 ⊢; exact ⟨h1.1,ih h1.2⟩
  rw [Gs]
  exact key _ _ (h e (by simp)) (iE fun r hr=>h r (by simp [hr]))
theorem oT {n : Nat} {l : List FactT} : FL n (.var (cx l).flatten) = true:=iE fun r hr=>by obtain ⟨_,_,rfl⟩:=FY.1 hr; rfl
theorem oU {n : Nat} {l : List Bool} : FL n (.var (df l).flatten) = true:=iE fun r hr=>by obtain ⟨_,_,rfl⟩:=FY.1 hr; rfl
theorem lI {n : Nat} {l : List Int} : FL n (.var (bb l).flatten) = true:=iE fun r hr=>by obtain ⟨_,_,rfl⟩:=FY.1 hr; rfl
theorem vo_body {kk ks ko known : Int} {fs : List (List Dp)} {rs : List Int} {best b0 : List FactT} {some s0 : List Bool} (ho : VS.ok (best,some)) {f : FactT} {i : Nat} (hr : ah (i : Int) fs f.row 8) (hlt : decide ((i : Int) < (fs.length : Int)) = true) (hw : Fs.wrap ((i : Int) + 1) = ((i + 1 : Nat) : Int)) : (CW Fp Γ0 (vaH kk ks ko known fs (bb rs).flatten b0 s0 .ready []) false (sub Jd 0) { t:=ofT fs i,h:=vaH kk ks ko known fs (bb rs).flatten best some .ready [],m:=[] } .normal { t:=ofT fs ((i + 1 : Nat) : Int),h:=vaH kk ks ko known fs (bb rs).flatten (vaGo kk ks ko known (best,some) f).1 (vaGo kk ks ko known (best,some) f).2 .ready [],m:=[] }):=by
 cases hc0 : f.kind == kk && (f.sub == ks && (f.obj == ko && true))
 ·refine zX { t:=mkT 30 0 [(0,.ref (.yl 8)),(1,.ref (.ptr 4 0)),(2,.ref (.ptr 5 0)),(3,.ref (.ptr 6 0)),(7,ab fs),(8,int (↑(Fu fs) : Int)),(9,int (Fz Fs ((↑i : Int) + 1)))],h:=[.var [int kk,int ks,int ko],.var (FO (bb rs)),.var (FO (cx best)),.var (FO (df some)),.var [ab fs],.var [int kk,int ks,int ko],.var [int known],.defd,.loop F9 none 0 (mkT 63 0 [(6,.ref (.ptr 1 0)),(7,.ref (.ptr 2 0)),(8,.ref (.ptr 3 0)),(15,GX (F4 178) [] [.ref (.ptr 4 0),.ref (.ptr 5 0),.ref (.ptr 6 0)])]) { toList:=[16] } (ax (sub F0 0)) (al (sub F0 0))],m:=[] } FH [.st (.mask [0,1,2,3,7,8,9]),.st (.trimV 9)] [.b true,.row [vi f.kind,vi f.sub,vi f.obj,vi f.value,vi f.frm,vi f.til,vi f.known,vi f.no],.g false,.g false,.g false,.g false,.ov 22 (bool false),.g false,.g false,.g false,.g false,.ov 28 (bool false),.b false] (.c hlt (.c hr (.c (eqb hc0) (.c (eqb hc0) (.c (eqb hc0) (.c (eqb hc0) (.c (pkf (D.p (GT (Gk { toList:=[] }))) (bool false) hc0) (.f (.f (.f (.f (.c (pkf (D.p (GT (Gk { toList:=[] }))) (bool false) rfl) (.er false (.c (show FL 9 (.var [int kk,int ks,int ko]) = true from rfl) (.c (show FL 9 (.var (FO (bb rs))) = true from ?_) (.c (show FL 9 (.var (FO (cx best))) = true from ?_) (.c (show FL 9 (.var (FO (df some))) = true from ?_) (.c (show FL 9 (.var [ab fs]) = true from rfl) (.c (show FL 9 (.var [int kk,int ks,int ko]) = true from rfl) (.c (show FL 9 (.var [int known]) = true from rfl) (.c (show FL 9 .defd = true from rfl) (.c (show FL 9 (.loop F9 none 0 (mkT 63 0 [(6,.ref (.ptr 1 0)),(7,.ref (.ptr 2 0)),(8,.ref (.ptr 3 0)),(15,GX (F4 178) [] [.ref (.ptr 4 0),.ref (.ptr 5 0),.ref (.ptr 6 0)])]) { toList:=[16] } (ax (sub F0 0)) (al (sub F0 0))) = true from rfl) .n)))))))))))))))))))))) (by rfl) (by (simp only [hw,vaGo,ofIs,keyIs,hc0,GC,cond_false]; rfl)) <;> (first | exact oT | exact oU | exact lI)
 ·cases hc1 : decide (f.known ≤ known)
  ·refine zX { t:=mkT 30 0 [(0,.ref (.yl 8)),(1,.ref (.ptr 4 0)),(2,.ref (.ptr 5 0)),(3,.ref (.ptr 6 0)),(7,ab fs),(8,int (↑(Fu fs) : Int)),(9,int (Fz Fs ((↑i : Int) + 1)))],h:=[.var [int kk,int ks,int ko],.var (FO (bb rs)),.var (FO (cx best)),.var (FO (df some)),.var [ab fs],.var [int kk,int ks,int ko],.var [int known],.defd,.loop F9 none 0 (mkT 63 0 [(6,.ref (.ptr 1 0)),(7,.ref (.ptr 2 0)),(8,.ref (.ptr 3 0)),(15,GX (F4 178) [] [.ref (.ptr 4 0),.ref (.ptr 5 0),.ref (.ptr 6 0)])]) { toList:=[16] } (ax (sub F0 0)) (al (sub F0 0))],m:=[] } FH [.st (.mask [0,1,2,3,7,8,9]),.st (.trimV 9)] [.b true,.row [vi f.kind,vi f.sub,vi f.obj,vi f.value,vi f.frm,vi f.til,vi f.known,vi f.no],.g true,.g true,.g true,.g true,.ov 22 (bool (decide (f.known ≤ known))),.g false,.g false,.g false,.g false,.ov 28 (bool false),.b false] (.c hlt (.c hr (.c (eqa hc0) (.c (eqa hc0) (.c (eqa hc0) (.c (eqa hc0) (.c (pkt (bool (decide (f.known ≤ known))) (bool false) hc0) (.c (eqb hc1) (.c (eqb hc1) (.c (eqb hc1) (.c (eqb hc1) (.c (pkf (D.p (GT (Gk { toList:=[] }))) (bool false) hc1) (.er false (.c (show FL 9 (.var [int kk,int ks,int ko]) = true from rfl) (.c (show FL 9 (.var (FO (bb rs))) = true from ?_) (.c (show FL 9 (.var (FO (cx best))) = true from ?_) (.c (show FL 9 (.var (FO (df some))) = true from ?_) (.c (show FL 9 (.var [ab fs]) = true from rfl) (.c (show FL 9 (.var [int kk,int ks,int ko]) = true from rfl) (.c (show FL 9 (.var [int known]) = true from rfl) (.c (show FL 9 .defd = true from rfl) (.c (show FL 9 (.loop F9 none 0 (mkT 63 0 [(6,.ref (.ptr 1 0)),(7,.ref (.ptr 2 0)),(8,.ref (.ptr 3 0)),(15,GX (F4 178) [] [.ref (.ptr 4 0),.ref (.ptr 5 0),.ref (.ptr 6 0)])]) { toList:=[16] } (ax (sub F0 0)) (al (sub F0 0))) = true from rfl) .n)))))))))))))))))))))) (by rfl) (by (simp only [hw,vaGo,ofIs,keyIs,hc0,hc1,GD,cond_false]; rfl)) <;> (first | exact oT | exact oU | exact lI)
  ·let v0:=FO (cx (vaF f (best,some)).fst)
   let v1:=FO (df (vaF f (best,some)).snd)
   let v2 : List D:=[.ref (.ptr 4 0),.ref (.ptr 5 0),.ref (.ptr 6 0)]
   let v3 : List D:=[int f.kind,int f.sub,int f.obj,int f.value,int f.frm,int f.til,int f.known,int f.no]
   refine zX { t:=mkT 30 0 [(0,.ref (.yl 8)),(1,.ref (.ptr 4 0)),(2,.ref (.ptr 5 0)),(3,.ref (.ptr 6 0)),(7,ab fs),(8,int (↑(Fu fs) : Int)),(9,int (Fz Fs ((↑i : Int) + 1)))],h:=[.var [int kk,int ks,int ko],.var (FO (bb rs)),.var v0,.var v1,.var [ab fs],.var [int kk,int ks,int ko],.var [int known],.defd,.loop F9 none 0 (mkT 63 0 [(6,.ref (.ptr 1 0)),(7,.ref (.ptr 2 0)),(8,.ref (.ptr 3 0)),(15,GX (F4 178) [] v2)]) { toList:=[16] } (ax (sub F0 0)) (al (sub F0 0))],m:=[] } FH [.st (.mask [0,1,2,3,7,8,9]),.st (.trimV 9)] [.b true,.row [vi f.kind,vi f.sub,vi f.obj,vi f.value,vi f.frm,vi f.til,vi f.known,vi f.no],.g true,.g true,.g true,.g true,.ov 22 (bool (decide (f.known ≤ known))),.g true,.g true,.g true,.inv (bool true) [.var [int kk,int ks,int ko],.var (FO (bb rs)),.var v0,.var v1,.var [ab fs],.var [int kk,int ks,int ko],.var [int known],.defd,.loop F9 none 0 (mkT 63 0 [(6,.ref (.ptr 1 0)),(7,.ref (.ptr 2 0)),(8,.ref (.ptr 3 0)),(15,GX (F4 178) [] v2)]) { toList:=[16] } (ax (sub F0 0)) (al (sub F0 0)),.var v3,.var v3],.g true,.ov 28 (bool !true),.b false] (.c hlt (.c hr (.c (eqa hc0) (.c (eqa hc0) (.c (eqa hc0) (.c (eqa hc0) (.c (pkt (bool (decide (f.known ≤ known))) (bool false) hc0) (.c (eqa hc1) (.c (eqa hc1) (.c (eqa hc1) (.c (@Ey kk ks ko known fs (FO (bb rs)) best some ho f) (.c (eqa hc1) (.c (pkt (bool !true) (bool false) hc1) (.c (show (!true) = false from rfl) (.c (show FL 9 (.var [int kk,int ks,int ko]) = true from rfl) (.c (show FL 9 (.var (FO (bb rs))) = true from ?_) (.c (show FL 9 (.var v0) = true from ?_) (.c (show FL 9 (.var v1) = true from ?_) (.c (show FL 9 (.var [ab fs]) = true from rfl) (.c (show FL 9 (.var [int kk,int ks,int ko]) = true from rfl) (.c (show FL 9 (.var [int known]) = true from rfl) (.c (show FL 9 .defd = true from rfl) (.c (show FL 9 (.loop F9 none 0 (mkT 63 0 [(6,.ref (.ptr 1 0)),(7,.ref (.ptr 2 0)),(8,.ref (.ptr 3 0)),(15,GX (F4 178) [] v2)]) { toList:=[16] } (ax (sub F0 0)) (al (sub F0 0))) = true from rfl) .n))))))))))))))))))))))) (by subst v0 v1 v2 v3; rfl) (by subst v0 v1 v2 v3; (simp only [hw,vaGo,ofIs,keyIs,hc0,hc1,Hq,cond_true]; rfl)) <;> subst v0 v1 v2 v3 <;> (first | exact oT | exact oU | exact lI)
theorem Ez {kk ks ko known : Int} {fs : List (List Dp)} {rs : List Int} {best b0 : List FactT} {some s0 : List Bool} {i : Nat} (hlt : decide ((i : Int) < (fs.length : Int)) = false) : (CW Fp Γ0 (vaH kk ks ko known fs (bb rs).flatten b0 s0 .ready []) false (sub Jd 0) { t:=ofT fs i,h:=vaH kk ks ko known fs (bb rs).flatten best some .ready [],m:=[] } (.exit 0) { t:=mkT 30 0 [],h:=vaH kk ks ko known fs (bb rs).flatten best some .ready [],m:=[] }):=by
 exact zx [.st (.mask [])] [.b false] (.c hlt .n)
theorem vaGo_ok {kk ks ko known : Int} {s : VS} (f : FactT) (h : s.ok) : (vaGo kk ks ko known s f).ok:=by
 unfold vaGo
 cases ofIs kk ks ko known f
 ·exact h
 ·exact Ex h
theorem vo_cw {kk ks ko known : Int} {l : List FactT} (hl : ad l) {rs : List Int} {b0 : List FactT} {s0 : List Bool} (ho : VS.ok (b0,s0)) :
  CW Fp Γ0 (vaH kk ks ko known (l.map FC) (bb rs).flatten b0 s0 .ready []) false (.loop (sub Jd 0)) { t:=ofT (l.map FC) 0,h:=vaH kk ks ko known (l.map FC) (bb rs).flatten b0 s0 .ready [],m:=[] } (.exit 0)
   { t:=mkT 30 0 [],h:=vaH kk ks ko known (l.map FC) (bb rs).flatten (l.foldl (vaGo kk ks ko known) (b0,s0)).1 (l.foldl (vaGo kk ks ko known) (b0,s0)).2 .ready [],m:=[] }:=by
 have:=Ha (P:=Fp) (Γ:=Γ0) (h0:=vaH kk ks ko known (l.map FC) (bb rs).flatten b0 s0 .ready []) (rd:=false) (c:=sub Jd 0) (σ:=VS) (ρ:=Empty) l (fun f s=>.inl (vaGo kk ks ko known s f))
  (fun i s=>{ t:=ofT (l.map FC) (i : Int),h:=vaH kk ks ko known (l.map FC) (bb rs).flatten s.1 s.2 .ready [],m:=[] }) (.exit 0) (fun s=>{ t:=mkT 30 0 [],h:=vaH kk ks ko known (l.map FC) (bb rs).flatten s.1 s.2 .ready [],m:=[] }) (fun r=>r.elim)
  (fun _ s=>s.ok) (by simp) (fun r=>r.elim) ?_ ?_ (b0,s0) ho
 ·rw [aK] at this
  exact this
 ·intro i f s hf hs
  have hi:=(Fy.1 hf).1
  exact ⟨fun s' h=>by cases h; exact vaGo_ok f hs,vo_body hs (rowAt hf rfl) (lt_len _ hi) (wrap_succ hi hl)⟩
 ·intro s _
  exact Ez (aC _ l)
theorem yF {kk ks ko known : Int} {l : List FactT} (hl : ad l) {rs : List Int} {b0 : List FactT} {s0 : List Bool} (ho : VS.ok (b0,s0)) : (Ev Fp Γ0 178 [.ref (.yl 8),.ref (.ptr 4 0),.ref (.ptr 5 0),.ref (.ptr 6 0)] (vaH kk ks ko known (l.map FC) (bb rs).flatten b0 s0 .ready []) (.tup []) (vaH kk ks ko known (l.map FC) (bb rs).flatten (l.foldl (vaGo kk ks ko known) (b0,s0)).1 (l.foldl (vaGo kk ks ko known) (b0,s0)).2 .ready [])):=by
 have hl0:=(@vo_cw (kk) (ks) (ko) (known) (l) (hl) (rs) (b0) (s0) (ho))
 let v0 : List Blk:=[.var [int kk,int ks,int ko],.var (FO (bb rs)),.var (FO (cx (Gx (vaGo kk ks ko known) (b0,s0) l).fst)),.var (FO (df (Gx (vaGo kk ks ko known) (b0,s0) l).snd)),.var [ab (Fo FC l)],.var [int kk,int ks,int ko],.var [int known],.defd,.loop F9 none 0 (mkT 63 0 [(6,.ref (.ptr 1 0)),(7,.ref (.ptr 2 0)),(8,.ref (.ptr 3 0)),(15,GX (F4 178) [] [.ref (.ptr 4 0),.ref (.ptr 5 0),.ref (.ptr 6 0)])]) { toList:=[16] } (ax (sub F0 0)) (al (sub F0 0))]
 exact FP (Ev.of_sym (h':=v0) (d:=D.tup []) pok [.sum [0,1,2,3,7,8,9] (Gf 0) { t:=mkT 30 0 [],h:=v0,m:=[] }] (by kernel_rfl) (.c hl0 .n)) (by rfl) (by rfl)
noncomputable abbrev vaH0 (kk ks ko known : Int) (fs : List (List Dp)) (rs : List Int) (best : List FactT) (some : List Bool) : List Blk :=
 [.var [int kk,int ks,int ko],.var (bb rs).flatten,.var (cx best).flatten,.var (df some).flatten,.var [ab fs],.var [int kk,int ks,int ko],.var [int known]]
theorem Bg {kk ks ko known : Int} {l : List FactT} (hl : ad l) {rs : List Int} {b0 : List FactT} {s0 : List Bool} (ho : VS.ok (b0,s0)) : CW Fp Γ0 [] false (sub F0 0) { t:=vaT,h:=vaH0 kk ks ko known (l.map FC) rs b0 s0,m:=[] } .normal
  { t:=vaT,h:=vaH kk ks ko known (l.map FC) (bb rs).flatten (l.foldl (vaGo kk ks ko known) (b0,s0)).1 (l.foldl (vaGo kk ks ko known) (b0,s0)).2 .exhausted [],m:=[7] } :=
 CW.rangeFunc (f:=178) (fi:=[]) (ca:=[.ref (.ptr 4 0),.ref (.ptr 5 0),.ref (.ptr 6 0)]) pok (s:={ t:=vaT,h:=vaH0 kk ks ko known (l.map FC) rs b0 s0,m:=[] }) (g:=.tmp 15) (ps:=#[16]) (asg:=ax (sub F0 0)) (body:=al (sub F0 0)) rfl (by kernel_rfl) (yF hl ho) rfl
theorem va_val {h : List Blk} {off n : Nat} {l : List FactT} {g : FactT} (hb : h[2]? = some (.var (cx l).flatten)) (hs : l[n]? = some g) (ho : off = n * 8 + 3) : bD Fp h 3 (.ref (.ptr 2 off)) = some (int g.value):=by
 subst ho
 exact lk (sz:=8) (j:=3) (row:=g.row.map .p) (by kernel_rfl) (by kernel_rfl) hb (by simp [FC]) (by simp [hs]) rfl
theorem yG {h : List Blk} {off n : Nat} {l : List Int} {x : Int} (hb : h[1]? = some (.var (bb l).flatten)) (hn : n < l.length) (ho : off = n * 1) : bH Fp h 3 (.ref (.ptr 1 off)) (int x) = some (h.set 1 (.var (bb (l.set n x)).flatten)):=by
 subst ho
 rw [lm (sz:=1) (new:=[int x]) rfl (by kernel_rfl) rfl hb (fun r hr=>by obtain ⟨_,_,rfl⟩:=FY.1 hr; rfl) (by simpa using hn),bb,bb,KI]
abbrev maxV (v : Int) : Int:=if true = true then if -1 > v then -1 else v else if -1 < v then -1 else v
noncomputable abbrev vlS (kk ks ko known : Int) (fs : List (List Dp)) (rs : List Int) (best : List FactT) (some : List Bool) (i : Int) : AS:={ t:=mkT 63 0 [(6,.ref (.ptr 1 0)),(7,.ref (.ptr 2 0)),(8,.ref (.ptr 3 0)),(46,int i)],h:=vaH kk ks ko known fs (bb rs).flatten best some .exhausted [],m:=[7] }
theorem vl_b {kk ks ko known : Int} {fs : List (List Dp)} {rs : List Int} {best : List FactT} {some : List Bool} {g : FactT} {n : Nat} {b : Bool} (hb : best[n]? = .some g) (hs : some[n]? = .some b) (hn : inR (n : Int) 1024 = true) (hr : n < rs.length) (hlt : decide ((n : Int) < 1024) = true) : (CW Fp Γ0 [] false (sub F0 2) (vlS kk ks ko known fs rs best some (n : Int)) .normal (vlS kk ks ko known fs (bif b then (rs.set n (-1)).set n (maxV g.value) else rs.set n (-1)) best some (Fs.wrap ((n : Int) + 1)))):=by
 cases hc0 : b
 ·let v0 : List Blk:=[.var [int kk,int ks,int ko],.var (FO (bb (H0 rs n (-1)))),.var (FO (cx best)),.var (FO (df some)),.var [ab fs],.var [int kk,int ks,int ko],.var [int known],.defd,.loop Gq none 0 (mkT 63 0 [(6,.ref (.ptr 1 0)),(7,.ref (.ptr 2 0)),(8,.ref (.ptr 3 0)),(15,GX (F4 178) [] [.ref (.ptr 4 0),.ref (.ptr 5 0),.ref (.ptr 6 0)])]) { toList:=[16] } (ax (sub F0 0)) (al (sub F0 0))]
  refine zX { t:=mkT 63 0 [(6,.ref (.ptr 1 0)),(7,.ref (.ptr 2 0)),(8,.ref (.ptr 3 0)),(46,int (Fz Fs ((↑n : Int) + 1)))],h:=v0,m:=[7] } FH [.st (.mask [6,7,8,46])] [.b true,.oh 10050 HM (vaH kk ks ko known fs (FO (bb (H0 rs n (-1)))) best some Gq []),.ov 53 (bool b),.b false] (.c hlt (.c hn (.c (show bH Fp [.var [int kk,int ks,int ko],.var (FO (bb rs)),.var (FO (cx best)),.var (FO (df some)),.var [ab fs],.var [int kk,int ks,int ko],.var [int known],.defd,.loop Gq none 0 (mkT 63 0 [(6,.ref (.ptr 1 0)),(7,.ref (.ptr 2 0)),(8,.ref (.ptr 3 0)),(15,GX (F4 178) [] [.ref (.ptr 4 0),.ref (.ptr 5 0),.ref (.ptr 6 0)])]) { toList:=[16] } (ax (sub F0 0)) (al (sub F0 0))] 3 (.ref (.ptr 1 (0 + FA (↑n : Int) * 1))) (evalD Γ0 (mkT 63 0 [(6,.ref (.ptr 1 0)),(7,.ref (.ptr 2 0)),(8,.ref (.ptr 3 0)),(11,int (↑n : Int)),(46,int (↑n : Int)),(47,bool (decide ((↑n : Int) < 1024))),(48,int (↑n : Int)),(49,int (↑n : Int)),(50,.ref (.ptr 1 (0 + FA (↑n : Int) * 1)))]) (Ji (Value.int Fs (-1)))) = Hr v0 from ?_) (.c hn (.c (show bD Fp v0 4 (.ref (.ptr 3 (0 + FA (↑n : Int) * 1))) = Hr (bool b) from ?_) (.c hc0 .n)))))) (by subst v0; rfl) (by subst v0; rfl) <;> subst v0 <;> (first | exact oS rfl hs (by simp) | exact yG rfl hr (by simp))
 ·let v2 : List D:=[.ref (.ptr 4 0),.ref (.ptr 5 0),.ref (.ptr 6 0)]
  let v3:=FO (bb (H0 (H0 rs n (-1)) n (maxV g.value)))
  let v4:=FO (cx best)
  let v5:=FO (df some)
  let v0 : List Blk:=[.var [int kk,int ks,int ko],.var (FO (bb (H0 rs n (-1)))),.var v4,.var v5,.var [ab fs],.var [int kk,int ks,int ko],.var [int known],.defd,.loop Gq none 0 (mkT 63 0 [(6,.ref (.ptr 1 0)),(7,.ref (.ptr 2 0)),(8,.ref (.ptr 3 0)),(15,GX (F4 178) [] v2)]) { toList:=[16] } (ax (sub F0 0)) (al (sub F0 0))]
  let v1 : List Blk:=[.var [int kk,int ks,int ko],.var v3,.var v4,.var v5,.var [ab fs],.var [int kk,int ks,int ko],.var [int known],.defd,.loop Gq none 0 (mkT 63 0 [(6,.ref (.ptr 1 0)),(7,.ref (.ptr 2 0)),(8,.ref (.ptr 3 0)),(15,GX (F4 178) [] v2)]) { toList:=[16] } (ax (sub F0 0)) (al (sub F0 0))]
  refine zX { t:=mkT 63 0 [(6,.ref (.ptr 1 0)),(7,.ref (.ptr 2 0)),(8,.ref (.ptr 3 0)),(46,int (Fz Fs ((↑n : Int) + 1)))],h:=v1,m:=[7] } FH [.st (.mask [6,7,8,46])] [.b true,.oh 10050 HM (vaH kk ks ko known fs (FO (bb (H0 rs n (-1)))) best some Gq []),.ov 53 (bool b),.b true,.ov 58 (int g.value),.oh 10060 HM (vaH kk ks ko known fs v3 best some Gq [])] (.c hlt (.c hn (.c (show bH Fp [.var [int kk,int ks,int ko],.var (FO (bb rs)),.var v4,.var v5,.var [ab fs],.var [int kk,int ks,int ko],.var [int known],.defd,.loop Gq none 0 (mkT 63 0 [(6,.ref (.ptr 1 0)),(7,.ref (.ptr 2 0)),(8,.ref (.ptr 3 0)),(15,GX (F4 178) [] v2)]) { toList:=[16] } (ax (sub F0 0)) (al (sub F0 0))] 3 (.ref (.ptr 1 (0 + FA (↑n : Int) * 1))) (evalD Γ0 (mkT 63 0 [(6,.ref (.ptr 1 0)),(7,.ref (.ptr 2 0)),(8,.ref (.ptr 3 0)),(11,int (↑n : Int)),(46,int (↑n : Int)),(47,bool (decide ((↑n : Int) < 1024))),(48,int (↑n : Int)),(49,int (↑n : Int)),(50,.ref (.ptr 1 (0 + FA (↑n : Int) * 1)))]) (Ji (Value.int Fs (-1)))) = Hr v0 from ?_) (.c hn (.c (show bD Fp v0 4 (.ref (.ptr 3 (0 + FA (↑n : Int) * 1))) = Hr (bool b) from ?_) (.c hc0 (.c hn (.c (show bD Fp v0 3 (.ref (.ptr 2 (0 + FA (↑n : Int) * 8 + 3))) = Hr (int g.value) from ?_) (.c hn (.c (show bH Fp v0 3 (.ref (.ptr 1 (0 + FA (↑n : Int) * 1))) (int (if true = true then if -1 > g.value then -1 else g.value else if -1 < g.value then -1 else g.value)) = Hr v1 from ?_) .n)))))))))) (by subst v2 v3 v4 v5 v0 v1; rfl) (by subst v2 v3 v4 v5 v0 v1; rfl) <;> subst v2 v3 v4 v5 v0 v1 <;> (first | exact oS rfl hs (by simp) | exact va_val rfl hb (by simp) | exact yG rfl hr (by simp) | exact yG rfl (by simpa using hr) (by simp))
theorem EA {kk ks ko known : Int} {fs : List (List Dp)} {rs : List Int} {best : List FactT} {some : List Bool} : (CW Fp Γ0 [] false (sub F0 2) (vlS kk ks ko known fs rs best some 1024) (.exit 4) { t:=mkT 63 0 [(6,.ref (.ptr 1 0))],h:=vaH kk ks ko known fs (bb rs).flatten best some .exhausted [],m:=[7] }):=by
 exact zx [.st (.mask [6])] [.b false] (.c (show decide (1024 < 1024) = false from rfl) .n)
def vlStep (s : VS) (rs : List Int) (n : Nat) : List Int:=bif s.2.getD n false then (rs.set n (-1)).set n (maxV (s.1.getD n default).value) else rs.set n (-1)
def qW (s : VS) (rs : List Int) : List Int:=(Gy 1024).foldl (vlStep s) rs
theorem vl_cw {kk ks ko known : Int} {fs : List (List Dp)} {rs : List Int} {best : List FactT} {some : List Bool} (ho : VS.ok (best,some)) (hr : rs.length = 1024) :
  CW Fp Γ0 [] false (.loop (sub F0 2)) (vlS kk ks ko known fs rs best some 0) (.exit 4) { t:=mkT 63 0 [(6,.ref (.ptr 1 0))],h:=vaH kk ks ko known fs (bb (qW (best,some) rs)).flatten best some .exhausted [],m:=[7] }:=by
 have:=Ha (P:=Fp) (Γ:=Γ0) (h0:=[]) (rd:=false) (c:=sub F0 2) (σ:=List Int) (ρ:=Empty) (Gy 1024) (fun n rs=>.inl (vlStep (best,some) rs n))
  (fun i rs=>vlS kk ks ko known fs rs best some (i : Int)) (.exit 4) (fun rs=>{ t:=mkT 63 0 [(6,.ref (.ptr 1 0))],h:=vaH kk ks ko known fs (bb rs).flatten best some .exhausted [],m:=[7] }) (fun r=>r.elim)
  (fun _ rs=>rs.length = 1024) (by simp) (fun r=>r.elim) ?_ ?_ rs hr
 ·rw [aK (fun rs n=>vlStep (best,some) rs n)] at this
  exact this
 ·intro i n rs hn hs
  obtain ⟨hi,he⟩:=Fy.1 hn
  simp only [List.length_range] at hi
  simp only [List.getElem_range] at he
  subst he
  have hb : best[i]? = .some (best.getD i default):=by
   rw [FG,FK (by rw [ho.1]; omega)]; rfl
  have hc : some[i]? = .some (some.getD i false):=by
   rw [FG,FK (by rw [ho.2]; omega)]; rfl
  refine ⟨fun s' h=>by cases h; unfold vlStep; cases some.getD i false <;> simp [hs],?_⟩
  have key:=vl_b (kk:=kk) (ks:=ks) (ko:=ko) (known:=known) (fs:=fs) (rs:=rs) hb hc (by simp [inR]; omega) (by omega) (by simp; omega)
  rw [wrap_i64 (by omega) (by omega)] at key
  simp only [ae]
  unfold vlStep
  cases hq : some.getD i false <;> rw [hq] at key <;> exact key
 ·intro rs _
  simp only [List.length_range]
  exact EA
theorem yH {h : List Blk} {l : List Int} (hb : h[1]? = some (.var (bb l).flatten)) (hl : l.length = 1024) : bD Fp h 215 (.ref (.ptr 1 0)) = some (.agg (bb l).flatten) :=
 AF (by kernel_rfl) (by rw [e9 (sz:=1) (bb l) (fun r hr=>by obtain ⟨_,_,rfl⟩:=FY.1 hr; rfl)]; simp only [bb,GB,hl]; kernel_rfl) hb
theorem qX {l : List Int} : (FU (bb l).flatten).cells = some (bb l).flatten:=by
 have : (bb l).flatten.all D.one = true:=by
  rw [FZ]
  intro d hd
  obtain ⟨r,hr,hd⟩:=List.mem_flatten.1 hd
  obtain ⟨n,_,rfl⟩:=FY.1 hr
  simp only [List.mem_singleton] at hd
  subst hd; rfl
 simp only [D.cells,this,if_true]
theorem st_int {h : List Blk} {l : List Int} (hb : h[1]? = some (.var (bb l).flatten)) (hl : l.length = 1024) : bH Fp h 215 (.ref (.ptr 1 0)) (.agg (bb l).flatten) = some (h.set 1 (.var (bb l).flatten)) :=
 ql qX (by rw [e9 (sz:=1) (bb l) (fun r hr=>by obtain ⟨_,_,rfl⟩:=FY.1 hr; rfl)]; simp only [bb,GB,hl]; kernel_rfl) rfl hb
theorem lJ {s : VS} {rs : List Int} (h : rs.length = 1024) : (qW s rs).length = 1024:=by
 unfold qW
 generalize Gy 1024 = l
 induction l generalizing rs with
 | nil=>exact h
 | cons n l ih=>exact ih (by unfold vlStep; cases s.2.getD n false <;> simp [h])
noncomputable abbrev vaE (kk ks ko known : Int) (l : List FactT) (rs : List Int) (s : VS) : List Blk:=vaH kk ks ko known (l.map FC) (bb (qW (l.foldl (vaGo kk ks ko known) s) rs)).flatten (l.foldl (vaGo kk ks ko known) s).1 (l.foldl (vaGo kk ks ko known) s).2 .exhausted []
theorem Bh {kk ks ko known : Int} {l : List FactT} (hl : ad l) {rs : List Int} {b0 : List FactT} {s0 : List Bool} (ho : VS.ok (b0,s0)) (hf : VS.ok (l.foldl (vaGo kk ks ko known) (b0,s0))) (hr : rs.length = 1024) (e1 : cD Fp [.var [int kk,int ks,int ko]] 215 (.ref (.ptr 1 0)) [.var [int kk,int ks,int ko],.var (bb rs).flatten])
  (e2 : cD Fp [.var [int kk,int ks,int ko],.var (bb rs).flatten] 243 (.ref (.ptr 2 0)) [.var [int kk,int ks,int ko],.var (bb rs).flatten,.var (cx b0).flatten])
  (e3 : cD Fp [.var [int kk,int ks,int ko],.var (bb rs).flatten,.var (cx b0).flatten] 244 (.ref (.ptr 3 0)) [.var [int kk,int ks,int ko],.var (bb rs).flatten,.var (cx b0).flatten,.var (df s0).flatten]) : (CW Fp Γ0 [] false (Db F0) { t:=mkT 63 0 [(0,ab (l.map FC)),(1,.agg [int kk,int ks,int ko]),(2,int known)],h:=[],m:=[] } .ret { t:=mkT 63 0 [(6,.ref (.ptr 1 0))],h:=vaE kk ks ko known l rs (b0,s0),m:=[7] }):=by
 have hl0:=(@Bg (kk) (ks) (ko) (known) (l) (hl) (rs) (b0) (s0) (ho))
 have hl1:=(@vl_cw (kk) (ks) (ko) (known) (Fo FC l) (rs) ((Gx (vaGo kk ks ko known) (b0,s0) l).fst) ((Gx (vaGo kk ks ko known) (b0,s0) l).snd) (hf) (hr))
 let v2:=Gx (vaGo kk ks ko known) (b0,s0) l
 let v3 : List Blk:=[.var [int kk,int ks,int ko],.var (FO (bb rs)),.var (FO (cx b0))]
 let v4 : List D:=[.ref (.ptr 4 0),.ref (.ptr 5 0),.ref (.ptr 6 0)]
 let v5 : List Blk:=[.var [int kk,int ks,int ko],.var (FO (bb rs)),.var (FO (cx b0)),.var (FO (df s0))]
 let v6 : List Blk:=[.var [int kk,int ks,int ko],.var (FO (bb rs))]
 let v7:=FO (bb (qW v2 rs))
 let v8:=FO (cx v2.fst)
 let v9:=FO (df v2.snd)
 let v10 : List D:=[ab (Fo FC l)]
 let v0 : List Blk:=[.var [int kk,int ks,int ko],.var (FO (bb (qW (v2.fst,v2.snd) rs))),.var v8,.var v9,.var v10,.var [int kk,int ks,int ko],.var [int known],.defd,.loop Gq none 0 (mkT 63 0 [(6,.ref (.ptr 1 0)),(7,.ref (.ptr 2 0)),(8,.ref (.ptr 3 0)),(15,GX (F4 178) [] v4)]) { toList:=[16] } (ax (sub F0 0)) (al (sub F0 0))]
 let v1 : List Blk:=[.var [int kk,int ks,int ko],.var v7,.var v8,.var v9,.var v10,.var [int kk,int ks,int ko],.var [int known],.defd,.loop Gq none 0 (mkT 63 0 [(6,.ref (.ptr 1 0)),(7,.ref (.ptr 2 0)),(8,.ref (.ptr 3 0)),(15,GX (F4 178) [] v4)]) { toList:=[16] } (ax (sub F0 0)) (al (sub F0 0))]
 refine zx [.st (.mask [6])] [.oh 6 (.ref (.ptr 1 0)) v6,.oh 7 (.ref (.ptr 2 0)) v3,.oh 8 (.ref (.ptr 3 0)) v5,.inl,.sum [6,7,8,15] (FH) { t:=mkT 63 0 [(6,.ref (.ptr 1 0)),(7,.ref (.ptr 2 0)),(8,.ref (.ptr 3 0)),(15,GX (F4 178) [] v4)],h:=[.var [int kk,int ks,int ko],.var (FO (bb rs)),.var v8,.var v9,.var v10,.var [int kk,int ks,int ko],.var [int known],.defd,.loop Gq none 0 (mkT 63 0 [(6,.ref (.ptr 1 0)),(7,.ref (.ptr 2 0)),(8,.ref (.ptr 3 0)),(15,GX (F4 178) [] v4)]) { toList:=[16] } (ax (sub F0 0)) (al (sub F0 0))],m:=[7] },.sum [6,7,8,46] (Gf 4) { t:=mkT 63 0 [(6,.ref (.ptr 1 0))],h:=v0,m:=[7] },.ov 62 (FU v7),.oh 10006 HM (vaE kk ks ko known l rs (b0,s0))] (.c (show cD Fp [.var [int kk,int ks,int ko]] 215 (.ref (.ptr 1 0)) v6 from ?_) (.c (show cD Fp v6 243 (.ref (.ptr 2 0)) v3 from ?_) (.c (show cD Fp v3 244 (.ref (.ptr 3 0)) v5 from ?_) (.c hl0 (.c hl1 (.c (show bD Fp v0 215 (.ref (.ptr 1 0)) = some (FU v7) from ?_) (.c (show bH Fp v0 215 (.ref (.ptr 1 0)) (FU v7) = some v1 from ?_) .n))))))) <;> subst v2 v3 v4 v5 v6 v7 v8 v9 v10 v0 v1 <;> (first | assumption | exact yH rfl (lJ hr) | exact st_int rfl (lJ hr))
theorem EB {n : Nat} {l : List Int} : Hg n (.agg (bb l).flatten) = true:=lI (n:=n) (l:=l)
def vZ : VS:=(FX 1024 fz,FX 1024 false)
theorem EC : vZ.ok:=⟨by simp [vZ],by simp [vZ]⟩
theorem yI {kk ks ko known : Int} {l : List FactT} {s : VS} (h : s.ok) : (l.foldl (vaGo kk ks ko known) s).ok:=by
 induction l generalizing s with
 | nil=>exact h
 | cons f l ih=>exact ih (vaGo_ok f h)
def bd (kk ks ko known : Int) (l : List FactT) : List Int:=qW (l.foldl (vaGo kk ks ko known) vZ) (FX 1024 0)
theorem cK {kk ks ko known : Int} {l : List FactT} : (bd kk ks ko known l).length = 1024:=lJ (by simp)
theorem Bi {kk ks ko known : Int} {l : List FactT} (hl : ad l) : Ev Fp Γ0 159 [ab (l.map FC),.agg [int kk,int ks,int ko],int known] [] (.agg (bb (bd kk ks ko known l)).flatten) (rL [7] (vaE kk ks ko known l (FX 1024 0) vZ)):=by
 have hw:=Bh (kk:=kk) (ks:=ks) (ko:=ko) (known:=known) hl (rs:=FX 1024 0) (b0:=vZ.1) (s0:=vZ.2) EC (yI EC) (by simp) (by unfold cD; kernel_rfl) (by unfold cD vZ; kernel_rfl) (by unfold cD vZ; kernel_rfl)
 refine Ev.of_cw (fn:=F0) (by kernel_rfl) (by kernel_rfl) hw ?_
 have hc : bD Fp (rL [7] (vaE kk ks ko known l (FX 1024 0) vZ)) 215 (.ref (.ptr 1 0)) = some (.agg (bb (bd kk ks ko known l)).flatten):=yH rfl cK
 have hr : dc Fp (mkT 63 0 [(6,.ref (.ptr 1 0))]) (rL [7] (vaE kk ks ko known l (FX 1024 0) vZ)) F0.results.toList = some [.agg (bb (bd kk ks ko known l)).flatten]:=by
  show (match i3 Fp (mkT 63 0 [(6,.ref (.ptr 1 0))]) (rL [7] (vaE kk ks ko known l (FX 1024 0) vZ)) (.cell 6 215),some [] with
   | some d,some ds=>some (d :: ds)
   | _,_=>none) = _
  have : i3 Fp (mkT 63 0 [(6,.ref (.ptr 1 0))]) (rL [7] (vaE kk ks ko known l (FX 1024 0) vZ)) (.cell 6 215) = some (.agg (bb (bd kk ks ko known l)).flatten):=hc
  rw [this]
 simp only [finF,pre]
 rw [hr]
 rfl
theorem yJ {kk ks ko known : Int} {l : List FactT} (hl : ad l) (h : List Blk) : Ev Fp Γ0 159 [ab (l.map FC),.agg [int kk,int ks,int ko],int known] h (.agg (bb (bd kk ks ko known l)).flatten) h :=
 Ev.frame0 rfl (by have:=Ev.trim (h:=[]) (d:=.agg (bb (bd kk ks ko known l)).flatten) EB rfl (Bi (kk:=kk) (ks:=ks) (ko:=ko) (known:=known) hl); simpa using this) h
abbrev ai (rs : List (List Dp)) : List (List D):=rs.map (Fo D.p)
theorem bl (rs : List (List Dp)) (f : Ref → D) : (ai rs).map (GA f) = ai rs:=am f rs
theorem Cs (k : Nat) : ∀ r : List Dp,F6 k (r.map .p) = true
 | []=>rfl
 | _ :: r=>by simp [F6,Hg,Cs k r]
theorem bu (rs : List (List Dp)) (k : Nat) : (ai rs).all (F6 k) = true:=by
 rw [FZ]
 intro r hr
 obtain ⟨x,_,rfl⟩:=FY.1 hr
 exact Cs k x
theorem sQ {h : List Blk} {l r : List Int} (hb : h[1]? = some (.var (bb r).flatten)) (hr : r.length = 1024) (hl : l.length = 1024) : bH Fp h 215 (.ref (.ptr 1 0)) (.agg (bb l).flatten) = some (h.set 1 (.var (bb l).flatten)) :=
 ql qX (by rw [e9 (sz:=1) (bb l) (fun r hr=>by obtain ⟨_,_,rfl⟩:=FY.1 hr; rfl)]; simp only [bb,GB,hl]; kernel_rfl)
  (by rw [e9 (sz:=1) (bb l) (fun r hr=>by obtain ⟨_,_,rfl⟩:=FY.1 hr; rfl),e9 (sz:=1) (bb r) (fun r hr=>by obtain ⟨_,_,rfl⟩:=FY.1 hr; rfl)]; simp [hl,hr]) hb
structure PtT where
 term : Int
 value : Int
 deriving Inhabited,DecidableEq
def PtT.row (p : PtT) : List Dp:=[vi p.term,vi p.value]
theorem yK {h : List Blk} {off n : Nat} {l : List Int} {v : Int} (hb : h[1]? = some (.var (bb l).flatten)) (hs : l[n]? = some v) (ho : off = n * 1) : bD Fp h 3 (.ref (.ptr 1 off)) = some (int v):=by
 subst ho
 exact lk (sz:=1) (j:=0) (row:=[int v]) (by kernel_rfl) (by kernel_rfl) hb (fun r hr=>by obtain ⟨_,_,rfl⟩:=FY.1 hr; rfl) (by simp [hs]) rfl
noncomputable abbrev ptH (kk ks ko : Int) (rs : List Int) (l : List PtT) : List Blk:=[.var [int kk,int ks,int ko],.var (bb rs).flatten,.vec (ai (l.map PtT.row)) 0 2]
noncomputable abbrev ptS (kk ks ko to : Int) (rs : List Int) (l : List PtT) (x : Int) : AS:={ t:=mkT 38 0 [(3,int to),(10,.ref (.vec 2 0)),(11,.ref (.ptr 1 0)),(12,int x)],h:=ptH kk ks ko rs l,m:=[] }
theorem lK (f : Ref → D) (l : List Int) : GA f (bb l).flatten = (bb l).flatten:=by
 induction l with
 | nil=>rfl
 | cons n l ih=>simp only [bb,GJ,Gs,Jz,List.nil_append,GA,Gl] at ih ⊢; rw [ih]
theorem uA {n : Nat} {l : List Int} {f : Ref → D} : FL n (.var (GA f (bb l).flatten)) = true:=by rw [lK]; exact lI
theorem cT {n : Nat} {rs : List (List Dp)} {e sz : Nat} : FL n (.vec (ai rs) e sz) = true:=bu rs n
theorem iV (n : Nat) (rs : List (List Dp)) (e sz : Nat) : FL n (.vec (ai rs) e sz) = true:=cT
theorem vM (rs : List (List Dp)) (a b c : Nat) : (ai rs).map (GA (aM a b c)) = ai rs:=am (aM a b c) rs
theorem iVa (n : Nat) (rs : List (List Dp)) (b : List (List D)) (e sz : Nat) (h : b.all (F6 n) = true:=by first | rfl | exact bu _ _) : FL n (.vec (ai rs ++ b) e sz) = true:=(JK).trans (by rw [bu rs n,h]; rfl)
theorem vMa (rs : List (List Dp)) (q : List (List D)) (a b c : Nat) (h : q.map (GA (aM a b c)) = q:=by first | rfl | exact am _ _) : (ai rs ++ q).map (GA (aM a b c)) = ai rs ++ q:=HO.trans (by rw [am (aM a b c) rs,h])
def ptF (v : Int) (n : Nat) (l : List PtT) : List PtT:=bif decide (v ≥ 0) then l ++ [⟨(n : Int),v⟩] else l
theorem yL (l : List PtT) (n : Nat) (v : Int) : ai (l.map PtT.row) ++ [[int (n : Int),int v]] = ai ((l ++ [PtT.mk (n : Int) v]).map PtT.row):=by simp [PtT.row]
theorem pt_b {kk ks ko to : Int} {rs : List Int} {l : List PtT} {n : Nat} {v : Int} (hv : rs[n]? = .some v) (hn : inR (n : Int) 1024 = true) (hl : l.length ≤ 2000) (hlt : decide ((n : Int) < if false = true then if 1024 > to then 1024 else to else if 1024 < to then 1024 else to) = true) (hw : Fs.wrap ((n : Int) + 1) = ((n + 1 : Nat) : Int)) : (CW Fp Γ0 [] false (sub Kt 0) (ptS kk ks ko to rs l (n : Int)) .normal (ptS kk ks ko to rs (ptF v n l) ((n + 1 : Nat) : Int))):=by
 cases hc0 : decide (v ≥ 0)
 ·refine zX { t:=mkT 38 0 [(3,int to),(10,.ref (.vec 2 0)),(11,.ref (.ptr 1 0)),(12,int (Fz Fs ((↑n : Int) + 1)))],h:=[.var [int kk,int ks,int ko],.var (GA (aM 2 0 0) (FO (bb rs))),.vec (ai (Fo PtT.row l)) 0 2],m:=[] } FH [.st (.mask [3,10,11,12]),.st (.ren 2 0),.st (.trimV 3)] [.b true,.ov 27 (int v),.b false] (.c hlt (.c hn (.c (show bD Fp [.var [int kk,int ks,int ko],.var (FO (bb rs)),.vec (ai (Fo PtT.row l)) 0 2] 3 (.ref (.ptr 1 (0 + FA (↑n : Int) * 1))) = some (int v) from ?_) (.c hc0 (.c (vM (Fo PtT.row l) 2 0 0) (.c (show FL 3 (match 0 == 2 with | true=>.vec (ai (Fo PtT.row l)) 0 2 | false=>keepX (aM 2 0 0) (.var [int kk,int ks,int ko])) = true from rfl) (.c (show FL 3 (match 0 + 1 == 2 with | true=>.vec (ai (Fo PtT.row l)) 0 2 | false=>keepX (aM 2 0 0) (.var (FO (bb rs)))) = true from ?_) (.c (iV 3 (Fo PtT.row l) 0 2) .n)))))))) (by (simp only []; done)) (by (simp only [hw,ptF,hc0,cond_false,lK]; done)) <;> (first | exact yK rfl hv (by simp) | exact uA)
 ·let v0 : List Blk:=[.var [int kk,int ks,int ko],.var (FO (bb rs)),.vec (ai (Fo PtT.row l)) 0 2]
  refine zX { t:=mkT 38 0 [(3,int to),(10,.ref (.vec 2 0)),(11,.ref (.ptr 1 0)),(12,int (Fz Fs ((↑n : Int) + 1)))],h:=[.var [int kk,int ks,int ko],.var (GA (aM 2 1 0) (FO (bb rs))),.vec (ai (Fo PtT.row l) ++ [[int (↑n : Int),int v]]) 0 2],m:=[] } FH [.st (.mask [3,10,11,12]),.st (.ren 2 0),.st (.trimV 3)] [.b true,.ov 27 (int v),.b true,.ov 33 (int v)] (.c hlt (.c hn (.c (show bD Fp v0 3 (.ref (.ptr 1 (0 + FA (↑n : Int) * 1))) = some (int v) from ?_) (.c hc0 (.c hn (.c (show bD Fp v0 3 (.ref (.ptr 1 (0 + FA (↑n : Int) * 1))) = some (int v) from ?_) (.c (show (FN [[int (↑n : Int),int v]] (aG 2) && roomOk (Fu (ai (Fo PtT.row l)) + Fu [[int (↑n : Int),int v]]) 16) = true from ?_) (.c (vMa (Fo PtT.row l) [[int (↑n : Int),int v]] 2 1 0) (.er [[int (↑n : Int),int v]] (.c (show FL 3 (match 0 == 2 with | true=>.vec (ai (Fo PtT.row l) ++ [[int (↑n : Int),int v]]) 0 2 | false=>keepX (aM 2 1 0) (.var [int kk,int ks,int ko])) = true from rfl) (.c (show FL 3 (match 0 + 1 == 2 with | true=>.vec (ai (Fo PtT.row l) ++ [[int (↑n : Int),int v]]) 0 2 | false=>keepX (aM 2 1 0) (.var (FO (bb rs)))) = true from ?_) (.c (iVa 3 (Fo PtT.row l) [[int (↑n : Int),int v]] 0 2) .n)))))))))))) (by subst v0; (simp only []; done)) (by subst v0; (simp only [hw,ptF,hc0,cond_true,yL,lK]; first | done | rfl)) <;> subst v0 <;> (first | exact yK rfl hv (by simp) | exact uA | (simp [aG,D.one,HU,roomOk]; omega))
theorem ED {kk ks ko to : Int} {rs : List Int} {l : List PtT} {x : Int} (hlt : decide (x < if false = true then if 1024 > to then 1024 else to else if 1024 < to then 1024 else to) = false) : (CW Fp Γ0 [] false (sub Kt 0) (ptS kk ks ko to rs l x) (.exit 0) { t:=mkT 38 0 [(10,.ref (.vec 2 0))],h:=ptH kk ks ko rs l,m:=[] }):=by
 exact zx [.st (.mask [10])] [.b false] (.c hlt .n)
def uB (to : Int) : Int:=if to < 1024 then to else 1024
theorem oV (to : Int) : (if false = true then if 1024 > to then 1024 else to else if 1024 < to then 1024 else to) = uB to:=by
 unfold uB; simp; split <;> split <;> omega
def yM (rs : List Int) (x to : Int) : List PtT:=(Jj x.toNat (uB to - x).toNat).foldl (fun l n=>ptF (rs.getD n 0) n l) []
theorem sR (v : Int) (n : Nat) (l : List PtT) : (ptF v n l).length ≤ l.length + 1:=by unfold ptF; cases decide (v ≥ 0) <;> simp
theorem pt_cw {kk ks ko to : Int} {rs : List Int} (hr : rs.length = 1024) {x : Int} (hx : 0 ≤ x) :
  CW Fp Γ0 [] false (.loop (sub Kt 0)) (ptS kk ks ko to rs [] x) (.exit 0) { t:=mkT 38 0 [(10,.ref (.vec 2 0))],h:=ptH kk ks ko rs (yM rs x to),m:=[] }:=by
 have hx' : ((x.toNat : Nat) : Int) = x:=by omega
 have hh : uB to ≤ 1024:=by unfold uB; split <;> omega
 have:=Ha (P:=Fp) (Γ:=Γ0) (h0:=[]) (rd:=false) (c:=sub Kt 0) (σ:=List PtT) (ρ:=Empty) (Jj x.toNat (uB to - x).toNat) (fun n l=>.inl (ptF (rs.getD n 0) n l))
  (fun i l=>ptS kk ks ko to rs l (x + (i : Int))) (.exit 0) (fun l=>{ t:=mkT 38 0 [(10,.ref (.vec 2 0))],h:=ptH kk ks ko rs l,m:=[] }) (fun r=>r.elim)
  (fun i l=>l.length ≤ i) (by simp) (fun r=>r.elim) ?_ ?_ [] (by simp)
 ·rw [aK (fun l n=>ptF (rs.getD n 0) n l)] at this
  simpa [aV,yM] using this
 ·intro i n l hn hs
  obtain ⟨hi,he⟩:=Fy.1 hn
  simp only [LA] at hi
  simp only [Lq,J0] at he
  have hlt : (n : Int) < uB to:=by omega
  have hb : rs[n]? = some (rs.getD n 0):=by
   rw [FG,FK (by rw [hr]; omega)]; rfl
  refine ⟨fun s' h=>by cases h; have:=sR (rs.getD n 0) n l; omega,?_⟩
  have key:=pt_b (kk:=kk) (ks:=ks) (ko:=ko) (to:=to) (l:=l) hb (by simp [inR]; omega) (by omega) (by rw [oV]; simpa using hlt) (by rw [wrap_i64 (by omega) (by omega)]; omega)
  have e1 : x + (i : Int) = (n : Int):=by omega
  have e2 : x + ((i + 1 : Nat) : Int) = ((n + 1 : Nat) : Int):=by omega
  simp only [ae,e1,e2]
  exact key
 ·intro l _
  refine ED ?_
  rw [oV]
  simp
  omega
def ptLo (frm : Int) : Int:=if true = true then if frm > 0 then frm else 0 else if frm < 0 then frm else 0
def ba (kk ks ko frm to known : Int) (l : List FactT) : List PtT:=yM (bd kk ks ko known l) (ptLo frm) to
theorem oW (frm : Int) : 0 ≤ (if true = true then if frm > 0 then frm else 0 else if frm < 0 then frm else 0):=by simp; split <;> omega
theorem Bj {kk ks ko frm to known : Int} {l : List FactT} (hl : ad l) {r0 : List Int} (e1 : cD Fp [.var [int kk,int ks,int ko]] 215 (.ref (.ptr 1 0)) [.var [int kk,int ks,int ko],.var (bb r0).flatten]) (h0 : r0.length = 1024) (h : List Blk) : (Ev Fp Γ0 111 [ab (l.map FC),.agg [int kk,int ks,int ko],int frm,int to,int known] h (ab ((ba kk ks ko frm to known l).map PtT.row)) h):=by
 have hl0:=(@pt_cw (kk) (ks) (ko) (to) (bd kk ks ko known l) (by first | assumption | rfl | exact cK | exact oW _ | exact sQ rfl h0 cK | (simp; done)) (if true = true then if frm > 0 then frm else 0 else if frm < 0 then frm else 0) (by first | assumption | rfl | exact cK | exact oW _ | exact sQ rfl h0 cK | (simp; done)))
 let v0:=FO (bb (bd kk ks ko known l))
 let v1:=Fo PtT.row (yM (bd kk ks ko known l) (if true = true then if frm > 0 then frm else 0 else if frm < 0 then frm else 0) to)
 let v2 : List Blk:=[.var [int kk,int ks,int ko],.var (FO (bb r0))]
 let v3:=Fo PtT.row (ba kk ks ko frm to known l)
 refine z0 [.val (FU v0),.oh 11 (.ref (.ptr 1 0)) v2,.oh 10011 HM [.var [int kk,int ks,int ko],.var v0],.nx 1,.st (.nilT 10 2),.sum [3,10,11,12] (Gf 0) { t:=mkT 38 0 [(10,.ref (.vec 2 0))],h:=[.var [int kk,int ks,int ko],.var v0,.vec (ai v1) 0 2],m:=[] },.st (.frz 2 v3)] (.c (@yJ kk ks ko known l hl ([.var [int kk,int ks,int ko]])) (.c (show cD Fp [.var [int kk,int ks,int ko]] 215 (.ref (.ptr 1 0)) v2 from ?_) (.c (show bH Fp v2 215 (.ref (.ptr 1 0)) (FU v0) = some [.var [int kk,int ks,int ko],.var v0] from ?_) (.c hl0 (.c (show ai v1 = Fo (fun x=>Fo D.p x) v3 from ?_) .n))))) h <;> subst v0 v1 v2 v3 <;> (first | assumption | rfl | exact sQ rfl h0 cK)
theorem yN {kk ks ko frm to known : Int} {l : List FactT} (hl : ad l) (h : List Blk) : Ev Fp Γ0 111 [ab (l.map FC),.agg [int kk,int ks,int ko],int frm,int to,int known] h (ab ((ba kk ks ko frm to known l).map PtT.row)) h :=
 Bj hl (r0:=FX 1024 0) (by unfold cD; kernel_rfl) (by simp) h
end Go.Vi
open Go Go.Proofs Go.Shelf Go.RowKit Go.Sort
namespace Go.Vi
abbrev j7 {α : Type} (enc : α → List Value) (l : List α) : List (List D):=l.map fun x=>(enc x).map lit
theorem nu {w : World} {av : Nat → Prop} {loc : Loc} {h : List Blk} : ∀ {vs ys : List Value},RelL w av loc h (vs.map lit) ys → ys = vs
  | [],[],_=>rfl
  | [],_ :: _,r=>by simp [RelL] at r
  | _ :: _,[],r=>by simp [RelL] at r
  | v :: vs,y :: ys,r=>by
    simp only [GJ,RelL] at r
    have h1 : y = v:=by simpa [Rel,RelP] using r.1
    rw [h1,nu r.2]
theorem ff {w : World} {av : Nat → Prop} {loc : Loc} {h : List Blk} : ∀ {vs : List Value},RelL w av loc h (vs.map lit) vs
  | []=>trivial
  | v :: vs=>by
    simp only [GJ,RelL]
    exact ⟨by simp [Rel,RelP],ff⟩
theorem nv {α : Type} (enc : α → List Value) (l : List α) : (j7 enc l).flatten = ((l.map enc).flatten).map lit:=by
  induction l with
  | nil=>rfl
  | cons a l ih=>simp only [j7,GJ,Gs,HO] at ih ⊢; rw [ih]
theorem jv {α : Type} [Inhabited α] (enc : α → List Value) (k : Nat) (hk : ∀ x,(enc x).length = k) (l : List α) : (flatK enc k l.toArray).toList = (l.map enc).flatten:=by
  have key : ∀ (l : List α) (t : Nat),t < l.length * k → ((l.map enc).flatten)[t]? = some ((enc (l.toArray[t / k]!))[t % k]!):=by
    intro l
    induction l with
    | nil=>intro t h; simp at h
    | cons a l ih =>
      intro t h
      simp only [GJ,Gs]
      rcases Nat.lt_or_ge t k with hlt | hge
      · rw [FQ (by rw [hk]; exact hlt),Nat.div_eq_of_lt hlt,Nat.mod_eq_of_lt hlt]
        have : t < (enc a).length:=by rw [hk]; exact hlt
        simp [this]
      · have k0 : 0 < k := by rcases Nat.eq_zero_or_pos k with h0 | h0
                              · subst h0; simp at h
                              · exact h0
        rw [Ga (by rw [hk]; exact hge),hk]
        obtain ⟨u,rfl⟩ : ∃ u,t = u + k:=⟨t - k,by omega⟩
        have hu : u < l.length * k:=by simp only [GF,Nat.add_mul,J0] at h; omega
        rw [show u + k - k = u by omega,ih u hu,Nat.add_div_right _ k0,Nat.add_mod_right]
        simp
  apply Ia
  intro t
  have hlen : ((l.map enc).flatten).length = l.length * k:=by
    clear key
    induction l with
    | nil=>simp
    | cons a l ih=>simp only [GJ,Gs,List.length_append,hk,ih,GF,Nat.add_mul,J0]; omega
  by_cases ht : t < l.length * k
  · rw [key l t ht]
    simp [flatK,ht]
  · rw [GG (by simp [flatK]; omega),GG (by omega)]
theorem vQ {w w' : World} (h1 : w.heap.size ≤ w'.heap.size) (h2 : ∀ k,k < w.heap.size → w'.heap[k]? = w.heap[k]?) (h3 : w'.tape = w.tape ∧ w'.os = w.os ∧ w'.output = w.output ∧ w.drawn ≤ w'.drawn) :
    ∃ q os',w' = Je (w.drewN q) os':=by
  refine ⟨w'.drawn - w.drawn,w'.heap.extract w.heap.size w'.heap.size,?_⟩
  obtain ⟨heap,tape,drawn,os,output⟩:=w
  obtain ⟨heap',tape',drawn',os',output'⟩:=w'
  obtain ⟨rfl,rfl,rfl,h4⟩:=h3
  simp only [Je,World.drewN] at h1 h2 h4 ⊢
  congr 1
  · apply Array.ext'
    rw [Array.toList_append,Array.toList_extract]
    apply Ia
    intro i
    by_cases hi : i < heap.size
    · rw [FQ (by simpa using hi)]
      have:=h2 i hi
      rw [← GL,← GL] at this
      exact this
    · rw [Ga (by simpa using HV hi)]
      simp only [List.extract_eq_take_drop,Array.length_toList]
      by_cases hj : i < heap'.size
      · rw [List.getElem?_take,if_pos (by omega),List.getElem?_drop]
        congr 1; omega
      · rw [GG (by simpa using HV hj),GG (by simp; omega)]
  · omega
theorem vR {P : Program} {Γ : ap} {O : Nat → Prop} {α : Type} [Inhabited α] {enc : α → List Value} {k g : Nat} {cf : α → α → Int} {w : World} {loc : Loc} {h : List Blk} (R : Rep Γ O w loc h) {blk : Nat} (hblk : avs O loc h blk)
    (hE : ∀ x y,Ev P Γ g [.agg ((enc x).map lit),.agg ((enc y).map lit)] [] (int (cf x y)) []) (size : Nat) : CmpLays P g #[] enc k cf blk 0 size w:=by
  intro m os dk hs x y
  generalize hW : sortWorldK enc k w blk 0 m dk os = W
  have hb : blk < w.heap.size:=by
    rcases hblk with ho | ho
    · exact R.obd blk ho
    · exact (R.inb blk ho).1
  have hcell : ∀ b off v,¬ avs O loc h b → w.cell? ⟨b,off,none⟩ = some v → W.cell? ⟨b,off,none⟩ = some v ∧ ¬ avs (fun _=>False) loc [] b:=by
    intro b off v hn hc
    have hne : b ≠ blk:=fun e=>hn (e ▸ hblk)
    refine ⟨?_,fun ho=>ho.elim id (fun h=>absurd h ci)⟩
    subst hW
    have hlt : b < w.heap.size:=by
      simp only [J7] at hc
      split at hc
      · rename_i hx; exact (Hh.1 hx).1
      · simp at hc
    have : (sortWorldK enc k w blk 0 m dk os).heap[b]? = w.heap[b]?:=by
      unfold sortWorldK
      rw [IQ _ _ (by simpa [putRowK,G6,G2,Ho] using hlt)]
      simp [putRowK,G6,G2,Ho,Ie,Ne.symm hne]
    simp only [J7,this]
    exact hc
  have R0 : Rep Γ (fun _=>False) W loc []:=by
    refine ⟨fun blk ho=>absurd ho ci,fun blk ho=>ho.elim,fun b b' x x' k c c' hb=>by simp at hb,fun b x hb=>by simp at hb,fun g cs hg=>?_⟩
    exact RelCells.mono hcell g 0 cs (R.glo g cs hg)
  have ra : RelL W (avs (fun _=>False) loc []) loc [] [.agg ((enc x).map lit),.agg ((enc y).map lit)] [.agg (enc x).toArray,.agg (enc y).toArray]:=by
    refine ⟨⟨_,rfl,ff⟩,⟨_,rfl,ff⟩,trivial⟩
  refine Lr (callsIn_wide.1 (hE x y (fun _=>False) W loc _ R0 ra)) ?_
  rintro e w' ⟨v,d2,h2,l',rfl,⟨rfl,rfl⟩,R',E',rd⟩
  refine ⟨?_,vQ E'.size (fun b hb=>E'.same b hb ci) E'.tape⟩
  have : v = .int .i64 (cf x y):=by simpa [Rel,RelP] using rd
  rw [this]
theorem qY {P : Program} {ρ : Ren} {Γ : ap} (ok : POk P) (L : SlLaysF0.n6 P ρ) {α : Type} [Inhabited α] {enc : α → List Value} {k : Nat} (aE : ∀ w,(isAgg (ρ.t 24)).run P w = .ok true w) (zE : ∀ w,(Go.sizeOf (ρ.t 24)).run P w = .ok k w) (hk : ∀ x,(enc x).length = k) (h1 : ∀ x,∀ v ∈ enc x,v.oneCell' = true)
    {cf : α → α → Int} (hO : Sort.SWO (ltOf cf)) {g : Nat} (hg : mf P g = true) (hE : ∀ x y,Ev P Γ g [.agg ((enc x).map lit),.agg ((enc y).map lit)] [] (int (cf x y)) [])
    {h : List Blk} {b e : Nat} {l : List α} (hb : h[b]? = some (.vec (j7 enc l) e k)) (hl : l.length < 4611686018427387904) (hT : ∀ x ∈ l,∀ y ∈ l,(ltOf cf) x y = false → (ltOf cf) y x = false → x = y) :
    Ev P Γ (ρ.f 6) [.ref (.vec b e),.p (.v (.func (.func g) #[] #[]))] h (.tup []) (h.set b (.vec (j7 enc (l.mergeSort fun x y=>!(ltOf cf) y x)) e k)):=by
  intro O w loc vs R ra
  obtain ⟨y,rfl⟩ : ∃ y,vs = [y,.func (.func g) #[] #[]]:=by
    match vs,ra with
    | [y, z], r => exact ⟨y, by have : z = .func (.func g) #[] #[] := by simpa [Rel, RelP, RelL] using r.2
                                rw [this]⟩
    | [],r=>simp [RelL] at r
    | [_],r=>simp [RelL] at r
    | _ :: _ :: _ :: _,r=>simp [RelL] at r
  have r:=ra.1
  simp only [Rel,RefRel,hb] at r
  have hv:=r.2.2 trivial
  have B:=R.blk b _ hb
  simp only [BlkOk] at B
  have hlen : (j7 enc l).length = l.length:=by simp [j7]
  refine callsIn_wide.2 ?_
  cases hlb : loc b with
  | none =>
    rw [hlb] at hv B
    obtain ⟨hn,rfl⟩:=hv
    have hl0 : l = []:=by simpa [j7] using hn
    subst hl0
    refine Lr (AnyF.slices_SortFunc_none L none 0 _ w) ?_
    rintro e' w' ⟨rfl,rfl⟩
    have hset : h.set b (.vec (j7 enc (([] : List α).mergeSort fun x y=>!(ltOf cf) y x)) e k) = h:=by
      apply Ia
      intro i
      by_cases hi : i = b
      · subst hi; rw [aZ hb,hb]; simp
      · rw [bB _ _ hi]
    refine ⟨.tuple #[],.tup [],_,loc,rfl,⟨rfl,rfl⟩,?_,?_,?_⟩
    · rw [hset]; exact R
    · rw [hset]; exact Ext.refl _ _ _
    · simp [Rel,RelL]
  | some p =>
    obtain ⟨blk,cap⟩:=p
    rw [hlb] at hv B
    obtain ⟨rfl,hcap⟩:=hv
    simp only at B
    obtain ⟨c,T,fr,ys,hobj,hcs,hle,hfr,hsz,hrel,rest,hcl⟩:=B
    rw [nv] at hrel
    have hys:=nu hrel
    subst hys
    have hblk : blk < w.heap.size:=(Hh.1 hobj).1
    have hown : avs O loc h blk:=.inr ⟨b,_,cap,hb,by simp,hlb⟩
    have hH : HoldsK enc k w blk 0 l.toArray:=by
      intro j hj
      have hj' : j < l.length * k:=by simpa using hj
      have hc : c[j]? = some (flatK enc k l.toArray)[j]!:=by
        rw [← GL,hcl,← jv enc k hk l,FQ (by simpa using hj')]
        rw [GL,getElem!_pos _ j (by simpa using hj')]
        exact Gt _
      constructor
      · simp [J7,hobj,hc]
      · have:=hfr j (Hh.1 hc).1
        obtain ⟨lo,hi⟩:=fr
        simp only [World.frozen?,hobj,Nat.zero_add]
        rw [← Bool.not_eq_true]
        simpa using this
    have eg : ∀ args w,(callFunc g args).run P w = .ok (.enter g args) w:=fun args w=>by
      unfold mf at hg
      split at hg
      · rename_i fn hfn; exact call_run ok hfn hg args w
      · simp at hg
    rw [hlen]
    refine Lr (AnyQ.slices_SortFunc L k aE zE enc hk h1 cf hO g #[] blk 0 cap l.toArray w eg (vR R hown hE _) hH hblk hl) ?_
    rintro e' w' ⟨rfl,d',n,os,hP,hS,rfl⟩
    have hd' : d'.toList = l.mergeSort fun x y=>!(ltOf cf) y x:=by
      obtain ⟨hsz',_,hperm⟩:=hP
      have e1 : d'.extract 0 l.toArray.size = d':=by rw [← hsz']; exact Ls
      rw [e1,Ls] at hperm
      refine List.Perm.eq_of_pairwise (le:=fun x y=>(!(ltOf cf) y x) = true) ?_ ?_ ?_ (hperm.trans (JL _ _).symm)
      · intro a b' ha hb' h1 h2
        simp only [GN] at h1 h2
        have ha' : a ∈ l:=by simpa using hperm.mem_iff.1 ha
        have hb2 : b' ∈ l:=(JL _ _).mem_iff.1 hb'
        exact hT a ha' b' hb2 h2 h1
      · rw [List.pairwise_iff_getElem]
        intro i j hi hj hij
        have hi' : i < d'.size:=by simpa using hi
        have hj' : j < d'.size:=by simpa using hj
        have:=hS i j (Nat.zero_le _) hij (by omega)
        rw [getElem!_pos d' j hj',getElem!_pos d' i hi'] at this
        simpa using this
      · exact List.pairwise_mergeSort (fun a b c h1 h2 => by
          simp only [GN] at h1 h2 ⊢
          exact hO.ntrans _ _ _ h2 h1) (fun a b=>by
          cases hab : (ltOf cf) b a
          · simp
          · have : (ltOf cf) a b = false:=by
              cases hba : (ltOf cf) a b
              · rfl
              · have:=hO.trans _ _ _ hab hba
                rw [hO.irrefl] at this; exact absurd this (by simp)
            simp [this]) l
    have hdA : d' = (l.mergeSort fun x y=>!(ltOf cf) y x).toArray:=by rw [← hd']
    have hlm : (l.mergeSort fun x y=>!(ltOf cf) y x).length = l.length:=by simp
    subst hdA
    clear hP hS hd'
    generalize (l.mergeSort fun x y=>!(ltOf cf) y x) = m at hlm ⊢
    have hobj' : (sortWorldK enc k w blk 0 n m.toArray os).heap[blk]? = some (.cells (HL id 0 (flatK enc k m.toArray) c) T fr):=by
      unfold sortWorldK
      rw [IQ _ _ (by simpa [putRowK,G6,G2,Ho] using hblk)]
      simp [putRowK,G6,G2,Ho,Ie,hobj,Sort.onCells]
    have hfl : ((l.map enc).flatten).length = l.length * k:=by rw [← jv enc k hk]; simp
    have hcells : (HL id 0 (flatK enc k m.toArray) c).toList = (m.map enc).flatten ++ rest:=by
      unfold HL
      rw [Array.toList_mapIdx,hcl,← jv enc k hk m]
      apply Ia
      intro i
      rw [List.getElem?_mapIdx]
      by_cases hi : i < l.length * k
      · rw [FQ (by rw [hfl]; exact hi),FQ (by simpa [hlm] using hi)]
        have hi2 : i < ((l.map enc).flatten).length:=by rw [hfl]; exact hi
        have hi3 : i < (flatK enc k m.toArray).size:=by simpa [hlm] using hi
        rw [FK hi2,GL,Gt hi3]
        simp only [Option.map_some,Nat.zero_add,Nat.zero_le,Nat.sub_zero,true_and,id_eq,if_pos hi3]
        rw [getElem!_pos _ i hi3]
      · rw [Ga (by rw [hfl]; exact HV hi),Ga (by simpa [hlm] using HV hi)]
        simp [hi,hlm,hfl]
    have key:=R.step (w':=sortWorldK enc k w blk 0 n m.toArray os) (l':=loc) (h':=h.set b (.vec (j7 enc m) e k)) b (.vec (j7 enc m) e k)
      (by simp [sortWorldK,Je,putRowK,G6,G2,Ho]) ⟨rfl,rfl,rfl,by simp [sortWorldK,Je,putRowK,G6,G2,Ho]⟩ (fun i hi=>bB _ _ hi) (aZ hb) (fun _ _=>rfl)
      (fun z hz=>by rw [hb] at hz; cases hz; exact ⟨⟨Nat.le_refl _,fun _=>by simp [j7,hlm],rfl⟩,fun _=>rfl⟩)
      (fun k' hk' hno=>by
        have hkb : k' ≠ blk:=fun e=>hno _ cap hb (by simp) (by rw [hlb,e])
        unfold sortWorldK
        rw [IQ _ _ (by simpa [putRowK,G6,G2,Ho] using hk')]
        simp [putRowK,G6,G2,Ho,Ie,Ne.symm hkb])
      (fun k' c' hk'=>.inl ⟨_,c',hb,by simp,hk'⟩)
      (fun E=>by
        simp only [BlkOk,hlb]
        refine ⟨_,T,fr,(m.map enc).flatten,hobj',?_,?_,?_,?_,?_,rest,hcells⟩
        · simpa [HL] using hcs
        · simpa [j7,hlm] using hle
        · simpa [HL] using hfr
        · intro r hr
          obtain ⟨x,_,rfl⟩:=FY.1 hr
          simp [hk]
        · rw [nv]; exact ff)
    exact ⟨.tuple #[],.tup [],_,loc,rfl,⟨rfl,rfl⟩,key.1,key.2,by simp [Rel,RelL]⟩
end Go.Vi
