/- StandingOfSpecUpto: part of the proof: contracts of the functions that the law reaches, and the law. No conditions beyond the given statement's own. -/
import Derived.Test.YtilebidefogaiaaGreatDoorW2
import Derived.Shelf.Slices.In.SortAlone
import Derived.Shelf.Slices.In.SortNone
import Derived.Sort.EveryDepth
open Go.IntKind renaming i64 → Fs, wrap → Fz
open Go.Proofs.Tryz renaming prog → Fp, f124 → Jp
open Go.Vi.Dp renaming v → GT, sl → Gp
open Go.Value renaming tuple → Gk, int → H2
open Go.Exit renaming normal → FH, exit → Gf
open Bool renaming false_and → GC, and_false → GD, and_self → Hq, or_eq_false_iff → GZ, not_eq_false' → Ic, not_eq_true' → GN, and_eq_true → FB
open Go.Vi.FactT renaming row → FC
open Int renaming toNat → FA
open List renaming getD → FG, map → Fo, getElem?_eq_getElem → FK, getElem_mem → JS, getElem?_eq_none → GG, length → Fu, mem_of_getElem? → FV, map_cons → GJ, flatten_cons → Gs, cons_append → Jz, ext_getElem? → Ia, getElem?_append_left → FQ, getElem?_append_right → Ga
open Go.Vi.D renaming tup → FM, agg → FU
open Go.Vi.RuleT renaming fl → Fv, bad → Jh
open Go.Vi.Ev renaming glob0 → F1, castH → FP, symT → IY, nilW → GK, frameX → GY
open Go.Vi.SysT renaming row → FF, sys → Hu
open Go.Vi.ClauseT renaming row → GE
open Go.Vi.Cls renaming row → Gh
open Go.Vi.FeeT renaming row → GV
open Array renaming getElem?_eq_some_iff → Hh, getElem?_modify → Ie
open Go.Sort renaming grow → Je, putRow → G6, ahead → Ho, putCells → HL, heap_grow_old → IQ, mapBlock → G2
open Nat renaming le_of_not_lt → HV
open Go Go.Proofs
namespace Go.Vi
set_option maxRecDepth 100000
set_option maxHeartbeats 4000000
def l7 (kk ks ko term known : Int) (f : FactT) : Bool:=keyIs kk ks ko f && decide (f.frm ≤ term) && decide (term < f.til) && decide (f.known ≤ known)
abbrev a7S (kk ks ko term known : Int) (fs : List (List Dp)) (best i : Int) : AS:={ t:=mkT 76 0 [(0,ab fs),(2,int term),(3,int known),(5,.ref (.ptr 0 0)),(8,int 0),(9,bool false),(10,int best),(11,int i)],h:=[.var [int kk,int ks,int ko]],m:=[] }
theorem a7_b0 {kk ks ko term known : Int} {fs : List (List Dp)} {i : Nat} {f : FactT} (hr : ah (i : Int) fs f.row 8) (hlt : decide ((i : Int) < (fs.length : Int)) = true) (hw : Fs.wrap ((i : Int) + 1) = ((i + 1 : Nat) : Int)) : (CW Fp Γ0 [] false (sub Jp 0) (a7S kk ks ko term known fs (-1) i) .normal (a7S kk ks ko term known fs (bif l7 kk ks ko term known f then (i : Int) else -1) ((i + 1 : Nat) : Int))):=by
 cases hc0 : f.kind == kk && (f.sub == ks && (f.obj == ko && true))
 ·let v0:=D.p (GT (Gk { toList:=[] }))
  refine zX { t:=mkT 76 0 [(0,ab fs),(2,int term),(3,int known),(5,.ref (.ptr 0 0)),(8,int 0),(9,bool false),(10,int (-1)),(11,int (Fz Fs ((↑i : Int) + 1)))],h:=[.var [int kk,int ks,int ko]],m:=[] } FH [.st (.mask [0,2,3,5,8,9,10,11]),.st (.trim 1)] [.b true,.row [vi f.kind,vi f.sub,vi f.obj,vi f.value,vi f.frm,vi f.til,vi f.known,vi f.no],.g false,.g false,.g false,.g false,.g false,.ov 33 (bool false),.g false,.g false,.g false,.g false,.g false,.ov 40 (bool false),.g false,.g false,.g false,.g false,.ov 46 (bool false),.g false,.g false,.g false,.g false,.g false,.g false,.g false,.g false,.g false,.g false,.g false,.ov 59 (bool false),.b false] (.c hlt (.c hr (.c (eqb hc0) (.c (eqb hc0) (.c (eqb hc0) (.c (eqb hc0) (.c (eqb hc0) (.c (pkf v0 (bool false) hc0) (.f (.f (.f (.f (.f (.c (pkf v0 (bool false) rfl) (.f (.f (.f (.f (.c (pkf v0 (bool false) rfl) (.f (.f (.f (.er false (.er false (.er false (.er false (.er false (.er false (.er false (.f (.c (pkf v0 (bool false) rfl) (.er false .n)))))))))))))))))))))))))))))))) ?_ ?_ <;> subst v0 <;> (first | rfl | (have hk : keyIs kk ks ko f = _:=hc0; simp only [l7,hk,hw,GC,cond_false]; done))
 ·cases hc1 : decide (f.frm ≤ term)
  ·let v0:=D.p (GT (Gk { toList:=[] }))
   refine zX { t:=mkT 76 0 [(0,ab fs),(2,int term),(3,int known),(5,.ref (.ptr 0 0)),(8,int 0),(9,bool false),(10,int (-1)),(11,int (Fz Fs ((↑i : Int) + 1)))],h:=[.var [int kk,int ks,int ko]],m:=[] } FH [.st (.mask [0,2,3,5,8,9,10,11]),.st (.trim 1)] [.b true,.row [vi f.kind,vi f.sub,vi f.obj,vi f.value,vi f.frm,vi f.til,vi f.known,vi f.no],.g true,.g true,.g true,.g true,.g true,.ov 33 (bool (decide (f.frm ≤ term))),.g false,.g false,.g false,.g false,.g false,.ov 40 (bool false),.g false,.g false,.g false,.g false,.ov 46 (bool false),.g false,.g false,.g false,.g false,.g false,.g false,.g false,.g false,.g false,.g false,.g false,.ov 59 (bool false),.b false] (.c hlt (.c hr (.c (eqa hc0) (.c (eqa hc0) (.c (eqa hc0) (.c (eqa hc0) (.c (eqa hc0) (.c (pkt (bool (decide (f.frm ≤ term))) (bool false) hc0) (.c (eqb hc1) (.c (eqb hc1) (.c (eqb hc1) (.c (eqb hc1) (.c (eqb hc1) (.c (pkf v0 (bool false) hc1) (.f (.f (.f (.f (.c (pkf v0 (bool false) rfl) (.f (.f (.f (.er false (.er false (.er false (.er false (.er false (.er false (.er false (.f (.c (pkf v0 (bool false) rfl) (.er false .n)))))))))))))))))))))))))))))))) ?_ ?_ <;> subst v0 <;> (first | rfl | (have hk : keyIs kk ks ko f = _:=hc0; simp only [l7,hk,hw,hc1,GD,GC,cond_false]; done))
  ·cases hc2 : decide (term < f.til)
   ·refine zX { t:=mkT 76 0 [(0,ab fs),(2,int term),(3,int known),(5,.ref (.ptr 0 0)),(8,int 0),(9,bool false),(10,int (-1)),(11,int (Fz Fs ((↑i : Int) + 1)))],h:=[.var [int kk,int ks,int ko]],m:=[] } FH [.st (.mask [0,2,3,5,8,9,10,11]),.st (.trim 1)] [.b true,.row [vi f.kind,vi f.sub,vi f.obj,vi f.value,vi f.frm,vi f.til,vi f.known,vi f.no],.g true,.g true,.g true,.g true,.g true,.ov 33 (bool (decide (f.frm ≤ term))),.g true,.g true,.g true,.g true,.g true,.ov 40 (bool (decide (term < f.til))),.g false,.g false,.g false,.g false,.ov 46 (bool false),.g false,.g false,.g false,.g false,.g false,.g false,.g false,.g false,.g false,.g false,.g false,.ov 59 (bool false),.b false] (.c hlt (.c hr (.c (eqa hc0) (.c (eqa hc0) (.c (eqa hc0) (.c (eqa hc0) (.c (eqa hc0) (.c (pkt (bool (decide (f.frm ≤ term))) (bool false) hc0) (.c (eqa hc1) (.c (eqa hc1) (.c (eqa hc1) (.c (eqa hc1) (.c (eqa hc1) (.c (pkt (bool (decide (term < f.til))) (bool false) hc1) (.c (eqb hc2) (.c (eqb hc2) (.c (eqb hc2) (.c (eqb hc2) (.c (pkf (D.p (GT (Gk { toList:=[] }))) (bool false) hc2) (.f (.f (.f (.er false (.er false (.er false (.er false (.er false (.er false (.er false (.f (.c (pkf (D.p (GT (Gk { toList:=[] }))) (bool false) rfl) (.er false .n)))))))))))))))))))))))))))))))) ?_ ?_ <;> (first | rfl | (have hk : keyIs kk ks ko f = _:=hc0; simp only [l7,hk,hw,hc1,hc2,GD,GC,Hq,cond_false]; done))
   ·cases hc3 : decide (f.known ≤ known)
    ·refine zX { t:=mkT 76 0 [(0,ab fs),(2,int term),(3,int known),(5,.ref (.ptr 0 0)),(8,int 0),(9,bool false),(10,int (-1)),(11,int (Fz Fs ((↑i : Int) + 1)))],h:=[.var [int kk,int ks,int ko]],m:=[] } FH [.st (.mask [0,2,3,5,8,9,10,11]),.st (.trim 1)] [.b true,.row [vi f.kind,vi f.sub,vi f.obj,vi f.value,vi f.frm,vi f.til,vi f.known,vi f.no],.g true,.g true,.g true,.g true,.g true,.ov 33 (bool (decide (f.frm ≤ term))),.g true,.g true,.g true,.g true,.g true,.ov 40 (bool (decide (term < f.til))),.g true,.g true,.g true,.g true,.ov 46 (bool (decide (f.known ≤ known))),.g false,.g false,.g false,.g false,.g false,.g false,.g false,.g false,.g false,.g false,.g false,.ov 59 (bool false),.b false] (.c hlt (.c hr (.c (eqa hc0) (.c (eqa hc0) (.c (eqa hc0) (.c (eqa hc0) (.c (eqa hc0) (.c (pkt (bool (decide (f.frm ≤ term))) (bool false) hc0) (.c (eqa hc1) (.c (eqa hc1) (.c (eqa hc1) (.c (eqa hc1) (.c (eqa hc1) (.c (pkt (bool (decide (term < f.til))) (bool false) hc1) (.c (eqa hc2) (.c (eqa hc2) (.c (eqa hc2) (.c (eqa hc2) (.c (pkt (bool (decide (f.known ≤ known))) (bool false) hc2) (.c (eqb hc3) (.c (eqb hc3) (.c (eqb hc3) (.er false (.er false (.er false (.er false (.er false (.er false (.er false (.c (eqb hc3) (.c (pkf (D.p (GT (Gk { toList:=[] }))) (bool false) hc3) (.er false .n)))))))))))))))))))))))))))))))) ?_ ?_ <;> (first | rfl | (have hk : keyIs kk ks ko f = _:=hc0; simp only [l7,hk,hw,hc1,hc2,hc3,GD,Hq,cond_false]; done))
    ·refine zX { t:=mkT 76 0 [(0,ab fs),(2,int term),(3,int known),(5,.ref (.ptr 0 0)),(8,int 0),(9,bool false),(10,int (↑i : Int)),(11,int (Fz Fs ((↑i : Int) + 1)))],h:=[.var [int kk,int ks,int ko]],m:=[] } FH [.st (.mask [0,2,3,5,8,9,10,11]),.st (.trim 1)] [.b true,.row [vi f.kind,vi f.sub,vi f.obj,vi f.value,vi f.frm,vi f.til,vi f.known,vi f.no],.g true,.g true,.g true,.g true,.g true,.ov 33 (bool (decide (f.frm ≤ term))),.g true,.g true,.g true,.g true,.g true,.ov 40 (bool (decide (term < f.til))),.g true,.g true,.g true,.g true,.ov 46 (bool (decide (f.known ≤ known))),.g true,.g true,.g true,.g false,.g false,.g false,.g false,.g false,.g false,.g false,.g true,.ov 58 (bool true),.ov 59 (bool true),.b true] (.c hlt (.c hr (.c (eqa hc0) (.c (eqa hc0) (.c (eqa hc0) (.c (eqa hc0) (.c (eqa hc0) (.c (pkt (bool (decide (f.frm ≤ term))) (bool false) hc0) (.c (eqa hc1) (.c (eqa hc1) (.c (eqa hc1) (.c (eqa hc1) (.c (eqa hc1) (.c (pkt (bool (decide (term < f.til))) (bool false) hc1) (.c (eqa hc2) (.c (eqa hc2) (.c (eqa hc2) (.c (eqa hc2) (.c (pkt (bool (decide (f.known ≤ known))) (bool false) hc2) (.c (eqa hc3) (.c (eqa hc3) (.c (eqa hc3) (.c (show (decide (-1 < 0) == false) = false from rfl) (.c (show (decide (-1 < 0) == false) = false from rfl) (.c (show (decide (-1 < 0) == false) = false from rfl) (.c (show (decide (-1 < 0) == false) = false from rfl) (.c (show (decide (-1 < 0) == false) = false from rfl) (.c (show (decide (-1 < 0) == false) = false from rfl) (.c (show (decide (-1 < 0) == false) = false from rfl) (.c (eqa hc3) (.c (show bU (bool (decide (-1 < 0))) (bool true) (D.p (GT (Gk { toList:=[] }))) (bool true) from (by rfl)) (.c (pkt (bool true) (bool false) hc3) (.er true .n))))))))))))))))))))))))))))))))) ?_ ?_ <;> (first | rfl | (have hk : keyIs kk ks ko f = _:=hc0; simp only [l7,hk,hw,hc1,hc2,hc3,Hq,cond_true]; done))
noncomputable abbrev uu (kk : Int) (ks : Int) (ko : Int) (f : FactT) : List Blk:=[.var [int kk,int ks,int ko],.var [int f.kind,int f.sub,int f.obj,int f.value,int f.frm,int f.til,int f.known,int f.no]]
theorem a7_b1 {kk ks ko term known : Int} {fs : List (List Dp)} {i j : Nat} {f g : FactT} (hr : ah (i : Int) fs f.row 8) (hg : ah (j : Int) fs g.row 8) (hj : decide ((j : Int) < 0) = false) (hlt : decide ((i : Int) < (fs.length : Int)) = true) (hw : Fs.wrap ((i : Int) + 1) = ((i + 1 : Nat) : Int)) : (CW Fp Γ0 [] false (sub Jp 0) (a7S kk ks ko term known fs (j : Int) i) .normal (a7S kk ks ko term known fs (bif l7 kk ks ko term known f && !befB f g then (i : Int) else (j : Int)) ((i + 1 : Nat) : Int))):=by
 cases hc0 : f.kind == kk && (f.sub == ks && (f.obj == ko && true))
 ·let v0:=D.p (GT (Gk { toList:=[] }))
  refine zX { t:=mkT 76 0 [(0,ab fs),(2,int term),(3,int known),(5,.ref (.ptr 0 0)),(8,int 0),(9,bool false),(10,int (↑j : Int)),(11,int (Fz Fs ((↑i : Int) + 1)))],h:=[.var [int kk,int ks,int ko]],m:=[] } FH [.st (.mask [0,2,3,5,8,9,10,11]),.st (.trim 1)] [.b true,.row [vi f.kind,vi f.sub,vi f.obj,vi f.value,vi f.frm,vi f.til,vi f.known,vi f.no],.g false,.g false,.g false,.g false,.g false,.ov 33 (bool false),.g false,.g false,.g false,.g false,.g false,.ov 40 (bool false),.g false,.g false,.g false,.g false,.ov 46 (bool false),.g false,.g false,.g false,.g false,.g false,.g false,.g false,.g false,.g false,.g false,.g false,.ov 59 (bool false),.b false] (.c hlt (.c hr (.c (eqb hc0) (.c (eqb hc0) (.c (eqb hc0) (.c (eqb hc0) (.c (eqb hc0) (.c (pkf v0 (bool false) hc0) (.f (.f (.f (.f (.f (.c (pkf v0 (bool false) rfl) (.f (.f (.f (.f (.c (pkf v0 (bool false) rfl) (.f (.f (.f (.er false (.er false (.er false (.er false (.er false (.er false (.er false (.f (.c (pkf v0 (bool false) rfl) (.er false .n)))))))))))))))))))))))))))))))) ?_ ?_ <;> subst v0 <;> (first | rfl | (have hk : keyIs kk ks ko f = _:=hc0; simp only [l7,hk,hw,GC,cond_false]; done))
 ·cases hc1 : decide (f.frm ≤ term)
  ·let v0:=D.p (GT (Gk { toList:=[] }))
   refine zX { t:=mkT 76 0 [(0,ab fs),(2,int term),(3,int known),(5,.ref (.ptr 0 0)),(8,int 0),(9,bool false),(10,int (↑j : Int)),(11,int (Fz Fs ((↑i : Int) + 1)))],h:=[.var [int kk,int ks,int ko]],m:=[] } FH [.st (.mask [0,2,3,5,8,9,10,11]),.st (.trim 1)] [.b true,.row [vi f.kind,vi f.sub,vi f.obj,vi f.value,vi f.frm,vi f.til,vi f.known,vi f.no],.g true,.g true,.g true,.g true,.g true,.ov 33 (bool (decide (f.frm ≤ term))),.g false,.g false,.g false,.g false,.g false,.ov 40 (bool false),.g false,.g false,.g false,.g false,.ov 46 (bool false),.g false,.g false,.g false,.g false,.g false,.g false,.g false,.g false,.g false,.g false,.g false,.ov 59 (bool false),.b false] (.c hlt (.c hr (.c (eqa hc0) (.c (eqa hc0) (.c (eqa hc0) (.c (eqa hc0) (.c (eqa hc0) (.c (pkt (bool (decide (f.frm ≤ term))) (bool false) hc0) (.c (eqb hc1) (.c (eqb hc1) (.c (eqb hc1) (.c (eqb hc1) (.c (eqb hc1) (.c (pkf v0 (bool false) hc1) (.f (.f (.f (.f (.c (pkf v0 (bool false) rfl) (.f (.f (.f (.er false (.er false (.er false (.er false (.er false (.er false (.er false (.f (.c (pkf v0 (bool false) rfl) (.er false .n)))))))))))))))))))))))))))))))) ?_ ?_ <;> subst v0 <;> (first | rfl | (have hk : keyIs kk ks ko f = _:=hc0; simp only [l7,hk,hw,hc1,GD,GC,cond_false]; done))
  ·cases hc2 : decide (term < f.til)
   ·refine zX { t:=mkT 76 0 [(0,ab fs),(2,int term),(3,int known),(5,.ref (.ptr 0 0)),(8,int 0),(9,bool false),(10,int (↑j : Int)),(11,int (Fz Fs ((↑i : Int) + 1)))],h:=[.var [int kk,int ks,int ko]],m:=[] } FH [.st (.mask [0,2,3,5,8,9,10,11]),.st (.trim 1)] [.b true,.row [vi f.kind,vi f.sub,vi f.obj,vi f.value,vi f.frm,vi f.til,vi f.known,vi f.no],.g true,.g true,.g true,.g true,.g true,.ov 33 (bool (decide (f.frm ≤ term))),.g true,.g true,.g true,.g true,.g true,.ov 40 (bool (decide (term < f.til))),.g false,.g false,.g false,.g false,.ov 46 (bool false),.g false,.g false,.g false,.g false,.g false,.g false,.g false,.g false,.g false,.g false,.g false,.ov 59 (bool false),.b false] (.c hlt (.c hr (.c (eqa hc0) (.c (eqa hc0) (.c (eqa hc0) (.c (eqa hc0) (.c (eqa hc0) (.c (pkt (bool (decide (f.frm ≤ term))) (bool false) hc0) (.c (eqa hc1) (.c (eqa hc1) (.c (eqa hc1) (.c (eqa hc1) (.c (eqa hc1) (.c (pkt (bool (decide (term < f.til))) (bool false) hc1) (.c (eqb hc2) (.c (eqb hc2) (.c (eqb hc2) (.c (eqb hc2) (.c (pkf (D.p (GT (Gk { toList:=[] }))) (bool false) hc2) (.f (.f (.f (.er false (.er false (.er false (.er false (.er false (.er false (.er false (.f (.c (pkf (D.p (GT (Gk { toList:=[] }))) (bool false) rfl) (.er false .n)))))))))))))))))))))))))))))))) ?_ ?_ <;> (first | rfl | (have hk : keyIs kk ks ko f = _:=hc0; simp only [l7,hk,hw,hc1,hc2,GD,GC,Hq,cond_false]; done))
   ·cases hc3 : decide (f.known ≤ known)
    ·refine zX { t:=mkT 76 0 [(0,ab fs),(2,int term),(3,int known),(5,.ref (.ptr 0 0)),(8,int 0),(9,bool false),(10,int (↑j : Int)),(11,int (Fz Fs ((↑i : Int) + 1)))],h:=[.var [int kk,int ks,int ko]],m:=[] } FH [.st (.mask [0,2,3,5,8,9,10,11]),.st (.trim 1)] [.b true,.row [vi f.kind,vi f.sub,vi f.obj,vi f.value,vi f.frm,vi f.til,vi f.known,vi f.no],.g true,.g true,.g true,.g true,.g true,.ov 33 (bool (decide (f.frm ≤ term))),.g true,.g true,.g true,.g true,.g true,.ov 40 (bool (decide (term < f.til))),.g true,.g true,.g true,.g true,.ov 46 (bool (decide (f.known ≤ known))),.g false,.g false,.g false,.g false,.g false,.g false,.g false,.g false,.g false,.g false,.g false,.ov 59 (bool false),.b false] (.c hlt (.c hr (.c (eqa hc0) (.c (eqa hc0) (.c (eqa hc0) (.c (eqa hc0) (.c (eqa hc0) (.c (pkt (bool (decide (f.frm ≤ term))) (bool false) hc0) (.c (eqa hc1) (.c (eqa hc1) (.c (eqa hc1) (.c (eqa hc1) (.c (eqa hc1) (.c (pkt (bool (decide (term < f.til))) (bool false) hc1) (.c (eqa hc2) (.c (eqa hc2) (.c (eqa hc2) (.c (eqa hc2) (.c (pkt (bool (decide (f.known ≤ known))) (bool false) hc2) (.c (eqb hc3) (.c (eqb hc3) (.c (eqb hc3) (.er false (.er false (.er false (.er false (.er false (.er false (.er false (.c (eqb hc3) (.c (pkf (D.p (GT (Gk { toList:=[] }))) (bool false) hc3) (.er false .n)))))))))))))))))))))))))))))))) ?_ ?_ <;> (first | rfl | (have hk : keyIs kk ks ko f = _:=hc0; simp only [l7,hk,hw,hc1,hc2,hc3,GD,GC,Hq,cond_false]; done))
    ·cases hc4 : !befB f g
     ·refine zX { t:=mkT 76 0 [(0,ab fs),(2,int term),(3,int known),(5,.ref (.ptr 0 0)),(8,int 0),(9,bool false),(10,int (↑j : Int)),(11,int (Fz Fs ((↑i : Int) + 1)))],h:=[.var [int kk,int ks,int ko]],m:=[] } FH [.st (.mask [0,2,3,5,8,9,10,11]),.st (.trim 1)] [.b true,.row [vi f.kind,vi f.sub,vi f.obj,vi f.value,vi f.frm,vi f.til,vi f.known,vi f.no],.g true,.g true,.g true,.g true,.g true,.ov 33 (bool (decide (f.frm ≤ term))),.g true,.g true,.g true,.g true,.g true,.ov 40 (bool (decide (term < f.til))),.g true,.g true,.g true,.g true,.ov 46 (bool (decide (f.known ≤ known))),.g true,.g true,.g true,.g true,.g true,.g true,.g true,.row [vi g.kind,vi g.sub,vi g.obj,vi g.value,vi g.frm,vi g.til,vi g.known,vi g.no],.g true,.g true,.val (bool (befB f g)),.g true,.g true,.ov 58 (bool !befB f g),.ov 59 (bool !befB f g),.b false] (.c hlt (.c hr (.c (eqa hc0) (.c (eqa hc0) (.c (eqa hc0) (.c (eqa hc0) (.c (eqa hc0) (.c (pkt (bool (decide (f.frm ≤ term))) (bool false) hc0) (.c (eqa hc1) (.c (eqa hc1) (.c (eqa hc1) (.c (eqa hc1) (.c (eqa hc1) (.c (pkt (bool (decide (term < f.til))) (bool false) hc1) (.c (eqa hc2) (.c (eqa hc2) (.c (eqa hc2) (.c (eqa hc2) (.c (pkt (bool (decide (f.known ≤ known))) (bool false) hc2) (.c (eqa hc3) (.c (eqa hc3) (.c (eqa hc3) (.c (show (decide ((↑j : Int) < 0) == false) = true from rfl) (.c (show (decide ((↑j : Int) < 0) == false) = true from rfl) (.c (show (decide ((↑j : Int) < 0) == false) = true from rfl) (.c (show (decide ((↑j : Int) < 0) == false) = true from rfl) (.c hg (.c (show (decide ((↑j : Int) < 0) == false) = true from rfl) (.c (show (decide ((↑j : Int) < 0) == false) = true from rfl) (.c (@qR f g (uu kk ks ko f)) (.c (show (decide ((↑j : Int) < 0) == false) = true from rfl) (.c (eqa hc3) (.c (pkf (bool true) (bool !befB f g) hj) (.c (pkt (bool !befB f g) (bool false) hc3) (.c hc4 .n))))))))))))))))))))))))))))))))))) ?_ ?_ <;> (first | rfl | (have hk : keyIs kk ks ko f = _:=hc0; simp only [l7,hk,hw,hc1,hc2,hc3,GD,Hq,cond_false]; done))
     ·refine zX { t:=mkT 76 0 [(0,ab fs),(2,int term),(3,int known),(5,.ref (.ptr 0 0)),(8,int 0),(9,bool false),(10,int (↑i : Int)),(11,int (Fz Fs ((↑i : Int) + 1)))],h:=[.var [int kk,int ks,int ko]],m:=[] } FH [.st (.mask [0,2,3,5,8,9,10,11]),.st (.trim 1)] [.b true,.row [vi f.kind,vi f.sub,vi f.obj,vi f.value,vi f.frm,vi f.til,vi f.known,vi f.no],.g true,.g true,.g true,.g true,.g true,.ov 33 (bool (decide (f.frm ≤ term))),.g true,.g true,.g true,.g true,.g true,.ov 40 (bool (decide (term < f.til))),.g true,.g true,.g true,.g true,.ov 46 (bool (decide (f.known ≤ known))),.g true,.g true,.g true,.g true,.g true,.g true,.g true,.row [vi g.kind,vi g.sub,vi g.obj,vi g.value,vi g.frm,vi g.til,vi g.known,vi g.no],.g true,.g true,.val (bool (befB f g)),.g true,.g true,.ov 58 (bool !befB f g),.ov 59 (bool !befB f g),.b true] (.c hlt (.c hr (.c (eqa hc0) (.c (eqa hc0) (.c (eqa hc0) (.c (eqa hc0) (.c (eqa hc0) (.c (pkt (bool (decide (f.frm ≤ term))) (bool false) hc0) (.c (eqa hc1) (.c (eqa hc1) (.c (eqa hc1) (.c (eqa hc1) (.c (eqa hc1) (.c (pkt (bool (decide (term < f.til))) (bool false) hc1) (.c (eqa hc2) (.c (eqa hc2) (.c (eqa hc2) (.c (eqa hc2) (.c (pkt (bool (decide (f.known ≤ known))) (bool false) hc2) (.c (eqa hc3) (.c (eqa hc3) (.c (eqa hc3) (.c (show (decide ((↑j : Int) < 0) == false) = true from rfl) (.c (show (decide ((↑j : Int) < 0) == false) = true from rfl) (.c (show (decide ((↑j : Int) < 0) == false) = true from rfl) (.c (show (decide ((↑j : Int) < 0) == false) = true from rfl) (.c hg (.c (show (decide ((↑j : Int) < 0) == false) = true from rfl) (.c (show (decide ((↑j : Int) < 0) == false) = true from rfl) (.c (@qR f g (uu kk ks ko f)) (.c (show (decide ((↑j : Int) < 0) == false) = true from rfl) (.c (eqa hc3) (.c (pkf (bool true) (bool !befB f g) hj) (.c (pkt (bool !befB f g) (bool false) hc3) (.c hc4 .n))))))))))))))))))))))))))))))))))) ?_ ?_ <;> (first | rfl | (have hk : keyIs kk ks ko f = _:=hc0; simp only [l7,hk,hw,hc1,hc2,hc3,Hq,cond_true]; done))
theorem El {kk ks ko term known best : Int} {fs : List (List Dp)} {i : Nat} (hlt : decide ((i : Int) < (fs.length : Int)) = false) : (CW Fp Γ0 [] false (sub Jp 0) (a7S kk ks ko term known fs best i) (.exit 0) { t:=mkT 76 0 [(0,ab fs),(8,int 0),(9,bool false),(10,int best)],h:=[.var [int kk,int ks,int ko]],m:=[] }):=by
 exact zx [.st (.mask [0,8,9,10])] [.b false] (.c hlt .n)
def yr (s : Option (Nat × FactT)) : Int:=match s with | none => -1 | some (j,_)=>(j : Int)
def a7F (kk ks ko term known : Int) (f : FactT) (s : Nat × Option (Nat × FactT)) : (Nat × Option (Nat × FactT)) ⊕ Empty :=
 .inl (s.1 + 1,match s.2 with
  | none=>bif l7 kk ks ko term known f then some (s.1,f) else none
  | some (j,g)=>bif l7 kk ks ko term known f && !befB f g then some (s.1,f) else some (j,g))
def a7B (kk ks ko term known : Int) (l : List FactT) : Option (Nat × FactT):=match forL (a7F kk ks ko term known) l (0,none) with | .inl s=>s.2 | .inr _=>none
theorem a7_cwl {kk ks ko term known : Int} {l : List FactT} (hl : ad l) :
  CW Fp Γ0 [] false (.loop (sub Jp 0)) (a7S kk ks ko term known (l.map FC) (-1) 0) (.exit 0) { t:=mkT 76 0 [(0,ab (l.map FC)),(8,int 0),(9,bool false),(10,int (yr (a7B kk ks ko term known l)))],h:=[.var [int kk,int ks,int ko]],m:=[] }:=by
 have:=CW.each (P:=Fp) (Γ:=Γ0) (h0:=[]) (rd:=false) (c:=sub Jp 0) l (a7F kk ks ko term known) (fun i s=>a7S kk ks ko term known (l.map FC) (yr s.2) (i : Int)) (.exit 0) (fun s=>{ t:=mkT 76 0 [(0,ab (l.map FC)),(8,int 0),(9,bool false),(10,int (yr s.2))],h:=[.var [int kk,int ks,int ko]],m:=[] }) (fun r=>r.elim)
  (fun i s=>s.1 = i ∧ ∀ j g,s.2 = some (j,g) → l[j]? = some g) (by simp) (fun r=>r.elim) ?_ ?_ (0,none) ⟨rfl,by simp⟩
 ·unfold a7B
  cases h : forL (a7F kk ks ko term known) l (0,none) with
  | inl s=>rw [h] at this; exact this
  | inr r=>exact r.elim
 ·rintro i f ⟨n,s⟩ hf ⟨rfl,hs⟩
  have hi:=(List.getElem?_eq_some_iff.1 hf).1
  refine ⟨fun s' h=>?_,?_⟩
  ·simp only [a7F,Sum.inl.injEq] at h
   subst h
   refine ⟨rfl,fun j g hj=>?_⟩
   cases s with
   | none =>
    simp only at hj
    cases hh : l7 kk ks ko term known f <;> rw [hh] at hj <;> simp at hj
    obtain ⟨rfl,rfl⟩:=hj; exact hf
   | some p =>
    obtain ⟨j0,g0⟩:=p
    simp only at hj
    cases hh : l7 kk ks ko term known f && !befB f g0 <;> rw [hh] at hj <;> simp at hj
    ·obtain ⟨rfl,rfl⟩:=hj; exact hs _ _ rfl
    ·obtain ⟨rfl,rfl⟩:=hj; exact hf
  ·cases s with
   | none =>
    have:=a7_b0 (kk:=kk) (ks:=ks) (ko:=ko) (term:=term) (known:=known) (rowAt hf rfl) (lt_len FC hi) (wrap_succ hi hl)
    simp only [a7F,ae,yr]
    cases hh : l7 kk ks ko term known f <;> rw [hh] at this <;> exact this
   | some p =>
    obtain ⟨j0,g0⟩:=p
    have:=a7_b1 (kk:=kk) (ks:=ks) (ko:=ko) (term:=term) (known:=known) (j:=j0) (g:=g0) (rowAt hf rfl) (rowAt (hs _ _ rfl) rfl) (by simp) (lt_len FC hi) (wrap_succ hi hl)
    simp only [a7F,ae,yr]
    cases hh : l7 kk ks ko term known f && !befB f g0 <;> rw [hh] at this <;> exact this
 ·rintro ⟨n,s⟩ _
  exact El (aC FC l)
theorem Cm (kk ks ko term known : Int) : ∀ (r l : List FactT) (s : Nat × Option (Nat × FactT)),s.1 = l.length → (∀ j g,s.2 = some (j,g) → (l ++ r)[j]? = some g) →
  ∀ s',forL (a7F kk ks ko term known) r s = .inl s' → ∀ j g,s'.2 = some (j,g) → (l ++ r)[j]? = some g
 | [],l,s,_,h2,s',h,j,g,hj=>by simp only [forL,Sum.inl.injEq] at h; subst h; exact h2 j g hj
 | f :: r,l,s,h1,h2,s',h,j,g,hj=>by
  simp only [forL,a7F] at h
  have:=Cm kk ks ko term known r (l ++ [f]) _ (by simp [h1]) (fun j g hj=>?_) s' h j g hj
  ·simpa using this
  ·have hf : (l ++ [f] ++ r)[s.1]? = some f:=by rw [h1]; simp
   have e : l ++ [f] ++ r = l ++ f :: r:=by simp
   obtain ⟨n,o⟩:=s
   cases o with
   | none =>
    simp only at hj
    cases hh : l7 kk ks ko term known f <;> rw [hh] at hj <;> simp at hj
    obtain ⟨rfl,rfl⟩:=hj; exact hf
   | some p =>
    obtain ⟨j0,g0⟩:=p
    simp only at hj
    cases hh : l7 kk ks ko term known f && !befB f g0 <;> rw [hh] at hj <;> simp at hj
    ·obtain ⟨rfl,rfl⟩:=hj; rw [e]; exact h2 _ _ rfl
    ·obtain ⟨rfl,rfl⟩:=hj; exact hf
theorem Cn {kk ks ko term known : Int} {l : List FactT} {p : Nat × FactT} (h : a7B kk ks ko term known l = some p) : l[p.1]? = some p.2:=by
 unfold a7B at h
 cases hf : forL (a7F kk ks ko term known) l (0,none) with
 | inr r=>exact r.elim
 | inl s =>
  rw [hf] at h
  exact Cm kk ks ko term known l [] (0,none) rfl (by simp) s hf p.1 p.2 h
theorem yu {kk ks ko term known : Int} {l : List FactT} {p : Nat × FactT} (h : a7B kk ks ko term known l = some p) : ah (p.1 : Int) (l.map FC) (l.getD (FA (p.1 : Int)) default).row 8:=by
 have:=Cn h
 rw [show l.getD (FA (p.1 : Int)) default = p.2 by simp [FG,this]]
 exact rowAt this rfl
def a7Fin (kk ks ko : Int) (fs : List (List Dp)) (s : Option (Nat × FactT)) : Exit × AS:=match s with
 | none=>(.exit 0,{ t:=mkT 76 0 [(0,ab fs),(8,int 0),(9,bool false),(10,int (-1))],h:=[.var [int kk,int ks,int ko]],m:=[] })
 | some p=>(.exit 0,{ t:=mkT 76 0 [(0,ab fs),(8,int 0),(9,bool false),(10,int (p.1 : Int))],h:=[.var [int kk,int ks,int ko]],m:=[] })
theorem a7f_cw {kk ks ko term known : Int} {l : List FactT} (hl : ad l) :
  CW Fp Γ0 [] false (.loop (sub Jp 0)) (a7S kk ks ko term known (l.map FC) (-1) 0) (a7Fin kk ks ko (l.map FC) (a7B kk ks ko term known l)).1 (a7Fin kk ks ko (l.map FC) (a7B kk ks ko term known l)).2:=by
 have:=a7_cwl (kk:=kk) (ks:=ks) (ko:=ko) (term:=term) (known:=known) hl
 cases h : a7B kk ks ko term known l <;> rw [h] at this <;> exact this
def Em (kk ks ko term known : Int) (l : List FactT) : Int × Bool:=match a7B kk ks ko term known l with
 | none=>(0,false)
 | some p=>bif decide ((l.getD (FA (p.1 : Int)) default).value < 0) then (0,false) else ((l.getD (FA (p.1 : Int)) default).value,true)
theorem uv {kk ks ko term known : Int} {l : List FactT} (hl : ad l) (h : List Blk) : (Ev Fp Γ0 124 [ab (l.map FC),.agg [int kk,int ks,int ko],int term,int known] h (.tup [int (Em kk ks ko term known l).1,bool (Em kk ks ko term known l).2]) h):=by
 have hl0:=(@a7f_cw (kk) (ks) (ko) (term) (known) (l) (hl))
 revert hl0
 cases ho1 : a7B kk ks ko term known l with
 | none =>
  intro hl0
  exact zD (FM [int 0,bool false]) [.sum [0,2,3,5,8,9,10,11] (Gf 0) { t:=mkT 76 0 [(0,ab (Fo FC l)),(8,int 0),(9,bool false),(10,int (-1))],h:=[.var [int kk,int ks,int ko]],m:=[] },.g false,.g false,.g false,.g false,.g false,.g false,.ov 70 (bool true),.b true] (.c hl0 (.c (show (decide (-1 < 0) == false) = false from rfl) (.c (show (decide (-1 < 0) == false) = false from rfl) (.c (show (decide (-1 < 0) == false) = false from rfl) (.c (show (decide (-1 < 0) == false) = false from rfl) (.c (show (decide (-1 < 0) == false) = false from rfl) (.c (show (decide (-1 < 0) == false) = false from rfl) (.c (show bU (bool (decide (-1 < 0))) (bool true) (D.p (GT (Gk { toList:=[] }))) (bool true) from (by rfl)) (.er true .n))))))))) h (by (simp only [Em,ho1]; done))
 | some o1_1_0 =>
  intro hl0
  cases hc2 : decide ((FG l (FA (↑o1_1_0.fst : Int)) default).value < 0)
  ·refine zD (FM [int (FG l (FA (↑o1_1_0.fst : Int)) default).value,bool true]) [.sum [0,2,3,5,8,9,10,11] (Gf 0) { t:=mkT 76 0 [(0,ab (Fo FC l)),(8,int 0),(9,bool false),(10,int (↑o1_1_0.fst : Int))],h:=[.var [int kk,int ks,int ko]],m:=[] },.g true,.g true,.g true,.row [vi (FG l (FA (↑o1_1_0.fst : Int)) default).kind,vi (FG l (FA (↑o1_1_0.fst : Int)) default).sub,vi (FG l (FA (↑o1_1_0.fst : Int)) default).obj,vi (FG l (FA (↑o1_1_0.fst : Int)) default).value,vi (FG l (FA (↑o1_1_0.fst : Int)) default).frm,vi (FG l (FA (↑o1_1_0.fst : Int)) default).til,vi (FG l (FA (↑o1_1_0.fst : Int)) default).known,vi (FG l (FA (↑o1_1_0.fst : Int)) default).no],.g true,.g true,.g true,.ov 70 (bool (decide ((FG l (FA (↑o1_1_0.fst : Int)) default).value < 0))),.b false,.row [vi (FG l (FA (↑o1_1_0.fst : Int)) default).kind,vi (FG l (FA (↑o1_1_0.fst : Int)) default).sub,vi (FG l (FA (↑o1_1_0.fst : Int)) default).obj,vi (FG l (FA (↑o1_1_0.fst : Int)) default).value,vi (FG l (FA (↑o1_1_0.fst : Int)) default).frm,vi (FG l (FA (↑o1_1_0.fst : Int)) default).til,vi (FG l (FA (↑o1_1_0.fst : Int)) default).known,vi (FG l (FA (↑o1_1_0.fst : Int)) default).no]] (.c hl0 (.c (show (decide ((↑o1_1_0.fst : Int) < 0) == false) = true from rfl) (.c (show (decide ((↑o1_1_0.fst : Int) < 0) == false) = true from rfl) (.c (show (decide ((↑o1_1_0.fst : Int) < 0) == false) = true from rfl) (.c (show ah (↑o1_1_0.fst : Int) (Fo FC l) [vi (FG l (FA (↑o1_1_0.fst : Int)) default).kind,vi (FG l (FA (↑o1_1_0.fst : Int)) default).sub,vi (FG l (FA (↑o1_1_0.fst : Int)) default).obj,vi (FG l (FA (↑o1_1_0.fst : Int)) default).value,vi (FG l (FA (↑o1_1_0.fst : Int)) default).frm,vi (FG l (FA (↑o1_1_0.fst : Int)) default).til,vi (FG l (FA (↑o1_1_0.fst : Int)) default).known,vi (FG l (FA (↑o1_1_0.fst : Int)) default).no] 8 from ?_) (.c (show (decide ((↑o1_1_0.fst : Int) < 0) == false) = true from rfl) (.c (show (decide ((↑o1_1_0.fst : Int) < 0) == false) = true from rfl) (.c (show (decide ((↑o1_1_0.fst : Int) < 0) == false) = true from rfl) (.c (show bU (bool (decide ((↑o1_1_0.fst : Int) < 0))) (bool true) (bool (decide ((FG l (FA (↑o1_1_0.fst : Int)) default).value < 0))) (bool (decide ((FG l (FA (↑o1_1_0.fst : Int)) default).value < 0))) from ?_) (.c hc2 (.c (show ah (↑o1_1_0.fst : Int) (Fo FC l) [vi (FG l (FA (↑o1_1_0.fst : Int)) default).kind,vi (FG l (FA (↑o1_1_0.fst : Int)) default).sub,vi (FG l (FA (↑o1_1_0.fst : Int)) default).obj,vi (FG l (FA (↑o1_1_0.fst : Int)) default).value,vi (FG l (FA (↑o1_1_0.fst : Int)) default).frm,vi (FG l (FA (↑o1_1_0.fst : Int)) default).til,vi (FG l (FA (↑o1_1_0.fst : Int)) default).known,vi (FG l (FA (↑o1_1_0.fst : Int)) default).no] 8 from ?_) .n))))))))))) h (by (simp only [Em,ho1,hc2,cond_false]; done)) <;> (first | rfl | exact yu ho1)
  ·refine zD (FM [int 0,bool false]) [.sum [0,2,3,5,8,9,10,11] (Gf 0) { t:=mkT 76 0 [(0,ab (Fo FC l)),(8,int 0),(9,bool false),(10,int (↑o1_1_0.fst : Int))],h:=[.var [int kk,int ks,int ko]],m:=[] },.g true,.g true,.g true,.row [vi (FG l (FA (↑o1_1_0.fst : Int)) default).kind,vi (FG l (FA (↑o1_1_0.fst : Int)) default).sub,vi (FG l (FA (↑o1_1_0.fst : Int)) default).obj,vi (FG l (FA (↑o1_1_0.fst : Int)) default).value,vi (FG l (FA (↑o1_1_0.fst : Int)) default).frm,vi (FG l (FA (↑o1_1_0.fst : Int)) default).til,vi (FG l (FA (↑o1_1_0.fst : Int)) default).known,vi (FG l (FA (↑o1_1_0.fst : Int)) default).no],.g true,.g true,.g true,.ov 70 (bool (decide ((FG l (FA (↑o1_1_0.fst : Int)) default).value < 0))),.b true] (.c hl0 (.c (show (decide ((↑o1_1_0.fst : Int) < 0) == false) = true from rfl) (.c (show (decide ((↑o1_1_0.fst : Int) < 0) == false) = true from rfl) (.c (show (decide ((↑o1_1_0.fst : Int) < 0) == false) = true from rfl) (.c (show ah (↑o1_1_0.fst : Int) (Fo FC l) [vi (FG l (FA (↑o1_1_0.fst : Int)) default).kind,vi (FG l (FA (↑o1_1_0.fst : Int)) default).sub,vi (FG l (FA (↑o1_1_0.fst : Int)) default).obj,vi (FG l (FA (↑o1_1_0.fst : Int)) default).value,vi (FG l (FA (↑o1_1_0.fst : Int)) default).frm,vi (FG l (FA (↑o1_1_0.fst : Int)) default).til,vi (FG l (FA (↑o1_1_0.fst : Int)) default).known,vi (FG l (FA (↑o1_1_0.fst : Int)) default).no] 8 from ?_) (.c (show (decide ((↑o1_1_0.fst : Int) < 0) == false) = true from rfl) (.c (show (decide ((↑o1_1_0.fst : Int) < 0) == false) = true from rfl) (.c (show (decide ((↑o1_1_0.fst : Int) < 0) == false) = true from rfl) (.c (show bU (bool (decide ((↑o1_1_0.fst : Int) < 0))) (bool true) (bool (decide ((FG l (FA (↑o1_1_0.fst : Int)) default).value < 0))) (bool (decide ((FG l (FA (↑o1_1_0.fst : Int)) default).value < 0))) from ?_) (.c hc2 .n)))))))))) h (by (simp only [Em,ho1,hc2,cond_true]; done)) <;> (first | rfl | exact yu ho1)
structure CourseT where
 name : ByteArray
 number : Int
 credits : Int
 rep : Int
 need : RuleT
 bar : RuleT
def CourseT.row (c : CourseT) : List Dp:=[vs c.name,vi c.number,vi c.credits,vi c.rep,
 vi c.need.fl.op,vi c.need.fl.c,vs c.need.fl.nm,vi c.need.fl.n,vi c.need.fl.d,.sl c.need.fl.ks,vi c.bar.fl.op,vi c.bar.fl.c,vs c.bar.fl.nm,vi c.bar.fl.n,vi c.bar.fl.d,.sl c.bar.fl.ks]
def CourseT.ok (c : CourseT) : Prop:=c.need.ok ∧ c.bar.ok
def bX (c : CourseT) : Bool:=inB c.number 0 4095 && inB c.credits 1 60 && inB c.rep 0 2 && (cq c.need.bad == 0) && (cq c.bar.bad == 0)
noncomputable abbrev ct (c : CourseT) : List Blk:=[.var [ak c.name,int c.number,int c.credits,int c.rep,int (Fv c.need).op,int (Fv c.need).c,ak (Fv c.need).nm,int (Fv c.need).n,int (Fv c.need).d,ab (Fv c.need).ks,int (Fv c.bar).op,int (Fv c.bar).c,ak (Fv c.bar).nm,int (Fv c.bar).n,int (Fv c.bar).d,ab (Fv c.bar).ks]]
theorem vF {c : CourseT} (hc : c.ok) (h : List Blk) : (Ev Fp Γk 198 [ag c.row] h (bool (bX c)) h):=by
 refine z0 [.val (bool (decide (c.number ≥ 0) && decide (c.number ≤ 4095))),.val (bool (decide (c.credits ≥ 1) && decide (c.credits ≤ 60))),.val (bool (decide (c.rep ≥ 0) && decide (c.rep ≤ 2))),.val (int (cq (Jh c.need))),.val (int (cq (Jh c.bar)))] (.c (F1 (Γ':=Γk) (@cn (c.number) 0 4095 (ct c))) (.c (gd (decide (c.number ≥ 0) && decide (c.number ≤ 4095)) (F1 (Γ':=Γk) (@cn (c.credits) 1 60 (ct c)))) (.c (gd (decide (c.number ≥ 0) && decide (c.number ≤ 4095) && (decide (c.credits ≥ 1) && decide (c.credits ≤ 60))) (F1 (Γ':=Γk) (@cn (c.rep) 0 2 (ct c)))) (.c (gd (decide (c.number ≥ 0) && decide (c.number ≤ 4095) && (decide (c.credits ≥ 1) && decide (c.credits ≤ 60)) && (decide (c.rep ≥ 0) && decide (c.rep ≤ 2))) (@iC (c.need) ?_ (ct c))) (.c (gd (decide (c.number ≥ 0) && decide (c.number ≤ 4095) && (decide (c.credits ≥ 1) && decide (c.credits ≤ 60)) && (decide (c.rep ≥ 0) && decide (c.rep ≤ 2)) && cq (Jh c.need) == 0) (@iC (c.bar) ?_ (ct c))) .n))))) h <;> (first | exact hc.1 | exact hc.2)
noncomputable abbrev sL (c : CourseT) (n : Int) : List Blk:=[.var [int n],.var [ak c.name,int c.number,int c.credits,int c.rep,int (Fv c.need).op,int (Fv c.need).c,ak (Fv c.need).nm,int (Fv c.need).n,int (Fv c.need).d,ab (Fv c.need).ks,int (Fv c.bar).op,int (Fv c.bar).c,ak (Fv c.bar).nm,int (Fv c.bar).n,int (Fv c.bar).d,ab (Fv c.bar).ks]]
theorem uw {c : CourseT} (hc : c.ok) {n : Int} : (Ev Fp Γk 197 [ag c.row,.ref (.ptr 0 0)] [.var [int n]] (bool (c.number == n && bX c)) [.var [int n]]):=by
 exact FP (IY (h':=[.var [int n]]) (d:=bool (c.number == n && bX c)) pok [.val (bool (bX c))] (by kernel_rfl) (.c (gd (c.number == n) (@vF c hc (sL c n))) .n)) (by rfl) (by rfl)
structure WorldT where
 c : List CourseT
 p : List (List Dp)
 s : List SysT
 f : List FactT
def WorldT.l (w : WorldT) : List D:=[ab (w.c.map CourseT.row),ab w.p,ab (w.s.map FF),ab (w.f.map FC)]
abbrev atA (w : WorldT) (kk ks ko term known : Int) : List D:=[ab (w.f.map FC),.agg [int kk,int ks,int ko],int term,int known]
abbrev jt (kk ks ko a b : Int) : List (List Dp):=[[vi kk,vi ks,vi ko,vi a,vi b]]
theorem be {α : Type} [Inhabited α] {row : α → List Dp} {l : List α} {v : Int} {sz : Nat} (hs : ∀ x,(row x).length = sz) (h0 : 0 ≤ v) (h1 : v < (l.length : Int)) : ah v (l.map row) (row (l.getD v.toNat default)) sz:=by
 obtain ⟨n,rfl⟩ : ∃ n : Nat,v = n:=⟨v.toNat,by omega⟩
 have hn : n < l.length:=by omega
 have hx : l[n]? = some l[n]:=FK hn
 have : l.getD (FA (n : Int)) default = l[n]:=by simp [FG,hx]
 rw [this]
 exact rowAt hx (hs _)
def fc {α : Type} [Inhabited α] (l : List α) (valid : α → Bool) (p : Int × Bool) : Bool:=!p.2 || decide (p.1 < 0) || decide (p.1 ≥ (l.length : Int)) || !valid (l.getD p.1.toNat default)
def eJ {α : Type} [Inhabited α] (l : List α) (valid : α → Bool) (z : α) (p : Int × Bool) : α × Bool:=match fc l valid p with
 | true=>(z,false)
 | false=>(l.getD p.1.toNat default,true)
theorem yv {α : Type} [Inhabited α] {l : List α} {valid : α → Bool} {p : Int × Bool} (h : fc l valid p = false) : l.getD p.1.toNat default ∈ l ∧ valid (l.getD p.1.toNat default) = true ∧ p.2 = true ∧ 0 ≤ p.1 ∧ p.1 < l.length:=by
 unfold fc at h
 simp only [GZ,Ic,decide_eq_false_iff_not] at h
 obtain ⟨⟨⟨h1,h2⟩,h3⟩,h4⟩:=h
 refine ⟨?_,h4,h1,by omega,by omega⟩
 have : p.1.toNat < l.length:=by omega
 rw [FG,FK this]
 exact JS this
def SysT.zero : SysT:=⟨[],[],[],[]⟩
theorem SysT.zero_ok : SysT.zero.ok:=⟨by simp [SysT.zero,Hu],by simp [SysT.zero,Hu],by simp [SysT.zero,Hu],by simp [SysT.zero,Hu,ad],by simp [SysT.zero,Hu,ad],by simp [SysT.zero,Hu,ad],by simp [SysT.zero,Hu,ad]⟩
theorem nk {l : List SysT} (h : ∀ x ∈ l,x.ok) (n : Nat) : (l.getD n default).ok:=by
 rcases Nat.lt_or_ge n l.length with hn | hn
 ·rw [FG,FK hn]; exact h _ (JS hn)
 ·rw [FG,GG hn]; exact SysT.zero_ok
abbrev sysZ : D:=.agg [ab [],ab [],ab [],ab []]
noncomputable abbrev ls0_x0 (w : WorldT) : List Blk:=[.var [ab (Fo CourseT.row w.c),ab w.p,ab (Fo FF w.s),ab (Fo FC w.f)],.var [int 4,int 0,int 0],.var [nq,nq,nq,nq]]
theorem ls0 {w : WorldT} {term known : Int} (ht : (!(decide (term ≥ 0) && decide (term ≤ 1023))) = true) (h : List Blk) : (Ev Fp Γk 104 [.agg w.l,ab (w.s.map FF),.agg [int 4,int 0,int 0],int term,int known,fnv 105] h (.tup [sysZ,ab [],bool false]) h):=by
 exact FP (GK (z0 (d:=FM [FU [nq,nq,nq,nq],nq,bool false]) [.val (bool (decide (term ≥ 0) && decide (term ≤ 1023))),.b true] (.c (F1 (Γ':=Γk) (@cn term 0 1023 (ls0_x0 w))) (.c ht .n)) h)) (by rfl) (by rfl)
noncomputable abbrev ux (w : WorldT) : List Blk:=[.var [ab (Fo CourseT.row w.c),ab w.p,ab (Fo FF w.s),ab (Fo FC w.f)],.var [int 4,int 0,int 0],.var [nq,nq,nq,nq],.gone]
noncomputable abbrev Co (w : WorldT) : List Blk:=[.var [ab (Fo CourseT.row w.c),ab w.p,ab (Fo FF w.s),ab (Fo FC w.f)],.var [int 4,int 0,int 0],.var [nq,nq,nq,nq]]
theorem ls1 {w : WorldT} {term known v : Int} {b : Bool} (ht : (!(decide (term ≥ 0) && decide (term ≤ 1023))) = false) (hat : ∀ h,Ev Fp Γk 86 (atA w 4 0 0 term known) h (.tup [int v,bool b]) h) (hs : ∀ x ∈ w.s,x.ok) (h : List Blk) : (Ev Fp Γk 104 [.agg w.l,ab (w.s.map FF),.agg [int 4,int 0,int 0],int term,int known,fnv 105] h (.tup [ag (eJ w.s na SysT.zero (v,b)).1.row,ab (jt 4 0 0 term (Fs.wrap (term + 1))),bool (eJ w.s na SysT.zero (v,b)).2]) h):=by
 cases hc0 : !b || decide (v < 0) || decide (v ≥ (↑(Fu (Fo FF w.s)) : Int)) || !na (FG w.s (FA v) default)
 ·let v0:=FG w.s (FA v) default
  let v1:=Fo GE v0.clauses
  let v2:=Fo Gh v0.classes
  let v3:=Fo Gh v0.honours
  let v4:=Fo GV v0.fees
  let v5 : List D:=[int 4,int 0,int 0,int term,int (Fz Fs (term + 1))]
  refine FP (GK (z0 (d:=FM [FU [ab v2,ab v4,ab v3,ab v1],ab [[vi 4,vi 0,vi 0,vi term,vi (Fz Fs (term + 1))]],bool true]) [.val (bool (decide (term ≥ 0) && decide (term ≤ 1023))),.b false,.nx 1,.st (.frz 3 (jt 4 0 0 term (Fz Fs (term + 1)))),.val (FM [int v,bool b]),.row [Gp v2,Gp v4,Gp v3,Gp v1],.val (bool (na v0)),.b false,.row [Gp v2,Gp v4,Gp v3,Gp v1]] (.c (F1 (Γ':=Γk) (@cn term 0 1023 (Co w))) (.c ht (.er [v5] (.c (@hat (ux w)) (.c (show (!(!b || decide (v < 0) || decide (v ≥ (↑(Fu (Fo FF w.s)) : Int)))) = true → ah v (Fo FF w.s) [Gp v2,Gp v4,Gp v3,Gp v1] 4 from (fun hg=>?_)) (.c (gd (!(!b || decide (v < 0) || decide (v ≥ (↑(Fu (Fo FF w.s)) : Int)))) (F1 (Γ':=Γk) (@ly v0 (nk hs _) (ux w)))) (.c hc0 (.c (show ah v (Fo FF w.s) [Gp v2,Gp v4,Gp v3,Gp v1] 4 from ?_) .n)))))))) h)) (by subst v0 v1 v2 v3 v4 v5; (have hb : fc w.s na (v,b) = false:=by rw [← hc0]; simp [fc]); simp only [eJ,hb]; rfl) (by rfl) <;> subst v0 v1 v2 v3 v4 v5 <;> (refine be (fun _=>rfl) ?_ ?_ <;> simp_all; done)
 ·let v0:=FG w.s (FA v) default
  let v1 : List D:=[int 4,int 0,int 0,int term,int (Fz Fs (term + 1))]
  refine FP (GK (z0 (d:=FM [FU [nq,nq,nq,nq],ab [[vi 4,vi 0,vi 0,vi term,vi (Fz Fs (term + 1))]],bool false]) [.val (bool (decide (term ≥ 0) && decide (term ≤ 1023))),.b false,.nx 1,.st (.frz 3 (jt 4 0 0 term (Fz Fs (term + 1)))),.val (FM [int v,bool b]),.row [Gp (Fo Gh v0.classes),Gp (Fo GV v0.fees),Gp (Fo Gh v0.honours),Gp (Fo GE v0.clauses)],.val (bool (na v0)),.b true] (.c (F1 (Γ':=Γk) (@cn term 0 1023 (Co w))) (.c ht (.er [v1] (.c (@hat (ux w)) (.c (show (!(!b || decide (v < 0) || decide (v ≥ (↑(Fu (Fo FF w.s)) : Int)))) = true → ah v (Fo FF w.s) [Gp (Fo Gh v0.classes),Gp (Fo GV v0.fees),Gp (Fo Gh v0.honours),Gp (Fo GE v0.clauses)] 4 from (fun hg=>?_)) (.c (gd (!(!b || decide (v < 0) || decide (v ≥ (↑(Fu (Fo FF w.s)) : Int)))) (F1 (Γ':=Γk) (@ly v0 (nk hs _) (ux w)))) (.c hc0 .n))))))) h)) (by subst v0 v1; (have hb : fc w.s na (v,b) = true:=by rw [← hc0]; simp [fc]); simp only [eJ,hb]; rfl) (by rfl) <;> subst v0 v1 <;> (refine be (fun _=>rfl) ?_ ?_ <;> simp_all; done)
structure WorldT.ok (w : WorldT) : Prop where
 c : ∀ x ∈ w.c,x.ok
 s : ∀ x ∈ w.s,x.ok
 lf : w.f.length ≤ 69000
 lc : ad w.c
 ls : ad w.s
 i : ∀ f ∈ w.f,f.ok
theorem WorldT.ok.sf {w : WorldT} (h : w.ok) : ad w.f:=by have:=h.lf; unfold ad; omega
def outB (term : Int) : Bool:=!(decide (term ≥ 0) && decide (term ≤ 1023))
def bF (w : WorldT) (term known : Int) : SysT × Bool:=match outB term with
 | true=>(SysT.zero,false)
 | false=>eJ w.s na SysT.zero (atR 4 0 0 term known w.f)
def eK (kk ks ko term : Int) : List (List Dp):=match outB term with
 | true=>[]
 | false=>jt kk ks ko term (Fs.wrap (term + 1))
theorem vG {w : WorldT} (hw : w.ok) {term known : Int} (h : List Blk) : Ev Fp Γk 104 [.agg w.l,ab (w.s.map FF),.agg [int 4,int 0,int 0],int term,int known,fnv 105] h (.tup [ag (bF w term known).1.row,ab (eK 4 0 0 term),bool (bF w term known).2]) h:=by
 unfold bF eK
 cases ht : outB term with
 | true=>exact ls0 ht h
 | false=>exact ls1 ht (fun h=>F1 (D6 hw.sf h)) hw.s h
noncomputable abbrev qS (w : WorldT) : List Blk:=[.var [ab (Fo CourseT.row w.c),ab w.p,ab (Fo FF w.s),ab (Fo FC w.f)],.var [nq,nq,nq,nq]]
theorem vH {w : WorldT} (hw : w.ok) {term known : Int} (h : List Blk) : (Ev Fp Γk 52 [.agg w.l,int term,int known] h (.tup [ag (bF w term known).1.row,ab (eK 4 0 0 term)]) h):=by
 exact z0 [.val (FM [(ag (FF (bF w term known).fst)),ab (eK 4 0 0 term),bool (bF w term known).snd])] (.c (@vG w hw term known (qS w)) .n) h
def RuleT.zero : RuleT:=.mk 0 0 ⟨#[]⟩ 0 0 []
def CourseT.zero : CourseT:=⟨⟨#[]⟩,0,0,0,RuleT.zero,RuleT.zero⟩
instance : Inhabited CourseT:=⟨CourseT.zero⟩
theorem CourseT.zero_ok : CourseT.zero.ok:=by
 have : RuleT.zero.ok:=⟨by unfold I64 ad; simp,trivial⟩
 exact ⟨this,this⟩
theorem nl {l : List CourseT} (h : ∀ x ∈ l,x.ok) (n : Nat) : (l.getD n default).ok:=by
 rcases Nat.lt_or_ge n l.length with hn | hn
 ·rw [FG,FK hn]; exact h _ (JS hn)
 ·rw [FG,GG hn]; exact CourseT.zero_ok
abbrev crsZ : D:=ag CourseT.zero.row
def cJ (n : Int) (c : CourseT) : Bool:=c.number == n && bX c
noncomputable abbrev lc0_x0 (w : WorldT) (n : Int) : List Blk:=[.var [int n],.var [ab (Fo CourseT.row w.c),ab w.p,ab (Fo FF w.s),ab (Fo FC w.f)],.var [int 1,int n,int 0],.var [ak { data:=#[] },int 0,int 0,int 0,int 0,int 0,ak { data:=#[] },int 0,int 0,nq,int 0,int 0,ak { data:=#[] },int 0,int 0,nq]]
theorem lc0 {w : WorldT} {n term known : Int} (ht : (!(decide (term ≥ 0) && decide (term ≤ 1023))) = true) : (Ev Fp Γk 199 [.agg w.l,ab (w.c.map CourseT.row),.agg [int 1,int n,int 0],int term,int known,.fn (.func 197) [] [.ref (.ptr 0 0)]] [.var [int n]] (.tup [crsZ,ab [],bool false]) [.var [int n]]):=by
 exact FP (GK (IY (h':=[.var [int n]]) (d:=FM [FU [ak { data:=#[] },int 0,int 0,int 0,int 0,int 0,ak { data:=#[] },int 0,int 0,nq,int 0,int 0,ak { data:=#[] },int 0,int 0,nq],nq,bool false]) pok [.val (bool (decide (term ≥ 0) && decide (term ≤ 1023))),.b true] (by kernel_rfl) (.c (F1 (Γ':=Γk) (@cn term 0 1023 (lc0_x0 w n))) (.c ht .n)))) (by rfl) (by rfl)
noncomputable abbrev uy (w : WorldT) (v : Int) : List D:=[FU [ak (FG w.c (FA v) default).name,int (FG w.c (FA v) default).number,int (FG w.c (FA v) default).credits,int (FG w.c (FA v) default).rep,int (Fv (FG w.c (FA v) default).need).op,int (Fv (FG w.c (FA v) default).need).c,ak (Fv (FG w.c (FA v) default).need).nm,int (Fv (FG w.c (FA v) default).need).n,int (Fv (FG w.c (FA v) default).need).d,ab (Fv (FG w.c (FA v) default).need).ks,int (Fv (FG w.c (FA v) default).bar).op,int (Fv (FG w.c (FA v) default).bar).c,ak (Fv (FG w.c (FA v) default).bar).nm,int (Fv (FG w.c (FA v) default).bar).n,int (Fv (FG w.c (FA v) default).bar).d,ab (Fv (FG w.c (FA v) default).bar).ks],.ref (.ptr 0 0)]
noncomputable abbrev jV (w : WorldT) (n : Int) : List Blk:=[.var [int n],.var [ab (Fo CourseT.row w.c),ab w.p,ab (Fo FF w.s),ab (Fo FC w.f)],.var [int 1,int n,int 0],.var [ak { data:=#[] },int 0,int 0,int 0,int 0,int 0,ak { data:=#[] },int 0,int 0,nq,int 0,int 0,ak { data:=#[] },int 0,int 0,nq],.gone]
noncomputable abbrev Cp (w : WorldT) (n : Int) : List Blk:=[.var [int n],.var [ab (Fo CourseT.row w.c),ab w.p,ab (Fo FF w.s),ab (Fo FC w.f)],.var [int 1,int n,int 0],.var [ak { data:=#[] },int 0,int 0,int 0,int 0,int 0,ak { data:=#[] },int 0,int 0,nq,int 0,int 0,ak { data:=#[] },int 0,int 0,nq]]
theorem lc1 {w : WorldT} {n term known v : Int} {b : Bool} (ht : (!(decide (term ≥ 0) && decide (term ≤ 1023))) = false) (hat : ∀ h,Ev Fp Γk 86 (atA w 1 n 0 term known) h (.tup [int v,bool b]) h) (hs : ∀ x ∈ w.c,x.ok) : (Ev Fp Γk 199 [.agg w.l,ab (w.c.map CourseT.row),.agg [int 1,int n,int 0],int term,int known,.fn (.func 197) [] [.ref (.ptr 0 0)]] [.var [int n]] (.tup [ag (eJ w.c (cJ n) CourseT.zero (v,b)).1.row,ab (jt 1 n 0 term (Fs.wrap (term + 1))),bool (eJ w.c (cJ n) CourseT.zero (v,b)).2]) [.var [int n]]):=by
 cases hc0 : !b || decide (v < 0) || decide (v ≥ (↑(Fu (Fo CourseT.row w.c)) : Int)) || !((FG w.c (FA v) default).number == n && bX (FG w.c (FA v) default))
 ·let v0:=FG w.c (FA v) default
  let v1:=Fo CourseT.row w.c
  let v2 : List D:=[int 1,int n,int 0,int term,int (Fz Fs (term + 1))]
  refine FP (GK (IY (h':=[.var [int n]]) (d:=FM [FU [ak v0.name,int v0.number,int v0.credits,int v0.rep,int (Fv v0.need).op,int (Fv v0.need).c,ak (Fv v0.need).nm,int (Fv v0.need).n,int (Fv v0.need).d,ab (Fv v0.need).ks,int (Fv v0.bar).op,int (Fv v0.bar).c,ak (Fv v0.bar).nm,int (Fv v0.bar).n,int (Fv v0.bar).d,ab (Fv v0.bar).ks],ab [[vi 1,vi n,vi 0,vi term,vi (Fz Fs (term + 1))]],bool true]) pok [.val (bool (decide (term ≥ 0) && decide (term ≤ 1023))),.b false,.nx 1,.st (.frz 4 (jt 1 n 0 term (Fz Fs (term + 1)))),.val (FM [int v,bool b]),.row [vs v0.name,vi v0.number,vi v0.credits,vi v0.rep,vi (Fv v0.need).op,vi (Fv v0.need).c,vs (Fv v0.need).nm,vi (Fv v0.need).n,vi (Fv v0.need).d,Gp (Fv v0.need).ks,vi (Fv v0.bar).op,vi (Fv v0.bar).c,vs (Fv v0.bar).nm,vi (Fv v0.bar).n,vi (Fv v0.bar).d,Gp (Fv v0.bar).ks],.val (bool (v0.number == n && bX v0)),.b false,.row [vs v0.name,vi v0.number,vi v0.credits,vi v0.rep,vi (Fv v0.need).op,vi (Fv v0.need).c,vs (Fv v0.need).nm,vi (Fv v0.need).n,vi (Fv v0.need).d,Gp (Fv v0.need).ks,vi (Fv v0.bar).op,vi (Fv v0.bar).c,vs (Fv v0.bar).nm,vi (Fv v0.bar).n,vi (Fv v0.bar).d,Gp (Fv v0.bar).ks]] (by kernel_rfl) (.c (F1 (Γ':=Γk) (@cn term 0 1023 (Cp w n))) (.c ht (.er [v2] (.c (@hat (jV w n)) (.c (show (!(!b || decide (v < 0) || decide (v ≥ (↑(Fu v1) : Int)))) = true → ah v v1 [vs v0.name,vi v0.number,vi v0.credits,vi v0.rep,vi (Fv v0.need).op,vi (Fv v0.need).c,vs (Fv v0.need).nm,vi (Fv v0.need).n,vi (Fv v0.need).d,Gp (Fv v0.need).ks,vi (Fv v0.bar).op,vi (Fv v0.bar).c,vs (Fv v0.bar).nm,vi (Fv v0.bar).n,vi (Fv v0.bar).d,Gp (Fv v0.bar).ks] 16 from (fun hg=>?_)) (.c (show (!(!b || decide (v < 0) || decide (v ≥ (↑(Fu v1) : Int)))) = true → Ev Fp Γk 197 (uy w v) (jV w n) (bool (v0.number == n && bX v0)) (jV w n) from (fun hg=>(FP (GY (args:=(uy w v)) (H:=(jV w n)) [0] (@uw v0 ?_ n) (by kernel_rfl) (by kernel_rfl) (by kernel_rfl) trivial trivial) (by kernel_rfl) (by kernel_rfl)))) (.c hc0 (.c (show ah v v1 [vs v0.name,vi v0.number,vi v0.credits,vi v0.rep,vi (Fv v0.need).op,vi (Fv v0.need).c,vs (Fv v0.need).nm,vi (Fv v0.need).n,vi (Fv v0.need).d,Gp (Fv v0.need).ks,vi (Fv v0.bar).op,vi (Fv v0.bar).c,vs (Fv v0.bar).nm,vi (Fv v0.bar).n,vi (Fv v0.bar).d,Gp (Fv v0.bar).ks] 16 from ?_) .n)))))))))) (by subst v0 v1 v2; (have hb : fc w.c (cJ n) (v,b) = false:=by rw [← hc0]; simp [fc,cJ]); simp only [eJ,hb]; rfl) (by subst v0 v1 v2; rfl) <;> subst v0 v1 v2 <;> (first | exact nl hs _ | (refine be (fun _=>rfl) ?_ ?_ <;> simp_all; done))
 ·let v0:=FG w.c (FA v) default
  let v1 : List D:=[int 1,int n,int 0,int term,int (Fz Fs (term + 1))]
  refine FP (GK (IY (h':=[.var [int n]]) (d:=FM [FU [ak { data:=#[] },int 0,int 0,int 0,int 0,int 0,ak { data:=#[] },int 0,int 0,nq,int 0,int 0,ak { data:=#[] },int 0,int 0,nq],ab [[vi 1,vi n,vi 0,vi term,vi (Fz Fs (term + 1))]],bool false]) pok [.val (bool (decide (term ≥ 0) && decide (term ≤ 1023))),.b false,.nx 1,.st (.frz 4 (jt 1 n 0 term (Fz Fs (term + 1)))),.val (FM [int v,bool b]),.row [vs v0.name,vi v0.number,vi v0.credits,vi v0.rep,vi (Fv v0.need).op,vi (Fv v0.need).c,vs (Fv v0.need).nm,vi (Fv v0.need).n,vi (Fv v0.need).d,Gp (Fv v0.need).ks,vi (Fv v0.bar).op,vi (Fv v0.bar).c,vs (Fv v0.bar).nm,vi (Fv v0.bar).n,vi (Fv v0.bar).d,Gp (Fv v0.bar).ks],.val (bool (v0.number == n && bX v0)),.b true] (by kernel_rfl) (.c (F1 (Γ':=Γk) (@cn term 0 1023 (Cp w n))) (.c ht (.er [v1] (.c (@hat (jV w n)) (.c (show (!(!b || decide (v < 0) || decide (v ≥ (↑(Fu (Fo CourseT.row w.c)) : Int)))) = true → ah v (Fo CourseT.row w.c) [vs v0.name,vi v0.number,vi v0.credits,vi v0.rep,vi (Fv v0.need).op,vi (Fv v0.need).c,vs (Fv v0.need).nm,vi (Fv v0.need).n,vi (Fv v0.need).d,Gp (Fv v0.need).ks,vi (Fv v0.bar).op,vi (Fv v0.bar).c,vs (Fv v0.bar).nm,vi (Fv v0.bar).n,vi (Fv v0.bar).d,Gp (Fv v0.bar).ks] 16 from (fun hg=>(by subst v0 v1; (refine be (fun _=>rfl) ?_ ?_ <;> simp_all; done)))) (.c (show (!(!b || decide (v < 0) || decide (v ≥ (↑(Fu (Fo CourseT.row w.c)) : Int)))) = true → Ev Fp Γk 197 (uy w v) (jV w n) (bool (v0.number == n && bX v0)) (jV w n) from (fun hg=>(FP (GY (args:=(uy w v)) (H:=(jV w n)) [0] (@uw v0 (by subst v0 v1; exact nl hs _) n) (by kernel_rfl) (by kernel_rfl) (by kernel_rfl) trivial trivial) (by kernel_rfl) (by kernel_rfl)))) (.c hc0 .n))))))))) ?_ ?_ <;> subst v0 v1 <;> (first | (have hb : fc w.c (cJ n) (v,b) = true:=by rw [← hc0]; simp [fc,cJ]); simp only [eJ,hb]; rfl | rfl)
def ac (w : WorldT) (n term known : Int) : CourseT × Bool:=match outB term with
 | true=>(CourseT.zero,false)
 | false=>eJ w.c (cJ n) CourseT.zero (atR 1 n 0 term known w.f)
theorem vI {w : WorldT} (hw : w.ok) {n term known : Int} : Ev Fp Γk 199 [.agg w.l,ab (w.c.map CourseT.row),.agg [int 1,int n,int 0],int term,int known,.fn (.func 197) [] [.ref (.ptr 0 0)]] [.var [int n]] (.tup [ag (ac w n term known).1.row,ab (eK 1 n 0 term),bool (ac w n term known).2]) [.var [int n]]:=by
 unfold ac eK
 cases ht : outB term with
 | true=>exact lc0 ht
 | false=>exact lc1 ht (fun h=>F1 (D6 hw.sf h)) hw.c
noncomputable abbrev fQ (w : WorldT) (n : Int) : List Blk:=[.var [ab (Fo CourseT.row w.c),ab w.p,ab (Fo FF w.s),ab (Fo FC w.f)],.var [int n],.var [ak { data:=#[] },int 0,int 0,int 0,int 0,int 0,ak { data:=#[] },int 0,int 0,nq,int 0,int 0,ak { data:=#[] },int 0,int 0,nq]]
theorem vJ {w : WorldT} (hw : w.ok) {n term known : Int} (h : List Blk) : (Ev Fp Γk 161 [.agg w.l,int n,int term,int known] h (.tup [ag (ac w n term known).1.row,ab (eK 1 n 0 term),bool (ac w n term known).2]) h):=by
 let v0:=FM [FU [ak (ac w n term known).fst.name,int (ac w n term known).fst.number,int (ac w n term known).fst.credits,int (ac w n term known).fst.rep,int (Fv (ac w n term known).fst.need).op,int (Fv (ac w n term known).fst.need).c,ak (Fv (ac w n term known).fst.need).nm,int (Fv (ac w n term known).fst.need).n,int (Fv (ac w n term known).fst.need).d,ab (Fv (ac w n term known).fst.need).ks,int (Fv (ac w n term known).fst.bar).op,int (Fv (ac w n term known).fst.bar).c,ak (Fv (ac w n term known).fst.bar).nm,int (Fv (ac w n term known).fst.bar).n,int (Fv (ac w n term known).fst.bar).d,ab (Fv (ac w n term known).fst.bar).ks],ab (eK 1 n 0 term),bool (ac w n term known).snd]
 exact z0 [.val v0] (.c (show Ev Fp Γk 199 [FU (WorldT.l w),ab (Fo CourseT.row w.c),FU [int 1,int n,int 0],int term,int known,D.fn (Fn.func 197) [] [.ref (.ptr 1 0)]] (fQ w n) v0 (fQ w n) from (FP (GY (args:=[FU (WorldT.l w),ab (Fo CourseT.row w.c),FU [int 1,int n,int 0],int term,int known,D.fn (Fn.func 197) [] [.ref (.ptr 1 0)]]) (H:=(fQ w n)) [1] (@vI w hw n term known) (by kernel_rfl) (by kernel_rfl) (by kernel_rfl) trivial trivial) (by kernel_rfl) (by kernel_rfl))) .n) h
theorem fR {kk ks ko term : Int} (h : List Blk) : (Ev Fp Γ0 128 [.agg [int kk,int ks,int ko],int term] h (.agg [int kk,int ks,int ko,int term,int (Fs.wrap (term + 1))]) h):=by
 exact z0 [] .n h
def CourseT.small (c : CourseT) : Prop:=c.need.size ≤ 1048576 ∧ c.bar.size ≤ 1048576
noncomputable abbrev bw (c : CourseT) : List Blk:=[.var [ak c.name,int c.number,int c.credits,int c.rep,int (Fv c.need).op,int (Fv c.need).c,ak (Fv c.need).nm,int (Fv c.need).n,int (Fv c.need).d,ab (Fv c.need).ks,int (Fv c.bar).op,int (Fv c.bar).c,ak (Fv c.bar).nm,int (Fv c.bar).n,int (Fv c.bar).d,ab (Fv c.bar).ks]]
theorem iD {c : CourseT} (hc : c.ok) (hs : c.small) (h : List Blk) : (Ev Fp Γ0 133 [ag c.row] h (bool (bX c)) h):=by
 refine z0 [.val (bool (decide (c.number ≥ 0) && decide (c.number ≤ 4095))),.val (bool (decide (c.credits ≥ 1) && decide (c.credits ≤ 60))),.val (bool (decide (c.rep ≥ 0) && decide (c.rep ≤ 2))),.val (int (cq (Jh c.need))),.val (int (cq (Jh c.bar)))] (.c (@aJ (c.number) 0 4095 (bw c)) (.c (gd (decide (c.number ≥ 0) && decide (c.number ≤ 4095)) (@aJ (c.credits) 1 60 (bw c))) (.c (gd (decide (c.number ≥ 0) && decide (c.number ≤ 4095) && (decide (c.credits ≥ 1) && decide (c.credits ≤ 60))) (@aJ (c.rep) 0 2 (bw c))) (.c (gd (decide (c.number ≥ 0) && decide (c.number ≤ 4095) && (decide (c.credits ≥ 1) && decide (c.credits ≤ 60)) && (decide (c.rep ≥ 0) && decide (c.rep ≤ 2))) (@nj (c.need) ?_ ?_ (bw c))) (.c (gd (decide (c.number ≥ 0) && decide (c.number ≤ 4095) && (decide (c.credits ≥ 1) && decide (c.credits ≤ 60)) && (decide (c.rep ≥ 0) && decide (c.rep ≤ 2)) && cq (Jh c.need) == 0) (@nj (c.bar) ?_ ?_ (bw c))) .n))))) h <;> (first | exact hc.1 | exact hc.2 | exact hs.1 | exact hs.2)
theorem Cq {l : List CourseT} {v n : Int} {b : Bool} (hw1 : Fs.wrap (((l.map CourseT.row).length : Int) - 1) = (l.length : Int) - 1) :
  (!b || !(decide (v ≥ 0) && decide (v ≤ Fs.wrap (((l.map CourseT.row).length : Int) - 1))) || (!((l.getD v.toNat default).number == n)) || !bX (l.getD v.toNat default)) = fc l (cJ n) (v,b):=by
 unfold fc cJ
 rw [hw1]
 have e1 : decide (v < 0) = !decide (v ≥ 0):=by by_cases h : v ≥ 0 <;> simp [h] <;> omega
 have e2 : decide (v ≥ (l.length : Int)) = !decide (v ≤ (l.length : Int) - 1):=by by_cases h : v ≤ (l.length : Int) - 1 <;> simp [h] <;> omega
 simp only [e1,e2]
 cases b <;> cases decide (v ≥ 0) <;> cases decide (v ≤ (l.length : Int) - 1) <;> simp
noncomputable abbrev vK (w : WorldT) : List Blk:=[.var [ab (Fo CourseT.row w.c),ab w.p,ab (Fo FF w.s),ab (Fo FC w.f)],.var [ak { data:=#[] },int 0,int 0,int 0,int 0,int 0,ak { data:=#[] },int 0,int 0,nq,int 0,int 0,ak { data:=#[] },int 0,int 0,nq]]
theorem En {w : WorldT} {n term known : Int} (ht : (!(decide (term ≥ 0) && decide (term ≤ 1023))) = true) (h : List Blk) : (Ev Fp Γ0 76 [.agg w.l,int n,int term,int known] h (.tup [ag CourseT.zero.row,ab [],bool false]) h):=by
 exact FP (GK (z0 (d:=FM [FU [ak { data:=#[] },int 0,int 0,int 0,int 0,int 0,ak { data:=#[] },int 0,int 0,nq,int 0,int 0,ak { data:=#[] },int 0,int 0,nq],nq,bool false]) [.val (bool (decide (term ≥ 0) && decide (term ≤ 1023))),.b true] (.c (@aJ term 0 1023 (vK w)) (.c ht .n)) h)) (by rfl) (by rfl)
noncomputable abbrev dq (w : WorldT) (n : Int) : List Blk:=[.var [ab (Fo CourseT.row w.c),ab w.p,ab (Fo FF w.s),ab (Fo FC w.f)],.var [ak { data:=#[] },int 0,int 0,int 0,int 0,int 0,ak { data:=#[] },int 0,int 0,nq,int 0,int 0,ak { data:=#[] },int 0,int 0,nq],.var [int 1,int n,int 0],.gone]
noncomputable abbrev nn (w : WorldT) (n : Int) : List Blk:=[.var [ab (Fo CourseT.row w.c),ab w.p,ab (Fo FF w.s),ab (Fo FC w.f)],.var [ak { data:=#[] },int 0,int 0,int 0,int 0,int 0,ak { data:=#[] },int 0,int 0,nq,int 0,int 0,ak { data:=#[] },int 0,int 0,nq],.var [int 1,int n,int 0]]
noncomputable abbrev np (w : WorldT) : List Blk:=[.var [ab (Fo CourseT.row w.c),ab w.p,ab (Fo FF w.s),ab (Fo FC w.f)],.var [ak { data:=#[] },int 0,int 0,int 0,int 0,int 0,ak { data:=#[] },int 0,int 0,nq,int 0,int 0,ak { data:=#[] },int 0,int 0,nq]]
theorem Eo {w : WorldT} {n term known v : Int} {b : Bool} (ht : (!(decide (term ≥ 0) && decide (term ≤ 1023))) = false) (hat : ∀ h,Ev Fp Γ0 124 [ab (w.f.map FC),.agg [int 1,int n,int 0],int term,int known] h (.tup [int v,bool b]) h) (hs : ∀ x ∈ w.c,x.ok) (hs2 : ∀ x ∈ w.c,x.small) (hw1 : Fs.wrap (((w.c.map CourseT.row).length : Int) - 1) = (w.c.length : Int) - 1)
  (hd1 : (w.c.getD v.toNat default).ok) (hd2 : (w.c.getD v.toNat default).small) (h : List Blk) : (Ev Fp Γ0 76 [.agg w.l,int n,int term,int known] h (.tup [ag (eJ w.c (cJ n) CourseT.zero (v,b)).1.row,ab (jt 1 n 0 term (Fs.wrap (term + 1))),bool (eJ w.c (cJ n) CourseT.zero (v,b)).2]) h):=by
 cases hc0 : !b || !(decide (v ≥ 0) && decide (v ≤ Fz Fs ((↑(Fu (Fo CourseT.row w.c)) : Int) - 1))) || (FG w.c (FA v) default).number != n || !bX (FG w.c (FA v) default)
 ·let v0:=FG w.c (FA v) default
  let v1:=Fo CourseT.row w.c
  let v2 : List D:=[int 1,int n,int 0,int term,int (Fz Fs (term + 1))]
  refine FP (GK (z0 (d:=FM [FU [ak v0.name,int v0.number,int v0.credits,int v0.rep,int (Fv v0.need).op,int (Fv v0.need).c,ak (Fv v0.need).nm,int (Fv v0.need).n,int (Fv v0.need).d,ab (Fv v0.need).ks,int (Fv v0.bar).op,int (Fv v0.bar).c,ak (Fv v0.bar).nm,int (Fv v0.bar).n,int (Fv v0.bar).d,ab (Fv v0.bar).ks],ab [[vi 1,vi n,vi 0,vi term,vi (Fz Fs (term + 1))]],bool true]) [.val (bool (decide (term ≥ 0) && decide (term ≤ 1023))),.b false,.val (FU v2),.st (.frz 3 (jt 1 n 0 term (Fz Fs (term + 1)))),.val (FM [int v,bool b]),.val (bool (decide (v ≥ 0) && decide (v ≤ Fz Fs ((↑(Fu v1) : Int) - 1)))),.row [vs v0.name,vi v0.number,vi v0.credits,vi v0.rep,vi (Fv v0.need).op,vi (Fv v0.need).c,vs (Fv v0.need).nm,vi (Fv v0.need).n,vi (Fv v0.need).d,Gp (Fv v0.need).ks,vi (Fv v0.bar).op,vi (Fv v0.bar).c,vs (Fv v0.bar).nm,vi (Fv v0.bar).n,vi (Fv v0.bar).d,Gp (Fv v0.bar).ks],.row [vs v0.name,vi v0.number,vi v0.credits,vi v0.rep,vi (Fv v0.need).op,vi (Fv v0.need).c,vs (Fv v0.need).nm,vi (Fv v0.need).n,vi (Fv v0.need).d,Gp (Fv v0.need).ks,vi (Fv v0.bar).op,vi (Fv v0.bar).c,vs (Fv v0.bar).nm,vi (Fv v0.bar).n,vi (Fv v0.bar).d,Gp (Fv v0.bar).ks],.val (bool (bX v0)),.b false,.row [vs v0.name,vi v0.number,vi v0.credits,vi v0.rep,vi (Fv v0.need).op,vi (Fv v0.need).c,vs (Fv v0.need).nm,vi (Fv v0.need).n,vi (Fv v0.need).d,Gp (Fv v0.need).ks,vi (Fv v0.bar).op,vi (Fv v0.bar).c,vs (Fv v0.bar).nm,vi (Fv v0.bar).n,vi (Fv v0.bar).d,Gp (Fv v0.bar).ks]] (.c (@aJ term 0 1023 (np w)) (.c ht (.c (@fR 1 n 0 term (nn w n)) (.er [v2] (.c (@hat (dq w n)) (.c (gd (!!b) (@aJ v 0 (Fz Fs ((↑(Fu v1) : Int) - 1)) (dq w n))) (.c (show (!(!b || !(decide (v ≥ 0) && decide (v ≤ Fz Fs ((↑(Fu v1) : Int) - 1))))) = true → ah v v1 [vs v0.name,vi v0.number,vi v0.credits,vi v0.rep,vi (Fv v0.need).op,vi (Fv v0.need).c,vs (Fv v0.need).nm,vi (Fv v0.need).n,vi (Fv v0.need).d,Gp (Fv v0.need).ks,vi (Fv v0.bar).op,vi (Fv v0.bar).c,vs (Fv v0.bar).nm,vi (Fv v0.bar).n,vi (Fv v0.bar).d,Gp (Fv v0.bar).ks] 16 from (fun hg=>?_)) (.c (show (!(!b || !(decide (v ≥ 0) && decide (v ≤ Fz Fs ((↑(Fu v1) : Int) - 1))) || v0.number != n)) = true → ah v v1 [vs v0.name,vi v0.number,vi v0.credits,vi v0.rep,vi (Fv v0.need).op,vi (Fv v0.need).c,vs (Fv v0.need).nm,vi (Fv v0.need).n,vi (Fv v0.need).d,Gp (Fv v0.need).ks,vi (Fv v0.bar).op,vi (Fv v0.bar).c,vs (Fv v0.bar).nm,vi (Fv v0.bar).n,vi (Fv v0.bar).d,Gp (Fv v0.bar).ks] 16 from (fun hg=>?_)) (.c (gd (!(!b || !(decide (v ≥ 0) && decide (v ≤ Fz Fs ((↑(Fu v1) : Int) - 1))) || v0.number != n)) (@iD v0 hd1 hd2 (dq w n))) (.c hc0 (.c (show ah v v1 [vs v0.name,vi v0.number,vi v0.credits,vi v0.rep,vi (Fv v0.need).op,vi (Fv v0.need).c,vs (Fv v0.need).nm,vi (Fv v0.need).n,vi (Fv v0.need).d,Gp (Fv v0.need).ks,vi (Fv v0.bar).op,vi (Fv v0.bar).c,vs (Fv v0.bar).nm,vi (Fv v0.bar).n,vi (Fv v0.bar).d,Gp (Fv v0.bar).ks] 16 from ?_) .n))))))))))) h)) (by subst v0 v1 v2; (have hb : fc w.c (cJ n) (v,b) = false:=(Cq hw1).symm.trans hc0; simp only [eJ,hb]; rfl)) (by rfl) <;> subst v0 v1 v2 <;> (refine be (fun _=>rfl) ?_ ?_ <;> simp only [hw1,GZ,Ic,GN,FB,decide_eq_true_eq] at * <;> omega)
 ·let v0:=FG w.c (FA v) default
  let v1:=Fu (Fo CourseT.row w.c)
  let v2 : List D:=[int 1,int n,int 0,int term,int (Fz Fs (term + 1))]
  refine FP (GK (z0 (d:=FM [FU [ak { data:=#[] },int 0,int 0,int 0,int 0,int 0,ak { data:=#[] },int 0,int 0,nq,int 0,int 0,ak { data:=#[] },int 0,int 0,nq],ab [[vi 1,vi n,vi 0,vi term,vi (Fz Fs (term + 1))]],bool false]) [.val (bool (decide (term ≥ 0) && decide (term ≤ 1023))),.b false,.val (FU v2),.st (.frz 3 (jt 1 n 0 term (Fz Fs (term + 1)))),.val (FM [int v,bool b]),.val (bool (decide (v ≥ 0) && decide (v ≤ Fz Fs ((↑v1 : Int) - 1)))),.row [vs v0.name,vi v0.number,vi v0.credits,vi v0.rep,vi (Fv v0.need).op,vi (Fv v0.need).c,vs (Fv v0.need).nm,vi (Fv v0.need).n,vi (Fv v0.need).d,Gp (Fv v0.need).ks,vi (Fv v0.bar).op,vi (Fv v0.bar).c,vs (Fv v0.bar).nm,vi (Fv v0.bar).n,vi (Fv v0.bar).d,Gp (Fv v0.bar).ks],.row [vs v0.name,vi v0.number,vi v0.credits,vi v0.rep,vi (Fv v0.need).op,vi (Fv v0.need).c,vs (Fv v0.need).nm,vi (Fv v0.need).n,vi (Fv v0.need).d,Gp (Fv v0.need).ks,vi (Fv v0.bar).op,vi (Fv v0.bar).c,vs (Fv v0.bar).nm,vi (Fv v0.bar).n,vi (Fv v0.bar).d,Gp (Fv v0.bar).ks],.val (bool (bX v0)),.b true] (.c (@aJ term 0 1023 (np w)) (.c ht (.c (@fR 1 n 0 term (nn w n)) (.er [v2] (.c (@hat (dq w n)) (.c (gd (!!b) (@aJ v 0 (Fz Fs ((↑v1 : Int) - 1)) (dq w n))) (.c (show (!(!b || !(decide (v ≥ 0) && decide (v ≤ Fz Fs ((↑v1 : Int) - 1))))) = true → ah v (Fo CourseT.row w.c) [vs v0.name,vi v0.number,vi v0.credits,vi v0.rep,vi (Fv v0.need).op,vi (Fv v0.need).c,vs (Fv v0.need).nm,vi (Fv v0.need).n,vi (Fv v0.need).d,Gp (Fv v0.need).ks,vi (Fv v0.bar).op,vi (Fv v0.bar).c,vs (Fv v0.bar).nm,vi (Fv v0.bar).n,vi (Fv v0.bar).d,Gp (Fv v0.bar).ks] 16 from (fun hg=>?_)) (.c (show (!(!b || !(decide (v ≥ 0) && decide (v ≤ Fz Fs ((↑v1 : Int) - 1))) || v0.number != n)) = true → ah v (Fo CourseT.row w.c) [vs v0.name,vi v0.number,vi v0.credits,vi v0.rep,vi (Fv v0.need).op,vi (Fv v0.need).c,vs (Fv v0.need).nm,vi (Fv v0.need).n,vi (Fv v0.need).d,Gp (Fv v0.need).ks,vi (Fv v0.bar).op,vi (Fv v0.bar).c,vs (Fv v0.bar).nm,vi (Fv v0.bar).n,vi (Fv v0.bar).d,Gp (Fv v0.bar).ks] 16 from (fun hg=>?_)) (.c (gd (!(!b || !(decide (v ≥ 0) && decide (v ≤ Fz Fs ((↑v1 : Int) - 1))) || v0.number != n)) (@iD v0 hd1 hd2 (dq w n))) (.c hc0 .n)))))))))) h)) (by subst v0 v1 v2; (have hb : fc w.c (cJ n) (v,b) = true:=(Cq hw1).symm.trans hc0; simp only [eJ,hb]; rfl)) (by rfl) <;> subst v0 v1 v2 <;> (refine be (fun _=>rfl) ?_ ?_ <;> simp only [hw1,GZ,Ic,GN,FB,decide_eq_true_eq,Bool.or_eq_true] at * <;> omega)
theorem Ep (f g : FactT) : decide (orI (aN f.known g.known) (aN f.no g.no) ≥ 0) = !befB f g:=by
 have h : orI (aN f.known g.known) (aN f.no g.no) ≥ 0 ↔ ¬ (f.known < g.known ∨ (f.known = g.known ∧ f.no < g.no)):=by
  unfold orI aN
  repeat' split
  all_goals simp_all
  all_goals omega
 rw [Bool.eq_iff_iff]
 simp only [decide_eq_true_eq,h,befB,GN,GZ,Bool.and_eq_false_iff,decide_eq_false_iff_not,beq_eq_false_iff_ne,ne_eq]
 omega
def a7Rel (s : Option (Nat × FactT)) (r : FactT × Bool) : Prop:=match s with
 | none=>r.2 = false
 | some p=>r.2 = true ∧ r.1 = p.2
theorem Er {kk ks ko term known : Int} {i : Nat} {s : Option (Nat × FactT)} {r : FactT × Bool} {f : FactT} (h : a7Rel s r) :
  ∃ s',a7F kk ks ko term known f (i,s) = .inl (i + 1,s') ∧ a7Rel s' (oM kk ks ko term known r f):=by
 refine ⟨_,rfl,?_⟩
 obtain ⟨g,b⟩:=r
 unfold oM ofIs bW yg l7
 cases s with
 | none =>
  simp only [a7Rel] at h
  subst h
  simp only
  cases keyIs kk ks ko f <;> cases decide (f.frm ≤ term) <;> cases decide (term < f.til) <;> cases decide (f.known ≤ known) <;> simp [a7Rel]
 | some p =>
  obtain ⟨j,q⟩:=p
  simp only [a7Rel] at h
  obtain ⟨rfl,rfl⟩:=h
  simp only [Ep]
  cases keyIs kk ks ko f <;> cases decide (f.frm ≤ term) <;> cases decide (term < f.til) <;> cases decide (f.known ≤ known) <;> cases befB f g <;> simp [a7Rel]
theorem yw {kk ks ko term known : Int} : ∀ (l : List FactT) (i : Nat) (s : Option (Nat × FactT)) (r : FactT × Bool),a7Rel s r →
  ∃ s',forL (a7F kk ks ko term known) l (i,s) = .inl (i + l.length,s') ∧ a7Rel s' (l.foldl (oM kk ks ko term known) r)
 | [],i,s,r,h=>⟨s,rfl,h⟩
 | f :: l,i,s,r,h=>by
  obtain ⟨s1,e1,h1⟩:=Er (kk:=kk) (ks:=ks) (ko:=ko) (term:=term) (known:=known) (i:=i) (f:=f) h
  obtain ⟨s2,e2,h2⟩:=yw l (i + 1) s1 _ h1
  refine ⟨s2,?_,h2⟩
  simp only [forL,e1,e2,List.length_cons]
  congr 2
  omega
theorem uz {kk ks ko term known : Int} {l : List FactT} : Em kk ks ko term known l = atR kk ks ko term known l:=by
 obtain ⟨s,e,h⟩:=yw (kk:=kk) (ks:=ks) (ko:=ko) (term:=term) (known:=known) l 0 none (fz,false) rfl
 have hb : a7B kk ks ko term known l = s:=by unfold a7B; rw [e]
 unfold Em atR
 rw [hb]
 cases s with
 | none =>
  simp only [a7Rel] at h
  simp only [h]; rfl
 | some p =>
  simp only [a7Rel] at h
  have hp:=Cn hb
  have hg : l.getD p.1 default = p.2:=by simp [FG,hp]
  simp only [Int.toNat_natCast,hg,h.1,h.2]
  cases decide (p.2.value < 0) <;> rfl
theorem sM {w : WorldT} (hw : w.ok) (hs : ∀ x ∈ w.c,x.small) {n term known : Int} (h : List Blk) : Ev Fp Γ0 76 [.agg w.l,int n,int term,int known] h (.tup [ag (ac w n term known).1.row,ab (eK 1 n 0 term),bool (ac w n term known).2]) h:=by
 unfold ac eK
 cases ht : outB term with
 | true=>exact En ht h
 | false =>
  have hlc:=hw.lc
  unfold ad at hlc
  have hz : ∀ v : Int,(w.c.getD v.toNat default).ok ∧ (w.c.getD v.toNat default).small:=by
   intro v
   rw [FG]
   cases hx : w.c[v.toNat]? with
   | none=>exact ⟨CourseT.zero_ok,by constructor <;> decide⟩
   | some x=>exact ⟨hw.c x (FV hx),hs x (FV hx)⟩
  exact Eo ht (fun h=>by have:=uv (kk:=1) (ks:=n) (ko:=0) (term:=term) (known:=known) hw.sf h; rw [uz] at this; exact this) hw.c hs (by rw [List.length_map,wrap_i64 (by omega) (by omega)]) (hz _).1 (hz _).2 h
end Go.Vi
open Go Go.Proofs Go.Shelf
namespace Go.Vi
abbrev fS (l : List Int) : List (List D):=l.map fun n=>[int n]
theorem qT {w : World} {av : Nat → Prop} {loc : Loc} {h : List Blk} : ∀ {l : List Int} {ys : List Value},RelL w av loc h (fS l).flatten ys → ys = l.map (H2 .i64)
 | [],[],_=>rfl
 | [],_ :: _,r=>by simp [RelL] at r
 | _ :: _,[],r=>by simp [RelL] at r
 | n :: l,y :: ys,r=>by
  simp only [fS,GJ,Gs,Jz,List.nil_append,RelL] at r
  have h1 : y = .int .i64 n:=by simpa [Rel,RelP] using r.1
  rw [h1,qT (l:=l) r.2]; rfl
theorem nr {w : World} {av : Nat → Prop} {loc : Loc} {h : List Blk} : ∀ {l : List Int},RelL w av loc h (fS l).flatten (l.map (H2 .i64))
 | []=>trivial
 | n :: l=>by
  simp only [fS,GJ,Gs,Jz,List.nil_append,RelL]
  exact ⟨by simp [Rel,RelP],nr (l:=l)⟩
theorem sN {P : Program} {ρ : Ren} {Γ : ap} (L : Lays.n189 P ρ) {h : List Blk} {b e : Nat} {l : List Int} (hb : h[b]? = some (.vec (fS l) e 1)) (hl : l.length < 4611686018427387904) :
  Ev P Γ (ρ.f 189) [.ref (.vec b e)] h (.tup []) (h.set b (.vec (fS (l.mergeSort fun x y=>decide (x ≤ y))) e 1)):=by
 intro O w loc vs R ra
 obtain ⟨y,rfl⟩ : ∃ y,vs = [y]:=by
  match vs,ra with
  | [y],_=>exact ⟨y,rfl⟩
  | [],r=>simp [RelL] at r
  | _ :: _ :: _,r=>simp [RelL] at r
 have r:=ra.1
 simp only [Rel,RefRel,hb] at r
 have hv:=r.2.2 trivial
 have B:=R.blk b _ hb
 simp only [BlkOk] at B
 have hlen : (fS l).length = l.length:=by simp [fS]
 refine callsIn_wide.2 ?_
 cases hlb : loc b with
 | none =>
  rw [hlb] at hv B
  obtain ⟨hn,rfl⟩:=hv
  have hl0 : l = []:=by simpa [fS] using hn
  subst hl0
  refine Calls.mono (calls_of_every_depth fun D=>AnyS.slices_Sort_int_none_alone L D none 0 w) ?_
  rintro e' w' ⟨rfl,rfl⟩
  have hset : h.set b (.vec (fS ([].mergeSort fun x y=>decide (x ≤ y))) e 1) = h:=by
   apply Ia
   intro i
   by_cases hi : i = b
   ·subst hi; rw [aZ hb,hb]; simp
   ·rw [bB _ _ hi]
  refine ⟨.tuple #[],.tup [],_,loc,rfl,⟨rfl,rfl⟩,?_,?_,?_⟩
  ·rw [hset]; exact R
  ·rw [hset]; exact Ext.refl _ _ _
  ·simp [Rel,RelL]
 | some p =>
  obtain ⟨blk,cap⟩:=p
  rw [hlb] at hv B
  obtain ⟨rfl,hcap⟩:=hv
  simp only at B
  obtain ⟨c,T,fr,ys,hobj,hcs,hle,hfr,hsz,hrel,rest,hcl⟩:=B
  have hys:=qT hrel
  subst hys
  have hblk : blk < w.heap.size:=(Hh.1 hobj).1
  have hH : Sort.Holds (H2 .i64) w blk 0 l.toArray:=by
   intro j hj
   have hj' : j < l.length:=by simpa using hj
   have hc : c[j]? = some (H2 .i64 l[j]):=by
    rw [← Array.getElem?_toList,hcl,FQ (by simpa using hj')]
    simp [hj']
   constructor
   ·simp [World.cell?,hobj,hc,hj']
   ·have:=hfr j (Hh.1 hc).1
    obtain ⟨lo,hi⟩:=fr
    simp only [World.frozen?,hobj,Nat.zero_add]
    rw [← Bool.not_eq_true]
    simpa using this
  rw [hlen]
  refine Calls.mono (calls_of_every_depth fun D=>AnyS.slices_Sort_int_alone L D blk 0 cap l w hH hblk hl) ?_
  rintro e' w' ⟨rfl,n,os,rfl⟩
  have hlm : (l.mergeSort fun x y=>decide (x ≤ y)).length = l.length:=by simp
  generalize (l.mergeSort fun x y=>decide (x ≤ y)) = m at hlm ⊢
  have hobj' : (Je (G6 (H2 .i64) (Ho w n) blk 0 m.toArray) os).heap[blk]? = some (.cells (HL (H2 .i64) 0 m.toArray c) T fr):=by
   rw [IQ _ _ (by simpa [G6,G2,Ho] using hblk)]
   simp [G6,G2,Ho,Ie,hobj,Sort.onCells]
  have hcells : (HL (H2 .i64) 0 m.toArray c).toList = m.map (H2 .i64) ++ rest:=by
   unfold HL
   rw [Array.toList_mapIdx,hcl]
   apply Ia
   intro i
   rw [List.getElem?_mapIdx]
   by_cases hi : i < l.length
   ·rw [FQ (by simpa using hi),FQ (by simpa [hlm] using hi)]
    have hm : i < m.length:=by omega
    simp [hi,hm]
   ·rw [Ga (by simpa using HV hi),Ga (by simpa [hlm] using HV hi)]
    simp [hi,hlm]
  have key:=R.step (w':=Je (G6 (H2 .i64) (Ho w n) blk 0 m.toArray) os) (l':=loc) (h':=h.set b (.vec (fS m) e 1)) b (.vec (fS m) e 1)
   (by simp [Je,G6,G2,Ho]) ⟨rfl,rfl,rfl,by simp [Je,G6,G2,Ho]⟩ (fun i hi=>bB _ _ hi) (aZ hb) (fun _ _=>rfl)
   (fun z hz=>by rw [hb] at hz; cases hz; exact ⟨⟨Nat.le_refl _,fun _=>by simp [fS,hlm],rfl⟩,fun _=>rfl⟩)
   (fun k hk hno=>by
    have hkb : k ≠ blk:=fun e=>hno _ cap hb (by simp) (by rw [hlb,e])
    rw [IQ _ _ (by simpa [G6,G2,Ho] using hk)]
    simp [G6,G2,Ho,Ie,Ne.symm hkb])
   (fun k c hk=>.inl ⟨_,c,hb,by simp,hk⟩)
   (fun E=>by
    simp only [BlkOk,hlb]
    refine ⟨_,T,fr,m.map (H2 .i64),hobj',?_,?_,?_,?_,nr,rest,hcells⟩
    ·simpa [HL] using hcs
    ·simpa [fS,hlm] using hle
    ·simpa [HL] using hfr
    ·simp [fS])
  exact ⟨.tuple #[],.tup [],_,loc,rfl,⟨rfl,rfl⟩,key.1,key.2,by simp [Rel,RelL]⟩
end Go.Vi
namespace Go.Proofs
open Go.Shelf
def Tryz.laysSort_ren : Go.Shelf.Ren:=⟨fun | 189=>88 | 125=>122 | 257=>140 | 128=>173 | 129=>174 | 294=>179 | 295=>180 | 296=>181 | 297=>182 | 298=>183 | 299=>184 | 216=>185 | 300=>186 | 301=>187 | 328=>218 | 329=>211 | 330=>212 | 331=>219 | 332=>220 | 215=>123 | 343=>232 | n=>n,fun | 28=>30 | 3=>3 | 46=>192 | 0=>0 | 51=>233 | 53=>169 | 4=>4 | 183=>227 | 182=>226 | 131=>150 | 5=>5 | 9=>9 | 218=>251 | 222=>255 | 228=>265 | 229=>266 | n=>n,fun | n=>n⟩
theorem Tryz.laysSort : Go.Proofs.Lays.n189 Fp Tryz.laysSort_ren:={
 mixed:=by kernel_rfl
 f125:=Tryz.func122.trans (congrArg some (by kernel_rfl))
 f128:=Tryz.func173.trans (congrArg some (by kernel_rfl))
 f129:=Tryz.func174.trans (congrArg some (by kernel_rfl))
 f189:=Tryz.func88.trans (congrArg some (by kernel_rfl))
 f215:=Tryz.func123.trans (congrArg some (by kernel_rfl))
 f216:=Tryz.func185.trans (congrArg some (by kernel_rfl))
 f257:=Tryz.func140.trans (congrArg some (by kernel_rfl))
 f294:=Tryz.func179.trans (congrArg some (by kernel_rfl))
 f295:=Tryz.func180.trans (congrArg some (by kernel_rfl))
 f296:=Tryz.func181.trans (congrArg some (by kernel_rfl))
 f297:=Tryz.func182.trans (congrArg some (by kernel_rfl))
 f298:=Tryz.func183.trans (congrArg some (by kernel_rfl))
 f299:=Tryz.func184.trans (congrArg some (by kernel_rfl))
 f300:=Tryz.func186.trans (congrArg some (by kernel_rfl))
 f301:=Tryz.func187.trans (congrArg some (by kernel_rfl))
 f328:=Tryz.func218.trans (congrArg some (by kernel_rfl))
 f329:=Tryz.func211.trans (congrArg some (by kernel_rfl))
 f330:=Tryz.func212.trans (congrArg some (by kernel_rfl))
 f331:=Tryz.func219.trans (congrArg some (by kernel_rfl))
 f332:=Tryz.func220.trans (congrArg some (by kernel_rfl))
 f343:=Tryz.func232.trans (congrArg some (by kernel_rfl))
 t0:=Tryz.underlying0
 a0:=Tryz.isAgg0
 z0:=Tryz.sizeOf0
 v0:=Tryz.zeroValue0
 t3:=Tryz.underlying3
 a3:=Tryz.isAgg3
 z3:=Tryz.sizeOf3
 v3:=Tryz.zeroValue3
 t4:=Tryz.underlying4
 a4:=Tryz.isAgg4
 z4:=Tryz.sizeOf4
 v4:=Tryz.zeroValue4
 t5:=Tryz.underlying5
 a5:=Tryz.isAgg5
 z5:=Tryz.sizeOf5
 v5:=Tryz.zeroValue5
 t9:=Tryz.underlying9
 a9:=Tryz.isAgg9
 z9:=Tryz.sizeOf9
 v9:=Tryz.zeroValue9
 t28:=Tryz.underlying30
 a28:=Tryz.isAgg30
 z28:=Tryz.sizeOf30
 v28:=Tryz.zeroValue30
 t46:=Tryz.underlying192
 a46:=Tryz.isAgg192
 z46:=Tryz.sizeOf192
 v46:=Tryz.zeroValue192
 t51:=Tryz.underlying233
 a51:=Tryz.isAgg233
 z51:=Tryz.sizeOf233
 v51:=Tryz.zeroValue233
 t53:=Tryz.underlying169
 a53:=Tryz.isAgg169
 z53:=Tryz.sizeOf169
 v53:=Tryz.zeroValue169
 t131:=Tryz.underlying150
 a131:=Tryz.isAgg150
 z131:=Tryz.sizeOf150
 v131:=Tryz.zeroValue150
 t182:=Tryz.underlying226
 a182:=Tryz.isAgg226
 z182:=Tryz.sizeOf226
 v182:=Tryz.zeroValue226
 t183:=Tryz.underlying227
 a183:=Tryz.isAgg227
 z183:=Tryz.sizeOf227
 v183:=Tryz.zeroValue227
 t218:=Tryz.underlying251
 a218:=Tryz.isAgg251
 z218:=Tryz.sizeOf251
 v218:=Tryz.zeroValue251
 t222:=Tryz.underlying255
 a222:=Tryz.isAgg255
 z222:=Tryz.sizeOf255
 v222:=Tryz.zeroValue255
 t228:=Tryz.underlying265
 a228:=Tryz.isAgg265
 z228:=Tryz.sizeOf265
 v228:=Tryz.zeroValue265
 t229:=Tryz.underlying266
 a229:=Tryz.isAgg266
 z229:=Tryz.sizeOf266
 v229:=Tryz.zeroValue266 }
end Go.Proofs
namespace Go.Vi
open Go.Shelf
theorem vL {h : List Blk} {b e : Nat} {l : List Int} (hb : h[b]? = some (.vec (fS l) e 1)) (hl : l.length < 4611686018427387904) :
  Ev Fp Γ0 88 [.ref (.vec b e)] h (.tup []) (h.set b (.vec (fS (l.mergeSort fun x y=>decide (x ≤ y))) e 1)):=sN Tryz.laysSort hb hl
end Go.Vi
open Go
namespace Go.Vi
theorem Ev.post {P : Program} {Γ : ap} {f : FuncId} {args : List D} {h h1 h2 : List Blk} {d d2 : D} (az : List Ans) {φ : List Prop} (hE : Ev P Γ f args h d h1) (hp : pre h { t:=[d],h:=h1,m:=[] } az = some ({ t:=[d2],h:=h2,m:=[] },[],φ)) (hφ : AllP φ) : Ev P Γ f args h d2 h2:=by
 intro O w l vs R ra
 refine CallsIn.mono (hE O w l vs R ra) ?_
 rintro e w' ⟨v,d',h',l',rfl,⟨rfl,rfl⟩,R',E',r'⟩
 obtain ⟨l2,R2,E2,r2, -⟩:=tW (Γ:=Γ) (X:={ O:=O,w:=w,l:=l,h:=h }) _ _ _ _ _ hp hφ { tmps:=#[v],defers:=[] } w' ⟨l',R',E',⟨r',trivial⟩,rfl⟩
 exact ⟨v,d2,h2,l2,rfl,⟨rfl,rfl⟩,R2,E2,r2.1⟩
end Go.Vi
