/- RecordFits: part of the proof: contracts of the functions that the law reaches, and the law. No conditions beyond the given statement's own. -/
import Derived.Test.YtilebidefogaiaaGreatDoorW3
open Go.IntKind renaming i64 → Dj, wrap → Dr
open Go.Proofs.Tryz renaming prog → Dg, f120 → Gi, f60 → Gn, f30 → HF
open Int renaming toNat → Dz, tmod → II, tdiv → Ga
open List renaming drop_zero → He, getElem?_eq_some_iff → Dm, map → De, length → Dh, contains → Es, drop → Gj, all → Fk, foldl → DJ, filter_cons → GH, length_cons → DZ, mem_cons → D2, foldl_cons → Ex, length_nil → Fp, mergeSort → Ey, length_append → E7, filterMap_cons → IJ, getD → DS, getElem?_eq_getElem → DF
open Go.Vi.CourseT renaming row → Dt
open Go.Vi.SysT renaming row → Dw
open Go.Vi.FactT renaming row → Ds
open Go.Vi.WorldT renaming l → DY
open Go.Vi.CW renaming cast → DN, symX → DP, each → Hg
open Go.Exit renaming normal → DE, exit → Ea, ret → EY
open Go.Vi.D renaming tup → Em, mapRL → D6, mapR → DC, one → Gx, any → EF, agg → EB
open Go.Vi.Blk renaming inn → Dy
open Go.Value renaming oneCell' → El
open Bool renaming not_true → FY, false_eq_true → D8, not_false → FG
open Go.Vi.Ev renaming castH → Dv, sym0 → DR, frameX → FD, glob0 → DW
open Go.Vi.AttT renaming row → Dk
open Go.Vi.RuleT renaming fl → Dn
open Nat renaming le_trans → E8, mul_le_mul_right → F5
open Go Go.Proofs
namespace Go.Vi
set_option maxRecDepth 100000
set_option maxHeartbeats 4000000
abbrev RL := List ReadT × List Int
abbrev eqH (w : WorldT) (rs : List ReadT) (l : List Int) : List Blk := [.var w.l, .vec (ai (rdR rs)) 0 5, .vec (nuV l) 0 1, jO l]
abbrev eiS (w : WorldT) (term known : Int) (ns : List (List Dp)) (rs : List ReadT) (l : List Int) (i : Nat) (k : Int) : AS :=
 { t := mkT 100 0 [(2, int term), (3, int known), (4, .ref (.ptr 0 0)), (8, .ref (.vec 2 0)), (9, .ref (.vec 1 0)), (10, ab ns), (11, .ref (.mp 3)), (12, int i), (45, ab ns), (46, int ns.length), (47, int k)], h := eqH w rs l, m := [] }
abbrev eoS (w : WorldT) (term known : Int) (ns : List (List Dp)) (rs : List ReadT) (l : List Int) (i : Nat) : AS :=
 { t := mkT 100 0 [(2, int term), (3, int known), (4, .ref (.ptr 0 0)), (8, .ref (.vec 2 0)), (9, .ref (.vec 1 0)), (10, ab ns), (11, .ref (.mp 3)), (12, int i)], h := eqH w rs l, m := [] }
abbrev eoE (w : WorldT) (rs : List ReadT) (l : List Int) : AS :=
 { t := mkT 100 0 [(8, .ref (.vec 2 0)), (9, .ref (.vec 1 0))], h := eqH w rs l, m := [] }
def mnI (a b : Int) : Int := if b < a then b else a
def mxI (a b : Int) : Int := if b > a then b else a
def eqHit (w : WorldT) (term known a n : Int) : Bool := (atR 2 (mnI a n) (mxI a n) term known w.f).2 && (atR 2 (mnI a n) (mxI a n) term known w.f).1 == 1
def eqN (w : WorldT) (term known a : Int) (s : RL) (n : Int) : RL :=
 bif s.2.contains n then s else (s.1 ++ [⟨2, mnI a n, mxI a n, term, Dj.wrap (term + 1)⟩], bif eqHit w term known a n then s.2 ++ [n] else s.2)
theorem lkE {h : List Blk} {l : List Int} {c : Int} (hb : h[3]? = some (jO l)) : ar Dg h 152 (.ref (.mp 3)) (int c) false = some (bool (l.contains c)) := mL (kt := 3) (et := 4) (by kernel_rfl) (by kernel_rfl) (by kernel_rfl) hb
theorem upE {h : List Blk} {l : List Int} {c : Int} (hb : h[3]? = some (jO l)) (hn : l.contains c = false) : ap Dg h 152 (.ref (.mp 3)) (int c) (bool true) = some (h.set 3 (jO (l ++ [c]))) := mM (kt := 3) (et := 4) (by kernel_rfl) (by kernel_rfl) hb (by simpa using hn)
theorem rP {h : List Blk} {l : List Int} {i e : Nat} {a : Int} (hb : h[2]? = some (.vec (nuV l) e 1)) (ha : l[i]? = some a) : bp Dg h 3 (.ref (.vp 2 e (Dz (i : Int)) 0)) = some (int a) := by
 have e1 : (nuV l)[Dz (i : Int)]? = some [int a] := by simp [ha]
 unfold bp
 simp only [hb, e1, if_true, He]
 rfl
theorem wy {l : List Int} {i : Nat} {a : Int} (ha : l[i]? = some a) : inR (i : Int) (nuV l).length = true := by
 have := (Dm.1 ha).1
 simp [inR]; omega
theorem bQ (rs : List ReadT) (a b c d e : Int) : ai (rdR rs) ++ [[int a, int b, int c, int d, int e]] = ai (rdR (rs ++ [⟨a, b, c, d, e⟩])) := by simp [ai, ReadT.row]
theorem Bu {l : List Int} {i : Nat} {a : Int} (ha : l[i]? = some a) : VpIs Dg 3 (nuV l) 0 0 (Dz (i : Int)) 0 (int a) := by
 have e1 : (nuV l)[Dz (i : Int)]? = some [int a] := by simp [ha]
 unfold VpIs
 simp only [e1, if_true, He]
 rfl
noncomputable abbrev i8 (w : WorldT) (term : Int) (rs : List ReadT) (l : List Int) (a : Int) (n : Int) : List Blk := [.var [ab (De Dt w.c), ab w.p, ab (De Dw w.s), ab (De Ds w.f)], .vec (ai (rdR rs) ++ [[int 2, int (if false = true then if n > a then n else a else if n < a then n else a), int (if true = true then if n > a then n else a else if n < a then n else a), int term, int (Dr Dj (term + 1))]]) 1 5, .vec (nuV l) 0 1, .map (aI l) (Dh l), .var [int 2, int (if false = true then if n > a then n else a else if n < a then n else a), int (if true = true then if n > a then n else a else if n < a then n else a)], .vec [[int 2, int (if false = true then if n > a then n else a else if n < a then n else a), int (if true = true then if n > a then n else a else if n < a then n else a), int term, int (Dr Dj (term + 1))]] 0 5]
theorem Bw {w : WorldT} (hwf : al w.f) {term known : Int} {ns : List (List Dp)} {rs : List ReadT} {l : List Int} {i k : Nat} {a n : Int} (ha : l[i]? = some a) (hr : aM (k : Int) ns [vi n] 1) (hlt : decide ((k : Int) < (ns.length : Int)) = true) (hwr : Dj.wrap ((k : Int) + 1) = ((k + 1 : Nat) : Int)) (hb : rs.length ≤ 999998000) (hl : l.length ≤ 70000) : (CW Dg Γ0 [] false (sub Gi 1) (eiS w term known ns rs l i k) .normal (eiS w term known ns (eqN w term known a (rs, l) n).1 (eqN w term known a (rs, l) n).2 i ((k + 1 : Nat) : Int))) := by
 cases hc0 : Es l n
 ·cases hc1 : (atR 2 (if false = true then if n > a then n else a else if n < a then n else a) (if true = true then if n > a then n else a else if n < a then n else a) term known w.f).snd && (atR 2 (if false = true then if n > a then n else a else if n < a then n else a) (if true = true then if n > a then n else a else if n < a then n else a) term known w.f).fst == 1
  ·let v0 : List D := [int 2, int (if false = true then if n > a then n else a else if n < a then n else a), int (if true = true then if n > a then n else a else if n < a then n else a), int term, int (Dr Dj (term + 1))]
   let v1 : List Blk := [.var (DY w), .vec (ai (rdR rs)) 0 5, .vec (nuV l) 0 1, .map (aI l) (Dh l)]
   refine DN (DP (s' := { t := mkT 100 0 [(2, int term), (3, int known), (4, .ref (.ptr 0 0)), (8, .ref (.vec 2 0)), (9, .ref (.vec 1 0)), (10, ab ns), (11, .ref (.mp 3)), (12, int (↑i : Int)), (45, ab ns), (46, int (↑(Dh ns) : Int)), (47, int (Dr Dj ((↑k : Int) + 1)))], h := [.var [ab (De Dt w.c), ab w.p, ab (De Dw w.s), ab (De Ds w.f)], .vec (ai (rdR rs) ++ [v0]) 0 5, .vec (nuV l) 0 1, .map (aI l) (Dh l)], m := [] }) (e := DE) pok [.st (.mask [2, 3, 4, 8, 9, 10, 11, 12, 45, 46, 47]), .st (.ren 1 0), .st (.ren 2 0), .st (.trimV 4)] [.b true, .row [vi n], .ov 53 (bool (Es l n)), .b false, .ov 57 (int a), .ov 63 (int a), .val (Em [int (atR 2 (if false = true then if n > a then n else a else if n < a then n else a) (if true = true then if n > a then n else a else if n < a then n else a) term known w.f).fst, bool (atR 2 (if false = true then if n > a then n else a else if n < a then n else a) (if true = true then if n > a then n else a else if n < a then n else a) term known w.f).snd]), .b false] (by kernel_rfl) (.c hlt (.c hr (.c (show ar Dg v1 152 (.ref (.mp 3)) (int n) false = some (bool (Es l n)) from ?_) (.c hc0 (.c (show inR (↑i : Int) (Dh (nuV l)) = true from ?_) (.c (show bp Dg v1 3 (.ref (.vp 2 0 (Dz (↑i : Int)) 0)) = some (int a) from ?_) (.c (show inR (↑i : Int) (Dh (nuV l)) = true from ?_) (.c (show bp Dg v1 3 (.ref (.vp 2 0 (Dz (↑i : Int)) 0)) = some (int a) from ?_) (.c (show inR (↑i : Int) (Dh (nuV l)) = true from ?_) (.e (.ref (.vp 2 0 (Dz (↑i : Int)) 0)) (.c (show inR (↑i : Int) (Dh (nuV l)) = true from ?_) (.e (.ref (.vp 2 0 (Dz (↑i : Int)) 0)) (.c (show (if 0 = 0 then match (nuV l)[Dz (↑i : Int)]? with | some row => cy Dg 3 (Gj 0 row) | none => none else none) = some (int a) from ?_) (.c (show (if 0 = 0 then match (nuV l)[Dz (↑i : Int)]? with | some row => cy Dg 3 (Gj 0 row) | none => none else none) = some (int a) from ?_) (.c (show inR (↑i : Int) (Dh (nuV l)) = true from ?_) (.e (.ref (.vp 2 0 (Dz (↑i : Int)) 0)) (.c (show inR (↑i : Int) (Dh (nuV l)) = true from ?_) (.e (.ref (.vp 2 0 (Dz (↑i : Int)) 0)) (.c (show (if 0 = 0 then match (nuV l)[Dz (↑i : Int)]? with | some row => cy Dg 3 (Gj 0 row) | none => none else none) = some (int a) from ?_) (.c (show (if 0 = 0 then match (nuV l)[Dz (↑i : Int)]? with | some row => cy Dg 3 (Gj 0 row) | none => none else none) = some (int a) from ?_) (.c (show (Fk [v0] (bC 5) && roomOk (Dh (ai (rdR rs)) + Dh [v0]) 40) = true from ?_) (.c (@yD 2 (if false = true then if n > a then n else a else if n < a then n else a) (if true = true then if n > a then n else a else if n < a then n else a) term known (w.f) hwf (i8 w term rs l a n)) (.c hc1 (.c (show De (D6 (au 1 1 0)) (ai (rdR rs) ++ [v0]) = ai (rdR rs) ++ [v0] from ?_) (.c (show De (D6 (au 1 1 0)) (nuV l) = nuV l from ?_) (.c (show De (fun e => (DC (au 1 1 0) e.fst, DC (au 1 1 0) e.snd.fst, e.snd.snd)) (aI l) = aI l from ?_) (.c (show [v0] = [v0] from rfl) (.c (show De (D6 (au 2 0 0)) (nuV l) = nuV l from ?_) (.c (show De (D6 (au 2 0 0)) (ai (rdR rs) ++ [v0]) = ai (rdR rs) ++ [v0] from ?_) (.c (show De (fun e => (DC (au 2 0 0) e.fst, DC (au 2 0 0) e.snd.fst, e.snd.snd)) (aI l) = aI l from ?_) (.c (show [v0] = [v0] from rfl) (.c (show Dy 4 (match 0 == 2 with | true => .vec (nuV l) 0 1 | false => keepX (au 2 0 0) (match 0 == 1 with | true => .vec (ai (rdR rs) ++ [v0]) 0 5 | false => keepX (au 1 1 0) (.var (DY w)))) = true from rfl) (.c (show Dy 4 (match 0 + 1 == 2 with | true => .vec (nuV l) 0 1 | false => keepX (au 2 0 0) (match 0 + 1 == 1 with | true => .vec (ai (rdR rs) ++ [v0]) 0 5 | false => keepX (au 1 1 0) (.vec (ai (rdR rs) ++ [v0]) 1 5))) = true from ?_) (.c (show Dy 4 (match 0 + 1 + 1 == 2 with | true => .vec (nuV l) 0 1 | false => keepX (au 2 0 0) (match 0 + 1 + 1 == 1 with | true => .vec (ai (rdR rs) ++ [v0]) 0 5 | false => keepX (au 1 1 0) (.vec (nuV l) 0 1))) = true from ?_) (.c (show Dy 4 (match 0 + 1 + 1 + 1 == 2 with | true => .vec (nuV l) 0 1 | false => keepX (au 2 0 0) (match 0 + 1 + 1 + 1 == 1 with | true => .vec (ai (rdR rs) ++ [v0]) 0 5 | false => keepX (au 1 1 0) (.map (aI l) (Dh l)))) = true from ?_) .n)))))))))))))))))))))))))))))))))))) (by subst v0 v1; first | (simp only []; first | done | rfl) | rfl | (have hh : eqHit w term known a n = true := hc1; simp only [hwr, eqN, hc0, hh, cond_true, cond_false, bQ, aJ]; first | done | rfl) | (have hh : eqHit w term known a n = false := hc1; simp only [hwr, eqN, hc0, hh, cond_false, bQ]; first | done | rfl)) (by subst v0 v1; first | (simp only [hwr, eqN, hc0]; first | done | rfl) | rfl | (have hh : eqHit w term known a n = true := hc1; simp only [hwr, eqN, hc0, hh, cond_true, cond_false, bQ, aJ]; first | done | rfl) | (have hh : eqHit w term known a n = false := hc1; simp only [hwr, eqN, hc0, hh, cond_false, bQ]; first | done | rfl)) <;> subst v0 v1 <;> (first | assumption | rfl | omega | exact lkE (l := l) rfl | exact upE (l := l) rfl (by assumption) | exact rP rfl ha | exact Bu ha | exact wy ha | exact cn _ _ | exact bN _ _ | exact bw _ _ | exact bj _ _ | (rw [aJ]; exact bw _ _) | (rw [aJ]; exact bj _ _) | exact ae _ _ | exact af | (rw [bQ]; exact ae _ _) | (simp only [bQ]; exact af) | (simp [bC, Gx, El, roomOk]; omega))
  ·let v0 : List D := [int 2, int (mnI a n), int (mxI a n), int term, int (Dr Dj (term + 1))]
   let v1 : List D := [int (atR 2 (if false = true then if n > a then n else a else if n < a then n else a) (if true = true then if n > a then n else a else if n < a then n else a) term known w.f).fst, bool (atR 2 (if false = true then if n > a then n else a else if n < a then n else a) (if true = true then if n > a then n else a else if n < a then n else a) term known w.f).snd]
   let v2 : List D := [int 2, int (if false = true then if n > a then n else a else if n < a then n else a), int (if true = true then if n > a then n else a else if n < a then n else a), int term, int (Dr Dj (term + 1))]
   let v3 : List D := [int 2, int (if false = true then if n > a then n else a else if n < a then n else a), int (if true = true then if n > a then n else a else if n < a then n else a)]
   let v4 : List Blk := [.var (DY w), .vec (ai (rdR rs)) 0 5, .vec (nuV l) 0 1, .map (aI l) (Dh l)]
   refine DN (DP (s' := { t := mkT 100 0 [(2, int term), (3, int known), (4, .ref (.ptr 0 0)), (8, .ref (.vec 2 0)), (9, .ref (.vec 1 0)), (10, ab ns), (11, .ref (.mp 3)), (12, int (↑i : Int)), (45, ab ns), (46, int (↑(Dh ns) : Int)), (47, int (Dr Dj ((↑k : Int) + 1)))], h := [.var [ab (De Dt w.c), ab w.p, ab (De Dw w.s), ab (De Ds w.f)], .vec (ai (rdR rs) ++ [v0]) 0 5, .vec (nuV l ++ [[int n]]) 0 1, .map (aI (l ++ [n])) (Dh (l ++ [n]))], m := [] }) (e := DE) pok [.st (.mask [2, 3, 4, 8, 9, 10, 11, 12, 45, 46, 47]), .st (.ren 1 0), .st (.ren 2 0), .st (.trimV 4)] [.b true, .row [vi n], .ov 53 (bool (Es l n)), .b false, .ov 57 (int a), .ov 63 (int a), .val (Em v1), .b true, .oh 10089 EF [.var (DY w), .vec (ai (rdR rs) ++ [v0]) 1 5, .vec (nuV l) 0 1, jO (l ++ [n]), .var [int 2, int (mnI a n), int (mxI a n)], .vec [v0] 0 5]] (by kernel_rfl) (.c hlt (.c hr (.c (show ar Dg v4 152 (.ref (.mp 3)) (int n) false = some (bool (Es l n)) from ?_) (.c hc0 (.c (show inR (↑i : Int) (Dh (nuV l)) = true from ?_) (.c (show bp Dg v4 3 (.ref (.vp 2 0 (Dz (↑i : Int)) 0)) = some (int a) from ?_) (.c (show inR (↑i : Int) (Dh (nuV l)) = true from ?_) (.c (show bp Dg v4 3 (.ref (.vp 2 0 (Dz (↑i : Int)) 0)) = some (int a) from ?_) (.c (show inR (↑i : Int) (Dh (nuV l)) = true from ?_) (.e (.ref (.vp 2 0 (Dz (↑i : Int)) 0)) (.c (show inR (↑i : Int) (Dh (nuV l)) = true from ?_) (.e (.ref (.vp 2 0 (Dz (↑i : Int)) 0)) (.c (show (if 0 = 0 then match (nuV l)[Dz (↑i : Int)]? with | some row => cy Dg 3 (Gj 0 row) | none => none else none) = some (int a) from ?_) (.c (show (if 0 = 0 then match (nuV l)[Dz (↑i : Int)]? with | some row => cy Dg 3 (Gj 0 row) | none => none else none) = some (int a) from ?_) (.c (show inR (↑i : Int) (Dh (nuV l)) = true from ?_) (.e (.ref (.vp 2 0 (Dz (↑i : Int)) 0)) (.c (show inR (↑i : Int) (Dh (nuV l)) = true from ?_) (.e (.ref (.vp 2 0 (Dz (↑i : Int)) 0)) (.c (show (if 0 = 0 then match (nuV l)[Dz (↑i : Int)]? with | some row => cy Dg 3 (Gj 0 row) | none => none else none) = some (int a) from ?_) (.c (show (if 0 = 0 then match (nuV l)[Dz (↑i : Int)]? with | some row => cy Dg 3 (Gj 0 row) | none => none else none) = some (int a) from ?_) (.c (show (Fk [v2] (bC 5) && roomOk (Dh (ai (rdR rs)) + Dh [v2]) 40) = true from ?_) (.c (@yD 2 (if false = true then if n > a then n else a else if n < a then n else a) (if true = true then if n > a then n else a else if n < a then n else a) term known (w.f) hwf (i8 w term rs l a n)) (.c hc1 (.c (show ap Dg (i8 w term rs l a n) 152 (.ref (.mp 3)) (int n) (evalD Γ0 (EF :: EF :: int term :: int known :: .ref (.ptr 0 0) :: EF :: EF :: EF :: .ref (.vec 2 0) :: .ref (.vec 1 1) :: ab ns :: .ref (.mp 3) :: int (↑i : Int) :: EF :: int n :: .ref (.ptr 4 0) :: int (atR 2 (if false = true then if n > a then n else a else if n < a then n else a) (if true = true then if n > a then n else a else if n < a then n else a) term known w.f).fst :: bool (atR 2 (if false = true then if n > a then n else a else if n < a then n else a) (if true = true then if n > a then n else a else if n < a then n else a) term known w.f).snd :: EF :: EF :: EF :: EF :: EF :: EF :: EF :: EF :: EF :: EF :: EF :: EF :: EF :: EF :: EF :: EF :: EF :: EF :: EF :: EF :: EF :: EF :: EF :: EF :: EF :: EF :: EF :: ab ns :: int (↑(Dh ns) : Int) :: int (↑k : Int) :: bool (decide ((↑k : Int) < (↑(Dh ns) : Int))) :: D.ep [vi n] :: int n :: .ref (.mp 3) :: int n :: bool (Es l n) :: .ref (.vec 2 0) :: int (↑i : Int) :: .ref (.vp 2 0 (Dz (↑i : Int)) 0) :: int a :: int n :: int (if false = true then if n > a then n else a else if n < a then n else a) :: .ref (.vec 2 0) :: int (↑i : Int) :: .ref (.vp 2 0 (Dz (↑i : Int)) 0) :: int a :: int n :: int (if true = true then if n > a then n else a else if n < a then n else a) :: EB v3 :: .ref (.vec 1 0) :: EB v3 :: int term :: int term :: int (Dr Dj (term + 1)) :: EB v2 :: .ref (.vec 5 0) :: .ref (.vec 1 1) :: Em v1 :: .ref (.ptr 0 3) :: ab (De Ds w.f) :: EB v3 :: int term :: int known :: Em v1 :: mkT 18 0 [(0, int (atR 2 (if false = true then if n > a then n else a else if n < a then n else a) (if true = true then if n > a then n else a else if n < a then n else a) term known w.f).fst), (1, bool (atR 2 (if false = true then if n > a then n else a else if n < a then n else a) (if true = true then if n > a then n else a else if n < a then n else a) term known w.f).snd), (2, bool (atR 2 (if false = true then if n > a then n else a else if n < a then n else a) (if true = true then if n > a then n else a else if n < a then n else a) term known w.f).snd), (3, bool (atR 2 (if false = true then if n > a then n else a else if n < a then n else a) (if true = true then if n > a then n else a else if n < a then n else a) term known w.f).snd), (4, D.grd (atR 2 (if false = true then if n > a then n else a else if n < a then n else a) (if true = true then if n > a then n else a else if n < a then n else a) term known w.f).snd (int (atR 2 (if false = true then if n > a then n else a else if n < a then n else a) (if true = true then if n > a then n else a else if n < a then n else a) term known w.f).fst)), (5, D.grd (atR 2 (if false = true then if n > a then n else a else if n < a then n else a) (if true = true then if n > a then n else a else if n < a then n else a) term known w.f).snd (bool ((atR 2 (if false = true then if n > a then n else a else if n < a then n else a) (if true = true then if n > a then n else a else if n < a then n else a) term known w.f).fst == 1))), (6, bool ((atR 2 (if false = true then if n > a then n else a else if n < a then n else a) (if true = true then if n > a then n else a else if n < a then n else a) term known w.f).snd && (atR 2 (if false = true then if n > a then n else a else if n < a then n else a) (if true = true then if n > a then n else a else if n < a then n else a) term known w.f).fst == 1)), (7, .ref (.mp 3)), (8, int n)]) (Operand.const (Value.bool true))) = some [.var (DY w), .vec (ai (rdR rs) ++ [v0]) 1 5, .vec (nuV l) 0 1, .map (aI (l ++ [n])) (Dh (l ++ [n])), .var [int 2, int (mnI a n), int (mxI a n)], .vec [v0] 0 5] from ?_) (.c (show (Fk [[int n]] (bC 1) && roomOk (Dh (nuV l) + Dh [[int n]]) 8) = true from ?_) (.c (show De (D6 (au 1 1 0)) (ai (rdR rs) ++ [v0]) = ai (rdR rs) ++ [v0] from ?_) (.c (show De (D6 (au 1 1 0)) (nuV l ++ [[int n]]) = nuV l ++ [[int n]] from ?_) (.c (show De (fun e => (DC (au 1 1 0) e.fst, DC (au 1 1 0) e.snd.fst, e.snd.snd)) (aI (l ++ [n])) = aI (l ++ [n]) from ?_) (.c (show [v0] = [v0] from rfl) (.c (show [[int n]] = [[int n]] from rfl) (.c (show De (D6 (au 2 1 0)) (nuV l ++ [[int n]]) = nuV l ++ [[int n]] from ?_) (.c (show De (D6 (au 2 1 0)) (ai (rdR rs) ++ [v0]) = ai (rdR rs) ++ [v0] from ?_) (.c (show De (fun e => (DC (au 2 1 0) e.fst, DC (au 2 1 0) e.snd.fst, e.snd.snd)) (aI (l ++ [n])) = aI (l ++ [n]) from ?_) (.c (show [v0] = [v0] from rfl) (.c (show [[int n]] = [[int n]] from rfl) (.c (show Dy 4 (match 0 == 2 with | true => .vec (nuV l ++ [[int n]]) 0 1 | false => keepX (au 2 1 0) (match 0 == 1 with | true => .vec (ai (rdR rs) ++ [v0]) 0 5 | false => keepX (au 1 1 0) (.var (DY w)))) = true from rfl) (.c (show Dy 4 (match 0 + 1 == 2 with | true => .vec (nuV l ++ [[int n]]) 0 1 | false => keepX (au 2 1 0) (match 0 + 1 == 1 with | true => .vec (ai (rdR rs) ++ [v0]) 0 5 | false => keepX (au 1 1 0) (.vec (ai (rdR rs) ++ [v0]) 1 5))) = true from ?_) (.c (show Dy 4 (match 0 + 1 + 1 == 2 with | true => .vec (nuV l ++ [[int n]]) 0 1 | false => keepX (au 2 1 0) (match 0 + 1 + 1 == 1 with | true => .vec (ai (rdR rs) ++ [v0]) 0 5 | false => keepX (au 1 1 0) (.vec (nuV l ++ [[int n]]) 1 1))) = true from ?_) (.c (show Dy 4 (match 0 + 1 + 1 + 1 == 2 with | true => .vec (nuV l ++ [[int n]]) 0 1 | false => keepX (au 2 1 0) (match 0 + 1 + 1 + 1 == 1 with | true => .vec (ai (rdR rs) ++ [v0]) 0 5 | false => keepX (au 1 1 0) (.map (aI (l ++ [n])) (Dh (l ++ [n]))))) = true from ?_) .n)))))))))))))))))))))))))))))))))))))))) (by subst v0 v1 v2 v3 v4; first | (simp only []; first | done | rfl) | rfl | (have hh : eqHit w term known a n = true := hc1; simp only [hwr, eqN, hc0, hh, cond_true, cond_false, bQ, aJ]; first | done | rfl) | (have hh : eqHit w term known a n = false := hc1; simp only [hwr, eqN, hc0, hh, cond_false, bQ]; first | done | rfl)) (by subst v0 v1 v2 v3 v4; first | (simp only [hwr, eqN, hc0]; first | done | rfl) | rfl | (have hh : eqHit w term known a n = true := hc1; simp only [hwr, eqN, hc0, hh, cond_true, cond_false, bQ, aJ]; first | done | rfl) | (have hh : eqHit w term known a n = false := hc1; simp only [hwr, eqN, hc0, hh, cond_false, bQ]; first | done | rfl)) <;> subst v0 v1 v2 v3 v4 <;> (first | assumption | rfl | omega | exact lkE (l := l) rfl | exact upE (l := l) rfl (by assumption) | exact rP rfl ha | exact Bu ha | exact wy ha | exact cn _ _ | exact bN _ _ | exact bw _ _ | exact bj _ _ | (rw [aJ]; exact bw _ _) | (rw [aJ]; exact bj _ _) | exact ae _ _ | exact af | (rw [bQ]; exact ae _ _) | (simp only [bQ]; exact af) | (simp [bC, Gx, El, roomOk]; omega))
 ·refine DN (DP (s' := { t := mkT 100 0 [(2, int term), (3, int known), (4, .ref (.ptr 0 0)), (8, .ref (.vec 2 0)), (9, .ref (.vec 1 0)), (10, ab ns), (11, .ref (.mp 3)), (12, int (↑i : Int)), (45, ab ns), (46, int (↑(Dh ns) : Int)), (47, int (Dr Dj ((↑k : Int) + 1)))], h := [.var [ab (De Dt w.c), ab w.p, ab (De Dw w.s), ab (De Ds w.f)], .vec (ai (rdR rs)) 0 5, .vec (nuV l) 0 1, .map (aI l) (Dh l)], m := [] }) (e := DE) pok [.st (.mask [2, 3, 4, 8, 9, 10, 11, 12, 45, 46, 47]), .st (.ren 1 0), .st (.ren 2 0), .st (.trimV 4)] [.b true, .row [vi n], .ov 53 (bool (Es l n)), .b true] (by kernel_rfl) (.c hlt (.c hr (.c (show ar Dg [.var (DY w), .vec (ai (rdR rs)) 0 5, .vec (nuV l) 0 1, .map (aI l) (Dh l)] 152 (.ref (.mp 3)) (int n) false = some (bool (Es l n)) from ?_) (.c hc0 (.c (show De (D6 (au 1 0 0)) (ai (rdR rs)) = ai (rdR rs) from ?_) (.c (show De (D6 (au 1 0 0)) (nuV l) = nuV l from ?_) (.c (show De (fun e => (DC (au 1 0 0) e.fst, DC (au 1 0 0) e.snd.fst, e.snd.snd)) (aI l) = aI l from ?_) (.c (show De (D6 (au 2 0 0)) (nuV l) = nuV l from ?_) (.c (show De (D6 (au 2 0 0)) (ai (rdR rs)) = ai (rdR rs) from ?_) (.c (show De (fun e => (DC (au 2 0 0) e.fst, DC (au 2 0 0) e.snd.fst, e.snd.snd)) (aI l) = aI l from ?_) (.c (show Dy 4 (match 0 == 2 with | true => .vec (nuV l) 0 1 | false => keepX (au 2 0 0) (match 0 == 1 with | true => .vec (ai (rdR rs)) 0 5 | false => keepX (au 1 0 0) (.var (DY w)))) = true from rfl) (.c (show Dy 4 (match 0 + 1 == 2 with | true => .vec (nuV l) 0 1 | false => keepX (au 2 0 0) (match 0 + 1 == 1 with | true => .vec (ai (rdR rs)) 0 5 | false => keepX (au 1 0 0) (.vec (ai (rdR rs)) 0 5))) = true from ?_) (.c (show Dy 4 (match 0 + 1 + 1 == 2 with | true => .vec (nuV l) 0 1 | false => keepX (au 2 0 0) (match 0 + 1 + 1 == 1 with | true => .vec (ai (rdR rs)) 0 5 | false => keepX (au 1 0 0) (.vec (nuV l) 0 1))) = true from ?_) (.c (show Dy 4 (match 0 + 1 + 1 + 1 == 2 with | true => .vec (nuV l) 0 1 | false => keepX (au 2 0 0) (match 0 + 1 + 1 + 1 == 1 with | true => .vec (ai (rdR rs)) 0 5 | false => keepX (au 1 0 0) (.map (aI l) (Dh l)))) = true from ?_) .n))))))))))))))) (by first | (simp only []; first | done | rfl) | rfl | (have hh : eqHit w term known a n = true := hc1; simp only [hwr, eqN, hc0, hh, cond_true, cond_false, bQ, aJ]; first | done | rfl) | (have hh : eqHit w term known a n = false := hc1; simp only [hwr, eqN, hc0, hh, cond_false, bQ]; first | done | rfl)) (by first | (simp only [hwr, eqN, hc0, cond_true]; first | done | rfl) | rfl | (have hh : eqHit w term known a n = true := hc1; simp only [hwr, eqN, hc0, hh, cond_true, cond_false, bQ, aJ]; first | done | rfl) | (have hh : eqHit w term known a n = false := hc1; simp only [hwr, eqN, hc0, hh, cond_false, bQ]; first | done | rfl)) <;> (first | assumption | rfl | omega | exact lkE (l := l) rfl | exact upE (l := l) rfl (by assumption) | exact rP rfl ha | exact Bu ha | exact wy ha | exact cn _ _ | exact bN _ _ | exact bw _ _ | exact bj _ _ | (rw [aJ]; exact bw _ _) | (rw [aJ]; exact bj _ _) | exact ae _ _ | exact af | (rw [bQ]; exact ae _ _) | (simp only [bQ]; exact af) | (simp [bC, Gx, El, roomOk]; omega))
theorem Bx {w : WorldT} {term known : Int} {ns : List (List Dp)} {rs : List ReadT} {l : List Int} {i k : Nat} (hlt : decide ((k : Int) < (ns.length : Int)) = false) : (CW Dg Γ0 [] false (sub Gi 1) (eiS w term known ns rs l i k) (.exit 2) (eoS w term known ns rs l i)) := by
 exact DN (DP (s' := { t := mkT 100 0 [(2, int term), (3, int known), (4, .ref (.ptr 0 0)), (8, .ref (.vec 2 0)), (9, .ref (.vec 1 0)), (10, ab ns), (11, .ref (.mp 3)), (12, int (↑i : Int))], h := [.var [ab (De Dt w.c), ab w.p, ab (De Dw w.s), ab (De Ds w.f)], .vec (ai (rdR rs)) 0 5, .vec (nuV l) 0 1, .map (aI l) (Dh l)], m := [] }) (e := Ea 2) pok [.st (.mask [2, 3, 4, 8, 9, 10, 11, 12])] [.b false] (by kernel_rfl) (.c hlt .n)) (by rfl) (by rfl)
theorem wz {w : WorldT} {term known a : Int} (s : RL) (n : Int) : (eqN w term known a s n).1.length ≤ s.1.length + 1 ∧ s.2.length ≤ (eqN w term known a s n).2.length ∧ (eqN w term known a s n).2.length ≤ s.2.length + 1 := by
 unfold eqN
 cases s.2.contains n <;> simp
 cases eqHit w term known a n <;> simp
theorem Bz {w : WorldT} {term known a b : Int} {s : RL} {n : Int} {i : Nat} (h : s.2[i]? = some b) : (eqN w term known a s n).2[i]? = some b := by
 have hi := (Dm.1 h).1
 unfold eqN
 cases s.2.contains n <;> simp [h]
 cases eqHit w term known a n <;> simp [h, List.getElem?_append_left hi]
theorem ei_cw {w : WorldT} (hwf : al w.f) {term known : Int} {ns : List Int} (hn : ns.length ≤ 1000) {rs : List ReadT} {l : List Int} {i : Nat} {a : Int} (ha : l[i]? = some a) (hb : rs.length ≤ 999990000) (hl : l.length ≤ 60000) :
  CW Dg Γ0 [] false (.loop (sub Gi 1)) (eiS w term known (ns.map fun n => [vi n]) rs l i 0) (.exit 2) (eoS w term known (ns.map fun n => [vi n]) (ns.foldl (eqN w term known a) (rs, l)).1 (ns.foldl (eqN w term known a) (rs, l)).2 i) := by
 have hs : al ns := by unfold al; omega
 have := Hg (P := Dg) (Γ := Γ0) (h0 := []) (rd := false) (c := sub Gi 1) (σ := RL) (ρ := Empty) ns (fun n s => .inl (eqN w term known a s n))
  (fun k s => eiS w term known (ns.map fun n => [vi n]) s.1 s.2 i (k : Int)) (.exit 2) (fun s => eoS w term known (ns.map fun n => [vi n]) s.1 s.2 i) (fun r => r.elim)
  (fun k s => s.2[i]? = some a ∧ s.1.length ≤ rs.length + k ∧ s.2.length ≤ l.length + k) (by simp) (fun r => r.elim) ?_ ?_ (rs, l) ⟨ha, by simp, by simp⟩
 ·rw [bh] at this
  exact this
 ·intro k n s hnk hs'
  have hi := (Dm.1 hnk).1
  refine ⟨fun s' h => by cases h; have := wz (w := w) (term := term) (known := known) (a := a) s n; exact ⟨Bz hs'.1, by omega, by omega⟩, Bw hwf hs'.1 (rowAt (row := fun n => [vi n]) hnk rfl) (lt_len (fun n => [vi n]) hi) (wrap_succ hi hs) (by omega) (by omega)⟩
 ·intro s _
  exact Bx (cw (fun n => [vi n]) ns)
def qm (w : WorldT) (term known : Int) (ns : List Int) (a : Int) (s : RL) : RL := ns.foldl (eqN w term known a) s
theorem BA {w : WorldT} (hwf : al w.f) {term known : Int} {ns : List Int} (hn : ns.length ≤ 1000) {rs : List ReadT} {l : List Int} {i : Nat} {a : Int} (ha : l[i]? = some a) (hwr : Dj.wrap ((i : Int) + 1) = ((i + 1 : Nat) : Int)) (hlt : decide ((i : Int) < ((nuV l).length : Int)) = true) (hb : rs.length ≤ 999990000) (hl : l.length ≤ 60000) : (CW Dg Γ0 [] false (sub Gi 0) (eoS w term known (ns.map fun n => [vi n]) rs l i) .normal (eoS w term known (ns.map fun n => [vi n]) (qm w term known ns a (rs, l)).1 (qm w term known ns a (rs, l)).2 (i + 1))) := by
 have hl0 := (@ei_cw (w) (hwf) (term) (known) (ns) (hn) (rs) (l) (i) (a) (ha) (hb) (hl))
 let v0 := DJ (eqN w term known a) (rs, l) ns
 refine DN (DP (s' := { t := mkT 100 0 [(2, int term), (3, int known), (4, .ref (.ptr 0 0)), (8, .ref (.vec 2 0)), (9, .ref (.vec 1 0)), (10, ab (De (fun n => [vi n]) ns)), (11, .ref (.mp 3)), (12, int (Dr Dj ((↑i : Int) + 1)))], h := [.var [ab (De Dt w.c), ab w.p, ab (De Dw w.s), ab (De Ds w.f)], .vec (ai (rdR v0.fst)) 0 5, .vec (nuV v0.snd) 0 1, .map (aI v0.snd) (Dh v0.snd)], m := [] }) (e := DE) pok [.st (.mask [2, 3, 4, 8, 9, 10, 11, 12])] [.b true, .sum [2, 3, 4, 8, 9, 10, 11, 12, 45, 46, 47] (Ea 2) { t := mkT 100 0 [(2, int term), (3, int known), (4, .ref (.ptr 0 0)), (8, .ref (.vec 2 0)), (9, .ref (.vec 1 0)), (10, ab (De (fun n => [vi n]) ns)), (11, .ref (.mp 3)), (12, int (↑i : Int))], h := [.var (DY w), .vec (ai (rdR v0.fst)) 0 5, .vec (nuV v0.snd) 0 1, .map (aI v0.snd) (Dh v0.snd)], m := [] }] (by kernel_rfl) (.c hlt (.c hl0 .n))) ?_ ?_ <;> subst v0 <;> (first | rfl | (simp only [hwr]; rfl))
theorem BB {w : WorldT} {term known : Int} {ns : List (List Dp)} {rs : List ReadT} {l : List Int} {i : Nat} (hlt : decide ((i : Int) < ((nuV l).length : Int)) = false) : (CW Dg Γ0 [] false (sub Gi 0) (eoS w term known ns rs l i) (.exit 0) (eoE w rs l)) := by
 exact DN (DP (s' := { t := mkT 100 0 [(8, .ref (.vec 2 0)), (9, .ref (.vec 1 0))], h := [.var [ab (De Dt w.c), ab w.p, ab (De Dw w.s), ab (De Ds w.f)], .vec (ai (rdR rs)) 0 5, .vec (nuV l) 0 1, .map (aI l) (Dh l)], m := [] }) (e := Ea 0) pok [.st (.mask [8, 9])] [.b false] (by kernel_rfl) (.c hlt .n)) (by rfl) (by rfl)
end Go.Vi
open Go Go.Proofs
namespace Go.Vi
set_option maxRecDepth 100000
set_option maxHeartbeats 4000000
def fb (ns l : List Int) : Nat := (ns.filter fun x => !l.contains x).length
theorem tg (l : List Int) (n : Int) : ∀ ns : List Int, fb ns (l ++ [n]) ≤ fb ns l
 | [] => by simp [fb]
 | a :: ns => by
  have ih := tg l n ns
  unfold fb at *
  by_cases h : l.contains a = true
  ·have h2 : (l ++ [n]).contains a = true := by simp at h ⊢; exact .inl h
   simp only [GH, h, h2, FY, D8, if_false]; exact ih
  ·have h1 : l.contains a = false := by simpa using h
   simp only [GH, h1, FG, if_true, DZ]
   split
   ·simp only [DZ]; omega
   ·omega
theorem th {l : List Int} {n : Int} (hn : l.contains n = false) : ∀ {ns : List Int}, n ∈ ns → fb ns (l ++ [n]) + 1 ≤ fb ns l
 | a :: ns, h => by
  by_cases ha : a = n
  ·subst ha
   have ih := tg l a ns
   have h2 : (l ++ [a]).contains a = true := by simp
   unfold fb at *
   simp only [GH, h2, hn, FY, FG, D8, if_false, if_true, DZ]
   omega
  ·have h' : n ∈ ns := (D2.1 h).resolve_left fun e => ha e.symm
   have ih := th hn h'
   have h2 : (l ++ [n]).contains a = l.contains a := by
    rw [Bool.eq_iff_iff]; simp [ha]
   unfold fb at *
   simp only [GH, h2]
   split
   ·simp only [DZ]; omega
   ·exact ih
theorem wA {w : WorldT} {term known a n : Int} {ns : List Int} (hn : n ∈ ns) (s : RL) : fb ns (eqN w term known a s n).2 + (eqN w term known a s n).2.length ≤ fb ns s.2 + s.2.length := by
 unfold eqN
 cases hc : s.2.contains n
 ·cases eqHit w term known a n
  ·simp
  ·have := th hc hn
   simp; omega
 ·simp
theorem fD {w : WorldT} {term known a : Int} {ns : List Int} : ∀ (ms : List Int), (∀ n ∈ ms, n ∈ ns) → ∀ s : RL, fb ns (ms.foldl (eqN w term known a) s).2 + (ms.foldl (eqN w term known a) s).2.length ≤ fb ns s.2 + s.2.length ∧ (ms.foldl (eqN w term known a) s).1.length ≤ s.1.length + ms.length
 | [], _, s => by simp
 | n :: ms, h, s => by
  have h1 := wA (w := w) (term := term) (known := known) (a := a) (h n (by simp)) s
  have h2 := fD (w := w) (term := term) (known := known) (a := a) ms (fun x hx => h x (List.mem_cons_of_mem _ hx)) (eqN w term known a s n)
  have h3 := wz (w := w) (term := term) (known := known) (a := a) s n
  simp only [Ex, DZ]
  omega
def eqOut (w : WorldT) (term known : Int) (ns : List Int) : Nat → Nat → RL → RL
 | 0, _, s => s
 | f + 1, i, s => match s.2[i]? with
  | some a => eqOut w term known ns f (i + 1) (qm w term known ns a s)
  | none => s
theorem mP {w : WorldT} {term known : Int} {ns : List Int} {f i : Nat} {s : RL} (h : s.2[i]? = none) : eqOut w term known ns f i s = s := by
 cases f <;> simp [eqOut, h]
theorem eo_g {w : WorldT} (hwf : al w.f) {term known : Int} {ns : List Int} (hn : ns.length ≤ 1000) {rs : List ReadT} {l : List Int} (hb : rs.length ≤ 900000000) (hl : fb ns l + l.length ≤ ns.length + 1) :
  CW Dg Γ0 [] false (.loop (sub Gi 0)) (eoS w term known (ns.map fun n => [vi n]) rs l 0) (.exit 0) (eoE w (eqOut w term known ns (ns.length + 1) 0 (rs, l)).1 (eqOut w term known ns (ns.length + 1) 0 (rs, l)).2) := by
 refine CW.loop (ι := { p : Nat × Nat × RL // p.2.1 + p.1 = ns.length + 1 ∧ fb ns p.2.2.2 + p.2.2.2.length ≤ ns.length + 1 ∧ p.2.2.1.length ≤ rs.length + p.2.1 * 1000 ∧ eqOut w term known ns p.1 p.2.1 p.2.2 = eqOut w term known ns (ns.length + 1) 0 (rs, l) })
  (fun p => eoS w term known (ns.map fun n => [vi n]) p.1.2.2.1 p.1.2.2.2 p.1.2.1) (fun _ => (.exit 0, eoE w (eqOut w term known ns (ns.length + 1) 0 (rs, l)).1 (eqOut w term known ns (ns.length + 1) 0 (rs, l)).2)) (fun p => p.1.1) ?_ ⟨(ns.length + 1, 0, (rs, l)), by simp, hl, by simp, rfl⟩
 rintro ⟨⟨f, i, s⟩, h1, h2, h3, h4⟩
 simp only at h1 h2 h3 h4 ⊢
 cases ha : s.2[i]? with
 | none =>
  refine .inr ⟨by simp, ?_⟩
  rw [mP ha] at h4
  rw [← h4]
  refine BB ?_
  rw [kU]
  have := List.getElem?_eq_none_iff.1 ha
  exact decide_eq_false (by omega)
 | some a =>
  have hi := (Dm.1 ha).1
  obtain ⟨g, rfl⟩ : ∃ g, f = g + 1 := ⟨f - 1, by omega⟩
  have hf := fD (w := w) (term := term) (known := known) (a := a) (ns := ns) ns (fun _ h => h) s
  refine .inl ⟨⟨(g, i + 1, qm w term known ns a s), by simp only; omega, by simp only [qm]; omega, by simp only [qm]; omega, ?_⟩, by simp only; omega, trivial, ?_⟩
  ·simp only [eqOut, ha] at h4
   exact h4
  ·refine BA hwf hn ha ?_ ?_ ?_ ?_
   ·rw [wrap_i64 (by omega) (by omega)]; omega
   ·rw [kU]; exact decide_eq_true (by omega)
   ·omega
   ·omega
def fQ (w : WorldT) (c term known : Int) : RL := eqOut w term known (ah w.f known) ((ah w.f known).length + 1) 0 ([rdN], [c])
def xO (w : WorldT) (c term known : Int) : List Int := (fQ w c term known).2.mergeSort fun x y => decide (x ≤ y)
theorem yP {x0 x1 x3 : Blk} {l : List Int} (hl : l.length < 4611686018427387904) : Ev Dg Γ0 88 [.ref (.vec 2 0)] [x0, x1, .vec (nuV l) 0 1, x3] (.tup []) [x0, x1, .vec (nuV (l.mergeSort fun x y => decide (x ≤ y))) 0 1, x3] :=
 mK (h := [x0, x1, .vec (nuV l) 0 1, x3]) (b := 2) rfl hl
theorem z7 (l : List ReadT) : ai (rdR l) = (rdR l).map (De D.p) := rfl
theorem kZ (ns : List Int) (c : Int) : fb ns [c] + [c].length ≤ ns.length + 1 := by
 have := List.length_filter_le (fun x => !([c] : List Int).contains x) ns
 unfold fb; simp only [DZ, Fp]; omega
theorem eo1_cw {w : WorldT} (hw : w.ok) {c term known : Int} (hn : (ah w.f known).length ≤ 1000) :
  CW Dg Γ0 [] false (.loop (sub Gi 0)) { t := mkT 100 0 [(2, int term), (3, int known), (4, .ref (.ptr 0 0)), (8, .ref (.vec 2 0)), (9, .ref (.vec 1 0)), (10, ab ((ah w.f known).map fun n => [vi n])), (11, .ref (.mp 3)), (12, int 0)], h := [.var w.l, .vec [[int 12, int 0, int 0, int 0, int 1]] 0 5, .vec [[int c]] 0 1, .map [(int c, bool true, 0)] 1], m := [] }
   (.exit 0) (eoE w (fQ w c term known).1 (fQ w c term known).2) :=
 eo_g hw.sf hn (rs := [rdN]) (l := [c]) (by simp) (kZ _ _)
noncomputable abbrev uw (w : WorldT) (c : Int) (term : Int) (known : Int) : List Blk := [.var [ab (De Dt w.c), ab w.p, ab (De Dw w.s), ab (De Ds w.f)], .vec (ai (rdR (fQ w c term known).fst)) 0 5, .vec (nuV (fQ w c term known).snd) 0 1, .map (aI (fQ w c term known).snd) (Dh (fQ w c term known).snd)]
noncomputable abbrev i9 (w : WorldT) : List Blk := [.var [ab (De Dt w.c), ab w.p, ab (De Dw w.s), ab (De Ds w.f)]]
theorem BC {w : WorldT} (hw : w.ok) {c term known : Int} (hc : (!(decide (c ≥ 0) && decide (c ≤ 4095)) || !(decide (term ≥ 0) && decide (term ≤ 1023))) = false) (hn : (ah w.f known).length ≤ 1000) (hl : (fQ w c term known).2.length < 4611686018427387904) (hnum : ∀ h, Ev Dg Γ0 34 [.agg w.l, int known] h (.tup [ab ((ah w.f known).map fun n => [vi n]), .ref (.vec h.length 0)]) (h ++ [.vec [[int 12, int 0, int 0, int 0, int 1]] 0 5])) (h : List Blk) : (Ev Dg Γ0 120 [.agg w.l, int c, int term, int known] h (.tup [ab ((xO w c term known).map fun n => [vi n]), ab (rdR (fQ w c term known).1)]) h) := by
 have hl0 := (@eo1_cw (w) (hw) (c) (term) (known) (hn))
 refine Dv (DR (d := Em [ab (De (fun n => [vi n]) (xO w c term known)), ab (rdR (fQ w c term known).fst)]) pok [.val (bool (decide (c ≥ 0) && decide (c ≤ 4095))), .val (bool (decide (term ≥ 0) && decide (term ≤ 1023))), .b false, .call (Em [ab (De (fun n => [vi n]) (ah w.f known)), .ref (.vec 1 0)]) [.var (DY w), .vec [[int 12, int 0, int 0, int 0, int 1]] 0 5], .sum [2, 3, 4, 8, 9, 10, 11, 12] (Ea 0) { t := mkT 100 0 [(8, .ref (.vec 2 0)), (9, .ref (.vec 1 0))], h := (uw w c term known), m := [] }, .call (Em []) [.var (DY w), .vec (ai (rdR (fQ w c term known).fst)) 0 5, .vec (nuV (Ey (fQ w c term known).snd fun x y => decide (x ≤ y))) 0 1, .map (aI (fQ w c term known).snd) (Dh (fQ w c term known).snd)], .st (.frz 2 (De (fun n => [vi n]) (xO w c term known))), .st (.frz 1 (rdR (fQ w c term known).fst))] (by kernel_rfl) (.c (@eA c 0 4095 (i9 w)) (.c (gd (!!(decide (c ≥ 0) && decide (c ≤ 4095))) (@eA term 0 1023 (i9 w))) (.c hc (.c (@hnum (i9 w)) (.c hl0 (.c (@yP (.var (DY w)) (.vec (ai (rdR (fQ w c term known).fst)) 0 5) (.map (aI (fQ w c term known).snd) (Dh (fQ w c term known).snd)) ((fQ w c term known).snd) hl) (.c (show nuV (Ey (fQ w c term known).snd fun x y => decide (x ≤ y)) = De (fun x => De D.p x) (De (fun n => [vi n]) (xO w c term known)) from ?_) (.c (show De (D6 (dh 2 0 (De (fun n => [vi n]) (xO w c term known)))) (ai (rdR (fQ w c term known).fst)) = ai (rdR (fQ w c term known).fst) from ?_) (.c (show De (fun e => (DC (dh 2 0 (De (fun n => [vi n]) (xO w c term known))) e.fst, DC (dh 2 0 (De (fun n => [vi n]) (xO w c term known))) e.snd.fst, e.snd.snd)) (aI (fQ w c term known).snd) = aI (fQ w c term known).snd from ?_) (.c (show ai (rdR (fQ w c term known).fst) = De (fun x => De D.p x) (rdR (fQ w c term known).fst) from ?_) (.c (show De (fun e => (DC (dh 1 0 (rdR (fQ w c term known).fst)) e.fst, DC (dh 1 0 (rdR (fQ w c term known).fst)) e.snd.fst, e.snd.snd)) (aI (fQ w c term known).snd) = aI (fQ w c term known).snd from ?_) .n))))))))))) rfl rfl h) (by first | rfl | (simp only [xO]; rfl)) (by rfl) <;> (first | assumption | rfl | omega | exact hw.lf | exact hw.sf | exact kZ _ _ | exact hl | exact zU _ | exact z7 _ | exact ae _ _ | exact bN _ _ | exact bj _ _ | exact af | exact bL _ _ | (simp; done))
end Go.Vi
open Go Go.Proofs
namespace Go.Vi
set_option maxRecDepth 100000
set_option maxHeartbeats 4000000
theorem rQ {h : List Blk} {b e : Nat} {l : List AttT} (hb : h[b]? = some (.vec (ai (l.map Dk)) e 5)) (hl : l.length < 4611686018427387904) (hT : ∀ x ∈ l, ∀ y ∈ l, x.term = y.term → x.course = y.course → x = y) :
  Ev Dg Γ0 117 [.ref (.vec b e), .p (.v (.func (.func 79) #[] #[]))] h (.tup []) (h.set b (.vec (ai ((l.mergeSort leA).map Dk)) e 5)) := by
 have e1 : ∀ l : List AttT, ai (l.map Dk) = Bs l := fun l => by simp [ai]
 rw [e1] at hb ⊢
 exact uv hb hl hT
abbrev ofH (w : WorldT) (known st : Int) (rs : List ReadT) (ats : List AttT) : List Blk := [.var [.ref (.vec 1 1), ab (w.c.map Dt), ab w.p, ab (w.s.map Dw), ab (w.f.map Ds), int known], .vec (ai (rdR rs)) 1 5, .var [int st, .ref (.vec 3 0)], .vec (ai (ats.map Dk)) 0 5]
abbrev oiS (w : WorldT) (known st term : Int) (ns : List (List Dp)) (ni n : Int) (ps : List (List Dp)) (rs : List ReadT) (ats : List AttT) (j : Int) : AS :=
 { t := mkT 67 0 [(0, .ref (.ptr 0 0)), (1, int st), (2, int term), (6, .ref (.ptr 2 0)), (8, int n), (16, ab ns), (17, int ns.length), (18, int ni), (26, ab ps), (27, int ps.length), (28, int j)], h := ofH w known st rs ats, m := [] }
abbrev RA := List ReadT × List AttT
def attBad (p : PtT) : Bool := decide (II p.value 16 > 12) || decide (Dj.wrap (Ga p.value 16) ≥ 7)
def wB (w : WorldT) (known n : Int) (p : PtT) : AttT := ⟨n, p.term, II p.value 16, Dj.wrap (Ga p.value 16), (ac w n p.term known).1.credits⟩
def lb (w : WorldT) (known n : Int) (s : RA) (p : PtT) : RA := bif attBad p then s else (s.1 ++ rdT 1 n 0 p.term, s.2 ++ [wB w known n p])
theorem bi (l : List AttT) (a b c d e : Int) : ai (l.map Dk) ++ [[int a, int b, int c, int d, int e]] = ai ((l ++ [AttT.mk a b c d e]).map Dk) := by simp [Dk]
theorem BD {w : WorldT} (hw : w.ok) {known st term : Int} {ns : List (List Dp)} {ni n : Int} {ps : List (List Dp)} {rs0 rs : List ReadT} {ats : List AttT} {j : Nat} {p : PtT} (hr : aM (j : Int) ps p.row 2) (hlt : decide ((j : Int) < (ps.length : Int)) = true) (hwr : Dj.wrap ((j : Int) + 1) = ((j + 1 : Nat) : Int)) (hb : rs.length ≤ 999998000) (ha : ats.length ≤ 999998000) : (CW Dg Γk (lkH w known rs0 0) false (sub Gn 1) (oiS w known st term ns ni n ps rs ats j) .normal (oiS w known st term ns ni n ps (lb w known n (rs, ats) p).1 (lb w known n (rs, ats) p).2 ((j + 1 : Nat) : Int))) := by
 cases hc0 : decide (II p.value 16 > 12) || decide (Dr Dj (Ga p.value 16) ≥ 7)
 ·let v0 : List D := [int n, int p.term, int (II p.value 16), int (Dr Dj (Ga p.value 16)), int (ac w n p.term known).fst.credits]
  let v1 := EB [aA (ac w n p.term known).fst.name, int (ac w n p.term known).fst.number, int (ac w n p.term known).fst.credits, int (ac w n p.term known).fst.rep, int (Dn (ac w n p.term known).fst.need).op, int (Dn (ac w n p.term known).fst.need).c, aA (Dn (ac w n p.term known).fst.need).nm, int (Dn (ac w n p.term known).fst.need).n, int (Dn (ac w n p.term known).fst.need).d, ab (Dn (ac w n p.term known).fst.need).ks, int (Dn (ac w n p.term known).fst.bar).op, int (Dn (ac w n p.term known).fst.bar).c, aA (Dn (ac w n p.term known).fst.bar).nm, int (Dn (ac w n p.term known).fst.bar).n, int (Dn (ac w n p.term known).fst.bar).d, ab (Dn (ac w n p.term known).fst.bar).ks]
  let v3 : List D := [.ref (.vec 1 1), ab (De Dt w.c), ab w.p, ab (De Dw w.s), ab (De Ds w.f), int known]
  let v4 : List D := [.ref (.vec 1 2), ab (De Dt w.c), ab w.p, ab (De Dw w.s), ab (De Ds w.f), int known]
  let v2 : List Blk := [.var v4, .vec (ai (rdR (rs ++ rdT 1 n 0 p.term))) 2 5, .var [int st, .ref (.vec 3 0)], .vec (ai (De Dk ats)) 0 5, .var [int p.term, int p.value]]
  let v5 : List Blk := [.var v3, .vec (ai (rdR rs)) 1 5, .var [int st, .ref (.vec 3 0)], .vec (ai (De Dk ats)) 0 5, .var [int p.term, int p.value]]
  refine DN (DP (s' := { t := mkT 67 0 [(0, .ref (.ptr 0 0)), (1, int st), (2, int term), (6, .ref (.ptr 2 0)), (8, int n), (16, ab ns), (17, int (↑(Dh ns) : Int)), (18, int ni), (26, ab ps), (27, int (↑(Dh ps) : Int)), (28, int (Dr Dj ((↑j : Int) + 1)))], h := [.var v3, .vec (ai (rdR (rs ++ rdT 1 n 0 p.term))) 1 5, .var [int st, .ref (.vec 3 0)], .vec (ai (De Dk ats) ++ [v0]) 0 5], m := [] }) (e := DE) pok [.st (.mask [0, 1, 2, 6, 8, 16, 17, 18, 26, 27, 28]), .st (.ren 1 1), .st (.ren 3 0), .st (.trimV 4)] [.b true, .row [vi p.term, vi p.value], .b false, .call v1 v2] (by kernel_rfl) (.c hlt (.c hr (.c (show (!decide (16 = 0)) = true from rfl) (.c (show (!decide (16 = 0)) = true from rfl) (.c hc0 (.c (show Ev Dg Γk 116 [.ref (.ptr 0 0), int n, int p.term] v5 v1 v2 from (Dv (FD (args := [.ref (.ptr 0 0), int n, int p.term]) (H := v5) [0, 1] (Ev.upX [0, 1] (@kY w hw known n (p.term) rs ?_) (by kernel_rfl) ⟨(by subst v0 v1 v3 v4 v2 v5; first | rfl | exact ak _ _ | first | assumption | rfl | omega | exact ae _ _ | exact af | (rw [bi]; exact ae _ _) | (rw [bi]; exact af) | (simp [bC, Gx, El, roomOk]; omega)), trivial⟩ ⟨(by subst v0 v1 v3 v4 v2 v5; first | rfl | exact ak _ _ | first | assumption | rfl | omega | exact ae _ _ | exact af | (rw [bi]; exact ae _ _) | (rw [bi]; exact af) | (simp [bC, Gx, El, roomOk]; omega)), trivial⟩) (by kernel_rfl) (by kernel_rfl) (by kernel_rfl) ⟨(by subst v0 v1 v3 v4 v2 v5; first | rfl | exact ak _ _ | first | assumption | rfl | omega | exact ae _ _ | exact af | (rw [bi]; exact ae _ _) | (rw [bi]; exact af) | (simp [bC, Gx, El, roomOk]; omega)), trivial⟩ ⟨(by subst v0 v1 v3 v4 v2 v5; first | rfl | exact ak _ _ | first | assumption | rfl | omega | exact ae _ _ | exact af | (rw [bi]; exact ae _ _) | (rw [bi]; exact af) | (simp [bC, Gx, El, roomOk]; omega)), trivial⟩) (by kernel_rfl) (by kernel_rfl))) (.c (show (Fk [v0] (bC 5) && roomOk (Dh (ai (De Dk ats)) + Dh [v0]) 40) = true from ?_) (.e (.ref (.ptr 2 1)) (.e (.ref (.ptr 2 1)) (.e (.ref (.ptr 2 1)) (.e (.ref (.vec 3 0)) (.e (.ref (.vec 3 0)) (.e (.ref (.vec 3 0)) (.e (.ref (.ptr 4 0)) (.e (.ref (.ptr 4 0)) (.e (int p.term) (.e (int p.term) (.e (.ref (.ptr 4 0)) (.e (int p.term) (.e (.ref (.ptr 2 1)) (.c (show De (D6 (au 1 2 1)) (ai (rdR (rs ++ rdT 1 n 0 p.term))) = ai (rdR (rs ++ rdT 1 n 0 p.term)) from ?_) (.c (show De (D6 (au 1 2 1)) (ai (De Dk ats) ++ [v0]) = ai (De Dk ats) ++ [v0] from ?_) (.c (show [v0] = [v0] from rfl) (.c (show De (D6 (au 3 1 0)) (ai (De Dk ats) ++ [v0]) = ai (De Dk ats) ++ [v0] from ?_) (.c (show De (D6 (au 3 1 0)) (ai (rdR (rs ++ rdT 1 n 0 p.term))) = ai (rdR (rs ++ rdT 1 n 0 p.term)) from ?_) (.c (show [v0] = [v0] from rfl) (.c (show Dy 4 (match 0 == 3 with | true => .vec (ai (De Dk ats) ++ [v0]) 0 5 | false => keepX (au 3 1 0) (match 0 == 1 with | true => .vec (ai (rdR (rs ++ rdT 1 n 0 p.term))) 1 5 | false => keepX (au 1 2 1) (.var v4))) = true from rfl) (.c (show Dy 4 (match 0 + 1 == 3 with | true => .vec (ai (De Dk ats) ++ [v0]) 0 5 | false => keepX (au 3 1 0) (match 0 + 1 == 1 with | true => .vec (ai (rdR (rs ++ rdT 1 n 0 p.term))) 1 5 | false => keepX (au 1 2 1) (.vec (ai (rdR (rs ++ rdT 1 n 0 p.term))) 2 5))) = true from ?_) (.c (show Dy 4 (match 0 + 1 + 1 == 3 with | true => .vec (ai (De Dk ats) ++ [v0]) 0 5 | false => keepX (au 3 1 0) (match 0 + 1 + 1 == 1 with | true => .vec (ai (rdR (rs ++ rdT 1 n 0 p.term))) 1 5 | false => keepX (au 1 2 1) (.var [int st, .ref (.vec 3 1)]))) = true from rfl) (.c (show Dy 4 (match 0 + 1 + 1 + 1 == 3 with | true => .vec (ai (De Dk ats) ++ [v0]) 0 5 | false => keepX (au 3 1 0) (match 0 + 1 + 1 + 1 == 1 with | true => .vec (ai (rdR (rs ++ rdT 1 n 0 p.term))) 1 5 | false => keepX (au 1 2 1) (.vec (ai (De Dk ats) ++ [v0]) 1 5))) = true from ?_) .n))))))))))))))))))))))))))))))) (by subst v0 v1 v3 v4 v2 v5; first | rfl | (have hh : attBad p = true := hc0; simp only [hwr, lb, hh, cond_true]; first | done | rfl) | (have hh : attBad p = false := hc0; simp only [hwr, lb, hh, cond_false, bi]; first | done | rfl)) (by subst v0 v1 v3 v4 v2 v5; first | rfl | (have hh : attBad p = true := hc0; simp only [hwr, lb, hh, cond_true]; first | done | rfl) | (have hh : attBad p = false := hc0; simp only [hwr, lb, hh, cond_false, bi]; first | done | rfl)) <;> subst v0 v1 v3 v4 v2 v5 <;> (first | assumption | rfl | omega | exact ae _ _ | exact af | (rw [bi]; exact ae _ _) | (rw [bi]; exact af) | (simp [bC, Gx, El, roomOk]; omega))
 ·let v0 : List D := [.ref (.vec 1 1), ab (De Dt w.c), ab w.p, ab (De Dw w.s), ab (De Ds w.f), int known]
  refine DN (DP (s' := { t := mkT 67 0 [(0, .ref (.ptr 0 0)), (1, int st), (2, int term), (6, .ref (.ptr 2 0)), (8, int n), (16, ab ns), (17, int (↑(Dh ns) : Int)), (18, int ni), (26, ab ps), (27, int (↑(Dh ps) : Int)), (28, int (Dr Dj ((↑j : Int) + 1)))], h := [.var v0, .vec (ai (rdR rs)) 1 5, .var [int st, .ref (.vec 3 0)], .vec (ai (De Dk ats)) 0 5], m := [] }) (e := DE) pok [.st (.mask [0, 1, 2, 6, 8, 16, 17, 18, 26, 27, 28]), .st (.ren 1 1), .st (.ren 3 0), .st (.trimV 4)] [.b true, .row [vi p.term, vi p.value], .b true] (by kernel_rfl) (.c hlt (.c hr (.c (show (!decide (16 = 0)) = true from rfl) (.c (show (!decide (16 = 0)) = true from rfl) (.c hc0 (.c (show De (D6 (au 1 1 1)) (ai (rdR rs)) = ai (rdR rs) from ?_) (.c (show De (D6 (au 1 1 1)) (ai (De Dk ats)) = ai (De Dk ats) from ?_) (.c (show De (D6 (au 3 0 0)) (ai (De Dk ats)) = ai (De Dk ats) from ?_) (.c (show De (D6 (au 3 0 0)) (ai (rdR rs)) = ai (rdR rs) from ?_) (.c (show Dy 4 (match 0 == 3 with | true => .vec (ai (De Dk ats)) 0 5 | false => keepX (au 3 0 0) (match 0 == 1 with | true => .vec (ai (rdR rs)) 1 5 | false => keepX (au 1 1 1) (.var v0))) = true from rfl) (.c (show Dy 4 (match 0 + 1 == 3 with | true => .vec (ai (De Dk ats)) 0 5 | false => keepX (au 3 0 0) (match 0 + 1 == 1 with | true => .vec (ai (rdR rs)) 1 5 | false => keepX (au 1 1 1) (.vec (ai (rdR rs)) 1 5))) = true from ?_) (.c (show Dy 4 (match 0 + 1 + 1 == 3 with | true => .vec (ai (De Dk ats)) 0 5 | false => keepX (au 3 0 0) (match 0 + 1 + 1 == 1 with | true => .vec (ai (rdR rs)) 1 5 | false => keepX (au 1 1 1) (.var [int st, .ref (.vec 3 0)]))) = true from rfl) (.c (show Dy 4 (match 0 + 1 + 1 + 1 == 3 with | true => .vec (ai (De Dk ats)) 0 5 | false => keepX (au 3 0 0) (match 0 + 1 + 1 + 1 == 1 with | true => .vec (ai (rdR rs)) 1 5 | false => keepX (au 1 1 1) (.vec (ai (De Dk ats)) 0 5))) = true from ?_) .n)))))))))))))) (by subst v0; first | rfl | (have hh : attBad p = true := hc0; simp only [hwr, lb, hh, cond_true]; first | done | rfl) | (have hh : attBad p = false := hc0; simp only [hwr, lb, hh, cond_false, bi]; first | done | rfl)) (by subst v0; first | rfl | (have hh : attBad p = true := hc0; simp only [hwr, lb, hh, cond_true]; first | done | rfl) | (have hh : attBad p = false := hc0; simp only [hwr, lb, hh, cond_false, bi]; first | done | rfl)) <;> subst v0 <;> (first | assumption | rfl | omega | exact ae _ _ | exact af | (rw [bi]; exact ae _ _) | (rw [bi]; exact af) | (simp [bC, Gx, El, roomOk]; omega))
theorem BE {w : WorldT} {known st term : Int} {ns : List (List Dp)} {ni n : Int} {ps : List (List Dp)} {rs0 rs : List ReadT} {ats : List AttT} {j : Nat} (hlt : decide ((j : Int) < (ps.length : Int)) = false) : (CW Dg Γk (lkH w known rs0 0) false (sub Gn 1) (oiS w known st term ns ni n ps rs ats j) (.exit 2) { t := mkT 67 0 [(0, .ref (.ptr 0 0)), (1, int st), (2, int term), (6, .ref (.ptr 2 0)), (16, ab ns), (17, int ns.length), (18, int ni)], h := ofH w known st rs ats, m := [] }) := by
 exact DN (DP (s' := { t := mkT 67 0 [(0, .ref (.ptr 0 0)), (1, int st), (2, int term), (6, .ref (.ptr 2 0)), (16, ab ns), (17, int (↑(Dh ns) : Int)), (18, int ni)], h := [.var [.ref (.vec 1 1), ab (De Dt w.c), ab w.p, ab (De Dw w.s), ab (De Ds w.f), int known], .vec (ai (rdR rs)) 1 5, .var [int st, .ref (.vec 3 0)], .vec (ai (De Dk ats)) 0 5], m := [] }) (e := Ea 2) pok [.st (.mask [0, 1, 2, 6, 16, 17, 18])] [.b false] (by kernel_rfl) (.c hlt .n)) (by rfl) (by rfl)
theorem ti {w : WorldT} {known n : Int} {s : RA} (p : PtT) : (lb w known n s p).1.length ≤ s.1.length + 1 ∧ (lb w known n s p).2.length ≤ s.2.length + 1 := by
 unfold lb
 cases attBad p
 ·have := rdT_len 1 n 0 p.term
  simp; omega
 ·simp
theorem oi_cw {w : WorldT} (hw : w.ok) {known st term : Int} {ns : List (List Dp)} {ni n : Int} {ps : List PtT} (hp : ps.length ≤ 2000) {rs0 rs : List ReadT} {ats : List AttT} (hb : rs.length ≤ 999990000) (ha : ats.length ≤ 999990000) :
  CW Dg Γk (lkH w known rs0 0) false (.loop (sub Gn 1)) (oiS w known st term ns ni n (ps.map PtT.row) rs ats 0) (.exit 2) { t := mkT 67 0 [(0, .ref (.ptr 0 0)), (1, int st), (2, int term), (6, .ref (.ptr 2 0)), (16, ab ns), (17, int ns.length), (18, int ni)], h := ofH w known st (ps.foldl (lb w known n) (rs, ats)).1 (ps.foldl (lb w known n) (rs, ats)).2, m := [] } := by
 have hl : al ps := by unfold al; omega
 have := Hg (P := Dg) (Γ := Γk) (h0 := lkH w known rs0 0) (rd := false) (c := sub Gn 1) (σ := RA) (ρ := Empty) ps (fun p s => .inl (lb w known n s p))
  (fun j s => oiS w known st term ns ni n (ps.map PtT.row) s.1 s.2 (j : Int)) (.exit 2) (fun s => { t := mkT 67 0 [(0, .ref (.ptr 0 0)), (1, int st), (2, int term), (6, .ref (.ptr 2 0)), (16, ab ns), (17, int ns.length), (18, int ni)], h := ofH w known st s.1 s.2, m := [] }) (fun r => r.elim)
  (fun j s => s.1.length ≤ rs.length + j ∧ s.2.length ≤ ats.length + j) (by simp) (fun r => r.elim) ?_ ?_ (rs, ats) (by simp)
 ·rw [bh] at this
  exact this
 ·intro j p s hpj hs
  have hi := (Dm.1 hpj).1
  refine ⟨fun s' h => by cases h; have := ti (w := w) (known := known) (n := n) (s := s) p; omega, BD hw (rowAt hpj rfl) (lt_len _ hi) (wrap_succ hi hl) (by omega) (by omega)⟩
 ·intro s _
  exact BE (cw _ ps)
theorem bz {kk ks ko frm to known : Int} {l : List FactT} : (cg kk ks ko frm to known l).length ≤ 1024 := by
 have key : ∀ (rs : List Int) (ns : List Nat) (l : List PtT), (ns.foldl (fun l n => ptF (rs.getD n 0) n l) l).length ≤ l.length + ns.length := by
  intro rs ns
  induction ns with
  | nil => intro l; simp
  | cons n ns ih => intro l; have := ih (ptF (rs.getD n 0) n l); have h2 := ww (rs.getD n 0) n l; simp only [Ex, DZ]; omega
 unfold cg z6
 refine E8 (key _ _ _) ?_
 have : ur to ≤ 1024 := by unfold ur; split <;> omega
 simp only [Fp, List.length_range']
 have : 0 ≤ ptLo frm := od frm
 omega
abbrev ooS (w : WorldT) (known st term : Int) (ns : List (List Dp)) (rs : List ReadT) (ats : List AttT) (i : Int) : AS :=
 { t := mkT 67 0 [(0, .ref (.ptr 0 0)), (1, int st), (2, int term), (6, .ref (.ptr 2 0)), (16, ab ns), (17, int ns.length), (18, int i)], h := ofH w known st rs ats, m := [] }
def fc (w : WorldT) (known st term : Int) (s : RA) (n : Int) : RA := (cg 5 st n 0 term known w.f).foldl (lb w known n) (s.1 ++ [⟨5, st, n, 0, term⟩], s.2)
noncomputable abbrev mQ (w : WorldT) (known : Int) (st : Int) (rs : List ReadT) (ats : List AttT) : List Blk := [.var [.ref (.vec 1 1), ab (De Dt w.c), ab w.p, ab (De Dw w.s), ab (De Ds w.f), int known], .vec (ai (rdR rs)) 1 5, .var [int st, .ref (.vec 3 0)], .vec (ai (De Dk ats)) 0 5]
theorem BF {w : WorldT} (hw : w.ok) {known st term : Int} {ns : List (List Dp)} {n : Int} {rs0 rs : List ReadT} {ats : List AttT} {i : Nat} (hr : aM (i : Int) ns [vi n] 1) (hlt : decide ((i : Int) < (ns.length : Int)) = true) (hwr : Dj.wrap ((i : Int) + 1) = ((i + 1 : Nat) : Int)) (hb : rs.length ≤ 999980000) (ha : ats.length ≤ 999980000) : (CW Dg Γk (lkH w known rs0 0) false (sub Gn 0) (ooS w known st term ns rs ats i) .normal (ooS w known st term ns (fc w known st term (rs, ats) n).1 (fc w known st term (rs, ats) n).2 ((i + 1 : Nat) : Int))) := by
 have hl0 := (@oi_cw (w) (hw) (known) (st) (term) (ns) ((↑i : Int)) (n) (cg 5 st n 0 term known w.f) (by first | assumption | rfl | omega | exact ae _ _ | exact E8 bz (by omega) | (simp; omega)) (rs0) (rs ++ [{ kind := 5, sub := st, obj := n, frm := 0, til := term }]) (ats) (by first | assumption | rfl | omega | exact ae _ _ | exact E8 bz (by omega) | (simp; omega)) (by first | assumption | rfl | omega | exact ae _ _ | exact E8 bz (by omega) | (simp; omega)))
 let v1 : List Blk := [.var [.ref (.vec 1 2), ab (De Dt w.c), ab w.p, ab (De Dw w.s), ab (De Ds w.f), int known], .vec (ai (rdR (rs ++ [{ kind := 5, sub := st, obj := n, frm := 0, til := term }]))) 2 5, .var [int st, .ref (.vec 3 0)], .vec (ai (De Dk ats)) 0 5]
 let v2 := DJ (lb w known n) (rs ++ [{ kind := 5, sub := st, obj := n, frm := 0, til := term }], ats) (cg 5 st n 0 term known w.f)
 let v0 : List Blk := [.var [.ref (.vec 1 1), ab (De Dt w.c), ab w.p, ab (De Dw w.s), ab (De Ds w.f), int known], .vec (ai (rdR v2.fst)) 1 5, .var [int st, .ref (.vec 3 0)], .vec (ai (De Dk v2.snd)) 0 5]
 let v3 := ab (De PtT.row (cg 5 st n 0 term known w.f))
 refine DN (DP (s' := { t := mkT 67 0 [(0, .ref (.ptr 0 0)), (1, int st), (2, int term), (6, .ref (.ptr 2 0)), (16, ab ns), (17, int (↑(Dh ns) : Int)), (18, int (Dr Dj ((↑i : Int) + 1)))], h := v0, m := [] }) (e := DE) pok [.st (.mask [0, 1, 2, 6, 16, 17, 18])] [.b true, .row [vi n], .call v3 v1, .st (.ren 1 1), .sum [0, 1, 2, 6, 8, 16, 17, 18, 26, 27, 28] (Ea 2) { t := mkT 67 0 [(0, .ref (.ptr 0 0)), (1, int st), (2, int term), (6, .ref (.ptr 2 0)), (16, ab ns), (17, int (↑(Dh ns) : Int)), (18, int (↑i : Int))], h := v0, m := [] }] (by kernel_rfl) (.c hlt (.c hr (.c (show Ev Dg Γk 115 [.ref (.ptr 0 0), int st, int n, int term] (mQ w known st rs ats) v3 v1 from (Dv (FD (args := [.ref (.ptr 0 0), int st, int n, int term]) (H := (mQ w known st rs ats)) [0, 1] (Ev.upX [0, 1] (@rO w hw known st n term rs (by subst v1 v2 v0 v3; first | assumption | rfl | omega | exact ae _ _ | exact E8 bz (by subst v1 v2 v0 v3; omega) | (simp; omega))) (by kernel_rfl) ⟨?_, trivial⟩ ⟨?_, trivial⟩) (by kernel_rfl) (by kernel_rfl) (by kernel_rfl) ⟨?_, trivial⟩ ⟨?_, trivial⟩) (by kernel_rfl) (by kernel_rfl))) (.c (show De (D6 (au 1 2 1)) (ai (rdR (rs ++ [{ kind := 5, sub := st, obj := n, frm := 0, til := term }]))) = ai (rdR (rs ++ [{ kind := 5, sub := st, obj := n, frm := 0, til := term }])) from (by subst v1 v2 v0 v3; first | assumption | rfl | omega | exact ae _ _ | exact E8 bz (by subst v1 v2 v0 v3; omega) | (simp; omega))) (.c (show De (D6 (au 1 2 1)) (ai (De Dk ats)) = ai (De Dk ats) from (by subst v1 v2 v0 v3; first | assumption | rfl | omega | exact ae _ _ | exact E8 bz (by subst v1 v2 v0 v3; omega) | (simp; omega))) (.c hl0 .n))))))) (by subst v1 v2 v0 v3; first | rfl | (simp only [hwr]; rfl)) (by subst v1 v2 v0 v3; first | rfl | (simp only [hwr]; rfl)) <;> subst v1 v2 v0 v3 <;> (first | rfl | exact ak _ _ | first | assumption | rfl | omega | exact ae _ _ | exact E8 bz (by omega) | (simp; omega))
theorem BG {w : WorldT} {known st term : Int} {ns : List (List Dp)} {rs0 rs : List ReadT} {ats : List AttT} {i : Nat} (hlt : decide ((i : Int) < (ns.length : Int)) = false) : (CW Dg Γk (lkH w known rs0 0) false (sub Gn 0) (ooS w known st term ns rs ats i) (.exit 0) { t := mkT 67 0 [(6, .ref (.ptr 2 0))], h := ofH w known st rs ats, m := [] }) := by
 exact DN (DP (s' := { t := mkT 67 0 [(6, .ref (.ptr 2 0))], h := [.var [.ref (.vec 1 1), ab (De Dt w.c), ab w.p, ab (De Dw w.s), ab (De Ds w.f), int known], .vec (ai (rdR rs)) 1 5, .var [int st, .ref (.vec 3 0)], .vec (ai (De Dk ats)) 0 5], m := [] }) (e := Ea 0) pok [.st (.mask [6])] [.b false] (by kernel_rfl) (.c hlt .n)) (by rfl) (by rfl)
theorem mR {w : WorldT} {known n : Int} : ∀ (ps : List PtT) (s : RA), (ps.foldl (lb w known n) s).1.length ≤ s.1.length + ps.length ∧ (ps.foldl (lb w known n) s).2.length ≤ s.2.length + ps.length
 | [], s => by simp
 | p :: ps, s => by
  have h1 := ti (w := w) (known := known) (n := n) (s := s) p
  have h2 := mR (w := w) (known := known) (n := n) ps (lb w known n s p)
  simp only [Ex, DZ]
  omega
theorem wC {w : WorldT} {known st term : Int} (s : RA) (n : Int) : (fc w known st term s n).1.length ≤ s.1.length + 1025 ∧ (fc w known st term s n).2.length ≤ s.2.length + 1024 := by
 unfold fc
 have h1 := mR (w := w) (known := known) (n := n) (cg 5 st n 0 term known w.f) (s.1 ++ [⟨5, st, n, 0, term⟩], s.2)
 have h2 := bz (kk := 5) (ks := st) (ko := n) (frm := 0) (to := term) (known := known) (l := w.f)
 simp only [E7, DZ, Fp] at h1
 omega
theorem oo_g {w : WorldT} (hw : w.ok) {known st term : Int} {ns : List Int} (hn : ns.length ≤ 69000) {rs0 rs : List ReadT} (hb : rs.length ≤ 800000000) {ats : List AttT} (ha : ats.length ≤ 1000) :
  CW Dg Γk (lkH w known rs0 0) false (.loop (sub Gn 0)) (ooS w known st term (ns.map fun n => [vi n]) rs ats 0) (.exit 0) { t := mkT 67 0 [(6, .ref (.ptr 2 0))], h := ofH w known st (ns.foldl (fc w known st term) (rs, ats)).1 (ns.foldl (fc w known st term) (rs, ats)).2, m := [] } := by
 have hl : al ns := by unfold al; omega
 have := Hg (P := Dg) (Γ := Γk) (h0 := lkH w known rs0 0) (rd := false) (c := sub Gn 0) (σ := RA) (ρ := Empty) ns (fun n s => .inl (fc w known st term s n))
  (fun i s => ooS w known st term (ns.map fun n => [vi n]) s.1 s.2 (i : Int)) (.exit 0) (fun s => { t := mkT 67 0 [(6, .ref (.ptr 2 0))], h := ofH w known st s.1 s.2, m := [] }) (fun r => r.elim)
  (fun i s => s.1.length ≤ rs.length + i * 1025 ∧ s.2.length ≤ ats.length + i * 1025) (by simp) (fun r => r.elim) ?_ ?_ (rs, ats) (by simp)
 ·rw [bh] at this
  exact this
 ·intro i n s hni hs
  have hi := (Dm.1 hni).1
  refine ⟨fun s' h => by cases h; have := wC (w := w) (known := known) (st := st) (term := term) s n; omega, BF hw (rowAt (row := fun n => [vi n]) hni rfl) (lt_len (fun n => [vi n]) hi) (wrap_succ hi hl) (by omega) (by omega)⟩
 ·intro s _
  exact BG (cw (fun n => [vi n]) ns)
theorem oo_cw {w : WorldT} (hw : w.ok) {known st term : Int} {ns : List Int} (hn : ns.length ≤ 69000) {rs0 rs : List ReadT} (hb : rs.length ≤ 800000000) :
  CW Dg Γk (lkH w known rs0 0) false (.loop (sub Gn 0)) (ooS w known st term (ns.map fun n => [vi n]) rs [] 0) (.exit 0) { t := mkT 67 0 [(6, .ref (.ptr 2 0))], h := ofH w known st (ns.foldl (fc w known st term) (rs, [])).1 (ns.foldl (fc w known st term) (rs, [])).2, m := [] } := oo_g hw hn hb (by simp)
def xP (w : WorldT) (known st term : Int) (rs : List ReadT) : RA := (ah w.f known).foldl (fc w known st term) (rs ++ [rdN], [])
def rR (w : WorldT) (known st term : Int) (rs : List ReadT) : List AttT := (xP w known st term rs).2.mergeSort leA
theorem d7 {fs : List FactT} {known : Int} : (ah fs known).length ≤ fs.length := by
 have := gj (many := zV fs known) fs []
 simp only [Fp, Nat.zero_add] at this
 unfold ah tb
 simpa using this
noncomputable abbrev wD (w : WorldT) (known : Int) (st : Int) (term : Int) (rs : List ReadT) : List Blk := [.var [.ref (.vec 1 1), ab (De Dt w.c), ab w.p, ab (De Dw w.s), ab (De Ds w.f), int known], .vec (ai (rdR (DJ (fc w known st term) (rs ++ [rdN], []) (ah w.f known)).fst)) 1 5, .var [int st, .ref (.vec 3 0)], .vec (ai (De Dk (DJ (fc w known st term) (rs ++ [rdN], []) (ah w.f known)).snd)) 0 5]
noncomputable abbrev wE (w : WorldT) (known : Int) (st : Int) (term : Int) (rs : List ReadT) : List Blk := [.var [.ref (.vec 1 1), ab (De Dt w.c), ab w.p, ab (De Dw w.s), ab (De Ds w.f), int known], .vec (ai (rdR (DJ (fc w known st term) (rs ++ [rdN], []) (ah w.f known)).fst)) 1 5, .var [int st, .ref (.vec 3 0)], .vec (ai (De Dk (Ey (xP w known st term rs).snd leA))) 0 5]
theorem of_a {w : WorldT} (hw : w.ok) {known st term : Int} {rs : List ReadT} (hb : rs.length ≤ 700000000) (hn : (ah w.f known).length ≤ 69000) (hl : (xP w known st term rs).2.length < 4611686018427387904) (hT : ∀ x ∈ (xP w known st term rs).2, ∀ y ∈ (xP w known st term rs).2, x.term = y.term → x.course = y.course → x = y) : (Ev Dg Γk 60 [.ref (.ptr 0 0), int st, int term] (lkH w known rs 0) (.agg [int st, ab ((rR w known st term rs).map Dk)]) (lkH w known (xP w known st term rs).1 1)) := by
 have hl0 := (@oo_cw (w) (hw) (known) (st) (term) (ah w.f known) (hn) (rs) (rs ++ [rdN]) (by first | assumption | rfl | omega | exact ae _ _ | exact af | (simp; omega)))
 let v0 : List D := [.ref (.vec 1 1), ab (De Dt w.c), ab w.p, ab (De Dw w.s), ab (De Ds w.f), int known]
 let v1 := De Dk (rR w known st term rs)
 let v2 := DJ (fc w known st term) (rs ++ [rdN], []) (ah w.f known)
 let v3 : List Blk := [.var [.ref (.vec 1 0), ab (De Dt w.c), ab w.p, ab (De Dw w.s), ab (De Ds w.f), int known], .vec (ai (rdR rs)) 0 5, .var [int st, nq]]
 let v4 : List Blk := [.var v0, .vec (ai (rdR (rs ++ [rdN]))) 1 5, .var [int st, nq]]
 refine Dv (Ev.post (d2 := EB [int st, ab v1]) (h2 := [.var v0, .vec (ai (rdR v2.fst)) 1 5]) (φ := [ai (De Dk (Ey (xP w known st term rs).snd leA)) = De (fun x => De D.p x) v1, De (D6 (dh 3 0 v1)) (ai (rdR v2.fst)) = ai (rdR v2.fst), Dy 2 (match 0 == 3 with | true => .gone | false => keepX (dh 3 0 v1) (.var v0)) = true, Dy 2 (match 0 + 1 == 3 with | true => .gone | false => keepX (dh 3 0 v1) (.vec (ai (rdR v2.fst)) 1 5)) = true]) [.st (.frz 3 v1), .st (.trimV 2)] (Ev.of_sym (h' := (wE w known st term rs)) (d := EB [int st, .ref (.vec 3 0)]) pok [.call (ab (De (fun n => [vi n]) (ah w.f known))) v4, .st (.nilC 2 1 5), .sum [0, 1, 2, 6, 16, 17, 18] (Ea 0) { t := mkT 67 0 [(6, .ref (.ptr 2 0))], h := (wD w known st term rs), m := [] }, .call (Em []) (wE w known st term rs)] (by kernel_rfl) (.c (show Ev Dg Γk 62 [.ref (.ptr 0 0)] v3 (ab (De (fun n => [vi n]) (ah w.f known))) v4 from (Dv (FD (args := [.ref (.ptr 0 0)]) (H := v3) [0, 1] (@og w hw known rs ?_) (by kernel_rfl) (by kernel_rfl) (by kernel_rfl) ⟨(by subst v0 v1 v2 v3 v4; first | rfl | exact ak _ _ | first | assumption | rfl | omega | exact ae _ _ | exact af | (simp; omega)), trivial⟩ ⟨(by subst v0 v1 v2 v3 v4; first | rfl | exact ak _ _ | first | assumption | rfl | omega | exact ae _ _ | exact af | (simp; omega)), trivial⟩) (by kernel_rfl) (by kernel_rfl))) (.c hl0 (.c (DW (Γ' := Γk) (@rQ (wD w known st term rs) 3 0 ((xP w known st term rs).snd) ?_ hl hT)) .n)))) (by kernel_rfl) ⟨?_, ?_, rfl, ?_, trivial⟩) (by rfl) (by rfl) <;> subst v0 v1 v2 v3 v4 <;> (first | assumption | rfl | omega | exact ae _ _ | exact af | (simp; omega))
end Go.Vi
open Go Go.Proofs
namespace Go.Vi
def ptO (rs : List Int) (n : Nat) : Option PtT := bif decide (rs.getD n 0 ≥ 0) then some ⟨(n : Int), rs.getD n 0⟩ else none
theorem wF (rs : List Int) (x to : Int) : z6 rs x to = (List.range' x.toNat (ur to - x).toNat).filterMap (ptO rs) := by
 have key : ∀ (ns : List Nat) (l : List PtT), ns.foldl (fun l n => ptF (rs.getD n 0) n l) l = l ++ ns.filterMap (ptO rs) := by
  intro ns
  induction ns with
  | nil => intro l; simp
  | cons n ns ih =>
   intro l
   rw [Ex, ih, IJ]
   unfold ptF ptO
   cases decide (rs.getD n 0 ≥ 0) <;> simp
 unfold z6
 rw [key]; simp
theorem BH {rs : List Int} {x to : Int} : (z6 rs x to).Pairwise fun p q => p.term < q.term := by
 rw [wF]
 refine List.Pairwise.filterMap (R := fun a b => a < b) (ptO rs) ?_ (List.pairwise_lt_range' ..)
 intro a b hab p hp q hq
 unfold ptO at hp hq
 cases h1 : decide (rs.getD a 0 ≥ 0) <;> rw [h1] at hp <;> simp at hp
 cases h2 : decide (rs.getD b 0 ≥ 0) <;> rw [h2] at hq <;> simp at hq
 subst hp; subst hq
 simp; exact hab
theorem mS {kk ks ko frm to known : Int} {l : List FactT} : (cg kk ks ko frm to known l).Pairwise fun p q => p.term < q.term := BH
theorem wG {many : Int} {f : FactT} {l l' : List Int} (hl : l.Nodup) (h : nuF many f l = .inl l') : l'.Nodup := by
 unfold nuF at h
 split at h
 ·simp at h
 ·simp only [Sum.inl.injEq] at h
  subst h
  cases hn : isNew f l
  ·simpa using hl
  ·simp only [cond_true]
   unfold isNew at hn
   simp only [Bool.and_eq_true, Bool.not_eq_true'] at hn
   have : f.sub ∉ l := by
    have := hn.2.2.2
    intro hm
    rw [List.contains_iff_mem.2 hm] at this
    simp at this
   rw [List.nodup_append]
   refine ⟨hl, by simp, ?_⟩
   intro a ha b hb
   simp only [List.mem_singleton] at hb
   subst hb
   exact fun e => this (e ▸ ha)
theorem mT {many : Int} : ∀ (fs : List FactT) (l : List Int), l.Nodup → (nuG (forL (nuF many) fs l)).Nodup
 | [], l, h => by simpa [forL, nuG] using h
 | f :: fs, l, h => by
  simp only [forL]
  cases hf : nuF many f l with
  | inl l' => exact mT fs l' (wG h hf)
  | inr l' =>
   have : l' = l := by
    unfold nuF at hf; split at hf
    ·simp at hf; exact hf.symm
    ·simp at hf
   subst this
   exact h
theorem lU {fs : List FactT} {known : Int} : (ah fs known).Nodup := by
 unfold ah tb
 exact (List.mergeSort_perm _ _).nodup_iff.2 (mT fs [] List.nodup_nil)
def C8 (w : WorldT) (known n : Int) (p : PtT) : Option AttT := bif attBad p then none else some (wB w known n p)
def rdO (n : Int) (p : PtT) : List ReadT := bif attBad p then [] else rdT 1 n 0 p.term
theorem qn (w : WorldT) (known n : Int) : ∀ (ps : List PtT) (s : RA), ps.foldl (lb w known n) s = (s.1 ++ ps.flatMap (rdO n), s.2 ++ ps.filterMap (C8 w known n))
 | [], s => by simp
 | p :: ps, s => by
  rw [Ex, qn w known n ps, IJ, List.flatMap_cons]
  unfold lb C8 rdO
  cases attBad p <;> simp
abbrev rS (w : WorldT) (known st term n : Int) : List PtT := cg 5 st n 0 term known w.f
def fE (w : WorldT) (known st term n : Int) : List ReadT := ⟨5, st, n, 0, term⟩ :: (rS w known st term n).flatMap (rdO n)
def hJ (w : WorldT) (known st term n : Int) : List AttT := (rS w known st term n).filterMap (C8 w known n)
theorem ofOut_eq (w : WorldT) (known st term : Int) (s : RA) (n : Int) : fc w known st term s n = (s.1 ++ fE w known st term n, s.2 ++ hJ w known st term n) := by
 unfold fc
 rw [qn]
 simp [fE, hJ]
theorem rT (w : WorldT) (known st term : Int) (rs : List ReadT) : xP w known st term rs = (rs ++ rdN :: (ah w.f known).flatMap (fE w known st term), (ah w.f known).flatMap (hJ w known st term)) := by
 have key : ∀ (ns : List Int) (s : RA), ns.foldl (fc w known st term) s = (s.1 ++ ns.flatMap (fE w known st term), s.2 ++ ns.flatMap (hJ w known st term)) := by
  intro ns
  induction ns with
  | nil => intro s; simp
  | cons n ns ih => intro s; rw [Ex, ih, ofOut_eq]; simp
 unfold xP
 rw [key]; simp
def cq (w : WorldT) (known st term : Int) : List ReadT := rdN :: (ah w.f known).flatMap (fE w known st term)
def fF (w : WorldT) (known st term : Int) : List AttT := (ah w.f known).flatMap (hJ w known st term)
def ek (w : WorldT) (known st term : Int) : List AttT := (fF w known st term).mergeSort leA
theorem cL {w : WorldT} {known st term n : Int} {a : AttT} (h : a ∈ hJ w known st term n) : a.course = n ∧ ∃ p ∈ rS w known st term n, attBad p = false ∧ a = wB w known n p := by
 unfold hJ at h
 obtain ⟨p, hp, he⟩ := List.mem_filterMap.1 h
 unfold C8 at he
 cases hb : attBad p <;> rw [hb] at he <;> simp at he
 subst he
 exact ⟨rfl, p, hp, hb, rfl⟩
theorem yQ {w : WorldT} {known st term : Int} : ∀ x ∈ fF w known st term, ∀ y ∈ fF w known st term, x.term = y.term → x.course = y.course → x = y := by
 intro x hx y hy ht hc
 obtain ⟨n, hn, hx⟩ := List.mem_flatMap.1 hx
 obtain ⟨n', hn', hy⟩ := List.mem_flatMap.1 hy
 obtain ⟨e1, p, hp, _, rfl⟩ := cL hx
 obtain ⟨e2, q, hq, _, rfl⟩ := cL hy
 have : n = n' := by rw [← e1, ← e2, hc]
 subst this
 have hpq : p = q := by
  have hinc := mS (kk := 5) (ks := st) (ko := n) (frm := 0) (to := term) (known := known) (l := w.f)
  have key : ∀ (l : List PtT), l.Pairwise (fun p q => p.term < q.term) → ∀ p ∈ l, ∀ q ∈ l, p.term = q.term → p = q := by
   intro l
   induction l with
   | nil => intro _ p hp; simp at hp
   | cons a l ih =>
    intro hl p hp q hq e
    rw [List.pairwise_cons] at hl
    rcases D2.1 hp with hp1 | hp1 <;> rcases D2.1 hq with hq1 | hq1
    ·rw [hp1, hq1]
    ·have := hl.1 q hq1; rw [hp1] at e; omega
    ·have := hl.1 p hp1; rw [hq1] at e; omega
    ·exact ih hl.2 p hp1 q hq1 e
  exact key _ hinc p hp q hq ht
 rw [hpq]
theorem eV {α β : Type} (f : α → List β) (k : Nat) : ∀ l : List α, (∀ a ∈ l, (f a).length ≤ k) → (l.flatMap f).length ≤ l.length * k
 | [], _ => by simp
 | a :: l, h => by
  have := eV f k l (fun b hb => h b (by simp [hb]))
  have h1 := h a (by simp)
  simp only [List.flatMap_cons, E7, DZ, Nat.add_mul]
  omega
theorem mU {w : WorldT} (hw : w.ok) {known st term : Int} : (fF w known st term).length ≤ 70656000 := by
 have h1 := eV (hJ w known st term) 1024 (ah w.f known) (fun n _ => E8 (List.length_filterMap_le ..) bz)
 have h2 := d7 (fs := w.f) (known := known)
 have h3 := hw.lf
 unfold fF
 have : (ah w.f known).length * 1024 ≤ 69000 * 1024 := F5 _ (by omega)
 omega
theorem rU {w : WorldT} {known st term n : Int} : (fE w known st term n).length ≤ 1025 := by
 unfold fE
 have h1 := eV (rdO n) 1 (rS w known st term n) (fun p _ => by unfold rdO; cases attBad p <;> simp [rdT_len])
 have h2 := bz (kk := 5) (ks := st) (ko := n) (frm := 0) (to := term) (known := known) (l := w.f)
 simp only [DZ]
 simp only [rS] at h1 ⊢
 omega
theorem qo {w : WorldT} (hw : w.ok) {known st term : Int} : (cq w known st term).length ≤ 70725001 := by
 have h1 := eV (fE w known st term) 1025 (ah w.f known) (fun n _ => rU)
 have h2 := d7 (fs := w.f) (known := known)
 have h3 := hw.lf
 unfold cq
 have : (ah w.f known).length * 1025 ≤ 69000 * 1025 := F5 _ (by omega)
 simp only [DZ]
 omega
theorem yR {w : WorldT} (hw : w.ok) {known st term : Int} {rs : List ReadT} (hb : rs.length ≤ 700000000) : Ev Dg Γk 60 [.ref (.ptr 0 0), int st, int term] (lkH w known rs 0) (.agg [int st, ab ((ek w known st term).map Dk)]) (lkH w known (rs ++ cq w known st term) 1) := by
 have h := of_a hw (known := known) (st := st) (term := term) hb (E8 d7 hw.lf) (by rw [rT]; have := mU hw (known := known) (st := st) (term := term); unfold fF at this; simp only; omega) (by rw [rT]; exact yQ)
 unfold rR at h
 rw [rT] at h
 exact h
end Go.Vi
open Go Go.Proofs
namespace Go.Vi
set_option maxRecDepth 100000
set_option maxHeartbeats 4000000
theorem z8 {w : WorldT} (hw : w.ok) {known st term : Int} : Ev Dg Γk 60 [.ref (.ptr 0 0), int st, int term] (lkH w known [] 0) (.agg [int st, ab ((ek w known st term).map Dk)]) (lkH w known (cq w known st term) 1) := by
 have := yR hw (known := known) (st := st) (term := term) (rs := []) (by simp)
 simpa using this
def badOf (st term : Int) : Bool := !(decide (st ≥ 0) && decide (st ≤ 19999)) || !(decide (term ≥ 0) && decide (term ≤ 1024))
structure RecT where
 st : Int
 a : List AttT
def RecT.l (r : RecT) : List D := [int r.st, ab (r.a.map Dk)]
def tj (w : WorldT) (st term known : Int) : RecT × List ReadT × Int := match badOf st term with
 | true => (⟨0, []⟩, [], 150)
 | false => (⟨st, ek w known st term⟩, cq w known st term, 0)
def BI (st term : Int) (rr : List ReadT) (aa : List AttT) : RecT × List ReadT × Int := match badOf st term with
 | true => (⟨0, []⟩, [], 150)
 | false => (⟨st, aa⟩, rr, 0)
noncomputable abbrev jP (w : WorldT) : List Blk := [.var [ab (De Dt w.c), ab w.p, ab (De Dw w.s), ab (De Ds w.f)], .var [int 0, nq]]
theorem rof_a {w : WorldT} {st term known : Int} {rr : List ReadT} {aa : List AttT} (hof : Ev Dg Γk 60 [.ref (.ptr 0 0), int st, int term] (lkH w known [] 0) (.agg [int st, ab (aa.map Dk)]) (lkH w known rr 1)) (h : List Blk) : (Ev Dg Γk 23 [.agg w.l, int st, int term, int known] h (.tup [.agg (BI st term rr aa).1.l, ab (rdR (BI st term rr aa).2.1), int (BI st term rr aa).2.2]) h) := by
 cases hc0 : !(decide (st ≥ 0) && decide (st ≤ 19999)) || !(decide (term ≥ 0) && decide (term ≤ 1024))
 ·let v0 : List Blk := [.var (DY w), .var [int 0, nq], .var [.ref (.vec 3 1), ab (De Dt w.c), ab w.p, ab (De Dw w.s), ab (De Ds w.f), int known], .vec (ai (rdR rr)) 1 5]
  let v1 : List Blk := [.var (DY w), .var [int 0, nq], .var [.ref (.vec 3 0), ab (De Dt w.c), ab w.p, ab (De Dw w.s), ab (De Ds w.f), int known], .vec [] 0 5]
  let v2 : List D := [int st, ab (De Dk aa)]
  refine Dv (Ev.nilW (DR (d := Em [EB v2, ab (rdR rr), int 0]) pok [.val (bool (decide (st ≥ 0) && decide (st ≤ 19999))), .val (bool (decide (term ≥ 0) && decide (term ≤ 1024))), .b false, .nx 1, .st (.nilC 2 0 5), .call (EB v2) v0, .st (.frz 3 (rdR rr))] (by kernel_rfl) (.c (DW (Γ' := Γk) (@aO st 0 19999 (jP w))) (.c (gd (!!(decide (st ≥ 0) && decide (st ≤ 19999))) (DW (Γ' := Γk) (@aO term 0 1024 (jP w)))) (.c hc0 (.c (show Ev Dg Γk 60 [.ref (.ptr 2 0), int st, int term] v1 (EB v2) v0 from (Dv (FD (args := [.ref (.ptr 2 0), int st, int term]) (H := v1) [2, 3] (@hof) (by kernel_rfl) (by kernel_rfl) (by kernel_rfl) ⟨?_, trivial⟩ ⟨?_, trivial⟩) (by kernel_rfl) (by kernel_rfl))) (.c (show ai (rdR rr) = De (fun x => De D.p x) (rdR rr) from (by subst v0 v1 v2; first | assumption | rfl | omega | exact ae _ _ | exact af)) (.e (EB v2) (.e (.ref (.ptr 2 0)) (.e (.ref (.ptr 2 0)) (.e (.ref (.ptr 2 0)) (.e (.ref (.ptr 2 0)) (.e (ab (rdR rr)) (.e (ab (rdR rr)) .n)))))))))))) rfl rfl h)) (by subst v0 v1 v2; first | (have hh : badOf st term = true := hc0; simp only [BI, hh]; rfl) | (have hh : badOf st term = false := hc0; simp only [BI, hh]; rfl)) (by rfl) <;> subst v0 v1 v2 <;> (first | rfl | exact ak _ _ | first | assumption | rfl | omega | exact ae _ _ | exact af)
 ·exact Dv (Ev.nilW (DR (d := Em [EB [int 0, nq], nq, int 150]) pok [.val (bool (decide (st ≥ 0) && decide (st ≤ 19999))), .val (bool (decide (term ≥ 0) && decide (term ≤ 1024))), .b true] (by kernel_rfl) (.c (DW (Γ' := Γk) (@aO st 0 19999 (jP w))) (.c (gd (!!(decide (st ≥ 0) && decide (st ≤ 19999))) (DW (Γ' := Γk) (@aO term 0 1024 (jP w)))) (.c hc0 .n))) rfl rfl h)) (by first | (have hh : badOf st term = true := hc0; simp only [BI, hh]; rfl) | (have hh : badOf st term = false := hc0; simp only [BI, hh]; rfl)) (by rfl)
theorem rof_ev {w : WorldT} (hw : w.ok) {st term known : Int} (h : List Blk) : Ev Dg Γk 23 [.agg w.l, int st, int term, int known] h (.tup [.agg (tj w st term known).1.l, ab (rdR (tj w st term known).2.1), int (tj w st term known).2.2]) h :=
 rof_a (z8 hw) h
def rV (a : AttT) : Bool := inB a.course 0 4095 && inB a.term 0 1023 && inB a.grade 0 12 && inB a.campus 0 6 && inB a.credits 0 60
def fd (o : Option AttT) (a : AttT) : Bool := !rV a || (match o with | none => false | some b => decide (uL b a ≥ 0))
abbrev rkS (st : Int) (as_ : List (List Dp)) (i : Int) : AS := { t := mkT 61 0 [(1, .ref (.ptr 0 0)), (2, int 0), (10, ab as_), (11, int as_.length), (12, int i)], h := [.var [int st, ab as_]], m := [] }
abbrev rkX : Unit → Exit × AS := fun _ => (.ret, { t := mkT 61 0 [(2, int 150)], h := [], m := [] })
def rkF (p : Option AttT × AttT) (_ : Unit) : Unit ⊕ Unit := bif fd p.1 p.2 then .inr () else .inl ()
theorem rk0 {a : AttT} {x : Bool} : (!(decide (a.course ≥ 0) && decide (a.course ≤ 4095)) || !(decide (a.term ≥ 0) && decide (a.term ≤ 1023)) || !(decide (a.grade ≥ 0) && decide (a.grade ≤ 12)) || !(decide (a.campus ≥ 0) && decide (a.campus ≤ 6)) || !(decide (a.credits ≥ 0) && decide (a.credits ≤ 60)) || decide ((0 : Int) > 0) && x) = fd none a := by simp [fd, rV, inB]
theorem rk1 {a b : AttT} {i : Nat} : (!(decide (a.course ≥ 0) && decide (a.course ≤ 4095)) || !(decide (a.term ≥ 0) && decide (a.term ≤ 1023)) || !(decide (a.grade ≥ 0) && decide (a.grade ≤ 12)) || !(decide (a.campus ≥ 0) && decide (a.campus ≤ 6)) || !(decide (a.credits ≥ 0) && decide (a.credits ≤ 60)) || decide (((i + 1 : Nat) : Int) > 0) && decide (orI (aR b.term a.term) (aR b.course a.course) ≥ 0)) = fd (some b) a := by
 have : decide (((i + 1 : Nat) : Int) > 0) = true := decide_eq_true (by omega)
 rw [this]
 simp [fd, rV, inB, uL]
noncomputable abbrev ba (st : Int) (l : List AttT) (a : AttT) : List Blk := [.var [int st, ab (De Dk l)], .var [int a.course, int a.term, int a.grade, int a.campus, int a.credits]]
theorem yS {st : Int} {l : List AttT} {a : AttT} (hr : aM 0 (l.map Dk) a.row 5) (hlt : decide ((0 : Int) < ((l.map Dk).length : Int)) = true) : (CW Dg Γ0 [] false (sub HF 0) (rkS st (l.map Dk) 0) (ad (fun _ => rkS st (l.map Dk) 1) rkX (rkF (none, a) ())).1 (ad (fun _ => rkS st (l.map Dk) 1) rkX (rkF (none, a) ())).2) := by
 cases hc0 : !(decide (a.course ≥ 0) && decide (a.course ≤ 4095)) || !(decide (a.term ≥ 0) && decide (a.term ≤ 1023)) || !(decide (a.grade ≥ 0) && decide (a.grade ≤ 12)) || !(decide (a.campus ≥ 0) && decide (a.campus ≤ 6)) || !(decide (a.credits ≥ 0) && decide (a.credits ≤ 60)) || decide (0 > 0) && decide (orI (aR (DS l (Dz (Dr Dj (0 - 1))) default).term a.term) (aR (DS l (Dz (Dr Dj (0 - 1))) default).course a.course) ≥ 0)
 ·let v0 := DS l (Dz (Dr Dj (0 - 1))) default
  refine DN (DP (s' := { t := mkT 61 0 [(1, .ref (.ptr 0 0)), (2, int 0), (10, ab (De Dk l)), (11, int (↑(Dh (De Dk l)) : Int)), (12, int (Dr Dj (0 + 1)))], h := [.var [int st, ab (De Dk l)]], m := [] }) (e := DE) pok [.st (.mask [1, 2, 10, 11, 12]), .st (.trim 1)] [.b true, .row (Dk a), .val (bool (decide (a.course ≥ 0) && decide (a.course ≤ 4095))), .val (bool (decide (a.term ≥ 0) && decide (a.term ≤ 1023))), .val (bool (decide (a.grade ≥ 0) && decide (a.grade ≤ 12))), .val (bool (decide (a.campus ≥ 0) && decide (a.campus ≤ 6))), .val (bool (decide (a.credits ≥ 0) && decide (a.credits ≤ 60))), .row (Dk v0), .val (int (orI (aR v0.term a.term) (aR v0.course a.course))), .b false] (by kernel_rfl) (.c hlt (.c hr (.c (@aO (a.course) 0 4095 (ba st l a)) (.c (gd (!!(decide (a.course ≥ 0) && decide (a.course ≤ 4095))) (@aO (a.term) 0 1023 (ba st l a))) (.c (gd (!(!(decide (a.course ≥ 0) && decide (a.course ≤ 4095)) || !(decide (a.term ≥ 0) && decide (a.term ≤ 1023)))) (@aO (a.grade) 0 12 (ba st l a))) (.c (gd (!(!(decide (a.course ≥ 0) && decide (a.course ≤ 4095)) || !(decide (a.term ≥ 0) && decide (a.term ≤ 1023)) || !(decide (a.grade ≥ 0) && decide (a.grade ≤ 12)))) (@aO (a.campus) 0 6 (ba st l a))) (.c (gd (!(!(decide (a.course ≥ 0) && decide (a.course ≤ 4095)) || !(decide (a.term ≥ 0) && decide (a.term ≤ 1023)) || !(decide (a.grade ≥ 0) && decide (a.grade ≤ 12)) || !(decide (a.campus ≥ 0) && decide (a.campus ≤ 6)))) (@aO (a.credits) 0 60 (ba st l a))) (.c (show (!(!(decide (a.course ≥ 0) && decide (a.course ≤ 4095)) || !(decide (a.term ≥ 0) && decide (a.term ≤ 1023)) || !(decide (a.grade ≥ 0) && decide (a.grade ≤ 12)) || !(decide (a.campus ≥ 0) && decide (a.campus ≤ 6)) || !(decide (a.credits ≥ 0) && decide (a.credits ≤ 60))) && decide (0 > 0)) = true → aM (Dr Dj (0 - 1)) (De Dk l) (Dk v0) 5 from (fun hg => (by subst v0; first | assumption | rfl | (exfalso; simp at hg; done) | (simp_all; done)))) (.c (gd (!(!(decide (a.course ≥ 0) && decide (a.course ≤ 4095)) || !(decide (a.term ≥ 0) && decide (a.term ≤ 1023)) || !(decide (a.grade ≥ 0) && decide (a.grade ≤ 12)) || !(decide (a.campus ≥ 0) && decide (a.campus ≤ 6)) || !(decide (a.credits ≥ 0) && decide (a.credits ≤ 60))) && decide (0 > 0)) (@gX v0 a (ba st l a))) (.c hc0 .n))))))))))) ?_ ?_ <;> subst v0 <;> (first | (have hh : fd none a = true := rk0.symm.trans hc0; simp only [rkF, hh, cond_true]; first | done | rfl) | (have hh : fd none a = false := rk0.symm.trans hc0; simp only [rkF, hh, cond_false]; first | done | rfl))
 ·let v0 := DS l (Dz (Dr Dj (0 - 1))) default
  refine DN (DP (s' := { t := mkT 61 0 [(2, int 150)], h := [], m := [] }) (e := EY) pok [.st (.mask [2]), .st (.trim 0)] [.b true, .row (Dk a), .val (bool (decide (a.course ≥ 0) && decide (a.course ≤ 4095))), .val (bool (decide (a.term ≥ 0) && decide (a.term ≤ 1023))), .val (bool (decide (a.grade ≥ 0) && decide (a.grade ≤ 12))), .val (bool (decide (a.campus ≥ 0) && decide (a.campus ≤ 6))), .val (bool (decide (a.credits ≥ 0) && decide (a.credits ≤ 60))), .row (Dk v0), .val (int (orI (aR v0.term a.term) (aR v0.course a.course))), .b true] (by kernel_rfl) (.c hlt (.c hr (.c (@aO (a.course) 0 4095 (ba st l a)) (.c (gd (!!(decide (a.course ≥ 0) && decide (a.course ≤ 4095))) (@aO (a.term) 0 1023 (ba st l a))) (.c (gd (!(!(decide (a.course ≥ 0) && decide (a.course ≤ 4095)) || !(decide (a.term ≥ 0) && decide (a.term ≤ 1023)))) (@aO (a.grade) 0 12 (ba st l a))) (.c (gd (!(!(decide (a.course ≥ 0) && decide (a.course ≤ 4095)) || !(decide (a.term ≥ 0) && decide (a.term ≤ 1023)) || !(decide (a.grade ≥ 0) && decide (a.grade ≤ 12)))) (@aO (a.campus) 0 6 (ba st l a))) (.c (gd (!(!(decide (a.course ≥ 0) && decide (a.course ≤ 4095)) || !(decide (a.term ≥ 0) && decide (a.term ≤ 1023)) || !(decide (a.grade ≥ 0) && decide (a.grade ≤ 12)) || !(decide (a.campus ≥ 0) && decide (a.campus ≤ 6)))) (@aO (a.credits) 0 60 (ba st l a))) (.c (show (!(!(decide (a.course ≥ 0) && decide (a.course ≤ 4095)) || !(decide (a.term ≥ 0) && decide (a.term ≤ 1023)) || !(decide (a.grade ≥ 0) && decide (a.grade ≤ 12)) || !(decide (a.campus ≥ 0) && decide (a.campus ≤ 6)) || !(decide (a.credits ≥ 0) && decide (a.credits ≤ 60))) && decide (0 > 0)) = true → aM (Dr Dj (0 - 1)) (De Dk l) (Dk v0) 5 from (fun hg => (by subst v0; first | assumption | rfl | (exfalso; simp at hg; done) | (simp_all; done)))) (.c (gd (!(!(decide (a.course ≥ 0) && decide (a.course ≤ 4095)) || !(decide (a.term ≥ 0) && decide (a.term ≤ 1023)) || !(decide (a.grade ≥ 0) && decide (a.grade ≤ 12)) || !(decide (a.campus ≥ 0) && decide (a.campus ≤ 6)) || !(decide (a.credits ≥ 0) && decide (a.credits ≤ 60))) && decide (0 > 0)) (@gX v0 a (ba st l a))) (.c hc0 .n))))))))))) ?_ ?_ <;> subst v0 <;> (first | (have hh : fd none a = true := rk0.symm.trans hc0; simp only [rkF, hh, cond_true]; first | done | rfl) | (have hh : fd none a = false := rk0.symm.trans hc0; simp only [rkF, hh, cond_false]; first | done | rfl))
noncomputable abbrev bb (st : Int) (as_ : List (List Dp)) (a : AttT) : List Blk := [.var [int st, ab as_], .var [int a.course, int a.term, int a.grade, int a.campus, int a.credits]]
theorem yT {st : Int} {as_ : List (List Dp)} {a b : AttT} {i : Nat} (hr : aM ((i + 1 : Nat) : Int) as_ a.row 5) (hb : aM (Dj.wrap (((i + 1 : Nat) : Int) - 1)) as_ b.row 5) (hlt : decide (((i + 1 : Nat) : Int) < (as_.length : Int)) = true) (hw : Dj.wrap (((i + 1 : Nat) : Int) + 1) = ((i + 1 + 1 : Nat) : Int)) : (CW Dg Γ0 [] false (sub HF 0) (rkS st as_ ((i + 1 : Nat) : Int)) (ad (fun _ => rkS st as_ ((i + 1 + 1 : Nat) : Int)) rkX (rkF (some b, a) ())).1 (ad (fun _ => rkS st as_ ((i + 1 + 1 : Nat) : Int)) rkX (rkF (some b, a) ())).2) := by
 cases hc0 : !(decide (a.course ≥ 0) && decide (a.course ≤ 4095)) || !(decide (a.term ≥ 0) && decide (a.term ≤ 1023)) || !(decide (a.grade ≥ 0) && decide (a.grade ≤ 12)) || !(decide (a.campus ≥ 0) && decide (a.campus ≤ 6)) || !(decide (a.credits ≥ 0) && decide (a.credits ≤ 60)) || decide ((↑(i + 1) : Int) > 0) && decide (orI (aR b.term a.term) (aR b.course a.course) ≥ 0)
 ·refine DN (DP (s' := { t := mkT 61 0 [(1, .ref (.ptr 0 0)), (2, int 0), (10, ab as_), (11, int (↑(Dh as_) : Int)), (12, int (Dr Dj ((↑(i + 1) : Int) + 1)))], h := [.var [int st, ab as_]], m := [] }) (e := DE) pok [.st (.mask [1, 2, 10, 11, 12]), .st (.trim 1)] [.b true, .row (Dk a), .val (bool (decide (a.course ≥ 0) && decide (a.course ≤ 4095))), .val (bool (decide (a.term ≥ 0) && decide (a.term ≤ 1023))), .val (bool (decide (a.grade ≥ 0) && decide (a.grade ≤ 12))), .val (bool (decide (a.campus ≥ 0) && decide (a.campus ≤ 6))), .val (bool (decide (a.credits ≥ 0) && decide (a.credits ≤ 60))), .row (Dk b), .val (int (orI (aR b.term a.term) (aR b.course a.course))), .b false] (by kernel_rfl) (.c hlt (.c hr (.c (@aO (a.course) 0 4095 (bb st as_ a)) (.c (gd (!!(decide (a.course ≥ 0) && decide (a.course ≤ 4095))) (@aO (a.term) 0 1023 (bb st as_ a))) (.c (gd (!(!(decide (a.course ≥ 0) && decide (a.course ≤ 4095)) || !(decide (a.term ≥ 0) && decide (a.term ≤ 1023)))) (@aO (a.grade) 0 12 (bb st as_ a))) (.c (gd (!(!(decide (a.course ≥ 0) && decide (a.course ≤ 4095)) || !(decide (a.term ≥ 0) && decide (a.term ≤ 1023)) || !(decide (a.grade ≥ 0) && decide (a.grade ≤ 12)))) (@aO (a.campus) 0 6 (bb st as_ a))) (.c (gd (!(!(decide (a.course ≥ 0) && decide (a.course ≤ 4095)) || !(decide (a.term ≥ 0) && decide (a.term ≤ 1023)) || !(decide (a.grade ≥ 0) && decide (a.grade ≤ 12)) || !(decide (a.campus ≥ 0) && decide (a.campus ≤ 6)))) (@aO (a.credits) 0 60 (bb st as_ a))) (.c (show (!(!(decide (a.course ≥ 0) && decide (a.course ≤ 4095)) || !(decide (a.term ≥ 0) && decide (a.term ≤ 1023)) || !(decide (a.grade ≥ 0) && decide (a.grade ≤ 12)) || !(decide (a.campus ≥ 0) && decide (a.campus ≤ 6)) || !(decide (a.credits ≥ 0) && decide (a.credits ≤ 60))) && decide ((↑(i + 1) : Int) > 0)) = true → aM (Dr Dj ((↑(i + 1) : Int) - 1)) as_ (Dk b) 5 from (fun hg => hb)) (.c (gd (!(!(decide (a.course ≥ 0) && decide (a.course ≤ 4095)) || !(decide (a.term ≥ 0) && decide (a.term ≤ 1023)) || !(decide (a.grade ≥ 0) && decide (a.grade ≤ 12)) || !(decide (a.campus ≥ 0) && decide (a.campus ≤ 6)) || !(decide (a.credits ≥ 0) && decide (a.credits ≤ 60))) && decide ((↑(i + 1) : Int) > 0)) (@gX b a (bb st as_ a))) (.c hc0 .n))))))))))) ?_ ?_ <;> (first | (have hh : fd (some b) a = true := (rk1 (i := i)).symm.trans hc0; simp only [rkF, hh, cond_true]; first | done | rfl) | (have hh : fd (some b) a = false := (rk1 (i := i)).symm.trans hc0; simp only [rkF, hh, cond_false]; first | done | rfl | (rw [hw]; rfl)))
 ·refine DN (DP (s' := { t := mkT 61 0 [(2, int 150)], h := [], m := [] }) (e := EY) pok [.st (.mask [2]), .st (.trim 0)] [.b true, .row (Dk a), .val (bool (decide (a.course ≥ 0) && decide (a.course ≤ 4095))), .val (bool (decide (a.term ≥ 0) && decide (a.term ≤ 1023))), .val (bool (decide (a.grade ≥ 0) && decide (a.grade ≤ 12))), .val (bool (decide (a.campus ≥ 0) && decide (a.campus ≤ 6))), .val (bool (decide (a.credits ≥ 0) && decide (a.credits ≤ 60))), .row (Dk b), .val (int (orI (aR b.term a.term) (aR b.course a.course))), .b true] (by kernel_rfl) (.c hlt (.c hr (.c (@aO (a.course) 0 4095 (bb st as_ a)) (.c (gd (!!(decide (a.course ≥ 0) && decide (a.course ≤ 4095))) (@aO (a.term) 0 1023 (bb st as_ a))) (.c (gd (!(!(decide (a.course ≥ 0) && decide (a.course ≤ 4095)) || !(decide (a.term ≥ 0) && decide (a.term ≤ 1023)))) (@aO (a.grade) 0 12 (bb st as_ a))) (.c (gd (!(!(decide (a.course ≥ 0) && decide (a.course ≤ 4095)) || !(decide (a.term ≥ 0) && decide (a.term ≤ 1023)) || !(decide (a.grade ≥ 0) && decide (a.grade ≤ 12)))) (@aO (a.campus) 0 6 (bb st as_ a))) (.c (gd (!(!(decide (a.course ≥ 0) && decide (a.course ≤ 4095)) || !(decide (a.term ≥ 0) && decide (a.term ≤ 1023)) || !(decide (a.grade ≥ 0) && decide (a.grade ≤ 12)) || !(decide (a.campus ≥ 0) && decide (a.campus ≤ 6)))) (@aO (a.credits) 0 60 (bb st as_ a))) (.c (show (!(!(decide (a.course ≥ 0) && decide (a.course ≤ 4095)) || !(decide (a.term ≥ 0) && decide (a.term ≤ 1023)) || !(decide (a.grade ≥ 0) && decide (a.grade ≤ 12)) || !(decide (a.campus ≥ 0) && decide (a.campus ≤ 6)) || !(decide (a.credits ≥ 0) && decide (a.credits ≤ 60))) && decide ((↑(i + 1) : Int) > 0)) = true → aM (Dr Dj ((↑(i + 1) : Int) - 1)) as_ (Dk b) 5 from (fun hg => hb)) (.c (gd (!(!(decide (a.course ≥ 0) && decide (a.course ≤ 4095)) || !(decide (a.term ≥ 0) && decide (a.term ≤ 1023)) || !(decide (a.grade ≥ 0) && decide (a.grade ≤ 12)) || !(decide (a.campus ≥ 0) && decide (a.campus ≤ 6)) || !(decide (a.credits ≥ 0) && decide (a.credits ≤ 60))) && decide ((↑(i + 1) : Int) > 0)) (@gX b a (bb st as_ a))) (.c hc0 .n))))))))))) ?_ ?_ <;> (first | (have hh : fd (some b) a = true := (rk1 (i := i)).symm.trans hc0; simp only [rkF, hh, cond_true]; first | done | rfl) | (have hh : fd (some b) a = false := (rk1 (i := i)).symm.trans hc0; simp only [rkF, hh, cond_false]; first | done | rfl | (rw [hw]; rfl)))
theorem BJ {st : Int} {as_ : List (List Dp)} {i : Nat} (hlt : decide ((i : Int) < (as_.length : Int)) = false) : (CW Dg Γ0 [] false (sub HF 0) (rkS st as_ i) (.exit 0) { t := mkT 61 0 [(2, int 0)], h := [], m := [] }) := by
 exact DN (DP (s' := { t := mkT 61 0 [(2, int 0)], h := [], m := [] }) (e := Ea 0) pok [.st (.mask [2]), .st (.trim 0)] [.b false] (by kernel_rfl) (.c hlt .n)) (by rfl) (by rfl)
def jA (l : List AttT) : List (Option AttT × AttT) := (none :: l.map some).zip l
def BK (l : List AttT) : Exit × AS := cG (.exit 0) (fun _ : Unit => { t := mkT 61 0 [(2, int 0)], h := [], m := [] }) rkX (forL rkF (jA l) ())
theorem rk_cw {st : Int} {l : List AttT} (hl : al l) :
  CW Dg Γ0 [] false (.loop (sub HF 0)) (rkS st (l.map Dk) 0) (BK l).1 (BK l).2 := by
 have hlen : (jA l).length = l.length := by simp [jA]
 have := Hg (P := Dg) (Γ := Γ0) (h0 := []) (rd := false) (c := sub HF 0) (jA l) rkF (fun i _ => rkS st (l.map Dk) (i : Int)) (.exit 0) (fun _ : Unit => { t := mkT 61 0 [(2, int 0)], h := [], m := [] }) rkX (fun _ _ => True) (by simp) (fun _ => by simp) ?_ ?_ () trivial
 ·exact this
 ·intro i p u hp _
  obtain ⟨hi, he⟩ := Dm.1 hp
  rw [hlen] at hi
  have h2 : l[i]? = some p.2 := by subst he; simp [jA, DF hi]
  refine ⟨fun _ _ => trivial, ?_⟩
  obtain ⟨o, a⟩ := p
  cases i with
  | zero =>
   have ho : o = none := by have := congrArg Prod.fst he; simpa [jA] using this.symm
   subst ho
   exact yS (rowAt h2 rfl) (lt_len Dk hi)
  | succ i =>
   have h1 : l[i]? = some (l[i]'(by omega)) := DF _
   have ho : o = some (l[i]'(by omega)) := by have := congrArg Prod.fst he; simpa [jA] using this.symm
   subst ho
   refine yT (rowAt h2 rfl) ?_ (lt_len Dk hi) (wrap_succ hi hl)
   have : Dj.wrap (((i + 1 : Nat) : Int) - 1) = (i : Int) := by
    have := hl; unfold al at this
    rw [wrap_i64 (by omega) (by omega)]; omega
   rw [this]
   exact rowAt h1 rfl
 ·intro u _
  rw [hlen]
  exact BJ (cw Dk l)
def bo (r : RecT) : Int := bif !(decide (r.st ≥ 0) && decide (r.st ≤ 19999)) then 150 else match forL rkF (jA r.a) () with | .inl _ => 0 | .inr _ => 150
theorem fR {r : RecT} (hl : al r.a) (h : List Blk) : (Ev Dg Γ0 30 [.agg r.l] h (int (bo r)) h) := by
 cases hc0 : !(decide (r.st ≥ 0) && decide (r.st ≤ 19999))
 ·have hl1 := (@rk_cw (r.st) (r.a) (hl))
  unfold BK at hl1
  revert hl1
  cases ho2 : forL rkF (jA r.a) () with
  | inl o2_0_0 =>
   intro hl1
   exact Dv (DR (d := int 0) pok [.val (bool (decide (r.st ≥ 0) && decide (r.st ≤ 19999))), .b false, .sum [1, 2, 10, 11, 12] (Ea 0) { t := mkT 61 0 [(2, int 0)], h := [], m := [] }] (by kernel_rfl) (.c (@aO (r.st) 0 19999 ([.var [int r.st, ab (De Dk r.a)]])) (.c hc0 (.c hl1 .n))) rfl rfl h) (by simp only [bo, hc0, ho2, cond_false]) (by rfl)
  | inr o2_1_0 =>
   intro hl1
   exact Dv (DR (d := int 150) pok [.val (bool (decide (r.st ≥ 0) && decide (r.st ≤ 19999))), .b false, .sum [1, 2, 10, 11, 12] (EY) { t := mkT 61 0 [(2, int 150)], h := [], m := [] }] (by kernel_rfl) (.c (@aO (r.st) 0 19999 ([.var [int r.st, ab (De Dk r.a)]])) (.c hc0 (.c hl1 .n))) rfl rfl h) (by simp only [bo, hc0, ho2, cond_false]) (by rfl)
 ·exact Dv (DR (d := int 150) pok [.val (bool (decide (r.st ≥ 0) && decide (r.st ≤ 19999))), .b true] (by kernel_rfl) (.c (@aO (r.st) 0 19999 ([.var [int r.st, ab (De Dk r.a)]])) (.c hc0 .n)) rfl rfl h) (by simp only [bo, hc0, cond_true]) (by rfl)
theorem rk_any (l : List (Option AttT × AttT)) : (match forL rkF l () with | .inl _ => false | .inr _ => true) = l.any fun p => fd p.1 p.2 := by
 induction l with
 | nil => rfl
 | cons p l ih =>
  rw [List.any_cons]
  cases hp : fd p.1 p.2
  ·simp only [forL, rkF, hp, cond_false, Bool.false_or]; exact ih
  ·simp [forL, rkF, hp]
end Go.Vi
