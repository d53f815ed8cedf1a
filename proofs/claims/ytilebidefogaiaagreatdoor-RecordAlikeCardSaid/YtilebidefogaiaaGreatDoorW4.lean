/- RecordAlike: part of the proof: contracts of the functions that the law reaches, and the law. No conditions beyond the given statement's own. -/
import Derived.Test.YtilebidefogaiaaGreatDoorW3
import Derived.Ground.SlsfProg
open Go.IntKind renaming i64 → Dz, wrap → DG
open Go.Proofs.Tryz renaming prog → Du, f120 → Gy, f60 → GD
open Int renaming toNat → DN, tmod → I8, tdiv → Gp
open List renaming drop_zero → Hw, getElem?_eq_some_iff → DA, map → Dt, length → Dw, contains → EF, drop → Gz, all → FC, foldl → D1, filter_cons → FB, length_cons → Ef, mem_cons → Eg, foldl_cons → EJ, length_nil → FF, mergeSort → EK, length_append → ER, filterMap_cons → GJ, flatMap_cons → HX, mem_flatMap → Ht, map_append → Ey, getElem?_cons_succ → EV, set_cons_succ → Jd, cons_append → GZ, map_cons → EH, all_cons → FX
open Go.Vi.CourseT renaming row → DF
open Go.Vi.SysT renaming row → DJ
open Go.Vi.FactT renaming row → DE
open Go.Vi.WorldT renaming l → Eb
open Go.Vi.CW renaming cast → DU, symX → DV
open Go.Exit renaming normal → DQ, exit → Ea
open Go.Vi.D renaming tup → Es, mapRL → El, mapR → DR, one → GO, any → EN, agg → EB
open Go.Vi.Blk renaming inn → DL
open Go.Value renaming oneCell' → Ez
open Bool renaming not_true → F7, false_eq_true → Ei, not_false → FV
open Go.Vi.Ev renaming castH → DI, sym0 → DX, frameX → F2, glob0 → D7
open Go.Vi.AttT renaming row → Dy
open Go.Vi.RuleT renaming fl → DC
open Nat renaming le_trans → Fl, zero_add → FO, mul_le_mul_right → Gj
open Go.Proofs.SlLaysF0 renaming n6 → H7
open Option.some renaming injEq → Dv
open Prod.mk renaming injEq → Dx
open Option renaming map_some → En
open Go Go.Proofs
namespace Go.Vi
set_option maxRecDepth 100000
set_option maxHeartbeats 4000000
abbrev RL := List ReadT × List Int
abbrev eqH (w : WorldT) (rs : List ReadT) (l : List Int) : List Blk := [.var w.l, .vec (ai (rdR rs)) 0 5, .vec (nuV l) 0 1, jV l]
abbrev eiS (w : WorldT) (term known : Int) (ns : List (List Dp)) (rs : List ReadT) (l : List Int) (i : Nat) (k : Int) : AS :=
 { t := mkT 100 0 [(2, int term), (3, int known), (4, .ref (.ptr 0 0)), (8, .ref (.vec 2 0)), (9, .ref (.vec 1 0)), (10, ab ns), (11, .ref (.mp 3)), (12, int i), (45, ab ns), (46, int ns.length), (47, int k)], h := eqH w rs l, m := [] }
abbrev eoS (w : WorldT) (term known : Int) (ns : List (List Dp)) (rs : List ReadT) (l : List Int) (i : Nat) : AS :=
 { t := mkT 100 0 [(2, int term), (3, int known), (4, .ref (.ptr 0 0)), (8, .ref (.vec 2 0)), (9, .ref (.vec 1 0)), (10, ab ns), (11, .ref (.mp 3)), (12, int i)], h := eqH w rs l, m := [] }
abbrev eoE (w : WorldT) (rs : List ReadT) (l : List Int) : AS :=
 { t := mkT 100 0 [(8, .ref (.vec 2 0)), (9, .ref (.vec 1 0))], h := eqH w rs l, m := [] }
def mnI (a b : Int) : Int := if b < a then b else a
def mxI (a b : Int) : Int := if b > a then b else a
def eqHit (w : WorldT) (term known a n : Int) : Bool := (atR 2 (mnI a n) (mxI a n) term known w.f).2 && (atR 2 (mnI a n) (mxI a n) term known w.f).1 == 1
def eqN (w : WorldT) (term known a : Int) (s : RL) (n : Int) : RL :=
 bif s.2.contains n then s else (s.1 ++ [⟨2, mnI a n, mxI a n, term, Dz.wrap (term + 1)⟩], bif eqHit w term known a n then s.2 ++ [n] else s.2)
theorem lkE {h : List Blk} {l : List Int} {c : Int} (hb : h[3]? = some (jV l)) : ar Du h 152 (.ref (.mp 3)) (int c) false = some (bool (l.contains c)) := mU (kt := 3) (et := 4) (by kernel_rfl) (by kernel_rfl) (by kernel_rfl) hb
theorem upE {h : List Blk} {l : List Int} {c : Int} (hb : h[3]? = some (jV l)) (hn : l.contains c = false) : ap Du h 152 (.ref (.mp 3)) (int c) (bool true) = some (h.set 3 (jV (l ++ [c]))) := mV (kt := 3) (et := 4) (by kernel_rfl) (by kernel_rfl) hb (by simpa using hn)
theorem r8 {h : List Blk} {l : List Int} {i e : Nat} {a : Int} (hb : h[2]? = some (.vec (nuV l) e 1)) (ha : l[i]? = some a) : bn Du h 3 (.ref (.vp 2 e (DN (i : Int)) 0)) = some (int a) := by
 have e1 : (nuV l)[DN (i : Int)]? = some [int a] := by simp [ha]
 unfold bn
 simp only [hb, e1, if_true, Hw]
 rfl
theorem wN {l : List Int} {i : Nat} {a : Int} (ha : l[i]? = some a) : inR (i : Int) (nuV l).length = true := by
 have := (DA.1 ha).1
 simp [inR]; omega
theorem bL (rs : List ReadT) (a b c d e : Int) : ai (rdR rs) ++ [[int a, int b, int c, int d, int e]] = ai (rdR (rs ++ [⟨a, b, c, d, e⟩])) := by simp [ai, ReadT.row]
theorem BL {l : List Int} {i : Nat} {a : Int} (ha : l[i]? = some a) : VpIs Du 3 (nuV l) 0 0 (DN (i : Int)) 0 (int a) := by
 have e1 : (nuV l)[DN (i : Int)]? = some [int a] := by simp [ha]
 unfold VpIs
 simp only [e1, if_true, Hw]
 rfl
noncomputable abbrev jd (w : WorldT) (term : Int) (rs : List ReadT) (l : List Int) (a : Int) (n : Int) : List Blk := [.var [ab (Dt DF w.c), ab w.p, ab (Dt DJ w.s), ab (Dt DE w.f)], .vec (ai (rdR rs) ++ [[int 2, int (if false = true then if n > a then n else a else if n < a then n else a), int (if true = true then if n > a then n else a else if n < a then n else a), int term, int (DG Dz (term + 1))]]) 1 5, .vec (nuV l) 0 1, .map (aI l) (Dw l), .var [int 2, int (if false = true then if n > a then n else a else if n < a then n else a), int (if true = true then if n > a then n else a else if n < a then n else a)], .vec [[int 2, int (if false = true then if n > a then n else a else if n < a then n else a), int (if true = true then if n > a then n else a else if n < a then n else a), int term, int (DG Dz (term + 1))]] 0 5]
theorem BM {w : WorldT} (hwf : aj w.f) {term known : Int} {ns : List (List Dp)} {rs : List ReadT} {l : List Int} {i k : Nat} {a n : Int} (ha : l[i]? = some a) (hr : aM (k : Int) ns [vi n] 1) (hlt : decide ((k : Int) < (ns.length : Int)) = true) (hwr : Dz.wrap ((k : Int) + 1) = ((k + 1 : Nat) : Int)) (hb : rs.length ≤ 999998000) (hl : l.length ≤ 70000) : (CW Du Γ0 [] false (sub Gy 1) (eiS w term known ns rs l i k) .normal (eiS w term known ns (eqN w term known a (rs, l) n).1 (eqN w term known a (rs, l) n).2 i ((k + 1 : Nat) : Int))) := by
 cases hc0 : EF l n
 ·cases hc1 : (atR 2 (if false = true then if n > a then n else a else if n < a then n else a) (if true = true then if n > a then n else a else if n < a then n else a) term known w.f).snd && (atR 2 (if false = true then if n > a then n else a else if n < a then n else a) (if true = true then if n > a then n else a else if n < a then n else a) term known w.f).fst == 1
  ·let v0 : List D := [int 2, int (if false = true then if n > a then n else a else if n < a then n else a), int (if true = true then if n > a then n else a else if n < a then n else a), int term, int (DG Dz (term + 1))]
   let v1 : List Blk := [.var (Eb w), .vec (ai (rdR rs)) 0 5, .vec (nuV l) 0 1, .map (aI l) (Dw l)]
   refine DU (DV (s' := { t := mkT 100 0 [(2, int term), (3, int known), (4, .ref (.ptr 0 0)), (8, .ref (.vec 2 0)), (9, .ref (.vec 1 0)), (10, ab ns), (11, .ref (.mp 3)), (12, int (↑i : Int)), (45, ab ns), (46, int (↑(Dw ns) : Int)), (47, int (DG Dz ((↑k : Int) + 1)))], h := [.var [ab (Dt DF w.c), ab w.p, ab (Dt DJ w.s), ab (Dt DE w.f)], .vec (ai (rdR rs) ++ [v0]) 0 5, .vec (nuV l) 0 1, .map (aI l) (Dw l)], m := [] }) (e := DQ) pok [.st (.mask [2, 3, 4, 8, 9, 10, 11, 12, 45, 46, 47]), .st (.ren 1 0), .st (.ren 2 0), .st (.trimV 4)] [.b true, .row [vi n], .ov 53 (bool (EF l n)), .b false, .ov 57 (int a), .ov 63 (int a), .val (Es [int (atR 2 (if false = true then if n > a then n else a else if n < a then n else a) (if true = true then if n > a then n else a else if n < a then n else a) term known w.f).fst, bool (atR 2 (if false = true then if n > a then n else a else if n < a then n else a) (if true = true then if n > a then n else a else if n < a then n else a) term known w.f).snd]), .b false] (by kernel_rfl) (.c hlt (.c hr (.c (show ar Du v1 152 (.ref (.mp 3)) (int n) false = some (bool (EF l n)) from ?_) (.c hc0 (.c (show inR (↑i : Int) (Dw (nuV l)) = true from ?_) (.c (show bn Du v1 3 (.ref (.vp 2 0 (DN (↑i : Int)) 0)) = some (int a) from ?_) (.c (show inR (↑i : Int) (Dw (nuV l)) = true from ?_) (.c (show bn Du v1 3 (.ref (.vp 2 0 (DN (↑i : Int)) 0)) = some (int a) from ?_) (.c (show inR (↑i : Int) (Dw (nuV l)) = true from ?_) (.e (.ref (.vp 2 0 (DN (↑i : Int)) 0)) (.c (show inR (↑i : Int) (Dw (nuV l)) = true from ?_) (.e (.ref (.vp 2 0 (DN (↑i : Int)) 0)) (.c (show (if 0 = 0 then match (nuV l)[DN (↑i : Int)]? with | some row => cr Du 3 (Gz 0 row) | none => none else none) = some (int a) from ?_) (.c (show (if 0 = 0 then match (nuV l)[DN (↑i : Int)]? with | some row => cr Du 3 (Gz 0 row) | none => none else none) = some (int a) from ?_) (.c (show inR (↑i : Int) (Dw (nuV l)) = true from ?_) (.e (.ref (.vp 2 0 (DN (↑i : Int)) 0)) (.c (show inR (↑i : Int) (Dw (nuV l)) = true from ?_) (.e (.ref (.vp 2 0 (DN (↑i : Int)) 0)) (.c (show (if 0 = 0 then match (nuV l)[DN (↑i : Int)]? with | some row => cr Du 3 (Gz 0 row) | none => none else none) = some (int a) from ?_) (.c (show (if 0 = 0 then match (nuV l)[DN (↑i : Int)]? with | some row => cr Du 3 (Gz 0 row) | none => none else none) = some (int a) from ?_) (.c (show (FC [v0] (bw 5) && roomOk (Dw (ai (rdR rs)) + Dw [v0]) 40) = true from ?_) (.c (@yO 2 (if false = true then if n > a then n else a else if n < a then n else a) (if true = true then if n > a then n else a else if n < a then n else a) term known (w.f) hwf (jd w term rs l a n)) (.c hc1 (.c (show Dt (El (au 1 1 0)) (ai (rdR rs) ++ [v0]) = ai (rdR rs) ++ [v0] from ?_) (.c (show Dt (El (au 1 1 0)) (nuV l) = nuV l from ?_) (.c (show Dt (fun e => (DR (au 1 1 0) e.fst, DR (au 1 1 0) e.snd.fst, e.snd.snd)) (aI l) = aI l from ?_) (.c (show [v0] = [v0] from rfl) (.c (show Dt (El (au 2 0 0)) (nuV l) = nuV l from ?_) (.c (show Dt (El (au 2 0 0)) (ai (rdR rs) ++ [v0]) = ai (rdR rs) ++ [v0] from ?_) (.c (show Dt (fun e => (DR (au 2 0 0) e.fst, DR (au 2 0 0) e.snd.fst, e.snd.snd)) (aI l) = aI l from ?_) (.c (show [v0] = [v0] from rfl) (.c (show DL 4 (match 0 == 2 with | true => .vec (nuV l) 0 1 | false => keepX (au 2 0 0) (match 0 == 1 with | true => .vec (ai (rdR rs) ++ [v0]) 0 5 | false => keepX (au 1 1 0) (.var (Eb w)))) = true from rfl) (.c (show DL 4 (match 0 + 1 == 2 with | true => .vec (nuV l) 0 1 | false => keepX (au 2 0 0) (match 0 + 1 == 1 with | true => .vec (ai (rdR rs) ++ [v0]) 0 5 | false => keepX (au 1 1 0) (.vec (ai (rdR rs) ++ [v0]) 1 5))) = true from ?_) (.c (show DL 4 (match 0 + 1 + 1 == 2 with | true => .vec (nuV l) 0 1 | false => keepX (au 2 0 0) (match 0 + 1 + 1 == 1 with | true => .vec (ai (rdR rs) ++ [v0]) 0 5 | false => keepX (au 1 1 0) (.vec (nuV l) 0 1))) = true from ?_) (.c (show DL 4 (match 0 + 1 + 1 + 1 == 2 with | true => .vec (nuV l) 0 1 | false => keepX (au 2 0 0) (match 0 + 1 + 1 + 1 == 1 with | true => .vec (ai (rdR rs) ++ [v0]) 0 5 | false => keepX (au 1 1 0) (.map (aI l) (Dw l)))) = true from ?_) .n)))))))))))))))))))))))))))))))))))) (by subst v0 v1; first | (simp only []; first | done | rfl) | rfl | (have hh : eqHit w term known a n = true := hc1; simp only [hwr, eqN, hc0, hh, cond_true, cond_false, bL, aJ]; first | done | rfl) | (have hh : eqHit w term known a n = false := hc1; simp only [hwr, eqN, hc0, hh, cond_false, bL]; first | done | rfl)) (by subst v0 v1; first | (simp only [hwr, eqN, hc0]; first | done | rfl) | rfl | (have hh : eqHit w term known a n = true := hc1; simp only [hwr, eqN, hc0, hh, cond_true, cond_false, bL, aJ]; first | done | rfl) | (have hh : eqHit w term known a n = false := hc1; simp only [hwr, eqN, hc0, hh, cond_false, bL]; first | done | rfl)) <;> subst v0 v1 <;> (first | assumption | rfl | omega | exact lkE (l := l) rfl | exact upE (l := l) rfl (by assumption) | exact r8 rfl ha | exact BL ha | exact wN ha | exact ce _ _ | exact bI _ _ | exact br _ _ | exact bh _ _ | (rw [aJ]; exact br _ _) | (rw [aJ]; exact bh _ _) | exact af _ _ | exact ah | (rw [bL]; exact af _ _) | (simp only [bL]; exact ah) | (simp [bw, GO, Ez, roomOk]; omega))
  ·let v0 : List D := [int 2, int (mnI a n), int (mxI a n), int term, int (DG Dz (term + 1))]
   let v1 : List D := [int (atR 2 (if false = true then if n > a then n else a else if n < a then n else a) (if true = true then if n > a then n else a else if n < a then n else a) term known w.f).fst, bool (atR 2 (if false = true then if n > a then n else a else if n < a then n else a) (if true = true then if n > a then n else a else if n < a then n else a) term known w.f).snd]
   let v2 : List D := [int 2, int (if false = true then if n > a then n else a else if n < a then n else a), int (if true = true then if n > a then n else a else if n < a then n else a), int term, int (DG Dz (term + 1))]
   let v3 : List D := [int 2, int (if false = true then if n > a then n else a else if n < a then n else a), int (if true = true then if n > a then n else a else if n < a then n else a)]
   let v4 : List Blk := [.var (Eb w), .vec (ai (rdR rs)) 0 5, .vec (nuV l) 0 1, .map (aI l) (Dw l)]
   refine DU (DV (s' := { t := mkT 100 0 [(2, int term), (3, int known), (4, .ref (.ptr 0 0)), (8, .ref (.vec 2 0)), (9, .ref (.vec 1 0)), (10, ab ns), (11, .ref (.mp 3)), (12, int (↑i : Int)), (45, ab ns), (46, int (↑(Dw ns) : Int)), (47, int (DG Dz ((↑k : Int) + 1)))], h := [.var [ab (Dt DF w.c), ab w.p, ab (Dt DJ w.s), ab (Dt DE w.f)], .vec (ai (rdR rs) ++ [v0]) 0 5, .vec (nuV l ++ [[int n]]) 0 1, .map (aI (l ++ [n])) (Dw (l ++ [n]))], m := [] }) (e := DQ) pok [.st (.mask [2, 3, 4, 8, 9, 10, 11, 12, 45, 46, 47]), .st (.ren 1 0), .st (.ren 2 0), .st (.trimV 4)] [.b true, .row [vi n], .ov 53 (bool (EF l n)), .b false, .ov 57 (int a), .ov 63 (int a), .val (Es v1), .b true, .oh 10089 EN [.var (Eb w), .vec (ai (rdR rs) ++ [v0]) 1 5, .vec (nuV l) 0 1, jV (l ++ [n]), .var [int 2, int (mnI a n), int (mxI a n)], .vec [v0] 0 5]] (by kernel_rfl) (.c hlt (.c hr (.c (show ar Du v4 152 (.ref (.mp 3)) (int n) false = some (bool (EF l n)) from ?_) (.c hc0 (.c (show inR (↑i : Int) (Dw (nuV l)) = true from ?_) (.c (show bn Du v4 3 (.ref (.vp 2 0 (DN (↑i : Int)) 0)) = some (int a) from ?_) (.c (show inR (↑i : Int) (Dw (nuV l)) = true from ?_) (.c (show bn Du v4 3 (.ref (.vp 2 0 (DN (↑i : Int)) 0)) = some (int a) from ?_) (.c (show inR (↑i : Int) (Dw (nuV l)) = true from ?_) (.e (.ref (.vp 2 0 (DN (↑i : Int)) 0)) (.c (show inR (↑i : Int) (Dw (nuV l)) = true from ?_) (.e (.ref (.vp 2 0 (DN (↑i : Int)) 0)) (.c (show (if 0 = 0 then match (nuV l)[DN (↑i : Int)]? with | some row => cr Du 3 (Gz 0 row) | none => none else none) = some (int a) from ?_) (.c (show (if 0 = 0 then match (nuV l)[DN (↑i : Int)]? with | some row => cr Du 3 (Gz 0 row) | none => none else none) = some (int a) from ?_) (.c (show inR (↑i : Int) (Dw (nuV l)) = true from ?_) (.e (.ref (.vp 2 0 (DN (↑i : Int)) 0)) (.c (show inR (↑i : Int) (Dw (nuV l)) = true from ?_) (.e (.ref (.vp 2 0 (DN (↑i : Int)) 0)) (.c (show (if 0 = 0 then match (nuV l)[DN (↑i : Int)]? with | some row => cr Du 3 (Gz 0 row) | none => none else none) = some (int a) from ?_) (.c (show (if 0 = 0 then match (nuV l)[DN (↑i : Int)]? with | some row => cr Du 3 (Gz 0 row) | none => none else none) = some (int a) from ?_) (.c (show (FC [v2] (bw 5) && roomOk (Dw (ai (rdR rs)) + Dw [v2]) 40) = true from ?_) (.c (@yO 2 (if false = true then if n > a then n else a else if n < a then n else a) (if true = true then if n > a then n else a else if n < a then n else a) term known (w.f) hwf (jd w term rs l a n)) (.c hc1 (.c (show ap Du (jd w term rs l a n) 152 (.ref (.mp 3)) (int n) (evalD Γ0 (EN :: EN :: int term :: int known :: .ref (.ptr 0 0) :: EN :: EN :: EN :: .ref (.vec 2 0) :: .ref (.vec 1 1) :: ab ns :: .ref (.mp 3) :: int (↑i : Int) :: EN :: int n :: .ref (.ptr 4 0) :: int (atR 2 (if false = true then if n > a then n else a else if n < a then n else a) (if true = true then if n > a then n else a else if n < a then n else a) term known w.f).fst :: bool (atR 2 (if false = true then if n > a then n else a else if n < a then n else a) (if true = true then if n > a then n else a else if n < a then n else a) term known w.f).snd :: EN :: EN :: EN :: EN :: EN :: EN :: EN :: EN :: EN :: EN :: EN :: EN :: EN :: EN :: EN :: EN :: EN :: EN :: EN :: EN :: EN :: EN :: EN :: EN :: EN :: EN :: EN :: ab ns :: int (↑(Dw ns) : Int) :: int (↑k : Int) :: bool (decide ((↑k : Int) < (↑(Dw ns) : Int))) :: D.ep [vi n] :: int n :: .ref (.mp 3) :: int n :: bool (EF l n) :: .ref (.vec 2 0) :: int (↑i : Int) :: .ref (.vp 2 0 (DN (↑i : Int)) 0) :: int a :: int n :: int (if false = true then if n > a then n else a else if n < a then n else a) :: .ref (.vec 2 0) :: int (↑i : Int) :: .ref (.vp 2 0 (DN (↑i : Int)) 0) :: int a :: int n :: int (if true = true then if n > a then n else a else if n < a then n else a) :: EB v3 :: .ref (.vec 1 0) :: EB v3 :: int term :: int term :: int (DG Dz (term + 1)) :: EB v2 :: .ref (.vec 5 0) :: .ref (.vec 1 1) :: Es v1 :: .ref (.ptr 0 3) :: ab (Dt DE w.f) :: EB v3 :: int term :: int known :: Es v1 :: mkT 18 0 [(0, int (atR 2 (if false = true then if n > a then n else a else if n < a then n else a) (if true = true then if n > a then n else a else if n < a then n else a) term known w.f).fst), (1, bool (atR 2 (if false = true then if n > a then n else a else if n < a then n else a) (if true = true then if n > a then n else a else if n < a then n else a) term known w.f).snd), (2, bool (atR 2 (if false = true then if n > a then n else a else if n < a then n else a) (if true = true then if n > a then n else a else if n < a then n else a) term known w.f).snd), (3, bool (atR 2 (if false = true then if n > a then n else a else if n < a then n else a) (if true = true then if n > a then n else a else if n < a then n else a) term known w.f).snd), (4, D.grd (atR 2 (if false = true then if n > a then n else a else if n < a then n else a) (if true = true then if n > a then n else a else if n < a then n else a) term known w.f).snd (int (atR 2 (if false = true then if n > a then n else a else if n < a then n else a) (if true = true then if n > a then n else a else if n < a then n else a) term known w.f).fst)), (5, D.grd (atR 2 (if false = true then if n > a then n else a else if n < a then n else a) (if true = true then if n > a then n else a else if n < a then n else a) term known w.f).snd (bool ((atR 2 (if false = true then if n > a then n else a else if n < a then n else a) (if true = true then if n > a then n else a else if n < a then n else a) term known w.f).fst == 1))), (6, bool ((atR 2 (if false = true then if n > a then n else a else if n < a then n else a) (if true = true then if n > a then n else a else if n < a then n else a) term known w.f).snd && (atR 2 (if false = true then if n > a then n else a else if n < a then n else a) (if true = true then if n > a then n else a else if n < a then n else a) term known w.f).fst == 1)), (7, .ref (.mp 3)), (8, int n)]) (Operand.const (Value.bool true))) = some [.var (Eb w), .vec (ai (rdR rs) ++ [v0]) 1 5, .vec (nuV l) 0 1, .map (aI (l ++ [n])) (Dw (l ++ [n])), .var [int 2, int (mnI a n), int (mxI a n)], .vec [v0] 0 5] from ?_) (.c (show (FC [[int n]] (bw 1) && roomOk (Dw (nuV l) + Dw [[int n]]) 8) = true from ?_) (.c (show Dt (El (au 1 1 0)) (ai (rdR rs) ++ [v0]) = ai (rdR rs) ++ [v0] from ?_) (.c (show Dt (El (au 1 1 0)) (nuV l ++ [[int n]]) = nuV l ++ [[int n]] from ?_) (.c (show Dt (fun e => (DR (au 1 1 0) e.fst, DR (au 1 1 0) e.snd.fst, e.snd.snd)) (aI (l ++ [n])) = aI (l ++ [n]) from ?_) (.c (show [v0] = [v0] from rfl) (.c (show [[int n]] = [[int n]] from rfl) (.c (show Dt (El (au 2 1 0)) (nuV l ++ [[int n]]) = nuV l ++ [[int n]] from ?_) (.c (show Dt (El (au 2 1 0)) (ai (rdR rs) ++ [v0]) = ai (rdR rs) ++ [v0] from ?_) (.c (show Dt (fun e => (DR (au 2 1 0) e.fst, DR (au 2 1 0) e.snd.fst, e.snd.snd)) (aI (l ++ [n])) = aI (l ++ [n]) from ?_) (.c (show [v0] = [v0] from rfl) (.c (show [[int n]] = [[int n]] from rfl) (.c (show DL 4 (match 0 == 2 with | true => .vec (nuV l ++ [[int n]]) 0 1 | false => keepX (au 2 1 0) (match 0 == 1 with | true => .vec (ai (rdR rs) ++ [v0]) 0 5 | false => keepX (au 1 1 0) (.var (Eb w)))) = true from rfl) (.c (show DL 4 (match 0 + 1 == 2 with | true => .vec (nuV l ++ [[int n]]) 0 1 | false => keepX (au 2 1 0) (match 0 + 1 == 1 with | true => .vec (ai (rdR rs) ++ [v0]) 0 5 | false => keepX (au 1 1 0) (.vec (ai (rdR rs) ++ [v0]) 1 5))) = true from ?_) (.c (show DL 4 (match 0 + 1 + 1 == 2 with | true => .vec (nuV l ++ [[int n]]) 0 1 | false => keepX (au 2 1 0) (match 0 + 1 + 1 == 1 with | true => .vec (ai (rdR rs) ++ [v0]) 0 5 | false => keepX (au 1 1 0) (.vec (nuV l ++ [[int n]]) 1 1))) = true from ?_) (.c (show DL 4 (match 0 + 1 + 1 + 1 == 2 with | true => .vec (nuV l ++ [[int n]]) 0 1 | false => keepX (au 2 1 0) (match 0 + 1 + 1 + 1 == 1 with | true => .vec (ai (rdR rs) ++ [v0]) 0 5 | false => keepX (au 1 1 0) (.map (aI (l ++ [n])) (Dw (l ++ [n]))))) = true from ?_) .n)))))))))))))))))))))))))))))))))))))))) (by subst v0 v1 v2 v3 v4; first | (simp only []; first | done | rfl) | rfl | (have hh : eqHit w term known a n = true := hc1; simp only [hwr, eqN, hc0, hh, cond_true, cond_false, bL, aJ]; first | done | rfl) | (have hh : eqHit w term known a n = false := hc1; simp only [hwr, eqN, hc0, hh, cond_false, bL]; first | done | rfl)) (by subst v0 v1 v2 v3 v4; first | (simp only [hwr, eqN, hc0]; first | done | rfl) | rfl | (have hh : eqHit w term known a n = true := hc1; simp only [hwr, eqN, hc0, hh, cond_true, cond_false, bL, aJ]; first | done | rfl) | (have hh : eqHit w term known a n = false := hc1; simp only [hwr, eqN, hc0, hh, cond_false, bL]; first | done | rfl)) <;> subst v0 v1 v2 v3 v4 <;> (first | assumption | rfl | omega | exact lkE (l := l) rfl | exact upE (l := l) rfl (by assumption) | exact r8 rfl ha | exact BL ha | exact wN ha | exact ce _ _ | exact bI _ _ | exact br _ _ | exact bh _ _ | (rw [aJ]; exact br _ _) | (rw [aJ]; exact bh _ _) | exact af _ _ | exact ah | (rw [bL]; exact af _ _) | (simp only [bL]; exact ah) | (simp [bw, GO, Ez, roomOk]; omega))
 ·refine DU (DV (s' := { t := mkT 100 0 [(2, int term), (3, int known), (4, .ref (.ptr 0 0)), (8, .ref (.vec 2 0)), (9, .ref (.vec 1 0)), (10, ab ns), (11, .ref (.mp 3)), (12, int (↑i : Int)), (45, ab ns), (46, int (↑(Dw ns) : Int)), (47, int (DG Dz ((↑k : Int) + 1)))], h := [.var [ab (Dt DF w.c), ab w.p, ab (Dt DJ w.s), ab (Dt DE w.f)], .vec (ai (rdR rs)) 0 5, .vec (nuV l) 0 1, .map (aI l) (Dw l)], m := [] }) (e := DQ) pok [.st (.mask [2, 3, 4, 8, 9, 10, 11, 12, 45, 46, 47]), .st (.ren 1 0), .st (.ren 2 0), .st (.trimV 4)] [.b true, .row [vi n], .ov 53 (bool (EF l n)), .b true] (by kernel_rfl) (.c hlt (.c hr (.c (show ar Du [.var (Eb w), .vec (ai (rdR rs)) 0 5, .vec (nuV l) 0 1, .map (aI l) (Dw l)] 152 (.ref (.mp 3)) (int n) false = some (bool (EF l n)) from ?_) (.c hc0 (.c (show Dt (El (au 1 0 0)) (ai (rdR rs)) = ai (rdR rs) from ?_) (.c (show Dt (El (au 1 0 0)) (nuV l) = nuV l from ?_) (.c (show Dt (fun e => (DR (au 1 0 0) e.fst, DR (au 1 0 0) e.snd.fst, e.snd.snd)) (aI l) = aI l from ?_) (.c (show Dt (El (au 2 0 0)) (nuV l) = nuV l from ?_) (.c (show Dt (El (au 2 0 0)) (ai (rdR rs)) = ai (rdR rs) from ?_) (.c (show Dt (fun e => (DR (au 2 0 0) e.fst, DR (au 2 0 0) e.snd.fst, e.snd.snd)) (aI l) = aI l from ?_) (.c (show DL 4 (match 0 == 2 with | true => .vec (nuV l) 0 1 | false => keepX (au 2 0 0) (match 0 == 1 with | true => .vec (ai (rdR rs)) 0 5 | false => keepX (au 1 0 0) (.var (Eb w)))) = true from rfl) (.c (show DL 4 (match 0 + 1 == 2 with | true => .vec (nuV l) 0 1 | false => keepX (au 2 0 0) (match 0 + 1 == 1 with | true => .vec (ai (rdR rs)) 0 5 | false => keepX (au 1 0 0) (.vec (ai (rdR rs)) 0 5))) = true from ?_) (.c (show DL 4 (match 0 + 1 + 1 == 2 with | true => .vec (nuV l) 0 1 | false => keepX (au 2 0 0) (match 0 + 1 + 1 == 1 with | true => .vec (ai (rdR rs)) 0 5 | false => keepX (au 1 0 0) (.vec (nuV l) 0 1))) = true from ?_) (.c (show DL 4 (match 0 + 1 + 1 + 1 == 2 with | true => .vec (nuV l) 0 1 | false => keepX (au 2 0 0) (match 0 + 1 + 1 + 1 == 1 with | true => .vec (ai (rdR rs)) 0 5 | false => keepX (au 1 0 0) (.map (aI l) (Dw l)))) = true from ?_) .n))))))))))))))) (by first | (simp only []; first | done | rfl) | rfl | (have hh : eqHit w term known a n = true := hc1; simp only [hwr, eqN, hc0, hh, cond_true, cond_false, bL, aJ]; first | done | rfl) | (have hh : eqHit w term known a n = false := hc1; simp only [hwr, eqN, hc0, hh, cond_false, bL]; first | done | rfl)) (by first | (simp only [hwr, eqN, hc0, cond_true]; first | done | rfl) | rfl | (have hh : eqHit w term known a n = true := hc1; simp only [hwr, eqN, hc0, hh, cond_true, cond_false, bL, aJ]; first | done | rfl) | (have hh : eqHit w term known a n = false := hc1; simp only [hwr, eqN, hc0, hh, cond_false, bL]; first | done | rfl)) <;> (first | assumption | rfl | omega | exact lkE (l := l) rfl | exact upE (l := l) rfl (by assumption) | exact r8 rfl ha | exact BL ha | exact wN ha | exact ce _ _ | exact bI _ _ | exact br _ _ | exact bh _ _ | (rw [aJ]; exact br _ _) | (rw [aJ]; exact bh _ _) | exact af _ _ | exact ah | (rw [bL]; exact af _ _) | (simp only [bL]; exact ah) | (simp [bw, GO, Ez, roomOk]; omega))
theorem BN {w : WorldT} {term known : Int} {ns : List (List Dp)} {rs : List ReadT} {l : List Int} {i k : Nat} (hlt : decide ((k : Int) < (ns.length : Int)) = false) : (CW Du Γ0 [] false (sub Gy 1) (eiS w term known ns rs l i k) (.exit 2) (eoS w term known ns rs l i)) := by
 exact DU (DV (s' := { t := mkT 100 0 [(2, int term), (3, int known), (4, .ref (.ptr 0 0)), (8, .ref (.vec 2 0)), (9, .ref (.vec 1 0)), (10, ab ns), (11, .ref (.mp 3)), (12, int (↑i : Int))], h := [.var [ab (Dt DF w.c), ab w.p, ab (Dt DJ w.s), ab (Dt DE w.f)], .vec (ai (rdR rs)) 0 5, .vec (nuV l) 0 1, .map (aI l) (Dw l)], m := [] }) (e := Ea 2) pok [.st (.mask [2, 3, 4, 8, 9, 10, 11, 12])] [.b false] (by kernel_rfl) (.c hlt .n)) (by rfl) (by rfl)
theorem wO {w : WorldT} {term known a : Int} (s : RL) (n : Int) : (eqN w term known a s n).1.length ≤ s.1.length + 1 ∧ s.2.length ≤ (eqN w term known a s n).2.length ∧ (eqN w term known a s n).2.length ≤ s.2.length + 1 := by
 unfold eqN
 cases s.2.contains n <;> simp
 cases eqHit w term known a n <;> simp
theorem BO {w : WorldT} {term known a b : Int} {s : RL} {n : Int} {i : Nat} (h : s.2[i]? = some b) : (eqN w term known a s n).2[i]? = some b := by
 have hi := (DA.1 h).1
 unfold eqN
 cases s.2.contains n <;> simp [h]
 cases eqHit w term known a n <;> simp [h, List.getElem?_append_left hi]
theorem ei_cw {w : WorldT} (hwf : aj w.f) {term known : Int} {ns : List Int} (hn : ns.length ≤ 1000) {rs : List ReadT} {l : List Int} {i : Nat} {a : Int} (ha : l[i]? = some a) (hb : rs.length ≤ 999990000) (hl : l.length ≤ 60000) :
  CW Du Γ0 [] false (.loop (sub Gy 1)) (eiS w term known (ns.map fun n => [vi n]) rs l i 0) (.exit 2) (eoS w term known (ns.map fun n => [vi n]) (ns.foldl (eqN w term known a) (rs, l)).1 (ns.foldl (eqN w term known a) (rs, l)).2 i) := by
 have hs : aj ns := by unfold aj; omega
 have := CW.each (P := Du) (Γ := Γ0) (h0 := []) (rd := false) (c := sub Gy 1) (σ := RL) (ρ := Empty) ns (fun n s => .inl (eqN w term known a s n))
  (fun k s => eiS w term known (ns.map fun n => [vi n]) s.1 s.2 i (k : Int)) (.exit 2) (fun s => eoS w term known (ns.map fun n => [vi n]) s.1 s.2 i) (fun r => r.elim)
  (fun k s => s.2[i]? = some a ∧ s.1.length ≤ rs.length + k ∧ s.2.length ≤ l.length + k) (by simp) (fun r => r.elim) ?_ ?_ (rs, l) ⟨ha, by simp, by simp⟩
 ·rw [aY] at this
  exact this
 ·intro k n s hnk hs'
  have hi := (DA.1 hnk).1
  refine ⟨fun s' h => by cases h; have := wO (w := w) (term := term) (known := known) (a := a) s n; exact ⟨BO hs'.1, by omega, by omega⟩, BM hwf hs'.1 (rowAt (row := fun n => [vi n]) hnk rfl) (lt_len (fun n => [vi n]) hi) (wrap_succ hi hs) (by omega) (by omega)⟩
 ·intro s _
  exact BN (bS (fun n => [vi n]) ns)
def ib (w : WorldT) (term known : Int) (ns : List Int) (a : Int) (s : RL) : RL := ns.foldl (eqN w term known a) s
theorem BP {w : WorldT} (hwf : aj w.f) {term known : Int} {ns : List Int} (hn : ns.length ≤ 1000) {rs : List ReadT} {l : List Int} {i : Nat} {a : Int} (ha : l[i]? = some a) (hwr : Dz.wrap ((i : Int) + 1) = ((i + 1 : Nat) : Int)) (hlt : decide ((i : Int) < ((nuV l).length : Int)) = true) (hb : rs.length ≤ 999990000) (hl : l.length ≤ 60000) : (CW Du Γ0 [] false (sub Gy 0) (eoS w term known (ns.map fun n => [vi n]) rs l i) .normal (eoS w term known (ns.map fun n => [vi n]) (ib w term known ns a (rs, l)).1 (ib w term known ns a (rs, l)).2 (i + 1))) := by
 have hl0 := (@ei_cw (w) (hwf) (term) (known) (ns) (hn) (rs) (l) (i) (a) (ha) (hb) (hl))
 let v0 := D1 (eqN w term known a) (rs, l) ns
 refine DU (DV (s' := { t := mkT 100 0 [(2, int term), (3, int known), (4, .ref (.ptr 0 0)), (8, .ref (.vec 2 0)), (9, .ref (.vec 1 0)), (10, ab (Dt (fun n => [vi n]) ns)), (11, .ref (.mp 3)), (12, int (DG Dz ((↑i : Int) + 1)))], h := [.var [ab (Dt DF w.c), ab w.p, ab (Dt DJ w.s), ab (Dt DE w.f)], .vec (ai (rdR v0.fst)) 0 5, .vec (nuV v0.snd) 0 1, .map (aI v0.snd) (Dw v0.snd)], m := [] }) (e := DQ) pok [.st (.mask [2, 3, 4, 8, 9, 10, 11, 12])] [.b true, .sum [2, 3, 4, 8, 9, 10, 11, 12, 45, 46, 47] (Ea 2) { t := mkT 100 0 [(2, int term), (3, int known), (4, .ref (.ptr 0 0)), (8, .ref (.vec 2 0)), (9, .ref (.vec 1 0)), (10, ab (Dt (fun n => [vi n]) ns)), (11, .ref (.mp 3)), (12, int (↑i : Int))], h := [.var (Eb w), .vec (ai (rdR v0.fst)) 0 5, .vec (nuV v0.snd) 0 1, .map (aI v0.snd) (Dw v0.snd)], m := [] }] (by kernel_rfl) (.c hlt (.c hl0 .n))) ?_ ?_ <;> subst v0 <;> (first | rfl | (simp only [hwr]; rfl))
theorem BQ {w : WorldT} {term known : Int} {ns : List (List Dp)} {rs : List ReadT} {l : List Int} {i : Nat} (hlt : decide ((i : Int) < ((nuV l).length : Int)) = false) : (CW Du Γ0 [] false (sub Gy 0) (eoS w term known ns rs l i) (.exit 0) (eoE w rs l)) := by
 exact DU (DV (s' := { t := mkT 100 0 [(8, .ref (.vec 2 0)), (9, .ref (.vec 1 0))], h := [.var [ab (Dt DF w.c), ab w.p, ab (Dt DJ w.s), ab (Dt DE w.f)], .vec (ai (rdR rs)) 0 5, .vec (nuV l) 0 1, .map (aI l) (Dw l)], m := [] }) (e := Ea 0) pok [.st (.mask [8, 9])] [.b false] (by kernel_rfl) (.c hlt .n)) (by rfl) (by rfl)
end Go.Vi
open Go Go.Proofs
namespace Go.Vi
set_option maxRecDepth 100000
set_option maxHeartbeats 4000000
def fj (ns l : List Int) : Nat := (ns.filter fun x => !l.contains x).length
theorem tz (l : List Int) (n : Int) : ∀ ns : List Int, fj ns (l ++ [n]) ≤ fj ns l
 | [] => by simp [fj]
 | a :: ns => by
  have ih := tz l n ns
  unfold fj at *
  by_cases h : l.contains a = true
  ·have h2 : (l ++ [n]).contains a = true := by simp at h ⊢; exact .inl h
   simp only [FB, h, h2, F7, Ei, if_false]; exact ih
  ·have h1 : l.contains a = false := by simpa using h
   simp only [FB, h1, FV, if_true, Ef]
   split
   ·simp only [Ef]; omega
   ·omega
theorem tA {l : List Int} {n : Int} (hn : l.contains n = false) : ∀ {ns : List Int}, n ∈ ns → fj ns (l ++ [n]) + 1 ≤ fj ns l
 | a :: ns, h => by
  by_cases ha : a = n
  ·subst ha
   have ih := tz l a ns
   have h2 : (l ++ [a]).contains a = true := by simp
   unfold fj at *
   simp only [FB, h2, hn, F7, FV, Ei, if_false, if_true, Ef]
   omega
  ·have h' : n ∈ ns := (Eg.1 h).resolve_left fun e => ha e.symm
   have ih := tA hn h'
   have h2 : (l ++ [n]).contains a = l.contains a := by
    rw [Bool.eq_iff_iff]; simp [ha]
   unfold fj at *
   simp only [FB, h2]
   split
   ·simp only [Ef]; omega
   ·exact ih
theorem wP {w : WorldT} {term known a n : Int} {ns : List Int} (hn : n ∈ ns) (s : RL) : fj ns (eqN w term known a s n).2 + (eqN w term known a s n).2.length ≤ fj ns s.2 + s.2.length := by
 unfold eqN
 cases hc : s.2.contains n
 ·cases eqHit w term known a n
  ·simp
  ·have := tA hc hn
   simp; omega
 ·simp
theorem fI {w : WorldT} {term known a : Int} {ns : List Int} : ∀ (ms : List Int), (∀ n ∈ ms, n ∈ ns) → ∀ s : RL, fj ns (ms.foldl (eqN w term known a) s).2 + (ms.foldl (eqN w term known a) s).2.length ≤ fj ns s.2 + s.2.length ∧ (ms.foldl (eqN w term known a) s).1.length ≤ s.1.length + ms.length
 | [], _, s => by simp
 | n :: ms, h, s => by
  have h1 := wP (w := w) (term := term) (known := known) (a := a) (h n (by simp)) s
  have h2 := fI (w := w) (term := term) (known := known) (a := a) ms (fun x hx => h x (List.mem_cons_of_mem _ hx)) (eqN w term known a s n)
  have h3 := wO (w := w) (term := term) (known := known) (a := a) s n
  simp only [EJ, Ef]
  omega
def eqOut (w : WorldT) (term known : Int) (ns : List Int) : Nat → Nat → RL → RL
 | 0, _, s => s
 | f + 1, i, s => match s.2[i]? with
  | some a => eqOut w term known ns f (i + 1) (ib w term known ns a s)
  | none => s
theorem eF {w : WorldT} {term known : Int} {ns : List Int} {f i : Nat} {s : RL} (h : s.2[i]? = none) : eqOut w term known ns f i s = s := by
 cases f <;> simp [eqOut, h]
theorem eo_g {w : WorldT} (hwf : aj w.f) {term known : Int} {ns : List Int} (hn : ns.length ≤ 1000) {rs : List ReadT} {l : List Int} (hb : rs.length ≤ 900000000) (hl : fj ns l + l.length ≤ ns.length + 1) :
  CW Du Γ0 [] false (.loop (sub Gy 0)) (eoS w term known (ns.map fun n => [vi n]) rs l 0) (.exit 0) (eoE w (eqOut w term known ns (ns.length + 1) 0 (rs, l)).1 (eqOut w term known ns (ns.length + 1) 0 (rs, l)).2) := by
 refine CW.loop (ι := { p : Nat × Nat × RL // p.2.1 + p.1 = ns.length + 1 ∧ fj ns p.2.2.2 + p.2.2.2.length ≤ ns.length + 1 ∧ p.2.2.1.length ≤ rs.length + p.2.1 * 1000 ∧ eqOut w term known ns p.1 p.2.1 p.2.2 = eqOut w term known ns (ns.length + 1) 0 (rs, l) })
  (fun p => eoS w term known (ns.map fun n => [vi n]) p.1.2.2.1 p.1.2.2.2 p.1.2.1) (fun _ => (.exit 0, eoE w (eqOut w term known ns (ns.length + 1) 0 (rs, l)).1 (eqOut w term known ns (ns.length + 1) 0 (rs, l)).2)) (fun p => p.1.1) ?_ ⟨(ns.length + 1, 0, (rs, l)), by simp, hl, by simp, rfl⟩
 rintro ⟨⟨f, i, s⟩, h1, h2, h3, h4⟩
 simp only at h1 h2 h3 h4 ⊢
 cases ha : s.2[i]? with
 | none =>
  refine .inr ⟨by simp, ?_⟩
  rw [eF ha] at h4
  rw [← h4]
  refine BQ ?_
  rw [li]
  have := List.getElem?_eq_none_iff.1 ha
  exact decide_eq_false (by omega)
 | some a =>
  have hi := (DA.1 ha).1
  obtain ⟨g, rfl⟩ : ∃ g, f = g + 1 := ⟨f - 1, by omega⟩
  have hf := fI (w := w) (term := term) (known := known) (a := a) (ns := ns) ns (fun _ h => h) s
  refine .inl ⟨⟨(g, i + 1, ib w term known ns a s), by simp only; omega, by simp only [ib]; omega, by simp only [ib]; omega, ?_⟩, by simp only; omega, trivial, ?_⟩
  ·simp only [eqOut, ha] at h4
   exact h4
  ·refine BP hwf hn ha ?_ ?_ ?_ ?_
   ·rw [wrap_i64 (by omega) (by omega)]; omega
   ·rw [li]; exact decide_eq_true (by omega)
   ·omega
   ·omega
def fJ (w : WorldT) (c term known : Int) : RL := eqOut w term known (ae w.f known) ((ae w.f known).length + 1) 0 ([rdN], [c])
def wQ (w : WorldT) (c term known : Int) : List Int := (fJ w c term known).2.mergeSort fun x y => decide (x ≤ y)
theorem y1 {x0 x1 x3 : Blk} {l : List Int} (hl : l.length < 4611686018427387904) : Ev Du Γ0 88 [.ref (.vec 2 0)] [x0, x1, .vec (nuV l) 0 1, x3] (.tup []) [x0, x1, .vec (nuV (l.mergeSort fun x y => decide (x ≤ y))) 0 1, x3] :=
 mT (h := [x0, x1, .vec (nuV l) 0 1, x3]) (b := 2) rfl hl
theorem Aq (l : List ReadT) : ai (rdR l) = (rdR l).map (Dt D.p) := rfl
theorem lp (ns : List Int) (c : Int) : fj ns [c] + [c].length ≤ ns.length + 1 := by
 have := List.length_filter_le (fun x => !([c] : List Int).contains x) ns
 unfold fj; simp only [Ef, FF]; omega
theorem eo1_cw {w : WorldT} (hw : w.ok) {c term known : Int} (hn : (ae w.f known).length ≤ 1000) :
  CW Du Γ0 [] false (.loop (sub Gy 0)) { t := mkT 100 0 [(2, int term), (3, int known), (4, .ref (.ptr 0 0)), (8, .ref (.vec 2 0)), (9, .ref (.vec 1 0)), (10, ab ((ae w.f known).map fun n => [vi n])), (11, .ref (.mp 3)), (12, int 0)], h := [.var w.l, .vec [[int 12, int 0, int 0, int 0, int 1]] 0 5, .vec [[int c]] 0 1, .map [(int c, bool true, 0)] 1], m := [] }
   (.exit 0) (eoE w (fJ w c term known).1 (fJ w c term known).2) :=
 eo_g hw.sf hn (rs := [rdN]) (l := [c]) (by simp) (lp _ _)
noncomputable abbrev uE (w : WorldT) (c : Int) (term : Int) (known : Int) : List Blk := [.var [ab (Dt DF w.c), ab w.p, ab (Dt DJ w.s), ab (Dt DE w.f)], .vec (ai (rdR (fJ w c term known).fst)) 0 5, .vec (nuV (fJ w c term known).snd) 0 1, .map (aI (fJ w c term known).snd) (Dw (fJ w c term known).snd)]
noncomputable abbrev je (w : WorldT) : List Blk := [.var [ab (Dt DF w.c), ab w.p, ab (Dt DJ w.s), ab (Dt DE w.f)]]
theorem BR {w : WorldT} (hw : w.ok) {c term known : Int} (hc : (!(decide (c ≥ 0) && decide (c ≤ 4095)) || !(decide (term ≥ 0) && decide (term ≤ 1023))) = false) (hn : (ae w.f known).length ≤ 1000) (hl : (fJ w c term known).2.length < 4611686018427387904) (hnum : ∀ h, Ev Du Γ0 34 [.agg w.l, int known] h (.tup [ab ((ae w.f known).map fun n => [vi n]), .ref (.vec h.length 0)]) (h ++ [.vec [[int 12, int 0, int 0, int 0, int 1]] 0 5])) (h : List Blk) : (Ev Du Γ0 120 [.agg w.l, int c, int term, int known] h (.tup [ab ((wQ w c term known).map fun n => [vi n]), ab (rdR (fJ w c term known).1)]) h) := by
 have hl0 := (@eo1_cw (w) (hw) (c) (term) (known) (hn))
 refine DI (DX (d := Es [ab (Dt (fun n => [vi n]) (wQ w c term known)), ab (rdR (fJ w c term known).fst)]) pok [.val (bool (decide (c ≥ 0) && decide (c ≤ 4095))), .val (bool (decide (term ≥ 0) && decide (term ≤ 1023))), .b false, .call (Es [ab (Dt (fun n => [vi n]) (ae w.f known)), .ref (.vec 1 0)]) [.var (Eb w), .vec [[int 12, int 0, int 0, int 0, int 1]] 0 5], .sum [2, 3, 4, 8, 9, 10, 11, 12] (Ea 0) { t := mkT 100 0 [(8, .ref (.vec 2 0)), (9, .ref (.vec 1 0))], h := (uE w c term known), m := [] }, .call (Es []) [.var (Eb w), .vec (ai (rdR (fJ w c term known).fst)) 0 5, .vec (nuV (EK (fJ w c term known).snd fun x y => decide (x ≤ y))) 0 1, .map (aI (fJ w c term known).snd) (Dw (fJ w c term known).snd)], .st (.frz 2 (Dt (fun n => [vi n]) (wQ w c term known))), .st (.frz 1 (rdR (fJ w c term known).fst))] (by kernel_rfl) (.c (@eD c 0 4095 (je w)) (.c (gd (!!(decide (c ≥ 0) && decide (c ≤ 4095))) (@eD term 0 1023 (je w))) (.c hc (.c (@hnum (je w)) (.c hl0 (.c (@y1 (.var (Eb w)) (.vec (ai (rdR (fJ w c term known).fst)) 0 5) (.map (aI (fJ w c term known).snd) (Dw (fJ w c term known).snd)) ((fJ w c term known).snd) hl) (.c (show nuV (EK (fJ w c term known).snd fun x y => decide (x ≤ y)) = Dt (fun x => Dt D.p x) (Dt (fun n => [vi n]) (wQ w c term known)) from ?_) (.c (show Dt (El (dc 2 0 (Dt (fun n => [vi n]) (wQ w c term known)))) (ai (rdR (fJ w c term known).fst)) = ai (rdR (fJ w c term known).fst) from ?_) (.c (show Dt (fun e => (DR (dc 2 0 (Dt (fun n => [vi n]) (wQ w c term known))) e.fst, DR (dc 2 0 (Dt (fun n => [vi n]) (wQ w c term known))) e.snd.fst, e.snd.snd)) (aI (fJ w c term known).snd) = aI (fJ w c term known).snd from ?_) (.c (show ai (rdR (fJ w c term known).fst) = Dt (fun x => Dt D.p x) (rdR (fJ w c term known).fst) from ?_) (.c (show Dt (fun e => (DR (dc 1 0 (rdR (fJ w c term known).fst)) e.fst, DR (dc 1 0 (rdR (fJ w c term known).fst)) e.snd.fst, e.snd.snd)) (aI (fJ w c term known).snd) = aI (fJ w c term known).snd from ?_) .n))))))))))) rfl rfl h) (by first | rfl | (simp only [wQ]; rfl)) (by rfl) <;> (first | assumption | rfl | omega | exact hw.lf | exact hw.sf | exact lp _ _ | exact hl | exact Aj _ | exact Aq _ | exact af _ _ | exact bI _ _ | exact bh _ _ | exact ah | exact bF _ _ | (simp; done))
end Go.Vi
open Go Go.Proofs
namespace Go.Vi
set_option maxRecDepth 100000
set_option maxHeartbeats 4000000
theorem r9 {h : List Blk} {b e : Nat} {l : List AttT} (hb : h[b]? = some (.vec (ai (l.map Dy)) e 5)) (hl : l.length < 4611686018427387904) (hT : ∀ x ∈ l, ∀ y ∈ l, x.term = y.term → x.course = y.course → x = y) :
  Ev Du Γ0 117 [.ref (.vec b e), .p (.v (.func (.func 79) #[] #[]))] h (.tup []) (h.set b (.vec (ai ((l.mergeSort leA).map Dy)) e 5)) := by
 have e1 : ∀ l : List AttT, ai (l.map Dy) = BJ l := fun l => by simp [ai]
 rw [e1] at hb ⊢
 exact uD hb hl hT
abbrev ofH (w : WorldT) (known st : Int) (rs : List ReadT) (ats : List AttT) : List Blk := [.var [.ref (.vec 1 1), ab (w.c.map DF), ab w.p, ab (w.s.map DJ), ab (w.f.map DE), int known], .vec (ai (rdR rs)) 1 5, .var [int st, .ref (.vec 3 0)], .vec (ai (ats.map Dy)) 0 5]
abbrev oiS (w : WorldT) (known st term : Int) (ns : List (List Dp)) (ni n : Int) (ps : List (List Dp)) (rs : List ReadT) (ats : List AttT) (j : Int) : AS :=
 { t := mkT 67 0 [(0, .ref (.ptr 0 0)), (1, int st), (2, int term), (6, .ref (.ptr 2 0)), (8, int n), (16, ab ns), (17, int ns.length), (18, int ni), (26, ab ps), (27, int ps.length), (28, int j)], h := ofH w known st rs ats, m := [] }
abbrev RA := List ReadT × List AttT
def attBad (p : PtT) : Bool := decide (I8 p.value 16 > 12) || decide (Dz.wrap (Gp p.value 16) ≥ 7)
def y2 (w : WorldT) (known n : Int) (p : PtT) : AttT := ⟨n, p.term, I8 p.value 16, Dz.wrap (Gp p.value 16), (ac w n p.term known).1.credits⟩
def lq (w : WorldT) (known n : Int) (s : RA) (p : PtT) : RA := bif attBad p then s else (s.1 ++ rdT 1 n 0 p.term, s.2 ++ [y2 w known n p])
theorem be (l : List AttT) (a b c d e : Int) : ai (l.map Dy) ++ [[int a, int b, int c, int d, int e]] = ai ((l ++ [AttT.mk a b c d e]).map Dy) := by simp [Dy]
theorem BS {w : WorldT} (hw : w.ok) {known st term : Int} {ns : List (List Dp)} {ni n : Int} {ps : List (List Dp)} {rs0 rs : List ReadT} {ats : List AttT} {j : Nat} {p : PtT} (hr : aM (j : Int) ps p.row 2) (hlt : decide ((j : Int) < (ps.length : Int)) = true) (hwr : Dz.wrap ((j : Int) + 1) = ((j + 1 : Nat) : Int)) (hb : rs.length ≤ 999998000) (ha : ats.length ≤ 999998000) : (CW Du Γk (lkH w known rs0 0) false (sub GD 1) (oiS w known st term ns ni n ps rs ats j) .normal (oiS w known st term ns ni n ps (lq w known n (rs, ats) p).1 (lq w known n (rs, ats) p).2 ((j + 1 : Nat) : Int))) := by
 cases hc0 : decide (I8 p.value 16 > 12) || decide (DG Dz (Gp p.value 16) ≥ 7)
 ·let v0 : List D := [int n, int p.term, int (I8 p.value 16), int (DG Dz (Gp p.value 16)), int (ac w n p.term known).fst.credits]
  let v1 := EB [aA (ac w n p.term known).fst.name, int (ac w n p.term known).fst.number, int (ac w n p.term known).fst.credits, int (ac w n p.term known).fst.rep, int (DC (ac w n p.term known).fst.need).op, int (DC (ac w n p.term known).fst.need).c, aA (DC (ac w n p.term known).fst.need).nm, int (DC (ac w n p.term known).fst.need).n, int (DC (ac w n p.term known).fst.need).d, ab (DC (ac w n p.term known).fst.need).ks, int (DC (ac w n p.term known).fst.bar).op, int (DC (ac w n p.term known).fst.bar).c, aA (DC (ac w n p.term known).fst.bar).nm, int (DC (ac w n p.term known).fst.bar).n, int (DC (ac w n p.term known).fst.bar).d, ab (DC (ac w n p.term known).fst.bar).ks]
  let v3 : List D := [.ref (.vec 1 1), ab (Dt DF w.c), ab w.p, ab (Dt DJ w.s), ab (Dt DE w.f), int known]
  let v4 : List D := [.ref (.vec 1 2), ab (Dt DF w.c), ab w.p, ab (Dt DJ w.s), ab (Dt DE w.f), int known]
  let v2 : List Blk := [.var v4, .vec (ai (rdR (rs ++ rdT 1 n 0 p.term))) 2 5, .var [int st, .ref (.vec 3 0)], .vec (ai (Dt Dy ats)) 0 5, .var [int p.term, int p.value]]
  let v5 : List Blk := [.var v3, .vec (ai (rdR rs)) 1 5, .var [int st, .ref (.vec 3 0)], .vec (ai (Dt Dy ats)) 0 5, .var [int p.term, int p.value]]
  refine DU (DV (s' := { t := mkT 67 0 [(0, .ref (.ptr 0 0)), (1, int st), (2, int term), (6, .ref (.ptr 2 0)), (8, int n), (16, ab ns), (17, int (↑(Dw ns) : Int)), (18, int ni), (26, ab ps), (27, int (↑(Dw ps) : Int)), (28, int (DG Dz ((↑j : Int) + 1)))], h := [.var v3, .vec (ai (rdR (rs ++ rdT 1 n 0 p.term))) 1 5, .var [int st, .ref (.vec 3 0)], .vec (ai (Dt Dy ats) ++ [v0]) 0 5], m := [] }) (e := DQ) pok [.st (.mask [0, 1, 2, 6, 8, 16, 17, 18, 26, 27, 28]), .st (.ren 1 1), .st (.ren 3 0), .st (.trimV 4)] [.b true, .row [vi p.term, vi p.value], .b false, .call v1 v2] (by kernel_rfl) (.c hlt (.c hr (.c (show (!decide (16 = 0)) = true from rfl) (.c (show (!decide (16 = 0)) = true from rfl) (.c hc0 (.c (show Ev Du Γk 116 [.ref (.ptr 0 0), int n, int p.term] v5 v1 v2 from (DI (F2 (args := [.ref (.ptr 0 0), int n, int p.term]) (H := v5) [0, 1] (Ev.upX [0, 1] (@ln w hw known n (p.term) rs ?_) (by kernel_rfl) ⟨(by subst v0 v1 v3 v4 v2 v5; first | rfl | exact al _ _ | first | assumption | rfl | omega | exact af _ _ | exact ah | (rw [be]; exact af _ _) | (rw [be]; exact ah) | (simp [bw, GO, Ez, roomOk]; omega)), trivial⟩ ⟨(by subst v0 v1 v3 v4 v2 v5; first | rfl | exact al _ _ | first | assumption | rfl | omega | exact af _ _ | exact ah | (rw [be]; exact af _ _) | (rw [be]; exact ah) | (simp [bw, GO, Ez, roomOk]; omega)), trivial⟩) (by kernel_rfl) (by kernel_rfl) (by kernel_rfl) ⟨(by subst v0 v1 v3 v4 v2 v5; first | rfl | exact al _ _ | first | assumption | rfl | omega | exact af _ _ | exact ah | (rw [be]; exact af _ _) | (rw [be]; exact ah) | (simp [bw, GO, Ez, roomOk]; omega)), trivial⟩ ⟨(by subst v0 v1 v3 v4 v2 v5; first | rfl | exact al _ _ | first | assumption | rfl | omega | exact af _ _ | exact ah | (rw [be]; exact af _ _) | (rw [be]; exact ah) | (simp [bw, GO, Ez, roomOk]; omega)), trivial⟩) (by kernel_rfl) (by kernel_rfl))) (.c (show (FC [v0] (bw 5) && roomOk (Dw (ai (Dt Dy ats)) + Dw [v0]) 40) = true from ?_) (.e (.ref (.ptr 2 1)) (.e (.ref (.ptr 2 1)) (.e (.ref (.ptr 2 1)) (.e (.ref (.vec 3 0)) (.e (.ref (.vec 3 0)) (.e (.ref (.vec 3 0)) (.e (.ref (.ptr 4 0)) (.e (.ref (.ptr 4 0)) (.e (int p.term) (.e (int p.term) (.e (.ref (.ptr 4 0)) (.e (int p.term) (.e (.ref (.ptr 2 1)) (.c (show Dt (El (au 1 2 1)) (ai (rdR (rs ++ rdT 1 n 0 p.term))) = ai (rdR (rs ++ rdT 1 n 0 p.term)) from ?_) (.c (show Dt (El (au 1 2 1)) (ai (Dt Dy ats) ++ [v0]) = ai (Dt Dy ats) ++ [v0] from ?_) (.c (show [v0] = [v0] from rfl) (.c (show Dt (El (au 3 1 0)) (ai (Dt Dy ats) ++ [v0]) = ai (Dt Dy ats) ++ [v0] from ?_) (.c (show Dt (El (au 3 1 0)) (ai (rdR (rs ++ rdT 1 n 0 p.term))) = ai (rdR (rs ++ rdT 1 n 0 p.term)) from ?_) (.c (show [v0] = [v0] from rfl) (.c (show DL 4 (match 0 == 3 with | true => .vec (ai (Dt Dy ats) ++ [v0]) 0 5 | false => keepX (au 3 1 0) (match 0 == 1 with | true => .vec (ai (rdR (rs ++ rdT 1 n 0 p.term))) 1 5 | false => keepX (au 1 2 1) (.var v4))) = true from rfl) (.c (show DL 4 (match 0 + 1 == 3 with | true => .vec (ai (Dt Dy ats) ++ [v0]) 0 5 | false => keepX (au 3 1 0) (match 0 + 1 == 1 with | true => .vec (ai (rdR (rs ++ rdT 1 n 0 p.term))) 1 5 | false => keepX (au 1 2 1) (.vec (ai (rdR (rs ++ rdT 1 n 0 p.term))) 2 5))) = true from ?_) (.c (show DL 4 (match 0 + 1 + 1 == 3 with | true => .vec (ai (Dt Dy ats) ++ [v0]) 0 5 | false => keepX (au 3 1 0) (match 0 + 1 + 1 == 1 with | true => .vec (ai (rdR (rs ++ rdT 1 n 0 p.term))) 1 5 | false => keepX (au 1 2 1) (.var [int st, .ref (.vec 3 1)]))) = true from rfl) (.c (show DL 4 (match 0 + 1 + 1 + 1 == 3 with | true => .vec (ai (Dt Dy ats) ++ [v0]) 0 5 | false => keepX (au 3 1 0) (match 0 + 1 + 1 + 1 == 1 with | true => .vec (ai (rdR (rs ++ rdT 1 n 0 p.term))) 1 5 | false => keepX (au 1 2 1) (.vec (ai (Dt Dy ats) ++ [v0]) 1 5))) = true from ?_) .n))))))))))))))))))))))))))))))) (by subst v0 v1 v3 v4 v2 v5; first | rfl | (have hh : attBad p = true := hc0; simp only [hwr, lq, hh, cond_true]; first | done | rfl) | (have hh : attBad p = false := hc0; simp only [hwr, lq, hh, cond_false, be]; first | done | rfl)) (by subst v0 v1 v3 v4 v2 v5; first | rfl | (have hh : attBad p = true := hc0; simp only [hwr, lq, hh, cond_true]; first | done | rfl) | (have hh : attBad p = false := hc0; simp only [hwr, lq, hh, cond_false, be]; first | done | rfl)) <;> subst v0 v1 v3 v4 v2 v5 <;> (first | assumption | rfl | omega | exact af _ _ | exact ah | (rw [be]; exact af _ _) | (rw [be]; exact ah) | (simp [bw, GO, Ez, roomOk]; omega))
 ·let v0 : List D := [.ref (.vec 1 1), ab (Dt DF w.c), ab w.p, ab (Dt DJ w.s), ab (Dt DE w.f), int known]
  refine DU (DV (s' := { t := mkT 67 0 [(0, .ref (.ptr 0 0)), (1, int st), (2, int term), (6, .ref (.ptr 2 0)), (8, int n), (16, ab ns), (17, int (↑(Dw ns) : Int)), (18, int ni), (26, ab ps), (27, int (↑(Dw ps) : Int)), (28, int (DG Dz ((↑j : Int) + 1)))], h := [.var v0, .vec (ai (rdR rs)) 1 5, .var [int st, .ref (.vec 3 0)], .vec (ai (Dt Dy ats)) 0 5], m := [] }) (e := DQ) pok [.st (.mask [0, 1, 2, 6, 8, 16, 17, 18, 26, 27, 28]), .st (.ren 1 1), .st (.ren 3 0), .st (.trimV 4)] [.b true, .row [vi p.term, vi p.value], .b true] (by kernel_rfl) (.c hlt (.c hr (.c (show (!decide (16 = 0)) = true from rfl) (.c (show (!decide (16 = 0)) = true from rfl) (.c hc0 (.c (show Dt (El (au 1 1 1)) (ai (rdR rs)) = ai (rdR rs) from ?_) (.c (show Dt (El (au 1 1 1)) (ai (Dt Dy ats)) = ai (Dt Dy ats) from ?_) (.c (show Dt (El (au 3 0 0)) (ai (Dt Dy ats)) = ai (Dt Dy ats) from ?_) (.c (show Dt (El (au 3 0 0)) (ai (rdR rs)) = ai (rdR rs) from ?_) (.c (show DL 4 (match 0 == 3 with | true => .vec (ai (Dt Dy ats)) 0 5 | false => keepX (au 3 0 0) (match 0 == 1 with | true => .vec (ai (rdR rs)) 1 5 | false => keepX (au 1 1 1) (.var v0))) = true from rfl) (.c (show DL 4 (match 0 + 1 == 3 with | true => .vec (ai (Dt Dy ats)) 0 5 | false => keepX (au 3 0 0) (match 0 + 1 == 1 with | true => .vec (ai (rdR rs)) 1 5 | false => keepX (au 1 1 1) (.vec (ai (rdR rs)) 1 5))) = true from ?_) (.c (show DL 4 (match 0 + 1 + 1 == 3 with | true => .vec (ai (Dt Dy ats)) 0 5 | false => keepX (au 3 0 0) (match 0 + 1 + 1 == 1 with | true => .vec (ai (rdR rs)) 1 5 | false => keepX (au 1 1 1) (.var [int st, .ref (.vec 3 0)]))) = true from rfl) (.c (show DL 4 (match 0 + 1 + 1 + 1 == 3 with | true => .vec (ai (Dt Dy ats)) 0 5 | false => keepX (au 3 0 0) (match 0 + 1 + 1 + 1 == 1 with | true => .vec (ai (rdR rs)) 1 5 | false => keepX (au 1 1 1) (.vec (ai (Dt Dy ats)) 0 5))) = true from ?_) .n)))))))))))))) (by subst v0; first | rfl | (have hh : attBad p = true := hc0; simp only [hwr, lq, hh, cond_true]; first | done | rfl) | (have hh : attBad p = false := hc0; simp only [hwr, lq, hh, cond_false, be]; first | done | rfl)) (by subst v0; first | rfl | (have hh : attBad p = true := hc0; simp only [hwr, lq, hh, cond_true]; first | done | rfl) | (have hh : attBad p = false := hc0; simp only [hwr, lq, hh, cond_false, be]; first | done | rfl)) <;> subst v0 <;> (first | assumption | rfl | omega | exact af _ _ | exact ah | (rw [be]; exact af _ _) | (rw [be]; exact ah) | (simp [bw, GO, Ez, roomOk]; omega))
theorem BT {w : WorldT} {known st term : Int} {ns : List (List Dp)} {ni n : Int} {ps : List (List Dp)} {rs0 rs : List ReadT} {ats : List AttT} {j : Nat} (hlt : decide ((j : Int) < (ps.length : Int)) = false) : (CW Du Γk (lkH w known rs0 0) false (sub GD 1) (oiS w known st term ns ni n ps rs ats j) (.exit 2) { t := mkT 67 0 [(0, .ref (.ptr 0 0)), (1, int st), (2, int term), (6, .ref (.ptr 2 0)), (16, ab ns), (17, int ns.length), (18, int ni)], h := ofH w known st rs ats, m := [] }) := by
 exact DU (DV (s' := { t := mkT 67 0 [(0, .ref (.ptr 0 0)), (1, int st), (2, int term), (6, .ref (.ptr 2 0)), (16, ab ns), (17, int (↑(Dw ns) : Int)), (18, int ni)], h := [.var [.ref (.vec 1 1), ab (Dt DF w.c), ab w.p, ab (Dt DJ w.s), ab (Dt DE w.f), int known], .vec (ai (rdR rs)) 1 5, .var [int st, .ref (.vec 3 0)], .vec (ai (Dt Dy ats)) 0 5], m := [] }) (e := Ea 2) pok [.st (.mask [0, 1, 2, 6, 16, 17, 18])] [.b false] (by kernel_rfl) (.c hlt .n)) (by rfl) (by rfl)
theorem tB {w : WorldT} {known n : Int} {s : RA} (p : PtT) : (lq w known n s p).1.length ≤ s.1.length + 1 ∧ (lq w known n s p).2.length ≤ s.2.length + 1 := by
 unfold lq
 cases attBad p
 ·have := rdT_len 1 n 0 p.term
  simp; omega
 ·simp
theorem oi_cw {w : WorldT} (hw : w.ok) {known st term : Int} {ns : List (List Dp)} {ni n : Int} {ps : List PtT} (hp : ps.length ≤ 2000) {rs0 rs : List ReadT} {ats : List AttT} (hb : rs.length ≤ 999990000) (ha : ats.length ≤ 999990000) :
  CW Du Γk (lkH w known rs0 0) false (.loop (sub GD 1)) (oiS w known st term ns ni n (ps.map PtT.row) rs ats 0) (.exit 2) { t := mkT 67 0 [(0, .ref (.ptr 0 0)), (1, int st), (2, int term), (6, .ref (.ptr 2 0)), (16, ab ns), (17, int ns.length), (18, int ni)], h := ofH w known st (ps.foldl (lq w known n) (rs, ats)).1 (ps.foldl (lq w known n) (rs, ats)).2, m := [] } := by
 have hl : aj ps := by unfold aj; omega
 have := CW.each (P := Du) (Γ := Γk) (h0 := lkH w known rs0 0) (rd := false) (c := sub GD 1) (σ := RA) (ρ := Empty) ps (fun p s => .inl (lq w known n s p))
  (fun j s => oiS w known st term ns ni n (ps.map PtT.row) s.1 s.2 (j : Int)) (.exit 2) (fun s => { t := mkT 67 0 [(0, .ref (.ptr 0 0)), (1, int st), (2, int term), (6, .ref (.ptr 2 0)), (16, ab ns), (17, int ns.length), (18, int ni)], h := ofH w known st s.1 s.2, m := [] }) (fun r => r.elim)
  (fun j s => s.1.length ≤ rs.length + j ∧ s.2.length ≤ ats.length + j) (by simp) (fun r => r.elim) ?_ ?_ (rs, ats) (by simp)
 ·rw [aY] at this
  exact this
 ·intro j p s hpj hs
  have hi := (DA.1 hpj).1
  refine ⟨fun s' h => by cases h; have := tB (w := w) (known := known) (n := n) (s := s) p; omega, BS hw (rowAt hpj rfl) (lt_len _ hi) (wrap_succ hi hl) (by omega) (by omega)⟩
 ·intro s _
  exact BT (bS _ ps)
theorem bf {kk ks ko frm to known : Int} {l : List FactT} : (bi kk ks ko frm to known l).length ≤ 1024 := by
 have key : ∀ (rs : List Int) (ns : List Nat) (l : List PtT), (ns.foldl (fun l n => ptF (rs.getD n 0) n l) l).length ≤ l.length + ns.length := by
  intro rs ns
  induction ns with
  | nil => intro l; simp
  | cons n ns ih => intro l; have := ih (ptF (rs.getD n 0) n l); have h2 := wL (rs.getD n 0) n l; simp only [EJ, Ef]; omega
 unfold bi Ap
 refine Fl (key _ _ _) ?_
 have : tu to ≤ 1024 := by unfold tu; split <;> omega
 simp only [FF, List.length_range']
 have : 0 ≤ ptLo frm := ol frm
 omega
abbrev ooS (w : WorldT) (known st term : Int) (ns : List (List Dp)) (rs : List ReadT) (ats : List AttT) (i : Int) : AS :=
 { t := mkT 67 0 [(0, .ref (.ptr 0 0)), (1, int st), (2, int term), (6, .ref (.ptr 2 0)), (16, ab ns), (17, int ns.length), (18, int i)], h := ofH w known st rs ats, m := [] }
def fk (w : WorldT) (known st term : Int) (s : RA) (n : Int) : RA := (bi 5 st n 0 term known w.f).foldl (lq w known n) (s.1 ++ [⟨5, st, n, 0, term⟩], s.2)
noncomputable abbrev mY (w : WorldT) (known : Int) (st : Int) (rs : List ReadT) (ats : List AttT) : List Blk := [.var [.ref (.vec 1 1), ab (Dt DF w.c), ab w.p, ab (Dt DJ w.s), ab (Dt DE w.f), int known], .vec (ai (rdR rs)) 1 5, .var [int st, .ref (.vec 3 0)], .vec (ai (Dt Dy ats)) 0 5]
theorem BU {w : WorldT} (hw : w.ok) {known st term : Int} {ns : List (List Dp)} {n : Int} {rs0 rs : List ReadT} {ats : List AttT} {i : Nat} (hr : aM (i : Int) ns [vi n] 1) (hlt : decide ((i : Int) < (ns.length : Int)) = true) (hwr : Dz.wrap ((i : Int) + 1) = ((i + 1 : Nat) : Int)) (hb : rs.length ≤ 999980000) (ha : ats.length ≤ 999980000) : (CW Du Γk (lkH w known rs0 0) false (sub GD 0) (ooS w known st term ns rs ats i) .normal (ooS w known st term ns (fk w known st term (rs, ats) n).1 (fk w known st term (rs, ats) n).2 ((i + 1 : Nat) : Int))) := by
 have hl0 := (@oi_cw (w) (hw) (known) (st) (term) (ns) ((↑i : Int)) (n) (bi 5 st n 0 term known w.f) (by first | assumption | rfl | omega | exact af _ _ | exact Fl bf (by omega) | (simp; omega)) (rs0) (rs ++ [{ kind := 5, sub := st, obj := n, frm := 0, til := term }]) (ats) (by first | assumption | rfl | omega | exact af _ _ | exact Fl bf (by omega) | (simp; omega)) (by first | assumption | rfl | omega | exact af _ _ | exact Fl bf (by omega) | (simp; omega)))
 let v1 : List Blk := [.var [.ref (.vec 1 2), ab (Dt DF w.c), ab w.p, ab (Dt DJ w.s), ab (Dt DE w.f), int known], .vec (ai (rdR (rs ++ [{ kind := 5, sub := st, obj := n, frm := 0, til := term }]))) 2 5, .var [int st, .ref (.vec 3 0)], .vec (ai (Dt Dy ats)) 0 5]
 let v2 := D1 (lq w known n) (rs ++ [{ kind := 5, sub := st, obj := n, frm := 0, til := term }], ats) (bi 5 st n 0 term known w.f)
 let v0 : List Blk := [.var [.ref (.vec 1 1), ab (Dt DF w.c), ab w.p, ab (Dt DJ w.s), ab (Dt DE w.f), int known], .vec (ai (rdR v2.fst)) 1 5, .var [int st, .ref (.vec 3 0)], .vec (ai (Dt Dy v2.snd)) 0 5]
 let v3 := ab (Dt PtT.row (bi 5 st n 0 term known w.f))
 refine DU (DV (s' := { t := mkT 67 0 [(0, .ref (.ptr 0 0)), (1, int st), (2, int term), (6, .ref (.ptr 2 0)), (16, ab ns), (17, int (↑(Dw ns) : Int)), (18, int (DG Dz ((↑i : Int) + 1)))], h := v0, m := [] }) (e := DQ) pok [.st (.mask [0, 1, 2, 6, 16, 17, 18])] [.b true, .row [vi n], .call v3 v1, .st (.ren 1 1), .sum [0, 1, 2, 6, 8, 16, 17, 18, 26, 27, 28] (Ea 2) { t := mkT 67 0 [(0, .ref (.ptr 0 0)), (1, int st), (2, int term), (6, .ref (.ptr 2 0)), (16, ab ns), (17, int (↑(Dw ns) : Int)), (18, int (↑i : Int))], h := v0, m := [] }] (by kernel_rfl) (.c hlt (.c hr (.c (show Ev Du Γk 115 [.ref (.ptr 0 0), int st, int n, int term] (mY w known st rs ats) v3 v1 from (DI (F2 (args := [.ref (.ptr 0 0), int st, int n, int term]) (H := (mY w known st rs ats)) [0, 1] (Ev.upX [0, 1] (@rZ w hw known st n term rs (by subst v1 v2 v0 v3; first | assumption | rfl | omega | exact af _ _ | exact Fl bf (by subst v1 v2 v0 v3; omega) | (simp; omega))) (by kernel_rfl) ⟨?_, trivial⟩ ⟨?_, trivial⟩) (by kernel_rfl) (by kernel_rfl) (by kernel_rfl) ⟨?_, trivial⟩ ⟨?_, trivial⟩) (by kernel_rfl) (by kernel_rfl))) (.c (show Dt (El (au 1 2 1)) (ai (rdR (rs ++ [{ kind := 5, sub := st, obj := n, frm := 0, til := term }]))) = ai (rdR (rs ++ [{ kind := 5, sub := st, obj := n, frm := 0, til := term }])) from (by subst v1 v2 v0 v3; first | assumption | rfl | omega | exact af _ _ | exact Fl bf (by subst v1 v2 v0 v3; omega) | (simp; omega))) (.c (show Dt (El (au 1 2 1)) (ai (Dt Dy ats)) = ai (Dt Dy ats) from (by subst v1 v2 v0 v3; first | assumption | rfl | omega | exact af _ _ | exact Fl bf (by subst v1 v2 v0 v3; omega) | (simp; omega))) (.c hl0 .n))))))) (by subst v1 v2 v0 v3; first | rfl | (simp only [hwr]; rfl)) (by subst v1 v2 v0 v3; first | rfl | (simp only [hwr]; rfl)) <;> subst v1 v2 v0 v3 <;> (first | rfl | exact al _ _ | first | assumption | rfl | omega | exact af _ _ | exact Fl bf (by omega) | (simp; omega))
theorem BW {w : WorldT} {known st term : Int} {ns : List (List Dp)} {rs0 rs : List ReadT} {ats : List AttT} {i : Nat} (hlt : decide ((i : Int) < (ns.length : Int)) = false) : (CW Du Γk (lkH w known rs0 0) false (sub GD 0) (ooS w known st term ns rs ats i) (.exit 0) { t := mkT 67 0 [(6, .ref (.ptr 2 0))], h := ofH w known st rs ats, m := [] }) := by
 exact DU (DV (s' := { t := mkT 67 0 [(6, .ref (.ptr 2 0))], h := [.var [.ref (.vec 1 1), ab (Dt DF w.c), ab w.p, ab (Dt DJ w.s), ab (Dt DE w.f), int known], .vec (ai (rdR rs)) 1 5, .var [int st, .ref (.vec 3 0)], .vec (ai (Dt Dy ats)) 0 5], m := [] }) (e := Ea 0) pok [.st (.mask [6])] [.b false] (by kernel_rfl) (.c hlt .n)) (by rfl) (by rfl)
theorem mZ {w : WorldT} {known n : Int} : ∀ (ps : List PtT) (s : RA), (ps.foldl (lq w known n) s).1.length ≤ s.1.length + ps.length ∧ (ps.foldl (lq w known n) s).2.length ≤ s.2.length + ps.length
 | [], s => by simp
 | p :: ps, s => by
  have h1 := tB (w := w) (known := known) (n := n) (s := s) p
  have h2 := mZ (w := w) (known := known) (n := n) ps (lq w known n s p)
  simp only [EJ, Ef]
  omega
theorem wR {w : WorldT} {known st term : Int} (s : RA) (n : Int) : (fk w known st term s n).1.length ≤ s.1.length + 1025 ∧ (fk w known st term s n).2.length ≤ s.2.length + 1024 := by
 unfold fk
 have h1 := mZ (w := w) (known := known) (n := n) (bi 5 st n 0 term known w.f) (s.1 ++ [⟨5, st, n, 0, term⟩], s.2)
 have h2 := bf (kk := 5) (ks := st) (ko := n) (frm := 0) (to := term) (known := known) (l := w.f)
 simp only [ER, Ef, FF] at h1
 omega
theorem oo_g {w : WorldT} (hw : w.ok) {known st term : Int} {ns : List Int} (hn : ns.length ≤ 69000) {rs0 rs : List ReadT} (hb : rs.length ≤ 800000000) {ats : List AttT} (ha : ats.length ≤ 1000) :
  CW Du Γk (lkH w known rs0 0) false (.loop (sub GD 0)) (ooS w known st term (ns.map fun n => [vi n]) rs ats 0) (.exit 0) { t := mkT 67 0 [(6, .ref (.ptr 2 0))], h := ofH w known st (ns.foldl (fk w known st term) (rs, ats)).1 (ns.foldl (fk w known st term) (rs, ats)).2, m := [] } := by
 have hl : aj ns := by unfold aj; omega
 have := CW.each (P := Du) (Γ := Γk) (h0 := lkH w known rs0 0) (rd := false) (c := sub GD 0) (σ := RA) (ρ := Empty) ns (fun n s => .inl (fk w known st term s n))
  (fun i s => ooS w known st term (ns.map fun n => [vi n]) s.1 s.2 (i : Int)) (.exit 0) (fun s => { t := mkT 67 0 [(6, .ref (.ptr 2 0))], h := ofH w known st s.1 s.2, m := [] }) (fun r => r.elim)
  (fun i s => s.1.length ≤ rs.length + i * 1025 ∧ s.2.length ≤ ats.length + i * 1025) (by simp) (fun r => r.elim) ?_ ?_ (rs, ats) (by simp)
 ·rw [aY] at this
  exact this
 ·intro i n s hni hs
  have hi := (DA.1 hni).1
  refine ⟨fun s' h => by cases h; have := wR (w := w) (known := known) (st := st) (term := term) s n; omega, BU hw (rowAt (row := fun n => [vi n]) hni rfl) (lt_len (fun n => [vi n]) hi) (wrap_succ hi hl) (by omega) (by omega)⟩
 ·intro s _
  exact BW (bS (fun n => [vi n]) ns)
theorem oo_cw {w : WorldT} (hw : w.ok) {known st term : Int} {ns : List Int} (hn : ns.length ≤ 69000) {rs0 rs : List ReadT} (hb : rs.length ≤ 800000000) :
  CW Du Γk (lkH w known rs0 0) false (.loop (sub GD 0)) (ooS w known st term (ns.map fun n => [vi n]) rs [] 0) (.exit 0) { t := mkT 67 0 [(6, .ref (.ptr 2 0))], h := ofH w known st (ns.foldl (fk w known st term) (rs, [])).1 (ns.foldl (fk w known st term) (rs, [])).2, m := [] } := oo_g hw hn hb (by simp)
def xY (w : WorldT) (known st term : Int) (rs : List ReadT) : RA := (ae w.f known).foldl (fk w known st term) (rs ++ [rdN], [])
def sa (w : WorldT) (known st term : Int) (rs : List ReadT) : List AttT := (xY w known st term rs).2.mergeSort leA
theorem d8 {fs : List FactT} {known : Int} : (ae fs known).length ≤ fs.length := by
 have := gp (many := wA fs known) fs []
 simp only [FF, FO] at this
 unfold ae Ak
 simpa using this
noncomputable abbrev wS (w : WorldT) (known : Int) (st : Int) (term : Int) (rs : List ReadT) : List Blk := [.var [.ref (.vec 1 1), ab (Dt DF w.c), ab w.p, ab (Dt DJ w.s), ab (Dt DE w.f), int known], .vec (ai (rdR (D1 (fk w known st term) (rs ++ [rdN], []) (ae w.f known)).fst)) 1 5, .var [int st, .ref (.vec 3 0)], .vec (ai (Dt Dy (D1 (fk w known st term) (rs ++ [rdN], []) (ae w.f known)).snd)) 0 5]
noncomputable abbrev wT (w : WorldT) (known : Int) (st : Int) (term : Int) (rs : List ReadT) : List Blk := [.var [.ref (.vec 1 1), ab (Dt DF w.c), ab w.p, ab (Dt DJ w.s), ab (Dt DE w.f), int known], .vec (ai (rdR (D1 (fk w known st term) (rs ++ [rdN], []) (ae w.f known)).fst)) 1 5, .var [int st, .ref (.vec 3 0)], .vec (ai (Dt Dy (EK (xY w known st term rs).snd leA))) 0 5]
theorem of_a {w : WorldT} (hw : w.ok) {known st term : Int} {rs : List ReadT} (hb : rs.length ≤ 700000000) (hn : (ae w.f known).length ≤ 69000) (hl : (xY w known st term rs).2.length < 4611686018427387904) (hT : ∀ x ∈ (xY w known st term rs).2, ∀ y ∈ (xY w known st term rs).2, x.term = y.term → x.course = y.course → x = y) : (Ev Du Γk 60 [.ref (.ptr 0 0), int st, int term] (lkH w known rs 0) (.agg [int st, ab ((sa w known st term rs).map Dy)]) (lkH w known (xY w known st term rs).1 1)) := by
 have hl0 := (@oo_cw (w) (hw) (known) (st) (term) (ae w.f known) (hn) (rs) (rs ++ [rdN]) (by first | assumption | rfl | omega | exact af _ _ | exact ah | (simp; omega)))
 let v0 : List D := [.ref (.vec 1 1), ab (Dt DF w.c), ab w.p, ab (Dt DJ w.s), ab (Dt DE w.f), int known]
 let v1 := Dt Dy (sa w known st term rs)
 let v2 := D1 (fk w known st term) (rs ++ [rdN], []) (ae w.f known)
 let v3 : List Blk := [.var [.ref (.vec 1 0), ab (Dt DF w.c), ab w.p, ab (Dt DJ w.s), ab (Dt DE w.f), int known], .vec (ai (rdR rs)) 0 5, .var [int st, nq]]
 let v4 : List Blk := [.var v0, .vec (ai (rdR (rs ++ [rdN]))) 1 5, .var [int st, nq]]
 refine DI (Ev.post (d2 := EB [int st, ab v1]) (h2 := [.var v0, .vec (ai (rdR v2.fst)) 1 5]) (φ := [ai (Dt Dy (EK (xY w known st term rs).snd leA)) = Dt (fun x => Dt D.p x) v1, Dt (El (dc 3 0 v1)) (ai (rdR v2.fst)) = ai (rdR v2.fst), DL 2 (match 0 == 3 with | true => .gone | false => keepX (dc 3 0 v1) (.var v0)) = true, DL 2 (match 0 + 1 == 3 with | true => .gone | false => keepX (dc 3 0 v1) (.vec (ai (rdR v2.fst)) 1 5)) = true]) [.st (.frz 3 v1), .st (.trimV 2)] (Ev.of_sym (h' := (wT w known st term rs)) (d := EB [int st, .ref (.vec 3 0)]) pok [.call (ab (Dt (fun n => [vi n]) (ae w.f known))) v4, .st (.nilC 2 1 5), .sum [0, 1, 2, 6, 16, 17, 18] (Ea 0) { t := mkT 67 0 [(6, .ref (.ptr 2 0))], h := (wS w known st term rs), m := [] }, .call (Es []) (wT w known st term rs)] (by kernel_rfl) (.c (show Ev Du Γk 62 [.ref (.ptr 0 0)] v3 (ab (Dt (fun n => [vi n]) (ae w.f known))) v4 from (DI (F2 (args := [.ref (.ptr 0 0)]) (H := v3) [0, 1] (@oo w hw known rs ?_) (by kernel_rfl) (by kernel_rfl) (by kernel_rfl) ⟨(by subst v0 v1 v2 v3 v4; first | rfl | exact al _ _ | first | assumption | rfl | omega | exact af _ _ | exact ah | (simp; omega)), trivial⟩ ⟨(by subst v0 v1 v2 v3 v4; first | rfl | exact al _ _ | first | assumption | rfl | omega | exact af _ _ | exact ah | (simp; omega)), trivial⟩) (by kernel_rfl) (by kernel_rfl))) (.c hl0 (.c (D7 (Γ' := Γk) (@r9 (wS w known st term rs) 3 0 ((xY w known st term rs).snd) ?_ hl hT)) .n)))) (by kernel_rfl) ⟨?_, ?_, rfl, ?_, trivial⟩) (by rfl) (by rfl) <;> subst v0 v1 v2 v3 v4 <;> (first | assumption | rfl | omega | exact af _ _ | exact ah | (simp; omega))
end Go.Vi
open Go Go.Proofs
namespace Go.Vi
def ptO (rs : List Int) (n : Nat) : Option PtT := bif decide (rs.getD n 0 ≥ 0) then some ⟨(n : Int), rs.getD n 0⟩ else none
theorem oq (rs : List Int) (x to : Int) : Ap rs x to = (List.range' x.toNat (tu to - x).toNat).filterMap (ptO rs) := by
 have key : ∀ (ns : List Nat) (l : List PtT), ns.foldl (fun l n => ptF (rs.getD n 0) n l) l = l ++ ns.filterMap (ptO rs) := by
  intro ns
  induction ns with
  | nil => intro l; simp
  | cons n ns ih =>
   intro l
   rw [EJ, ih, GJ]
   unfold ptF ptO
   cases decide (rs.getD n 0 ≥ 0) <;> simp
 unfold Ap
 rw [key]; simp
theorem BX {rs : List Int} {x to : Int} : (Ap rs x to).Pairwise fun p q => p.term < q.term := by
 rw [oq]
 refine List.Pairwise.filterMap (R := fun a b => a < b) (ptO rs) ?_ (List.pairwise_lt_range' ..)
 intro a b hab p hp q hq
 unfold ptO at hp hq
 cases h1 : decide (rs.getD a 0 ≥ 0) <;> rw [h1] at hp <;> simp at hp
 cases h2 : decide (rs.getD b 0 ≥ 0) <;> rw [h2] at hq <;> simp at hq
 subst hp; subst hq
 simp; exact hab
theorem uF {kk ks ko frm to known : Int} {l : List FactT} : (bi kk ks ko frm to known l).Pairwise fun p q => p.term < q.term := BX
def Dk (w : WorldT) (known n : Int) (p : PtT) : Option AttT := bif attBad p then none else some (y2 w known n p)
def rdO (n : Int) (p : PtT) : List ReadT := bif attBad p then [] else rdT 1 n 0 p.term
theorem qt (w : WorldT) (known n : Int) : ∀ (ps : List PtT) (s : RA), ps.foldl (lq w known n) s = (s.1 ++ ps.flatMap (rdO n), s.2 ++ ps.filterMap (Dk w known n))
 | [], s => by simp
 | p :: ps, s => by
  rw [EJ, qt w known n ps, GJ, HX]
  unfold lq Dk rdO
  cases attBad p <;> simp
abbrev l9 (w : WorldT) (known st term n : Int) : List PtT := bi 5 st n 0 term known w.f
def b7 (w : WorldT) (known st term n : Int) : List ReadT := ⟨5, st, n, 0, term⟩ :: (l9 w known st term n).flatMap (rdO n)
def dg (w : WorldT) (known st term n : Int) : List AttT := (l9 w known st term n).filterMap (Dk w known n)
theorem ofOut_eq (w : WorldT) (known st term : Int) (s : RA) (n : Int) : fk w known st term s n = (s.1 ++ b7 w known st term n, s.2 ++ dg w known st term n) := by
 unfold fk
 rw [qt]
 simp [b7, dg]
theorem sb (w : WorldT) (known st term : Int) (rs : List ReadT) : xY w known st term rs = (rs ++ rdN :: (ae w.f known).flatMap (b7 w known st term), (ae w.f known).flatMap (dg w known st term)) := by
 have key : ∀ (ns : List Int) (s : RA), ns.foldl (fk w known st term) s = (s.1 ++ ns.flatMap (b7 w known st term), s.2 ++ ns.flatMap (dg w known st term)) := by
  intro ns
  induction ns with
  | nil => intro s; simp
  | cons n ns ih => intro s; rw [EJ, ih, ofOut_eq]; simp
 unfold xY
 rw [key]; simp
def aN (w : WorldT) (known st term : Int) : List ReadT := rdN :: (ae w.f known).flatMap (b7 w known st term)
def eG (w : WorldT) (known st term : Int) : List AttT := (ae w.f known).flatMap (dg w known st term)
def dm (w : WorldT) (known st term : Int) : List AttT := (eG w known st term).mergeSort leA
theorem ic {w : WorldT} {known st term n : Int} {a : AttT} (h : a ∈ dg w known st term n) : a.course = n ∧ ∃ p ∈ l9 w known st term n, attBad p = false ∧ a = y2 w known n p := by
 unfold dg at h
 obtain ⟨p, hp, he⟩ := List.mem_filterMap.1 h
 unfold Dk at he
 cases hb : attBad p <;> rw [hb] at he <;> simp at he
 subst he
 exact ⟨rfl, p, hp, hb, rfl⟩
theorem tC {w : WorldT} {known st term : Int} : ∀ x ∈ eG w known st term, ∀ y ∈ eG w known st term, x.term = y.term → x.course = y.course → x = y := by
 intro x hx y hy ht hc
 obtain ⟨n, hn, hx⟩ := Ht.1 hx
 obtain ⟨n', hn', hy⟩ := Ht.1 hy
 obtain ⟨e1, p, hp, _, rfl⟩ := ic hx
 obtain ⟨e2, q, hq, _, rfl⟩ := ic hy
 have : n = n' := by rw [← e1, ← e2, hc]
 subst this
 have hpq : p = q := by
  have hinc := uF (kk := 5) (ks := st) (ko := n) (frm := 0) (to := term) (known := known) (l := w.f)
  have key : ∀ (l : List PtT), l.Pairwise (fun p q => p.term < q.term) → ∀ p ∈ l, ∀ q ∈ l, p.term = q.term → p = q := by
   intro l
   induction l with
   | nil => intro _ p hp; simp at hp
   | cons a l ih =>
    intro hl p hp q hq e
    rw [List.pairwise_cons] at hl
    rcases Eg.1 hp with hp1 | hp1 <;> rcases Eg.1 hq with hq1 | hq1
    ·rw [hp1, hq1]
    ·have := hl.1 q hq1; rw [hp1] at e; omega
    ·have := hl.1 p hp1; rw [hq1] at e; omega
    ·exact ih hl.2 p hp1 q hq1 e
  exact key _ hinc p hp q hq ht
 rw [hpq]
theorem e7 {α β : Type} (f : α → List β) (k : Nat) : ∀ l : List α, (∀ a ∈ l, (f a).length ≤ k) → (l.flatMap f).length ≤ l.length * k
 | [], _ => by simp
 | a :: l, h => by
  have := e7 f k l (fun b hb => h b (by simp [hb]))
  have h1 := h a (by simp)
  simp only [HX, ER, Ef, Nat.add_mul]
  omega
theorem m9 {w : WorldT} (hw : w.ok) {known st term : Int} : (eG w known st term).length ≤ 70656000 := by
 have h1 := e7 (dg w known st term) 1024 (ae w.f known) (fun n _ => Fl (List.length_filterMap_le ..) bf)
 have h2 := d8 (fs := w.f) (known := known)
 have h3 := hw.lf
 unfold eG
 have : (ae w.f known).length * 1024 ≤ 69000 * 1024 := Gj _ (by omega)
 omega
theorem sc {w : WorldT} {known st term n : Int} : (b7 w known st term n).length ≤ 1025 := by
 unfold b7
 have h1 := e7 (rdO n) 1 (l9 w known st term n) (fun p _ => by unfold rdO; cases attBad p <;> simp [rdT_len])
 have h2 := bf (kk := 5) (ks := st) (ko := n) (frm := 0) (to := term) (known := known) (l := w.f)
 simp only [Ef]
 simp only [l9] at h1 ⊢
 omega
theorem fK {w : WorldT} (hw : w.ok) {known st term : Int} : (aN w known st term).length ≤ 70725001 := by
 have h1 := e7 (b7 w known st term) 1025 (ae w.f known) (fun n _ => sc)
 have h2 := d8 (fs := w.f) (known := known)
 have h3 := hw.lf
 unfold aN
 have : (ae w.f known).length * 1025 ≤ 69000 * 1025 := Gj _ (by omega)
 simp only [Ef]
 omega
theorem y3 {w : WorldT} (hw : w.ok) {known st term : Int} {rs : List ReadT} (hb : rs.length ≤ 700000000) : Ev Du Γk 60 [.ref (.ptr 0 0), int st, int term] (lkH w known rs 0) (.agg [int st, ab ((dm w known st term).map Dy)]) (lkH w known (rs ++ aN w known st term) 1) := by
 have h := of_a hw (known := known) (st := st) (term := term) hb (Fl d8 hw.lf) (by rw [sb]; have := m9 hw (known := known) (st := st) (term := term); unfold eG at this; simp only; omega) (by rw [sb]; exact tC)
 unfold sa at h
 rw [sb] at h
 exact h
end Go.Vi
open Go Go.Proofs
namespace Go.Vi
set_option maxRecDepth 100000
set_option maxHeartbeats 4000000
theorem Ar {w : WorldT} (hw : w.ok) {known st term : Int} : Ev Du Γk 60 [.ref (.ptr 0 0), int st, int term] (lkH w known [] 0) (.agg [int st, ab ((dm w known st term).map Dy)]) (lkH w known (aN w known st term) 1) := by
 have := y3 hw (known := known) (st := st) (term := term) (rs := []) (by simp)
 simpa using this
def sd (st term : Int) : Bool := !(decide (st ≥ 0) && decide (st ≤ 19999)) || !(decide (term ≥ 0) && decide (term ≤ 1024))
structure RecT where
 st : Int
 a : List AttT
def RecT.l (r : RecT) : List D := [int r.st, ab (r.a.map Dy)]
def xZ (w : WorldT) (st term known : Int) : RecT × List ReadT × Int := match sd st term with
 | true => (⟨0, []⟩, [], 150)
 | false => (⟨st, dm w known st term⟩, aN w known st term, 0)
def BZ (st term : Int) (rr : List ReadT) (aa : List AttT) : RecT × List ReadT × Int := match sd st term with
 | true => (⟨0, []⟩, [], 150)
 | false => (⟨st, aa⟩, rr, 0)
noncomputable abbrev jW (w : WorldT) : List Blk := [.var [ab (Dt DF w.c), ab w.p, ab (Dt DJ w.s), ab (Dt DE w.f)], .var [int 0, nq]]
theorem rof_a {w : WorldT} {st term known : Int} {rr : List ReadT} {aa : List AttT} (hof : Ev Du Γk 60 [.ref (.ptr 0 0), int st, int term] (lkH w known [] 0) (.agg [int st, ab (aa.map Dy)]) (lkH w known rr 1)) (h : List Blk) : (Ev Du Γk 23 [.agg w.l, int st, int term, int known] h (.tup [.agg (BZ st term rr aa).1.l, ab (rdR (BZ st term rr aa).2.1), int (BZ st term rr aa).2.2]) h) := by
 cases hc0 : !(decide (st ≥ 0) && decide (st ≤ 19999)) || !(decide (term ≥ 0) && decide (term ≤ 1024))
 ·let v0 : List Blk := [.var (Eb w), .var [int 0, nq], .var [.ref (.vec 3 1), ab (Dt DF w.c), ab w.p, ab (Dt DJ w.s), ab (Dt DE w.f), int known], .vec (ai (rdR rr)) 1 5]
  let v1 : List Blk := [.var (Eb w), .var [int 0, nq], .var [.ref (.vec 3 0), ab (Dt DF w.c), ab w.p, ab (Dt DJ w.s), ab (Dt DE w.f), int known], .vec [] 0 5]
  let v2 : List D := [int st, ab (Dt Dy aa)]
  refine DI (Ev.nilW (DX (d := Es [EB v2, ab (rdR rr), int 0]) pok [.val (bool (decide (st ≥ 0) && decide (st ≤ 19999))), .val (bool (decide (term ≥ 0) && decide (term ≤ 1024))), .b false, .nx 1, .st (.nilC 2 0 5), .call (EB v2) v0, .st (.frz 3 (rdR rr))] (by kernel_rfl) (.c (D7 (Γ' := Γk) (@de st 0 19999 (jW w))) (.c (gd (!!(decide (st ≥ 0) && decide (st ≤ 19999))) (D7 (Γ' := Γk) (@de term 0 1024 (jW w)))) (.c hc0 (.c (show Ev Du Γk 60 [.ref (.ptr 2 0), int st, int term] v1 (EB v2) v0 from (DI (F2 (args := [.ref (.ptr 2 0), int st, int term]) (H := v1) [2, 3] (@hof) (by kernel_rfl) (by kernel_rfl) (by kernel_rfl) ⟨?_, trivial⟩ ⟨?_, trivial⟩) (by kernel_rfl) (by kernel_rfl))) (.c (show ai (rdR rr) = Dt (fun x => Dt D.p x) (rdR rr) from (by subst v0 v1 v2; first | assumption | rfl | omega | exact af _ _ | exact ah)) (.e (EB v2) (.e (.ref (.ptr 2 0)) (.e (.ref (.ptr 2 0)) (.e (.ref (.ptr 2 0)) (.e (.ref (.ptr 2 0)) (.e (ab (rdR rr)) (.e (ab (rdR rr)) .n)))))))))))) rfl rfl h)) (by subst v0 v1 v2; first | (have hh : sd st term = true := hc0; simp only [BZ, hh]; rfl) | (have hh : sd st term = false := hc0; simp only [BZ, hh]; rfl)) (by rfl) <;> subst v0 v1 v2 <;> (first | rfl | exact al _ _ | first | assumption | rfl | omega | exact af _ _ | exact ah)
 ·exact DI (Ev.nilW (DX (d := Es [EB [int 0, nq], nq, int 150]) pok [.val (bool (decide (st ≥ 0) && decide (st ≤ 19999))), .val (bool (decide (term ≥ 0) && decide (term ≤ 1024))), .b true] (by kernel_rfl) (.c (D7 (Γ' := Γk) (@de st 0 19999 (jW w))) (.c (gd (!!(decide (st ≥ 0) && decide (st ≤ 19999))) (D7 (Γ' := Γk) (@de term 0 1024 (jW w)))) (.c hc0 .n))) rfl rfl h)) (by first | (have hh : sd st term = true := hc0; simp only [BZ, hh]; rfl) | (have hh : sd st term = false := hc0; simp only [BZ, hh]; rfl)) (by rfl)
theorem tD {w : WorldT} (hw : w.ok) {st term known : Int} (h : List Blk) : Ev Du Γk 23 [.agg w.l, int st, int term, int known] h (.tup [.agg (xZ w st term known).1.l, ab (rdR (xZ w st term known).2.1), int (xZ w st term known).2.2]) h :=
 rof_a (Ar hw) h
end Go.Vi
open Go Go.Proofs
namespace Go.Vi
set_option maxRecDepth 100000
set_option maxHeartbeats 4000000
theorem qu {w : WorldT} {term known : Int} {ns : List Int} : ∀ (f i : Nat) (s : RL), fj ns (eqOut w term known ns f i s).2 + (eqOut w term known ns f i s).2.length ≤ fj ns s.2 + s.2.length ∧ (eqOut w term known ns f i s).1.length ≤ s.1.length + f * ns.length
 | 0, _, s => by simp [eqOut]
 | f + 1, i, s => by
  cases ha : s.2[i]? with
  | none => rw [eF ha]; simp
  | some a =>
   have h1 := fI (w := w) (term := term) (known := known) (a := a) (ns := ns) ns (fun _ h => h) s
   have h2 := qu (w := w) (term := term) (known := known) (ns := ns) f (i + 1) (ib w term known ns a s)
   simp only [eqOut, ha]
   simp only [ib] at *
   rw [Nat.add_mul]
   omega
theorem tE {w : WorldT} {c term known : Int} : (fJ w c term known).2.length ≤ (ae w.f known).length + 1 ∧ (fJ w c term known).1.length ≤ 1 + ((ae w.f known).length + 1) * (ae w.f known).length := by
 have h := qu (w := w) (term := term) (known := known) (ns := ae w.f known) ((ae w.f known).length + 1) 0 ([rdN], [c])
 have h1 := lp (ae w.f known) c
 unfold fJ
 simp only [Ef, FF] at h h1 ⊢
 omega
def bg (w : WorldT) (c term known : Int) : RL := match (!(decide (c ≥ 0) && decide (c ≤ 4095)) || !(decide (term ≥ 0) && decide (term ≤ 1023))) with
 | true => ([], [c])
 | false => ((fJ w c term known).1, wQ w c term known)
theorem ot {w : WorldT} {c term known : Int} (hn : (ae w.f known).length ≤ 1000) : (bg w c term known).1.length ≤ 1001001 ∧ (bg w c term known).2.length ≤ 1001 := by
 have h := tE (w := w) (c := c) (term := term) (known := known)
 have h2 : ((ae w.f known).length + 1) * (ae w.f known).length ≤ 1001 * 1000 := Nat.mul_le_mul (by omega) hn
 unfold bg
 split
 ·simp
 ·simp only [wQ, List.length_mergeSort]; omega
noncomputable abbrev na (w : WorldT) : List Blk := [.var [ab (Dt DF w.c), ab w.p, ab (Dt DJ w.s), ab (Dt DE w.f)]]
theorem B0 {w : WorldT} {c term known : Int} (hc : (!(decide (c ≥ 0) && decide (c ≤ 4095)) || !(decide (term ≥ 0) && decide (term ≤ 1023))) = true) (h : List Blk) : (Ev Du Γ0 120 [.agg w.l, int c, int term, int known] h (.tup [ab ([c].map fun n => [vi n]), ab (rdR [])]) h) := by
 exact DI (Ev.nilW (DX (d := Es [ab [[vi c]], nq]) pok [.val (bool (decide (c ≥ 0) && decide (c ≤ 4095))), .val (bool (decide (term ≥ 0) && decide (term ≤ 1023))), .b true, .nx 1, .st (.frz 1 [[vi c]])] (by kernel_rfl) (.c (@eD c 0 4095 (na w)) (.c (gd (!!(decide (c ≥ 0) && decide (c ≤ 4095))) (@eD term 0 1023 (na w))) (.c hc (.c (show [[int c]] = [[int c]] from rfl) .n)))) rfl rfl h)) (by rfl) (by rfl)
theorem y4 {w : WorldT} (hw : w.ok) {c term known : Int} (hn : (ae w.f known).length ≤ 1000) (h : List Blk) : Ev Du Γ0 120 [.agg w.l, int c, int term, int known] h (.tup [ab ((bg w c term known).2.map fun n => [vi n]), ab (rdR (bg w c term known).1)]) h := by
 unfold bg
 cases hc : (!(decide (c ≥ 0) && decide (c ≤ 4095)) || !(decide (term ≥ 0) && decide (term ≤ 1023)))
 ·exact BR hw hc hn (by have := (tE (w := w) (c := c) (term := term) (known := known)).1; omega) (fun h => lj hw.lf hw.sf h) h
 ·exact B0 hc h
theorem wU {w : WorldT} (hw : w.ok) {c term known : Int} (hn : (ae w.f known).length ≤ 1000) (h : List Blk) : Ev Du Γk 120 [.agg w.l, int c, int term, int known] h (.tup [ab ((bg w c term known).2.map fun n => [vi n]), ab (rdR (bg w c term known).1)]) h := D7 (y4 hw hn h)
noncomputable abbrev e8 (w : WorldT) (known : Int) (n : Int) (term : Int) (rs : List ReadT) : List Blk := [.var [.ref (.vec 1 1), ab (Dt DF w.c), ab w.p, ab (Dt DJ w.s), ab (Dt DE w.f), int known], .vec (ai (rdR (rs ++ (bg w n term known).fst))) 1 5]
noncomputable abbrev ou (w : WorldT) (known : Int) (rs : List ReadT) : List Blk := [.var [.ref (.vec 1 0), ab (Dt DF w.c), ab w.p, ab (Dt DJ w.s), ab (Dt DE w.f), int known], .vec (ai (rdR rs)) 0 5]
theorem nb {w : WorldT} (hw : w.ok) {known n term : Int} (hn : (ae w.f known).length ≤ 1000) {rs : List ReadT} (hb : rs.length ≤ 990000000) : (Ev Du Γk 63 [.ref (.ptr 0 0), int n, int term] (lkH w known rs 0) (ab ((bg w n term known).2.map fun n => [vi n])) (lkH w known (rs ++ (bg w n term known).1) 1)) := by
 refine DI (Ev.post (d2 := ab (Dt (fun n => [vi n]) (bg w n term known).snd)) (h2 := (e8 w known n term rs)) (φ := [DL 2 (.var [.ref (.vec 1 1), ab (Dt DF w.c), ab w.p, ab (Dt DJ w.s), ab (Dt DE w.f), int known]) = true, DL 2 (.vec (ai (rdR (rs ++ (bg w n term known).fst))) 1 5) = true]) [.st (.trimV 2)] (Ev.of_sym (h' := (e8 w known n term rs)) (d := ab (Dt (fun n => [vi n]) (bg w n term known).snd)) pok [.val (Es [ab (Dt (fun n => [vi n]) (bg w n term known).snd), ab (rdR (bg w n term known).fst)]), .call (Es []) (e8 w known n term rs)] (by kernel_rfl) (.c (@wU w hw n term known hn (ou w known rs)) (.c (@tw w known rs ((bg w n term known).fst) ?_) .n))) (by kernel_rfl) ⟨rfl, ?_, trivial⟩) (by first | rfl | (simp only [lkH, rdR, ai, Ey]; rfl) | (simp only [lkH, rdR, ai, Ey]; done)) (by first | rfl | (simp only [lkH, rdR, ai, Ey]; rfl) | (simp only [lkH, rdR, ai, Ey]; done)) <;> (first | assumption | rfl | omega | exact bF _ _ | exact ah | (have := (ot (w := w) (c := n) (term := term) (known := known) hn).1; omega) | (simp; omega))
end Go.Vi
open Go Go.Proofs Go.Shelf
namespace Go.Proofs
def Tryz.sortSeen_ren : Go.Shelf.Ren := ⟨fun | 6 => 64 | 15 => 122 | 14 => 121 | 28 => 173 | 29 => 174 | 20 => 165 | 21 => 166 | 22 => 167 | 23 => 168 | 24 => 169 | 25 => 170 | 26 => 171 | 27 => 172 | 46 => 210 | 47 => 211 | 48 => 212 | 49 => 213 | 50 => 214 | 57 => 230 | n => n, fun | 22 => 33 | 24 => 115 | 25 => 130 | 3 => 3 | 39 => 192 | 0 => 0 | 53 => 233 | 55 => 169 | 4 => 4 | 46 => 227 | 45 => 226 | 50 => 150 | 5 => 5 | 9 => 9 | 66 => 251 | 70 => 255 | 76 => 265 | 77 => 266 | n => n, fun | n => n⟩
theorem Tryz.sortSeen : H7 Du Tryz.sortSeen_ren := {
 mixed := by kernel_rfl
 f6 := ⟨Tryz.f64.name, by decide, Tryz.func64.trans (congrArg some (by kernel_rfl))⟩
 f14 := ⟨Tryz.f121.name, by decide, Tryz.func121.trans (congrArg some (by kernel_rfl))⟩
 f15 := Tryz.func122.trans (congrArg some (by kernel_rfl))
 f20 := ⟨Tryz.f165.name, by decide, Tryz.func165.trans (congrArg some (by kernel_rfl))⟩
 f21 := ⟨Tryz.f166.name, by decide, Tryz.func166.trans (congrArg some (by kernel_rfl))⟩
 f22 := ⟨Tryz.f167.name, by decide, Tryz.func167.trans (congrArg some (by kernel_rfl))⟩
 f23 := ⟨Tryz.f168.name, by decide, Tryz.func168.trans (congrArg some (by kernel_rfl))⟩
 f24 := ⟨Tryz.f169.name, by decide, Tryz.func169.trans (congrArg some (by kernel_rfl))⟩
 f25 := ⟨Tryz.f170.name, by decide, Tryz.func170.trans (congrArg some (by kernel_rfl))⟩
 f26 := ⟨Tryz.f171.name, by decide, Tryz.func171.trans (congrArg some (by kernel_rfl))⟩
 f27 := ⟨Tryz.f172.name, by decide, Tryz.func172.trans (congrArg some (by kernel_rfl))⟩
 f28 := Tryz.func173.trans (congrArg some (by kernel_rfl))
 f29 := Tryz.func174.trans (congrArg some (by kernel_rfl))
 f46 := ⟨Tryz.f210.name, by decide, Tryz.func210.trans (congrArg some (by kernel_rfl))⟩
 f47 := Tryz.func211.trans (congrArg some (by kernel_rfl))
 f48 := Tryz.func212.trans (congrArg some (by kernel_rfl))
 f49 := ⟨Tryz.f213.name, by decide, Tryz.func213.trans (congrArg some (by kernel_rfl))⟩
 f50 := ⟨Tryz.f214.name, by decide, Tryz.func214.trans (congrArg some (by kernel_rfl))⟩
 f57 := ⟨Tryz.f230.name, by decide, Tryz.func230.trans (congrArg some (by kernel_rfl))⟩
 t0 := Tryz.underlying0
 a0 := Tryz.isAgg0
 z0 := Tryz.sizeOf0
 v0 := Tryz.zeroValue0
 t3 := Tryz.underlying3
 a3 := Tryz.isAgg3
 z3 := Tryz.sizeOf3
 v3 := Tryz.zeroValue3
 t4 := Tryz.underlying4
 a4 := Tryz.isAgg4
 z4 := Tryz.sizeOf4
 v4 := Tryz.zeroValue4
 t5 := Tryz.underlying5
 a5 := Tryz.isAgg5
 z5 := Tryz.sizeOf5
 v5 := Tryz.zeroValue5
 t9 := Tryz.underlying9
 a9 := Tryz.isAgg9
 z9 := Tryz.sizeOf9
 v9 := Tryz.zeroValue9
 t22 := Tryz.underlying33
 a22 := Tryz.isAgg33
 z22 := Tryz.sizeOf33
 v22 := Tryz.zeroValue33
 t25 := Tryz.underlying130
 a25 := Tryz.isAgg130
 z25 := Tryz.sizeOf130
 v25 := Tryz.zeroValue130
 t39 := Tryz.underlying192
 a39 := Tryz.isAgg192
 z39 := Tryz.sizeOf192
 v39 := Tryz.zeroValue192
 t45 := Tryz.underlying226
 a45 := Tryz.isAgg226
 z45 := Tryz.sizeOf226
 v45 := Tryz.zeroValue226
 t46 := Tryz.underlying227
 a46 := Tryz.isAgg227
 z46 := Tryz.sizeOf227
 v46 := Tryz.zeroValue227
 t50 := Tryz.underlying150
 a50 := Tryz.isAgg150
 z50 := Tryz.sizeOf150
 v50 := Tryz.zeroValue150
 t53 := Tryz.underlying233
 a53 := Tryz.isAgg233
 z53 := Tryz.sizeOf233
 v53 := Tryz.zeroValue233
 t55 := Tryz.underlying169
 a55 := Tryz.isAgg169
 z55 := Tryz.sizeOf169
 v55 := Tryz.zeroValue169
 t66 := Tryz.underlying251
 a66 := Tryz.isAgg251
 z66 := Tryz.sizeOf251
 v66 := Tryz.zeroValue251
 t70 := Tryz.underlying255
 a70 := Tryz.isAgg255
 z70 := Tryz.sizeOf255
 v70 := Tryz.zeroValue255
 t76 := Tryz.underlying265
 a76 := Tryz.isAgg265
 z76 := Tryz.sizeOf265
 v76 := Tryz.zeroValue265
 t77 := Tryz.underlying266
 a77 := Tryz.isAgg266
 z77 := Tryz.sizeOf266
 v77 := Tryz.zeroValue266 }
end Go.Proofs
namespace Go.Vi
open Go.Sort
set_option maxRecDepth 100000
set_option maxHeartbeats 4000000
structure SeenT where
 course : Int
 tries : Int
 best : Int
 now : Bool
 deriving Inhabited, DecidableEq
def SeenT.row (s : SeenT) : List Dp := [vi s.course, vi s.tries, vi s.best, .v (.bool s.now)]
noncomputable abbrev ow (a : SeenT) (b : SeenT) : List Blk := [.var [int a.course, int a.tries, int a.best, bool a.now], .var [int b.course, int b.tries, int b.best, bool b.now]]
theorem uG {a b : SeenT} (h : List Blk) : (Ev Du Γ0 65 [ag a.row, ag b.row] h (int (aW a.course b.course)) h) := by
 exact DI (DX (d := int (aW a.course b.course)) pok [.val (int (aW a.course b.course))] (by kernel_rfl) (.c (@cR (a.course) (b.course) (ow a b)) .n) rfl rfl h) (by rfl) (by rfl)
def Dl (a b : SeenT) : Int := aW a.course b.course
def leS (a b : SeenT) : Bool := !(ltOf Dl) b a
theorem wV (a b : SeenT) : (ltOf Dl) a b = true ↔ a.course < b.course := by
 unfold ltOf Dl aW
 simp only [decide_eq_true_eq]
 repeat' split
 all_goals simp_all
 all_goals omega
theorem ox (a b : SeenT) : (ltOf Dl) a b = false ↔ ¬ a.course < b.course := by
 rw [← wV, Bool.not_eq_true]
theorem swoS : SWO (ltOf Dl) where
 irrefl x := by rw [ox]; omega
 trans x y z h1 h2 := by rw [wV] at *; omega
 ntrans x y z h1 h2 := by rw [ox] at *; omega
def encS (a : SeenT) : List Value := [.int .i64 a.course, .int .i64 a.tries, .int .i64 a.best, .bool a.now]
abbrev aU (l : List SeenT) : List (List D) := l.map fun a => a.row.map .p
theorem se {h : List Blk} {b e : Nat} {l : List SeenT} (hb : h[b]? = some (.vec (aU l) e 4)) (hl : l.length < 4611686018427387904) (hT : ∀ x ∈ l, ∀ y ∈ l, x.course = y.course → x = y) :
  Ev Du Γ0 64 [.ref (.vec b e), .p (.v (.func (.func 65) #[] #[]))] h (.tup []) (h.set b (.vec (aU (l.mergeSort leS)) e 4)) :=
 jy (α := SeenT) (enc := encS) (k := 4) (cf := Dl) pok Tryz.sortSeen Tryz.isAgg115 Tryz.sizeOf115 (fun _ => rfl) (fun x v hv => by simp [encS] at hv; rcases hv with rfl | rfl | rfl | rfl <;> rfl) swoS (by kernel_rfl) (fun x y => uG []) hb hl
  (fun x hx y hy h1 h2 => by
   rw [ox] at h1 h2
   exact hT x hx y hy (by omega))
end Go.Vi
open Go Go.Proofs
namespace Go.Vi
abbrev SM := List (Int × SeenT)
def seD (s : SeenT) : D := .agg (s.row.map .p)
def aP : Nat → SM → List (D × D × Nat)
 | _, [] => []
 | j, (k, v) :: l => (int k, seD v, j) :: aP (j + 1) l
def smB (l : SM) : Blk := .map (aP 0 l) l.length
def jI : SM → Int → Option SeenT
 | [], _ => none
 | (a, v) :: l, k => if a = k then some v else jI l k
def bX : SM → Int → SeenT → SM
 | [], k, v => [(k, v)]
 | (a, x) :: l, k, v => if a = k then (k, v) :: l else (a, x) :: bX l k v
def x8 : SM → Int → Nat → Option (Nat × D)
 | [], _, _ => none
 | (a, v) :: l, k, i => if a = k then some (i, seD v) else x8 l k (i + 1)
theorem lr (k : Int) : ∀ (l : SM) (j i : Nat), c5 (int k) (aP j l) i = some (x8 l k i)
 | [], _, _ => rfl
 | (a, v) :: l, j, i => by
  simp only [aP, c5, x8]
  by_cases h : a = k
  ·subst h; simp [ge]
  ·have : ge (int k) (int a) = some false := by
    have h2 : ¬ k = a := fun e => h e.symm
    simp [ge, h2]
   rw [this]
   simp only [h, if_false]
   exact lr k l (j + 1) (i + 1)
theorem lu {k : Int} : ∀ {l : SM} {i : Nat}, x8 l k i = none → jI l k = none ∧ ∀ v, bX l k v = l ++ [(k, v)]
 | [], _, _ => by simp [jI, bX]
 | (a, x) :: l, i, h => by
  unfold x8 at h
  split at h
  ·simp at h
  ·rename_i hne
   obtain ⟨h1, h2⟩ := lu h
   simp only [jI, bX, hne, if_false, h1, true_and]
   intro v; rw [h2]; rfl
theorem lv {k : Int} : ∀ {l : SM} {i j n : Nat} {d : D}, x8 l k i = some (n, d) → ∃ v, d = seD v ∧ jI l k = some v ∧ i ≤ n ∧ ((aP j l)[n - i]?).map (fun e => e.2.2) = some (j + (n - i)) ∧ ∀ x, aP j (bX l k x) = (aP j l).set (n - i) (int k, seD x, j + (n - i)) ∧ (bX l k x).length = l.length
 | [], _, _, _, _, h => by simp [x8] at h
 | (a, x) :: l, i, j, n, d, h => by
  unfold x8 at h
  split at h
  ·rename_i ha
   simp only [Dv, Dx] at h
   obtain ⟨rfl, rfl⟩ := h
   exact ⟨x, rfl, by simp [jI, ha], Nat.le_refl _, by simp [aP], fun y => by simp [bX, ha, aP]⟩
  ·rename_i ha
   obtain ⟨v, h1, h2, h3, h4, h5⟩ := lv (j := j + 1) h
   have e : n - i = (n - (i + 1)) + 1 := by omega
   refine ⟨v, h1, by simp [jI, ha, h2], by omega, ?_, fun y => ?_⟩
   ·rw [e]; simp only [aP, EV, h4]; congr 1; omega
   ·obtain ⟨h6, h7⟩ := h5 y
    simp only [bX, ha, if_false, aP, h6]
    rw [e, Jd]
    refine ⟨?_, by simp [h7]⟩
    rw [show j + 1 + (n - (i + 1)) = j + (n - (i + 1) + 1) by omega]
def uH : SeenT := ⟨0, 0, 0, false⟩
theorem uI {P : Program} {h : List Blk} {t : TypeId} {b : Nat} {l : SM} {c : Int} {kt et : TypeId} (hk : ci P kt (int c) = true) (ht : P.underlying t = some (.map kt et)) (hz : gx P et = some (.agg #[.int .i64 0, .int .i64 0, .int .i64 0, .bool false])) (hb : h[b]? = some (smB l)) :
  ar P h t (.ref (.mp b)) (int c) false = some (seD ((jI l c).getD uH)) := by
 unfold ar
 simp only [ht, j3, hb, smB, hk, if_true, hz, lr]
 cases hi : x8 l c 0 with
 | none =>
  rw [(lu hi).1]; rfl
 | some p =>
  obtain ⟨n, d⟩ := p
  obtain ⟨v, rfl, h2, _⟩ := lv (j := 0) hi
  rw [h2]; rfl
theorem tG (k : Int) (v : SeenT) : ∀ (l : SM) (j : Nat), aP j (l ++ [(k, v)]) = aP j l ++ [(int k, seD v, j + l.length)]
 | [], j => by simp [aP]
 | (a, x) :: l, j => by
  simp only [GZ, aP, tG k v l (j + 1), Ef]
  rw [show j + 1 + l.length = j + (l.length + 1) by omega]
theorem wW {P : Program} {h : List Blk} {t : TypeId} {b : Nat} {l : SM} {c : Int} {v : SeenT} {kt et : TypeId} (hk : ci P kt (int c) = true) (ht : P.underlying t = some (.map kt et)) (hb : h[b]? = some (smB l)) :
  ap P h t (.ref (.mp b)) (int c) (seD v) = some (h.set b (smB (bX l c v))) := by
 unfold ap
 simp only [ht, hb, smB, hk, if_true, lr]
 cases hi : x8 l c 0 with
 | none =>
  simp only [(lu hi).2 v, tG]
  simp
 | some p =>
  obtain ⟨n, d⟩ := p
  obtain ⟨x, rfl, _, _, h4, h5⟩ := lv (j := 0) hi
  obtain ⟨h6, h7⟩ := h5 v
  simp only [Nat.sub_zero, FO] at h4 h6
  cases hn : (aP 0 l)[n]? with
  | none => rw [hn] at h4; simp at h4
  | some e =>
   rw [hn] at h4
   obtain ⟨e1, e2, e3⟩ := e
   simp only [En, Dv] at h4
   subst h4
   simp only [h6, h7]
   rw [hn]
theorem aG (f : Ref → D) : ∀ (l : SM) (j : Nat), (aP j l).map (fun e => (DR f e.1, DR f e.2.1, e.2.2)) = aP j l
 | [], _ => rfl
 | (a, x) :: l, j => by simp only [aP, EH, aG f l (j + 1)]; rfl
theorem tH (n : Nat) : ∀ (l : SM) (j : Nat), ((aP j l).all fun e => D.inn n e.1 && D.inn n e.2.1) = true
 | [], _ => rfl
 | (a, x) :: l, j => by simp only [aP, FX, tH n l (j + 1)]; rfl
theorem bu {n : Nat} {l : SM} : DL n (smB l) = true := tH n l 0
end Go.Vi
open Go Go.Proofs
namespace Go.Vi
abbrev IM := List (Int × Int)
def aq : Nat → IM → List (D × D × Nat)
 | _, [] => []
 | j, (k, v) :: l => (int k, int v, j) :: aq (j + 1) l
def imB (l : IM) : Blk := .map (aq 0 l) l.length
def imGet : IM → Int → Option Int
 | [], _ => none
 | (a, v) :: l, k => if a = k then some v else imGet l k
def aL : IM → Int → Int → IM
 | [], k, v => [(k, v)]
 | (a, x) :: l, k, v => if a = k then (k, v) :: l else (a, x) :: aL l k v
theorem wX (l : IM) (k v k' : Int) : imGet (aL l k v) k' = if k = k' then some v else imGet l k' := by
 induction l with
 | nil => simp [aL, imGet]
 | cons e l ih =>
  obtain ⟨a, x⟩ := e
  unfold aL
  by_cases h : a = k
  ·subst h
   simp only [if_true, imGet]
   by_cases h2 : a = k' <;> simp [h2]
  ·simp only [h, if_false, imGet, ih]
   by_cases h2 : a = k'
   ·subst h2; simp [Ne.symm h]
   ·simp [h2]
def wY : IM → Int → Nat → Option (Nat × D)
 | [], _, _ => none
 | (a, v) :: l, k, i => if a = k then some (i, int v) else wY l k (i + 1)
theorem ie (k : Int) : ∀ (l : IM) (j i : Nat), c5 (int k) (aq j l) i = some (wY l k i)
 | [], _, _ => rfl
 | (a, v) :: l, j, i => by
  simp only [aq, c5, wY]
  by_cases h : a = k
  ·subst h; simp [ge]
  ·have : ge (int k) (int a) = some false := by
    have h2 : ¬ k = a := fun e => h e.symm
    simp [ge, h2]
   rw [this]
   simp only [h, if_false]
   exact ie k l (j + 1) (i + 1)
theorem ig {k : Int} : ∀ {l : IM} {i : Nat}, wY l k i = none → imGet l k = none ∧ ∀ v, aL l k v = l ++ [(k, v)]
 | [], _, _ => by simp [imGet, aL]
 | (a, x) :: l, i, h => by
  unfold wY at h
  split at h
  ·simp at h
  ·rename_i hne
   obtain ⟨h1, h2⟩ := ig h
   simp only [imGet, aL, hne, if_false, h1, true_and]
   intro v; rw [h2]; rfl
theorem ii {k : Int} : ∀ {l : IM} {i j n : Nat} {d : D}, wY l k i = some (n, d) → ∃ v, d = int v ∧ imGet l k = some v ∧ i ≤ n ∧ ((aq j l)[n - i]?).map (fun e => e.2.2) = some (j + (n - i)) ∧ ∀ x, aq j (aL l k x) = (aq j l).set (n - i) (int k, int x, j + (n - i)) ∧ (aL l k x).length = l.length
 | [], _, _, _, _, h => by simp [wY] at h
 | (a, x) :: l, i, j, n, d, h => by
  unfold wY at h
  split at h
  ·rename_i ha
   simp only [Dv, Dx] at h
   obtain ⟨rfl, rfl⟩ := h
   exact ⟨x, rfl, by simp [imGet, ha], Nat.le_refl _, by simp [aq], fun y => by simp [aL, ha, aq]⟩
  ·rename_i ha
   obtain ⟨v, h1, h2, h3, h4, h5⟩ := ii (j := j + 1) h
   have e : n - i = (n - (i + 1)) + 1 := by omega
   refine ⟨v, h1, by simp [imGet, ha, h2], by omega, ?_, fun y => ?_⟩
   ·rw [e]; simp only [aq, EV, h4]; congr 1; omega
   ·obtain ⟨h6, h7⟩ := h5 y
    simp only [aL, ha, if_false, aq, h6]
    rw [e, Jd]
    refine ⟨?_, by simp [h7]⟩
    rw [show j + 1 + (n - (i + 1)) = j + (n - (i + 1) + 1) by omega]
theorem qv {P : Program} {h : List Blk} {t : TypeId} {b : Nat} {l : IM} {c : Int} {kt et : TypeId} (hk : ci P kt (int c) = true) (ht : P.underlying t = some (.map kt et)) (hz : gx P et = some (.int .i64 0)) (hb : h[b]? = some (imB l)) :
  ar P h t (.ref (.mp b)) (int c) true = some (.tup [int ((imGet l c).getD 0), bool (imGet l c).isSome]) := by
 unfold ar
 simp only [ht, j3, hb, imB, hk, if_true, hz, ie]
 cases hi : wY l c 0 with
 | none =>
  rw [(ig hi).1]; rfl
 | some p =>
  obtain ⟨n, d⟩ := p
  obtain ⟨v, rfl, h2, _⟩ := ii (j := 0) hi
  rw [h2]; rfl
theorem nc {P : Program} {h : List Blk} {t : TypeId} {b : Nat} {l : IM} {c : Int} {kt et : TypeId} (hk : ci P kt (int c) = true) (ht : P.underlying t = some (.map kt et)) (hz : gx P et = some (.int .i64 0)) (hb : h[b]? = some (imB l)) :
  ar P h t (.ref (.mp b)) (int c) false = some (int ((imGet l c).getD 0)) := by
 unfold ar
 simp only [ht, j3, hb, imB, hk, if_true, hz, ie]
 cases hi : wY l c 0 with
 | none =>
  rw [(ig hi).1]; rfl
 | some p =>
  obtain ⟨n, d⟩ := p
  obtain ⟨v, rfl, h2, _⟩ := ii (j := 0) hi
  rw [h2]; rfl
theorem tI (k v : Int) : ∀ (l : IM) (j : Nat), aq j (l ++ [(k, v)]) = aq j l ++ [(int k, int v, j + l.length)]
 | [], j => by simp [aq]
 | (a, x) :: l, j => by
  simp only [GZ, aq, tI k v l (j + 1), Ef]
  rw [show j + 1 + l.length = j + (l.length + 1) by omega]
theorem ij {P : Program} {h : List Blk} {t : TypeId} {b : Nat} {l : IM} {c v : Int} {kt et : TypeId} (hk : ci P kt (int c) = true) (ht : P.underlying t = some (.map kt et)) (hb : h[b]? = some (imB l)) :
  ap P h t (.ref (.mp b)) (int c) (int v) = some (h.set b (imB (aL l c v))) := by
 unfold ap
 simp only [ht, hb, imB, hk, if_true, ie]
 cases hi : wY l c 0 with
 | none =>
  simp only [(ig hi).2 v, tI]
  simp
 | some p =>
  obtain ⟨n, d⟩ := p
  obtain ⟨x, rfl, _, _, h4, h5⟩ := ii (j := 0) hi
  obtain ⟨h6, h7⟩ := h5 v
  simp only [Nat.sub_zero, FO] at h4 h6
  cases hn : (aq 0 l)[n]? with
  | none => rw [hn] at h4; simp at h4
  | some e =>
   rw [hn] at h4
   obtain ⟨e1, e2, e3⟩ := e
   simp only [En, Dv] at h4
   subst h4
   simp only [h6, h7]
   rw [hn]
theorem aF (f : Ref → D) : ∀ (l : IM) (j : Nat), (aq j l).map (fun e => (DR f e.1, DR f e.2.1, e.2.2)) = aq j l
 | [], _ => rfl
 | (a, x) :: l, j => by simp only [aq, EH, aF f l (j + 1)]; rfl
theorem tJ (n : Nat) : ∀ (l : IM) (j : Nat), ((aq j l).all fun e => D.inn n e.1 && D.inn n e.2.1) = true
 | [], _ => rfl
 | (a, x) :: l, j => by simp only [aq, FX, tJ n l (j + 1)]; rfl
theorem aR {n : Nat} {l : IM} : DL n (imB l) = true := tJ n l 0
end Go.Vi
open Go Go.Proofs
namespace Go.Vi
set_option maxRecDepth 100000
set_option maxHeartbeats 4000000
theorem wZ {l : List AttT} (h : List Blk) : ∀ c ∈ l, Iv Du Γ0 (.p (.v (.func (.func 156) #[] #[]))) [ag c.row] h (bool (!uZ c)) h := fun c _ => Iv.of (f := 156) (fi := []) (ca := []) pok (by kernel_rfl) (by kernel_rfl) (wm h)
def dT (l : List AttT) : Int := bif l.any (fun a => !uZ a) then 150 else 0
theorem y5 {l : List AttT} (hl : aj l) (hf : ∀ c ∈ l, Iv Du Γ0 (.p (.v (.func (.func 156) #[] #[]))) [ag c.row] [] (bool (!uZ c)) []) (h : List Blk) : (Ev Du Γ0 106 [ab (l.map Dy)] h (int (dT l)) h) := by
 cases hc0 : List.any l fun c => !uZ c
 ·exact DI (DX (d := int 0) pok [.val (bool (List.any l fun c => !uZ c)), .b false] (by kernel_rfl) (.c (@Ag l hl (fq 156) ([]) (fun c => !uZ c) hf) (.c hc0 .n)) rfl rfl h) (by simp only [dT, hc0, cond_false]) (by rfl)
 ·exact DI (DX (d := int 150) pok [.val (bool (List.any l fun c => !uZ c)), .b true] (by kernel_rfl) (.c (@Ag l hl (fq 156) ([]) (fun c => !uZ c) hf) (.c hc0 .n)) rfl rfl h) (by simp only [dT, hc0, cond_true]) (by rfl)
theorem da {l : List AttT} (hl : aj l) (h : List Blk) : Ev Du Γ0 106 [ab (l.map Dy)] h (int (dT l)) h := y5 hl (wZ []) h
theorem w4 {a b : AttT} (h : List Blk) : (Ev Du Γ0 208 [ag a.row, ag b.row] h (bool (decide (a.grade > b.grade) || (a.grade == b.grade && decide (a.term < b.term)))) h) := by
 exact DI (DX (d := bool (decide (a.grade > b.grade) || a.grade == b.grade && decide (a.term < b.term))) pok [] (by kernel_rfl) .n rfl rfl h) (by rfl) (by rfl)
theorem w6 {a b : AttT} (h : List Blk) : (Ev Du Γ0 209 [ag a.row, ag b.row] h (bool (decide (a.term ≥ b.term))) h) := by
 exact DI (DX (d := bool (decide (a.term ≥ b.term))) pok [] (by kernel_rfl) .n rfl rfl h) (by rfl) (by rfl)
abbrev w7 : List D := [bool true, fnv 208, bool true, fnv 209, bool false, lit .nilFunc]
theorem tK (h : List Blk) : (Ev Du Γ0 163 [] h (.agg w7) h) := by
 exact DI (DX (d := EB [bool true, fq 208, bool true, fq 209, bool false, D.p (Dp.v Value.nilFunc)]) pok [] (by kernel_rfl) .n rfl rfl h) (by rfl) (by rfl)
end Go.Vi
