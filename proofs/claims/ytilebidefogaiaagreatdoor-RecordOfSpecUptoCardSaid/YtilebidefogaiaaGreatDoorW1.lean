/- RecordOfSpecUpto: part of the proof: contracts of the functions that the law reaches, and the law. No conditions beyond the given statement's own. -/
import Derived.Test.YtilebidefogaiaaGreatDoorV8
import Derived.Test.YtilebidefogaiaaGreatDoorChecked
open List renaming mem_of_getElem? → CS, getElem?_eq_some_iff → Ce, length → Cb, foldl → D8, map → B6
open Go.Proofs.Tryz renaming prog → B7, f136 → FL, f86 → Dg, f178 → FE, f226 → CJ, f239 → GQ
open Go.IntKind renaming u64 → GP, wrap → Cc, i64 → B8
open Bool renaming false_and → Cs, false_eq_true → CU, not_eq_true' → Df
open Go.Vi.Ev renaming sym0 → Cn, of_sym → EH, castH → Cj, glob0 → CZ
open Nat renaming gcd → DZ
open Int renaming tmod_eq_emod_of_nonneg → GH
open Go.Vi.CW renaming cast → Ct, symX → Cu, rangeFunc → Hp
open Go.Exit renaming normal → Cq, ret → Dv, exit → CE
open Go.LoopState renaming ready → CM, busy → DP, exhausted → C2, done → Ee
open Go.Vi.D renaming fn → Dm
open Go.Fn renaming func → CG
open Go.Value renaming tuple → Dd
open Go.Code renaming ret → Fj
open Go Go.Proofs
namespace Go.Vi
theorem pok_of {P : Program} (h1 : P.follows .mixedOrders = true) (h2 : (P.funcs.toList.all fun fn => !(fn.name == "runtime.NumGoroutine")) = true) : POk P where
 mixed := h1
 plain f fn hf := by
  have := List.all_eq_true.1 h2 fn (by rw [← Array.getElem?_toList] at hf; exact CS hf)
  simpa using this
abbrev int (n : Int) : D := lit (.int .i64 n)
abbrev u64 (n : Int) : D := lit (.int .u64 n)
abbrev bool (b : Bool) : D := lit (.bool b)
abbrev vi (n : Int) : Dp := .v (.int .i64 n)
abbrev vs (s : ByteArray) : Dp := .v (.string s)
abbrev al (s : ByteArray) : D := lit (.string s)
abbrev ab (es : List (List Dp)) : D := .p (.sl es)
abbrev ag (r : List Dp) : D := .agg (r.map .p)
abbrev nq : D := lit (.slice none 0 0)
abbrev fq (k : Nat) : D := lit (.func (.func k) #[] #[])
theorem gd {p : Prop} (c : Bool) (h : p) : c = true → p := fun _ => h
abbrev Γ0 : ak := fun _ => none
theorem pok : POk B7 := pok_of (by kernel_rfl) (by kernel_rfl)
end Go.Vi
open Go Go.Proofs
namespace Go.Vi
set_option maxRecDepth 100000
def I64 (n : Int) : Prop := -9223372036854775808 ≤ n ∧ n ≤ 9223372036854775807
theorem vu {n : Int} (h : I64 n) (hn : n < 0) : GP.wrap (0 - GP.wrap n) = (n.natAbs : Int) := by
 obtain ⟨h1, h2⟩ := h
 simp only [Cc, IntKind.bits, IntKind.signed, Cs, CU, if_false]
 omega
theorem vv {n : Int} (h : I64 n) (hn : ¬ n < 0) : GP.wrap n = (n.natAbs : Int) := by
 obtain ⟨h1, h2⟩ := h
 simp only [Cc, IntKind.bits, IntKind.signed, Cs, CU, if_false]
 omega
theorem vw {n : Int} (hn : I64 n) (h : List Blk) : Ev B7 Γ0 147 [int n] h (u64 n.natAbs) h := by
 by_cases h0 : n < 0
 ·rw [← vu hn h0]
  exact Cn pok (φ := [decide (n < 0) = true]) [.b true] (by kernel_rfl) ⟨by simpa using h0, trivial⟩ rfl rfl h
 ·rw [← vv hn h0]
  exact Cn pok (φ := [decide (n < 0) = false]) [.b false] (by kernel_rfl) ⟨by simpa using h0, trivial⟩ rfl rfl h
theorem l7 {n : Int} (hn : I64 n) (h : List Blk) : Ev B7 Γ0 176 [int n] h (u64 n.natAbs) h := by
 by_cases h0 : n < 0
 ·rw [← vu hn h0]
  exact Cn pok (φ := [decide (n < 0) = true]) [.b true] (by kernel_rfl) ⟨by simpa using h0, trivial⟩ rfl rfl h
 ·rw [← vv hn h0]
  exact Cn pok (φ := [decide (n < 0) = false]) [.b false] (by kernel_rfl) ⟨by simpa using h0, trivial⟩ rfl rfl h
abbrev cM : Blk := .var [.fn (.func 146) [] [.ref (.ptr 0 0)]]
theorem AA : ∀ (y x : Nat), Ev B7 Γ0 146 [u64 x, u64 y, .ref (.ptr 0 0)] [cM] (u64 (DZ y x)) [cM] := by
 intro y
 induction y using Nat.strongRecOn with
 | _ y ih =>
  intro x
  by_cases h0 : y = 0
  ·subst h0
   rw [Nat.gcd_zero_left]
   exact EH pok (φ := [((0 : Int) == 0) = true]) [.b true] (by kernel_rfl) ⟨by simp, trivial⟩
  ·have hi := ih (x % y) (Nat.mod_lt _ (by omega)) y
   rw [← Nat.gcd_rec] at hi
   refine EH pok (φ := [((y : Int) == 0) = false, (!decide ((y : Int) = 0)) = true, Ev B7 Γ0 146 [u64 y, u64 ((x : Int).tmod y), .ref (.ptr 0 0)] [cM] (u64 (DZ y x)) [cM]]) [.b false, .val (u64 (DZ y x))] (by kernel_rfl) ⟨?_, ?_, ?_, trivial⟩
   ·simp; omega
   ·simp; omega
   ·rw [show (x : Int).tmod y = ((x % y : Nat) : Int) by rw [GH (by omega)]; simp]
    exact hi
theorem vz {a b : Int} (ha : I64 a) (hb : I64 b) (h : List Blk) : Ev B7 Γ0 101 [int a, int b] h (u64 (DZ b.natAbs a.natAbs)) h :=
 Cn pok (φ := [Ev B7 Γ0 147 [int a] [cM] (u64 a.natAbs) [cM], Ev B7 Γ0 147 [int b] [cM] (u64 b.natAbs) [cM],
   Ev B7 Γ0 146 [u64 a.natAbs, u64 b.natAbs, .ref (.ptr 0 0)] [cM] (u64 (DZ b.natAbs a.natAbs)) [cM]])
  [.val (u64 a.natAbs), .val (u64 b.natAbs), .val (u64 (DZ b.natAbs a.natAbs))] (by kernel_rfl) ⟨vw ha _, vw hb _, AA _ _, trivial⟩ rfl rfl h
def AB (n d : Int) : Bool := decide (d < 1) || decide (d > 1073741824) || decide (n < -1073741824) || decide (n > 1073741824) || (DZ d.natAbs n.natAbs : Int) != 1
def sC (n d : Int) : Int := if AB n d then 50 else 0
theorem x8 {n d : Int} (hn : I64 n) (hd : I64 d) (h : List Blk) : Ev B7 Γ0 49 [.agg [int n, int d]] h (int (sC n d)) h := by
 have hc := vz hn hd [.var [int n, int d]]
 cases hb : AB n d
 ·simp only [sC, hb]
  exact Cn pok (φ := [(!(decide (d < 1) || decide (d > 1073741824) || decide (n < -1073741824) || decide (n > 1073741824))) = true →
    Ev B7 Γ0 101 [int n, int d] [.var [int n, int d]] (u64 (DZ d.natAbs n.natAbs)) [.var [int n, int d]], AB n d = false])
   [.val (u64 (DZ d.natAbs n.natAbs)), .b false] (by kernel_rfl) ⟨fun _ => hc, hb, trivial⟩ rfl rfl h
 ·simp only [sC, hb]
  exact Cn pok (φ := [(!(decide (d < 1) || decide (d > 1073741824) || decide (n < -1073741824) || decide (n > 1073741824))) = true →
    Ev B7 Γ0 101 [int n, int d] [.var [int n, int d]] (u64 (DZ d.natAbs n.natAbs)) [.var [int n, int d]], AB n d = true])
   [.val (u64 (DZ d.natAbs n.natAbs)), .b true] (by kernel_rfl) ⟨fun _ => hc, hb, trivial⟩ rfl rfl h
end Go.Vi
open Go Go.Proofs
namespace Go.Vi
set_option maxRecDepth 100000
theorem x9 (x y : Nat) : (x : Int).tmod y = ((x % y : Nat) : Int) := by
 rw [GH (by omega)]; simp
theorem lm (p : Nat × Nat) : CW B7 Γ0 [] false (.loop (sub Tryz.f175 0)) { t := mkT 12 0 [(0, u64 p.1), (1, u64 p.2), (4, u64 0)], h := [], m := [] } (.exit 0) { t := mkT 12 0 [(0, u64 (DZ p.2 p.1)), (4, u64 0)], h := [], m := [] } := by
 refine CW.loop (fun p : Nat × Nat => { t := mkT 12 0 [(0, u64 p.1), (1, u64 p.2), (4, u64 0)], h := [], m := [] }) (fun p => (.exit 0, { t := mkT 12 0 [(0, u64 (DZ p.2 p.1)), (4, u64 0)], h := [], m := [] })) (fun p => p.2) ?_ p
 rintro ⟨x, y⟩
 by_cases h0 : y = 0
 ·subst h0
  refine .inr ⟨by simp, ?_⟩
  simp only [Nat.gcd_zero_left]
  exact CW.sym pok (φ := [decide ((0 : Int) > 0) = false]) [0, 4] [.b false] (by kernel_rfl) ⟨by simp, trivial⟩
 ·refine .inl ⟨(y, x % y), Nat.mod_lt _ (by omega), by simp only [← Nat.gcd_rec], ?_⟩
  have := CW.sym (P := B7) (Γ := Γ0) (h0 := []) (rd := false) (c := sub Tryz.f175 0) (s := { t := mkT 12 0 [(0, u64 x), (1, u64 y), (4, u64 0)], h := [], m := [] }) (s' := { t := mkT 12 0 [(0, u64 y), (1, u64 ((x : Int).tmod y)), (4, u64 0)], h := [], m := [] }) (e := .normal) pok
   (φ := [decide ((y : Int) > 0) = true, (!decide ((y : Int) = 0)) = true]) [0, 1, 4] [.b true] (by kernel_rfl) ⟨by simp; omega, by simp; omega, trivial⟩
  rw [x9] at this
  exact this
theorem pa (x y : Nat) (h : List Blk) : Ev B7 Γ0 175 [u64 x, u64 y] h (u64 (DZ y x)) h :=
 Cn pok (φ := [CW B7 Γ0 [] false (.loop (sub Tryz.f175 0)) { t := mkT 12 0 [(0, u64 x), (1, u64 y), (4, u64 0)], h := [], m := [] } (.exit 0) { t := mkT 12 0 [(0, u64 (DZ y x)), (4, u64 0)], h := [], m := [] }])
  [.sum [0,1,4,5] (.exit 0) { t := mkT 12 0 [(0, u64 (DZ y x)), (4, u64 0)], h := [], m := [] }] (by kernel_rfl) ⟨lm (x, y), trivial⟩ rfl rfl h
theorem qz {n d : Int} (hn : I64 n) (hd : I64 d) (h : List Blk) : Ev B7 Γ0 142 [.agg [int n, int d]] h (int (sC n d)) h := by
 have h1 := l7 hn [.var [int n, int d]]
 have h2 := l7 hd [.var [int n, int d]]
 have h3 := pa n.natAbs d.natAbs [.var [int n, int d]]
 cases hb : AB n d
 ·simp only [sC, hb]
  exact Cn pok (φ := [(!(decide (d < 1) || decide (d > 1073741824) || decide (n < -1073741824) || decide (n > 1073741824))) = true →
    Ev B7 Γ0 176 [int n] [.var [int n, int d]] (u64 n.natAbs) [.var [int n, int d]],
    (!(decide (d < 1) || decide (d > 1073741824) || decide (n < -1073741824) || decide (n > 1073741824))) = true →
    Ev B7 Γ0 176 [int d] [.var [int n, int d]] (u64 d.natAbs) [.var [int n, int d]],
    (!(decide (d < 1) || decide (d > 1073741824) || decide (n < -1073741824) || decide (n > 1073741824))) = true →
    Ev B7 Γ0 175 [u64 n.natAbs, u64 d.natAbs] [.var [int n, int d]] (u64 (DZ d.natAbs n.natAbs)) [.var [int n, int d]], AB n d = false])
   [.val (u64 n.natAbs), .val (u64 d.natAbs), .val (u64 (DZ d.natAbs n.natAbs)), .b false] (by kernel_rfl) ⟨fun _ => h1, fun _ => h2, fun _ => h3, hb, trivial⟩ rfl rfl h
 ·simp only [sC, hb]
  exact Cn pok (φ := [(!(decide (d < 1) || decide (d > 1073741824) || decide (n < -1073741824) || decide (n > 1073741824))) = true →
    Ev B7 Γ0 176 [int n] [.var [int n, int d]] (u64 n.natAbs) [.var [int n, int d]],
    (!(decide (d < 1) || decide (d > 1073741824) || decide (n < -1073741824) || decide (n > 1073741824))) = true →
    Ev B7 Γ0 176 [int d] [.var [int n, int d]] (u64 d.natAbs) [.var [int n, int d]],
    (!(decide (d < 1) || decide (d > 1073741824) || decide (n < -1073741824) || decide (n > 1073741824))) = true →
    Ev B7 Γ0 175 [u64 n.natAbs, u64 d.natAbs] [.var [int n, int d]] (u64 (DZ d.natAbs n.natAbs)) [.var [int n, int d]], AB n d = true])
   [.val (u64 n.natAbs), .val (u64 d.natAbs), .val (u64 (DZ d.natAbs n.natAbs)), .b true] (by kernel_rfl) ⟨fun _ => h1, fun _ => h2, fun _ => h3, hb, trivial⟩ rfl rfl h
end Go.Vi
open Go Go.Proofs
namespace Go.Vi
set_option maxRecDepth 100000
set_option maxHeartbeats 20000
structure Cls where
 name : ByteArray
 earn : Int
 num : Int
 den : Int
 deriving Inhabited
def Cls.row (c : Cls) : List Dp := [vs c.name, vi c.earn, vi c.num, vi c.den]
def Cls.ok (c : Cls) : Prop := I64 c.earn ∧ I64 c.num ∧ I64 c.den
structure FeeT where
 name : ByteArray
 credits : Int
 deriving Inhabited
def FeeT.row (c : FeeT) : List Dp := [vs c.name, vi c.credits]
def am {α : Type} (l : List α) : Prop := l.length ≤ 140737488355328
theorem yb {α : Type} {row : α → List Dp} {l : List α} {n : Nat} {a : α} (h : l[n]? = some a) : (l.map row).getD n [] = row a := by
 simp [List.getD_eq_getElem?_getD, h]
theorem rowAt {α : Type} {row : α → List Dp} {l : List α} {n : Nat} {a : α} {sz : Nat} (h : l[n]? = some a) (hs : (row a).length = sz) : aH (n : Int) (l.map row) (row a) sz := by
 have := (Ce.1 h).1
 refine ⟨?_, yb h, hs⟩
 simp [inR]
 omega
end Go.Vi
open Go Go.Proofs
namespace Go.Vi
set_option maxRecDepth 100000
set_option maxHeartbeats 40000
structure Sys where
 classes : List Cls
 fees : List FeeT
 honours : List Cls
 clauses : List (List Dp)
structure Sys.ok (s : Sys) : Prop where
 c : ∀ c ∈ s.classes, c.ok
 h : ∀ c ∈ s.honours, c.ok
 f : ∀ f ∈ s.fees, I64 f.credits
 lc : am s.classes
 lh : am s.honours
 lf : am s.fees
 ll : am s.clauses
end Go.Vi
open Go Go.Proofs
namespace Go.Vi
set_option maxRecDepth 100000
set_option maxHeartbeats 40000
theorem fB (a : Int) (h : List Blk) : Ev B7 Γ0 123 [int a] h (bool false) h := by
 have := Cn (P := B7) (Γ := Γ0) (f := 123) (args := [int a]) (d := bool (a != a)) pok (φ := []) [] (by kernel_rfl) trivial rfl rfl h
 simpa using this
def aK (a b : Int) : Int := if a < b then -1 else if a > b then 1 else 0
theorem cX (a b : Int) (h : List Blk) : Ev B7 Γ0 66 [int a, int b] h (int (aK a b)) h := by
 by_cases h1 : a < b
 ·simp only [aK, h1, if_true]
  exact Cn pok (φ := [Ev B7 Γ0 123 [int a] [] (bool false) [], Ev B7 Γ0 123 [int b] [] (bool false) [], false = false, false = false, decide (a < b) = true])
   [.val (bool false), .val (bool false), .b false, .b false, .b true] (by kernel_rfl) ⟨fB _ _, fB _ _, rfl, rfl, decide_eq_true h1, trivial⟩ rfl rfl h
 ·by_cases h2 : a > b
  ·simp only [aK, h1, h2, if_true, if_false]
   exact Cn pok (φ := [Ev B7 Γ0 123 [int a] [] (bool false) [], Ev B7 Γ0 123 [int b] [] (bool false) [], false = false, false = false, decide (a < b) = false, decide (a > b) = true])
    [.val (bool false), .val (bool false), .b false, .b false, .b false, .b true] (by kernel_rfl) ⟨fB _ _, fB _ _, rfl, rfl, decide_eq_false h1, decide_eq_true h2, trivial⟩ rfl rfl h
  ·simp only [aK, h1, h2, if_false]
   exact Cn pok (φ := [Ev B7 Γ0 123 [int a] [] (bool false) [], Ev B7 Γ0 123 [int b] [] (bool false) [], false = false, false = false, decide (a < b) = false, decide (a > b) = false])
    [.val (bool false), .val (bool false), .b false, .b false, .b false, .b false] (by kernel_rfl) ⟨fB _ _, fB _ _, rfl, rfl, decide_eq_false h1, decide_eq_false h2, trivial⟩ rfl rfl h
end Go.Vi
open Go Go.Proofs
namespace Go.Vi
set_option maxRecDepth 100000
set_option maxHeartbeats 4000000
structure FactT where
 kind : Int
 sub : Int
 obj : Int
 value : Int
 frm : Int
 til : Int
 known : Int
 no : Int
 deriving Inhabited
def FactT.row (f : FactT) : List Dp := [vi f.kind, vi f.sub, vi f.obj, vi f.value, vi f.frm, vi f.til, vi f.known, vi f.no]
def FactT.ok (f : FactT) : Prop := I64 f.kind ∧ I64 f.sub ∧ I64 f.obj ∧ I64 f.value ∧ I64 f.frm ∧ I64 f.til ∧ I64 f.known ∧ I64 f.no
def orI (a b : Int) : Int := if (a != 0) = true then a else if (b != 0) = true then b else 0
abbrev orR (a b : Int) : List (List Dp) := [[vi a], [vi b]]
abbrev orS (a b : Int) (i : Int) (h : List Blk) : AS := { t := mkT 18 0 [(2, int 0), (3, int 0), (6, ab (orR a b)), (7, int 2), (8, int i)], h := h, m := [] }
theorem or_0 {a b : Int} {h0 h : List Blk} (hr : aH 0 (orR a b) [vi a] 1) (hz : (a != 0) = false) : (CW B7 Γ0 h0 false (sub FL 0) (orS a b 0 h) .normal (orS a b 1 h)) := by
 refine Ct (Cu (s' := { t := mkT 18 0 [(2, int 0), (3, int 0), (6, ab [[vi a], [vi b]]), (7, int 2), (8, int (Cc B8 (0 + 1)))], h := h, m := [] }) (e := Cq) pok [.st (.mask [2, 3, 6, 7, 8])] [.b true, .row [vi a], .b false] (by kernel_rfl) (.c (show decide (0 < 2) = true from rfl) (.c hr (.c hz .n)))) ?_ ?_ <;> (first | rfl | simp_all)
theorem or_1 {a b : Int} {h0 h : List Blk} (hr : aH 1 (orR a b) [vi b] 1) (hz : (b != 0) = false) : (CW B7 Γ0 h0 false (sub FL 0) (orS a b 1 h) .normal (orS a b 2 h)) := by
 refine Ct (Cu (s' := { t := mkT 18 0 [(2, int 0), (3, int 0), (6, ab [[vi a], [vi b]]), (7, int 2), (8, int (Cc B8 (1 + 1)))], h := h, m := [] }) (e := Cq) pok [.st (.mask [2, 3, 6, 7, 8])] [.b true, .row [vi b], .b false] (by kernel_rfl) (.c (show decide (1 < 2) = true from rfl) (.c hr (.c hz .n)))) ?_ ?_ <;> (first | rfl | simp_all)
theorem or_0r {a b : Int} {h0 h : List Blk} (hr : aH 0 (orR a b) [vi a] 1) (hz : (a != 0) = true) : (CW B7 Γ0 h0 false (sub FL 0) (orS a b 0 h) .ret { t := mkT 18 0 [(2, int a)], h := h, m := [] }) := by
 refine Ct (Cu (s' := { t := mkT 18 0 [(2, int a)], h := h, m := [] }) (e := Dv) pok [.st (.mask [2])] [.b true, .row [vi a], .b true] (by kernel_rfl) (.c (show decide (0 < 2) = true from rfl) (.c hr (.c hz .n)))) ?_ ?_ <;> (first | rfl | simp_all)
theorem or_1r {a b : Int} {h0 h : List Blk} (hr : aH 1 (orR a b) [vi b] 1) (hz : (b != 0) = true) : (CW B7 Γ0 h0 false (sub FL 0) (orS a b 1 h) .ret { t := mkT 18 0 [(2, int b)], h := h, m := [] }) := by
 refine Ct (Cu (s' := { t := mkT 18 0 [(2, int b)], h := h, m := [] }) (e := Dv) pok [.st (.mask [2])] [.b true, .row [vi b], .b true] (by kernel_rfl) (.c (show decide (1 < 2) = true from rfl) (.c hr (.c hz .n)))) ?_ ?_ <;> (first | rfl | simp_all)
theorem or_2 {a b : Int} {h0 h : List Blk} : (CW B7 Γ0 h0 false (sub FL 0) (orS a b 2 h) (.exit 0) { t := mkT 18 0 [(2, int 0), (3, int 0)], h := h, m := [] }) := by
 refine Ct (Cu (s' := { t := mkT 18 0 [(2, int 0), (3, int 0)], h := h, m := [] }) (e := CE 0) pok [.st (.mask [2, 3])] [.b false] (by kernel_rfl) (.c (show decide (2 < 2) = false from rfl) .n)) ?_ ?_ <;> (first | rfl | simp_all)
def vA (a b : Int) (h : List Blk) : Exit × AS := match a != 0 with
 | true => (.ret, { t := mkT 18 0 [(2, int a)], h := h, m := [] })
 | false => match b != 0 with
  | true => (.ret, { t := mkT 18 0 [(2, int b)], h := h, m := [] })
  | false => (.exit 0, { t := mkT 18 0 [(2, int 0), (3, int 0)], h := h, m := [] })
theorem or_cw {a b : Int} {h0 h : List Blk} : CW B7 Γ0 h0 false (.loop (sub FL 0)) (orS a b 0 h) (vA a b h).1 (vA a b h).2 := by
 have r0 : aH 0 (orR a b) [vi a] 1 := ⟨rfl, rfl, rfl⟩
 have r1 : aH 1 (orR a b) [vi b] 1 := ⟨rfl, rfl, rfl⟩
 unfold vA
 cases ha : a != 0
 ·cases hb : b != 0
  ·refine CW.loopN 2 (fun i => orS a b i h) (by simp) (fun i hi => ?_) or_2
   match i, hi with
   | 0, _ => exact or_0 r0 ha
   | 1, _ => exact or_1 r1 hb
  ·refine CW.loopN 1 (fun i => orS a b i h) (by simp) (fun i hi => ?_) (or_1r r1 hb)
   match i, hi with
   | 0, _ => exact or_0 r0 ha
 ·exact CW.loopN 0 (fun i => orS a b i h) (by simp) (fun i hi => absurd hi (Nat.not_lt_zero i)) (or_0r r0 ha)
noncomputable abbrev dg (a : FactT) (b : FactT) : List Blk := [.var [int a.kind, int a.sub, int a.obj, int a.value, int a.frm, int a.til, int a.known, int a.no], .var [int b.kind, int b.sub, int b.obj, int b.value, int b.frm, int b.til, int b.known, int b.no]]
theorem iG {a b : FactT} (h : List Blk) : (Ev B7 Γ0 84 [ag a.row, ag b.row] h (int (orI (aK a.known b.known) (aK a.no b.no))) h) := by
 have hl0 := (@or_cw (aK a.known b.known) (aK a.no b.no) ([.var [int a.kind, int a.sub, int a.obj, int a.value, int a.frm, int a.til, int a.known, int a.no], .var [int b.kind, int b.sub, int b.obj, int b.value, int b.frm, int b.til, int b.known, int b.no], .vec [[int (aK a.known b.known)], [int (aK a.no b.no)]] 0 1]) ([.var [int a.kind, int a.sub, int a.obj, int a.value, int a.frm, int a.til, int a.known, int a.no], .var [int b.kind, int b.sub, int b.obj, int b.value, int b.frm, int b.til, int b.known, int b.no], .gone]))
 unfold vA at hl0
 revert hl0
 cases ho1 : aK a.known b.known != 0 with
 | false =>
  intro hl0
  revert hl0
  cases ho2 : aK a.no b.no != 0 with
  | false =>
   intro hl0
   exact Cj (Cn (d := int 0) pok [.val (int (aK a.known b.known)), .val (int (aK a.no b.no)), .inl, .st (.frz 2 (orR (aK a.known b.known) (aK a.no b.no))), .sum [2, 3, 6, 7, 8] (CE 0) { t := mkT 18 0 [(2, int 0), (3, int 0)], h := [.var [int a.kind, int a.sub, int a.obj, int a.value, int a.frm, int a.til, int a.known, int a.no], .var [int b.kind, int b.sub, int b.obj, int b.value, int b.frm, int b.til, int b.known, int b.no], .gone], m := [] }] (by kernel_rfl) (.c (@cX (a.known) (b.known) (dg a b)) (.c (@cX (a.no) (b.no) (dg a b)) (.c (show [[int (aK a.known b.known)], [int (aK a.no b.no)]] = [[int (aK a.known b.known)], [int (aK a.no b.no)]] from rfl) (.c hl0 (.e (.ref (.ptr 0 6)) (.e (int a.known) (.e (.ref (.ptr 1 6)) (.e (int b.known) (.e (.ref (.ptr 0 7)) (.e (.ref (.ptr 0 7)) (.e (int a.no) (.e (int a.no) (.e (.ref (.ptr 1 7)) (.e (.ref (.ptr 1 7)) (.e (int b.no) (.e (int b.no) .n)))))))))))))))) rfl rfl h) (by simp [orI, ho1, ho2]) (by rfl)
  | true =>
   intro hl0
   exact Cj (Cn (d := int (aK a.no b.no)) pok [.val (int (aK a.known b.known)), .val (int (aK a.no b.no)), .inl, .st (.frz 2 (orR (aK a.known b.known) (aK a.no b.no))), .sum [2, 3, 6, 7, 8] (Dv) { t := mkT 18 0 [(2, int (aK a.no b.no))], h := [.var [int a.kind, int a.sub, int a.obj, int a.value, int a.frm, int a.til, int a.known, int a.no], .var [int b.kind, int b.sub, int b.obj, int b.value, int b.frm, int b.til, int b.known, int b.no], .gone], m := [] }] (by kernel_rfl) (.c (@cX (a.known) (b.known) (dg a b)) (.c (@cX (a.no) (b.no) (dg a b)) (.c (show [[int (aK a.known b.known)], [int (aK a.no b.no)]] = [[int (aK a.known b.known)], [int (aK a.no b.no)]] from rfl) (.c hl0 (.e (.ref (.ptr 0 6)) (.e (int a.known) (.e (.ref (.ptr 1 6)) (.e (int b.known) (.e (.ref (.ptr 0 7)) (.e (.ref (.ptr 0 7)) (.e (int a.no) (.e (int a.no) (.e (.ref (.ptr 1 7)) (.e (.ref (.ptr 1 7)) (.e (int b.no) (.e (int b.no) .n)))))))))))))))) rfl rfl h) (by simp [orI, ho1, ho2]) (by rfl)
 | true =>
  intro hl0
  exact Cj (Cn (d := int (aK a.known b.known)) pok [.val (int (aK a.known b.known)), .val (int (aK a.no b.no)), .inl, .st (.frz 2 (orR (aK a.known b.known) (aK a.no b.no))), .sum [2, 3, 6, 7, 8] (Dv) { t := mkT 18 0 [(2, int (aK a.known b.known))], h := [.var [int a.kind, int a.sub, int a.obj, int a.value, int a.frm, int a.til, int a.known, int a.no], .var [int b.kind, int b.sub, int b.obj, int b.value, int b.frm, int b.til, int b.known, int b.no], .gone], m := [] }] (by kernel_rfl) (.c (@cX (a.known) (b.known) (dg a b)) (.c (@cX (a.no) (b.no) (dg a b)) (.c (show [[int (aK a.known b.known)], [int (aK a.no b.no)]] = [[int (aK a.known b.known)], [int (aK a.no b.no)]] from rfl) (.c hl0 (.e (.ref (.ptr 0 6)) (.e (int a.known) (.e (.ref (.ptr 1 6)) (.e (int b.known) (.e (.ref (.ptr 0 7)) (.e (.ref (.ptr 0 7)) (.e (int a.no) (.e (int a.no) (.e (.ref (.ptr 1 7)) (.e (.ref (.ptr 1 7)) (.e (int b.no) (.e (int b.no) .n)))))))))))))))) rfl rfl h) (by simp [orI, ho1]) (by rfl)
theorem dh {n a b : Int} (h : List Blk) : (Ev B7 Γ0 138 [int n, int a, int b] h (bool (decide (a ≤ n) && decide (n ≤ b))) h) := by
 exact Cj (Cn (d := bool (decide (a ≤ n) && decide (n ≤ b))) pok [] (by kernel_rfl) .n rfl rfl h) (by first | rfl | simp_all) (by rfl)
def fitsB (f : FactT) : Bool := decide (1 ≤ f.kind) && decide (f.kind ≤ 12) && (decide (0 ≤ f.sub) && decide (f.sub ≤ 20000)) && (decide (0 ≤ f.obj) && decide (f.obj ≤ 20000)) && (decide (-1 ≤ f.value) && decide (f.value ≤ 1099511627776)) &&
 decide (0 ≤ f.frm) && decide (f.frm < f.til) && decide (f.til ≤ 1024) && (decide (1 ≤ f.known) && decide (f.known ≤ 16777216)) && (decide (0 ≤ f.no) && decide (f.no ≤ 65535))
noncomputable abbrev di (f : FactT) : List Blk := [.var [int f.kind, int f.sub, int f.obj, int f.value, int f.frm, int f.til, int f.known, int f.no]]
theorem AC {f : FactT} (h : List Blk) : (Ev B7 Γ0 83 [ag f.row] h (bool (fitsB f)) h) := by
 exact Cj (Cn (d := bool (decide (1 ≤ f.kind) && decide (f.kind ≤ 12) && (decide (0 ≤ f.sub) && decide (f.sub ≤ 20000)) && (decide (0 ≤ f.obj) && decide (f.obj ≤ 20000)) && (decide (-1 ≤ f.value) && decide (f.value ≤ 1099511627776)) && decide (0 ≤ f.frm) && decide (f.frm < f.til) && decide (f.til ≤ 1024) && (decide (1 ≤ f.known) && decide (f.known ≤ 16777216)) && (decide (0 ≤ f.no) && decide (f.no ≤ 65535)))) pok [.val (bool (decide (1 ≤ f.kind) && decide (f.kind ≤ 12))), .val (bool (decide (0 ≤ f.sub) && decide (f.sub ≤ 20000))), .val (bool (decide (0 ≤ f.obj) && decide (f.obj ≤ 20000))), .val (bool (decide (-1 ≤ f.value) && decide (f.value ≤ 1099511627776))), .val (bool (decide (1 ≤ f.known) && decide (f.known ≤ 16777216))), .val (bool (decide (0 ≤ f.no) && decide (f.no ≤ 65535)))] (by kernel_rfl) (.c (@dh (f.kind) 1 12 (di f)) (.c (gd (decide (1 ≤ f.kind) && decide (f.kind ≤ 12)) (@dh (f.sub) 0 20000 (di f))) (.c (gd (decide (1 ≤ f.kind) && decide (f.kind ≤ 12) && (decide (0 ≤ f.sub) && decide (f.sub ≤ 20000))) (@dh (f.obj) 0 20000 (di f))) (.c (gd (decide (1 ≤ f.kind) && decide (f.kind ≤ 12) && (decide (0 ≤ f.sub) && decide (f.sub ≤ 20000)) && (decide (0 ≤ f.obj) && decide (f.obj ≤ 20000))) (@dh (f.value) (-1) 1099511627776 (di f))) (.c (gd (decide (1 ≤ f.kind) && decide (f.kind ≤ 12) && (decide (0 ≤ f.sub) && decide (f.sub ≤ 20000)) && (decide (0 ≤ f.obj) && decide (f.obj ≤ 20000)) && (decide (-1 ≤ f.value) && decide (f.value ≤ 1099511627776)) && decide (0 ≤ f.frm) && decide (f.frm < f.til) && decide (f.til ≤ 1024)) (@dh (f.known) 1 16777216 (di f))) (.c (gd (decide (1 ≤ f.kind) && decide (f.kind ≤ 12) && (decide (0 ≤ f.sub) && decide (f.sub ≤ 20000)) && (decide (0 ≤ f.obj) && decide (f.obj ≤ 20000)) && (decide (-1 ≤ f.value) && decide (f.value ≤ 1099511627776)) && decide (0 ≤ f.frm) && decide (f.frm < f.til) && decide (f.til ≤ 1024) && (decide (1 ≤ f.known) && decide (f.known ≤ 16777216))) (@dh (f.no) 0 65535 (di f))) .n)))))) rfl rfl h) (by rfl) (by rfl)
end Go.Vi
open Go Go.Proofs
namespace Go.Vi
set_option maxRecDepth 100000
set_option maxHeartbeats 40000
theorem wrap_succ {i n : Nat} (h : i < n) (hn : n ≤ 140737488355328) : B8.wrap ((i : Int) + 1) = ((i + 1 : Nat) : Int) := by
 rw [wrap_i64 (by omega) (by omega)]; omega
theorem lt_len {α : Type} (row : α → List Dp) {l : List α} {i : Nat} (h : i < l.length) : decide ((i : Int) < ((l.map row).length : Int)) = true := by simp; omega
theorem bM {α : Type} (row : α → List Dp) (l : List α) : decide ((l.length : Int) < ((l.map row).length : Int)) = false := by simp
end Go.Vi
open Go Go.Proofs
namespace Go.Vi
set_option maxRecDepth 100000
set_option maxHeartbeats 4000000
structure AttT where
 course : Int
 term : Int
 grade : Int
 campus : Int
 credits : Int
 deriving Inhabited
def AttT.row (a : AttT) : List Dp := [vi a.course, vi a.term, vi a.grade, vi a.campus, vi a.credits]
theorem aG {n a b : Int} (h : List Blk) : (Ev B7 Γ0 59 [int n, int a, int b] h (bool (decide (n ≥ a) && decide (n ≤ b))) h) := by
 exact Cj (Cn (d := bool (decide (n ≥ a) && decide (n ≤ b))) pok [] (by kernel_rfl) .n rfl rfl h) (by rfl) (by rfl)
theorem gM {n a b : Int} (h : List Blk) : (Ev B7 Γ0 87 [int n, int a, int b] h (bool (decide (n ≥ a) && decide (n ≤ b))) h) := by
 exact Cj (Cn (d := bool (decide (n ≥ a) && decide (n ≤ b))) pok [] (by kernel_rfl) .n rfl rfl h) (by rfl) (by rfl)
theorem bb {n a b : Int} (h : List Blk) : (Ev B7 Γ0 67 [int n, int a, int b] h (bool (decide (n ≥ a) && decide (n ≤ b))) h) := by
 exact Cj (Cn (d := bool (decide (n ≥ a) && decide (n ≤ b))) pok [] (by kernel_rfl) .n rfl rfl h) (by rfl) (by rfl)
theorem a8 {n a b : Int} (h : List Blk) : (Ev B7 Γ0 113 [int n, int a, int b] h (bool (decide (n ≥ a) && decide (n ≤ b))) h) := by
 exact Cj (Cn (d := bool (decide (n ≥ a) && decide (n ≤ b))) pok [] (by kernel_rfl) .n rfl rfl h) (by rfl) (by rfl)
theorem dE {n a b : Int} (h : List Blk) : (Ev B7 Γ0 125 [int n, int a, int b] h (bool (decide (n ≥ a) && decide (n ≤ b))) h) := by
 exact Cj (Cn (d := bool (decide (n ≥ a) && decide (n ≤ b))) pok [] (by kernel_rfl) .n rfl rfl h) (by rfl) (by rfl)
noncomputable abbrev cI (a : AttT) (b : AttT) : List Blk := [.var [int a.course, int a.term, int a.grade, int a.campus, int a.credits], .var [int b.course, int b.term, int b.grade, int b.campus, int b.credits]]
theorem gN {a b : AttT} (h : List Blk) : (Ev B7 Γ0 79 [ag a.row, ag b.row] h (int (orI (aK a.term b.term) (aK a.course b.course))) h) := by
 have hl0 := (@or_cw (aK a.term b.term) (aK a.course b.course) ([.var [int a.course, int a.term, int a.grade, int a.campus, int a.credits], .var [int b.course, int b.term, int b.grade, int b.campus, int b.credits], .vec [[int (aK a.term b.term)], [int (aK a.course b.course)]] 0 1]) ([.var [int a.course, int a.term, int a.grade, int a.campus, int a.credits], .var [int b.course, int b.term, int b.grade, int b.campus, int b.credits], .gone]))
 unfold vA at hl0
 revert hl0
 cases ho1 : aK a.term b.term != 0 with
 | false =>
  intro hl0
  revert hl0
  cases ho2 : aK a.course b.course != 0 with
  | false =>
   intro hl0
   exact Cj (Cn (d := int 0) pok [.val (int (aK a.term b.term)), .val (int (aK a.course b.course)), .inl, .st (.frz 2 (orR (aK a.term b.term) (aK a.course b.course))), .sum [2, 3, 6, 7, 8] (CE 0) { t := mkT 18 0 [(2, int 0), (3, int 0)], h := [.var [int a.course, int a.term, int a.grade, int a.campus, int a.credits], .var [int b.course, int b.term, int b.grade, int b.campus, int b.credits], .gone], m := [] }] (by kernel_rfl) (.c (@cX (a.term) (b.term) (cI a b)) (.c (@cX (a.course) (b.course) (cI a b)) (.c (show [[int (aK a.term b.term)], [int (aK a.course b.course)]] = [[int (aK a.term b.term)], [int (aK a.course b.course)]] from rfl) (.c hl0 (.e (.ref (.ptr 0 1)) (.e (int a.term) (.e (.ref (.ptr 1 1)) (.e (int b.term) (.e (.ref (.ptr 0 0)) (.e (.ref (.ptr 0 0)) (.e (int a.course) (.e (int a.course) (.e (.ref (.ptr 1 0)) (.e (.ref (.ptr 1 0)) (.e (int b.course) (.e (int b.course) .n)))))))))))))))) rfl rfl h) (by simp [orI, ho1, ho2]) (by rfl)
  | true =>
   intro hl0
   exact Cj (Cn (d := int (aK a.course b.course)) pok [.val (int (aK a.term b.term)), .val (int (aK a.course b.course)), .inl, .st (.frz 2 (orR (aK a.term b.term) (aK a.course b.course))), .sum [2, 3, 6, 7, 8] (Dv) { t := mkT 18 0 [(2, int (aK a.course b.course))], h := [.var [int a.course, int a.term, int a.grade, int a.campus, int a.credits], .var [int b.course, int b.term, int b.grade, int b.campus, int b.credits], .gone], m := [] }] (by kernel_rfl) (.c (@cX (a.term) (b.term) (cI a b)) (.c (@cX (a.course) (b.course) (cI a b)) (.c (show [[int (aK a.term b.term)], [int (aK a.course b.course)]] = [[int (aK a.term b.term)], [int (aK a.course b.course)]] from rfl) (.c hl0 (.e (.ref (.ptr 0 1)) (.e (int a.term) (.e (.ref (.ptr 1 1)) (.e (int b.term) (.e (.ref (.ptr 0 0)) (.e (.ref (.ptr 0 0)) (.e (int a.course) (.e (int a.course) (.e (.ref (.ptr 1 0)) (.e (.ref (.ptr 1 0)) (.e (int b.course) (.e (int b.course) .n)))))))))))))))) rfl rfl h) (by simp [orI, ho1, ho2]) (by rfl)
 | true =>
  intro hl0
  exact Cj (Cn (d := int (aK a.term b.term)) pok [.val (int (aK a.term b.term)), .val (int (aK a.course b.course)), .inl, .st (.frz 2 (orR (aK a.term b.term) (aK a.course b.course))), .sum [2, 3, 6, 7, 8] (Dv) { t := mkT 18 0 [(2, int (aK a.term b.term))], h := [.var [int a.course, int a.term, int a.grade, int a.campus, int a.credits], .var [int b.course, int b.term, int b.grade, int b.campus, int b.credits], .gone], m := [] }] (by kernel_rfl) (.c (@cX (a.term) (b.term) (cI a b)) (.c (@cX (a.course) (b.course) (cI a b)) (.c (show [[int (aK a.term b.term)], [int (aK a.course b.course)]] = [[int (aK a.term b.term)], [int (aK a.course b.course)]] from rfl) (.c hl0 (.e (.ref (.ptr 0 1)) (.e (int a.term) (.e (.ref (.ptr 1 1)) (.e (int b.term) (.e (.ref (.ptr 0 0)) (.e (.ref (.ptr 0 0)) (.e (int a.course) (.e (int a.course) (.e (.ref (.ptr 1 0)) (.e (.ref (.ptr 1 0)) (.e (int b.course) (.e (int b.course) .n)))))))))))))))) rfl rfl h) (by simp [orI, ho1]) (by rfl)
def inB (n a b : Int) : Bool := decide (n ≥ a) && decide (n ≤ b)
def attB (a : AttT) : Bool := inB a.course 0 4095 && inB a.term 0 1023 && inB a.grade 0 12 && inB a.campus 0 6 && inB a.credits 0 60
theorem vB {a : AttT} (h : List Blk) : (Ev B7 Γ0 80 [ag a.row] h (bool (decide (a.course ≥ 0) && decide (a.course < 4096) && decide (a.term ≥ 0) && decide (a.term < 1024) && decide (a.grade ≥ 0) && decide (a.grade ≤ 12) && decide (a.campus ≥ 0) && decide (a.campus < 7) && decide (a.credits ≥ 0) && decide (a.credits ≤ 60))) h) := by
 exact Cj (Cn (d := bool (decide (a.course ≥ 0) && decide (a.course < 4096) && decide (a.term ≥ 0) && decide (a.term < 1024) && decide (a.grade ≥ 0) && decide (a.grade ≤ 12) && decide (a.campus ≥ 0) && decide (a.campus < 7) && decide (a.credits ≥ 0) && decide (a.credits ≤ 60))) pok [] (by kernel_rfl) .n rfl rfl h) (by rfl) (by rfl)
theorem fC {a b : Int} (h : List Blk) : (Ev B7 Γ0 75 [int a, int b] h (.agg [int 5, int a, int b]) h) := by
 exact Cj (Cn (d := D.agg [int 5, int a, int b]) pok [] (by kernel_rfl) .n rfl rfl h) (by rfl) (by rfl)
end Go.Vi
open Go Go.Proofs
namespace Go.Vi
set_option maxRecDepth 100000
set_option maxHeartbeats 4000000
structure ClauseT where
 kind : Int
 when_ : Int
 action : Int
 til : Int
 deriving Inhabited
def ClauseT.row (a : ClauseT) : List Dp := [vi a.kind, vi a.when_, vi a.action, vi a.til]
structure SysT where
 classes : List Cls
 fees : List FeeT
 honours : List Cls
 clauses : List ClauseT
 deriving Inhabited
def SysT.sys (s : SysT) : Vi.Sys := ⟨s.classes, s.fees, s.honours, s.clauses.map ClauseT.row⟩
def SysT.row (s : SysT) : List Dp := [.sl (s.classes.map Cls.row), .sl (s.fees.map FeeT.row), .sl (s.honours.map Cls.row), .sl (s.clauses.map ClauseT.row)]
def SysT.ok (s : SysT) : Prop := s.sys.ok
end Go.Vi
open Go Go.Proofs
namespace Go.Vi
set_option maxRecDepth 100000
set_option maxHeartbeats 4000000
abbrev kd' (a b c d : Bool) (f g : Value) : List Dp := [.v (.bool a), .v (.bool b), .v (.bool c), .v (.bool d), .v f, .v g]
abbrev kf' (k : Nat) : Value := .func (.func k) #[] #[]
def vC : List Dp :=
 kd' false false false false .nilFunc .nilFunc ++ kd' false false false true (kf' 257) (kf' 258) ++ kd' false false false true (kf' 259) (kf' 260) ++ kd' false true false true (kf' 261) (kf' 262) ++
 kd' false false false true (kf' 263) (kf' 264) ++ kd' true true false false (kf' 265) (kf' 267) ++ kd' true true false false (kf' 269) (kf' 270) ++ kd' false true false false (kf' 271) (kf' 272) ++
 kd' false true true false (kf' 273) (kf' 274) ++ kd' true false false false (kf' 266) (kf' 275)
def Γk : ak := fun g => match g with | 0 => some vC | _ => none
theorem AD {a b : Int} (ha : I64 a) (hb : I64 b) (h : List Blk) : (Ev B7 Γ0 114 [.agg [int a, int b]] h (bool (sC a b == 0 && decide (a ≥ 0) && decide (a ≤ B8.wrap (12 * b)))) h) := by
 exact Cj (Cn (d := bool (sC a b == 0 && decide (a ≥ 0) && decide (a ≤ Cc B8 (12 * b)))) pok [.val (int (sC a b))] (by kernel_rfl) (.c (@x8 a b ha hb ([.var [int a, int b]])) .n) rfl rfl h) (by rfl) (by rfl)
abbrev ruD (op c : Int) (nm : ByteArray) (n d : Int) (ks : List (List Dp)) : D := .agg [int op, int c, al nm, int n, int d, ab ks]
theorem AE {op c : Int} {nm : ByteArray} {n d : Int} {ks : List (List Dp)} (h : List Blk) : (Ev B7 Γ0 257 [ruD op c nm n d ks] h (bool true) h) := by
 exact Cj (Cn (d := bool true) pok [] (by kernel_rfl) .n rfl rfl h) (by rfl) (by rfl)
theorem AF {op c : Int} {nm : ByteArray} {n d : Int} {ks : List (List Dp)} (h : List Blk) : (Ev B7 Γ0 259 [ruD op c nm n d ks] h (bool true) h) := by
 exact Cj (Cn (d := bool true) pok [] (by kernel_rfl) .n rfl rfl h) (by rfl) (by rfl)
theorem AG {op c : Int} {nm : ByteArray} {n d : Int} {ks : List (List Dp)} (h : List Blk) : (Ev B7 Γ0 261 [ruD op c nm n d ks] h (bool (inB n 0 200)) h) := by
 exact Cj (Cn (d := bool (decide (n ≥ 0) && decide (n ≤ 200))) pok [.val (bool (decide (n ≥ 0) && decide (n ≤ 200)))] (by kernel_rfl) (.c (@a8 n 0 200 ([.var [int op, int c, al nm, int n, int d, ab ks]])) .n) rfl rfl h) (by rfl) (by rfl)
theorem AH {op c : Int} {nm : ByteArray} {n d : Int} {ks : List (List Dp)} (h : List Blk) : (Ev B7 Γ0 263 [ruD op c nm n d ks] h (bool ((ks.length : Int) == 1)) h) := by
 exact Cj (Cn (d := bool ((↑(Cb ks) : Int) == 1)) pok [] (by kernel_rfl) .n rfl rfl h) (by rfl) (by rfl)
theorem qA {op c : Int} {nm : ByteArray} {n d : Int} {ks : List (List Dp)} (h : List Blk) : (Ev B7 Γ0 266 [ruD op c nm n d ks] h (bool (inB c 0 4095)) h) := by
 exact Cj (Cn (d := bool (decide (c ≥ 0) && decide (c ≤ 4095))) pok [.val (bool (decide (c ≥ 0) && decide (c ≤ 4095)))] (by kernel_rfl) (.c (@a8 c 0 4095 ([.var [int op, int c, al nm, int n, int d, ab ks]])) .n) rfl rfl h) (by rfl) (by rfl)
theorem AI {op c : Int} {nm : ByteArray} {n d : Int} {ks : List (List Dp)} (h : List Blk) : (Ev B7 Γ0 265 [ruD op c nm n d ks] h (bool (inB c 0 4095 && inB n 0 12)) h) := by
 exact Cj (Cn (d := bool (inB c 0 4095 && (decide (n ≥ 0) && decide (n ≤ 12)))) pok [.val (bool (inB c 0 4095)), .val (bool (decide (n ≥ 0) && decide (n ≤ 12)))] (by kernel_rfl) (.c (@qA op c nm n d ks ([.var [int op, int c, al nm, int n, int d, ab ks]])) (.c (gd (inB c 0 4095) (@a8 n 0 12 ([.var [int op, int c, al nm, int n, int d, ab ks]]))) .n)) rfl rfl h) (by rfl) (by rfl)
theorem AJ {op c : Int} {nm : ByteArray} {n d : Int} {ks : List (List Dp)} (h : List Blk) : (Ev B7 Γ0 269 [ruD op c nm n d ks] h (bool (inB c 0 4095 && inB n 1 100)) h) := by
 exact Cj (Cn (d := bool (inB c 0 4095 && (decide (n ≥ 1) && decide (n ≤ 100)))) pok [.val (bool (inB c 0 4095)), .val (bool (decide (n ≥ 1) && decide (n ≤ 100)))] (by kernel_rfl) (.c (@qA op c nm n d ks ([.var [int op, int c, al nm, int n, int d, ab ks]])) (.c (gd (inB c 0 4095) (@a8 n 1 100 ([.var [int op, int c, al nm, int n, int d, ab ks]]))) .n)) rfl rfl h) (by rfl) (by rfl)
theorem AK {op c : Int} {nm : ByteArray} {n d : Int} {ks : List (List Dp)} (h : List Blk) : (Ev B7 Γ0 271 [ruD op c nm n d ks] h (bool (inB n 0 10000)) h) := by
 exact Cj (Cn (d := bool (decide (n ≥ 0) && decide (n ≤ 10000))) pok [.val (bool (decide (n ≥ 0) && decide (n ≤ 10000)))] (by kernel_rfl) (.c (@a8 n 0 10000 ([.var [int op, int c, al nm, int n, int d, ab ks]])) .n) rfl rfl h) (by rfl) (by rfl)
def qB (a b : Int) : Bool := sC a b == 0 && decide (a ≥ 0) && decide (a ≤ B8.wrap (12 * b))
theorem AL {op c : Int} {nm : ByteArray} {n d : Int} {ks : List (List Dp)} (hn : I64 n) (hd : I64 d) (h : List Blk) : (Ev B7 Γ0 273 [ruD op c nm n d ks] h (bool (qB n d)) h) := by
 exact Cj (Cn (d := bool (sC n d == 0 && decide (n ≥ 0) && decide (n ≤ Cc B8 (12 * d)))) pok [.val (bool (sC n d == 0 && decide (n ≥ 0) && decide (n ≤ Cc B8 (12 * d))))] (by kernel_rfl) (.c (@AD n d hn hd ([.var [int op, int c, al nm, int n, int d, ab ks]])) .n) rfl rfl h) (by rfl) (by rfl)
def ah (op c n d k : Int) : Bool :=
 if (!(op == 5 || op == 6 || op == 9) && c != 0 || !(op == 3 || op == 5 || op == 6 || op == 7 || op == 8) && n != 0 || op != 8 && d != 0 || (decide (op ≥ 5) && decide (op ≤ 9)) && decide (k > 0)) = true then false
 else if op = 1 then true else if op = 2 then true else if op = 3 then inB n 0 200 else if op = 4 then k == 1 else if op = 5 then inB c 0 4095 && inB n 0 12
 else if op = 6 then inB c 0 4095 && inB n 1 100 else if op = 7 then inB n 0 10000 else if op = 8 then qB n d else if op = 9 then inB c 0 4095 else false
noncomputable abbrev pc (c : Int) (nm : ByteArray) (n : Int) (d : Int) (ks : List (List Dp)) : List Blk := [.var [int 1, int c, al nm, int n, int d, ab ks], .var [bool false, bool false, bool false, bool true, fq 257, fq 258]]
theorem vD {c : Int} {nm : ByteArray} {n d : Int} {ks : List (List Dp)} (h : List Blk) : (Ev B7 Γk 234 [ruD 1 c nm n d ks] h (bool (ah 1 c n d ks.length)) h) := by
 cases hc0 : !false && c != 0 || !false && n != 0 || !false && d != 0 || !true && decide ((↑(Cb ks) : Int) > 0)
 ·exact Cj (Cn (d := bool true) pok [.val (bool (decide (1 ≥ 1) && decide (1 ≤ 9))), .b false, .b false, .val (bool true)] (by kernel_rfl) (.c (CZ (Γ' := Γk) (@a8 1 1 9 ([.var [int 1, int c, al nm, int n, int d, ab ks]]))) (.c (show (!(decide (1 ≥ 1) && decide (1 ≤ 9))) = false from rfl) (.c (show inR 1 10 = true from rfl) (.c hc0 (.c (CZ (Γ' := Γk) (@AE 1 c nm n d ks (pc c nm n d ks))) .n))))) rfl rfl h) (by first | rfl | (simp [ah]; done) | (simp_all [ah]; done)) (by rfl)
 ·exact Cj (Cn (d := bool false) pok [.val (bool (decide (1 ≥ 1) && decide (1 ≤ 9))), .b false, .b true] (by kernel_rfl) (.c (CZ (Γ' := Γk) (@a8 1 1 9 ([.var [int 1, int c, al nm, int n, int d, ab ks]]))) (.c (show (!(decide (1 ≥ 1) && decide (1 ≤ 9))) = false from rfl) (.c (show inR 1 10 = true from rfl) (.c hc0 .n)))) rfl rfl h) (by first | rfl | (simp [ah]; done) | (simp_all [ah]; done)) (by rfl)
noncomputable abbrev pd (c : Int) (nm : ByteArray) (n : Int) (d : Int) (ks : List (List Dp)) : List Blk := [.var [int 2, int c, al nm, int n, int d, ab ks], .var [bool false, bool false, bool false, bool true, fq 259, fq 260]]
theorem vE {c : Int} {nm : ByteArray} {n d : Int} {ks : List (List Dp)} (h : List Blk) : (Ev B7 Γk 234 [ruD 2 c nm n d ks] h (bool (ah 2 c n d ks.length)) h) := by
 cases hc0 : !false && c != 0 || !false && n != 0 || !false && d != 0 || !true && decide ((↑(Cb ks) : Int) > 0)
 ·exact Cj (Cn (d := bool true) pok [.val (bool (decide (2 ≥ 1) && decide (2 ≤ 9))), .b false, .b false, .val (bool true)] (by kernel_rfl) (.c (CZ (Γ' := Γk) (@a8 2 1 9 ([.var [int 2, int c, al nm, int n, int d, ab ks]]))) (.c (show (!(decide (2 ≥ 1) && decide (2 ≤ 9))) = false from rfl) (.c (show inR 2 10 = true from rfl) (.c hc0 (.c (CZ (Γ' := Γk) (@AF 2 c nm n d ks (pd c nm n d ks))) .n))))) rfl rfl h) (by first | rfl | (simp [ah]; done) | (simp_all [ah]; done)) (by rfl)
 ·exact Cj (Cn (d := bool false) pok [.val (bool (decide (2 ≥ 1) && decide (2 ≤ 9))), .b false, .b true] (by kernel_rfl) (.c (CZ (Γ' := Γk) (@a8 2 1 9 ([.var [int 2, int c, al nm, int n, int d, ab ks]]))) (.c (show (!(decide (2 ≥ 1) && decide (2 ≤ 9))) = false from rfl) (.c (show inR 2 10 = true from rfl) (.c hc0 .n)))) rfl rfl h) (by first | rfl | (simp [ah]; done) | (simp_all [ah]; done)) (by rfl)
noncomputable abbrev pf (c : Int) (nm : ByteArray) (n : Int) (d : Int) (ks : List (List Dp)) : List Blk := [.var [int 3, int c, al nm, int n, int d, ab ks], .var [bool false, bool true, bool false, bool true, fq 261, fq 262]]
theorem vF {c : Int} {nm : ByteArray} {n d : Int} {ks : List (List Dp)} (h : List Blk) : (Ev B7 Γk 234 [ruD 3 c nm n d ks] h (bool (ah 3 c n d ks.length)) h) := by
 cases hc0 : !false && c != 0 || !true && n != 0 || !false && d != 0 || !true && decide ((↑(Cb ks) : Int) > 0)
 ·exact Cj (Cn (d := bool (inB n 0 200)) pok [.val (bool (decide (3 ≥ 1) && decide (3 ≤ 9))), .b false, .b false, .val (bool (inB n 0 200))] (by kernel_rfl) (.c (CZ (Γ' := Γk) (@a8 3 1 9 ([.var [int 3, int c, al nm, int n, int d, ab ks]]))) (.c (show (!(decide (3 ≥ 1) && decide (3 ≤ 9))) = false from rfl) (.c (show inR 3 10 = true from rfl) (.c hc0 (.c (CZ (Γ' := Γk) (@AG 3 c nm n d ks (pf c nm n d ks))) .n))))) rfl rfl h) (by first | rfl | (simp [ah]; done) | (simp_all [ah]; done)) (by rfl)
 ·exact Cj (Cn (d := bool false) pok [.val (bool (decide (3 ≥ 1) && decide (3 ≤ 9))), .b false, .b true] (by kernel_rfl) (.c (CZ (Γ' := Γk) (@a8 3 1 9 ([.var [int 3, int c, al nm, int n, int d, ab ks]]))) (.c (show (!(decide (3 ≥ 1) && decide (3 ≤ 9))) = false from rfl) (.c (show inR 3 10 = true from rfl) (.c hc0 .n)))) rfl rfl h) (by first | rfl | (simp [ah]; done) | (simp_all [ah]; done)) (by rfl)
noncomputable abbrev pg (c : Int) (nm : ByteArray) (n : Int) (d : Int) (ks : List (List Dp)) : List Blk := [.var [int 4, int c, al nm, int n, int d, ab ks], .var [bool false, bool false, bool false, bool true, fq 263, fq 264]]
theorem vG {c : Int} {nm : ByteArray} {n d : Int} {ks : List (List Dp)} (h : List Blk) : (Ev B7 Γk 234 [ruD 4 c nm n d ks] h (bool (ah 4 c n d ks.length)) h) := by
 cases hc0 : !false && c != 0 || !false && n != 0 || !false && d != 0 || !true && decide ((↑(Cb ks) : Int) > 0)
 ·exact Cj (Cn (d := bool ((↑(Cb ks) : Int) == 1)) pok [.val (bool (decide (4 ≥ 1) && decide (4 ≤ 9))), .b false, .b false, .val (bool ((↑(Cb ks) : Int) == 1))] (by kernel_rfl) (.c (CZ (Γ' := Γk) (@a8 4 1 9 ([.var [int 4, int c, al nm, int n, int d, ab ks]]))) (.c (show (!(decide (4 ≥ 1) && decide (4 ≤ 9))) = false from rfl) (.c (show inR 4 10 = true from rfl) (.c hc0 (.c (CZ (Γ' := Γk) (@AH 4 c nm n d ks (pg c nm n d ks))) .n))))) rfl rfl h) (by first | rfl | (simp [ah]; done) | (simp_all [ah]; done)) (by rfl)
 ·exact Cj (Cn (d := bool false) pok [.val (bool (decide (4 ≥ 1) && decide (4 ≤ 9))), .b false, .b true] (by kernel_rfl) (.c (CZ (Γ' := Γk) (@a8 4 1 9 ([.var [int 4, int c, al nm, int n, int d, ab ks]]))) (.c (show (!(decide (4 ≥ 1) && decide (4 ≤ 9))) = false from rfl) (.c (show inR 4 10 = true from rfl) (.c hc0 .n)))) rfl rfl h) (by first | rfl | (simp [ah]; done) | (simp_all [ah]; done)) (by rfl)
noncomputable abbrev ph (c : Int) (nm : ByteArray) (n : Int) (d : Int) (ks : List (List Dp)) : List Blk := [.var [int 5, int c, al nm, int n, int d, ab ks], .var [bool true, bool true, bool false, bool false, fq 265, fq 267]]
theorem vH {c : Int} {nm : ByteArray} {n d : Int} {ks : List (List Dp)} (h : List Blk) : (Ev B7 Γk 234 [ruD 5 c nm n d ks] h (bool (ah 5 c n d ks.length)) h) := by
 cases hc0 : !true && c != 0 || !true && n != 0 || !false && d != 0 || !false && decide ((↑(Cb ks) : Int) > 0)
 ·exact Cj (Cn (d := bool (inB c 0 4095 && inB n 0 12)) pok [.val (bool (decide (5 ≥ 1) && decide (5 ≤ 9))), .b false, .b false, .val (bool (inB c 0 4095 && inB n 0 12))] (by kernel_rfl) (.c (CZ (Γ' := Γk) (@a8 5 1 9 ([.var [int 5, int c, al nm, int n, int d, ab ks]]))) (.c (show (!(decide (5 ≥ 1) && decide (5 ≤ 9))) = false from rfl) (.c (show inR 5 10 = true from rfl) (.c hc0 (.c (CZ (Γ' := Γk) (@AI 5 c nm n d ks (ph c nm n d ks))) .n))))) rfl rfl h) (by first | rfl | (simp [ah]; done) | (simp_all [ah]; done)) (by rfl)
 ·exact Cj (Cn (d := bool false) pok [.val (bool (decide (5 ≥ 1) && decide (5 ≤ 9))), .b false, .b true] (by kernel_rfl) (.c (CZ (Γ' := Γk) (@a8 5 1 9 ([.var [int 5, int c, al nm, int n, int d, ab ks]]))) (.c (show (!(decide (5 ≥ 1) && decide (5 ≤ 9))) = false from rfl) (.c (show inR 5 10 = true from rfl) (.c hc0 .n)))) rfl rfl h) (by first | rfl | (simp [ah]; done) | (simp_all [ah]; done)) (by rfl)
noncomputable abbrev pi (c : Int) (nm : ByteArray) (n : Int) (d : Int) (ks : List (List Dp)) : List Blk := [.var [int 6, int c, al nm, int n, int d, ab ks], .var [bool true, bool true, bool false, bool false, fq 269, fq 270]]
theorem vI {c : Int} {nm : ByteArray} {n d : Int} {ks : List (List Dp)} (h : List Blk) : (Ev B7 Γk 234 [ruD 6 c nm n d ks] h (bool (ah 6 c n d ks.length)) h) := by
 cases hc0 : !true && c != 0 || !true && n != 0 || !false && d != 0 || !false && decide ((↑(Cb ks) : Int) > 0)
 ·exact Cj (Cn (d := bool (inB c 0 4095 && inB n 1 100)) pok [.val (bool (decide (6 ≥ 1) && decide (6 ≤ 9))), .b false, .b false, .val (bool (inB c 0 4095 && inB n 1 100))] (by kernel_rfl) (.c (CZ (Γ' := Γk) (@a8 6 1 9 ([.var [int 6, int c, al nm, int n, int d, ab ks]]))) (.c (show (!(decide (6 ≥ 1) && decide (6 ≤ 9))) = false from rfl) (.c (show inR 6 10 = true from rfl) (.c hc0 (.c (CZ (Γ' := Γk) (@AJ 6 c nm n d ks (pi c nm n d ks))) .n))))) rfl rfl h) (by first | rfl | (simp [ah]; done) | (simp_all [ah]; done)) (by rfl)
 ·exact Cj (Cn (d := bool false) pok [.val (bool (decide (6 ≥ 1) && decide (6 ≤ 9))), .b false, .b true] (by kernel_rfl) (.c (CZ (Γ' := Γk) (@a8 6 1 9 ([.var [int 6, int c, al nm, int n, int d, ab ks]]))) (.c (show (!(decide (6 ≥ 1) && decide (6 ≤ 9))) = false from rfl) (.c (show inR 6 10 = true from rfl) (.c hc0 .n)))) rfl rfl h) (by first | rfl | (simp [ah]; done) | (simp_all [ah]; done)) (by rfl)
noncomputable abbrev pj (c : Int) (nm : ByteArray) (n : Int) (d : Int) (ks : List (List Dp)) : List Blk := [.var [int 7, int c, al nm, int n, int d, ab ks], .var [bool false, bool true, bool false, bool false, fq 271, fq 272]]
theorem vJ {c : Int} {nm : ByteArray} {n d : Int} {ks : List (List Dp)} (h : List Blk) : (Ev B7 Γk 234 [ruD 7 c nm n d ks] h (bool (ah 7 c n d ks.length)) h) := by
 cases hc0 : !false && c != 0 || !true && n != 0 || !false && d != 0 || !false && decide ((↑(Cb ks) : Int) > 0)
 ·exact Cj (Cn (d := bool (inB n 0 10000)) pok [.val (bool (decide (7 ≥ 1) && decide (7 ≤ 9))), .b false, .b false, .val (bool (inB n 0 10000))] (by kernel_rfl) (.c (CZ (Γ' := Γk) (@a8 7 1 9 ([.var [int 7, int c, al nm, int n, int d, ab ks]]))) (.c (show (!(decide (7 ≥ 1) && decide (7 ≤ 9))) = false from rfl) (.c (show inR 7 10 = true from rfl) (.c hc0 (.c (CZ (Γ' := Γk) (@AK 7 c nm n d ks (pj c nm n d ks))) .n))))) rfl rfl h) (by first | rfl | (simp [ah]; done) | (simp_all [ah]; done)) (by rfl)
 ·exact Cj (Cn (d := bool false) pok [.val (bool (decide (7 ≥ 1) && decide (7 ≤ 9))), .b false, .b true] (by kernel_rfl) (.c (CZ (Γ' := Γk) (@a8 7 1 9 ([.var [int 7, int c, al nm, int n, int d, ab ks]]))) (.c (show (!(decide (7 ≥ 1) && decide (7 ≤ 9))) = false from rfl) (.c (show inR 7 10 = true from rfl) (.c hc0 .n)))) rfl rfl h) (by first | rfl | (simp [ah]; done) | (simp_all [ah]; done)) (by rfl)
noncomputable abbrev pk (c : Int) (nm : ByteArray) (n : Int) (d : Int) (ks : List (List Dp)) : List Blk := [.var [int 8, int c, al nm, int n, int d, ab ks], .var [bool false, bool true, bool true, bool false, fq 273, fq 274]]
theorem vK {c : Int} {nm : ByteArray} {n d : Int} {ks : List (List Dp)} (hn : I64 n) (hd : I64 d) (h : List Blk) : (Ev B7 Γk 234 [ruD 8 c nm n d ks] h (bool (ah 8 c n d ks.length)) h) := by
 cases hc0 : !false && c != 0 || !true && n != 0 || !true && d != 0 || !false && decide ((↑(Cb ks) : Int) > 0)
 ·exact Cj (Cn (d := bool (qB n d)) pok [.val (bool (decide (8 ≥ 1) && decide (8 ≤ 9))), .b false, .b false, .val (bool (qB n d))] (by kernel_rfl) (.c (CZ (Γ' := Γk) (@a8 8 1 9 ([.var [int 8, int c, al nm, int n, int d, ab ks]]))) (.c (show (!(decide (8 ≥ 1) && decide (8 ≤ 9))) = false from rfl) (.c (show inR 8 10 = true from rfl) (.c hc0 (.c (CZ (Γ' := Γk) (@AL 8 c nm n d ks hn hd (pk c nm n d ks))) .n))))) rfl rfl h) (by first | rfl | (simp [ah]; done) | (simp_all [ah]; done)) (by rfl)
 ·exact Cj (Cn (d := bool false) pok [.val (bool (decide (8 ≥ 1) && decide (8 ≤ 9))), .b false, .b true] (by kernel_rfl) (.c (CZ (Γ' := Γk) (@a8 8 1 9 ([.var [int 8, int c, al nm, int n, int d, ab ks]]))) (.c (show (!(decide (8 ≥ 1) && decide (8 ≤ 9))) = false from rfl) (.c (show inR 8 10 = true from rfl) (.c hc0 .n)))) rfl rfl h) (by first | rfl | (simp [ah]; done) | (simp_all [ah]; done)) (by rfl)
noncomputable abbrev pm (c : Int) (nm : ByteArray) (n : Int) (d : Int) (ks : List (List Dp)) : List Blk := [.var [int 9, int c, al nm, int n, int d, ab ks], .var [bool true, bool false, bool false, bool false, fq 266, fq 275]]
theorem vL {c : Int} {nm : ByteArray} {n d : Int} {ks : List (List Dp)} (h : List Blk) : (Ev B7 Γk 234 [ruD 9 c nm n d ks] h (bool (ah 9 c n d ks.length)) h) := by
 cases hc0 : !true && c != 0 || !false && n != 0 || !false && d != 0 || !false && decide ((↑(Cb ks) : Int) > 0)
 ·exact Cj (Cn (d := bool (inB c 0 4095)) pok [.val (bool (decide (9 ≥ 1) && decide (9 ≤ 9))), .b false, .b false, .val (bool (inB c 0 4095))] (by kernel_rfl) (.c (CZ (Γ' := Γk) (@a8 9 1 9 ([.var [int 9, int c, al nm, int n, int d, ab ks]]))) (.c (show (!(decide (9 ≥ 1) && decide (9 ≤ 9))) = false from rfl) (.c (show inR 9 10 = true from rfl) (.c hc0 (.c (CZ (Γ' := Γk) (@qA 9 c nm n d ks (pm c nm n d ks))) .n))))) rfl rfl h) (by first | rfl | (simp [ah]; done) | (simp_all [ah]; done)) (by rfl)
 ·exact Cj (Cn (d := bool false) pok [.val (bool (decide (9 ≥ 1) && decide (9 ≤ 9))), .b false, .b true] (by kernel_rfl) (.c (CZ (Γ' := Γk) (@a8 9 1 9 ([.var [int 9, int c, al nm, int n, int d, ab ks]]))) (.c (show (!(decide (9 ≥ 1) && decide (9 ≤ 9))) = false from rfl) (.c (show inR 9 10 = true from rfl) (.c hc0 .n)))) rfl rfl h) (by first | rfl | (simp [ah]; done) | (simp_all [ah]; done)) (by rfl)
theorem vM {op c : Int} {nm : ByteArray} {n d : Int} {ks : List (List Dp)} (ho : (!(decide (op ≥ 1) && decide (op ≤ 9))) = true) (h : List Blk) : (Ev B7 Γk 234 [ruD op c nm n d ks] h (bool false) h) := by
 exact Cj (Cn (d := bool false) pok [.val (bool (decide (op ≥ 1) && decide (op ≤ 9))), .b true] (by kernel_rfl) (.c (CZ (Γ' := Γk) (@a8 op 1 9 ([.var [int op, int c, al nm, int n, int d, ab ks]]))) (.c ho .n)) rfl rfl h) (by rfl) (by rfl)
theorem pn {op c : Int} {nm : ByteArray} {n d : Int} {ks : List (List Dp)} (hn : I64 n) (hd : I64 d) (h : List Blk) : Ev B7 Γk 234 [ruD op c nm n d ks] h (bool (ah op c n d ks.length)) h := by
 by_cases ho : (!(decide (op ≥ 1) && decide (op ≤ 9))) = true
 ·have := vM (op := op) (c := c) (nm := nm) (n := n) (d := d) (ks := ks) ho h
  have e : ah op c n d ks.length = false := by
   simp only [Df, Bool.and_eq_false_iff, decide_eq_false_iff_not] at ho
   unfold ah
   split
   ·rfl
   ·repeat' (split; · omega)
    rfl
  rw [e]; exact this
 ·have : op = 1 ∨ op = 2 ∨ op = 3 ∨ op = 4 ∨ op = 5 ∨ op = 6 ∨ op = 7 ∨ op = 8 ∨ op = 9 := by
   simp only [Df, Bool.not_eq_false, Bool.and_eq_true, decide_eq_true_eq] at ho
   omega
  rcases this with rfl | rfl | rfl | rfl | rfl | rfl | rfl | rfl | rfl
  ·exact vD h
  ·exact vE h
  ·exact vF h
  ·exact vG h
  ·exact vH h
  ·exact vI h
  ·exact vJ h
  ·exact vK hn hd h
  ·exact vL h
end Go.Vi
open Go Go.Proofs
namespace Go.Vi
set_option maxRecDepth 100000
set_option maxHeartbeats 4000000
abbrev fz : FactT := ⟨0, 0, 0, 0, 0, 0, 0, 0⟩
abbrev atT : List D := mkT 50 0 [(6, .ref (.ptr 1 0)), (10, .ref (.ptr 2 0)), (11, .ref (.ptr 3 0)), (16, .fn (.func 178) [] [.ref (.ptr 4 0), .ref (.ptr 5 0), .ref (.ptr 6 0)])]
noncomputable abbrev atL (st : LoopState) : Blk := .loop st none 0 atT #[17] (aI (sub Dg 0)) (ar (sub Dg 0))
noncomputable abbrev atH (kk ks ko term known : Int) (fs : List (List Dp)) (best : FactT) (some : Bool) (st : LoopState) (more : List Blk) : List Blk :=
 [.var [int kk, int ks, int ko], .var [int term], .var (best.row.map .p), .var [bool some], .var [ab fs], .var [int kk, int ks, int ko], .var [int known], .defd, atL st] ++ more
abbrev atU : List D := mkT 50 0 [(6, .ref (.ptr 1 0)), (10, .ref (.ptr 2 0)), (11, .ref (.ptr 3 0)), (12, .ref (.ptr 10 0))]
theorem at_asg {kk ks ko term known : Int} {fs : List (List Dp)} {best f : FactT} {some : Bool} : (CW B7 Γ0 (atH kk ks ko term known fs best some .ready [.var (f.row.map .p)]) true (aI (sub Dg 0)) { t := eQ atT [(17, ag f.row)], h := atH kk ks ko term known fs best some .ready [.var (f.row.map .p)], m := [] } .normal { t := atU, h := atH kk ks ko term known fs best some .ready [.var (f.row.map .p), .var (f.row.map .p)], m := [] }) := by
 let v0 : List D := [int f.kind, int f.sub, int f.obj, int f.value, int f.frm, int f.til, int f.known, int f.no]
 exact Ct (Cu (s' := { t := mkT 50 0 [(6, .ref (.ptr 1 0)), (10, .ref (.ptr 2 0)), (11, .ref (.ptr 3 0)), (12, .ref (.ptr 10 0))], h := [.var [int kk, int ks, int ko], .var [int term], .var [int best.kind, int best.sub, int best.obj, int best.value, int best.frm, int best.til, int best.known, int best.no], .var [bool some], .var [ab fs], .var [int kk, int ks, int ko], .var [int known], .defd, .loop CM none 0 (mkT 50 0 [(6, .ref (.ptr 1 0)), (10, .ref (.ptr 2 0)), (11, .ref (.ptr 3 0)), (16, Dm (CG 178) [] [.ref (.ptr 4 0), .ref (.ptr 5 0), .ref (.ptr 6 0)])]) { toList := [17] } (aI (sub Dg 0)) (ar (sub Dg 0)), .var v0, .var v0], m := [] }) (e := Cq) pok [.st (.mask [6, 10, 11, 12])] [] (by kernel_rfl) .n) (by rfl) (by rfl)
def qC (term : Int) (best : FactT) (some : Bool) (f : FactT) : Bool := decide (f.frm ≤ term) && decide (term < f.til) && (!some || decide (orI (aK f.known best.known) (aK f.no best.no) ≥ 0))
def bN (term : Int) (best : FactT) (some : Bool) (f : FactT) : FactT × Bool := bif qC term best some f then (f, true) else (best, some)
noncomputable abbrev iH (kk : Int) (ks : Int) (ko : Int) (term : Int) (known : Int) (fs : List (List Dp)) (best : FactT) (f : FactT) (some : Bool) : List Blk := [.var [int kk, int ks, int ko], .var [int term], .var [int best.kind, int best.sub, int best.obj, int best.value, int best.frm, int best.til, int best.known, int best.no], .var [bool some], .var [ab fs], .var [int kk, int ks, int ko], .var [int known], .defd, .loop DP none 0 (mkT 50 0 [(6, .ref (.ptr 1 0)), (10, .ref (.ptr 2 0)), (11, .ref (.ptr 3 0)), (16, Dm (CG 178) [] [.ref (.ptr 4 0), .ref (.ptr 5 0), .ref (.ptr 6 0)])]) { toList := [17] } (aI (sub Dg 0)) (ar (sub Dg 0)), .var [int f.kind, int f.sub, int f.obj, int f.value, int f.frm, int f.til, int f.known, int f.no], .var [int f.kind, int f.sub, int f.obj, int f.value, int f.frm, int f.til, int f.known, int f.no]]
theorem AM {kk ks ko term known : Int} {fs : List (List Dp)} {best f : FactT} {some : Bool} : (CW B7 Γ0 (atH kk ks ko term known fs best some .ready [.var (f.row.map .p)]) true (ar (sub Dg 0)) { t := atU, h := atH kk ks ko term known fs best some .busy [.var (f.row.map .p), .var (f.row.map .p)], m := [] } .normal { t := mkT 50 0 [], h := atH kk ks ko term known fs (bN term best some f).1 (bN term best some f).2 .busy [.var (f.row.map .p), .var (f.row.map .p)], m := [] }) := by
 cases hc0 : decide (f.frm ≤ term) && decide (term < f.til) && (!some || decide (orI (aK f.known best.known) (aK f.no best.no) ≥ 0))
 ·refine Ct (Cu (s' := { t := mkT 50 0 [], h := (iH kk ks ko term known fs best f some), m := [] }) (e := Cq) pok [.st (.mask [])] [.val (int (orI (aK f.known best.known) (aK f.no best.no))), .b false] (by kernel_rfl) (.c (gd (decide (f.frm ≤ term) && decide (term < f.til) && !!some) (@iG f best (iH kk ks ko term known fs best f some))) (.c hc0 .n))) ?_ ?_ <;> (first | rfl | (have hs : qC term best some f = true := hc0; simp only [bN, hs, cond_true]; rfl) | (have hs : qC term best some f = false := hc0; simp only [bN, hs, cond_false]; rfl))
 ·let v0 : List D := [int f.kind, int f.sub, int f.obj, int f.value, int f.frm, int f.til, int f.known, int f.no]
  refine Ct (Cu (s' := { t := mkT 50 0 [], h := [.var [int kk, int ks, int ko], .var [int term], .var v0, .var [bool true], .var [ab fs], .var [int kk, int ks, int ko], .var [int known], .defd, .loop DP none 0 (mkT 50 0 [(6, .ref (.ptr 1 0)), (10, .ref (.ptr 2 0)), (11, .ref (.ptr 3 0)), (16, Dm (CG 178) [] [.ref (.ptr 4 0), .ref (.ptr 5 0), .ref (.ptr 6 0)])]) { toList := [17] } (aI (sub Dg 0)) (ar (sub Dg 0)), .var v0, .var v0], m := [] }) (e := Cq) pok [.st (.mask [])] [.val (int (orI (aK f.known best.known) (aK f.no best.no))), .b true] (by kernel_rfl) (.c (gd (decide (f.frm ≤ term) && decide (term < f.til) && !!some) (@iG f best (iH kk ks ko term known fs best f some))) (.c hc0 .n))) ?_ ?_ <;> subst v0 <;> (first | rfl | (have hs : qC term best some f = true := hc0; simp only [bN, hs, cond_true]; rfl) | (have hs : qC term best some f = false := hc0; simp only [bN, hs, cond_false]; rfl))
theorem AN {kk ks ko term known : Int} {fs : List (List Dp)} {best f : FactT} {some : Bool} : Iv B7 Γ0 (.ref (.yl 8)) [ag f.row] (atH kk ks ko term known fs best some .ready [.var (f.row.map .p)]) (bool true) (atH kk ks ko term known fs (bN term best some f).1 (bN term best some f).2 .ready [.var (f.row.map .p), .var (f.row.map .p)]) :=
 Iv.round (h1 := atH kk ks ko term known fs best some .ready [.var (f.row.map .p), .var (f.row.map .p)]) rfl rfl at_asg rfl AM rfl
def keyIs (kk ks ko : Int) (f : FactT) : Bool := f.kind == kk && (f.sub == ks && (f.obj == ko && true))
def ofIs (kk ks ko known : Int) (f : FactT) : Bool := keyIs kk ks ko f && decide (f.known ≤ known)
abbrev ofT (fs : List (List Dp)) (i : Int) : List D := mkT 30 0 [(0, .ref (.yl 8)), (1, .ref (.ptr 4 0)), (2, .ref (.ptr 5 0)), (3, .ref (.ptr 6 0)), (7, ab fs), (8, int fs.length), (9, int i)]
theorem of_body {kk ks ko term known : Int} {fs : List (List Dp)} {best b0 f : FactT} {some s0 : Bool} {i : Nat} (hr : aH (i : Int) fs f.row 8) (hlt : decide ((i : Int) < (fs.length : Int)) = true) (hw : B8.wrap ((i : Int) + 1) = ((i + 1 : Nat) : Int)) : (CW B7 Γ0 (atH kk ks ko term known fs b0 s0 .ready []) false (sub FE 0) { t := ofT fs i, h := atH kk ks ko term known fs best some .ready [], m := [] } .normal { t := ofT fs ((i + 1 : Nat) : Int), h := atH kk ks ko term known fs (bif ofIs kk ks ko known f then bN term best some f else (best, some)).1 (bif ofIs kk ks ko known f then bN term best some f else (best, some)).2 .ready [], m := [] }) := by
 cases hc0 : f.kind == kk && (f.sub == ks && (f.obj == ko && true))
 ·refine Ct (Cu (s' := { t := mkT 30 0 [(0, .ref (.yl 8)), (1, .ref (.ptr 4 0)), (2, .ref (.ptr 5 0)), (3, .ref (.ptr 6 0)), (7, ab fs), (8, int (↑(Cb fs) : Int)), (9, int (Cc B8 ((↑i : Int) + 1)))], h := [.var [int kk, int ks, int ko], .var [int term], .var [int best.kind, int best.sub, int best.obj, int best.value, int best.frm, int best.til, int best.known, int best.no], .var [bool some], .var [ab fs], .var [int kk, int ks, int ko], .var [int known], .defd, .loop CM none 0 (mkT 50 0 [(6, .ref (.ptr 1 0)), (10, .ref (.ptr 2 0)), (11, .ref (.ptr 3 0)), (16, Dm (CG 178) [] [.ref (.ptr 4 0), .ref (.ptr 5 0), .ref (.ptr 6 0)])]) { toList := [17] } (aI (sub Dg 0)) (ar (sub Dg 0))], m := [] }) (e := Cq) pok [.st (.mask [0, 1, 2, 3, 7, 8, 9]), .st (.trim 9)] [.b true, .row [vi f.kind, vi f.sub, vi f.obj, vi f.value, vi f.frm, vi f.til, vi f.known, vi f.no], .g false, .g false, .g false, .g false, .ov 22 (bool false), .g false, .g false, .g false, .g false, .ov 28 (bool false), .b false] (by kernel_rfl) (.c hlt (.c hr (.c (show ((f.kind == kk && (f.sub == ks && (f.obj == ko && true))) == true) = false from (by rw [hc0]; rfl)) (.c (show ((f.kind == kk && (f.sub == ks && (f.obj == ko && true))) == true) = false from (by rw [hc0]; rfl)) (.c (show ((f.kind == kk && (f.sub == ks && (f.obj == ko && true))) == true) = false from (by rw [hc0]; rfl)) (.c (show ((f.kind == kk && (f.sub == ks && (f.obj == ko && true))) == true) = false from (by rw [hc0]; rfl)) (.c (show ae (bool (f.kind == kk && (f.sub == ks && (f.obj == ko && true)))) (D.p (Dp.v (Dd { toList := [] }))) (bool false) (bool false) from (ai hc0 rfl)) (.c (show (false == true) = false from rfl) (.c (show (false == true) = false from rfl) (.c (show (false == true) = false from rfl) (.c (show (false == true) = false from rfl) (.c (show ae (bool false) (D.p (Dp.v (Dd { toList := [] }))) (bool false) (bool false) from (ai rfl rfl)) (.c (show false = false from rfl) .n)))))))))))))) ?_ ?_ <;> (first | rfl | (simp only [hw, ofIs, keyIs, hc0, Cs, cond_false]; rfl))
 ·cases hc1 : decide (f.known ≤ known)
  ·refine Ct (Cu (s' := { t := mkT 30 0 [(0, .ref (.yl 8)), (1, .ref (.ptr 4 0)), (2, .ref (.ptr 5 0)), (3, .ref (.ptr 6 0)), (7, ab fs), (8, int (↑(Cb fs) : Int)), (9, int (Cc B8 ((↑i : Int) + 1)))], h := [.var [int kk, int ks, int ko], .var [int term], .var [int best.kind, int best.sub, int best.obj, int best.value, int best.frm, int best.til, int best.known, int best.no], .var [bool some], .var [ab fs], .var [int kk, int ks, int ko], .var [int known], .defd, .loop CM none 0 (mkT 50 0 [(6, .ref (.ptr 1 0)), (10, .ref (.ptr 2 0)), (11, .ref (.ptr 3 0)), (16, Dm (CG 178) [] [.ref (.ptr 4 0), .ref (.ptr 5 0), .ref (.ptr 6 0)])]) { toList := [17] } (aI (sub Dg 0)) (ar (sub Dg 0))], m := [] }) (e := Cq) pok [.st (.mask [0, 1, 2, 3, 7, 8, 9]), .st (.trim 9)] [.b true, .row [vi f.kind, vi f.sub, vi f.obj, vi f.value, vi f.frm, vi f.til, vi f.known, vi f.no], .g true, .g true, .g true, .g true, .ov 22 (bool (decide (f.known ≤ known))), .g false, .g false, .g false, .g false, .ov 28 (bool false), .b false] (by kernel_rfl) (.c hlt (.c hr (.c (show ((f.kind == kk && (f.sub == ks && (f.obj == ko && true))) == true) = true from (by rw [hc0]; rfl)) (.c (show ((f.kind == kk && (f.sub == ks && (f.obj == ko && true))) == true) = true from (by rw [hc0]; rfl)) (.c (show ((f.kind == kk && (f.sub == ks && (f.obj == ko && true))) == true) = true from (by rw [hc0]; rfl)) (.c (show ((f.kind == kk && (f.sub == ks && (f.obj == ko && true))) == true) = true from (by rw [hc0]; rfl)) (.c (show ae (bool (f.kind == kk && (f.sub == ks && (f.obj == ko && true)))) (bool (decide (f.known ≤ known))) (bool false) (bool (decide (f.known ≤ known))) from (af hc0 rfl)) (.c (show (decide (f.known ≤ known) == true) = false from (by rw [hc1]; rfl)) (.c (show (decide (f.known ≤ known) == true) = false from (by rw [hc1]; rfl)) (.c (show (decide (f.known ≤ known) == true) = false from (by rw [hc1]; rfl)) (.c (show (decide (f.known ≤ known) == true) = false from (by rw [hc1]; rfl)) (.c (show ae (bool (decide (f.known ≤ known))) (D.p (Dp.v (Dd { toList := [] }))) (bool false) (bool false) from (ai hc1 rfl)) (.c (show false = false from rfl) .n)))))))))))))) ?_ ?_ <;> (first | rfl | (simp only [hw, ofIs, keyIs, hc0, hc1, Bool.and_false, cond_false]; rfl))
  ·let v0 : List D := [int (bN term best some f).fst.kind, int (bN term best some f).fst.sub, int (bN term best some f).fst.obj, int (bN term best some f).fst.value, int (bN term best some f).fst.frm, int (bN term best some f).fst.til, int (bN term best some f).fst.known, int (bN term best some f).fst.no]
   let v1 : List D := [int f.kind, int f.sub, int f.obj, int f.value, int f.frm, int f.til, int f.known, int f.no]
   refine Ct (Cu (s' := { t := mkT 30 0 [(0, .ref (.yl 8)), (1, .ref (.ptr 4 0)), (2, .ref (.ptr 5 0)), (3, .ref (.ptr 6 0)), (7, ab fs), (8, int (↑(Cb fs) : Int)), (9, int (Cc B8 ((↑i : Int) + 1)))], h := [.var [int kk, int ks, int ko], .var [int term], .var v0, .var [bool (bN term best some f).snd], .var [ab fs], .var [int kk, int ks, int ko], .var [int known], .defd, .loop CM none 0 (mkT 50 0 [(6, .ref (.ptr 1 0)), (10, .ref (.ptr 2 0)), (11, .ref (.ptr 3 0)), (16, Dm (CG 178) [] [.ref (.ptr 4 0), .ref (.ptr 5 0), .ref (.ptr 6 0)])]) { toList := [17] } (aI (sub Dg 0)) (ar (sub Dg 0))], m := [] }) (e := Cq) pok [.st (.mask [0, 1, 2, 3, 7, 8, 9]), .st (.trim 9)] [.b true, .row [vi f.kind, vi f.sub, vi f.obj, vi f.value, vi f.frm, vi f.til, vi f.known, vi f.no], .g true, .g true, .g true, .g true, .ov 22 (bool (decide (f.known ≤ known))), .g true, .g true, .g true, .inv (bool true) [.var [int kk, int ks, int ko], .var [int term], .var v0, .var [bool (bN term best some f).snd], .var [ab fs], .var [int kk, int ks, int ko], .var [int known], .defd, .loop CM none 0 (mkT 50 0 [(6, .ref (.ptr 1 0)), (10, .ref (.ptr 2 0)), (11, .ref (.ptr 3 0)), (16, Dm (CG 178) [] [.ref (.ptr 4 0), .ref (.ptr 5 0), .ref (.ptr 6 0)])]) { toList := [17] } (aI (sub Dg 0)) (ar (sub Dg 0)), .var v1, .var v1], .g true, .ov 28 (bool !true), .b false] (by kernel_rfl) (.c hlt (.c hr (.c (show ((f.kind == kk && (f.sub == ks && (f.obj == ko && true))) == true) = true from (by subst v0 v1; rw [hc0]; rfl)) (.c (show ((f.kind == kk && (f.sub == ks && (f.obj == ko && true))) == true) = true from (by subst v0 v1; rw [hc0]; rfl)) (.c (show ((f.kind == kk && (f.sub == ks && (f.obj == ko && true))) == true) = true from (by subst v0 v1; rw [hc0]; rfl)) (.c (show ((f.kind == kk && (f.sub == ks && (f.obj == ko && true))) == true) = true from (by subst v0 v1; rw [hc0]; rfl)) (.c (show ae (bool (f.kind == kk && (f.sub == ks && (f.obj == ko && true)))) (bool (decide (f.known ≤ known))) (bool false) (bool (decide (f.known ≤ known))) from (af hc0 rfl)) (.c (show (decide (f.known ≤ known) == true) = true from (by subst v0 v1; rw [hc1]; rfl)) (.c (show (decide (f.known ≤ known) == true) = true from (by subst v0 v1; rw [hc1]; rfl)) (.c (show (decide (f.known ≤ known) == true) = true from (by subst v0 v1; rw [hc1]; rfl)) (.c (@AN kk ks ko term known fs best f some) (.c (show (decide (f.known ≤ known) == true) = true from (by subst v0 v1; rw [hc1]; rfl)) (.c (show ae (bool (decide (f.known ≤ known))) (bool !true) (bool false) (bool !true) from (af hc1 rfl)) (.c (show (!true) = false from rfl) .n))))))))))))))) ?_ ?_ <;> subst v0 v1 <;> (first | rfl | (simp only [hw, ofIs, keyIs, hc0, hc1, Bool.and_self, cond_true]; rfl))
theorem AO {kk ks ko term known : Int} {fs : List (List Dp)} {best b0 : FactT} {some s0 : Bool} {i : Nat} (hlt : decide ((i : Int) < (fs.length : Int)) = false) : (CW B7 Γ0 (atH kk ks ko term known fs b0 s0 .ready []) false (sub FE 0) { t := ofT fs i, h := atH kk ks ko term known fs best some .ready [], m := [] } (.exit 0) { t := mkT 30 0 [], h := atH kk ks ko term known fs best some .ready [], m := [] }) := by
 exact Ct (Cu (s' := { t := mkT 30 0 [], h := [.var [int kk, int ks, int ko], .var [int term], .var [int best.kind, int best.sub, int best.obj, int best.value, int best.frm, int best.til, int best.known, int best.no], .var [bool some], .var [ab fs], .var [int kk, int ks, int ko], .var [int known], .defd, .loop CM none 0 (mkT 50 0 [(6, .ref (.ptr 1 0)), (10, .ref (.ptr 2 0)), (11, .ref (.ptr 3 0)), (16, Dm (CG 178) [] [.ref (.ptr 4 0), .ref (.ptr 5 0), .ref (.ptr 6 0)])]) { toList := [17] } (aI (sub Dg 0)) (ar (sub Dg 0))], m := [] }) (e := CE 0) pok [.st (.mask [])] [.b false] (by kernel_rfl) (.c hlt .n)) (by rfl) (by rfl)
def nB (kk ks ko term known : Int) (s : FactT × Bool) (f : FactT) : FactT × Bool := bif ofIs kk ks ko known f then bN term s.1 s.2 f else s
theorem bw {α σ : Type} (g : σ → α → σ) : ∀ (l : List α) (s : σ), forL (fun a s => (.inl (g s a) : σ ⊕ Empty)) l s = .inl (l.foldl g s)
 | [], _ => rfl
 | a :: l, s => bw g l (g s a)
theorem of_cw {kk ks ko term known : Int} {l : List FactT} (hl : am l) {b0 : FactT} {s0 : Bool} :
  CW B7 Γ0 (atH kk ks ko term known (l.map FactT.row) b0 s0 .ready []) false (.loop (sub FE 0)) { t := ofT (l.map FactT.row) 0, h := atH kk ks ko term known (l.map FactT.row) b0 s0 .ready [], m := [] } (.exit 0)
   { t := mkT 30 0 [], h := atH kk ks ko term known (l.map FactT.row) (l.foldl (nB kk ks ko term known) (b0, s0)).1 (l.foldl (nB kk ks ko term known) (b0, s0)).2 .ready [], m := [] } := by
 have := CW.each (P := B7) (Γ := Γ0) (h0 := atH kk ks ko term known (l.map FactT.row) b0 s0 .ready []) (rd := false) (c := sub FE 0) (σ := FactT × Bool) (ρ := Empty) l (fun f s => .inl (nB kk ks ko term known s f))
  (fun i s => { t := ofT (l.map FactT.row) (i : Int), h := atH kk ks ko term known (l.map FactT.row) s.1 s.2 .ready [], m := [] }) (.exit 0) (fun s => { t := mkT 30 0 [], h := atH kk ks ko term known (l.map FactT.row) s.1 s.2 .ready [], m := [] }) (fun r => r.elim)
  (fun _ _ => True) (by simp) (fun r => r.elim) ?_ ?_ (b0, s0) trivial
 ·rw [bw] at this
  exact this
 ·intro i f s hf _
  have hi := (Ce.1 hf).1
  exact ⟨fun _ _ => trivial, of_body (rowAt hf rfl) (lt_len _ hi) (wrap_succ hi hl)⟩
 ·intro s _
  exact AO (bM _ l)
theorem yc {kk ks ko term known : Int} {l : List FactT} (hl : am l) {b0 : FactT} {s0 : Bool} : (Ev B7 Γ0 178 [.ref (.yl 8), .ref (.ptr 4 0), .ref (.ptr 5 0), .ref (.ptr 6 0)] (atH kk ks ko term known (l.map FactT.row) b0 s0 .ready []) (.tup []) (atH kk ks ko term known (l.map FactT.row) (l.foldl (nB kk ks ko term known) (b0, s0)).1 (l.foldl (nB kk ks ko term known) (b0, s0)).2 .ready [])) := by
 have hl0 := (@of_cw (kk) (ks) (ko) (term) (known) (l) (hl) (b0) (s0))
 let v1 := D8 (nB kk ks ko term known) (b0, s0) l
 let v0 : List Blk := [.var [int kk, int ks, int ko], .var [int term], .var [int v1.fst.kind, int v1.fst.sub, int v1.fst.obj, int v1.fst.value, int v1.fst.frm, int v1.fst.til, int v1.fst.known, int v1.fst.no], .var [bool v1.snd], .var [ab (B6 FactT.row l)], .var [int kk, int ks, int ko], .var [int known], .defd, .loop CM none 0 (mkT 50 0 [(6, .ref (.ptr 1 0)), (10, .ref (.ptr 2 0)), (11, .ref (.ptr 3 0)), (16, Dm (CG 178) [] [.ref (.ptr 4 0), .ref (.ptr 5 0), .ref (.ptr 6 0)])]) { toList := [17] } (aI (sub Dg 0)) (ar (sub Dg 0))]
 exact Cj (EH (h' := v0) (d := D.tup []) pok [.sum [0, 1, 2, 3, 7, 8, 9] (CE 0) { t := mkT 30 0 [], h := v0, m := [] }] (by kernel_rfl) (.c hl0 .n)) (by rfl) (by rfl)
noncomputable abbrev atH0 (kk ks ko term known : Int) (fs : List (List Dp)) (best : FactT) (some : Bool) : List Blk :=
 [.var [int kk, int ks, int ko], .var [int term], .var (best.row.map .p), .var [bool some], .var [ab fs], .var [int kk, int ks, int ko], .var [int known]]
theorem yd {kk ks ko term known : Int} {l : List FactT} (hl : am l) {b0 : FactT} {s0 : Bool} : CW B7 Γ0 [] false (sub Dg 0) { t := atT, h := atH0 kk ks ko term known (l.map FactT.row) b0 s0, m := [] } .normal
  { t := atT, h := atH kk ks ko term known (l.map FactT.row) (l.foldl (nB kk ks ko term known) (b0, s0)).1 (l.foldl (nB kk ks ko term known) (b0, s0)).2 .exhausted [], m := [7] } := by
 exact Hp (f := 178) (fi := []) (ca := [.ref (.ptr 4 0), .ref (.ptr 5 0), .ref (.ptr 6 0)]) pok (s := { t := atT, h := atH0 kk ks ko term known (l.map FactT.row) b0 s0, m := [] }) (g := .tmp 16) (ps := #[17]) (asg := aI (sub Dg 0)) (body := ar (sub Dg 0)) rfl (by kernel_rfl) (yc hl) rfl
def atR (kk ks ko term known : Int) (l : List FactT) : Int × Bool :=
 let r := l.foldl (nB kk ks ko term known) (fz, false)
 bif !r.2 || decide (r.1.value < 0) then (0, false) else (r.1.value, true)
theorem at_ev {kk ks ko term known : Int} {l : List FactT} (hl : am l) (h : List Blk) : (Ev B7 Γ0 86 [ab (l.map FactT.row), .agg [int kk, int ks, int ko], int term, int known] h (.tup [int (atR kk ks ko term known l).1, bool (atR kk ks ko term known l).2]) h) := by
 have hl0 := (@yd (kk) (ks) (ko) (term) (known) (l) (hl) ({ kind := 0, sub := 0, obj := 0, value := 0, frm := 0, til := 0, known := 0, no := 0 }) (false))
 cases hc1 : !(D8 (nB kk ks ko term known) ({ kind := 0, sub := 0, obj := 0, value := 0, frm := 0, til := 0, known := 0, no := 0 }, false) l).snd || decide ((D8 (nB kk ks ko term known) ({ kind := 0, sub := 0, obj := 0, value := 0, frm := 0, til := 0, known := 0, no := 0 }, false) l).fst.value < 0)
 ·let v0 := D8 (nB kk ks ko term known) ({ kind := 0, sub := 0, obj := 0, value := 0, frm := 0, til := 0, known := 0, no := 0 }, false) l
  exact Cj (Cn (d := D.tup [int v0.fst.value, bool true]) pok [.inl, .sum [6, 10, 11, 16] (Cq) { t := mkT 50 0 [(6, .ref (.ptr 1 0)), (10, .ref (.ptr 2 0)), (11, .ref (.ptr 3 0)), (16, Dm (CG 178) [] [.ref (.ptr 4 0), .ref (.ptr 5 0), .ref (.ptr 6 0)])], h := [.var [int kk, int ks, int ko], .var [int term], .var [int v0.fst.kind, int v0.fst.sub, int v0.fst.obj, int v0.fst.value, int v0.fst.frm, int v0.fst.til, int v0.fst.known, int v0.fst.no], .var [bool v0.snd], .var [ab (B6 FactT.row l)], .var [int kk, int ks, int ko], .var [int known], .defd, .loop C2 none 0 (mkT 50 0 [(6, .ref (.ptr 1 0)), (10, .ref (.ptr 2 0)), (11, .ref (.ptr 3 0)), (16, Dm (CG 178) [] [.ref (.ptr 4 0), .ref (.ptr 5 0), .ref (.ptr 6 0)])]) { toList := [17] } (aI (sub Dg 0)) (ar (sub Dg 0))], m := [7] }, .b false] (by kernel_rfl) (.c hl0 (.c hc1 .n)) rfl rfl h) (by subst v0; simp only [atR, hc1, cond_false]) (by rfl)
 ·let v0 := D8 (nB kk ks ko term known) ({ kind := 0, sub := 0, obj := 0, value := 0, frm := 0, til := 0, known := 0, no := 0 }, false) l
  exact Cj (Cn (d := D.tup [int 0, bool false]) pok [.inl, .sum [6, 10, 11, 16] (Cq) { t := mkT 50 0 [(6, .ref (.ptr 1 0)), (10, .ref (.ptr 2 0)), (11, .ref (.ptr 3 0)), (16, Dm (CG 178) [] [.ref (.ptr 4 0), .ref (.ptr 5 0), .ref (.ptr 6 0)])], h := [.var [int kk, int ks, int ko], .var [int term], .var [int v0.fst.kind, int v0.fst.sub, int v0.fst.obj, int v0.fst.value, int v0.fst.frm, int v0.fst.til, int v0.fst.known, int v0.fst.no], .var [bool v0.snd], .var [ab (B6 FactT.row l)], .var [int kk, int ks, int ko], .var [int known], .defd, .loop C2 none 0 (mkT 50 0 [(6, .ref (.ptr 1 0)), (10, .ref (.ptr 2 0)), (11, .ref (.ptr 3 0)), (16, Dm (CG 178) [] [.ref (.ptr 4 0), .ref (.ptr 5 0), .ref (.ptr 6 0)])]) { toList := [17] } (aI (sub Dg 0)) (ar (sub Dg 0))], m := [7] }, .b true] (by kernel_rfl) (.c hl0 (.c hc1 .n)) rfl rfl h) (by subst v0; simp only [atR, hc1, cond_true]) (by rfl)
end Go.Vi
open Go Go.Proofs
namespace Go.Vi
set_option maxRecDepth 100000
set_option maxHeartbeats 4000000
inductive RuleT where
 | mk (op course : Int) (name : ByteArray) (n d : Int) (kids : List RuleT)
mutual
def RuleT.row : RuleT → List Dp
 | .mk op c nm n d ks => [vi op, vi c, vs nm, vi n, vi d, .sl (cN ks)]
def cN : List RuleT → List (List Dp)
 | [] => []
 | k :: ks => k.row :: cN ks
end
theorem eI : ∀ ks : List RuleT, cN ks = ks.map RuleT.row
 | [] => rfl
 | k :: ks => by simp [cN, eI ks]
mutual
def RuleT.ok : RuleT → Prop
 | .mk op c _ n d ks => (I64 op ∧ I64 c ∧ I64 n ∧ I64 d ∧ am ks) ∧ kA ks
def kA : List RuleT → Prop
 | [] => True
 | k :: ks => k.ok ∧ kA ks
end
theorem dF : ∀ {ks : List RuleT}, kA ks → ∀ k ∈ ks, k.ok
 | [], _, k, hk => by simp at hk
 | a :: ks, h, k, hk => by
  simp only [kA] at h
  rcases List.mem_cons.1 hk with rfl | hk
  ·exact h.1
  ·exact dF h.2 k hk
structure RuF where
 op : Int
 c : Int
 nm : ByteArray
 n : Int
 d : Int
 ks : List (List Dp)
def RuF.row (x : RuF) : List Dp := [vi x.op, vi x.c, vs x.nm, vi x.n, vi x.d, .sl x.ks]
def RuF.l (x : RuF) : List D := [int x.op, int x.c, al x.nm, int x.n, int x.d, ab x.ks]
def RuF.formed (x : RuF) : Bool := ah x.op x.c x.n x.d x.ks.length
def RuF.ok (x : RuF) : Prop := I64 x.n ∧ I64 x.d
def gO (n1 dep : Int) (f : Bool) : Bool := decide (n1 > 200) || decide (dep > 16) || !f
abbrev ckT : List D := mkT 23 0 [(2, .ref (.ptr 1 0)), (3, .ref (.ptr 2 0)), (7, .fn (.func 240) [] [.ref (.ptr 4 0), .ref (.ptr 3 0)])]
noncomputable abbrev ckH (r : RuF) (e n : Int) (st : LoopState) (pe : Option Code) : List Blk :=
 [.var r.l, .var [int e], .var [int n], .var r.l, .var [.fn (.func 239) [] [.ref (.ptr 4 0)]], .defd, .loop st pe 0 ckT #[8, 9] (aI (sub CJ 0)) (ar (sub CJ 0))]
abbrev ckU (dep : Int) : List D := mkT 23 0 [(2, .ref (.ptr 1 0)), (3, .ref (.ptr 2 0)), (4, int dep), (5, .ref (.ptr 8 0)), (7, .fn (.func 240) [] [.ref (.ptr 4 0), .ref (.ptr 3 0)])]
theorem zy {r0 : RuF} {m dep : Int} {x : RuF} : (CW B7 Γk (ckH r0 0 m .ready none ++ [.var (x.l)]) true (aI (sub CJ 0)) { t := eQ ckT [(8, int dep), (9, .agg x.l)], h := ckH r0 0 m .ready none ++ [.var (x.l)], m := [] } .normal { t := ckU dep, h := ckH r0 0 m .ready none ++ [.var (x.l), .var (x.l)], m := [] }) := by
 let v0 : List D := [int r0.op, int r0.c, al r0.nm, int r0.n, int r0.d, ab r0.ks]
 let v1 : List D := [int x.op, int x.c, al x.nm, int x.n, int x.d, ab x.ks]
 exact Ct (Cu (s' := { t := mkT 23 0 [(2, .ref (.ptr 1 0)), (3, .ref (.ptr 2 0)), (4, int dep), (5, .ref (.ptr 8 0)), (7, Dm (CG 240) [] [.ref (.ptr 4 0), .ref (.ptr 3 0)])], h := [.var v0, .var [int 0], .var [int m], .var v0, .var [Dm (CG 239) [] [.ref (.ptr 4 0)]], .defd, .loop CM none 0 (mkT 23 0 [(2, .ref (.ptr 1 0)), (3, .ref (.ptr 2 0)), (7, Dm (CG 240) [] [.ref (.ptr 4 0), .ref (.ptr 3 0)])]) { toList := [8, 9] } (aI (sub CJ 0)) (ar (sub CJ 0)), .var v1, .var v1], m := [] }) (e := Cq) pok [.st (.mask [2, 3, 4, 5, 7])] [] (by kernel_rfl) .n) (by rfl) (by rfl)
noncomputable def ln (r0 : RuF) (m1 : Int) (more : List Blk) (b : Bool) : Exit × AS := match b with
 | true => (.ret, { t := mkT 23 0 [], h := ckH r0 120 m1 .busy none ++ more, m := [] })
 | false => (.normal, { t := mkT 23 0 [], h := ckH r0 0 m1 .busy none ++ more, m := [] })
noncomputable abbrev iI (r0 : RuF) (m : Int) (x : RuF) : List Blk := [.var [int r0.op, int r0.c, al r0.nm, int r0.n, int r0.d, ab r0.ks], .var [int 0], .var [int (Cc B8 (m + 1))], .var [int r0.op, int r0.c, al r0.nm, int r0.n, int r0.d, ab r0.ks], .var [Dm (CG 239) [] [.ref (.ptr 4 0)]], .defd, .loop DP none 0 (mkT 23 0 [(2, .ref (.ptr 1 0)), (3, .ref (.ptr 2 0)), (7, Dm (CG 240) [] [.ref (.ptr 4 0), .ref (.ptr 3 0)])]) { toList := [8, 9] } (aI (sub CJ 0)) (ar (sub CJ 0)), .var [int x.op, int x.c, al x.nm, int x.n, int x.d, ab x.ks], .var [int x.op, int x.c, al x.nm, int x.n, int x.d, ab x.ks]]
theorem AP {r0 : RuF} {m dep : Int} {x : RuF} (hx : x.ok) : (CW B7 Γk (ckH r0 0 m .ready none ++ [.var (x.l)]) true (ar (sub CJ 0)) { t := ckU dep, h := ckH r0 0 m .busy none ++ [.var (x.l), .var (x.l)], m := [] } (ln r0 (B8.wrap (m + 1)) [.var (x.l), .var (x.l)] (gO (B8.wrap (m + 1)) dep (x.formed))).1 (ln r0 (B8.wrap (m + 1)) [.var (x.l), .var (x.l)] (gO (B8.wrap (m + 1)) dep (x.formed))).2) := by
 cases hc0 : decide (Cc B8 (m + 1) > 200) || decide (dep > 16) || !ah x.op x.c x.n x.d (↑(Cb x.ks) : Int)
 ·refine Ct (Cu (s' := { t := mkT 23 0 [], h := (iI r0 m x), m := [] }) (e := Cq) pok [.st (.mask [])] [.val (bool (ah x.op x.c x.n x.d (↑(Cb x.ks) : Int))), .b false] (by kernel_rfl) (.c (gd (!(decide (Cc B8 (m + 1) > 200) || decide (dep > 16))) (@pn (x.op) (x.c) (x.nm) (x.n) (x.d) (x.ks) (by first | assumption | exact hx.1 | exact hx.2 | rfl) (by first | assumption | exact hx.1 | exact hx.2 | rfl) (iI r0 m x))) (.c hc0 .n))) ?_ ?_ <;> (first | (have hs : gO (B8.wrap (m + 1)) dep (x.formed) = true := hc0; (first | (simp only [hs, ln]; done) | (simp only [hs, ln]; rfl))) | (have hs : gO (B8.wrap (m + 1)) dep (x.formed) = false := hc0; (first | (simp only [hs, ln]; done) | (simp only [hs, ln]; rfl))))
 ·let v0 : List D := [int r0.op, int r0.c, al r0.nm, int r0.n, int r0.d, ab r0.ks]
  let v1 : List D := [int x.op, int x.c, al x.nm, int x.n, int x.d, ab x.ks]
  refine Ct (Cu (s' := { t := mkT 23 0 [], h := [.var v0, .var [int 120], .var [int (Cc B8 (m + 1))], .var v0, .var [Dm (CG 239) [] [.ref (.ptr 4 0)]], .defd, .loop DP none 0 (mkT 23 0 [(2, .ref (.ptr 1 0)), (3, .ref (.ptr 2 0)), (7, Dm (CG 240) [] [.ref (.ptr 4 0), .ref (.ptr 3 0)])]) { toList := [8, 9] } (aI (sub CJ 0)) (ar (sub CJ 0)), .var v1, .var v1], m := [] }) (e := Dv) pok [.st (.mask [])] [.val (bool (ah x.op x.c x.n x.d (↑(Cb x.ks) : Int))), .b true] (by kernel_rfl) (.c (gd (!(decide (Cc B8 (m + 1) > 200) || decide (dep > 16))) (@pn (x.op) (x.c) (x.nm) (x.n) (x.d) (x.ks) (by subst v0 v1; first | assumption | exact hx.1 | exact hx.2 | rfl) (by subst v0 v1; first | assumption | exact hx.1 | exact hx.2 | rfl) (iI r0 m x))) (.c hc0 .n))) ?_ ?_ <;> subst v0 v1 <;> (first | (have hs : gO (B8.wrap (m + 1)) dep (x.formed) = true := hc0; (first | (simp only [hs, ln]; done) | (simp only [hs, ln]; rfl))) | (have hs : gO (B8.wrap (m + 1)) dep (x.formed) = false := hc0; (first | (simp only [hs, ln]; done) | (simp only [hs, ln]; rfl))))
noncomputable def AQ (r0 : RuF) (m1 : Int) (b : Bool) : List Blk := match b with
 | true => ckH r0 120 m1 .done (some .ret)
 | false => ckH r0 0 m1 .ready none
theorem AR {r0 : RuF} {m dep : Int} {x : RuF} (hx : x.ok) : Iv B7 Γk (.ref (.yl 6)) [int dep, .agg x.l] (ckH r0 0 m .ready none ++ [.var (x.l)]) (bool (!gO (B8.wrap (m + 1)) dep (x.formed)))
  (AQ r0 (B8.wrap (m + 1)) (gO (B8.wrap (m + 1)) dep (x.formed)) ++ [.var (x.l), .var (x.l)]) := by
 have hb := AP (r0 := r0) (m := m) (dep := dep) hx
 cases h : gO (B8.wrap (m + 1)) dep (x.formed)
 ·rw [h] at hb
  exact Iv.round (h1 := ckH r0 0 m .ready none ++ [.var (x.l), .var (x.l)]) rfl rfl zy rfl hb rfl
 ·rw [h] at hb
  exact Iv.round (h1 := ckH r0 0 m .ready none ++ [.var (x.l), .var (x.l)]) rfl rfl zy rfl hb rfl
mutual
def RuleT.walk : RuleT → Int → Int → Int × Bool
 | .mk op c _ n d ks, dep, m => match gO (B8.wrap (m + 1)) dep (ah op c n d ks.length) with
  | true => (B8.wrap (m + 1), true)
  | false => walkL ks (B8.wrap (dep + 1)) (B8.wrap (m + 1))
def walkL : List RuleT → Int → Int → Int × Bool
 | [], _, m => (m, false)
 | k :: ks, dep, m => match k.walk dep m with
  | (m', true) => (m', true)
  | (m', false) => walkL ks dep m'
end
abbrev wkF (dep : Int) (k : RuleT) (m : Int) : Int ⊕ Int := match k.walk dep m with
 | (m', true) => .inr m'
 | (m', false) => .inl m'
theorem l8 (dep : Int) : ∀ (ks : List RuleT) (m : Int), forL (wkF dep) ks m = match walkL ks dep m with | (m', true) => .inr m' | (m', false) => .inl m'
 | [], m => by simp [forL, walkL]
 | k :: ks, m => by
  simp only [forL, walkL, wkF]
  cases h : k.walk dep m with
  | mk m' b => cases b with
   | true => rfl
   | false => exact l8 dep ks m'
noncomputable abbrev wkS (x r0 : RuF) (dep m i : Int) : AS := { t := mkT 30 0 [(1, int dep), (2, .ref (.yl 6)), (3, .ref (.ptr 4 0)), (7, bool false), (16, ab x.ks), (17, int x.ks.length), (18, int i)], h := ckH r0 0 m .ready none ++ [.var (x.l)], m := [] }
theorem ye {x r0 : RuF} {dep m m0 : Int} {i : Nat} {m' : Int} {y : RuF} (hr : aH (i : Int) x.ks y.row 6) (hlt : decide ((i : Int) < (x.ks.length : Int)) = true) (hw : B8.wrap ((i : Int) + 1) = ((i + 1 : Nat) : Int))
  (hk : Ev B7 Γk 239 [.agg y.l, int (B8.wrap (dep + 1)), .ref (.yl 6), .ref (.ptr 4 0)] (ckH r0 0 m .ready none) (bool true) (ckH r0 0 m' .ready none)) : (CW B7 Γk (ckH r0 0 m0 .ready none) false (sub GQ 0) (wkS x r0 dep m i) .normal (wkS x r0 dep m' ((i + 1 : Nat) : Int))) := by
 let v2 : List D := [int r0.op, int r0.c, al r0.nm, int r0.n, int r0.d, ab r0.ks]
 let v3 : List D := [int y.op, int y.c, al y.nm, int y.n, int y.d, ab y.ks]
 let v4 : List D := [int x.op, int x.c, al x.nm, int x.n, int x.d, ab x.ks]
 let v5 : List D := [.ref (.ptr 4 0), .ref (.ptr 3 0)]
 let v0 : List Blk := [.var v2, .var [int 0], .var [int m'], .var v2, .var [Dm (CG 239) [] [.ref (.ptr 4 0)]], .defd, .loop CM none 0 (mkT 23 0 [(2, .ref (.ptr 1 0)), (3, .ref (.ptr 2 0)), (7, Dm (CG 240) [] v5)]) { toList := [8, 9] } (aI (sub CJ 0)) (ar (sub CJ 0)), .var v4, .var v3]
 let v1 : List Blk := [.var v2, .var [int 0], .var [int m], .var v2, .var [Dm (CG 239) [] [.ref (.ptr 4 0)]], .defd, .loop CM none 0 (mkT 23 0 [(2, .ref (.ptr 1 0)), (3, .ref (.ptr 2 0)), (7, Dm (CG 240) [] v5)]) { toList := [8, 9] } (aI (sub CJ 0)) (ar (sub CJ 0)), .var v4, .var v3]
 refine Ct (Cu (s' := { t := mkT 30 0 [(1, int dep), (2, .ref (.yl 6)), (3, .ref (.ptr 4 0)), (7, bool false), (16, ab x.ks), (17, int (↑(Cb x.ks) : Int)), (18, int (Cc B8 ((↑i : Int) + 1)))], h := [.var v2, .var [int 0], .var [int m'], .var v2, .var [Dm (CG 239) [] [.ref (.ptr 4 0)]], .defd, .loop CM none 0 (mkT 23 0 [(2, .ref (.ptr 1 0)), (3, .ref (.ptr 2 0)), (7, Dm (CG 240) [] v5)]) { toList := [8, 9] } (aI (sub CJ 0)) (ar (sub CJ 0)), .var v4], m := [] }) (e := Cq) pok [.st (.mask [1, 2, 3, 7, 16, 17, 18]), .st (.trim 8)] [.b true, .row [vi y.op, vi y.c, vs y.nm, vi y.n, vi y.d, Dp.sl y.ks], .call (bool true) v0, .b false] (by kernel_rfl) (.c hlt (.c hr (.c (show Ev B7 Γk 239 [D.agg v3, int (Cc B8 (dep + 1)), .ref (.yl 6), .ref (.ptr 4 0)] v1 (bool true) v0 from (Cj (Ev.frameX (args := [D.agg v3, int (Cc B8 (dep + 1)), .ref (.yl 6), .ref (.ptr 4 0)]) (H := v1) [0, 1, 2, 3, 4, 5, 6] (@hk) (by kernel_rfl) (by kernel_rfl) (by kernel_rfl) trivial trivial) (by kernel_rfl) (by kernel_rfl))) (.c (show (!true) = false from rfl) .n))))) ?_ ?_ <;> subst v2 v3 v4 v5 v0 v1 <;> (first | rfl | (rw [hw]; rfl))
noncomputable abbrev wkX (x r0 : RuF) (m : Int) : Exit × AS := (.ret, { t := mkT 30 0 [(7, bool false)], h := ckH r0 120 m .done (some .ret) ++ [.var (x.l)], m := [] })
theorem yf {x r0 : RuF} {dep m m0 : Int} {i : Nat} {m' : Int} {y : RuF} (hr : aH (i : Int) x.ks y.row 6) (hlt : decide ((i : Int) < (x.ks.length : Int)) = true)
  (hk : Ev B7 Γk 239 [.agg y.l, int (B8.wrap (dep + 1)), .ref (.yl 6), .ref (.ptr 4 0)] (ckH r0 0 m .ready none) (bool false) (ckH r0 120 m' .done (some .ret))) : (CW B7 Γk (ckH r0 0 m0 .ready none) false (sub GQ 0) (wkS x r0 dep m i) (wkX x r0 m').1 (wkX x r0 m').2) := by
 let v2 : List D := [int r0.op, int r0.c, al r0.nm, int r0.n, int r0.d, ab r0.ks]
 let v3 : List D := [int y.op, int y.c, al y.nm, int y.n, int y.d, ab y.ks]
 let v4 : List D := [int x.op, int x.c, al x.nm, int x.n, int x.d, ab x.ks]
 let v5 : List D := [.ref (.ptr 4 0), .ref (.ptr 3 0)]
 let v0 : List Blk := [.var v2, .var [int 120], .var [int m'], .var v2, .var [Dm (CG 239) [] [.ref (.ptr 4 0)]], .defd, .loop Ee (some Fj) 0 (mkT 23 0 [(2, .ref (.ptr 1 0)), (3, .ref (.ptr 2 0)), (7, Dm (CG 240) [] v5)]) { toList := [8, 9] } (aI (sub CJ 0)) (ar (sub CJ 0)), .var v4, .var v3]
 let v1 : List Blk := [.var v2, .var [int 0], .var [int m], .var v2, .var [Dm (CG 239) [] [.ref (.ptr 4 0)]], .defd, .loop CM none 0 (mkT 23 0 [(2, .ref (.ptr 1 0)), (3, .ref (.ptr 2 0)), (7, Dm (CG 240) [] v5)]) { toList := [8, 9] } (aI (sub CJ 0)) (ar (sub CJ 0)), .var v4, .var v3]
 exact Ct (Cu (s' := { t := mkT 30 0 [(7, bool false)], h := [.var v2, .var [int 120], .var [int m'], .var v2, .var [Dm (CG 239) [] [.ref (.ptr 4 0)]], .defd, .loop Ee (some Fj) 0 (mkT 23 0 [(2, .ref (.ptr 1 0)), (3, .ref (.ptr 2 0)), (7, Dm (CG 240) [] v5)]) { toList := [8, 9] } (aI (sub CJ 0)) (ar (sub CJ 0)), .var v4], m := [] }) (e := Dv) pok [.st (.mask [7]), .st (.trim 8)] [.b true, .row [vi y.op, vi y.c, vs y.nm, vi y.n, vi y.d, Dp.sl y.ks], .call (bool false) v0, .b true] (by kernel_rfl) (.c hlt (.c hr (.c (show Ev B7 Γk 239 [D.agg v3, int (Cc B8 (dep + 1)), .ref (.yl 6), .ref (.ptr 4 0)] v1 (bool false) v0 from (Cj (Ev.frameX (args := [D.agg v3, int (Cc B8 (dep + 1)), .ref (.yl 6), .ref (.ptr 4 0)]) (H := v1) [0, 1, 2, 3, 4, 5, 6] (@hk) (by kernel_rfl) (by kernel_rfl) (by kernel_rfl) trivial trivial) (by kernel_rfl) (by kernel_rfl))) (.c (show (!false) = true from rfl) .n))))) (by rfl) (by rfl)
theorem AU {x r0 : RuF} {dep m m0 : Int} {i : Nat} (hlt : decide ((i : Int) < (x.ks.length : Int)) = false) : (CW B7 Γk (ckH r0 0 m0 .ready none) false (sub GQ 0) (wkS x r0 dep m i) (.exit 0) { t := mkT 30 0 [(7, bool false)], h := ckH r0 0 m .ready none ++ [.var (x.l)], m := [] }) := by
 let v0 : List D := [int r0.op, int r0.c, al r0.nm, int r0.n, int r0.d, ab r0.ks]
 exact Ct (Cu (s' := { t := mkT 30 0 [(7, bool false)], h := [.var v0, .var [int 0], .var [int m], .var v0, .var [Dm (CG 239) [] [.ref (.ptr 4 0)]], .defd, .loop CM none 0 (mkT 23 0 [(2, .ref (.ptr 1 0)), (3, .ref (.ptr 2 0)), (7, Dm (CG 240) [] [.ref (.ptr 4 0), .ref (.ptr 3 0)])]) { toList := [8, 9] } (aI (sub CJ 0)) (ar (sub CJ 0)), .var [int x.op, int x.c, al x.nm, int x.n, int x.d, ab x.ks]], m := [] }) (e := CE 0) pok [.st (.mask [7]), .st (.trim 8)] [.b false] (by kernel_rfl) (.c hlt .n)) (by rfl) (by rfl)
def RuleT.fl : RuleT → RuF
 | .mk op c nm n d ks => ⟨op, c, nm, n, d, cN ks⟩
theorem RuleT.fl_row (r : RuleT) : r.fl.row = r.row := by cases r; rfl
theorem RuleT.fl_ok {r : RuleT} (h : r.ok) : r.fl.ok := by cases r; simp only [RuleT.ok] at h; exact ⟨h.1.2.2.1, h.1.2.2.2.1⟩
noncomputable def wkFin (x r0 : RuF) (p : Int ⊕ Int) : Exit × AS := bn (.exit 0) (fun m' => { t := mkT 30 0 [(7, bool false)], h := ckH r0 0 m' .ready none ++ [.var x.l], m := [] }) (fun m' => wkX x r0 m') p
theorem wk_cw {r0 x : RuF} {ks : List RuleT} (hx : x.ks = ks.map RuleT.row) (hl : am ks) {dep m m0 : Int} (hk : ∀ k ∈ ks, ∀ m, Ev B7 Γk 239 [.agg k.fl.l, int (B8.wrap (dep + 1)), .ref (.yl 6), .ref (.ptr 4 0)] (ckH r0 0 m .ready none) (bool (!(k.walk (B8.wrap (dep + 1)) m).2)) (AQ r0 (k.walk (B8.wrap (dep + 1)) m).1 (k.walk (B8.wrap (dep + 1)) m).2)) :
  CW B7 Γk (ckH r0 0 m0 .ready none) false (.loop (sub GQ 0)) (wkS x r0 dep m 0) (wkFin x r0 (forL (wkF (B8.wrap (dep + 1))) ks m)).1 (wkFin x r0 (forL (wkF (B8.wrap (dep + 1))) ks m)).2 := by
 refine CW.each ks (wkF (B8.wrap (dep + 1))) (fun i m => wkS x r0 dep m (i : Int)) (.exit 0) _ (fun m' => wkX x r0 m') (fun _ _ => True) (by simp) (fun _ => by simp) ?_ ?_ m trivial
 ·intro i k m hki _
  have hi := (Ce.1 hki).1
  have hr : aH (i : Int) x.ks k.fl.row 6 := by rw [hx, k.fl_row]; exact rowAt hki (by cases k; rfl)
  have hlt : decide ((i : Int) < (x.ks.length : Int)) = true := by rw [hx]; exact lt_len _ hi
  have hev := hk k (CS hki) m
  refine ⟨fun _ _ => trivial, ?_⟩
  simp only [wkF]
  cases hw : k.walk (B8.wrap (dep + 1)) m with
  | mk m' b =>
   rw [hw] at hev
   cases b with
   | true => exact yf hr hlt hev
   | false => exact ye hr hlt (wrap_succ hi hl) hev
 ·intro m _
  exact AU (by rw [hx]; exact bM _ ks)
theorem walkA {r0 x : RuF} {dep m m' : Int} (hi : Iv B7 Γk (.ref (.yl 6)) [int dep, .agg x.l] (ckH r0 0 m .ready none ++ [.var x.l]) (bool false) (ckH r0 120 m' .done (some .ret) ++ [.var x.l, .var x.l])) : (Ev B7 Γk 239 [.agg x.l, int dep, .ref (.yl 6), .ref (.ptr 4 0)] (ckH r0 0 m .ready none) (bool false) (ckH r0 120 m' .done (some .ret))) := by
 let v0 : List D := [int r0.op, int r0.c, al r0.nm, int r0.n, int r0.d, ab r0.ks]
 let v1 : List D := [int x.op, int x.c, al x.nm, int x.n, int x.d, ab x.ks]
 exact Cj (Ev.symT (h' := [.var v0, .var [int 120], .var [int m'], .var v0, .var [Dm (CG 239) [] [.ref (.ptr 4 0)]], .defd, .loop Ee (some Fj) 0 (mkT 23 0 [(2, .ref (.ptr 1 0)), (3, .ref (.ptr 2 0)), (7, Dm (CG 240) [] [.ref (.ptr 4 0), .ref (.ptr 3 0)])]) { toList := [8, 9] } (aI (sub CJ 0)) (ar (sub CJ 0))]) (d := bool false) pok [.inv (bool false) [.var v0, .var [int 120], .var [int m'], .var v0, .var [Dm (CG 239) [] [.ref (.ptr 4 0)]], .defd, .loop Ee (some Fj) 0 (mkT 23 0 [(2, .ref (.ptr 1 0)), (3, .ref (.ptr 2 0)), (7, Dm (CG 240) [] [.ref (.ptr 4 0), .ref (.ptr 3 0)])]) { toList := [8, 9] } (aI (sub CJ 0)) (ar (sub CJ 0)), .var v1, .var v1], .b true] (by kernel_rfl) (.c (@hi) (.c (show (!false) = true from rfl) .n))) (by rfl) (by rfl)
def tC : Int ⊕ Int → Int × Bool
 | .inl m => (m, false)
 | .inr m => (m, true)
theorem yg (dep : Int) (ks : List RuleT) (m : Int) : tC (forL (wkF dep) ks m) = walkL ks dep m := by
 rw [l8]
 cases walkL ks dep m with
 | mk m' b => cases b <;> rfl
noncomputable abbrev sD (r0 : RuF) (x : RuF) (m' : Int) : List Blk := [.var [int r0.op, int r0.c, al r0.nm, int r0.n, int r0.d, ab r0.ks], .var [int 0], .var [int m'], .var [int r0.op, int r0.c, al r0.nm, int r0.n, int r0.d, ab r0.ks], .var [Dm (CG 239) [] [.ref (.ptr 4 0)]], .defd, .loop CM none 0 (mkT 23 0 [(2, .ref (.ptr 1 0)), (3, .ref (.ptr 2 0)), (7, Dm (CG 240) [] [.ref (.ptr 4 0), .ref (.ptr 3 0)])]) { toList := [8, 9] } (aI (sub CJ 0)) (ar (sub CJ 0)), .var [int x.op, int x.c, al x.nm, int x.n, int x.d, ab x.ks], .var [int x.op, int x.c, al x.nm, int x.n, int x.d, ab x.ks]]
theorem walkB {r0 x : RuF} {ks : List RuleT} (hx : x.ks = ks.map RuleT.row) (hl : am ks) {dep m m' : Int} (hi : Iv B7 Γk (.ref (.yl 6)) [int dep, .agg x.l] (ckH r0 0 m .ready none ++ [.var x.l]) (bool true) (ckH r0 0 m' .ready none ++ [.var x.l, .var x.l]))
  (hk : ∀ k ∈ ks, ∀ m, Ev B7 Γk 239 [.agg k.fl.l, int (B8.wrap (dep + 1)), .ref (.yl 6), .ref (.ptr 4 0)] (ckH r0 0 m .ready none) (bool (!(k.walk (B8.wrap (dep + 1)) m).2)) (AQ r0 (k.walk (B8.wrap (dep + 1)) m).1 (k.walk (B8.wrap (dep + 1)) m).2)) : (Ev B7 Γk 239 [.agg x.l, int dep, .ref (.yl 6), .ref (.ptr 4 0)] (ckH r0 0 m .ready none) (bool (!(tC (forL (wkF (B8.wrap (dep + 1))) ks m')).2)) (AQ r0 (tC (forL (wkF (B8.wrap (dep + 1))) ks m')).1 (tC (forL (wkF (B8.wrap (dep + 1))) ks m')).2)) := by
 have hl0 := (@wk_cw (r0) (x) (ks) (hx) (hl) (dep) (m') (m) (hk))
 revert hl0
 cases ho1 : forL (wkF (Cc B8 (dep + 1))) ks m' with
 | inl o1_0_0 =>
  intro hl0
  let v0 : List D := [int r0.op, int r0.c, al r0.nm, int r0.n, int r0.d, ab r0.ks]
  refine Cj (Ev.symT (h' := [.var v0, .var [int 0], .var [int o1_0_0], .var v0, .var [Dm (CG 239) [] [.ref (.ptr 4 0)]], .defd, .loop CM none 0 (mkT 23 0 [(2, .ref (.ptr 1 0)), (3, .ref (.ptr 2 0)), (7, Dm (CG 240) [] [.ref (.ptr 4 0), .ref (.ptr 3 0)])]) { toList := [8, 9] } (aI (sub CJ 0)) (ar (sub CJ 0))]) (d := bool true) pok [.inv (bool true) (sD r0 x m'), .b false, .st (.trim 8), .sum [1, 2, 3, 7, 16, 17, 18] (CE 0) { t := mkT 30 0 [(7, bool false)], h := [.var v0, .var [int 0], .var [int o1_0_0], .var v0, .var [Dm (CG 239) [] [.ref (.ptr 4 0)]], .defd, .loop CM none 0 (mkT 23 0 [(2, .ref (.ptr 1 0)), (3, .ref (.ptr 2 0)), (7, Dm (CG 240) [] [.ref (.ptr 4 0), .ref (.ptr 3 0)])]) { toList := [8, 9] } (aI (sub CJ 0)) (ar (sub CJ 0)), .var [int x.op, int x.c, al x.nm, int x.n, int x.d, ab x.ks]], m := [] }] (by kernel_rfl) (.c (@hi) (.c (show (!true) = false from rfl) (.c hl0 .n)))) ?_ ?_ <;> subst v0 <;> (first | rfl | (simp only [ho1, tC, AQ]; rfl))
 | inr o1_1_0 =>
  intro hl0
  let v0 : List D := [int r0.op, int r0.c, al r0.nm, int r0.n, int r0.d, ab r0.ks]
  refine Cj (Ev.symT (h' := [.var v0, .var [int 120], .var [int o1_1_0], .var v0, .var [Dm (CG 239) [] [.ref (.ptr 4 0)]], .defd, .loop Ee (some Fj) 0 (mkT 23 0 [(2, .ref (.ptr 1 0)), (3, .ref (.ptr 2 0)), (7, Dm (CG 240) [] [.ref (.ptr 4 0), .ref (.ptr 3 0)])]) { toList := [8, 9] } (aI (sub CJ 0)) (ar (sub CJ 0))]) (d := bool false) pok [.inv (bool true) (sD r0 x m'), .b false, .st (.trim 8), .sum [1, 2, 3, 7, 16, 17, 18] (Dv) { t := mkT 30 0 [(7, bool false)], h := [.var v0, .var [int 120], .var [int o1_1_0], .var v0, .var [Dm (CG 239) [] [.ref (.ptr 4 0)]], .defd, .loop Ee (some Fj) 0 (mkT 23 0 [(2, .ref (.ptr 1 0)), (3, .ref (.ptr 2 0)), (7, Dm (CG 240) [] [.ref (.ptr 4 0), .ref (.ptr 3 0)])]) { toList := [8, 9] } (aI (sub CJ 0)) (ar (sub CJ 0)), .var [int x.op, int x.c, al x.nm, int x.n, int x.d, ab x.ks]], m := [] }] (by kernel_rfl) (.c (@hi) (.c (show (!true) = false from rfl) (.c hl0 .n)))) ?_ ?_ <;> subst v0 <;> (first | rfl | (simp only [ho1, tC, AQ]; rfl))
end Go.Vi
open Go Go.Proofs
namespace Go.Vi
set_option maxRecDepth 100000
set_option maxHeartbeats 4000000
theorem sF (r0 : RuF) : ∀ (r : RuleT), r.ok → ∀ (dep m : Int), Ev B7 Γk 239 [.agg r.fl.l, int dep, .ref (.yl 6), .ref (.ptr 4 0)] (ckH r0 0 m .ready none) (bool (!(r.walk dep m).2)) (AQ r0 (r.walk dep m).1 (r.walk dep m).2)
 | .mk op c nm n d ks, hr, dep, m => by
  have hok := RuleT.fl_ok hr
  simp only [RuleT.ok] at hr
  have hiv := AR (r0 := r0) (m := m) (dep := dep) hok
  have hlen : ((RuleT.mk op c nm n d ks).fl.ks.length : Int) = ks.length := by simp [RuleT.fl, eI]
  have hf : (RuleT.mk op c nm n d ks).fl.formed = ah op c n d ks.length := by
   show ah op c n d ((RuleT.mk op c nm n d ks).fl.ks.length : Int) = _
   rw [hlen]
  rw [hf] at hiv
  simp only [RuleT.walk]
  cases hs : gO (B8.wrap (m + 1)) dep (ah op c n d ks.length) with
  | true =>
   rw [hs] at hiv
   exact walkA hiv
  | false =>
   rw [hs] at hiv
   have := walkB (r0 := r0) (x := (RuleT.mk op c nm n d ks).fl) (ks := ks) (eI ks) hr.1.2.2.2.2 (m := m) (dep := dep) hiv (fun k hk m => sF r0 k (dF hr.2 k hk) _ m)
   rw [yg] at this
   exact this
termination_by r => SizeOf.sizeOf r
decreasing_by
 have := List.sizeOf_lt_of_mem hk
 simp only [RuleT.mk.sizeOf_spec]
 omega
noncomputable abbrev gP (x : RuF) (m' : Int) : List Blk := [.var [int x.op, int x.c, al x.nm, int x.n, int x.d, ab x.ks], .var [int 120], .var [int m'], .var [int x.op, int x.c, al x.nm, int x.n, int x.d, ab x.ks], .var [Dm (CG 239) [] [.ref (.ptr 4 0)]], .defd, .loop Ee (some Fj) 0 (mkT 23 0 [(2, .ref (.ptr 1 0)), (3, .ref (.ptr 2 0)), (7, Dm (CG 240) [] [.ref (.ptr 4 0), .ref (.ptr 3 0)])]) { toList := [8, 9] } (aI (sub CJ 0)) (ar (sub CJ 0))]
theorem tD {x : RuF} {m' : Int} (hk : Ev B7 Γk 239 [.agg x.l, int 1, .ref (.yl 6), .ref (.ptr 4 0)] (ckH x 0 0 .ready none) (bool false) (ckH x 120 m' .done (some .ret))) : (Ev B7 Γk 240 [.ref (.yl 6), .ref (.ptr 4 0), .ref (.ptr 3 0)] (ckH x 0 0 .ready none) (.tup []) (ckH x 120 m' .done (some .ret))) := by
 exact Cj (EH (h' := (gP x m')) (d := D.tup []) pok [.call (bool false) (gP x m')] (by kernel_rfl) (.c (@hk) .n)) (by rfl) (by rfl)
noncomputable abbrev gQ (x : RuF) (m' : Int) : List Blk := [.var [int x.op, int x.c, al x.nm, int x.n, int x.d, ab x.ks], .var [int 0], .var [int m'], .var [int x.op, int x.c, al x.nm, int x.n, int x.d, ab x.ks], .var [Dm (CG 239) [] [.ref (.ptr 4 0)]], .defd, .loop CM none 0 (mkT 23 0 [(2, .ref (.ptr 1 0)), (3, .ref (.ptr 2 0)), (7, Dm (CG 240) [] [.ref (.ptr 4 0), .ref (.ptr 3 0)])]) { toList := [8, 9] } (aI (sub CJ 0)) (ar (sub CJ 0))]
theorem tE {x : RuF} {m' : Int} (hk : Ev B7 Γk 239 [.agg x.l, int 1, .ref (.yl 6), .ref (.ptr 4 0)] (ckH x 0 0 .ready none) (bool true) (ckH x 0 m' .ready none)) : (Ev B7 Γk 240 [.ref (.yl 6), .ref (.ptr 4 0), .ref (.ptr 3 0)] (ckH x 0 0 .ready none) (.tup []) (ckH x 0 m' .ready none)) := by
 exact Cj (EH (h' := (gQ x m')) (d := D.tup []) pok [.call (bool true) (gQ x m')] (by kernel_rfl) (.c (@hk) .n)) (by rfl) (by rfl)
abbrev ckH0 (r : RuF) : List Blk := [.var r.l, .var [int 0], .var [int 0], .var r.l, .var [.fn (.func 239) [] [.ref (.ptr 4 0)]]]
theorem ckT_rf {x : RuF} {m' : Int} (hk : Ev B7 Γk 239 [.agg x.l, int 1, .ref (.yl 6), .ref (.ptr 4 0)] (ckH x 0 0 .ready none) (bool false) (ckH x 120 m' .done (some .ret))) :
  CW B7 Γk [] false (sub CJ 0) { t := ckT, h := ckH0 x, m := [] } .ret { t := ckT, h := ckH x 120 m' .exhausted (some .ret), m := [5] } :=
 Hp (f := 240) (fi := []) (ca := [.ref (.ptr 4 0), .ref (.ptr 3 0)]) pok (s := { t := ckT, h := ckH0 x, m := [] }) (g := .tmp 7) (ps := #[8, 9]) (asg := aI (sub CJ 0)) (body := ar (sub CJ 0)) rfl (by kernel_rfl) (tD hk) rfl
theorem ckF_rf {x : RuF} {m' : Int} (hk : Ev B7 Γk 239 [.agg x.l, int 1, .ref (.yl 6), .ref (.ptr 4 0)] (ckH x 0 0 .ready none) (bool true) (ckH x 0 m' .ready none)) :
  CW B7 Γk [] false (sub CJ 0) { t := ckT, h := ckH0 x, m := [] } .normal { t := ckT, h := ckH x 0 m' .exhausted none, m := [5] } :=
 Hp (f := 240) (fi := []) (ca := [.ref (.ptr 4 0), .ref (.ptr 3 0)]) pok (s := { t := ckT, h := ckH0 x, m := [] }) (g := .tmp 7) (ps := #[8, 9]) (asg := aI (sub CJ 0)) (body := ar (sub CJ 0)) rfl (by kernel_rfl) (tE hk) rfl
def RuleT.bad (r : RuleT) : Bool := (r.walk 1 0).2
noncomputable def AV (x : RuF) (p : Int × Bool) : Exit × AS := match p.2 with
 | true => (.ret, { t := ckT, h := ckH x 120 p.1 .exhausted (some .ret), m := [5] })
 | false => (.normal, { t := ckT, h := ckH x 0 p.1 .exhausted none, m := [5] })
theorem yh {r : RuleT} (hr : r.ok) {x : RuF} (hx : x = r.fl) : CW B7 Γk [] false (sub CJ 0) { t := ckT, h := ckH0 x, m := [] } (AV x (r.walk 1 0)).1 (AV x (r.walk 1 0)).2 := by
 subst hx
 have hk := sF r.fl r hr 1 0
 unfold AV
 cases h : r.walk 1 0 with
 | mk m' b =>
  rw [h] at hk
  cases b with
  | true => exact ckT_rf hk
  | false => exact ckF_rf hk
def bF (b : Bool) : Int := match b with | true => 120 | false => 0
theorem AW {r : RuleT} (hr : r.ok) {x : RuF} (hx : x = r.fl) (h : List Blk) : (Ev B7 Γk 226 [.agg x.l] h (int (bF r.bad)) h) := by
 have hl0 := (@yh (r) (hr) (x) (hx))
 revert hl0
 cases ho1 : RuleT.walk r 1 0 with
 | mk o1_0_0 o1_0_1 =>
  intro hl0
  revert hl0
  cases ho2 : o1_0_1 with
  | false =>
   intro hl0
   exact Cj (Cn (d := int 0) pok [.inl, .sum [2, 3, 7] (Cq) { t := mkT 23 0 [(2, .ref (.ptr 1 0)), (3, .ref (.ptr 2 0)), (7, Dm (CG 240) [] [.ref (.ptr 4 0), .ref (.ptr 3 0)])], h := [.var [int x.op, int x.c, al x.nm, int x.n, int x.d, ab x.ks], .var [int 0], .var [int o1_0_0], .var [int x.op, int x.c, al x.nm, int x.n, int x.d, ab x.ks], .var [Dm (CG 239) [] [.ref (.ptr 4 0)]], .defd, .loop C2 none 0 (mkT 23 0 [(2, .ref (.ptr 1 0)), (3, .ref (.ptr 2 0)), (7, Dm (CG 240) [] [.ref (.ptr 4 0), .ref (.ptr 3 0)])]) { toList := [8, 9] } (aI (sub CJ 0)) (ar (sub CJ 0))], m := [5] }] (by kernel_rfl) (.c hl0 .n) rfl rfl h) (by simp [RuleT.bad, bF, ho1, ho2]) (by rfl)
  | true =>
   intro hl0
   exact Cj (Cn (d := int 120) pok [.inl, .sum [2, 3, 7] (Dv) { t := mkT 23 0 [(2, .ref (.ptr 1 0)), (3, .ref (.ptr 2 0)), (7, Dm (CG 240) [] [.ref (.ptr 4 0), .ref (.ptr 3 0)])], h := [.var [int x.op, int x.c, al x.nm, int x.n, int x.d, ab x.ks], .var [int 120], .var [int o1_0_0], .var [int x.op, int x.c, al x.nm, int x.n, int x.d, ab x.ks], .var [Dm (CG 239) [] [.ref (.ptr 4 0)]], .defd, .loop C2 (some Fj) 0 (mkT 23 0 [(2, .ref (.ptr 1 0)), (3, .ref (.ptr 2 0)), (7, Dm (CG 240) [] [.ref (.ptr 4 0), .ref (.ptr 3 0)])]) { toList := [8, 9] } (aI (sub CJ 0)) (ar (sub CJ 0))], m := [5] }] (by kernel_rfl) (.c hl0 .n) rfl rfl h) (by simp [RuleT.bad, bF, ho1, ho2]) (by rfl)
theorem gR {r : RuleT} (hr : r.ok) (h : List Blk) : Ev B7 Γk 226 [.agg r.fl.l] h (int (bF r.bad)) h := by
 exact AW hr rfl h
end Go.Vi
