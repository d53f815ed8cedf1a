/- RecordAdds: part of the proof: contracts of the functions that the law reaches, and the law. No conditions beyond the given statement's own. -/
import Derived.Test.YtilebidefogaiaaGreatDoorV8
import Derived.Test.YtilebidefogaiaaGreatDoorChecked
import Derived.Test.YtilebidefogaiaaGreatDoorCards
import Derived.Test.YtilebidefogaiaaGreatDoorTie
import Derived.WalkKit
import Derived.ProofKit
import Derived.OpenShut
import Derived.Deep.DeepHandedRow
import Derived.Lib.LaidTab
open Go Go.Proofs
namespace Go.Vi
theorem pok_of {P : Program} (h1 : P.follows .mixedOrders = true) (h2 : (P.funcs.toList.all fun fn => !(fn.name == "runtime.NumGoroutine")) = true) : POk P where
 mixed := h1
 plain f fn hf := by
  have := List.all_eq_true.1 h2 fn (by rw [← Array.getElem?_toList] at hf; exact List.mem_of_getElem? hf)
  simpa using this
abbrev int (n : Int) : D := lit (.int .i64 n)
abbrev u64 (n : Int) : D := lit (.int .u64 n)
abbrev bool (b : Bool) : D := lit (.bool b)
abbrev vi (n : Int) : Dp := .v (.int .i64 n)
abbrev vs (s : ByteArray) : Dp := .v (.string s)
abbrev ai (s : ByteArray) : D := lit (.string s)
abbrev ab (es : List (List Dp)) : D := .p (.sl es)
abbrev ag (r : List Dp) : D := .agg (r.map .p)
abbrev nq : D := lit (.slice none 0 0)
abbrev fq (k : Nat) : D := lit (.func (.func k) #[] #[])
abbrev Γ0 : al := fun _ => none
theorem pok : POk Tryz.prog := pok_of (by kernel_rfl) (by kernel_rfl)
end Go.Vi
open Go Go.Proofs
namespace Go.Vi
set_option maxRecDepth 100000
def I64 (n : Int) : Prop := -9223372036854775808 ≤ n ∧ n ≤ 9223372036854775807
theorem u64_neg {n : Int} (h : I64 n) (hn : n < 0) : IntKind.u64.wrap (0 - IntKind.u64.wrap n) = (n.natAbs : Int) := by
 obtain ⟨h1, h2⟩ := h
 simp only [IntKind.wrap, IntKind.bits, IntKind.signed, Bool.false_and, Bool.false_eq_true, if_false]
 omega
theorem u64_pos {n : Int} (h : I64 n) (hn : ¬ n < 0) : IntKind.u64.wrap n = (n.natAbs : Int) := by
 obtain ⟨h1, h2⟩ := h
 simp only [IntKind.wrap, IntKind.bits, IntKind.signed, Bool.false_and, Bool.false_eq_true, if_false]
 omega
theorem size_ev {n : Int} (hn : I64 n) (h : List Blk) : Ev Tryz.prog Γ0 147 [int n] h (u64 n.natAbs) h := by
 by_cases h0 : n < 0
 ·rw [← u64_neg hn h0]
  exact Ev.sym0 pok (φ := [decide (n < 0) = true]) [.b true] (by kernel_rfl) ⟨by simpa using h0, trivial⟩ rfl rfl h
 ·rw [← u64_pos hn h0]
  exact Ev.sym0 pok (φ := [decide (n < 0) = false]) [.b false] (by kernel_rfl) ⟨by simpa using h0, trivial⟩ rfl rfl h
abbrev cU : Blk := .var [.fn (.func 146) [] [.ref (.ptr 0 0)]]
theorem step_ev : ∀ (y x : Nat), Ev Tryz.prog Γ0 146 [u64 x, u64 y, .ref (.ptr 0 0)] [cU] (u64 (Nat.gcd y x)) [cU] := by
 intro y
 induction y using Nat.strongRecOn with
 | _ y ih =>
  intro x
  by_cases h0 : y = 0
  ·subst h0
   rw [Nat.gcd_zero_left]
   exact Ev.of_sym pok (φ := [((0 : Int) == 0) = true]) [.b true] (by kernel_rfl) ⟨by simp, trivial⟩
  ·have hi := ih (x % y) (Nat.mod_lt _ (by omega)) y
   rw [← Nat.gcd_rec] at hi
   refine Ev.of_sym pok (φ := [((y : Int) == 0) = false, (!decide ((y : Int) = 0)) = true, Ev Tryz.prog Γ0 146 [u64 y, u64 ((x : Int).tmod y), .ref (.ptr 0 0)] [cU] (u64 (Nat.gcd y x)) [cU]]) [.b false, .val (u64 (Nat.gcd y x))] (by kernel_rfl) ⟨?_, ?_, ?_, trivial⟩
   ·simp; omega
   ·simp; omega
   ·rw [show (x : Int).tmod y = ((x % y : Nat) : Int) by rw [Int.tmod_eq_emod_of_nonneg (by omega)]; simp]
    exact hi
theorem common_ev {a b : Int} (ha : I64 a) (hb : I64 b) (h : List Blk) : Ev Tryz.prog Γ0 101 [int a, int b] h (u64 (Nat.gcd b.natAbs a.natAbs)) h :=
 Ev.sym0 pok (φ := [Ev Tryz.prog Γ0 147 [int a] [cU] (u64 a.natAbs) [cU], Ev Tryz.prog Γ0 147 [int b] [cU] (u64 b.natAbs) [cU],
   Ev Tryz.prog Γ0 146 [u64 a.natAbs, u64 b.natAbs, .ref (.ptr 0 0)] [cU] (u64 (Nat.gcd b.natAbs a.natAbs)) [cU]])
  [.val (u64 a.natAbs), .val (u64 b.natAbs), .val (u64 (Nat.gcd b.natAbs a.natAbs))] (by kernel_rfl) ⟨size_ev ha _, size_ev hb _, step_ev _ _, trivial⟩ rfl rfl h
def badR (n d : Int) : Bool := decide (d < 1) || decide (d > 1073741824) || decide (n < -1073741824) || decide (n > 1073741824) || (Nat.gcd d.natAbs n.natAbs : Int) != 1
def errR (n d : Int) : Int := if badR n d then 50 else 0
theorem check_ev {n d : Int} (hn : I64 n) (hd : I64 d) (h : List Blk) : Ev Tryz.prog Γ0 49 [.agg [int n, int d]] h (int (errR n d)) h := by
 have hc := common_ev hn hd [.var [int n, int d]]
 cases hb : badR n d
 ·simp only [errR, hb]
  exact Ev.sym0 pok (φ := [(!(decide (d < 1) || decide (d > 1073741824) || decide (n < -1073741824) || decide (n > 1073741824))) = true →
    Ev Tryz.prog Γ0 101 [int n, int d] [.var [int n, int d]] (u64 (Nat.gcd d.natAbs n.natAbs)) [.var [int n, int d]], badR n d = false])
   [.val (u64 (Nat.gcd d.natAbs n.natAbs)), .b false] (by kernel_rfl) ⟨fun _ => hc, hb, trivial⟩ rfl rfl h
 ·simp only [errR, hb]
  exact Ev.sym0 pok (φ := [(!(decide (d < 1) || decide (d > 1073741824) || decide (n < -1073741824) || decide (n > 1073741824))) = true →
    Ev Tryz.prog Γ0 101 [int n, int d] [.var [int n, int d]] (u64 (Nat.gcd d.natAbs n.natAbs)) [.var [int n, int d]], badR n d = true])
   [.val (u64 (Nat.gcd d.natAbs n.natAbs)), .b true] (by kernel_rfl) ⟨fun _ => hc, hb, trivial⟩ rfl rfl h
end Go.Vi
open Go Go.Proofs
namespace Go.Vi
set_option maxRecDepth 100000
end Go.Vi
open Go Go.Proofs
namespace Go.Vi
set_option maxRecDepth 100000
set_option maxHeartbeats 20000
structure Cls where
 name : ByteArray
 earn : Int
 num : Int
 den : Int
 deriving Inhabited
def Cls.row (c : Cls) : List Dp := [vs c.name, vi c.earn, vi c.num, vi c.den]
def Cls.ok (c : Cls) : Prop := I64 c.earn ∧ I64 c.num ∧ I64 c.den
structure FeeT where
 name : ByteArray
 credits : Int
 deriving Inhabited
def FeeT.row (c : FeeT) : List Dp := [vs c.name, vi c.credits]
def ao {α : Type} (l : List α) : Prop := l.length ≤ 140737488355328
theorem getD_row {α : Type} {row : α → List Dp} {l : List α} {n : Nat} {a : α} (h : l[n]? = some a) : (l.map row).getD n [] = row a := by
 simp [List.getD_eq_getElem?_getD, h]
theorem rowAt {α : Type} {row : α → List Dp} {l : List α} {n : Nat} {a : α} {sz : Nat} (h : l[n]? = some a) (hs : (row a).length = sz) : bw (n : Int) (l.map row) (row a) sz := by
 have := (List.getElem?_eq_some_iff.1 h).1
 refine ⟨?_, getD_row h, hs⟩
 simp [inR]
 omega
end Go.Vi
open Go Go.Proofs
namespace Go.Vi
set_option maxRecDepth 100000
set_option maxHeartbeats 40000
structure Sys where
 classes : List Cls
 fees : List FeeT
 honours : List Cls
 clauses : List (List Dp)
structure Sys.ok (s : Sys) : Prop where
 c : ∀ c ∈ s.classes, c.ok
 h : ∀ c ∈ s.honours, c.ok
 f : ∀ f ∈ s.fees, I64 f.credits
 lc : ao s.classes
 lh : ao s.honours
 lf : ao s.fees
 ll : ao s.clauses
end Go.Vi
open Go Go.Proofs
namespace Go.Vi
set_option maxRecDepth 100000
set_option maxHeartbeats 40000
theorem isNaN_ev (a : Int) (h : List Blk) : Ev Tryz.prog Γ0 123 [int a] h (bool false) h := by
 have := Ev.sym0 (P := Tryz.prog) (Γ := Γ0) (f := 123) (args := [int a]) (d := bool (a != a)) pok (φ := []) [] (by kernel_rfl) trivial rfl rfl h
 simpa using this
def aD (a b : Int) : Int := if a < b then -1 else if a > b then 1 else 0
theorem c7 (a b : Int) (h : List Blk) : Ev Tryz.prog Γ0 66 [int a, int b] h (int (aD a b)) h := by
 by_cases h1 : a < b
 ·simp only [aD, h1, if_true]
  exact Ev.sym0 pok (φ := [Ev Tryz.prog Γ0 123 [int a] [] (bool false) [], Ev Tryz.prog Γ0 123 [int b] [] (bool false) [], false = false, false = false, decide (a < b) = true])
   [.val (bool false), .val (bool false), .b false, .b false, .b true] (by kernel_rfl) ⟨isNaN_ev _ _, isNaN_ev _ _, rfl, rfl, decide_eq_true h1, trivial⟩ rfl rfl h
 ·by_cases h2 : a > b
  ·simp only [aD, h1, h2, if_true, if_false]
   exact Ev.sym0 pok (φ := [Ev Tryz.prog Γ0 123 [int a] [] (bool false) [], Ev Tryz.prog Γ0 123 [int b] [] (bool false) [], false = false, false = false, decide (a < b) = false, decide (a > b) = true])
    [.val (bool false), .val (bool false), .b false, .b false, .b false, .b true] (by kernel_rfl) ⟨isNaN_ev _ _, isNaN_ev _ _, rfl, rfl, decide_eq_false h1, decide_eq_true h2, trivial⟩ rfl rfl h
  ·simp only [aD, h1, h2, if_false]
   exact Ev.sym0 pok (φ := [Ev Tryz.prog Γ0 123 [int a] [] (bool false) [], Ev Tryz.prog Γ0 123 [int b] [] (bool false) [], false = false, false = false, decide (a < b) = false, decide (a > b) = false])
    [.val (bool false), .val (bool false), .b false, .b false, .b false, .b false] (by kernel_rfl) ⟨isNaN_ev _ _, isNaN_ev _ _, rfl, rfl, decide_eq_false h1, decide_eq_false h2, trivial⟩ rfl rfl h
end Go.Vi
open Go Go.Proofs
namespace Go.Vi
set_option maxRecDepth 100000
set_option maxHeartbeats 40000
theorem wrap_succ {i n : Nat} (h : i < n) (hn : n ≤ 140737488355328) : IntKind.i64.wrap ((i : Int) + 1) = ((i + 1 : Nat) : Int) := by
 rw [wrap_i64 (by omega) (by omega)]; omega
theorem lt_len {α : Type} (row : α → List Dp) {l : List α} {i : Nat} (h : i < l.length) : decide ((i : Int) < ((l.map row).length : Int)) = true := by simp; omega
theorem fa {α : Type} (row : α → List Dp) (l : List α) : decide ((l.length : Int) < ((l.map row).length : Int)) = false := by simp
end Go.Vi
open Go Go.Proofs
namespace Go.Vi
set_option maxRecDepth 100000
set_option maxHeartbeats 40000
def few (s : Vi.Sys) : Bool := decide (IntKind.i64.wrap (IntKind.i64.wrap (IntKind.i64.wrap (((s.classes.map Cls.row).length : Int) + ((s.fees.map FeeT.row).length : Int)) + ((s.honours.map Cls.row).length : Int)) + (s.clauses.length : Int)) ≤ 40)
end Go.Vi
open Go Go.Proofs
namespace Go.Vi
set_option maxRecDepth 100000
end Go.Vi
open Go Go.Proofs
namespace Go.Vi
set_option maxRecDepth 100000
set_option maxHeartbeats 0
end Go.Vi
open Go Go.Proofs
namespace Go.Vi
set_option maxRecDepth 100000
set_option maxHeartbeats 400000
end Go.Vi
open Go Go.Proofs
namespace Go.Vi
open Go.ChangeShapes Go.WideShapes Go.ChangeAt Go.RowKit Go.Proofs.YtilebidefogaiaaGreatDoor
set_option maxRecDepth 100000
theorem cells3 : Tryz.prog.cellsOf 3 = 1 := by kernel_rfl
theorem cells9 : Tryz.prog.cellsOf 9 = 1 := by kernel_rfl
theorem cells35 : Tryz.prog.cellsOf 35 = 2 := by kernel_rfl
theorem cells72 : Tryz.prog.cellsOf 72 = 1 := by kernel_rfl
theorem cells73 : Tryz.prog.cellsOf 73 = 1 := by kernel_rfl
theorem cells74 : Tryz.prog.cellsOf 74 = 1 := by kernel_rfl
theorem cells76 : Tryz.prog.cellsOf 76 = 4 := by kernel_rfl
theorem cells87 : Tryz.prog.cellsOf 87 = 2 := by kernel_rfl
theorem cells91 : Tryz.prog.cellsOf 91 = 4 := by kernel_rfl
theorem bytes91 : Tryz.prog.bytesOf 91 = 40 := by kernel_rfl
theorem bytes87 : Tryz.prog.bytesOf 87 = 24 := by kernel_rfl
theorem bytes102 : Tryz.prog.bytesOf 102 = 32 := by kernel_rfl
theorem ba {n : Nat} {ds : List Dp} (h : Shp Tryz.prog n 3 ds) : ∃ x, ds = [vi x] ∧ I64 x := by
 cases n with
 | zero => exact h.elim
 | succ n =>
  simp only [Shp, Tryz.underlying3] at h
  obtain ⟨x, rfl, hw⟩ := h
  refine ⟨x, rfl, ?_⟩
  have := bounds_i64 hw
  exact this
theorem shp_str {n : Nat} {ds : List Dp} (h : Shp Tryz.prog n 9 ds) : ∃ s, ds = [vs s] := by
 cases n with
 | zero => exact h.elim
 | succ n =>
  simp only [Shp, Tryz.underlying9] at h
  obtain ⟨s, rfl, _⟩ := h
  exact ⟨s, rfl⟩
theorem shp_ratio {n : Nat} {ds : List Dp} (h : Shp Tryz.prog n 35 ds) : ∃ a b, ds = [vi a, vi b] ∧ I64 a ∧ I64 b := by
 cases n with
 | zero => exact h.elim
 | succ n =>
  simp only [Shp, Tryz.underlying35, List.forall_mem_cons, cells3, cells35] at h
  obtain ⟨hl, h1, h2, _⟩ := h
  obtain ⟨a, e1, ha⟩ := ba h1
  obtain ⟨b, e2, hb⟩ := ba h2
  match ds, hl with
  | [x, y], _ =>
   simp at e1 e2
   subst e1; subst e2
   exact ⟨a, b, rfl, ha, hb⟩
theorem shp_class {n : Nat} {ds : List Dp} (h : Shp Tryz.prog n 91 ds) : ∃ c : Cls, ds = c.row ∧ c.ok := by
 cases n with
 | zero => exact h.elim
 | succ n =>
  simp only [Shp, Tryz.underlying91, List.forall_mem_cons, cells3, cells9, cells35, cells91] at h
  obtain ⟨hl, h1, h2, h3, _⟩ := h
  obtain ⟨s, e1⟩ := shp_str h1
  obtain ⟨x, e2, hx⟩ := ba h2
  obtain ⟨a, b, e3, ha, hb⟩ := shp_ratio h3
  match ds, hl with
  | [p, q, r, t], _ =>
   simp at e1 e2 e3
   obtain ⟨rfl, rfl⟩ := e3
   subst e1; subst e2
   exact ⟨⟨s, x, a, b⟩, rfl, hx, ha, hb⟩
theorem shp_fee {n : Nat} {ds : List Dp} (h : Shp Tryz.prog n 87 ds) : ∃ c : FeeT, ds = c.row ∧ I64 c.credits := by
 cases n with
 | zero => exact h.elim
 | succ n =>
  simp only [Shp, Tryz.underlying87, List.forall_mem_cons, cells3, cells9, cells87] at h
  obtain ⟨hl, h1, h2, _⟩ := h
  obtain ⟨s, e1⟩ := shp_str h1
  obtain ⟨x, e2, hx⟩ := ba h2
  match ds, hl with
  | [p, q], _ =>
   simp at e1 e2
   subst e1; subst e2
   exact ⟨⟨s, x⟩, rfl, hx⟩
theorem map_of {α : Type} {row : α → List Dp} {ok : α → Prop} : ∀ {es : List (List Dp)}, (∀ r ∈ es, ∃ a, r = row a ∧ ok a) → ∃ l : List α, es = l.map row ∧ ∀ a ∈ l, ok a
 | [], _ => ⟨[], rfl, by simp⟩
 | r :: es, h => by
  obtain ⟨a, rfl, ha⟩ := h r (List.mem_cons_self ..)
  obtain ⟨l, rfl, hl⟩ := map_of (fun r hr => h r (List.mem_cons_of_mem _ hr))
  exact ⟨a :: l, rfl, fun b hb => (List.mem_cons.1 hb).elim (fun e => e ▸ ha) (hl b)⟩
theorem short_of {n k : Nat} (h : n * k ≤ reachBytes) (hk : 1 ≤ k) : n ≤ 140737488355328 := by
 have : n ≤ n * k := Nat.le_mul_of_pos_right n hk
 unfold reachBytes at h
 omega
theorem shp_classes {n : Nat} {ds : List Dp} (h : Shp Tryz.prog n 72 ds) : ∃ l : List Cls, ds = [.sl (l.map Cls.row)] ∧ (∀ c ∈ l, c.ok) ∧ ao l := by
 cases n with
 | zero => exact h.elim
 | succ n =>
  simp only [Shp, Tryz.underlying72, bytes91] at h
  obtain ⟨es, rfl, hb, he⟩ := h
  obtain ⟨l, rfl, hl⟩ := map_of (row := Cls.row) (ok := Cls.ok) (fun r hr => shp_class (he r hr))
  exact ⟨l, rfl, hl, by have := short_of hb (by omega); simpa [ao] using this⟩
theorem shp_fees {n : Nat} {ds : List Dp} (h : Shp Tryz.prog n 73 ds) : ∃ l : List FeeT, ds = [.sl (l.map FeeT.row)] ∧ (∀ c ∈ l, I64 c.credits) ∧ ao l := by
 cases n with
 | zero => exact h.elim
 | succ n =>
  simp only [Shp, Tryz.underlying73, bytes87] at h
  obtain ⟨es, rfl, hb, he⟩ := h
  obtain ⟨l, rfl, hl⟩ := map_of (row := FeeT.row) (ok := fun c => I64 c.credits) (fun r hr => shp_fee (he r hr))
  exact ⟨l, rfl, hl, by have := short_of hb (by omega); simpa [ao] using this⟩
end Go.Vi
open Go Go.Proofs
namespace Go.Vi
open Go.ChangeShapes Go.WideShapes Go.ChangeAt Go.RowKit Go.Proofs.YtilebidefogaiaaGreatDoor
set_option maxRecDepth 100000
theorem ownK : ownKnob Tryz.prog.godebug = none := by kernel_rfl
theorem laidOut : laidOutB Tryz.prog = true := by kernel_rfl
def kd (a b c d : Bool) (f g : Value) : List Value := [.bool a, .bool b, .bool c, .bool d, f, g]
def kf (k : Nat) : Value := .func (.func k) #[] #[]
def kindsCells : List Value :=
 kd false false false false .nilFunc .nilFunc ++ kd false false false true (kf 257) (kf 258) ++ kd false false false true (kf 259) (kf 260) ++ kd false true false true (kf 261) (kf 262) ++
 kd false false false true (kf 263) (kf 264) ++ kd true true false false (kf 265) (kf 267) ++ kd true true false false (kf 269) (kf 270) ++ kd false true false false (kf 271) (kf 272) ++
 kd false true true false (kf 273) (kf 274) ++ kd true false false false (kf 266) (kf 275)
noncomputable def laidWorld (os : Os) : World :=
 { World.holding Tryz.prog os ⟨#[], #[], []⟩ with heap := (World.holding Tryz.prog os ⟨#[], #[], []⟩).heap.modify 0 fun
   | .cells _ t frozen => .cells kindsCells.toArray t frozen
   | o => o }
theorem laid_met (os : Os) (args : Array Value) : laidMetH Tryz.prog [("sizar/rules.kinds", Rows.laid_sizar_rules_kinds)] ((laidWorld os).forCall (fun _ _ => 0) ⟨#[], args, []⟩).memory :=
 laidMetH_of_parts3 (fuel := 8) (laidMet_nil _ _) (by kernel_rfl) (by kernel_rfl)
end Go.Vi
open Go Go.Proofs
namespace Go.Vi
set_option maxRecDepth 100000
set_option maxHeartbeats 4000000
structure FactT where
 kind : Int
 sub : Int
 obj : Int
 value : Int
 frm : Int
 til : Int
 known : Int
 no : Int
 deriving Inhabited
def FactT.row (f : FactT) : List Dp := [vi f.kind, vi f.sub, vi f.obj, vi f.value, vi f.frm, vi f.til, vi f.known, vi f.no]
def FactT.ok (f : FactT) : Prop := I64 f.kind ∧ I64 f.sub ∧ I64 f.obj ∧ I64 f.value ∧ I64 f.frm ∧ I64 f.til ∧ I64 f.known ∧ I64 f.no
def orI (a b : Int) : Int := if (a != 0) = true then a else if (b != 0) = true then b else 0
abbrev orR (a b : Int) : List (List Dp) := [[vi a], [vi b]]
abbrev orS (a b : Int) (i : Int) (h : List Blk) : AS := { t := mkT 18 0 [(2, int 0), (3, int 0), (6, ab (orR a b)), (7, int 2), (8, int i)], h := h, m := [] }
theorem or_0 {a b : Int} {h0 h : List Blk} (hr : bw 0 (orR a b) [vi a] 1) (hz : (a != 0) = false) : (CW Tryz.prog Γ0 h0 false (sub Tryz.f136 0) (orS a b 0 h) .normal (orS a b 1 h)) := by
 refine CW.cast (CW.symX (s' := { t := mkT 18 0 [(2, int 0), (3, int 0), (6, ab [[vi a], [vi b]]), (7, int 2), (8, int (IntKind.wrap IntKind.i64 (0 + 1)))], h := h, m := [] }) (e := Exit.normal) pok [.st (.mask [2, 3, 6, 7, 8])] [.b true, .row [vi a], .b false] (by kernel_rfl) (.c (show decide (0 < 2) = true from rfl) (.c hr (.c hz .n)))) ?_ ?_ <;> (first | rfl | simp_all)
theorem or_1 {a b : Int} {h0 h : List Blk} (hr : bw 1 (orR a b) [vi b] 1) (hz : (b != 0) = false) : (CW Tryz.prog Γ0 h0 false (sub Tryz.f136 0) (orS a b 1 h) .normal (orS a b 2 h)) := by
 refine CW.cast (CW.symX (s' := { t := mkT 18 0 [(2, int 0), (3, int 0), (6, ab [[vi a], [vi b]]), (7, int 2), (8, int (IntKind.wrap IntKind.i64 (1 + 1)))], h := h, m := [] }) (e := Exit.normal) pok [.st (.mask [2, 3, 6, 7, 8])] [.b true, .row [vi b], .b false] (by kernel_rfl) (.c (show decide (1 < 2) = true from rfl) (.c hr (.c hz .n)))) ?_ ?_ <;> (first | rfl | simp_all)
theorem or_0r {a b : Int} {h0 h : List Blk} (hr : bw 0 (orR a b) [vi a] 1) (hz : (a != 0) = true) : (CW Tryz.prog Γ0 h0 false (sub Tryz.f136 0) (orS a b 0 h) .ret { t := mkT 18 0 [(2, int a)], h := h, m := [] }) := by
 refine CW.cast (CW.symX (s' := { t := mkT 18 0 [(2, int a)], h := h, m := [] }) (e := Exit.ret) pok [.st (.mask [2])] [.b true, .row [vi a], .b true] (by kernel_rfl) (.c (show decide (0 < 2) = true from rfl) (.c hr (.c hz .n)))) ?_ ?_ <;> (first | rfl | simp_all)
theorem or_1r {a b : Int} {h0 h : List Blk} (hr : bw 1 (orR a b) [vi b] 1) (hz : (b != 0) = true) : (CW Tryz.prog Γ0 h0 false (sub Tryz.f136 0) (orS a b 1 h) .ret { t := mkT 18 0 [(2, int b)], h := h, m := [] }) := by
 refine CW.cast (CW.symX (s' := { t := mkT 18 0 [(2, int b)], h := h, m := [] }) (e := Exit.ret) pok [.st (.mask [2])] [.b true, .row [vi b], .b true] (by kernel_rfl) (.c (show decide (1 < 2) = true from rfl) (.c hr (.c hz .n)))) ?_ ?_ <;> (first | rfl | simp_all)
theorem or_2 {a b : Int} {h0 h : List Blk} : (CW Tryz.prog Γ0 h0 false (sub Tryz.f136 0) (orS a b 2 h) (.exit 0) { t := mkT 18 0 [(2, int 0), (3, int 0)], h := h, m := [] }) := by
 refine CW.cast (CW.symX (s' := { t := mkT 18 0 [(2, int 0), (3, int 0)], h := h, m := [] }) (e := Exit.exit 0) pok [.st (.mask [2, 3])] [.b false] (by kernel_rfl) (.c (show decide (2 < 2) = false from rfl) .n)) ?_ ?_ <;> (first | rfl | simp_all)
def orFin (a b : Int) (h : List Blk) : Exit × AS := match a != 0 with
 | true => (.ret, { t := mkT 18 0 [(2, int a)], h := h, m := [] })
 | false => match b != 0 with
  | true => (.ret, { t := mkT 18 0 [(2, int b)], h := h, m := [] })
  | false => (.exit 0, { t := mkT 18 0 [(2, int 0), (3, int 0)], h := h, m := [] })
theorem or_cw {a b : Int} {h0 h : List Blk} : CW Tryz.prog Γ0 h0 false (.loop (sub Tryz.f136 0)) (orS a b 0 h) (orFin a b h).1 (orFin a b h).2 := by
 have r0 : bw 0 (orR a b) [vi a] 1 := ⟨rfl, rfl, rfl⟩
 have r1 : bw 1 (orR a b) [vi b] 1 := ⟨rfl, rfl, rfl⟩
 unfold orFin
 cases ha : a != 0
 ·cases hb : b != 0
  ·refine CW.loopN 2 (fun i => orS a b i h) (by simp) (fun i hi => ?_) or_2
   match i, hi with
   | 0, _ => exact or_0 r0 ha
   | 1, _ => exact or_1 r1 hb
  ·refine CW.loopN 1 (fun i => orS a b i h) (by simp) (fun i hi => ?_) (or_1r r1 hb)
   match i, hi with
   | 0, _ => exact or_0 r0 ha
 ·exact CW.loopN 0 (fun i => orS a b i h) (by simp) (fun i hi => absurd hi (Nat.not_lt_zero i)) (or_0r r0 ha)
noncomputable abbrev dm (a : FactT) (b : FactT) : List Blk := [.var [int a.kind, int a.sub, int a.obj, int a.value, int a.frm, int a.til, int a.known, int a.no], .var [int b.kind, int b.sub, int b.obj, int b.value, int b.frm, int b.til, int b.known, int b.no]]
theorem fcmp_ev {a b : FactT} (h : List Blk) : (Ev Tryz.prog Γ0 84 [ag a.row, ag b.row] h (int (orI (aD a.known b.known) (aD a.no b.no))) h) := by
 have hl0 := (@or_cw (aD a.known b.known) (aD a.no b.no) ([.var [int a.kind, int a.sub, int a.obj, int a.value, int a.frm, int a.til, int a.known, int a.no], .var [int b.kind, int b.sub, int b.obj, int b.value, int b.frm, int b.til, int b.known, int b.no], .vec [[int (aD a.known b.known)], [int (aD a.no b.no)]] 0 1]) ([.var [int a.kind, int a.sub, int a.obj, int a.value, int a.frm, int a.til, int a.known, int a.no], .var [int b.kind, int b.sub, int b.obj, int b.value, int b.frm, int b.til, int b.known, int b.no], .gone]))
 unfold orFin at hl0
 revert hl0
 cases ho1 : aD a.known b.known != 0 with
 | false =>
  intro hl0
  revert hl0
  cases ho2 : aD a.no b.no != 0 with
  | false =>
   intro hl0
   exact Ev.castH (Ev.sym0 (d := int 0) pok [.val (int (aD a.known b.known)), .val (int (aD a.no b.no)), .inl, .st (.frz 2 (orR (aD a.known b.known) (aD a.no b.no))), .sum [2, 3, 6, 7, 8] (Exit.exit 0) { t := mkT 18 0 [(2, int 0), (3, int 0)], h := [.var [int a.kind, int a.sub, int a.obj, int a.value, int a.frm, int a.til, int a.known, int a.no], .var [int b.kind, int b.sub, int b.obj, int b.value, int b.frm, int b.til, int b.known, int b.no], .gone], m := [] }] (by kernel_rfl) (.c (@c7 (a.known) (b.known) ((dm a b))) (.c (@c7 (a.no) (b.no) ((dm a b))) (.c (show [[int (aD a.known b.known)], [int (aD a.no b.no)]] = [[int (aD a.known b.known)], [int (aD a.no b.no)]] from rfl) (.c hl0 (.e (.ref (.ptr 0 6)) (.e (int a.known) (.e (.ref (.ptr 1 6)) (.e (int b.known) (.e (.ref (.ptr 0 7)) (.e (.ref (.ptr 0 7)) (.e (int a.no) (.e (int a.no) (.e (.ref (.ptr 1 7)) (.e (.ref (.ptr 1 7)) (.e (int b.no) (.e (int b.no) .n)))))))))))))))) rfl rfl h) (by simp [orI, ho1, ho2]) (by rfl)
  | true =>
   intro hl0
   exact Ev.castH (Ev.sym0 (d := int (aD a.no b.no)) pok [.val (int (aD a.known b.known)), .val (int (aD a.no b.no)), .inl, .st (.frz 2 (orR (aD a.known b.known) (aD a.no b.no))), .sum [2, 3, 6, 7, 8] (Exit.ret) { t := mkT 18 0 [(2, int (aD a.no b.no))], h := [.var [int a.kind, int a.sub, int a.obj, int a.value, int a.frm, int a.til, int a.known, int a.no], .var [int b.kind, int b.sub, int b.obj, int b.value, int b.frm, int b.til, int b.known, int b.no], .gone], m := [] }] (by kernel_rfl) (.c (@c7 (a.known) (b.known) ((dm a b))) (.c (@c7 (a.no) (b.no) ((dm a b))) (.c (show [[int (aD a.known b.known)], [int (aD a.no b.no)]] = [[int (aD a.known b.known)], [int (aD a.no b.no)]] from rfl) (.c hl0 (.e (.ref (.ptr 0 6)) (.e (int a.known) (.e (.ref (.ptr 1 6)) (.e (int b.known) (.e (.ref (.ptr 0 7)) (.e (.ref (.ptr 0 7)) (.e (int a.no) (.e (int a.no) (.e (.ref (.ptr 1 7)) (.e (.ref (.ptr 1 7)) (.e (int b.no) (.e (int b.no) .n)))))))))))))))) rfl rfl h) (by simp [orI, ho1, ho2]) (by rfl)
 | true =>
  intro hl0
  exact Ev.castH (Ev.sym0 (d := int (aD a.known b.known)) pok [.val (int (aD a.known b.known)), .val (int (aD a.no b.no)), .inl, .st (.frz 2 (orR (aD a.known b.known) (aD a.no b.no))), .sum [2, 3, 6, 7, 8] (Exit.ret) { t := mkT 18 0 [(2, int (aD a.known b.known))], h := [.var [int a.kind, int a.sub, int a.obj, int a.value, int a.frm, int a.til, int a.known, int a.no], .var [int b.kind, int b.sub, int b.obj, int b.value, int b.frm, int b.til, int b.known, int b.no], .gone], m := [] }] (by kernel_rfl) (.c (@c7 (a.known) (b.known) ((dm a b))) (.c (@c7 (a.no) (b.no) ((dm a b))) (.c (show [[int (aD a.known b.known)], [int (aD a.no b.no)]] = [[int (aD a.known b.known)], [int (aD a.no b.no)]] from rfl) (.c hl0 (.e (.ref (.ptr 0 6)) (.e (int a.known) (.e (.ref (.ptr 1 6)) (.e (int b.known) (.e (.ref (.ptr 0 7)) (.e (.ref (.ptr 0 7)) (.e (int a.no) (.e (int a.no) (.e (.ref (.ptr 1 7)) (.e (.ref (.ptr 1 7)) (.e (int b.no) (.e (int b.no) .n)))))))))))))))) rfl rfl h) (by simp [orI, ho1]) (by rfl)
theorem dq {n a b : Int} (h : List Blk) : (Ev Tryz.prog Γ0 138 [int n, int a, int b] h (bool (decide (a ≤ n) && decide (n ≤ b))) h) := by
 exact Ev.castH (Ev.sym0 (d := bool (decide (a ≤ n) && decide (n ≤ b))) pok [] (by kernel_rfl) .n rfl rfl h) (by first | rfl | simp_all) (by rfl)
def cB (f : FactT) : Bool := decide (1 ≤ f.kind) && decide (f.kind ≤ 12) && (decide (0 ≤ f.sub) && decide (f.sub ≤ 20000)) && (decide (0 ≤ f.obj) && decide (f.obj ≤ 20000)) && (decide (-1 ≤ f.value) && decide (f.value ≤ 1099511627776)) &&
 decide (0 ≤ f.frm) && decide (f.frm < f.til) && decide (f.til ≤ 1024) && (decide (1 ≤ f.known) && decide (f.known ≤ 16777216)) && (decide (0 ≤ f.no) && decide (f.no ≤ 65535))
noncomputable abbrev aM (f : FactT) : List Blk := [.var [int f.kind, int f.sub, int f.obj, int f.value, int f.frm, int f.til, int f.known, int f.no]]
theorem fits_ev {f : FactT} (h : List Blk) : (Ev Tryz.prog Γ0 83 [ag f.row] h (bool (cB f)) h) := by
 exact Ev.castH (Ev.sym0 (d := bool (decide (1 ≤ f.kind) && decide (f.kind ≤ 12) && (decide (0 ≤ f.sub) && decide (f.sub ≤ 20000)) && (decide (0 ≤ f.obj) && decide (f.obj ≤ 20000)) && (decide (-1 ≤ f.value) && decide (f.value ≤ 1099511627776)) && decide (0 ≤ f.frm) && decide (f.frm < f.til) && decide (f.til ≤ 1024) && (decide (1 ≤ f.known) && decide (f.known ≤ 16777216)) && (decide (0 ≤ f.no) && decide (f.no ≤ 65535)))) pok [.val (bool (decide (1 ≤ f.kind) && decide (f.kind ≤ 12))), .val (bool (decide (0 ≤ f.sub) && decide (f.sub ≤ 20000))), .val (bool (decide (0 ≤ f.obj) && decide (f.obj ≤ 20000))), .val (bool (decide (-1 ≤ f.value) && decide (f.value ≤ 1099511627776))), .val (bool (decide (1 ≤ f.known) && decide (f.known ≤ 16777216))), .val (bool (decide (0 ≤ f.no) && decide (f.no ≤ 65535)))] (by kernel_rfl) (.c (@dq (f.kind) (1) (12) ((aM f))) (.c (show (decide (1 ≤ f.kind) && decide (f.kind ≤ 12)) = true → Ev Tryz.prog Γ0 138 [int f.sub, int 0, int 20000] (aM f) (bool (decide (0 ≤ f.sub) && decide (f.sub ≤ 20000))) (aM f) from (fun hg => (@dq (f.sub) (0) (20000) ((aM f))))) (.c (show (decide (1 ≤ f.kind) && decide (f.kind ≤ 12) && (decide (0 ≤ f.sub) && decide (f.sub ≤ 20000))) = true → Ev Tryz.prog Γ0 138 [int f.obj, int 0, int 20000] (aM f) (bool (decide (0 ≤ f.obj) && decide (f.obj ≤ 20000))) (aM f) from (fun hg => (@dq (f.obj) (0) (20000) ((aM f))))) (.c (show (decide (1 ≤ f.kind) && decide (f.kind ≤ 12) && (decide (0 ≤ f.sub) && decide (f.sub ≤ 20000)) && (decide (0 ≤ f.obj) && decide (f.obj ≤ 20000))) = true → Ev Tryz.prog Γ0 138 [int f.value, int (-1), int 1099511627776] (aM f) (bool (decide (-1 ≤ f.value) && decide (f.value ≤ 1099511627776))) (aM f) from (fun hg => (@dq (f.value) (-1) (1099511627776) ((aM f))))) (.c (show (decide (1 ≤ f.kind) && decide (f.kind ≤ 12) && (decide (0 ≤ f.sub) && decide (f.sub ≤ 20000)) && (decide (0 ≤ f.obj) && decide (f.obj ≤ 20000)) && (decide (-1 ≤ f.value) && decide (f.value ≤ 1099511627776)) && decide (0 ≤ f.frm) && decide (f.frm < f.til) && decide (f.til ≤ 1024)) = true → Ev Tryz.prog Γ0 138 [int f.known, int 1, int 16777216] (aM f) (bool (decide (1 ≤ f.known) && decide (f.known ≤ 16777216))) (aM f) from (fun hg => (@dq (f.known) (1) (16777216) ((aM f))))) (.c (show (decide (1 ≤ f.kind) && decide (f.kind ≤ 12) && (decide (0 ≤ f.sub) && decide (f.sub ≤ 20000)) && (decide (0 ≤ f.obj) && decide (f.obj ≤ 20000)) && (decide (-1 ≤ f.value) && decide (f.value ≤ 1099511627776)) && decide (0 ≤ f.frm) && decide (f.frm < f.til) && decide (f.til ≤ 1024) && (decide (1 ≤ f.known) && decide (f.known ≤ 16777216))) = true → Ev Tryz.prog Γ0 138 [int f.no, int 0, int 65535] (aM f) (bool (decide (0 ≤ f.no) && decide (f.no ≤ 65535))) (aM f) from (fun hg => (@dq (f.no) (0) (65535) ((aM f))))) .n)))))) rfl rfl h) (by rfl) (by rfl)
end Go.Vi
open Go Go.Proofs
namespace Go.Vi
set_option maxRecDepth 100000
set_option maxHeartbeats 4000000
structure AttT where
 course : Int
 term : Int
 grade : Int
 campus : Int
 credits : Int
 deriving Inhabited
def AttT.row (a : AttT) : List Dp := [vi a.course, vi a.term, vi a.grade, vi a.campus, vi a.credits]
theorem bk {n a b : Int} (h : List Blk) : (Ev Tryz.prog Γ0 59 [int n, int a, int b] h (bool (decide (n ≥ a) && decide (n ≤ b))) h) := by
 exact Ev.castH (Ev.sym0 (d := bool (decide (n ≥ a) && decide (n ≤ b))) pok [] (by kernel_rfl) .n rfl rfl h) (by rfl) (by rfl)
theorem bin_ev {n a b : Int} (h : List Blk) : (Ev Tryz.prog Γ0 87 [int n, int a, int b] h (bool (decide (n ≥ a) && decide (n ≤ b))) h) := by
 exact Ev.castH (Ev.sym0 (d := bool (decide (n ≥ a) && decide (n ≤ b))) pok [] (by kernel_rfl) .n rfl rfl h) (by rfl) (by rfl)
theorem aW {n a b : Int} (h : List Blk) : (Ev Tryz.prog Γ0 113 [int n, int a, int b] h (bool (decide (n ≥ a) && decide (n ≤ b))) h) := by
 exact Ev.castH (Ev.sym0 (d := bool (decide (n ≥ a) && decide (n ≤ b))) pok [] (by kernel_rfl) .n rfl rfl h) (by rfl) (by rfl)
noncomputable abbrev cN (a : AttT) (b : AttT) : List Blk := [.var [int a.course, int a.term, int a.grade, int a.campus, int a.credits], .var [int b.course, int b.term, int b.grade, int b.campus, int b.credits]]
theorem order_ev {a b : AttT} (h : List Blk) : (Ev Tryz.prog Γ0 79 [ag a.row, ag b.row] h (int (orI (aD a.term b.term) (aD a.course b.course))) h) := by
 have hl0 := (@or_cw (aD a.term b.term) (aD a.course b.course) ([.var [int a.course, int a.term, int a.grade, int a.campus, int a.credits], .var [int b.course, int b.term, int b.grade, int b.campus, int b.credits], .vec [[int (aD a.term b.term)], [int (aD a.course b.course)]] 0 1]) ([.var [int a.course, int a.term, int a.grade, int a.campus, int a.credits], .var [int b.course, int b.term, int b.grade, int b.campus, int b.credits], .gone]))
 unfold orFin at hl0
 revert hl0
 cases ho1 : aD a.term b.term != 0 with
 | false =>
  intro hl0
  revert hl0
  cases ho2 : aD a.course b.course != 0 with
  | false =>
   intro hl0
   exact Ev.castH (Ev.sym0 (d := int 0) pok [.val (int (aD a.term b.term)), .val (int (aD a.course b.course)), .inl, .st (.frz 2 (orR (aD a.term b.term) (aD a.course b.course))), .sum [2, 3, 6, 7, 8] (Exit.exit 0) { t := mkT 18 0 [(2, int 0), (3, int 0)], h := [.var [int a.course, int a.term, int a.grade, int a.campus, int a.credits], .var [int b.course, int b.term, int b.grade, int b.campus, int b.credits], .gone], m := [] }] (by kernel_rfl) (.c (@c7 (a.term) (b.term) ((cN a b))) (.c (@c7 (a.course) (b.course) ((cN a b))) (.c (show [[int (aD a.term b.term)], [int (aD a.course b.course)]] = [[int (aD a.term b.term)], [int (aD a.course b.course)]] from rfl) (.c hl0 (.e (.ref (.ptr 0 1)) (.e (int a.term) (.e (.ref (.ptr 1 1)) (.e (int b.term) (.e (.ref (.ptr 0 0)) (.e (.ref (.ptr 0 0)) (.e (int a.course) (.e (int a.course) (.e (.ref (.ptr 1 0)) (.e (.ref (.ptr 1 0)) (.e (int b.course) (.e (int b.course) .n)))))))))))))))) rfl rfl h) (by simp [orI, ho1, ho2]) (by rfl)
  | true =>
   intro hl0
   exact Ev.castH (Ev.sym0 (d := int (aD a.course b.course)) pok [.val (int (aD a.term b.term)), .val (int (aD a.course b.course)), .inl, .st (.frz 2 (orR (aD a.term b.term) (aD a.course b.course))), .sum [2, 3, 6, 7, 8] (Exit.ret) { t := mkT 18 0 [(2, int (aD a.course b.course))], h := [.var [int a.course, int a.term, int a.grade, int a.campus, int a.credits], .var [int b.course, int b.term, int b.grade, int b.campus, int b.credits], .gone], m := [] }] (by kernel_rfl) (.c (@c7 (a.term) (b.term) ((cN a b))) (.c (@c7 (a.course) (b.course) ((cN a b))) (.c (show [[int (aD a.term b.term)], [int (aD a.course b.course)]] = [[int (aD a.term b.term)], [int (aD a.course b.course)]] from rfl) (.c hl0 (.e (.ref (.ptr 0 1)) (.e (int a.term) (.e (.ref (.ptr 1 1)) (.e (int b.term) (.e (.ref (.ptr 0 0)) (.e (.ref (.ptr 0 0)) (.e (int a.course) (.e (int a.course) (.e (.ref (.ptr 1 0)) (.e (.ref (.ptr 1 0)) (.e (int b.course) (.e (int b.course) .n)))))))))))))))) rfl rfl h) (by simp [orI, ho1, ho2]) (by rfl)
 | true =>
  intro hl0
  exact Ev.castH (Ev.sym0 (d := int (aD a.term b.term)) pok [.val (int (aD a.term b.term)), .val (int (aD a.course b.course)), .inl, .st (.frz 2 (orR (aD a.term b.term) (aD a.course b.course))), .sum [2, 3, 6, 7, 8] (Exit.ret) { t := mkT 18 0 [(2, int (aD a.term b.term))], h := [.var [int a.course, int a.term, int a.grade, int a.campus, int a.credits], .var [int b.course, int b.term, int b.grade, int b.campus, int b.credits], .gone], m := [] }] (by kernel_rfl) (.c (@c7 (a.term) (b.term) ((cN a b))) (.c (@c7 (a.course) (b.course) ((cN a b))) (.c (show [[int (aD a.term b.term)], [int (aD a.course b.course)]] = [[int (aD a.term b.term)], [int (aD a.course b.course)]] from rfl) (.c hl0 (.e (.ref (.ptr 0 1)) (.e (int a.term) (.e (.ref (.ptr 1 1)) (.e (int b.term) (.e (.ref (.ptr 0 0)) (.e (.ref (.ptr 0 0)) (.e (int a.course) (.e (int a.course) (.e (.ref (.ptr 1 0)) (.e (.ref (.ptr 1 0)) (.e (int b.course) (.e (int b.course) .n)))))))))))))))) rfl rfl h) (by simp [orI, ho1]) (by rfl)
def inB (n a b : Int) : Bool := decide (n ≥ a) && decide (n ≤ b)
end Go.Vi
open Go Go.Proofs
namespace Go.Vi
set_option maxRecDepth 100000
set_option maxHeartbeats 4000000
structure ClauseT where
 kind : Int
 when_ : Int
 action : Int
 til : Int
 deriving Inhabited
def ClauseT.row (a : ClauseT) : List Dp := [vi a.kind, vi a.when_, vi a.action, vi a.til]
structure SysT where
 classes : List Cls
 fees : List FeeT
 honours : List Cls
 clauses : List ClauseT
 deriving Inhabited
def SysT.sys (s : SysT) : Vi.Sys := ⟨s.classes, s.fees, s.honours, s.clauses.map ClauseT.row⟩
def SysT.row (s : SysT) : List Dp := [.sl (s.classes.map Cls.row), .sl (s.fees.map FeeT.row), .sl (s.honours.map Cls.row), .sl (s.clauses.map ClauseT.row)]
def SysT.ok (s : SysT) : Prop := s.sys.ok
end Go.Vi
open Go Go.Proofs
namespace Go.Vi
set_option maxRecDepth 100000
set_option maxHeartbeats 4000000
abbrev kd' (a b c d : Bool) (f g : Value) : List Dp := [.v (.bool a), .v (.bool b), .v (.bool c), .v (.bool d), .v f, .v g]
abbrev kf' (k : Nat) : Value := .func (.func k) #[] #[]
def kindsD : List Dp :=
 kd' false false false false .nilFunc .nilFunc ++ kd' false false false true (kf' 257) (kf' 258) ++ kd' false false false true (kf' 259) (kf' 260) ++ kd' false true false true (kf' 261) (kf' 262) ++
 kd' false false false true (kf' 263) (kf' 264) ++ kd' true true false false (kf' 265) (kf' 267) ++ kd' true true false false (kf' 269) (kf' 270) ++ kd' false true false false (kf' 271) (kf' 272) ++
 kd' false true true false (kf' 273) (kf' 274) ++ kd' true false false false (kf' 266) (kf' 275)
def Γk : al := fun g => match g with | 0 => some kindsD | _ => none
theorem mean_ev {a b : Int} (ha : I64 a) (hb : I64 b) (h : List Blk) : (Ev Tryz.prog Γ0 114 [.agg [int a, int b]] h (bool (errR a b == 0 && decide (a ≥ 0) && decide (a ≤ IntKind.i64.wrap (12 * b)))) h) := by
 exact Ev.castH (Ev.sym0 (d := bool (errR a b == 0 && decide (a ≥ 0) && decide (a ≤ IntKind.wrap IntKind.i64 (12 * b)))) pok [.val (int (errR a b))] (by kernel_rfl) (.c (@check_ev (a) (b) (ha) (hb) ([.var [int a, int b]])) .n) rfl rfl h) (by rfl) (by rfl)
abbrev ruD (op c : Int) (nm : ByteArray) (n d : Int) (ks : List (List Dp)) : D := .agg [int op, int c, ai nm, int n, int d, ab ks]
theorem r257_ev {op c : Int} {nm : ByteArray} {n d : Int} {ks : List (List Dp)} (h : List Blk) : (Ev Tryz.prog Γ0 257 [ruD op c nm n d ks] h (bool true) h) := by
 exact Ev.castH (Ev.sym0 (d := bool true) pok [] (by kernel_rfl) .n rfl rfl h) (by rfl) (by rfl)
theorem r259_ev {op c : Int} {nm : ByteArray} {n d : Int} {ks : List (List Dp)} (h : List Blk) : (Ev Tryz.prog Γ0 259 [ruD op c nm n d ks] h (bool true) h) := by
 exact Ev.castH (Ev.sym0 (d := bool true) pok [] (by kernel_rfl) .n rfl rfl h) (by rfl) (by rfl)
theorem r261_ev {op c : Int} {nm : ByteArray} {n d : Int} {ks : List (List Dp)} (h : List Blk) : (Ev Tryz.prog Γ0 261 [ruD op c nm n d ks] h (bool (inB n 0 200)) h) := by
 exact Ev.castH (Ev.sym0 (d := bool (decide (n ≥ 0) && decide (n ≤ 200))) pok [.val (bool (decide (n ≥ 0) && decide (n ≤ 200)))] (by kernel_rfl) (.c (@aW (n) (0) (200) ([.var [int op, int c, ai nm, int n, int d, ab ks]])) .n) rfl rfl h) (by rfl) (by rfl)
theorem r263_ev {op c : Int} {nm : ByteArray} {n d : Int} {ks : List (List Dp)} (h : List Blk) : (Ev Tryz.prog Γ0 263 [ruD op c nm n d ks] h (bool ((ks.length : Int) == 1)) h) := by
 exact Ev.castH (Ev.sym0 (d := bool ((↑(List.length ks) : Int) == 1)) pok [] (by kernel_rfl) .n rfl rfl h) (by rfl) (by rfl)
theorem r266_ev {op c : Int} {nm : ByteArray} {n d : Int} {ks : List (List Dp)} (h : List Blk) : (Ev Tryz.prog Γ0 266 [ruD op c nm n d ks] h (bool (inB c 0 4095)) h) := by
 exact Ev.castH (Ev.sym0 (d := bool (decide (c ≥ 0) && decide (c ≤ 4095))) pok [.val (bool (decide (c ≥ 0) && decide (c ≤ 4095)))] (by kernel_rfl) (.c (@aW (c) (0) (4095) ([.var [int op, int c, ai nm, int n, int d, ab ks]])) .n) rfl rfl h) (by rfl) (by rfl)
theorem r265_ev {op c : Int} {nm : ByteArray} {n d : Int} {ks : List (List Dp)} (h : List Blk) : (Ev Tryz.prog Γ0 265 [ruD op c nm n d ks] h (bool (inB c 0 4095 && inB n 0 12)) h) := by
 exact Ev.castH (Ev.sym0 (d := bool (inB c 0 4095 && (decide (n ≥ 0) && decide (n ≤ 12)))) pok [.val (bool (inB c 0 4095)), .val (bool (decide (n ≥ 0) && decide (n ≤ 12)))] (by kernel_rfl) (.c (@r266_ev (op) (c) (nm) (n) (d) (ks) ([.var [int op, int c, ai nm, int n, int d, ab ks]])) (.c (show inB c 0 4095 = true → Ev Tryz.prog Γ0 113 [int n, int 0, int 12] [.var [int op, int c, ai nm, int n, int d, ab ks]] (bool (decide (n ≥ 0) && decide (n ≤ 12))) [.var [int op, int c, ai nm, int n, int d, ab ks]] from (fun hg => (@aW (n) (0) (12) ([.var [int op, int c, ai nm, int n, int d, ab ks]])))) .n)) rfl rfl h) (by rfl) (by rfl)
theorem r269_ev {op c : Int} {nm : ByteArray} {n d : Int} {ks : List (List Dp)} (h : List Blk) : (Ev Tryz.prog Γ0 269 [ruD op c nm n d ks] h (bool (inB c 0 4095 && inB n 1 100)) h) := by
 exact Ev.castH (Ev.sym0 (d := bool (inB c 0 4095 && (decide (n ≥ 1) && decide (n ≤ 100)))) pok [.val (bool (inB c 0 4095)), .val (bool (decide (n ≥ 1) && decide (n ≤ 100)))] (by kernel_rfl) (.c (@r266_ev (op) (c) (nm) (n) (d) (ks) ([.var [int op, int c, ai nm, int n, int d, ab ks]])) (.c (show inB c 0 4095 = true → Ev Tryz.prog Γ0 113 [int n, int 1, int 100] [.var [int op, int c, ai nm, int n, int d, ab ks]] (bool (decide (n ≥ 1) && decide (n ≤ 100))) [.var [int op, int c, ai nm, int n, int d, ab ks]] from (fun hg => (@aW (n) (1) (100) ([.var [int op, int c, ai nm, int n, int d, ab ks]])))) .n)) rfl rfl h) (by rfl) (by rfl)
theorem r271_ev {op c : Int} {nm : ByteArray} {n d : Int} {ks : List (List Dp)} (h : List Blk) : (Ev Tryz.prog Γ0 271 [ruD op c nm n d ks] h (bool (inB n 0 10000)) h) := by
 exact Ev.castH (Ev.sym0 (d := bool (decide (n ≥ 0) && decide (n ≤ 10000))) pok [.val (bool (decide (n ≥ 0) && decide (n ≤ 10000)))] (by kernel_rfl) (.c (@aW (n) (0) (10000) ([.var [int op, int c, ai nm, int n, int d, ab ks]])) .n) rfl rfl h) (by rfl) (by rfl)
def meanB (a b : Int) : Bool := errR a b == 0 && decide (a ≥ 0) && decide (a ≤ IntKind.i64.wrap (12 * b))
theorem r273_ev {op c : Int} {nm : ByteArray} {n d : Int} {ks : List (List Dp)} (hn : I64 n) (hd : I64 d) (h : List Blk) : (Ev Tryz.prog Γ0 273 [ruD op c nm n d ks] h (bool (meanB n d)) h) := by
 exact Ev.castH (Ev.sym0 (d := bool (errR n d == 0 && decide (n ≥ 0) && decide (n ≤ IntKind.wrap IntKind.i64 (12 * d)))) pok [.val (bool (errR n d == 0 && decide (n ≥ 0) && decide (n ≤ IntKind.wrap IntKind.i64 (12 * d))))] (by kernel_rfl) (.c (@mean_ev (n) (d) (hn) (hd) ([.var [int op, int c, ai nm, int n, int d, ab ks]])) .n) rfl rfl h) (by rfl) (by rfl)
def ak (op c n d k : Int) : Bool :=
 if (!(op == 5 || op == 6 || op == 9) && c != 0 || !(op == 3 || op == 5 || op == 6 || op == 7 || op == 8) && n != 0 || op != 8 && d != 0 || (decide (op ≥ 5) && decide (op ≤ 9)) && decide (k > 0)) = true then false
 else if op = 1 then true else if op = 2 then true else if op = 3 then inB n 0 200 else if op = 4 then k == 1 else if op = 5 then inB c 0 4095 && inB n 0 12
 else if op = 6 then inB c 0 4095 && inB n 1 100 else if op = 7 then inB n 0 10000 else if op = 8 then meanB n d else if op = 9 then inB c 0 4095 else false
noncomputable abbrev formed1_e_x0 (c : Int) (nm : ByteArray) (n : Int) (d : Int) (ks : List (List Dp)) : List Blk := [.var [int 1, int c, ai nm, int n, int d, ab ks], .var [bool false, bool false, bool false, bool true, fq 257, fq 258]]
theorem formed1_e {c : Int} {nm : ByteArray} {n d : Int} {ks : List (List Dp)} (h : List Blk) : (Ev Tryz.prog Γk 234 [ruD 1 c nm n d ks] h (bool (ak 1 c n d ks.length)) h) := by
 cases hc0 : !false && c != 0 || !false && n != 0 || !false && d != 0 || !true && decide ((↑(List.length ks) : Int) > 0)
 ·exact Ev.castH (Ev.sym0 (d := bool true) pok [.val (bool (decide (1 ≥ 1) && decide (1 ≤ 9))), .b false, .b false, .val (bool true)] (by kernel_rfl) (.c (Ev.glob0 (Γ' := Γk) (@aW (1) (1) (9) ([.var [int 1, int c, ai nm, int n, int d, ab ks]]))) (.c (show (!(decide (1 ≥ 1) && decide (1 ≤ 9))) = false from rfl) (.c (show inR 1 10 = true from rfl) (.c hc0 (.c (Ev.glob0 (Γ' := Γk) (@r257_ev (1) (c) (nm) (n) (d) (ks) ((formed1_e_x0 c nm n d ks)))) .n))))) rfl rfl h) (by first | rfl | (simp [ak]; done) | (simp_all [ak]; done)) (by rfl)
 ·exact Ev.castH (Ev.sym0 (d := bool false) pok [.val (bool (decide (1 ≥ 1) && decide (1 ≤ 9))), .b false, .b true] (by kernel_rfl) (.c (Ev.glob0 (Γ' := Γk) (@aW (1) (1) (9) ([.var [int 1, int c, ai nm, int n, int d, ab ks]]))) (.c (show (!(decide (1 ≥ 1) && decide (1 ≤ 9))) = false from rfl) (.c (show inR 1 10 = true from rfl) (.c hc0 .n)))) rfl rfl h) (by first | rfl | (simp [ak]; done) | (simp_all [ak]; done)) (by rfl)
noncomputable abbrev formed2_e_x0 (c : Int) (nm : ByteArray) (n : Int) (d : Int) (ks : List (List Dp)) : List Blk := [.var [int 2, int c, ai nm, int n, int d, ab ks], .var [bool false, bool false, bool false, bool true, fq 259, fq 260]]
theorem formed2_e {c : Int} {nm : ByteArray} {n d : Int} {ks : List (List Dp)} (h : List Blk) : (Ev Tryz.prog Γk 234 [ruD 2 c nm n d ks] h (bool (ak 2 c n d ks.length)) h) := by
 cases hc0 : !false && c != 0 || !false && n != 0 || !false && d != 0 || !true && decide ((↑(List.length ks) : Int) > 0)
 ·exact Ev.castH (Ev.sym0 (d := bool true) pok [.val (bool (decide (2 ≥ 1) && decide (2 ≤ 9))), .b false, .b false, .val (bool true)] (by kernel_rfl) (.c (Ev.glob0 (Γ' := Γk) (@aW (2) (1) (9) ([.var [int 2, int c, ai nm, int n, int d, ab ks]]))) (.c (show (!(decide (2 ≥ 1) && decide (2 ≤ 9))) = false from rfl) (.c (show inR 2 10 = true from rfl) (.c hc0 (.c (Ev.glob0 (Γ' := Γk) (@r259_ev (2) (c) (nm) (n) (d) (ks) ((formed2_e_x0 c nm n d ks)))) .n))))) rfl rfl h) (by first | rfl | (simp [ak]; done) | (simp_all [ak]; done)) (by rfl)
 ·exact Ev.castH (Ev.sym0 (d := bool false) pok [.val (bool (decide (2 ≥ 1) && decide (2 ≤ 9))), .b false, .b true] (by kernel_rfl) (.c (Ev.glob0 (Γ' := Γk) (@aW (2) (1) (9) ([.var [int 2, int c, ai nm, int n, int d, ab ks]]))) (.c (show (!(decide (2 ≥ 1) && decide (2 ≤ 9))) = false from rfl) (.c (show inR 2 10 = true from rfl) (.c hc0 .n)))) rfl rfl h) (by first | rfl | (simp [ak]; done) | (simp_all [ak]; done)) (by rfl)
noncomputable abbrev formed3_e_x0 (c : Int) (nm : ByteArray) (n : Int) (d : Int) (ks : List (List Dp)) : List Blk := [.var [int 3, int c, ai nm, int n, int d, ab ks], .var [bool false, bool true, bool false, bool true, fq 261, fq 262]]
theorem formed3_e {c : Int} {nm : ByteArray} {n d : Int} {ks : List (List Dp)} (h : List Blk) : (Ev Tryz.prog Γk 234 [ruD 3 c nm n d ks] h (bool (ak 3 c n d ks.length)) h) := by
 cases hc0 : !false && c != 0 || !true && n != 0 || !false && d != 0 || !true && decide ((↑(List.length ks) : Int) > 0)
 ·exact Ev.castH (Ev.sym0 (d := bool (inB n 0 200)) pok [.val (bool (decide (3 ≥ 1) && decide (3 ≤ 9))), .b false, .b false, .val (bool (inB n 0 200))] (by kernel_rfl) (.c (Ev.glob0 (Γ' := Γk) (@aW (3) (1) (9) ([.var [int 3, int c, ai nm, int n, int d, ab ks]]))) (.c (show (!(decide (3 ≥ 1) && decide (3 ≤ 9))) = false from rfl) (.c (show inR 3 10 = true from rfl) (.c hc0 (.c (Ev.glob0 (Γ' := Γk) (@r261_ev (3) (c) (nm) (n) (d) (ks) ((formed3_e_x0 c nm n d ks)))) .n))))) rfl rfl h) (by first | rfl | (simp [ak]; done) | (simp_all [ak]; done)) (by rfl)
 ·exact Ev.castH (Ev.sym0 (d := bool false) pok [.val (bool (decide (3 ≥ 1) && decide (3 ≤ 9))), .b false, .b true] (by kernel_rfl) (.c (Ev.glob0 (Γ' := Γk) (@aW (3) (1) (9) ([.var [int 3, int c, ai nm, int n, int d, ab ks]]))) (.c (show (!(decide (3 ≥ 1) && decide (3 ≤ 9))) = false from rfl) (.c (show inR 3 10 = true from rfl) (.c hc0 .n)))) rfl rfl h) (by first | rfl | (simp [ak]; done) | (simp_all [ak]; done)) (by rfl)
noncomputable abbrev formed4_e_x0 (c : Int) (nm : ByteArray) (n : Int) (d : Int) (ks : List (List Dp)) : List Blk := [.var [int 4, int c, ai nm, int n, int d, ab ks], .var [bool false, bool false, bool false, bool true, fq 263, fq 264]]
theorem formed4_e {c : Int} {nm : ByteArray} {n d : Int} {ks : List (List Dp)} (h : List Blk) : (Ev Tryz.prog Γk 234 [ruD 4 c nm n d ks] h (bool (ak 4 c n d ks.length)) h) := by
 cases hc0 : !false && c != 0 || !false && n != 0 || !false && d != 0 || !true && decide ((↑(List.length ks) : Int) > 0)
 ·exact Ev.castH (Ev.sym0 (d := bool ((↑(List.length ks) : Int) == 1)) pok [.val (bool (decide (4 ≥ 1) && decide (4 ≤ 9))), .b false, .b false, .val (bool ((↑(List.length ks) : Int) == 1))] (by kernel_rfl) (.c (Ev.glob0 (Γ' := Γk) (@aW (4) (1) (9) ([.var [int 4, int c, ai nm, int n, int d, ab ks]]))) (.c (show (!(decide (4 ≥ 1) && decide (4 ≤ 9))) = false from rfl) (.c (show inR 4 10 = true from rfl) (.c hc0 (.c (Ev.glob0 (Γ' := Γk) (@r263_ev (4) (c) (nm) (n) (d) (ks) ((formed4_e_x0 c nm n d ks)))) .n))))) rfl rfl h) (by first | rfl | (simp [ak]; done) | (simp_all [ak]; done)) (by rfl)
 ·exact Ev.castH (Ev.sym0 (d := bool false) pok [.val (bool (decide (4 ≥ 1) && decide (4 ≤ 9))), .b false, .b true] (by kernel_rfl) (.c (Ev.glob0 (Γ' := Γk) (@aW (4) (1) (9) ([.var [int 4, int c, ai nm, int n, int d, ab ks]]))) (.c (show (!(decide (4 ≥ 1) && decide (4 ≤ 9))) = false from rfl) (.c (show inR 4 10 = true from rfl) (.c hc0 .n)))) rfl rfl h) (by first | rfl | (simp [ak]; done) | (simp_all [ak]; done)) (by rfl)
noncomputable abbrev formed5_e_x0 (c : Int) (nm : ByteArray) (n : Int) (d : Int) (ks : List (List Dp)) : List Blk := [.var [int 5, int c, ai nm, int n, int d, ab ks], .var [bool true, bool true, bool false, bool false, fq 265, fq 267]]
theorem formed5_e {c : Int} {nm : ByteArray} {n d : Int} {ks : List (List Dp)} (h : List Blk) : (Ev Tryz.prog Γk 234 [ruD 5 c nm n d ks] h (bool (ak 5 c n d ks.length)) h) := by
 cases hc0 : !true && c != 0 || !true && n != 0 || !false && d != 0 || !false && decide ((↑(List.length ks) : Int) > 0)
 ·exact Ev.castH (Ev.sym0 (d := bool (inB c 0 4095 && inB n 0 12)) pok [.val (bool (decide (5 ≥ 1) && decide (5 ≤ 9))), .b false, .b false, .val (bool (inB c 0 4095 && inB n 0 12))] (by kernel_rfl) (.c (Ev.glob0 (Γ' := Γk) (@aW (5) (1) (9) ([.var [int 5, int c, ai nm, int n, int d, ab ks]]))) (.c (show (!(decide (5 ≥ 1) && decide (5 ≤ 9))) = false from rfl) (.c (show inR 5 10 = true from rfl) (.c hc0 (.c (Ev.glob0 (Γ' := Γk) (@r265_ev (5) (c) (nm) (n) (d) (ks) ((formed5_e_x0 c nm n d ks)))) .n))))) rfl rfl h) (by first | rfl | (simp [ak]; done) | (simp_all [ak]; done)) (by rfl)
 ·exact Ev.castH (Ev.sym0 (d := bool false) pok [.val (bool (decide (5 ≥ 1) && decide (5 ≤ 9))), .b false, .b true] (by kernel_rfl) (.c (Ev.glob0 (Γ' := Γk) (@aW (5) (1) (9) ([.var [int 5, int c, ai nm, int n, int d, ab ks]]))) (.c (show (!(decide (5 ≥ 1) && decide (5 ≤ 9))) = false from rfl) (.c (show inR 5 10 = true from rfl) (.c hc0 .n)))) rfl rfl h) (by first | rfl | (simp [ak]; done) | (simp_all [ak]; done)) (by rfl)
noncomputable abbrev formed6_e_x0 (c : Int) (nm : ByteArray) (n : Int) (d : Int) (ks : List (List Dp)) : List Blk := [.var [int 6, int c, ai nm, int n, int d, ab ks], .var [bool true, bool true, bool false, bool false, fq 269, fq 270]]
theorem formed6_e {c : Int} {nm : ByteArray} {n d : Int} {ks : List (List Dp)} (h : List Blk) : (Ev Tryz.prog Γk 234 [ruD 6 c nm n d ks] h (bool (ak 6 c n d ks.length)) h) := by
 cases hc0 : !true && c != 0 || !true && n != 0 || !false && d != 0 || !false && decide ((↑(List.length ks) : Int) > 0)
 ·exact Ev.castH (Ev.sym0 (d := bool (inB c 0 4095 && inB n 1 100)) pok [.val (bool (decide (6 ≥ 1) && decide (6 ≤ 9))), .b false, .b false, .val (bool (inB c 0 4095 && inB n 1 100))] (by kernel_rfl) (.c (Ev.glob0 (Γ' := Γk) (@aW (6) (1) (9) ([.var [int 6, int c, ai nm, int n, int d, ab ks]]))) (.c (show (!(decide (6 ≥ 1) && decide (6 ≤ 9))) = false from rfl) (.c (show inR 6 10 = true from rfl) (.c hc0 (.c (Ev.glob0 (Γ' := Γk) (@r269_ev (6) (c) (nm) (n) (d) (ks) ((formed6_e_x0 c nm n d ks)))) .n))))) rfl rfl h) (by first | rfl | (simp [ak]; done) | (simp_all [ak]; done)) (by rfl)
 ·exact Ev.castH (Ev.sym0 (d := bool false) pok [.val (bool (decide (6 ≥ 1) && decide (6 ≤ 9))), .b false, .b true] (by kernel_rfl) (.c (Ev.glob0 (Γ' := Γk) (@aW (6) (1) (9) ([.var [int 6, int c, ai nm, int n, int d, ab ks]]))) (.c (show (!(decide (6 ≥ 1) && decide (6 ≤ 9))) = false from rfl) (.c (show inR 6 10 = true from rfl) (.c hc0 .n)))) rfl rfl h) (by first | rfl | (simp [ak]; done) | (simp_all [ak]; done)) (by rfl)
noncomputable abbrev formed7_e_x0 (c : Int) (nm : ByteArray) (n : Int) (d : Int) (ks : List (List Dp)) : List Blk := [.var [int 7, int c, ai nm, int n, int d, ab ks], .var [bool false, bool true, bool false, bool false, fq 271, fq 272]]
theorem formed7_e {c : Int} {nm : ByteArray} {n d : Int} {ks : List (List Dp)} (h : List Blk) : (Ev Tryz.prog Γk 234 [ruD 7 c nm n d ks] h (bool (ak 7 c n d ks.length)) h) := by
 cases hc0 : !false && c != 0 || !true && n != 0 || !false && d != 0 || !false && decide ((↑(List.length ks) : Int) > 0)
 ·exact Ev.castH (Ev.sym0 (d := bool (inB n 0 10000)) pok [.val (bool (decide (7 ≥ 1) && decide (7 ≤ 9))), .b false, .b false, .val (bool (inB n 0 10000))] (by kernel_rfl) (.c (Ev.glob0 (Γ' := Γk) (@aW (7) (1) (9) ([.var [int 7, int c, ai nm, int n, int d, ab ks]]))) (.c (show (!(decide (7 ≥ 1) && decide (7 ≤ 9))) = false from rfl) (.c (show inR 7 10 = true from rfl) (.c hc0 (.c (Ev.glob0 (Γ' := Γk) (@r271_ev (7) (c) (nm) (n) (d) (ks) ((formed7_e_x0 c nm n d ks)))) .n))))) rfl rfl h) (by first | rfl | (simp [ak]; done) | (simp_all [ak]; done)) (by rfl)
 ·exact Ev.castH (Ev.sym0 (d := bool false) pok [.val (bool (decide (7 ≥ 1) && decide (7 ≤ 9))), .b false, .b true] (by kernel_rfl) (.c (Ev.glob0 (Γ' := Γk) (@aW (7) (1) (9) ([.var [int 7, int c, ai nm, int n, int d, ab ks]]))) (.c (show (!(decide (7 ≥ 1) && decide (7 ≤ 9))) = false from rfl) (.c (show inR 7 10 = true from rfl) (.c hc0 .n)))) rfl rfl h) (by first | rfl | (simp [ak]; done) | (simp_all [ak]; done)) (by rfl)
noncomputable abbrev formed8_e_x0 (c : Int) (nm : ByteArray) (n : Int) (d : Int) (ks : List (List Dp)) : List Blk := [.var [int 8, int c, ai nm, int n, int d, ab ks], .var [bool false, bool true, bool true, bool false, fq 273, fq 274]]
theorem formed8_e {c : Int} {nm : ByteArray} {n d : Int} {ks : List (List Dp)} (hn : I64 n) (hd : I64 d) (h : List Blk) : (Ev Tryz.prog Γk 234 [ruD 8 c nm n d ks] h (bool (ak 8 c n d ks.length)) h) := by
 cases hc0 : !false && c != 0 || !true && n != 0 || !true && d != 0 || !false && decide ((↑(List.length ks) : Int) > 0)
 ·exact Ev.castH (Ev.sym0 (d := bool (meanB n d)) pok [.val (bool (decide (8 ≥ 1) && decide (8 ≤ 9))), .b false, .b false, .val (bool (meanB n d))] (by kernel_rfl) (.c (Ev.glob0 (Γ' := Γk) (@aW (8) (1) (9) ([.var [int 8, int c, ai nm, int n, int d, ab ks]]))) (.c (show (!(decide (8 ≥ 1) && decide (8 ≤ 9))) = false from rfl) (.c (show inR 8 10 = true from rfl) (.c hc0 (.c (Ev.glob0 (Γ' := Γk) (@r273_ev (8) (c) (nm) (n) (d) (ks) (hn) (hd) ((formed8_e_x0 c nm n d ks)))) .n))))) rfl rfl h) (by first | rfl | (simp [ak]; done) | (simp_all [ak]; done)) (by rfl)
 ·exact Ev.castH (Ev.sym0 (d := bool false) pok [.val (bool (decide (8 ≥ 1) && decide (8 ≤ 9))), .b false, .b true] (by kernel_rfl) (.c (Ev.glob0 (Γ' := Γk) (@aW (8) (1) (9) ([.var [int 8, int c, ai nm, int n, int d, ab ks]]))) (.c (show (!(decide (8 ≥ 1) && decide (8 ≤ 9))) = false from rfl) (.c (show inR 8 10 = true from rfl) (.c hc0 .n)))) rfl rfl h) (by first | rfl | (simp [ak]; done) | (simp_all [ak]; done)) (by rfl)
noncomputable abbrev formed9_e_x0 (c : Int) (nm : ByteArray) (n : Int) (d : Int) (ks : List (List Dp)) : List Blk := [.var [int 9, int c, ai nm, int n, int d, ab ks], .var [bool true, bool false, bool false, bool false, fq 266, fq 275]]
theorem formed9_e {c : Int} {nm : ByteArray} {n d : Int} {ks : List (List Dp)} (h : List Blk) : (Ev Tryz.prog Γk 234 [ruD 9 c nm n d ks] h (bool (ak 9 c n d ks.length)) h) := by
 cases hc0 : !true && c != 0 || !false && n != 0 || !false && d != 0 || !false && decide ((↑(List.length ks) : Int) > 0)
 ·exact Ev.castH (Ev.sym0 (d := bool (inB c 0 4095)) pok [.val (bool (decide (9 ≥ 1) && decide (9 ≤ 9))), .b false, .b false, .val (bool (inB c 0 4095))] (by kernel_rfl) (.c (Ev.glob0 (Γ' := Γk) (@aW (9) (1) (9) ([.var [int 9, int c, ai nm, int n, int d, ab ks]]))) (.c (show (!(decide (9 ≥ 1) && decide (9 ≤ 9))) = false from rfl) (.c (show inR 9 10 = true from rfl) (.c hc0 (.c (Ev.glob0 (Γ' := Γk) (@r266_ev (9) (c) (nm) (n) (d) (ks) ((formed9_e_x0 c nm n d ks)))) .n))))) rfl rfl h) (by first | rfl | (simp [ak]; done) | (simp_all [ak]; done)) (by rfl)
 ·exact Ev.castH (Ev.sym0 (d := bool false) pok [.val (bool (decide (9 ≥ 1) && decide (9 ≤ 9))), .b false, .b true] (by kernel_rfl) (.c (Ev.glob0 (Γ' := Γk) (@aW (9) (1) (9) ([.var [int 9, int c, ai nm, int n, int d, ab ks]]))) (.c (show (!(decide (9 ≥ 1) && decide (9 ≤ 9))) = false from rfl) (.c (show inR 9 10 = true from rfl) (.c hc0 .n)))) rfl rfl h) (by first | rfl | (simp [ak]; done) | (simp_all [ak]; done)) (by rfl)
theorem formedX_e {op c : Int} {nm : ByteArray} {n d : Int} {ks : List (List Dp)} (ho : (!(decide (op ≥ 1) && decide (op ≤ 9))) = true) (h : List Blk) : (Ev Tryz.prog Γk 234 [ruD op c nm n d ks] h (bool false) h) := by
 exact Ev.castH (Ev.sym0 (d := bool false) pok [.val (bool (decide (op ≥ 1) && decide (op ≤ 9))), .b true] (by kernel_rfl) (.c (Ev.glob0 (Γ' := Γk) (@aW (op) (1) (9) ([.var [int op, int c, ai nm, int n, int d, ab ks]]))) (.c ho .n)) rfl rfl h) (by rfl) (by rfl)
theorem formed_ev {op c : Int} {nm : ByteArray} {n d : Int} {ks : List (List Dp)} (hn : I64 n) (hd : I64 d) (h : List Blk) : Ev Tryz.prog Γk 234 [ruD op c nm n d ks] h (bool (ak op c n d ks.length)) h := by
 by_cases ho : (!(decide (op ≥ 1) && decide (op ≤ 9))) = true
 ·have := formedX_e (op := op) (c := c) (nm := nm) (n := n) (d := d) (ks := ks) ho h
  have e : ak op c n d ks.length = false := by
   simp only [Bool.not_eq_true', Bool.and_eq_false_iff, decide_eq_false_iff_not] at ho
   unfold ak
   split
   ·rfl
   ·repeat' (split; · omega)
    rfl
  rw [e]; exact this
 ·have : op = 1 ∨ op = 2 ∨ op = 3 ∨ op = 4 ∨ op = 5 ∨ op = 6 ∨ op = 7 ∨ op = 8 ∨ op = 9 := by
   simp only [Bool.not_eq_true', Bool.not_eq_false, Bool.and_eq_true, decide_eq_true_eq] at ho
   omega
  rcases this with rfl | rfl | rfl | rfl | rfl | rfl | rfl | rfl | rfl
  ·exact formed1_e h
  ·exact formed2_e h
  ·exact formed3_e h
  ·exact formed4_e h
  ·exact formed5_e h
  ·exact formed6_e h
  ·exact formed7_e h
  ·exact formed8_e hn hd h
  ·exact formed9_e h
end Go.Vi
open Go Go.Proofs
namespace Go.Vi
set_option maxRecDepth 100000
set_option maxHeartbeats 4000000
abbrev fz : FactT := ⟨0, 0, 0, 0, 0, 0, 0, 0⟩
abbrev atT : List D := mkT 50 0 [(6, .ref (.ptr 1 0)), (10, .ref (.ptr 2 0)), (11, .ref (.ptr 3 0)), (16, .fn (.func 178) [] [.ref (.ptr 4 0), .ref (.ptr 5 0), .ref (.ptr 6 0)])]
noncomputable abbrev atL (st : LoopState) : Blk := .loop st none 0 atT #[17] (ax (sub Tryz.f86 0)) (aj (sub Tryz.f86 0))
noncomputable abbrev atH (kk ks ko term known : Int) (fs : List (List Dp)) (best : FactT) (some : Bool) (st : LoopState) (more : List Blk) : List Blk :=
 [.var [int kk, int ks, int ko], .var [int term], .var (best.row.map .p), .var [bool some], .var [ab fs], .var [int kk, int ks, int ko], .var [int known], .defd, atL st] ++ more
abbrev atU : List D := mkT 50 0 [(6, .ref (.ptr 1 0)), (10, .ref (.ptr 2 0)), (11, .ref (.ptr 3 0)), (12, .ref (.ptr 10 0))]
theorem at_asg {kk ks ko term known : Int} {fs : List (List Dp)} {best f : FactT} {some : Bool} : (CW Tryz.prog Γ0 (atH kk ks ko term known fs best some .ready [.var (f.row.map .p)]) true (ax (sub Tryz.f86 0)) { t := e8 atT [(17, ag f.row)], h := atH kk ks ko term known fs best some .ready [.var (f.row.map .p)], m := [] } .normal { t := atU, h := atH kk ks ko term known fs best some .ready [.var (f.row.map .p), .var (f.row.map .p)], m := [] }) := by
 exact CW.cast (CW.symX (s' := { t := mkT 50 0 [(6, .ref (.ptr 1 0)), (10, .ref (.ptr 2 0)), (11, .ref (.ptr 3 0)), (12, .ref (.ptr 10 0))], h := [.var [int kk, int ks, int ko], .var [int term], .var [int best.kind, int best.sub, int best.obj, int best.value, int best.frm, int best.til, int best.known, int best.no], .var [bool some], .var [ab fs], .var [int kk, int ks, int ko], .var [int known], .defd, .loop LoopState.ready none 0 (mkT 50 0 [(6, .ref (.ptr 1 0)), (10, .ref (.ptr 2 0)), (11, .ref (.ptr 3 0)), (16, D.fn (Fn.func 178) [] [.ref (.ptr 4 0), .ref (.ptr 5 0), .ref (.ptr 6 0)])]) { toList := [17] } (ax (sub Tryz.f86 0)) (aj (sub Tryz.f86 0)), .var [int f.kind, int f.sub, int f.obj, int f.value, int f.frm, int f.til, int f.known, int f.no], .var [int f.kind, int f.sub, int f.obj, int f.value, int f.frm, int f.til, int f.known, int f.no]], m := [] }) (e := Exit.normal) pok [.st (.mask [6, 10, 11, 12])] [] (by kernel_rfl) .n) (by rfl) (by rfl)
def atHit (term : Int) (best : FactT) (some : Bool) (f : FactT) : Bool := decide (f.frm ≤ term) && decide (term < f.til) && (!some || decide (orI (aD f.known best.known) (aD f.no best.no) ≥ 0))
def aX (term : Int) (best : FactT) (some : Bool) (f : FactT) : FactT × Bool := bif atHit term best some f then (f, true) else (best, some)
noncomputable abbrev cO (kk : Int) (ks : Int) (ko : Int) (term : Int) (known : Int) (fs : List (List Dp)) (best : FactT) (f : FactT) (some : Bool) : List Blk := [.var [int kk, int ks, int ko], .var [int term], .var [int best.kind, int best.sub, int best.obj, int best.value, int best.frm, int best.til, int best.known, int best.no], .var [bool some], .var [ab fs], .var [int kk, int ks, int ko], .var [int known], .defd, .loop LoopState.busy none 0 (mkT 50 0 [(6, .ref (.ptr 1 0)), (10, .ref (.ptr 2 0)), (11, .ref (.ptr 3 0)), (16, D.fn (Fn.func 178) [] [.ref (.ptr 4 0), .ref (.ptr 5 0), .ref (.ptr 6 0)])]) { toList := [17] } (ax (sub Tryz.f86 0)) (aj (sub Tryz.f86 0)), .var [int f.kind, int f.sub, int f.obj, int f.value, int f.frm, int f.til, int f.known, int f.no], .var [int f.kind, int f.sub, int f.obj, int f.value, int f.frm, int f.til, int f.known, int f.no]]
theorem at_body {kk ks ko term known : Int} {fs : List (List Dp)} {best f : FactT} {some : Bool} : (CW Tryz.prog Γ0 (atH kk ks ko term known fs best some .ready [.var (f.row.map .p)]) true (aj (sub Tryz.f86 0)) { t := atU, h := atH kk ks ko term known fs best some .busy [.var (f.row.map .p), .var (f.row.map .p)], m := [] } .normal { t := mkT 50 0 [], h := atH kk ks ko term known fs (aX term best some f).1 (aX term best some f).2 .busy [.var (f.row.map .p), .var (f.row.map .p)], m := [] }) := by
 cases hc0 : decide (f.frm ≤ term) && decide (term < f.til) && (!some || decide (orI (aD f.known best.known) (aD f.no best.no) ≥ 0))
 ·refine CW.cast (CW.symX (s' := { t := mkT 50 0 [], h := (cO kk ks ko term known fs best f some), m := [] }) (e := Exit.normal) pok [.st (.mask [])] [.val (int (orI (aD f.known best.known) (aD f.no best.no))), .b false] (by kernel_rfl) (.c (show (decide (f.frm ≤ term) && decide (term < f.til) && !!some) = true → Ev Tryz.prog Γ0 84 [D.agg [int f.kind, int f.sub, int f.obj, int f.value, int f.frm, int f.til, int f.known, int f.no], D.agg [int best.kind, int best.sub, int best.obj, int best.value, int best.frm, int best.til, int best.known, int best.no]] (cO kk ks ko term known fs best f some) (int (orI (aD f.known best.known) (aD f.no best.no))) (cO kk ks ko term known fs best f some) from (fun hg => (@fcmp_ev (f) (best) ((cO kk ks ko term known fs best f some))))) (.c hc0 .n))) ?_ ?_ <;> (first | rfl | (have hs : atHit term best some f = true := hc0; simp only [aX, hs, cond_true]; rfl) | (have hs : atHit term best some f = false := hc0; simp only [aX, hs, cond_false]; rfl))
 ·refine CW.cast (CW.symX (s' := { t := mkT 50 0 [], h := [.var [int kk, int ks, int ko], .var [int term], .var [int f.kind, int f.sub, int f.obj, int f.value, int f.frm, int f.til, int f.known, int f.no], .var [bool true], .var [ab fs], .var [int kk, int ks, int ko], .var [int known], .defd, .loop LoopState.busy none 0 (mkT 50 0 [(6, .ref (.ptr 1 0)), (10, .ref (.ptr 2 0)), (11, .ref (.ptr 3 0)), (16, D.fn (Fn.func 178) [] [.ref (.ptr 4 0), .ref (.ptr 5 0), .ref (.ptr 6 0)])]) { toList := [17] } (ax (sub Tryz.f86 0)) (aj (sub Tryz.f86 0)), .var [int f.kind, int f.sub, int f.obj, int f.value, int f.frm, int f.til, int f.known, int f.no], .var [int f.kind, int f.sub, int f.obj, int f.value, int f.frm, int f.til, int f.known, int f.no]], m := [] }) (e := Exit.normal) pok [.st (.mask [])] [.val (int (orI (aD f.known best.known) (aD f.no best.no))), .b true] (by kernel_rfl) (.c (show (decide (f.frm ≤ term) && decide (term < f.til) && !!some) = true → Ev Tryz.prog Γ0 84 [D.agg [int f.kind, int f.sub, int f.obj, int f.value, int f.frm, int f.til, int f.known, int f.no], D.agg [int best.kind, int best.sub, int best.obj, int best.value, int best.frm, int best.til, int best.known, int best.no]] (cO kk ks ko term known fs best f some) (int (orI (aD f.known best.known) (aD f.no best.no))) (cO kk ks ko term known fs best f some) from (fun hg => (@fcmp_ev (f) (best) ((cO kk ks ko term known fs best f some))))) (.c hc0 .n))) ?_ ?_ <;> (first | rfl | (have hs : atHit term best some f = true := hc0; simp only [aX, hs, cond_true]; rfl) | (have hs : atHit term best some f = false := hc0; simp only [aX, hs, cond_false]; rfl))
theorem atIv_ev {kk ks ko term known : Int} {fs : List (List Dp)} {best f : FactT} {some : Bool} : Iv Tryz.prog Γ0 (.ref (.yl 8)) [ag f.row] (atH kk ks ko term known fs best some .ready [.var (f.row.map .p)]) (bool true) (atH kk ks ko term known fs (aX term best some f).1 (aX term best some f).2 .ready [.var (f.row.map .p), .var (f.row.map .p)]) :=
 Iv.round (h1 := atH kk ks ko term known fs best some .ready [.var (f.row.map .p), .var (f.row.map .p)]) rfl rfl at_asg rfl at_body rfl
def dM (kk ks ko : Int) (f : FactT) : Bool := f.kind == kk && (f.sub == ks && (f.obj == ko && true))
def ofIs (kk ks ko known : Int) (f : FactT) : Bool := dM kk ks ko f && decide (f.known ≤ known)
abbrev ofT (fs : List (List Dp)) (i : Int) : List D := mkT 30 0 [(0, .ref (.yl 8)), (1, .ref (.ptr 4 0)), (2, .ref (.ptr 5 0)), (3, .ref (.ptr 6 0)), (7, ab fs), (8, int fs.length), (9, int i)]
theorem of_body {kk ks ko term known : Int} {fs : List (List Dp)} {best b0 f : FactT} {some s0 : Bool} {i : Nat} (hr : bw (i : Int) fs f.row 8) (hlt : decide ((i : Int) < (fs.length : Int)) = true) (hw : IntKind.i64.wrap ((i : Int) + 1) = ((i + 1 : Nat) : Int)) : (CW Tryz.prog Γ0 (atH kk ks ko term known fs b0 s0 .ready []) false (sub Tryz.f178 0) { t := ofT fs i, h := atH kk ks ko term known fs best some .ready [], m := [] } .normal { t := ofT fs ((i + 1 : Nat) : Int), h := atH kk ks ko term known fs (bif ofIs kk ks ko known f then aX term best some f else (best, some)).1 (bif ofIs kk ks ko known f then aX term best some f else (best, some)).2 .ready [], m := [] }) := by
 cases hc0 : f.kind == kk && (f.sub == ks && (f.obj == ko && true))
 ·refine CW.cast (CW.symX (s' := { t := mkT 30 0 [(0, .ref (.yl 8)), (1, .ref (.ptr 4 0)), (2, .ref (.ptr 5 0)), (3, .ref (.ptr 6 0)), (7, ab fs), (8, int (↑(List.length fs) : Int)), (9, int (IntKind.wrap IntKind.i64 ((↑i : Int) + 1)))], h := [.var [int kk, int ks, int ko], .var [int term], .var [int best.kind, int best.sub, int best.obj, int best.value, int best.frm, int best.til, int best.known, int best.no], .var [bool some], .var [ab fs], .var [int kk, int ks, int ko], .var [int known], .defd, .loop LoopState.ready none 0 (mkT 50 0 [(6, .ref (.ptr 1 0)), (10, .ref (.ptr 2 0)), (11, .ref (.ptr 3 0)), (16, D.fn (Fn.func 178) [] [.ref (.ptr 4 0), .ref (.ptr 5 0), .ref (.ptr 6 0)])]) { toList := [17] } (ax (sub Tryz.f86 0)) (aj (sub Tryz.f86 0))], m := [] }) (e := Exit.normal) pok [.st (.mask [0, 1, 2, 3, 7, 8, 9]), .st (.trim 9)] [.b true, .row [vi f.kind, vi f.sub, vi f.obj, vi f.value, vi f.frm, vi f.til, vi f.known, vi f.no], .g false, .g false, .g false, .g false, .ov 22 (bool false), .g false, .g false, .g false, .g false, .ov 28 (bool false), .b false] (by kernel_rfl) (.c hlt (.c hr (.c (show ((f.kind == kk && (f.sub == ks && (f.obj == ko && true))) == true) = false from (by rw [hc0]; rfl)) (.c (show ((f.kind == kk && (f.sub == ks && (f.obj == ko && true))) == true) = false from (by rw [hc0]; rfl)) (.c (show ((f.kind == kk && (f.sub == ks && (f.obj == ko && true))) == true) = false from (by rw [hc0]; rfl)) (.c (show ((f.kind == kk && (f.sub == ks && (f.obj == ko && true))) == true) = false from (by rw [hc0]; rfl)) (.c (show aB (bool (f.kind == kk && (f.sub == ks && (f.obj == ko && true)))) (D.p (Dp.v (Value.tuple { toList := [] }))) (bool false) (bool false) from (aU hc0 rfl)) (.c (show (false == true) = false from rfl) (.c (show (false == true) = false from rfl) (.c (show (false == true) = false from rfl) (.c (show (false == true) = false from rfl) (.c (show aB (bool false) (D.p (Dp.v (Value.tuple { toList := [] }))) (bool false) (bool false) from (aU rfl rfl)) (.c (show false = false from rfl) .n)))))))))))))) ?_ ?_ <;> (first | rfl | (simp only [hw, ofIs, dM, hc0, Bool.false_and, cond_false]; rfl))
 ·cases hc1 : decide (f.known ≤ known)
  ·refine CW.cast (CW.symX (s' := { t := mkT 30 0 [(0, .ref (.yl 8)), (1, .ref (.ptr 4 0)), (2, .ref (.ptr 5 0)), (3, .ref (.ptr 6 0)), (7, ab fs), (8, int (↑(List.length fs) : Int)), (9, int (IntKind.wrap IntKind.i64 ((↑i : Int) + 1)))], h := [.var [int kk, int ks, int ko], .var [int term], .var [int best.kind, int best.sub, int best.obj, int best.value, int best.frm, int best.til, int best.known, int best.no], .var [bool some], .var [ab fs], .var [int kk, int ks, int ko], .var [int known], .defd, .loop LoopState.ready none 0 (mkT 50 0 [(6, .ref (.ptr 1 0)), (10, .ref (.ptr 2 0)), (11, .ref (.ptr 3 0)), (16, D.fn (Fn.func 178) [] [.ref (.ptr 4 0), .ref (.ptr 5 0), .ref (.ptr 6 0)])]) { toList := [17] } (ax (sub Tryz.f86 0)) (aj (sub Tryz.f86 0))], m := [] }) (e := Exit.normal) pok [.st (.mask [0, 1, 2, 3, 7, 8, 9]), .st (.trim 9)] [.b true, .row [vi f.kind, vi f.sub, vi f.obj, vi f.value, vi f.frm, vi f.til, vi f.known, vi f.no], .g true, .g true, .g true, .g true, .ov 22 (bool (decide (f.known ≤ known))), .g false, .g false, .g false, .g false, .ov 28 (bool false), .b false] (by kernel_rfl) (.c hlt (.c hr (.c (show ((f.kind == kk && (f.sub == ks && (f.obj == ko && true))) == true) = true from (by rw [hc0]; rfl)) (.c (show ((f.kind == kk && (f.sub == ks && (f.obj == ko && true))) == true) = true from (by rw [hc0]; rfl)) (.c (show ((f.kind == kk && (f.sub == ks && (f.obj == ko && true))) == true) = true from (by rw [hc0]; rfl)) (.c (show ((f.kind == kk && (f.sub == ks && (f.obj == ko && true))) == true) = true from (by rw [hc0]; rfl)) (.c (show aB (bool (f.kind == kk && (f.sub == ks && (f.obj == ko && true)))) (bool (decide (f.known ≤ known))) (bool false) (bool (decide (f.known ≤ known))) from (aS hc0 rfl)) (.c (show (decide (f.known ≤ known) == true) = false from (by rw [hc1]; rfl)) (.c (show (decide (f.known ≤ known) == true) = false from (by rw [hc1]; rfl)) (.c (show (decide (f.known ≤ known) == true) = false from (by rw [hc1]; rfl)) (.c (show (decide (f.known ≤ known) == true) = false from (by rw [hc1]; rfl)) (.c (show aB (bool (decide (f.known ≤ known))) (D.p (Dp.v (Value.tuple { toList := [] }))) (bool false) (bool false) from (aU hc1 rfl)) (.c (show false = false from rfl) .n)))))))))))))) ?_ ?_ <;> (first | rfl | (simp only [hw, ofIs, dM, hc0, hc1, Bool.and_false, cond_false]; rfl))
  ·refine CW.cast (CW.symX (s' := { t := mkT 30 0 [(0, .ref (.yl 8)), (1, .ref (.ptr 4 0)), (2, .ref (.ptr 5 0)), (3, .ref (.ptr 6 0)), (7, ab fs), (8, int (↑(List.length fs) : Int)), (9, int (IntKind.wrap IntKind.i64 ((↑i : Int) + 1)))], h := [.var [int kk, int ks, int ko], .var [int term], .var [int (aX term best some f).fst.kind, int (aX term best some f).fst.sub, int (aX term best some f).fst.obj, int (aX term best some f).fst.value, int (aX term best some f).fst.frm, int (aX term best some f).fst.til, int (aX term best some f).fst.known, int (aX term best some f).fst.no], .var [bool (aX term best some f).snd], .var [ab fs], .var [int kk, int ks, int ko], .var [int known], .defd, .loop LoopState.ready none 0 (mkT 50 0 [(6, .ref (.ptr 1 0)), (10, .ref (.ptr 2 0)), (11, .ref (.ptr 3 0)), (16, D.fn (Fn.func 178) [] [.ref (.ptr 4 0), .ref (.ptr 5 0), .ref (.ptr 6 0)])]) { toList := [17] } (ax (sub Tryz.f86 0)) (aj (sub Tryz.f86 0))], m := [] }) (e := Exit.normal) pok [.st (.mask [0, 1, 2, 3, 7, 8, 9]), .st (.trim 9)] [.b true, .row [vi f.kind, vi f.sub, vi f.obj, vi f.value, vi f.frm, vi f.til, vi f.known, vi f.no], .g true, .g true, .g true, .g true, .ov 22 (bool (decide (f.known ≤ known))), .g true, .g true, .g true, .inv (bool true) [.var [int kk, int ks, int ko], .var [int term], .var [int (aX term best some f).fst.kind, int (aX term best some f).fst.sub, int (aX term best some f).fst.obj, int (aX term best some f).fst.value, int (aX term best some f).fst.frm, int (aX term best some f).fst.til, int (aX term best some f).fst.known, int (aX term best some f).fst.no], .var [bool (aX term best some f).snd], .var [ab fs], .var [int kk, int ks, int ko], .var [int known], .defd, .loop LoopState.ready none 0 (mkT 50 0 [(6, .ref (.ptr 1 0)), (10, .ref (.ptr 2 0)), (11, .ref (.ptr 3 0)), (16, D.fn (Fn.func 178) [] [.ref (.ptr 4 0), .ref (.ptr 5 0), .ref (.ptr 6 0)])]) { toList := [17] } (ax (sub Tryz.f86 0)) (aj (sub Tryz.f86 0)), .var [int f.kind, int f.sub, int f.obj, int f.value, int f.frm, int f.til, int f.known, int f.no], .var [int f.kind, int f.sub, int f.obj, int f.value, int f.frm, int f.til, int f.known, int f.no]], .g true, .ov 28 (bool !true), .b false] (by kernel_rfl) (.c hlt (.c hr (.c (show ((f.kind == kk && (f.sub == ks && (f.obj == ko && true))) == true) = true from (by rw [hc0]; rfl)) (.c (show ((f.kind == kk && (f.sub == ks && (f.obj == ko && true))) == true) = true from (by rw [hc0]; rfl)) (.c (show ((f.kind == kk && (f.sub == ks && (f.obj == ko && true))) == true) = true from (by rw [hc0]; rfl)) (.c (show ((f.kind == kk && (f.sub == ks && (f.obj == ko && true))) == true) = true from (by rw [hc0]; rfl)) (.c (show aB (bool (f.kind == kk && (f.sub == ks && (f.obj == ko && true)))) (bool (decide (f.known ≤ known))) (bool false) (bool (decide (f.known ≤ known))) from (aS hc0 rfl)) (.c (show (decide (f.known ≤ known) == true) = true from (by rw [hc1]; rfl)) (.c (show (decide (f.known ≤ known) == true) = true from (by rw [hc1]; rfl)) (.c (show (decide (f.known ≤ known) == true) = true from (by rw [hc1]; rfl)) (.c (@atIv_ev (kk) (ks) (ko) (term) (known) (fs) (best) (f) (some)) (.c (show (decide (f.known ≤ known) == true) = true from (by rw [hc1]; rfl)) (.c (show aB (bool (decide (f.known ≤ known))) (bool !true) (bool false) (bool !true) from (aS hc1 rfl)) (.c (show (!true) = false from rfl) .n))))))))))))))) ?_ ?_ <;> (first | rfl | (simp only [hw, ofIs, dM, hc0, hc1, Bool.and_self, cond_true]; rfl))
theorem of_last {kk ks ko term known : Int} {fs : List (List Dp)} {best b0 : FactT} {some s0 : Bool} {i : Nat} (hlt : decide ((i : Int) < (fs.length : Int)) = false) : (CW Tryz.prog Γ0 (atH kk ks ko term known fs b0 s0 .ready []) false (sub Tryz.f178 0) { t := ofT fs i, h := atH kk ks ko term known fs best some .ready [], m := [] } (.exit 0) { t := mkT 30 0 [], h := atH kk ks ko term known fs best some .ready [], m := [] }) := by
 exact CW.cast (CW.symX (s' := { t := mkT 30 0 [], h := [.var [int kk, int ks, int ko], .var [int term], .var [int best.kind, int best.sub, int best.obj, int best.value, int best.frm, int best.til, int best.known, int best.no], .var [bool some], .var [ab fs], .var [int kk, int ks, int ko], .var [int known], .defd, .loop LoopState.ready none 0 (mkT 50 0 [(6, .ref (.ptr 1 0)), (10, .ref (.ptr 2 0)), (11, .ref (.ptr 3 0)), (16, D.fn (Fn.func 178) [] [.ref (.ptr 4 0), .ref (.ptr 5 0), .ref (.ptr 6 0)])]) { toList := [17] } (ax (sub Tryz.f86 0)) (aj (sub Tryz.f86 0))], m := [] }) (e := Exit.exit 0) pok [.st (.mask [])] [.b false] (by kernel_rfl) (.c hlt .n)) (by rfl) (by rfl)
def bZ (kk ks ko term known : Int) (s : FactT × Bool) (f : FactT) : FactT × Bool := bif ofIs kk ks ko known f then aX term s.1 s.2 f else s
theorem br {α σ : Type} (g : σ → α → σ) : ∀ (l : List α) (s : σ), forL (fun a s => (.inl (g s a) : σ ⊕ Empty)) l s = .inl (l.foldl g s)
 | [], _ => rfl
 | a :: l, s => br g l (g s a)
theorem of_cw {kk ks ko term known : Int} {l : List FactT} (hl : ao l) {b0 : FactT} {s0 : Bool} :
  CW Tryz.prog Γ0 (atH kk ks ko term known (l.map FactT.row) b0 s0 .ready []) false (.loop (sub Tryz.f178 0)) { t := ofT (l.map FactT.row) 0, h := atH kk ks ko term known (l.map FactT.row) b0 s0 .ready [], m := [] } (.exit 0)
   { t := mkT 30 0 [], h := atH kk ks ko term known (l.map FactT.row) (l.foldl (bZ kk ks ko term known) (b0, s0)).1 (l.foldl (bZ kk ks ko term known) (b0, s0)).2 .ready [], m := [] } := by
 have := CW.each (P := Tryz.prog) (Γ := Γ0) (h0 := atH kk ks ko term known (l.map FactT.row) b0 s0 .ready []) (rd := false) (c := sub Tryz.f178 0) (σ := FactT × Bool) (ρ := Empty) l (fun f s => .inl (bZ kk ks ko term known s f))
  (fun i s => { t := ofT (l.map FactT.row) (i : Int), h := atH kk ks ko term known (l.map FactT.row) s.1 s.2 .ready [], m := [] }) (.exit 0) (fun s => { t := mkT 30 0 [], h := atH kk ks ko term known (l.map FactT.row) s.1 s.2 .ready [], m := [] }) (fun r => r.elim)
  (fun _ _ => True) (by simp) (fun r => r.elim) ?_ ?_ (b0, s0) trivial
 ·rw [br] at this
  exact this
 ·intro i f s hf _
  have hi := (List.getElem?_eq_some_iff.1 hf).1
  exact ⟨fun _ _ => trivial, of_body (rowAt hf rfl) (lt_len _ hi) (wrap_succ hi hl)⟩
 ·intro s _
  exact of_last (fa _ l)
theorem fiter_ev {kk ks ko term known : Int} {l : List FactT} (hl : ao l) {b0 : FactT} {s0 : Bool} : (Ev Tryz.prog Γ0 178 [.ref (.yl 8), .ref (.ptr 4 0), .ref (.ptr 5 0), .ref (.ptr 6 0)] (atH kk ks ko term known (l.map FactT.row) b0 s0 .ready []) (.tup []) (atH kk ks ko term known (l.map FactT.row) (l.foldl (bZ kk ks ko term known) (b0, s0)).1 (l.foldl (bZ kk ks ko term known) (b0, s0)).2 .ready [])) := by
 have hl0 := (@of_cw (kk) (ks) (ko) (term) (known) (l) (hl) (b0) (s0))
 exact Ev.castH (Ev.of_sym (h' := [.var [int kk, int ks, int ko], .var [int term], .var [int (List.foldl (bZ kk ks ko term known) (b0, s0) l).fst.kind, int (List.foldl (bZ kk ks ko term known) (b0, s0) l).fst.sub, int (List.foldl (bZ kk ks ko term known) (b0, s0) l).fst.obj, int (List.foldl (bZ kk ks ko term known) (b0, s0) l).fst.value, int (List.foldl (bZ kk ks ko term known) (b0, s0) l).fst.frm, int (List.foldl (bZ kk ks ko term known) (b0, s0) l).fst.til, int (List.foldl (bZ kk ks ko term known) (b0, s0) l).fst.known, int (List.foldl (bZ kk ks ko term known) (b0, s0) l).fst.no], .var [bool (List.foldl (bZ kk ks ko term known) (b0, s0) l).snd], .var [ab (List.map FactT.row l)], .var [int kk, int ks, int ko], .var [int known], .defd, .loop LoopState.ready none 0 (mkT 50 0 [(6, .ref (.ptr 1 0)), (10, .ref (.ptr 2 0)), (11, .ref (.ptr 3 0)), (16, D.fn (Fn.func 178) [] [.ref (.ptr 4 0), .ref (.ptr 5 0), .ref (.ptr 6 0)])]) { toList := [17] } (ax (sub Tryz.f86 0)) (aj (sub Tryz.f86 0))]) (d := D.tup []) pok [.sum [0, 1, 2, 3, 7, 8, 9] (Exit.exit 0) { t := mkT 30 0 [], h := [.var [int kk, int ks, int ko], .var [int term], .var [int (List.foldl (bZ kk ks ko term known) (b0, s0) l).fst.kind, int (List.foldl (bZ kk ks ko term known) (b0, s0) l).fst.sub, int (List.foldl (bZ kk ks ko term known) (b0, s0) l).fst.obj, int (List.foldl (bZ kk ks ko term known) (b0, s0) l).fst.value, int (List.foldl (bZ kk ks ko term known) (b0, s0) l).fst.frm, int (List.foldl (bZ kk ks ko term known) (b0, s0) l).fst.til, int (List.foldl (bZ kk ks ko term known) (b0, s0) l).fst.known, int (List.foldl (bZ kk ks ko term known) (b0, s0) l).fst.no], .var [bool (List.foldl (bZ kk ks ko term known) (b0, s0) l).snd], .var [ab (List.map FactT.row l)], .var [int kk, int ks, int ko], .var [int known], .defd, .loop LoopState.ready none 0 (mkT 50 0 [(6, .ref (.ptr 1 0)), (10, .ref (.ptr 2 0)), (11, .ref (.ptr 3 0)), (16, D.fn (Fn.func 178) [] [.ref (.ptr 4 0), .ref (.ptr 5 0), .ref (.ptr 6 0)])]) { toList := [17] } (ax (sub Tryz.f86 0)) (aj (sub Tryz.f86 0))], m := [] }] (by kernel_rfl) (.c hl0 .n)) (by rfl) (by rfl)
noncomputable abbrev atH0 (kk ks ko term known : Int) (fs : List (List Dp)) (best : FactT) (some : Bool) : List Blk :=
 [.var [int kk, int ks, int ko], .var [int term], .var (best.row.map .p), .var [bool some], .var [ab fs], .var [int kk, int ks, int ko], .var [int known]]
theorem at_rf_cw {kk ks ko term known : Int} {l : List FactT} (hl : ao l) {b0 : FactT} {s0 : Bool} : CW Tryz.prog Γ0 [] false (sub Tryz.f86 0) { t := atT, h := atH0 kk ks ko term known (l.map FactT.row) b0 s0, m := [] } .normal
  { t := atT, h := atH kk ks ko term known (l.map FactT.row) (l.foldl (bZ kk ks ko term known) (b0, s0)).1 (l.foldl (bZ kk ks ko term known) (b0, s0)).2 .exhausted [], m := [7] } := by
 exact CW.rangeFunc (f := 178) (fi := []) (ca := [.ref (.ptr 4 0), .ref (.ptr 5 0), .ref (.ptr 6 0)]) pok (s := { t := atT, h := atH0 kk ks ko term known (l.map FactT.row) b0 s0, m := [] }) (g := .tmp 16) (ps := #[17]) (asg := ax (sub Tryz.f86 0)) (body := aj (sub Tryz.f86 0)) rfl (by kernel_rfl) (fiter_ev hl) rfl
def atR (kk ks ko term known : Int) (l : List FactT) : Int × Bool :=
 let r := l.foldl (bZ kk ks ko term known) (fz, false)
 bif !r.2 || decide (r.1.value < 0) then (0, false) else (r.1.value, true)
theorem at_ev {kk ks ko term known : Int} {l : List FactT} (hl : ao l) (h : List Blk) : (Ev Tryz.prog Γ0 86 [ab (l.map FactT.row), .agg [int kk, int ks, int ko], int term, int known] h (.tup [int (atR kk ks ko term known l).1, bool (atR kk ks ko term known l).2]) h) := by
 have hl0 := (@at_rf_cw (kk) (ks) (ko) (term) (known) (l) (hl) ({ kind := 0, sub := 0, obj := 0, value := 0, frm := 0, til := 0, known := 0, no := 0 }) (false))
 cases hc1 : !(List.foldl (bZ kk ks ko term known) ({ kind := 0, sub := 0, obj := 0, value := 0, frm := 0, til := 0, known := 0, no := 0 }, false) l).snd || decide ((List.foldl (bZ kk ks ko term known) ({ kind := 0, sub := 0, obj := 0, value := 0, frm := 0, til := 0, known := 0, no := 0 }, false) l).fst.value < 0)
 ·exact Ev.castH (Ev.sym0 (d := D.tup [int (List.foldl (bZ kk ks ko term known) ({ kind := 0, sub := 0, obj := 0, value := 0, frm := 0, til := 0, known := 0, no := 0 }, false) l).fst.value, bool true]) pok [.inl, .sum [6, 10, 11, 16] (Exit.normal) { t := mkT 50 0 [(6, .ref (.ptr 1 0)), (10, .ref (.ptr 2 0)), (11, .ref (.ptr 3 0)), (16, D.fn (Fn.func 178) [] [.ref (.ptr 4 0), .ref (.ptr 5 0), .ref (.ptr 6 0)])], h := [.var [int kk, int ks, int ko], .var [int term], .var [int (List.foldl (bZ kk ks ko term known) ({ kind := 0, sub := 0, obj := 0, value := 0, frm := 0, til := 0, known := 0, no := 0 }, false) l).fst.kind, int (List.foldl (bZ kk ks ko term known) ({ kind := 0, sub := 0, obj := 0, value := 0, frm := 0, til := 0, known := 0, no := 0 }, false) l).fst.sub, int (List.foldl (bZ kk ks ko term known) ({ kind := 0, sub := 0, obj := 0, value := 0, frm := 0, til := 0, known := 0, no := 0 }, false) l).fst.obj, int (List.foldl (bZ kk ks ko term known) ({ kind := 0, sub := 0, obj := 0, value := 0, frm := 0, til := 0, known := 0, no := 0 }, false) l).fst.value, int (List.foldl (bZ kk ks ko term known) ({ kind := 0, sub := 0, obj := 0, value := 0, frm := 0, til := 0, known := 0, no := 0 }, false) l).fst.frm, int (List.foldl (bZ kk ks ko term known) ({ kind := 0, sub := 0, obj := 0, value := 0, frm := 0, til := 0, known := 0, no := 0 }, false) l).fst.til, int (List.foldl (bZ kk ks ko term known) ({ kind := 0, sub := 0, obj := 0, value := 0, frm := 0, til := 0, known := 0, no := 0 }, false) l).fst.known, int (List.foldl (bZ kk ks ko term known) ({ kind := 0, sub := 0, obj := 0, value := 0, frm := 0, til := 0, known := 0, no := 0 }, false) l).fst.no], .var [bool (List.foldl (bZ kk ks ko term known) ({ kind := 0, sub := 0, obj := 0, value := 0, frm := 0, til := 0, known := 0, no := 0 }, false) l).snd], .var [ab (List.map FactT.row l)], .var [int kk, int ks, int ko], .var [int known], .defd, .loop LoopState.exhausted none 0 (mkT 50 0 [(6, .ref (.ptr 1 0)), (10, .ref (.ptr 2 0)), (11, .ref (.ptr 3 0)), (16, D.fn (Fn.func 178) [] [.ref (.ptr 4 0), .ref (.ptr 5 0), .ref (.ptr 6 0)])]) { toList := [17] } (ax (sub Tryz.f86 0)) (aj (sub Tryz.f86 0))], m := [7] }, .b false] (by kernel_rfl) (.c hl0 (.c hc1 .n)) rfl rfl h) (by simp only [atR, hc1, cond_false]) (by rfl)
 ·exact Ev.castH (Ev.sym0 (d := D.tup [int 0, bool false]) pok [.inl, .sum [6, 10, 11, 16] (Exit.normal) { t := mkT 50 0 [(6, .ref (.ptr 1 0)), (10, .ref (.ptr 2 0)), (11, .ref (.ptr 3 0)), (16, D.fn (Fn.func 178) [] [.ref (.ptr 4 0), .ref (.ptr 5 0), .ref (.ptr 6 0)])], h := [.var [int kk, int ks, int ko], .var [int term], .var [int (List.foldl (bZ kk ks ko term known) ({ kind := 0, sub := 0, obj := 0, value := 0, frm := 0, til := 0, known := 0, no := 0 }, false) l).fst.kind, int (List.foldl (bZ kk ks ko term known) ({ kind := 0, sub := 0, obj := 0, value := 0, frm := 0, til := 0, known := 0, no := 0 }, false) l).fst.sub, int (List.foldl (bZ kk ks ko term known) ({ kind := 0, sub := 0, obj := 0, value := 0, frm := 0, til := 0, known := 0, no := 0 }, false) l).fst.obj, int (List.foldl (bZ kk ks ko term known) ({ kind := 0, sub := 0, obj := 0, value := 0, frm := 0, til := 0, known := 0, no := 0 }, false) l).fst.value, int (List.foldl (bZ kk ks ko term known) ({ kind := 0, sub := 0, obj := 0, value := 0, frm := 0, til := 0, known := 0, no := 0 }, false) l).fst.frm, int (List.foldl (bZ kk ks ko term known) ({ kind := 0, sub := 0, obj := 0, value := 0, frm := 0, til := 0, known := 0, no := 0 }, false) l).fst.til, int (List.foldl (bZ kk ks ko term known) ({ kind := 0, sub := 0, obj := 0, value := 0, frm := 0, til := 0, known := 0, no := 0 }, false) l).fst.known, int (List.foldl (bZ kk ks ko term known) ({ kind := 0, sub := 0, obj := 0, value := 0, frm := 0, til := 0, known := 0, no := 0 }, false) l).fst.no], .var [bool (List.foldl (bZ kk ks ko term known) ({ kind := 0, sub := 0, obj := 0, value := 0, frm := 0, til := 0, known := 0, no := 0 }, false) l).snd], .var [ab (List.map FactT.row l)], .var [int kk, int ks, int ko], .var [int known], .defd, .loop LoopState.exhausted none 0 (mkT 50 0 [(6, .ref (.ptr 1 0)), (10, .ref (.ptr 2 0)), (11, .ref (.ptr 3 0)), (16, D.fn (Fn.func 178) [] [.ref (.ptr 4 0), .ref (.ptr 5 0), .ref (.ptr 6 0)])]) { toList := [17] } (ax (sub Tryz.f86 0)) (aj (sub Tryz.f86 0))], m := [7] }, .b true] (by kernel_rfl) (.c hl0 (.c hc1 .n)) rfl rfl h) (by simp only [atR, hc1, cond_true]) (by rfl)
end Go.Vi
