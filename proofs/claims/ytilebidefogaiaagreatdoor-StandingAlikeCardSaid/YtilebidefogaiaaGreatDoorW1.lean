/- StandingAlike: part of the proof. -/
import Derived.Test.YtilebidefogaiaaGreatDoorV8
import Derived.Test.YtilebidefogaiaaGreatDoorChecked
import Derived.Test.YtilebidefogaiaaGreatDoorCards
import Derived.Test.YtilebidefogaiaaGreatDoorTie
import Derived.WalkKit
import Derived.ProofKit
import Derived.OpenShut
import Derived.Deep.DeepHandedRow
import Derived.Lib.LaidTab
open Go Go.Proofs
namespace Go.Vi
theorem pok_of {P : Program} (h1 : P.follows .mixedOrders = true) (h2 : (P.funcs.toList.all fun fn => !(fn.name == "runtime.NumGoroutine")) = true) : POk P where
 mixed := h1
 plain f fn hf := by
  have := List.all_eq_true.1 h2 fn (by rw [← Array.getElem?_toList] at hf; exact List.mem_of_getElem? hf)
  simpa using this
abbrev int (n : Int) : D := lit (.int .i64 n)
abbrev u64 (n : Int) : D := lit (.int .u64 n)
abbrev bool (b : Bool) : D := lit (.bool b)
abbrev vi (n : Int) : Dp := .v (.int .i64 n)
abbrev vs (s : ByteArray) : Dp := .v (.string s)
abbrev strD (s : ByteArray) : D := lit (.string s)
abbrev rD (es : List (List Dp)) : D := .p (.sl es)
abbrev ag (r : List Dp) : D := .agg (r.map .p)
abbrev fq (k : Nat) : D := lit (.func (.func k) #[] #[])
abbrev nq : D := lit (.slice none 0 0)
abbrev Γ0 : Glob := fun _ => none
theorem pok : POk Tryz.prog := pok_of (by kernel_rfl) (by kernel_rfl)
end Go.Vi
open Go Go.Proofs
namespace Go.Vi
set_option maxRecDepth 100000
def I64 (n : Int) : Prop := -9223372036854775808 ≤ n ∧ n ≤ 9223372036854775807
theorem u64_neg {n : Int} (h : I64 n) (hn : n < 0) : IntKind.u64.wrap (0 - IntKind.u64.wrap n) = (n.natAbs : Int) := by
 obtain ⟨h1, h2⟩ := h
 simp only [IntKind.wrap, IntKind.bits, IntKind.signed, Bool.false_and, Bool.false_eq_true, if_false]
 omega
theorem u64_pos {n : Int} (h : I64 n) (hn : ¬ n < 0) : IntKind.u64.wrap n = (n.natAbs : Int) := by
 obtain ⟨h1, h2⟩ := h
 simp only [IntKind.wrap, IntKind.bits, IntKind.signed, Bool.false_and, Bool.false_eq_true, if_false]
 omega
theorem size_ev {n : Int} (hn : I64 n) (h : List Blk) : Ev Tryz.prog Γ0 147 [int n] h (u64 n.natAbs) h := by
 by_cases h0 : n < 0
 ·rw [← u64_neg hn h0]
  exact Ev.sym0 pok (φ := [decide (n < 0) = true]) [.b true] (by kernel_rfl) ⟨by simpa using h0, trivial⟩ rfl rfl h
 ·rw [← u64_pos hn h0]
  exact Ev.sym0 pok (φ := [decide (n < 0) = false]) [.b false] (by kernel_rfl) ⟨by simpa using h0, trivial⟩ rfl rfl h
abbrev stepCell : Blk := .var [.fn (.func 146) [] [.ref (.ptr 0 0)]]
theorem step_ev : ∀ (y x : Nat), Ev Tryz.prog Γ0 146 [u64 x, u64 y, .ref (.ptr 0 0)] [stepCell] (u64 (Nat.gcd y x)) [stepCell] := by
 intro y
 induction y using Nat.strongRecOn with
 | _ y ih =>
  intro x
  by_cases h0 : y = 0
  ·subst h0
   rw [Nat.gcd_zero_left]
   exact Ev.of_sym pok (φ := [((0 : Int) == 0) = true]) [.b true] (by kernel_rfl) ⟨by simp, trivial⟩
  ·have hi := ih (x % y) (Nat.mod_lt _ (by omega)) y
   rw [← Nat.gcd_rec] at hi
   refine Ev.of_sym pok (φ := [((y : Int) == 0) = false, (!decide ((y : Int) = 0)) = true, Ev Tryz.prog Γ0 146 [u64 y, u64 ((x : Int).tmod y), .ref (.ptr 0 0)] [stepCell] (u64 (Nat.gcd y x)) [stepCell]]) [.b false, .val (u64 (Nat.gcd y x))] (by kernel_rfl) ⟨?_, ?_, ?_, trivial⟩
   ·simp; omega
   ·simp; omega
   ·rw [show (x : Int).tmod y = ((x % y : Nat) : Int) by rw [Int.tmod_eq_emod_of_nonneg (by omega)]; simp]
    exact hi
theorem common_ev {a b : Int} (ha : I64 a) (hb : I64 b) (h : List Blk) : Ev Tryz.prog Γ0 101 [int a, int b] h (u64 (Nat.gcd b.natAbs a.natAbs)) h :=
 Ev.sym0 pok (φ := [Ev Tryz.prog Γ0 147 [int a] [stepCell] (u64 a.natAbs) [stepCell], Ev Tryz.prog Γ0 147 [int b] [stepCell] (u64 b.natAbs) [stepCell],
   Ev Tryz.prog Γ0 146 [u64 a.natAbs, u64 b.natAbs, .ref (.ptr 0 0)] [stepCell] (u64 (Nat.gcd b.natAbs a.natAbs)) [stepCell]])
  [.val (u64 a.natAbs), .val (u64 b.natAbs), .val (u64 (Nat.gcd b.natAbs a.natAbs))] (by kernel_rfl) ⟨size_ev ha _, size_ev hb _, step_ev _ _, trivial⟩ rfl rfl h
def badR (n d : Int) : Bool := decide (d < 1) || decide (d > 1073741824) || decide (n < -1073741824) || decide (n > 1073741824) || (Nat.gcd d.natAbs n.natAbs : Int) != 1
def errR (n d : Int) : Int := if badR n d then 50 else 0
theorem check_ev {n d : Int} (hn : I64 n) (hd : I64 d) (h : List Blk) : Ev Tryz.prog Γ0 49 [.agg [int n, int d]] h (int (errR n d)) h := by
 have hc := common_ev hn hd [.var [int n, int d]]
 cases hb : badR n d
 ·simp only [errR, hb]
  exact Ev.sym0 pok (φ := [(!(decide (d < 1) || decide (d > 1073741824) || decide (n < -1073741824) || decide (n > 1073741824))) = true →
    Ev Tryz.prog Γ0 101 [int n, int d] [.var [int n, int d]] (u64 (Nat.gcd d.natAbs n.natAbs)) [.var [int n, int d]], badR n d = false])
   [.val (u64 (Nat.gcd d.natAbs n.natAbs)), .b false] (by kernel_rfl) ⟨fun _ => hc, hb, trivial⟩ rfl rfl h
 ·simp only [errR, hb]
  exact Ev.sym0 pok (φ := [(!(decide (d < 1) || decide (d > 1073741824) || decide (n < -1073741824) || decide (n > 1073741824))) = true →
    Ev Tryz.prog Γ0 101 [int n, int d] [.var [int n, int d]] (u64 (Nat.gcd d.natAbs n.natAbs)) [.var [int n, int d]], badR n d = true])
   [.val (u64 (Nat.gcd d.natAbs n.natAbs)), .b true] (by kernel_rfl) ⟨fun _ => hc, hb, trivial⟩ rfl rfl h
end Go.Vi
open Go Go.Proofs
namespace Go.Vi
set_option maxRecDepth 100000
end Go.Vi
open Go Go.Proofs
namespace Go.Vi
set_option maxRecDepth 100000
set_option maxHeartbeats 20000
structure Cls where
 name : ByteArray
 earn : Int
 num : Int
 den : Int
 deriving Inhabited
def Cls.row (c : Cls) : List Dp := [vs c.name, vi c.earn, vi c.num, vi c.den]
def Cls.ok (c : Cls) : Prop := I64 c.earn ∧ I64 c.num ∧ I64 c.den
structure FeeT where
 name : ByteArray
 credits : Int
 deriving Inhabited
def FeeT.row (c : FeeT) : List Dp := [vs c.name, vi c.credits]
def lastN {α : Type} (p : α → Bool) (l : List α) : Nat → Nat
 | 0 => 0
 | n + 1 => match l[n]? with
  | some a => if p a then n + 1 else lastN p l n
  | none => lastN p l n
def lastIx {α : Type} (p : α → Bool) (l : List α) : Nat := lastN p l l.length
def Short {α : Type} (l : List α) : Prop := l.length ≤ 140737488355328
def lastFin (x : Nat) (h : List Blk) (k : Nat) : Exit × AS := match k with
 | 0 => (.exit 0, { t := mkT x 0 [(4, int 0)], h := h, m := [] })
 | k => (.ret, { t := mkT x 0 [(4, int k)], h := h, m := [] })
theorem getD_row {α : Type} {row : α → List Dp} {l : List α} {n : Nat} {a : α} (h : l[n]? = some a) : (l.map row).getD n [] = row a := by
 simp [List.getD_eq_getElem?_getD, h]
theorem rowAt {α : Type} {row : α → List Dp} {l : List α} {n : Nat} {a : α} {sz : Nat} (h : l[n]? = some a) (hs : (row a).length = sz) : RowAt (n : Int) (l.map row) (row a) sz := by
 have := (List.getElem?_eq_some_iff.1 h).1
 refine ⟨?_, getD_row h, hs⟩
 simp [inR]
 omega
theorem wrap_pred {n : Nat} (h : (n : Int) ≤ 9223372036854775806) : IntKind.i64.wrap ((n : Int) + 1 - 1) = n := by
 rw [wrap_i64 (by omega) (by omega)]; omega
theorem lastCls_loop {l : List Cls} (hl : Short l) {f : D} {h : List Blk} {p : Cls → Bool} (hf : ∀ c ∈ l, Iv Tryz.prog Γ0 f [ag c.row] h (bool (p c)) h) (n : Nat) (hn : n ≤ l.length) :
  CW Tryz.prog Γ0 h false (.loop (sub Tryz.f95 0)) { t := mkT 20 0 [(0, rD (l.map Cls.row)), (1, f), (4, int 0), (5, int n)], h := h, m := [] } (lastFin 20 h (lastN p l n)).1 (lastFin 20 h (lastN p l n)).2 := by
 refine CW.loop (ι := { n : Nat // n ≤ l.length }) (fun n => { t := mkT 20 0 [(0, rD (l.map Cls.row)), (1, f), (4, int 0), (5, int n.1)], h := h, m := [] }) (fun n => lastFin 20 h (lastN p l n.1)) (fun n => n.1) ?_ ⟨n, hn⟩
 rintro ⟨n, hn⟩
 cases n with
 | zero =>
  refine .inr ⟨by simp [lastN, lastFin], ?_⟩
  exact CW.sym pok (φ := [decide ((0 : Int) > 0) = false]) [4] [.b false] (by kernel_rfl) ⟨by simp, trivial⟩
 | succ n =>
  have ha : l[n]? = some l[n] := List.getElem?_eq_getElem (by omega)
  generalize l[n] = a at ha
  have hw : IntKind.i64.wrap ((n : Int) + 1 - 1) = n := wrap_pred (by unfold Short at hl; omega)
  have h1 : decide ((n : Int) + 1 > 0) = true := decide_eq_true (by omega)
  have h2 : RowAt (IntKind.i64.wrap ((n : Int) + 1 - 1)) (l.map Cls.row) a.row 4 := by rw [hw]; exact rowAt ha rfl
  have h4 := hf a (List.mem_of_getElem? ha)
  cases hp : p a
  ·refine .inl ⟨⟨n, by omega⟩, by simp, by simp [lastN, ha, hp], ?_⟩
   have := CW.sym (P := Tryz.prog) (Γ := Γ0) (h0 := h) (rd := false) (c := sub Tryz.f95 0) (s := { t := mkT 20 0 [(0, rD (l.map Cls.row)), (1, f), (4, int 0), (5, int (n + 1))], h := h, m := [] }) (e := .normal)
    (s' := { t := mkT 20 0 [(0, rD (l.map Cls.row)), (1, f), (4, int 0), (5, int (IntKind.i64.wrap ((n : Int) + 1 - 1)))], h := h, m := [] }) pok
    (φ := [decide ((n : Int) + 1 > 0) = true, RowAt (IntKind.i64.wrap ((n : Int) + 1 - 1)) (l.map Cls.row) a.row 4,
     Iv Tryz.prog Γ0 f [ag a.row] h (bool (p a)) h, p a = false]) [0, 1, 4, 5] [.b true, .row a.row, .ival (bool (p a)), .b false] (by kernel_rfl) ⟨h1, h2, h4, hp, trivial⟩
   rw [hw] at this
   exact this
  ·refine .inr ⟨by simp [lastN, ha, hp, lastFin], ?_⟩
   simp only [lastN, ha, hp, if_true]
   exact CW.sym pok (φ := [decide ((n : Int) + 1 > 0) = true, RowAt (IntKind.i64.wrap ((n : Int) + 1 - 1)) (l.map Cls.row) a.row 4,
     Iv Tryz.prog Γ0 f [ag a.row] h (bool (p a)) h, p a = true]) [4] [.b true, .row a.row, .ival (bool (p a)), .b true] (by kernel_rfl) ⟨h1, h2, h4, hp, trivial⟩
theorem lastCls_ev {l : List Cls} (hl : Short l) {f : D} {h : List Blk} {p : Cls → Bool} (hf : ∀ c ∈ l, Iv Tryz.prog Γ0 f [ag c.row] h (bool (p c)) h) : Ev Tryz.prog Γ0 95 [rD (l.map Cls.row), f] h (int (lastIx p l)) h := by
 have hloop := lastCls_loop hl hf l.length (Nat.le_refl _)
 have hlen : ((l.map Cls.row).length : Int) = l.length := by simp
 unfold lastIx
 generalize lastN p l l.length = k at hloop ⊢
 rw [← hlen] at hloop
 cases k with
 | zero =>
  exact Ev.of_sym pok (φ := [CW Tryz.prog Γ0 h false (.loop (sub Tryz.f95 0)) { t := mkT 20 0 [(0, rD (l.map Cls.row)), (1, f), (4, int 0), (5, int (l.map Cls.row).length)], h := h, m := [] } (.exit 0) { t := mkT 20 0 [(4, int 0)], h := h, m := [] }])
   [.sum [0,1,4,5] (.exit 0) { t := mkT 20 0 [(4, int 0)], h := h, m := [] }] (by kernel_rfl) ⟨hloop, trivial⟩
 | succ k =>
  exact Ev.of_sym pok (φ := [CW Tryz.prog Γ0 h false (.loop (sub Tryz.f95 0)) { t := mkT 20 0 [(0, rD (l.map Cls.row)), (1, f), (4, int 0), (5, int (l.map Cls.row).length)], h := h, m := [] } .ret { t := mkT 20 0 [(4, int ((k + 1 : Nat) : Int))], h := h, m := [] }])
   [.sum [0,1,4,5] .ret { t := mkT 20 0 [(4, int ((k + 1 : Nat) : Int))], h := h, m := [] }] (by kernel_rfl) ⟨hloop, trivial⟩
end Go.Vi
open Go Go.Proofs
namespace Go.Vi
set_option maxRecDepth 100000
set_option maxHeartbeats 40000
theorem lastFee_loop {l : List FeeT} (hl : Short l) {f : D} {h : List Blk} {p : FeeT → Bool} (hf : ∀ c ∈ l, Iv Tryz.prog Γ0 f [ag c.row] h (bool (p c)) h) (n : Nat) (hn : n ≤ l.length) :
  CW Tryz.prog Γ0 h false (.loop (sub Tryz.f92 0)) { t := mkT 20 0 [(0, rD (l.map FeeT.row)), (1, f), (4, int 0), (5, int n)], h := h, m := [] } (lastFin 20 h (lastN p l n)).1 (lastFin 20 h (lastN p l n)).2 := by
 refine CW.loop (ι := { n : Nat // n ≤ l.length }) (fun n => { t := mkT 20 0 [(0, rD (l.map FeeT.row)), (1, f), (4, int 0), (5, int n.1)], h := h, m := [] }) (fun n => lastFin 20 h (lastN p l n.1)) (fun n => n.1) ?_ ⟨n, hn⟩
 rintro ⟨n, hn⟩
 cases n with
 | zero =>
  refine .inr ⟨by simp [lastN, lastFin], ?_⟩
  exact CW.sym pok (φ := [decide ((0 : Int) > 0) = false]) [4] [.b false] (by kernel_rfl) ⟨by simp, trivial⟩
 | succ n =>
  have ha : l[n]? = some l[n] := List.getElem?_eq_getElem (by omega)
  generalize l[n] = a at ha
  have hw : IntKind.i64.wrap ((n : Int) + 1 - 1) = n := wrap_pred (by unfold Short at hl; omega)
  have h1 : decide ((n : Int) + 1 > 0) = true := decide_eq_true (by omega)
  have h2 : RowAt (IntKind.i64.wrap ((n : Int) + 1 - 1)) (l.map FeeT.row) a.row 2 := by rw [hw]; exact rowAt ha rfl
  have h4 := hf a (List.mem_of_getElem? ha)
  cases hp : p a
  ·refine .inl ⟨⟨n, by omega⟩, by simp, by simp [lastN, ha, hp], ?_⟩
   have := CW.sym (P := Tryz.prog) (Γ := Γ0) (h0 := h) (rd := false) (c := sub Tryz.f92 0) (s := { t := mkT 20 0 [(0, rD (l.map FeeT.row)), (1, f), (4, int 0), (5, int (n + 1))], h := h, m := [] }) (e := .normal)
    (s' := { t := mkT 20 0 [(0, rD (l.map FeeT.row)), (1, f), (4, int 0), (5, int (IntKind.i64.wrap ((n : Int) + 1 - 1)))], h := h, m := [] }) pok
    (φ := [decide ((n : Int) + 1 > 0) = true, RowAt (IntKind.i64.wrap ((n : Int) + 1 - 1)) (l.map FeeT.row) a.row 2,
     Iv Tryz.prog Γ0 f [ag a.row] h (bool (p a)) h, p a = false]) [0, 1, 4, 5] [.b true, .row a.row, .ival (bool (p a)), .b false] (by kernel_rfl) ⟨h1, h2, h4, hp, trivial⟩
   rw [hw] at this
   exact this
  ·refine .inr ⟨by simp [lastN, ha, hp, lastFin], ?_⟩
   simp only [lastN, ha, hp, if_true]
   exact CW.sym pok (φ := [decide ((n : Int) + 1 > 0) = true, RowAt (IntKind.i64.wrap ((n : Int) + 1 - 1)) (l.map FeeT.row) a.row 2,
     Iv Tryz.prog Γ0 f [ag a.row] h (bool (p a)) h, p a = true]) [4] [.b true, .row a.row, .ival (bool (p a)), .b true] (by kernel_rfl) ⟨h1, h2, h4, hp, trivial⟩
theorem lastFee_ev {l : List FeeT} (hl : Short l) {f : D} {h : List Blk} {p : FeeT → Bool} (hf : ∀ c ∈ l, Iv Tryz.prog Γ0 f [ag c.row] h (bool (p c)) h) : Ev Tryz.prog Γ0 92 [rD (l.map FeeT.row), f] h (int (lastIx p l)) h := by
 have hloop := lastFee_loop hl hf l.length (Nat.le_refl _)
 have hlen : ((l.map FeeT.row).length : Int) = l.length := by simp
 unfold lastIx
 generalize lastN p l l.length = k at hloop ⊢
 rw [← hlen] at hloop
 cases k with
 | zero =>
  exact Ev.of_sym pok (φ := [CW Tryz.prog Γ0 h false (.loop (sub Tryz.f92 0)) { t := mkT 20 0 [(0, rD (l.map FeeT.row)), (1, f), (4, int 0), (5, int (l.map FeeT.row).length)], h := h, m := [] } (.exit 0) { t := mkT 20 0 [(4, int 0)], h := h, m := [] }])
   [.sum [0,1,4,5] (.exit 0) { t := mkT 20 0 [(4, int 0)], h := h, m := [] }] (by kernel_rfl) ⟨hloop, trivial⟩
 | succ k =>
  exact Ev.of_sym pok (φ := [CW Tryz.prog Γ0 h false (.loop (sub Tryz.f92 0)) { t := mkT 20 0 [(0, rD (l.map FeeT.row)), (1, f), (4, int 0), (5, int (l.map FeeT.row).length)], h := h, m := [] } .ret { t := mkT 20 0 [(4, int ((k + 1 : Nat) : Int))], h := h, m := [] }])
   [.sum [0,1,4,5] .ret { t := mkT 20 0 [(4, int ((k + 1 : Nat) : Int))], h := h, m := [] }] (by kernel_rfl) ⟨hloop, trivial⟩
def amt (n : Int) : Bool := decide (n ≥ 0) && decide (n ≤ 10000)
theorem amount_ev (n : Int) (h : List Blk) : Ev Tryz.prog Γ0 91 [int n] h (bool (amt n)) h :=
 Ev.sym0 pok (φ := []) [] (by kernel_rfl) trivial rfl rfl h
def wrongB (c : Cls) : Bool := !amt c.earn || errR c.num c.den != 0 || decide (c.num < 0) || decide (c.num > IntKind.i64.wrap (12 * c.den))
def wrongF (f : FeeT) : Bool := !amt f.credits
theorem wrongB_ev {c : Cls} (hc : c.ok) (h : List Blk) : Ev Tryz.prog Γ0 94 [ag c.row] h (bool (wrongB c)) h :=
 Ev.sym0 pok (φ := [Ev Tryz.prog Γ0 91 [int c.earn] [.var (c.row.map .p)] (bool (amt c.earn)) [.var (c.row.map .p)],
  (!!amt c.earn) = true → Ev Tryz.prog Γ0 49 [.agg [int c.num, int c.den]] [.var (c.row.map .p)] (int (errR c.num c.den)) [.var (c.row.map .p)]])
  [.val (bool (amt c.earn)), .val (int (errR c.num c.den))] (by kernel_rfl) ⟨amount_ev _ _, fun _ => check_ev hc.2.1 hc.2.2 _, trivial⟩ rfl rfl h
theorem wrongF_ev (c : FeeT) (h : List Blk) : Ev Tryz.prog Γ0 96 [ag c.row] h (bool (wrongF c)) h :=
 Ev.sym0 pok (φ := [Ev Tryz.prog Γ0 91 [int c.credits] [.var (c.row.map .p)] (bool (amt c.credits)) [.var (c.row.map .p)]])
  [.val (bool (amt c.credits))] (by kernel_rfl) ⟨amount_ev _ _, trivial⟩ rfl rfl h
structure Sys where
 classes : List Cls
 fees : List FeeT
 honours : List Cls
 clauses : List (List Dp)
def Sys.cells (s : Sys) : List D := [rD (s.classes.map Cls.row), rD (s.fees.map FeeT.row), rD (s.honours.map Cls.row), rD s.clauses]
structure Sys.ok (s : Sys) : Prop where
 c : ∀ c ∈ s.classes, c.ok
 h : ∀ c ∈ s.honours, c.ok
 f : ∀ f ∈ s.fees, I64 f.credits
 lc : Short s.classes
 lh : Short s.honours
 lf : Short s.fees
 ll : Short s.clauses
def fnv (k : Nat) : D := lit (.func (.func k) #[] #[])
theorem wrongB_iv {l : List Cls} (hl : ∀ c ∈ l, c.ok) (h : List Blk) : ∀ c ∈ l, Iv Tryz.prog Γ0 (fnv 94) [ag c.row] h (bool (wrongB c)) h :=
 fun c hc => Iv.of (f := 94) (fi := []) (ca := []) pok (by kernel_rfl) (by kernel_rfl) (wrongB_ev (hl c hc) h)
theorem wrongF_iv {l : List FeeT} (h : List Blk) : ∀ c ∈ l, Iv Tryz.prog Γ0 (fnv 96) [ag c.row] h (bool (wrongF c)) h :=
 fun c _ => Iv.of (f := 96) (fi := []) (ca := []) pok (by kernel_rfl) (by kernel_rfl) (wrongF_ev c h)
def badS (s : Sys) : Bool := decide (IntKind.i64.wrap ((lastIx wrongB s.classes : Int) + (lastIx wrongB s.honours : Int)) > 0) || decide ((lastIx wrongF s.fees : Int) > 0)
def errS (s : Sys) : Int := if badS s then 1 else 0
theorem sCheck_ev {s : Sys} (hs : s.ok) (h : List Blk) : Ev Tryz.prog Γ0 43 [.agg s.cells] h (int (errS s)) h := by
 have h1 := lastCls_ev hs.lc (wrongB_iv hs.c [.var s.cells])
 have h2 := lastCls_ev hs.lh (wrongB_iv hs.h [.var s.cells])
 have h3 := lastFee_ev hs.lf (wrongF_iv (l := s.fees) [.var s.cells])
 cases hb : badS s
 ·simp only [errS, hb]
  exact Ev.sym0 pok (φ := [Ev Tryz.prog Γ0 95 [rD (s.classes.map Cls.row), fnv 94] [.var s.cells] (int (lastIx wrongB s.classes)) [.var s.cells],
   Ev Tryz.prog Γ0 95 [rD (s.honours.map Cls.row), fnv 94] [.var s.cells] (int (lastIx wrongB s.honours)) [.var s.cells],
   (!decide (IntKind.i64.wrap ((lastIx wrongB s.classes : Int) + (lastIx wrongB s.honours : Int)) > 0)) = true → Ev Tryz.prog Γ0 92 [rD (s.fees.map FeeT.row), fnv 96] [.var s.cells] (int (lastIx wrongF s.fees)) [.var s.cells], badS s = false])
   [.val (int (lastIx wrongB s.classes)), .val (int (lastIx wrongB s.honours)), .val (int (lastIx wrongF s.fees)), .b false] (by kernel_rfl) ⟨h1, h2, fun _ => h3, hb, trivial⟩ rfl rfl h
 ·simp only [errS, hb]
  exact Ev.sym0 pok (φ := [Ev Tryz.prog Γ0 95 [rD (s.classes.map Cls.row), fnv 94] [.var s.cells] (int (lastIx wrongB s.classes)) [.var s.cells],
   Ev Tryz.prog Γ0 95 [rD (s.honours.map Cls.row), fnv 94] [.var s.cells] (int (lastIx wrongB s.honours)) [.var s.cells],
   (!decide (IntKind.i64.wrap ((lastIx wrongB s.classes : Int) + (lastIx wrongB s.honours : Int)) > 0)) = true → Ev Tryz.prog Γ0 92 [rD (s.fees.map FeeT.row), fnv 96] [.var s.cells] (int (lastIx wrongF s.fees)) [.var s.cells], badS s = true])
   [.val (int (lastIx wrongB s.classes)), .val (int (lastIx wrongB s.honours)), .val (int (lastIx wrongF s.fees)), .b true] (by kernel_rfl) ⟨h1, h2, fun _ => h3, hb, trivial⟩ rfl rfl h
def feeR (s : Sys) (x : Int) : Int × Int := if errS s != 0 || !amt x then (0, 1) else (lastIx (fun f : FeeT => decide (f.credits ≤ x)) s.fees, 0)
theorem feeP_ev (f : FeeT) (s : Sys) (x : Int) : Ev Tryz.prog Γ0 93 [ag f.row, .ref (.ptr 1 0)] [.var s.cells, .var [int x]] (bool (decide (f.credits ≤ x))) [.var s.cells, .var [int x]] :=
 Ev.symT pok (φ := []) [] (by kernel_rfl) trivial
theorem fee_ev {s : Sys} (hs : s.ok) (x : Int) (h : List Blk) : Ev Tryz.prog Γ0 41 [.agg s.cells, int x] h (.tup [int (feeR s x).1, int (feeR s x).2]) h := by
 have h1 := sCheck_ev hs [.var s.cells, .var [int x]]
 have h2 := amount_ev x [.var s.cells, .var [int x]]
 cases hb : errS s != 0 || !amt x
 ·have h3 := lastFee_ev (f := .fn (.func 93) [] [.ref (.ptr 1 0)]) (h := [.var s.cells, .var [int x]]) hs.lf (p := fun f : FeeT => decide (f.credits ≤ x)) (fun c _ => Iv.of (f := 93) (fi := []) (ca := [.ref (.ptr 1 0)]) pok (by kernel_rfl) (by kernel_rfl) (feeP_ev c s x))
  simp only [feeR, hb]
  exact Ev.sym0 pok (φ := [Ev Tryz.prog Γ0 43 [.agg s.cells] [.var s.cells, .var [int x]] (int (errS s)) [.var s.cells, .var [int x]],
   (!errS s != 0) = true → Ev Tryz.prog Γ0 91 [int x] [.var s.cells, .var [int x]] (bool (amt x)) [.var s.cells, .var [int x]], (errS s != 0 || !amt x) = false,
   Ev Tryz.prog Γ0 92 [rD (s.fees.map FeeT.row), .fn (.func 93) [] [.ref (.ptr 1 0)]] [.var s.cells, .var [int x]] (int (lastIx (fun f : FeeT => decide (f.credits ≤ x)) s.fees)) [.var s.cells, .var [int x]]])
   [.val (int (errS s)), .val (bool (amt x)), .b false, .val (int (lastIx (fun f : FeeT => decide (f.credits ≤ x)) s.fees))] (by kernel_rfl) ⟨h1, fun _ => h2, hb, h3, trivial⟩ rfl rfl h
 ·simp only [feeR, hb]
  exact Ev.sym0 pok (φ := [Ev Tryz.prog Γ0 43 [.agg s.cells] [.var s.cells, .var [int x]] (int (errS s)) [.var s.cells, .var [int x]],
   (!errS s != 0) = true → Ev Tryz.prog Γ0 91 [int x] [.var s.cells, .var [int x]] (bool (amt x)) [.var s.cells, .var [int x]], (errS s != 0 || !amt x) = true])
   [.val (int (errS s)), .val (bool (amt x)), .b true] (by kernel_rfl) ⟨h1, fun _ => h2, hb, trivial⟩ rfl rfl h
end Go.Vi
open Go Go.Proofs
namespace Go.Vi
set_option maxRecDepth 100000
set_option maxHeartbeats 40000
theorem isNaN_ev (a : Int) (h : List Blk) : Ev Tryz.prog Γ0 123 [int a] h (bool false) h := by
 have := Ev.sym0 (P := Tryz.prog) (Γ := Γ0) (f := 123) (args := [int a]) (d := bool (a != a)) pok (φ := []) [] (by kernel_rfl) trivial rfl rfl h
 simpa using this
def cmpI (a b : Int) : Int := if a < b then -1 else if a > b then 1 else 0
theorem cmpI_ev (a b : Int) (h : List Blk) : Ev Tryz.prog Γ0 66 [int a, int b] h (int (cmpI a b)) h := by
 by_cases h1 : a < b
 ·simp only [cmpI, h1, if_true]
  exact Ev.sym0 pok (φ := [Ev Tryz.prog Γ0 123 [int a] [] (bool false) [], Ev Tryz.prog Γ0 123 [int b] [] (bool false) [], false = false, false = false, decide (a < b) = true])
   [.val (bool false), .val (bool false), .b false, .b false, .b true] (by kernel_rfl) ⟨isNaN_ev _ _, isNaN_ev _ _, rfl, rfl, decide_eq_true h1, trivial⟩ rfl rfl h
 ·by_cases h2 : a > b
  ·simp only [cmpI, h1, h2, if_true, if_false]
   exact Ev.sym0 pok (φ := [Ev Tryz.prog Γ0 123 [int a] [] (bool false) [], Ev Tryz.prog Γ0 123 [int b] [] (bool false) [], false = false, false = false, decide (a < b) = false, decide (a > b) = true])
    [.val (bool false), .val (bool false), .b false, .b false, .b false, .b true] (by kernel_rfl) ⟨isNaN_ev _ _, isNaN_ev _ _, rfl, rfl, decide_eq_false h1, decide_eq_true h2, trivial⟩ rfl rfl h
  ·simp only [cmpI, h1, h2, if_false]
   exact Ev.sym0 pok (φ := [Ev Tryz.prog Γ0 123 [int a] [] (bool false) [], Ev Tryz.prog Γ0 123 [int b] [] (bool false) [], false = false, false = false, decide (a < b) = false, decide (a > b) = false])
    [.val (bool false), .val (bool false), .b false, .b false, .b false, .b false] (by kernel_rfl) ⟨isNaN_ev _ _, isNaN_ev _ _, rfl, rfl, decide_eq_false h1, decide_eq_false h2, trivial⟩ rfl rfl h
def crossI (a b c d : Int) : Int := cmpI (IntKind.i64.wrap (a * d)) (IntKind.i64.wrap (c * b))
def cmpR (a b c d : Int) : Int × Int := if errR a b != 0 then (0, errR a b) else if errR c d != 0 then (0, errR c d) else (crossI a b c d, 0)
abbrev hAB (a b c d : Int) : List Blk := [.var [int a, int b], .var [int c, int d]]
abbrev fAB : D := .fn (.func 103) [] [.ref (.ptr 0 0), .ref (.ptr 1 0)]
theorem cross_ev (a b c d : Int) : Ev Tryz.prog Γ0 103 [.ref (.ptr 0 0), .ref (.ptr 1 0)] (hAB a b c d ++ hAB a b c d) (.tup [int (crossI a b c d), int 0]) (hAB a b c d ++ hAB a b c d) :=
 Ev.symT pok (φ := [Ev Tryz.prog Γ0 66 [int (IntKind.i64.wrap (a * d)), int (IntKind.i64.wrap (c * b))] (hAB a b c d ++ hAB a b c d) (int (crossI a b c d)) (hAB a b c d ++ hAB a b c d)])
  [.val (int (crossI a b c d))] (by kernel_rfl) ⟨cmpI_ev _ _ _, trivial⟩
def bothS (a b c d : Int) (i : Nat) : AS := { t := mkT 28 0 [(2, fAB), (6, int 0), (7, int 0), (13, .agg [int a, int b, int c, int d]), (14, int i)], h := hAB a b c d ++ hAB a b c d, m := [] }
theorem both_1 {a b : Int} (c d : Int) (ha : I64 a) (hb : I64 b) (h0 : (errR a b != 0) = false) : CW Tryz.prog Γ0 (hAB a b c d) false (sub Tryz.f102 0) (bothS a b c d 0) .normal (bothS a b c d 1) := by
 have := CW.symT (P := Tryz.prog) (Γ := Γ0) (h0 := hAB a b c d) (rd := false) (c := sub Tryz.f102 0) (s := bothS a b c d 0) (e := .normal) (s' := { t := mkT 28 0 [(2, fAB), (6, int 0), (7, int 0), (13, .agg [int a, int b, int c, int d]), (14, int (IntKind.i64.wrap (0 + 1)))], h := hAB a b c d ++ hAB a b c d, m := [] }) pok
  (φ := [decide ((0 : Int) < 2) = true, inR 0 2 = true, Ev Tryz.prog Γ0 49 [.agg [int a, int b]] (hAB a b c d ++ hAB a b c d ++ [.var [int a, int b]]) (int (errR a b)) (hAB a b c d ++ hAB a b c d ++ [.var [int a, int b]]), (errR a b != 0) = false])
  [2, 6, 7, 13, 14] 4 (Nat.le_of_ble_eq_true rfl) [.b true, .val (int (errR a b)), .b false] (by kernel_rfl) ⟨by decide, by decide, check_ev ha hb _, h0, trivial⟩
 exact this
theorem both_2 (a b : Int) {c d : Int} (hc : I64 c) (hd : I64 d) (h0 : (errR c d != 0) = false) : CW Tryz.prog Γ0 (hAB a b c d) false (sub Tryz.f102 0) (bothS a b c d 1) .normal (bothS a b c d 2) := by
 have := CW.symT (P := Tryz.prog) (Γ := Γ0) (h0 := hAB a b c d) (rd := false) (c := sub Tryz.f102 0) (s := bothS a b c d 1) (e := .normal) (s' := { t := mkT 28 0 [(2, fAB), (6, int 0), (7, int 0), (13, .agg [int a, int b, int c, int d]), (14, int (IntKind.i64.wrap (1 + 1)))], h := hAB a b c d ++ hAB a b c d, m := [] }) pok
  (φ := [decide ((1 : Int) < 2) = true, inR 1 2 = true, Ev Tryz.prog Γ0 49 [.agg [int c, int d]] (hAB a b c d ++ hAB a b c d ++ [.var [int c, int d]]) (int (errR c d)) (hAB a b c d ++ hAB a b c d ++ [.var [int c, int d]]), (errR c d != 0) = false])
  [2, 6, 7, 13, 14] 4 (Nat.le_of_ble_eq_true rfl) [.b true, .val (int (errR c d)), .b false] (by kernel_rfl) ⟨by decide, by decide, check_ev hc hd _, h0, trivial⟩
 exact this
def retS (a b c d e : Int) : AS := { t := mkT 28 0 [(6, int 0), (7, int e)], h := hAB a b c d ++ hAB a b c d, m := [] }
theorem both_loop {a b c d : Int} (ha : I64 a) (hb : I64 b) (hc : I64 c) (hd : I64 d) :
  (∃ e, cmpR a b c d = (0, e) ∧ CW Tryz.prog Γ0 (hAB a b c d) false (.loop (sub Tryz.f102 0)) (bothS a b c d 0) .ret (retS a b c d e)) ∨
  (cmpR a b c d = (crossI a b c d, 0) ∧ CW Tryz.prog Γ0 (hAB a b c d) false (.loop (sub Tryz.f102 0)) (bothS a b c d 0) (.exit 0) { t := mkT 28 0 [(2, fAB), (6, int 0), (7, int 0)], h := hAB a b c d ++ hAB a b c d, m := [] }) := by
 cases h0 : errR a b != 0
 ·cases h1 : errR c d != 0
  ·refine .inr ⟨by simp [cmpR, h0, h1], ?_⟩
   refine CW.loopN 2 (bothS a b c d) (by simp) (fun i hi => ?_) ?_
   ·match i, hi with
    | 0, _ => exact both_1 c d ha hb h0
    | 1, _ => exact both_2 a b hc hd h1
   ·exact CW.symT pok (φ := [decide ((2 : Int) < 2) = false]) [2, 6, 7] 4 (Nat.le_of_ble_eq_true rfl) [.b false] (by kernel_rfl) ⟨by decide, trivial⟩
  ·refine .inl ⟨errR c d, by simp [cmpR, h0, h1], ?_⟩
   refine CW.loopN 1 (bothS a b c d) (by simp) (fun i hi => ?_) ?_
   ·match i, hi with
    | 0, _ => exact both_1 c d ha hb h0
   ·exact CW.symT pok (φ := [decide ((1 : Int) < 2) = true, inR 1 2 = true, Ev Tryz.prog Γ0 49 [.agg [int c, int d]] (hAB a b c d ++ hAB a b c d ++ [.var [int c, int d]]) (int (errR c d)) (hAB a b c d ++ hAB a b c d ++ [.var [int c, int d]]), (errR c d != 0) = true])
     [6, 7] 4 (Nat.le_of_ble_eq_true rfl) [.b true, .val (int (errR c d)), .b true] (by kernel_rfl) ⟨by decide, by decide, check_ev hc hd _, h1, trivial⟩
 ·refine .inl ⟨errR a b, by simp [cmpR, h0], ?_⟩
  refine CW.loopN 0 (bothS a b c d) (by simp) (fun i hi => absurd hi (Nat.not_lt_zero i)) ?_
  exact CW.symT pok (φ := [decide ((0 : Int) < 2) = true, inR 0 2 = true, Ev Tryz.prog Γ0 49 [.agg [int a, int b]] (hAB a b c d ++ hAB a b c d ++ [.var [int a, int b]]) (int (errR a b)) (hAB a b c d ++ hAB a b c d ++ [.var [int a, int b]]), (errR a b != 0) = true])
     [6, 7] 4 (Nat.le_of_ble_eq_true rfl) [.b true, .val (int (errR a b)), .b true] (by kernel_rfl) ⟨by decide, by decide, check_ev ha hb _, h0, trivial⟩
theorem both_ev {a b c d : Int} (ha : I64 a) (hb : I64 b) (hc : I64 c) (hd : I64 d) : Ev Tryz.prog Γ0 102 [.agg [int a, int b], .agg [int c, int d], fAB] (hAB a b c d) (.tup [int (cmpR a b c d).1, int (cmpR a b c d).2]) (hAB a b c d) := by
 rcases both_loop ha hb hc hd with ⟨e, h1, h2⟩ | ⟨h1, h2⟩
 ·rw [h1]
  exact Ev.symT pok (φ := [CW Tryz.prog Γ0 (hAB a b c d) false (.loop (sub Tryz.f102 0)) (bothS a b c d 0) .ret (retS a b c d e)])
   [.sum [2, 6, 7, 13, 14] .ret (retS a b c d e)] (by kernel_rfl) ⟨h2, trivial⟩
 ·rw [h1]
  exact Ev.symT pok (φ := [CW Tryz.prog Γ0 (hAB a b c d) false (.loop (sub Tryz.f102 0)) (bothS a b c d 0) (.exit 0) { t := mkT 28 0 [(2, fAB), (6, int 0), (7, int 0)], h := hAB a b c d ++ hAB a b c d, m := [] },
   Ev Tryz.prog Γ0 103 [.ref (.ptr 0 0), .ref (.ptr 1 0)] (hAB a b c d ++ hAB a b c d) (.tup [int (crossI a b c d), int 0]) (hAB a b c d ++ hAB a b c d)])
   [.sum [2, 6, 7, 13, 14] (.exit 0) { t := mkT 28 0 [(2, fAB), (6, int 0), (7, int 0)], h := hAB a b c d ++ hAB a b c d, m := [] }, .val (.tup [int (crossI a b c d), int 0])] (by kernel_rfl)
   ⟨h2, cross_ev _ _ _ _, trivial⟩
theorem compare_ev {a b c d : Int} (ha : I64 a) (hb : I64 b) (hc : I64 c) (hd : I64 d) (h : List Blk) : Ev Tryz.prog Γ0 51 [.agg [int a, int b], .agg [int c, int d]] h (.tup [int (cmpR a b c d).1, int (cmpR a b c d).2]) h :=
 Ev.sym0 pok (φ := [Ev Tryz.prog Γ0 102 [.agg [int a, int b], .agg [int c, int d], fAB] (hAB a b c d) (.tup [int (cmpR a b c d).1, int (cmpR a b c d).2]) (hAB a b c d)])
  [.val (.tup [int (cmpR a b c d).1, int (cmpR a b c d).2])] (by kernel_rfl) ⟨both_ev ha hb hc hd, trivial⟩ rfl rfl h
def holdsB (earned n d : Int) (c : Cls) : Bool := decide ((cmpR c.num c.den n d).1 ≤ 0) && decide (c.earn ≤ earned)
abbrev hOf (s : Sys) (earned n d : Int) : List Blk := [.var s.cells, .var [int earned], .var [int n, int d]]
theorem holdsP_ev {c : Cls} (hc : c.ok) (s : Sys) {earned n d : Int} (hn : I64 n) (hd : I64 d) : Ev Tryz.prog Γ0 141 [ag c.row, .ref (.ptr 2 0), .ref (.ptr 1 0)] (hOf s earned n d) (bool (holdsB earned n d c)) (hOf s earned n d) :=
 Ev.symT pok (φ := [Ev Tryz.prog Γ0 51 [.agg [int c.num, int c.den], .agg [int n, int d]] (hOf s earned n d ++ [.var (c.row.map .p)]) (.tup [int (cmpR c.num c.den n d).1, int (cmpR c.num c.den n d).2]) (hOf s earned n d ++ [.var (c.row.map .p)])])
  [.val (.tup [int (cmpR c.num c.den n d).1, int (cmpR c.num c.den n d).2])] (by kernel_rfl) ⟨compare_ev hc.2.1 hc.2.2 hn hd _, trivial⟩
def ofR (s : Sys) (l : List Cls) (earned n d : Int) : Int × Int :=
 if errS s != 0 || !amt earned then (0, 1) else if errR n d != 0 then (0, errR n d) else (lastIx (holdsB earned n d) l, 0)
theorem of_ev {s : Sys} (hs : s.ok) {l : List Cls} (hl : ∀ c ∈ l, c.ok) (hsl : Short l) {earned n d : Int} (hn : I64 n) (hd : I64 d) (h : List Blk) :
  Ev Tryz.prog Γ0 89 [.agg s.cells, rD (l.map Cls.row), int earned, .agg [int n, int d]] h (.tup [int (ofR s l earned n d).1, int (ofR s l earned n d).2]) h := by
 have h1 := sCheck_ev hs (hOf s earned n d)
 have h2 := amount_ev earned (hOf s earned n d)
 have h4 := check_ev hn hd (hOf s earned n d)
 cases h0 : errS s != 0 || !amt earned
 ·cases h3 : errR n d != 0
  ·have h5 := lastCls_ev (f := .fn (.func 141) [] [.ref (.ptr 2 0), .ref (.ptr 1 0)]) (h := hOf s earned n d) hsl (p := holdsB earned n d) (fun c hc => Iv.of (f := 141) (fi := []) (ca := [.ref (.ptr 2 0), .ref (.ptr 1 0)]) pok (by kernel_rfl) (by kernel_rfl) (holdsP_ev (hl c hc) s hn hd))
   simp only [ofR, h0, h3]
   exact Ev.sym0 pok (φ := [Ev Tryz.prog Γ0 43 [.agg s.cells] (hOf s earned n d) (int (errS s)) (hOf s earned n d),
    (!errS s != 0) = true → Ev Tryz.prog Γ0 91 [int earned] (hOf s earned n d) (bool (amt earned)) (hOf s earned n d), (errS s != 0 || !amt earned) = false,
    Ev Tryz.prog Γ0 49 [.agg [int n, int d]] (hOf s earned n d) (int (errR n d)) (hOf s earned n d), (errR n d != 0) = false,
    Ev Tryz.prog Γ0 95 [rD (l.map Cls.row), .fn (.func 141) [] [.ref (.ptr 2 0), .ref (.ptr 1 0)]] (hOf s earned n d) (int (lastIx (holdsB earned n d) l)) (hOf s earned n d)])
    [.val (int (errS s)), .val (bool (amt earned)), .b false, .val (int (errR n d)), .b false, .val (int (lastIx (holdsB earned n d) l))] (by kernel_rfl) ⟨h1, fun _ => h2, h0, h4, h3, h5, trivial⟩ rfl rfl h
  ·simp only [ofR, h0, h3]
   exact Ev.sym0 pok (φ := [Ev Tryz.prog Γ0 43 [.agg s.cells] (hOf s earned n d) (int (errS s)) (hOf s earned n d),
    (!errS s != 0) = true → Ev Tryz.prog Γ0 91 [int earned] (hOf s earned n d) (bool (amt earned)) (hOf s earned n d), (errS s != 0 || !amt earned) = false,
    Ev Tryz.prog Γ0 49 [.agg [int n, int d]] (hOf s earned n d) (int (errR n d)) (hOf s earned n d), (errR n d != 0) = true])
    [.val (int (errS s)), .val (bool (amt earned)), .b false, .val (int (errR n d)), .b true] (by kernel_rfl) ⟨h1, fun _ => h2, h0, h4, h3, trivial⟩ rfl rfl h
 ·simp only [ofR, h0]
  exact Ev.sym0 pok (φ := [Ev Tryz.prog Γ0 43 [.agg s.cells] (hOf s earned n d) (int (errS s)) (hOf s earned n d),
    (!errS s != 0) = true → Ev Tryz.prog Γ0 91 [int earned] (hOf s earned n d) (bool (amt earned)) (hOf s earned n d), (errS s != 0 || !amt earned) = true])
    [.val (int (errS s)), .val (bool (amt earned)), .b true] (by kernel_rfl) ⟨h1, fun _ => h2, h0, trivial⟩ rfl rfl h
abbrev tupR (r : Int × Int) : D := .tup [int r.1, int r.2]
theorem class_ev {s : Sys} (hs : s.ok) {earned n d : Int} (hn : I64 n) (hd : I64 d) (h : List Blk) : Ev Tryz.prog Γ0 37 [.agg s.cells, int earned, .agg [int n, int d]] h (tupR (ofR s s.classes earned n d)) h :=
 Ev.sym0 pok (φ := [Ev Tryz.prog Γ0 89 [.agg s.cells, rD (s.classes.map Cls.row), int earned, .agg [int n, int d]] [.var s.cells, .var [int n, int d]] (tupR (ofR s s.classes earned n d)) [.var s.cells, .var [int n, int d]]])
  [.val (tupR (ofR s s.classes earned n d))] (by kernel_rfl) ⟨of_ev hs hs.c hs.lc hn hd _, trivial⟩ rfl rfl h
theorem honour_ev {s : Sys} (hs : s.ok) {earned n d : Int} (hn : I64 n) (hd : I64 d) (h : List Blk) : Ev Tryz.prog Γ0 39 [.agg s.cells, int earned, .agg [int n, int d]] h (tupR (ofR s s.honours earned n d)) h :=
 Ev.sym0 pok (φ := [Ev Tryz.prog Γ0 89 [.agg s.cells, rD (s.honours.map Cls.row), int earned, .agg [int n, int d]] [.var s.cells, .var [int n, int d]] (tupR (ofR s s.honours earned n d)) [.var s.cells, .var [int n, int d]]])
  [.val (tupR (ofR s s.honours earned n d))] (by kernel_rfl) ⟨of_ev hs hs.h hs.lh hn hd _, trivial⟩ rfl rfl h
end Go.Vi
open Go Go.Proofs
namespace Go.Vi
set_option maxRecDepth 100000
set_option maxHeartbeats 40000
theorem wrap_succ {i n : Nat} (h : i < n) (hn : n ≤ 140737488355328) : IntKind.i64.wrap ((i : Int) + 1) = ((i + 1 : Nat) : Int) := by
 rw [wrap_i64 (by omega) (by omega)]; omega
theorem lt_len {α : Type} (row : α → List Dp) {l : List α} {i : Nat} (h : i < l.length) : decide ((i : Int) < ((l.map row).length : Int)) = true := by simp; omega
theorem ge_len {α : Type} (row : α → List Dp) (l : List α) : decide ((l.length : Int) < ((l.map row).length : Int)) = false := by simp
end Go.Vi
open Go Go.Proofs
namespace Go.Vi
set_option maxRecDepth 100000
set_option maxHeartbeats 40000
def few (s : Vi.Sys) : Bool := decide (IntKind.i64.wrap (IntKind.i64.wrap (IntKind.i64.wrap (((s.classes.map Cls.row).length : Int) + ((s.fees.map FeeT.row).length : Int)) + ((s.honours.map Cls.row).length : Int)) + (s.clauses.length : Int)) ≤ 40)
theorem few_ev (s : Vi.Sys) (h : List Blk) : Ev Tryz.prog Γ0 36 [.agg s.cells] h (bool (few s)) h :=
 Ev.sym0 pok (φ := []) [] (by kernel_rfl) trivial rfl rfl h
end Go.Vi
open Go Go.Proofs
namespace Go.Vi
set_option maxRecDepth 100000
end Go.Vi
open Go Go.Proofs
namespace Go.Vi
set_option maxRecDepth 100000
set_option maxHeartbeats 0
def okTrue (r : Option CR) : Bool := match r with
 | some (.ret (.p (.v (.bool true))) []) => true
 | _ => false
theorem sane21_run : okTrue (runF Tryz.prog Γ0 100000 35 [] []) = true := by kernel_rfl
theorem of_okTrue {r : Option CR} (h : okTrue r = true) : r = some (.ret (bool true) []) := by
 unfold okTrue at h
 split at h
 ·rfl
 ·simp at h
theorem sane21_ev (h : List Blk) : Ev Tryz.prog Γ0 35 [] h (bool true) h := Ev.frame0 rfl (VCall.of_run pok (of_okTrue sane21_run)) h
end Go.Vi
open Go Go.Proofs
namespace Go.Vi
set_option maxRecDepth 100000
set_option maxHeartbeats 400000
end Go.Vi
open Go Go.Proofs
namespace Go.Vi
open Go.ChangeShapes Go.WideShapes Go.ChangeAt Go.RowKit Go.Proofs.YtilebidefogaiaaGreatDoor
set_option maxRecDepth 100000
theorem cells3 : Tryz.prog.cellsOf 3 = 1 := by kernel_rfl
theorem cells9 : Tryz.prog.cellsOf 9 = 1 := by kernel_rfl
theorem cells35 : Tryz.prog.cellsOf 35 = 2 := by kernel_rfl
theorem cells72 : Tryz.prog.cellsOf 72 = 1 := by kernel_rfl
theorem cells73 : Tryz.prog.cellsOf 73 = 1 := by kernel_rfl
theorem cells74 : Tryz.prog.cellsOf 74 = 1 := by kernel_rfl
theorem cells76 : Tryz.prog.cellsOf 76 = 4 := by kernel_rfl
theorem cells87 : Tryz.prog.cellsOf 87 = 2 := by kernel_rfl
theorem cells91 : Tryz.prog.cellsOf 91 = 4 := by kernel_rfl
theorem bytes91 : Tryz.prog.bytesOf 91 = 40 := by kernel_rfl
theorem bytes87 : Tryz.prog.bytesOf 87 = 24 := by kernel_rfl
theorem bytes102 : Tryz.prog.bytesOf 102 = 32 := by kernel_rfl
theorem shp_int {n : Nat} {ds : List Dp} (h : Shp Tryz.prog n 3 ds) : ∃ x, ds = [vi x] ∧ I64 x := by
 cases n with
 | zero => exact h.elim
 | succ n =>
  simp only [Shp, Tryz.underlying3] at h
  obtain ⟨x, rfl, hw⟩ := h
  refine ⟨x, rfl, ?_⟩
  have := bounds_i64 hw
  exact this
theorem shp_str {n : Nat} {ds : List Dp} (h : Shp Tryz.prog n 9 ds) : ∃ s, ds = [vs s] := by
 cases n with
 | zero => exact h.elim
 | succ n =>
  simp only [Shp, Tryz.underlying9] at h
  obtain ⟨s, rfl, _⟩ := h
  exact ⟨s, rfl⟩
theorem shp_ratio {n : Nat} {ds : List Dp} (h : Shp Tryz.prog n 35 ds) : ∃ a b, ds = [vi a, vi b] ∧ I64 a ∧ I64 b := by
 cases n with
 | zero => exact h.elim
 | succ n =>
  simp only [Shp, Tryz.underlying35, List.forall_mem_cons, cells3, cells35] at h
  obtain ⟨hl, h1, h2, _⟩ := h
  obtain ⟨a, e1, ha⟩ := shp_int h1
  obtain ⟨b, e2, hb⟩ := shp_int h2
  match ds, hl with
  | [x, y], _ =>
   simp at e1 e2
   subst e1; subst e2
   exact ⟨a, b, rfl, ha, hb⟩
theorem shp_class {n : Nat} {ds : List Dp} (h : Shp Tryz.prog n 91 ds) : ∃ c : Cls, ds = c.row ∧ c.ok := by
 cases n with
 | zero => exact h.elim
 | succ n =>
  simp only [Shp, Tryz.underlying91, List.forall_mem_cons, cells3, cells9, cells35, cells91] at h
  obtain ⟨hl, h1, h2, h3, _⟩ := h
  obtain ⟨s, e1⟩ := shp_str h1
  obtain ⟨x, e2, hx⟩ := shp_int h2
  obtain ⟨a, b, e3, ha, hb⟩ := shp_ratio h3
  match ds, hl with
  | [p, q, r, t], _ =>
   simp at e1 e2 e3
   obtain ⟨rfl, rfl⟩ := e3
   subst e1; subst e2
   exact ⟨⟨s, x, a, b⟩, rfl, hx, ha, hb⟩
theorem shp_fee {n : Nat} {ds : List Dp} (h : Shp Tryz.prog n 87 ds) : ∃ c : FeeT, ds = c.row ∧ I64 c.credits := by
 cases n with
 | zero => exact h.elim
 | succ n =>
  simp only [Shp, Tryz.underlying87, List.forall_mem_cons, cells3, cells9, cells87] at h
  obtain ⟨hl, h1, h2, _⟩ := h
  obtain ⟨s, e1⟩ := shp_str h1
  obtain ⟨x, e2, hx⟩ := shp_int h2
  match ds, hl with
  | [p, q], _ =>
   simp at e1 e2
   subst e1; subst e2
   exact ⟨⟨s, x⟩, rfl, hx⟩
theorem map_of {α : Type} {row : α → List Dp} {ok : α → Prop} : ∀ {es : List (List Dp)}, (∀ r ∈ es, ∃ a, r = row a ∧ ok a) → ∃ l : List α, es = l.map row ∧ ∀ a ∈ l, ok a
 | [], _ => ⟨[], rfl, by simp⟩
 | r :: es, h => by
  obtain ⟨a, rfl, ha⟩ := h r (List.mem_cons_self ..)
  obtain ⟨l, rfl, hl⟩ := map_of (fun r hr => h r (List.mem_cons_of_mem _ hr))
  exact ⟨a :: l, rfl, fun b hb => (List.mem_cons.1 hb).elim (fun e => e ▸ ha) (hl b)⟩
theorem short_of {n k : Nat} (h : n * k ≤ reachBytes) (hk : 1 ≤ k) : n ≤ 140737488355328 := by
 have : n ≤ n * k := Nat.le_mul_of_pos_right n hk
 unfold reachBytes at h
 omega
theorem shp_classes {n : Nat} {ds : List Dp} (h : Shp Tryz.prog n 72 ds) : ∃ l : List Cls, ds = [.sl (l.map Cls.row)] ∧ (∀ c ∈ l, c.ok) ∧ Short l := by
 cases n with
 | zero => exact h.elim
 | succ n =>
  simp only [Shp, Tryz.underlying72, bytes91] at h
  obtain ⟨es, rfl, hb, he⟩ := h
  obtain ⟨l, rfl, hl⟩ := map_of (row := Cls.row) (ok := Cls.ok) (fun r hr => shp_class (he r hr))
  exact ⟨l, rfl, hl, by have := short_of hb (by omega); simpa [Short] using this⟩
theorem shp_fees {n : Nat} {ds : List Dp} (h : Shp Tryz.prog n 73 ds) : ∃ l : List FeeT, ds = [.sl (l.map FeeT.row)] ∧ (∀ c ∈ l, I64 c.credits) ∧ Short l := by
 cases n with
 | zero => exact h.elim
 | succ n =>
  simp only [Shp, Tryz.underlying73, bytes87] at h
  obtain ⟨es, rfl, hb, he⟩ := h
  obtain ⟨l, rfl, hl⟩ := map_of (row := FeeT.row) (ok := fun c => I64 c.credits) (fun r hr => shp_fee (he r hr))
  exact ⟨l, rfl, hl, by have := short_of hb (by omega); simpa [Short] using this⟩
end Go.Vi
open Go Go.Proofs
namespace Go.Vi
open Go.ChangeShapes Go.WideShapes Go.ChangeAt Go.RowKit Go.Proofs.YtilebidefogaiaaGreatDoor
set_option maxRecDepth 100000
theorem ownK : ownKnob Tryz.prog.godebug = none := by kernel_rfl
theorem laidOut : laidOutB Tryz.prog = true := by kernel_rfl
def kd (a b c d : Bool) (f g : Value) : List Value := [.bool a, .bool b, .bool c, .bool d, f, g]
def kf (k : Nat) : Value := .func (.func k) #[] #[]
def kindsCells : List Value :=
 kd false false false false .nilFunc .nilFunc ++ kd false false false true (kf 257) (kf 258) ++ kd false false false true (kf 259) (kf 260) ++ kd false true false true (kf 261) (kf 262) ++
 kd false false false true (kf 263) (kf 264) ++ kd true true false false (kf 265) (kf 267) ++ kd true true false false (kf 269) (kf 270) ++ kd false true false false (kf 271) (kf 272) ++
 kd false true true false (kf 273) (kf 274) ++ kd true false false false (kf 266) (kf 275)
noncomputable def laidWorld (os : Os) : World :=
 { World.holding Tryz.prog os ⟨#[], #[], []⟩ with heap := (World.holding Tryz.prog os ⟨#[], #[], []⟩).heap.modify 0 fun
   | .cells _ t frozen => .cells kindsCells.toArray t frozen
   | o => o }
theorem laid_met (os : Os) (args : Array Value) : laidMetH Tryz.prog [("sizar/rules.kinds", Rows.laid_sizar_rules_kinds)] ((laidWorld os).forCall (fun _ _ => 0) ⟨#[], args, []⟩).memory :=
 laidMetH_of_parts3 (fuel := 8) (laidMet_nil _ _) (by kernel_rfl) (by kernel_rfl)
end Go.Vi
open Go Go.Proofs
namespace Go.Vi
set_option maxRecDepth 100000
set_option maxHeartbeats 4000000
structure FactT where
 kind : Int
 sub : Int
 obj : Int
 value : Int
 frm : Int
 til : Int
 known : Int
 no : Int
 deriving Inhabited
def FactT.row (f : FactT) : List Dp := [vi f.kind, vi f.sub, vi f.obj, vi f.value, vi f.frm, vi f.til, vi f.known, vi f.no]
def FactT.ok (f : FactT) : Prop := I64 f.kind ∧ I64 f.sub ∧ I64 f.obj ∧ I64 f.value ∧ I64 f.frm ∧ I64 f.til ∧ I64 f.known ∧ I64 f.no
def orI (a b : Int) : Int := if (a != 0) = true then a else if (b != 0) = true then b else 0
abbrev orR (a b : Int) : List (List Dp) := [[vi a], [vi b]]
abbrev orS (a b : Int) (i : Int) (h : List Blk) : AS := { t := mkT 18 0 [(2, int 0), (3, int 0), (6, rD (orR a b)), (7, int 2), (8, int i)], h := h, m := [] }
theorem or_0 {a b : Int} {h0 h : List Blk} (hr : RowAt 0 (orR a b) [vi a] 1) (hz : (a != 0) = false) : (CW Tryz.prog Γ0 h0 false (sub Tryz.f136 0) (orS a b 0 h) .normal (orS a b 1 h)) := by
 refine CW.cast (CW.symX (s' := { t := mkT 18 0 [(2, int 0), (3, int 0), (6, rD [[vi a], [vi b]]), (7, int 2), (8, int (IntKind.wrap IntKind.i64 (0 + 1)))], h := h, m := [] }) (e := Exit.normal) pok [.st (.mask [2, 3, 6, 7, 8])] [.b true, .row [vi a], .b false] (by kernel_rfl) (.c (show decide (0 < 2) = true from rfl) (.c hr (.c hz .n)))) ?_ ?_ <;> (first | rfl | simp_all)
theorem or_1 {a b : Int} {h0 h : List Blk} (hr : RowAt 1 (orR a b) [vi b] 1) (hz : (b != 0) = false) : (CW Tryz.prog Γ0 h0 false (sub Tryz.f136 0) (orS a b 1 h) .normal (orS a b 2 h)) := by
 refine CW.cast (CW.symX (s' := { t := mkT 18 0 [(2, int 0), (3, int 0), (6, rD [[vi a], [vi b]]), (7, int 2), (8, int (IntKind.wrap IntKind.i64 (1 + 1)))], h := h, m := [] }) (e := Exit.normal) pok [.st (.mask [2, 3, 6, 7, 8])] [.b true, .row [vi b], .b false] (by kernel_rfl) (.c (show decide (1 < 2) = true from rfl) (.c hr (.c hz .n)))) ?_ ?_ <;> (first | rfl | simp_all)
theorem or_0r {a b : Int} {h0 h : List Blk} (hr : RowAt 0 (orR a b) [vi a] 1) (hz : (a != 0) = true) : (CW Tryz.prog Γ0 h0 false (sub Tryz.f136 0) (orS a b 0 h) .ret { t := mkT 18 0 [(2, int a)], h := h, m := [] }) := by
 refine CW.cast (CW.symX (s' := { t := mkT 18 0 [(2, int a)], h := h, m := [] }) (e := Exit.ret) pok [.st (.mask [2])] [.b true, .row [vi a], .b true] (by kernel_rfl) (.c (show decide (0 < 2) = true from rfl) (.c hr (.c hz .n)))) ?_ ?_ <;> (first | rfl | simp_all)
theorem or_1r {a b : Int} {h0 h : List Blk} (hr : RowAt 1 (orR a b) [vi b] 1) (hz : (b != 0) = true) : (CW Tryz.prog Γ0 h0 false (sub Tryz.f136 0) (orS a b 1 h) .ret { t := mkT 18 0 [(2, int b)], h := h, m := [] }) := by
 refine CW.cast (CW.symX (s' := { t := mkT 18 0 [(2, int b)], h := h, m := [] }) (e := Exit.ret) pok [.st (.mask [2])] [.b true, .row [vi b], .b true] (by kernel_rfl) (.c (show decide (1 < 2) = true from rfl) (.c hr (.c hz .n)))) ?_ ?_ <;> (first | rfl | simp_all)
theorem or_2 {a b : Int} {h0 h : List Blk} : (CW Tryz.prog Γ0 h0 false (sub Tryz.f136 0) (orS a b 2 h) (.exit 0) { t := mkT 18 0 [(2, int 0), (3, int 0)], h := h, m := [] }) := by
 refine CW.cast (CW.symX (s' := { t := mkT 18 0 [(2, int 0), (3, int 0)], h := h, m := [] }) (e := Exit.exit 0) pok [.st (.mask [2, 3])] [.b false] (by kernel_rfl) (.c (show decide (2 < 2) = false from rfl) .n)) ?_ ?_ <;> (first | rfl | simp_all)
def orFin (a b : Int) (h : List Blk) : Exit × AS := match a != 0 with
 | true => (.ret, { t := mkT 18 0 [(2, int a)], h := h, m := [] })
 | false => match b != 0 with
  | true => (.ret, { t := mkT 18 0 [(2, int b)], h := h, m := [] })
  | false => (.exit 0, { t := mkT 18 0 [(2, int 0), (3, int 0)], h := h, m := [] })
theorem or_cw {a b : Int} {h0 h : List Blk} : CW Tryz.prog Γ0 h0 false (.loop (sub Tryz.f136 0)) (orS a b 0 h) (orFin a b h).1 (orFin a b h).2 := by
 have r0 : RowAt 0 (orR a b) [vi a] 1 := ⟨rfl, rfl, rfl⟩
 have r1 : RowAt 1 (orR a b) [vi b] 1 := ⟨rfl, rfl, rfl⟩
 unfold orFin
 cases ha : a != 0
 ·cases hb : b != 0
  ·refine CW.loopN 2 (fun i => orS a b i h) (by simp) (fun i hi => ?_) or_2
   match i, hi with
   | 0, _ => exact or_0 r0 ha
   | 1, _ => exact or_1 r1 hb
  ·refine CW.loopN 1 (fun i => orS a b i h) (by simp) (fun i hi => ?_) (or_1r r1 hb)
   match i, hi with
   | 0, _ => exact or_0 r0 ha
 ·exact CW.loopN 0 (fun i => orS a b i h) (by simp) (fun i hi => absurd hi (Nat.not_lt_zero i)) (or_0r r0 ha)
noncomputable abbrev fcmp_ev_x0 (a : FactT) (b : FactT) : List Blk := [.var [int a.kind, int a.sub, int a.obj, int a.value, int a.frm, int a.til, int a.known, int a.no], .var [int b.kind, int b.sub, int b.obj, int b.value, int b.frm, int b.til, int b.known, int b.no]]
theorem fcmp_ev {a b : FactT} (h : List Blk) : (Ev Tryz.prog Γ0 84 [ag a.row, ag b.row] h (int (orI (cmpI a.known b.known) (cmpI a.no b.no))) h) := by
 have hl0 := (@or_cw (cmpI a.known b.known) (cmpI a.no b.no) ([.var [int a.kind, int a.sub, int a.obj, int a.value, int a.frm, int a.til, int a.known, int a.no], .var [int b.kind, int b.sub, int b.obj, int b.value, int b.frm, int b.til, int b.known, int b.no], .vec [[int (cmpI a.known b.known)], [int (cmpI a.no b.no)]] 0 1]) ([.var [int a.kind, int a.sub, int a.obj, int a.value, int a.frm, int a.til, int a.known, int a.no], .var [int b.kind, int b.sub, int b.obj, int b.value, int b.frm, int b.til, int b.known, int b.no], .gone]))
 unfold orFin at hl0
 revert hl0
 cases ho1 : cmpI a.known b.known != 0 with
 | false =>
  intro hl0
  revert hl0
  cases ho2 : cmpI a.no b.no != 0 with
  | false =>
   intro hl0
   exact Ev.castH (Ev.sym0 (d := int 0) pok [.val (int (cmpI a.known b.known)), .val (int (cmpI a.no b.no)), .inl, .st (.frz 2 (orR (cmpI a.known b.known) (cmpI a.no b.no))), .sum [2, 3, 6, 7, 8] (Exit.exit 0) { t := mkT 18 0 [(2, int 0), (3, int 0)], h := [.var [int a.kind, int a.sub, int a.obj, int a.value, int a.frm, int a.til, int a.known, int a.no], .var [int b.kind, int b.sub, int b.obj, int b.value, int b.frm, int b.til, int b.known, int b.no], .gone], m := [] }] (by kernel_rfl) (.c (@cmpI_ev (a.known) (b.known) ((fcmp_ev_x0 a b))) (.c (@cmpI_ev (a.no) (b.no) ((fcmp_ev_x0 a b))) (.c (show [[int (cmpI a.known b.known)], [int (cmpI a.no b.no)]] = [[int (cmpI a.known b.known)], [int (cmpI a.no b.no)]] from rfl) (.c hl0 (.e (.ref (.ptr 0 6)) (.e (int a.known) (.e (.ref (.ptr 1 6)) (.e (int b.known) (.e (.ref (.ptr 0 7)) (.e (.ref (.ptr 0 7)) (.e (int a.no) (.e (int a.no) (.e (.ref (.ptr 1 7)) (.e (.ref (.ptr 1 7)) (.e (int b.no) (.e (int b.no) .n)))))))))))))))) rfl rfl h) (by simp [orI, ho1, ho2]) (by rfl)
  | true =>
   intro hl0
   exact Ev.castH (Ev.sym0 (d := int (cmpI a.no b.no)) pok [.val (int (cmpI a.known b.known)), .val (int (cmpI a.no b.no)), .inl, .st (.frz 2 (orR (cmpI a.known b.known) (cmpI a.no b.no))), .sum [2, 3, 6, 7, 8] (Exit.ret) { t := mkT 18 0 [(2, int (cmpI a.no b.no))], h := [.var [int a.kind, int a.sub, int a.obj, int a.value, int a.frm, int a.til, int a.known, int a.no], .var [int b.kind, int b.sub, int b.obj, int b.value, int b.frm, int b.til, int b.known, int b.no], .gone], m := [] }] (by kernel_rfl) (.c (@cmpI_ev (a.known) (b.known) ((fcmp_ev_x0 a b))) (.c (@cmpI_ev (a.no) (b.no) ((fcmp_ev_x0 a b))) (.c (show [[int (cmpI a.known b.known)], [int (cmpI a.no b.no)]] = [[int (cmpI a.known b.known)], [int (cmpI a.no b.no)]] from rfl) (.c hl0 (.e (.ref (.ptr 0 6)) (.e (int a.known) (.e (.ref (.ptr 1 6)) (.e (int b.known) (.e (.ref (.ptr 0 7)) (.e (.ref (.ptr 0 7)) (.e (int a.no) (.e (int a.no) (.e (.ref (.ptr 1 7)) (.e (.ref (.ptr 1 7)) (.e (int b.no) (.e (int b.no) .n)))))))))))))))) rfl rfl h) (by simp [orI, ho1, ho2]) (by rfl)
 | true =>
  intro hl0
  exact Ev.castH (Ev.sym0 (d := int (cmpI a.known b.known)) pok [.val (int (cmpI a.known b.known)), .val (int (cmpI a.no b.no)), .inl, .st (.frz 2 (orR (cmpI a.known b.known) (cmpI a.no b.no))), .sum [2, 3, 6, 7, 8] (Exit.ret) { t := mkT 18 0 [(2, int (cmpI a.known b.known))], h := [.var [int a.kind, int a.sub, int a.obj, int a.value, int a.frm, int a.til, int a.known, int a.no], .var [int b.kind, int b.sub, int b.obj, int b.value, int b.frm, int b.til, int b.known, int b.no], .gone], m := [] }] (by kernel_rfl) (.c (@cmpI_ev (a.known) (b.known) ((fcmp_ev_x0 a b))) (.c (@cmpI_ev (a.no) (b.no) ((fcmp_ev_x0 a b))) (.c (show [[int (cmpI a.known b.known)], [int (cmpI a.no b.no)]] = [[int (cmpI a.known b.known)], [int (cmpI a.no b.no)]] from rfl) (.c hl0 (.e (.ref (.ptr 0 6)) (.e (int a.known) (.e (.ref (.ptr 1 6)) (.e (int b.known) (.e (.ref (.ptr 0 7)) (.e (.ref (.ptr 0 7)) (.e (int a.no) (.e (int a.no) (.e (.ref (.ptr 1 7)) (.e (.ref (.ptr 1 7)) (.e (int b.no) (.e (int b.no) .n)))))))))))))))) rfl rfl h) (by simp [orI, ho1]) (by rfl)
end Go.Vi
open Go Go.Proofs
namespace Go.Vi
set_option maxRecDepth 100000
set_option maxHeartbeats 4000000
structure AttT where
 course : Int
 term : Int
 grade : Int
 campus : Int
 credits : Int
 deriving Inhabited
def AttT.row (a : AttT) : List Dp := [vi a.course, vi a.term, vi a.grade, vi a.campus, vi a.credits]
theorem w59_ev {n a b : Int} (h : List Blk) : (Ev Tryz.prog Γ0 59 [int n, int a, int b] h (bool (decide (n ≥ a) && decide (n ≤ b))) h) := by
 exact Ev.castH (Ev.sym0 (d := bool (decide (n ≥ a) && decide (n ≤ b))) pok [] (by kernel_rfl) .n rfl rfl h) (by rfl) (by rfl)
theorem bin_ev {n a b : Int} (h : List Blk) : (Ev Tryz.prog Γ0 87 [int n, int a, int b] h (bool (decide (n ≥ a) && decide (n ≤ b))) h) := by
 exact Ev.castH (Ev.sym0 (d := bool (decide (n ≥ a) && decide (n ≤ b))) pok [] (by kernel_rfl) .n rfl rfl h) (by rfl) (by rfl)
theorem w113_ev {n a b : Int} (h : List Blk) : (Ev Tryz.prog Γ0 113 [int n, int a, int b] h (bool (decide (n ≥ a) && decide (n ≤ b))) h) := by
 exact Ev.castH (Ev.sym0 (d := bool (decide (n ≥ a) && decide (n ≤ b))) pok [] (by kernel_rfl) .n rfl rfl h) (by rfl) (by rfl)
theorem w164_ev {n a b : Int} (h : List Blk) : (Ev Tryz.prog Γ0 164 [int n, int a, int b] h (bool (decide (n ≥ a) && decide (n ≤ b))) h) := by
 exact Ev.castH (Ev.sym0 (d := bool (decide (a ≤ n) && decide (n ≤ b))) pok [] (by kernel_rfl) .n rfl rfl h) (by rfl) (by rfl)
noncomputable abbrev order_ev_x0 (a : AttT) (b : AttT) : List Blk := [.var [int a.course, int a.term, int a.grade, int a.campus, int a.credits], .var [int b.course, int b.term, int b.grade, int b.campus, int b.credits]]
theorem order_ev {a b : AttT} (h : List Blk) : (Ev Tryz.prog Γ0 79 [ag a.row, ag b.row] h (int (orI (cmpI a.term b.term) (cmpI a.course b.course))) h) := by
 have hl0 := (@or_cw (cmpI a.term b.term) (cmpI a.course b.course) ([.var [int a.course, int a.term, int a.grade, int a.campus, int a.credits], .var [int b.course, int b.term, int b.grade, int b.campus, int b.credits], .vec [[int (cmpI a.term b.term)], [int (cmpI a.course b.course)]] 0 1]) ([.var [int a.course, int a.term, int a.grade, int a.campus, int a.credits], .var [int b.course, int b.term, int b.grade, int b.campus, int b.credits], .gone]))
 unfold orFin at hl0
 revert hl0
 cases ho1 : cmpI a.term b.term != 0 with
 | false =>
  intro hl0
  revert hl0
  cases ho2 : cmpI a.course b.course != 0 with
  | false =>
   intro hl0
   exact Ev.castH (Ev.sym0 (d := int 0) pok [.val (int (cmpI a.term b.term)), .val (int (cmpI a.course b.course)), .inl, .st (.frz 2 (orR (cmpI a.term b.term) (cmpI a.course b.course))), .sum [2, 3, 6, 7, 8] (Exit.exit 0) { t := mkT 18 0 [(2, int 0), (3, int 0)], h := [.var [int a.course, int a.term, int a.grade, int a.campus, int a.credits], .var [int b.course, int b.term, int b.grade, int b.campus, int b.credits], .gone], m := [] }] (by kernel_rfl) (.c (@cmpI_ev (a.term) (b.term) ((order_ev_x0 a b))) (.c (@cmpI_ev (a.course) (b.course) ((order_ev_x0 a b))) (.c (show [[int (cmpI a.term b.term)], [int (cmpI a.course b.course)]] = [[int (cmpI a.term b.term)], [int (cmpI a.course b.course)]] from rfl) (.c hl0 (.e (.ref (.ptr 0 1)) (.e (int a.term) (.e (.ref (.ptr 1 1)) (.e (int b.term) (.e (.ref (.ptr 0 0)) (.e (.ref (.ptr 0 0)) (.e (int a.course) (.e (int a.course) (.e (.ref (.ptr 1 0)) (.e (.ref (.ptr 1 0)) (.e (int b.course) (.e (int b.course) .n)))))))))))))))) rfl rfl h) (by simp [orI, ho1, ho2]) (by rfl)
  | true =>
   intro hl0
   exact Ev.castH (Ev.sym0 (d := int (cmpI a.course b.course)) pok [.val (int (cmpI a.term b.term)), .val (int (cmpI a.course b.course)), .inl, .st (.frz 2 (orR (cmpI a.term b.term) (cmpI a.course b.course))), .sum [2, 3, 6, 7, 8] (Exit.ret) { t := mkT 18 0 [(2, int (cmpI a.course b.course))], h := [.var [int a.course, int a.term, int a.grade, int a.campus, int a.credits], .var [int b.course, int b.term, int b.grade, int b.campus, int b.credits], .gone], m := [] }] (by kernel_rfl) (.c (@cmpI_ev (a.term) (b.term) ((order_ev_x0 a b))) (.c (@cmpI_ev (a.course) (b.course) ((order_ev_x0 a b))) (.c (show [[int (cmpI a.term b.term)], [int (cmpI a.course b.course)]] = [[int (cmpI a.term b.term)], [int (cmpI a.course b.course)]] from rfl) (.c hl0 (.e (.ref (.ptr 0 1)) (.e (int a.term) (.e (.ref (.ptr 1 1)) (.e (int b.term) (.e (.ref (.ptr 0 0)) (.e (.ref (.ptr 0 0)) (.e (int a.course) (.e (int a.course) (.e (.ref (.ptr 1 0)) (.e (.ref (.ptr 1 0)) (.e (int b.course) (.e (int b.course) .n)))))))))))))))) rfl rfl h) (by simp [orI, ho1, ho2]) (by rfl)
 | true =>
  intro hl0
  exact Ev.castH (Ev.sym0 (d := int (cmpI a.term b.term)) pok [.val (int (cmpI a.term b.term)), .val (int (cmpI a.course b.course)), .inl, .st (.frz 2 (orR (cmpI a.term b.term) (cmpI a.course b.course))), .sum [2, 3, 6, 7, 8] (Exit.ret) { t := mkT 18 0 [(2, int (cmpI a.term b.term))], h := [.var [int a.course, int a.term, int a.grade, int a.campus, int a.credits], .var [int b.course, int b.term, int b.grade, int b.campus, int b.credits], .gone], m := [] }] (by kernel_rfl) (.c (@cmpI_ev (a.term) (b.term) ((order_ev_x0 a b))) (.c (@cmpI_ev (a.course) (b.course) ((order_ev_x0 a b))) (.c (show [[int (cmpI a.term b.term)], [int (cmpI a.course b.course)]] = [[int (cmpI a.term b.term)], [int (cmpI a.course b.course)]] from rfl) (.c hl0 (.e (.ref (.ptr 0 1)) (.e (int a.term) (.e (.ref (.ptr 1 1)) (.e (int b.term) (.e (.ref (.ptr 0 0)) (.e (.ref (.ptr 0 0)) (.e (int a.course) (.e (int a.course) (.e (.ref (.ptr 1 0)) (.e (.ref (.ptr 1 0)) (.e (int b.course) (.e (int b.course) .n)))))))))))))))) rfl rfl h) (by simp [orI, ho1]) (by rfl)
def inB (n a b : Int) : Bool := decide (n ≥ a) && decide (n ≤ b)
def attB (a : AttT) : Bool := inB a.course 0 4095 && inB a.term 0 1023 && inB a.grade 0 12 && inB a.campus 0 6 && inB a.credits 0 60
noncomputable abbrev afits_ev_x0 (a : AttT) : List Blk := [.var [int a.course, int a.term, int a.grade, int a.campus, int a.credits]]
theorem afits_ev {a : AttT} (h : List Blk) : (Ev Tryz.prog Γ0 157 [ag a.row] h (bool (attB a)) h) := by
 exact Ev.castH (Ev.sym0 (d := bool (decide (a.course ≥ 0) && decide (a.course ≤ 4095) && (decide (a.term ≥ 0) && decide (a.term ≤ 1023)) && (decide (a.grade ≥ 0) && decide (a.grade ≤ 12)) && (decide (a.campus ≥ 0) && decide (a.campus ≤ 6)) && (decide (a.credits ≥ 0) && decide (a.credits ≤ 60)))) pok [.val (bool (decide (a.course ≥ 0) && decide (a.course ≤ 4095))), .val (bool (decide (a.term ≥ 0) && decide (a.term ≤ 1023))), .val (bool (decide (a.grade ≥ 0) && decide (a.grade ≤ 12))), .val (bool (decide (a.campus ≥ 0) && decide (a.campus ≤ 6))), .val (bool (decide (a.credits ≥ 0) && decide (a.credits ≤ 60)))] (by kernel_rfl) (.c (@w164_ev (a.course) (0) (4095) ((afits_ev_x0 a))) (.c (show (decide (a.course ≥ 0) && decide (a.course ≤ 4095)) = true → Ev Tryz.prog Γ0 164 [int a.term, int 0, int 1023] (afits_ev_x0 a) (bool (decide (a.term ≥ 0) && decide (a.term ≤ 1023))) (afits_ev_x0 a) from (fun hg => (@w164_ev (a.term) (0) (1023) ((afits_ev_x0 a))))) (.c (show (decide (a.course ≥ 0) && decide (a.course ≤ 4095) && (decide (a.term ≥ 0) && decide (a.term ≤ 1023))) = true → Ev Tryz.prog Γ0 164 [int a.grade, int 0, int 12] (afits_ev_x0 a) (bool (decide (a.grade ≥ 0) && decide (a.grade ≤ 12))) (afits_ev_x0 a) from (fun hg => (@w164_ev (a.grade) (0) (12) ((afits_ev_x0 a))))) (.c (show (decide (a.course ≥ 0) && decide (a.course ≤ 4095) && (decide (a.term ≥ 0) && decide (a.term ≤ 1023)) && (decide (a.grade ≥ 0) && decide (a.grade ≤ 12))) = true → Ev Tryz.prog Γ0 164 [int a.campus, int 0, int 6] (afits_ev_x0 a) (bool (decide (a.campus ≥ 0) && decide (a.campus ≤ 6))) (afits_ev_x0 a) from (fun hg => (@w164_ev (a.campus) (0) (6) ((afits_ev_x0 a))))) (.c (show (decide (a.course ≥ 0) && decide (a.course ≤ 4095) && (decide (a.term ≥ 0) && decide (a.term ≤ 1023)) && (decide (a.grade ≥ 0) && decide (a.grade ≤ 12)) && (decide (a.campus ≥ 0) && decide (a.campus ≤ 6))) = true → Ev Tryz.prog Γ0 164 [int a.credits, int 0, int 60] (afits_ev_x0 a) (bool (decide (a.credits ≥ 0) && decide (a.credits ≤ 60))) (afits_ev_x0 a) from (fun hg => (@w164_ev (a.credits) (0) (60) ((afits_ev_x0 a))))) .n))))) rfl rfl h) (by rfl) (by rfl)
noncomputable abbrev nafits_ev_x0 (a : AttT) : List Blk := [.var [int a.course, int a.term, int a.grade, int a.campus, int a.credits]]
theorem nafits_ev {a : AttT} (h : List Blk) : (Ev Tryz.prog Γ0 156 [ag a.row] h (bool (!attB a)) h) := by
 exact Ev.castH (Ev.sym0 (d := bool !attB a) pok [.val (bool (attB a))] (by kernel_rfl) (.c (@afits_ev (a) ((nafits_ev_x0 a))) .n) rfl rfl h) (by rfl) (by rfl)
end Go.Vi
open Go Go.Proofs
namespace Go.Vi
set_option maxRecDepth 100000
set_option maxHeartbeats 4000000
structure ClauseT where
 kind : Int
 when_ : Int
 action : Int
 til : Int
 deriving Inhabited
def ClauseT.row (a : ClauseT) : List Dp := [vi a.kind, vi a.when_, vi a.action, vi a.til]
def xaF (p : AttT → Bool) (c : AttT) (s : Nat) : Nat ⊕ Nat := if p c = true then .inr s else .inl (s + 1)
abbrev xaS (fs : List (List Dp)) (f : D) (h : List Blk) (i : Int) : AS := { t := mkT 19 0 [(0, rD fs), (1, f), (4, int 0), (7, int fs.length), (8, int i)], h := h, m := [] }
abbrev xaX (h : List Blk) : Nat → Exit × AS := fun k => (.ret, { t := mkT 19 0 [(4, int (k : Int))], h := h, m := [] })
theorem xa_body {fs : List (List Dp)} {i : Nat} {c : AttT} {f : D} {h : List Blk} {p : AttT → Bool} (hr : RowAt (i : Int) fs (AttT.row c) 5) (hlt : decide ((i : Int) < (fs.length : Int)) = true) (hw : IntKind.i64.wrap ((i : Int) + 1) = ((i + 1 : Nat) : Int)) (hi : Iv Tryz.prog Γ0 f [ag (AttT.row c)] h (bool (p c)) h) : (CW Tryz.prog Γ0 h false (sub Tryz.f196 0) (xaS fs f h i) (bodyFin (fun _ => xaS fs f h ((i + 1 : Nat) : Int)) (xaX h) (xaF p c i)).1 (bodyFin (fun _ => xaS fs f h ((i + 1 : Nat) : Int)) (xaX h) (xaF p c i)).2) := by
 cases hc0 : p c
 ·exact CW.cast (CW.symX (s' := { t := mkT 19 0 [(0, rD fs), (1, f), (4, int 0), (7, int (↑(List.length fs) : Int)), (8, int (IntKind.wrap IntKind.i64 ((↑i : Int) + 1)))], h := h, m := [] }) (e := Exit.normal) pok [.st (.mask [0, 1, 4, 7, 8])] [.b true, .row (AttT.row c), .ival (bool (p c)), .b false] (by kernel_rfl) (.c hlt (.c hr (.c (@hi) (.c hc0 .n))))) (by simp [xaF, bodyFin, *]) (by simp [xaF, bodyFin, *])
 ·exact CW.cast (CW.symX (s' := { t := mkT 19 0 [(4, int (↑i : Int))], h := h, m := [] }) (e := Exit.ret) pok [.st (.mask [4])] [.b true, .row (AttT.row c), .ival (bool (p c)), .b true] (by kernel_rfl) (.c hlt (.c hr (.c (@hi) (.c hc0 .n))))) (by simp [xaF, bodyFin, *]) (by simp [xaF, bodyFin, *])
theorem xa_last {fs : List (List Dp)} {i : Nat} {f : D} {h : List Blk} (hlt : decide ((i : Int) < (fs.length : Int)) = false) : (CW Tryz.prog Γ0 h false (sub Tryz.f196 0) (xaS fs f h i) (.exit 0) { t := mkT 19 0 [(4, int 0)], h := h, m := [] }) := by
 exact CW.cast (CW.symX (s' := { t := mkT 19 0 [(4, int 0)], h := h, m := [] }) (e := Exit.exit 0) pok [.st (.mask [4])] [.b false] (by kernel_rfl) (.c hlt .n)) (by rfl) (by rfl)
def xaR (p : AttT → Bool) (l : List AttT) : Int := match forL (xaF p) l 0 with | .inl _ => -1 | .inr k => (k : Int)
def xaFin (h : List Blk) (p : AttT → Bool) (l : List AttT) : Exit × AS := eachFin (.exit 0) (fun _ : Nat => { t := mkT 19 0 [(4, int 0)], h := h, m := [] }) (xaX h) (forL (xaF p) l 0)
theorem xa_cw {l : List AttT} (hl : Short l) {f : D} {h : List Blk} {p : AttT → Bool} (hf : ∀ c ∈ l, Iv Tryz.prog Γ0 f [ag (AttT.row c)] h (bool (p c)) h) :
  CW Tryz.prog Γ0 h false (.loop (sub Tryz.f196 0)) (xaS (l.map AttT.row) f h 0) (xaFin h p l).1 (xaFin h p l).2 := by
 refine CW.each l (xaF p) (fun i _ => xaS (l.map AttT.row) f h (i : Int)) (.exit 0) _ (xaX h) (fun i s => s = i) (by simp) (fun _ => by simp) ?_ ?_ 0 rfl
 ·intro i c s hc hs
  subst hs
  have hi := (List.getElem?_eq_some_iff.1 hc).1
  refine ⟨fun s' h => ?_, xa_body (rowAt hc rfl) (lt_len AttT.row hi) (wrap_succ hi hl) (hf c (List.mem_of_getElem? hc))⟩
  unfold xaF at h
  split at h <;> simp at h
  exact h.symm
 ·intro s hs
  exact xa_last (ge_len AttT.row l)
theorem xai_ev {l : List AttT} (hl : Short l) {f : D} {h : List Blk} {p : AttT → Bool} (hf : ∀ c ∈ l, Iv Tryz.prog Γ0 f [ag (AttT.row c)] h (bool (p c)) h) : (Ev Tryz.prog Γ0 196 [rD (l.map AttT.row), f] h (int (xaR p l)) h) := by
 have hl0 := (@xa_cw (l) (hl) (f) (h) (p) (hf))
 unfold xaFin at hl0
 revert hl0
 cases ho1 : forL (xaF p) l 0 with
 | inl o1_0_0 =>
  intro hl0
  exact Ev.castH (Ev.of_sym (h' := h) (d := int (-1)) pok [.sum [0, 1, 4, 7, 8] (Exit.exit 0) { t := mkT 19 0 [(4, int 0)], h := h, m := [] }] (by kernel_rfl) (.c hl0 .n)) (by simp [xaR, ho1]) (by simp [])
 | inr o1_1_0 =>
  intro hl0
  exact Ev.castH (Ev.of_sym (h' := h) (d := int (↑o1_1_0 : Int)) pok [.sum [0, 1, 4, 7, 8] (Exit.ret) { t := mkT 19 0 [(4, int (↑o1_1_0 : Int))], h := h, m := [] }] (by kernel_rfl) (.c hl0 .n)) (by simp [xaR, ho1]) (by simp [])
theorem xa_any (p : AttT → Bool) (l : List AttT) : ∀ k : Nat, (match forL (xaF p) l k with | .inl _ => false | .inr _ => true) = l.any p := by
 induction l with
 | nil => intro k; rfl
 | cons f l ih =>
  intro k
  rw [List.any_cons]
  cases hf : p f
  ·simp only [forL, xaF, hf, Bool.false_eq_true, if_false, Bool.false_or]
   exact ih (k + 1)
  ·simp [forL, xaF, hf]
theorem xaR_ge (p : AttT → Bool) (l : List AttT) : decide (xaR p l ≥ 0) = l.any p := by
 rw [← xa_any p l 0, xaR]
 split <;> simp
theorem xac_ev {l : List AttT} (hl : Short l) {f : D} {h : List Blk} {p : AttT → Bool} (hf : ∀ c ∈ l, Iv Tryz.prog Γ0 f [ag (AttT.row c)] h (bool (p c)) h) : (Ev Tryz.prog Γ0 155 [rD (l.map AttT.row), f] h (bool (l.any p)) h) := by
 refine Ev.castH (Ev.of_sym (h' := h) (d := bool (decide (xaR p l ≥ 0))) pok [.val (int (xaR p l))] (by kernel_rfl) (.c (@xai_ev (l) (hl) (f) (h) (p) (hf)) .n)) ?_ ?_ <;> (first | rfl | rw [← xaR_ge])
def xcF (p : Cls → Bool) (c : Cls) (s : Nat) : Nat ⊕ Nat := if p c = true then .inr s else .inl (s + 1)
abbrev xcS (fs : List (List Dp)) (f : D) (h : List Blk) (i : Int) : AS := { t := mkT 19 0 [(0, rD fs), (1, f), (4, int 0), (7, int fs.length), (8, int i)], h := h, m := [] }
abbrev xcX (h : List Blk) : Nat → Exit × AS := fun k => (.ret, { t := mkT 19 0 [(4, int (k : Int))], h := h, m := [] })
theorem xc_body {fs : List (List Dp)} {i : Nat} {c : Cls} {f : D} {h : List Blk} {p : Cls → Bool} (hr : RowAt (i : Int) fs (Cls.row c) 4) (hlt : decide ((i : Int) < (fs.length : Int)) = true) (hw : IntKind.i64.wrap ((i : Int) + 1) = ((i + 1 : Nat) : Int)) (hi : Iv Tryz.prog Γ0 f [ag (Cls.row c)] h (bool (p c)) h) : (CW Tryz.prog Γ0 h false (sub Tryz.f223 0) (xcS fs f h i) (bodyFin (fun _ => xcS fs f h ((i + 1 : Nat) : Int)) (xcX h) (xcF p c i)).1 (bodyFin (fun _ => xcS fs f h ((i + 1 : Nat) : Int)) (xcX h) (xcF p c i)).2) := by
 cases hc0 : p c
 ·exact CW.cast (CW.symX (s' := { t := mkT 19 0 [(0, rD fs), (1, f), (4, int 0), (7, int (↑(List.length fs) : Int)), (8, int (IntKind.wrap IntKind.i64 ((↑i : Int) + 1)))], h := h, m := [] }) (e := Exit.normal) pok [.st (.mask [0, 1, 4, 7, 8])] [.b true, .row [vs c.name, vi c.earn, vi c.num, vi c.den], .ival (bool (p c)), .b false] (by kernel_rfl) (.c hlt (.c hr (.c (@hi) (.c hc0 .n))))) (by simp [xcF, bodyFin, *]) (by simp [xcF, bodyFin, *])
 ·exact CW.cast (CW.symX (s' := { t := mkT 19 0 [(4, int (↑i : Int))], h := h, m := [] }) (e := Exit.ret) pok [.st (.mask [4])] [.b true, .row [vs c.name, vi c.earn, vi c.num, vi c.den], .ival (bool (p c)), .b true] (by kernel_rfl) (.c hlt (.c hr (.c (@hi) (.c hc0 .n))))) (by simp [xcF, bodyFin, *]) (by simp [xcF, bodyFin, *])
theorem xc_last {fs : List (List Dp)} {i : Nat} {f : D} {h : List Blk} (hlt : decide ((i : Int) < (fs.length : Int)) = false) : (CW Tryz.prog Γ0 h false (sub Tryz.f223 0) (xcS fs f h i) (.exit 0) { t := mkT 19 0 [(4, int 0)], h := h, m := [] }) := by
 exact CW.cast (CW.symX (s' := { t := mkT 19 0 [(4, int 0)], h := h, m := [] }) (e := Exit.exit 0) pok [.st (.mask [4])] [.b false] (by kernel_rfl) (.c hlt .n)) (by rfl) (by rfl)
def xcR (p : Cls → Bool) (l : List Cls) : Int := match forL (xcF p) l 0 with | .inl _ => -1 | .inr k => (k : Int)
def xcFin (h : List Blk) (p : Cls → Bool) (l : List Cls) : Exit × AS := eachFin (.exit 0) (fun _ : Nat => { t := mkT 19 0 [(4, int 0)], h := h, m := [] }) (xcX h) (forL (xcF p) l 0)
theorem xc_cw {l : List Cls} (hl : Short l) {f : D} {h : List Blk} {p : Cls → Bool} (hf : ∀ c ∈ l, Iv Tryz.prog Γ0 f [ag (Cls.row c)] h (bool (p c)) h) :
  CW Tryz.prog Γ0 h false (.loop (sub Tryz.f223 0)) (xcS (l.map Cls.row) f h 0) (xcFin h p l).1 (xcFin h p l).2 := by
 refine CW.each l (xcF p) (fun i _ => xcS (l.map Cls.row) f h (i : Int)) (.exit 0) _ (xcX h) (fun i s => s = i) (by simp) (fun _ => by simp) ?_ ?_ 0 rfl
 ·intro i c s hc hs
  subst hs
  have hi := (List.getElem?_eq_some_iff.1 hc).1
  refine ⟨fun s' h => ?_, xc_body (rowAt hc rfl) (lt_len Cls.row hi) (wrap_succ hi hl) (hf c (List.mem_of_getElem? hc))⟩
  unfold xcF at h
  split at h <;> simp at h
  exact h.symm
 ·intro s hs
  exact xc_last (ge_len Cls.row l)
theorem xci_ev {l : List Cls} (hl : Short l) {f : D} {h : List Blk} {p : Cls → Bool} (hf : ∀ c ∈ l, Iv Tryz.prog Γ0 f [ag (Cls.row c)] h (bool (p c)) h) : (Ev Tryz.prog Γ0 223 [rD (l.map Cls.row), f] h (int (xcR p l)) h) := by
 have hl0 := (@xc_cw (l) (hl) (f) (h) (p) (hf))
 unfold xcFin at hl0
 revert hl0
 cases ho1 : forL (xcF p) l 0 with
 | inl o1_0_0 =>
  intro hl0
  exact Ev.castH (Ev.of_sym (h' := h) (d := int (-1)) pok [.sum [0, 1, 4, 7, 8] (Exit.exit 0) { t := mkT 19 0 [(4, int 0)], h := h, m := [] }] (by kernel_rfl) (.c hl0 .n)) (by simp [xcR, ho1]) (by simp [])
 | inr o1_1_0 =>
  intro hl0
  exact Ev.castH (Ev.of_sym (h' := h) (d := int (↑o1_1_0 : Int)) pok [.sum [0, 1, 4, 7, 8] (Exit.ret) { t := mkT 19 0 [(4, int (↑o1_1_0 : Int))], h := h, m := [] }] (by kernel_rfl) (.c hl0 .n)) (by simp [xcR, ho1]) (by simp [])
theorem xc_any (p : Cls → Bool) (l : List Cls) : ∀ k : Nat, (match forL (xcF p) l k with | .inl _ => false | .inr _ => true) = l.any p := by
 induction l with
 | nil => intro k; rfl
 | cons f l ih =>
  intro k
  rw [List.any_cons]
  cases hf : p f
  ·simp only [forL, xcF, hf, Bool.false_eq_true, if_false, Bool.false_or]
   exact ih (k + 1)
  ·simp [forL, xcF, hf]
theorem xcR_ge (p : Cls → Bool) (l : List Cls) : decide (xcR p l ≥ 0) = l.any p := by
 rw [← xc_any p l 0, xcR]
 split <;> simp
theorem xcc_ev {l : List Cls} (hl : Short l) {f : D} {h : List Blk} {p : Cls → Bool} (hf : ∀ c ∈ l, Iv Tryz.prog Γ0 f [ag (Cls.row c)] h (bool (p c)) h) : (Ev Tryz.prog Γ0 190 [rD (l.map Cls.row), f] h (bool (l.any p)) h) := by
 refine Ev.castH (Ev.of_sym (h' := h) (d := bool (decide (xcR p l ≥ 0))) pok [.val (int (xcR p l))] (by kernel_rfl) (.c (@xci_ev (l) (hl) (f) (h) (p) (hf)) .n)) ?_ ?_ <;> (first | rfl | rw [← xcR_ge])
def xfF (p : FeeT → Bool) (c : FeeT) (s : Nat) : Nat ⊕ Nat := if p c = true then .inr s else .inl (s + 1)
abbrev xfS (fs : List (List Dp)) (f : D) (h : List Blk) (i : Int) : AS := { t := mkT 19 0 [(0, rD fs), (1, f), (4, int 0), (7, int fs.length), (8, int i)], h := h, m := [] }
abbrev xfX (h : List Blk) : Nat → Exit × AS := fun k => (.ret, { t := mkT 19 0 [(4, int (k : Int))], h := h, m := [] })
theorem xf_body {fs : List (List Dp)} {i : Nat} {c : FeeT} {f : D} {h : List Blk} {p : FeeT → Bool} (hr : RowAt (i : Int) fs (FeeT.row c) 2) (hlt : decide ((i : Int) < (fs.length : Int)) = true) (hw : IntKind.i64.wrap ((i : Int) + 1) = ((i + 1 : Nat) : Int)) (hi : Iv Tryz.prog Γ0 f [ag (FeeT.row c)] h (bool (p c)) h) : (CW Tryz.prog Γ0 h false (sub Tryz.f224 0) (xfS fs f h i) (bodyFin (fun _ => xfS fs f h ((i + 1 : Nat) : Int)) (xfX h) (xfF p c i)).1 (bodyFin (fun _ => xfS fs f h ((i + 1 : Nat) : Int)) (xfX h) (xfF p c i)).2) := by
 cases hc0 : p c
 ·exact CW.cast (CW.symX (s' := { t := mkT 19 0 [(0, rD fs), (1, f), (4, int 0), (7, int (↑(List.length fs) : Int)), (8, int (IntKind.wrap IntKind.i64 ((↑i : Int) + 1)))], h := h, m := [] }) (e := Exit.normal) pok [.st (.mask [0, 1, 4, 7, 8])] [.b true, .row [vs c.name, vi c.credits], .ival (bool (p c)), .b false] (by kernel_rfl) (.c hlt (.c hr (.c (@hi) (.c hc0 .n))))) (by simp [xfF, bodyFin, *]) (by simp [xfF, bodyFin, *])
 ·exact CW.cast (CW.symX (s' := { t := mkT 19 0 [(4, int (↑i : Int))], h := h, m := [] }) (e := Exit.ret) pok [.st (.mask [4])] [.b true, .row [vs c.name, vi c.credits], .ival (bool (p c)), .b true] (by kernel_rfl) (.c hlt (.c hr (.c (@hi) (.c hc0 .n))))) (by simp [xfF, bodyFin, *]) (by simp [xfF, bodyFin, *])
theorem xf_last {fs : List (List Dp)} {i : Nat} {f : D} {h : List Blk} (hlt : decide ((i : Int) < (fs.length : Int)) = false) : (CW Tryz.prog Γ0 h false (sub Tryz.f224 0) (xfS fs f h i) (.exit 0) { t := mkT 19 0 [(4, int 0)], h := h, m := [] }) := by
 exact CW.cast (CW.symX (s' := { t := mkT 19 0 [(4, int 0)], h := h, m := [] }) (e := Exit.exit 0) pok [.st (.mask [4])] [.b false] (by kernel_rfl) (.c hlt .n)) (by rfl) (by rfl)
def xfR (p : FeeT → Bool) (l : List FeeT) : Int := match forL (xfF p) l 0 with | .inl _ => -1 | .inr k => (k : Int)
def xfFin (h : List Blk) (p : FeeT → Bool) (l : List FeeT) : Exit × AS := eachFin (.exit 0) (fun _ : Nat => { t := mkT 19 0 [(4, int 0)], h := h, m := [] }) (xfX h) (forL (xfF p) l 0)
theorem xf_cw {l : List FeeT} (hl : Short l) {f : D} {h : List Blk} {p : FeeT → Bool} (hf : ∀ c ∈ l, Iv Tryz.prog Γ0 f [ag (FeeT.row c)] h (bool (p c)) h) :
  CW Tryz.prog Γ0 h false (.loop (sub Tryz.f224 0)) (xfS (l.map FeeT.row) f h 0) (xfFin h p l).1 (xfFin h p l).2 := by
 refine CW.each l (xfF p) (fun i _ => xfS (l.map FeeT.row) f h (i : Int)) (.exit 0) _ (xfX h) (fun i s => s = i) (by simp) (fun _ => by simp) ?_ ?_ 0 rfl
 ·intro i c s hc hs
  subst hs
  have hi := (List.getElem?_eq_some_iff.1 hc).1
  refine ⟨fun s' h => ?_, xf_body (rowAt hc rfl) (lt_len FeeT.row hi) (wrap_succ hi hl) (hf c (List.mem_of_getElem? hc))⟩
  unfold xfF at h
  split at h <;> simp at h
  exact h.symm
 ·intro s hs
  exact xf_last (ge_len FeeT.row l)
theorem xfi_ev {l : List FeeT} (hl : Short l) {f : D} {h : List Blk} {p : FeeT → Bool} (hf : ∀ c ∈ l, Iv Tryz.prog Γ0 f [ag (FeeT.row c)] h (bool (p c)) h) : (Ev Tryz.prog Γ0 224 [rD (l.map FeeT.row), f] h (int (xfR p l)) h) := by
 have hl0 := (@xf_cw (l) (hl) (f) (h) (p) (hf))
 unfold xfFin at hl0
 revert hl0
 cases ho1 : forL (xfF p) l 0 with
 | inl o1_0_0 =>
  intro hl0
  exact Ev.castH (Ev.of_sym (h' := h) (d := int (-1)) pok [.sum [0, 1, 4, 7, 8] (Exit.exit 0) { t := mkT 19 0 [(4, int 0)], h := h, m := [] }] (by kernel_rfl) (.c hl0 .n)) (by simp [xfR, ho1]) (by simp [])
 | inr o1_1_0 =>
  intro hl0
  exact Ev.castH (Ev.of_sym (h' := h) (d := int (↑o1_1_0 : Int)) pok [.sum [0, 1, 4, 7, 8] (Exit.ret) { t := mkT 19 0 [(4, int (↑o1_1_0 : Int))], h := h, m := [] }] (by kernel_rfl) (.c hl0 .n)) (by simp [xfR, ho1]) (by simp [])
theorem xf_any (p : FeeT → Bool) (l : List FeeT) : ∀ k : Nat, (match forL (xfF p) l k with | .inl _ => false | .inr _ => true) = l.any p := by
 induction l with
 | nil => intro k; rfl
 | cons f l ih =>
  intro k
  rw [List.any_cons]
  cases hf : p f
  ·simp only [forL, xfF, hf, Bool.false_eq_true, if_false, Bool.false_or]
   exact ih (k + 1)
  ·simp [forL, xfF, hf]
theorem xfR_ge (p : FeeT → Bool) (l : List FeeT) : decide (xfR p l ≥ 0) = l.any p := by
 rw [← xf_any p l 0, xfR]
 split <;> simp
theorem xfc_ev {l : List FeeT} (hl : Short l) {f : D} {h : List Blk} {p : FeeT → Bool} (hf : ∀ c ∈ l, Iv Tryz.prog Γ0 f [ag (FeeT.row c)] h (bool (p c)) h) : (Ev Tryz.prog Γ0 192 [rD (l.map FeeT.row), f] h (bool (l.any p)) h) := by
 refine Ev.castH (Ev.of_sym (h' := h) (d := bool (decide (xfR p l ≥ 0))) pok [.val (int (xfR p l))] (by kernel_rfl) (.c (@xfi_ev (l) (hl) (f) (h) (p) (hf)) .n)) ?_ ?_ <;> (first | rfl | rw [← xfR_ge])
def xlF (p : ClauseT → Bool) (c : ClauseT) (s : Nat) : Nat ⊕ Nat := if p c = true then .inr s else .inl (s + 1)
abbrev xlS (fs : List (List Dp)) (f : D) (h : List Blk) (i : Int) : AS := { t := mkT 19 0 [(0, rD fs), (1, f), (4, int 0), (7, int fs.length), (8, int i)], h := h, m := [] }
abbrev xlX (h : List Blk) : Nat → Exit × AS := fun k => (.ret, { t := mkT 19 0 [(4, int (k : Int))], h := h, m := [] })
theorem xl_body {fs : List (List Dp)} {i : Nat} {c : ClauseT} {f : D} {h : List Blk} {p : ClauseT → Bool} (hr : RowAt (i : Int) fs (ClauseT.row c) 4) (hlt : decide ((i : Int) < (fs.length : Int)) = true) (hw : IntKind.i64.wrap ((i : Int) + 1) = ((i + 1 : Nat) : Int)) (hi : Iv Tryz.prog Γ0 f [ag (ClauseT.row c)] h (bool (p c)) h) : (CW Tryz.prog Γ0 h false (sub Tryz.f225 0) (xlS fs f h i) (bodyFin (fun _ => xlS fs f h ((i + 1 : Nat) : Int)) (xlX h) (xlF p c i)).1 (bodyFin (fun _ => xlS fs f h ((i + 1 : Nat) : Int)) (xlX h) (xlF p c i)).2) := by
 cases hc0 : p c
 ·exact CW.cast (CW.symX (s' := { t := mkT 19 0 [(0, rD fs), (1, f), (4, int 0), (7, int (↑(List.length fs) : Int)), (8, int (IntKind.wrap IntKind.i64 ((↑i : Int) + 1)))], h := h, m := [] }) (e := Exit.normal) pok [.st (.mask [0, 1, 4, 7, 8])] [.b true, .row [vi c.kind, vi c.when_, vi c.action, vi c.til], .ival (bool (p c)), .b false] (by kernel_rfl) (.c hlt (.c hr (.c (@hi) (.c hc0 .n))))) (by simp [xlF, bodyFin, *]) (by simp [xlF, bodyFin, *])
 ·exact CW.cast (CW.symX (s' := { t := mkT 19 0 [(4, int (↑i : Int))], h := h, m := [] }) (e := Exit.ret) pok [.st (.mask [4])] [.b true, .row [vi c.kind, vi c.when_, vi c.action, vi c.til], .ival (bool (p c)), .b true] (by kernel_rfl) (.c hlt (.c hr (.c (@hi) (.c hc0 .n))))) (by simp [xlF, bodyFin, *]) (by simp [xlF, bodyFin, *])
theorem xl_last {fs : List (List Dp)} {i : Nat} {f : D} {h : List Blk} (hlt : decide ((i : Int) < (fs.length : Int)) = false) : (CW Tryz.prog Γ0 h false (sub Tryz.f225 0) (xlS fs f h i) (.exit 0) { t := mkT 19 0 [(4, int 0)], h := h, m := [] }) := by
 exact CW.cast (CW.symX (s' := { t := mkT 19 0 [(4, int 0)], h := h, m := [] }) (e := Exit.exit 0) pok [.st (.mask [4])] [.b false] (by kernel_rfl) (.c hlt .n)) (by rfl) (by rfl)
def xlR (p : ClauseT → Bool) (l : List ClauseT) : Int := match forL (xlF p) l 0 with | .inl _ => -1 | .inr k => (k : Int)
def xlFin (h : List Blk) (p : ClauseT → Bool) (l : List ClauseT) : Exit × AS := eachFin (.exit 0) (fun _ : Nat => { t := mkT 19 0 [(4, int 0)], h := h, m := [] }) (xlX h) (forL (xlF p) l 0)
theorem xl_cw {l : List ClauseT} (hl : Short l) {f : D} {h : List Blk} {p : ClauseT → Bool} (hf : ∀ c ∈ l, Iv Tryz.prog Γ0 f [ag (ClauseT.row c)] h (bool (p c)) h) :
  CW Tryz.prog Γ0 h false (.loop (sub Tryz.f225 0)) (xlS (l.map ClauseT.row) f h 0) (xlFin h p l).1 (xlFin h p l).2 := by
 refine CW.each l (xlF p) (fun i _ => xlS (l.map ClauseT.row) f h (i : Int)) (.exit 0) _ (xlX h) (fun i s => s = i) (by simp) (fun _ => by simp) ?_ ?_ 0 rfl
 ·intro i c s hc hs
  subst hs
  have hi := (List.getElem?_eq_some_iff.1 hc).1
  refine ⟨fun s' h => ?_, xl_body (rowAt hc rfl) (lt_len ClauseT.row hi) (wrap_succ hi hl) (hf c (List.mem_of_getElem? hc))⟩
  unfold xlF at h
  split at h <;> simp at h
  exact h.symm
 ·intro s hs
  exact xl_last (ge_len ClauseT.row l)
theorem xli_ev {l : List ClauseT} (hl : Short l) {f : D} {h : List Blk} {p : ClauseT → Bool} (hf : ∀ c ∈ l, Iv Tryz.prog Γ0 f [ag (ClauseT.row c)] h (bool (p c)) h) : (Ev Tryz.prog Γ0 225 [rD (l.map ClauseT.row), f] h (int (xlR p l)) h) := by
 have hl0 := (@xl_cw (l) (hl) (f) (h) (p) (hf))
 unfold xlFin at hl0
 revert hl0
 cases ho1 : forL (xlF p) l 0 with
 | inl o1_0_0 =>
  intro hl0
  exact Ev.castH (Ev.of_sym (h' := h) (d := int (-1)) pok [.sum [0, 1, 4, 7, 8] (Exit.exit 0) { t := mkT 19 0 [(4, int 0)], h := h, m := [] }] (by kernel_rfl) (.c hl0 .n)) (by simp [xlR, ho1]) (by simp [])
 | inr o1_1_0 =>
  intro hl0
  exact Ev.castH (Ev.of_sym (h' := h) (d := int (↑o1_1_0 : Int)) pok [.sum [0, 1, 4, 7, 8] (Exit.ret) { t := mkT 19 0 [(4, int (↑o1_1_0 : Int))], h := h, m := [] }] (by kernel_rfl) (.c hl0 .n)) (by simp [xlR, ho1]) (by simp [])
theorem xl_any (p : ClauseT → Bool) (l : List ClauseT) : ∀ k : Nat, (match forL (xlF p) l k with | .inl _ => false | .inr _ => true) = l.any p := by
 induction l with
 | nil => intro k; rfl
 | cons f l ih =>
  intro k
  rw [List.any_cons]
  cases hf : p f
  ·simp only [forL, xlF, hf, Bool.false_eq_true, if_false, Bool.false_or]
   exact ih (k + 1)
  ·simp [forL, xlF, hf]
theorem xlR_ge (p : ClauseT → Bool) (l : List ClauseT) : decide (xlR p l ≥ 0) = l.any p := by
 rw [← xl_any p l 0, xlR]
 split <;> simp
theorem xlc_ev {l : List ClauseT} (hl : Short l) {f : D} {h : List Blk} {p : ClauseT → Bool} (hf : ∀ c ∈ l, Iv Tryz.prog Γ0 f [ag (ClauseT.row c)] h (bool (p c)) h) : (Ev Tryz.prog Γ0 194 [rD (l.map ClauseT.row), f] h (bool (l.any p)) h) := by
 refine Ev.castH (Ev.of_sym (h' := h) (d := bool (decide (xlR p l ≥ 0))) pok [.val (int (xlR p l))] (by kernel_rfl) (.c (@xli_ev (l) (hl) (f) (h) (p) (hf)) .n)) ?_ ?_ <;> (first | rfl | rw [← xlR_ge])
def clsB (c : Cls) : Bool := inB c.earn 0 10000 && (errR c.num c.den == 0 && inB c.num 0 (IntKind.i64.wrap (12 * c.den)))
theorem bmean_ev {a b : Int} (ha : I64 a) (hb : I64 b) (h : List Blk) : (Ev Tryz.prog Γ0 149 [.agg [int a, int b]] h (bool (errR a b == 0 && inB a 0 (IntKind.i64.wrap (12 * b)))) h) := by
 exact Ev.castH (Ev.sym0 (d := bool (errR a b == 0 && (decide (a ≥ 0) && decide (a ≤ IntKind.wrap IntKind.i64 (12 * b))))) pok [.val (int (errR a b)), .val (bool (decide (a ≥ 0) && decide (a ≤ IntKind.wrap IntKind.i64 (12 * b))))] (by kernel_rfl) (.c (@check_ev (a) (b) (ha) (hb) ([.var [int a, int b]])) (.c (show (errR a b == 0) = true → Ev Tryz.prog Γ0 87 [int a, int 0, int (IntKind.wrap IntKind.i64 (12 * b))] [.var [int a, int b]] (bool (decide (a ≥ 0) && decide (a ≤ IntKind.wrap IntKind.i64 (12 * b)))) [.var [int a, int b]] from (fun hg => (@bin_ev (a) (0) (IntKind.wrap IntKind.i64 (12 * b)) ([.var [int a, int b]])))) .n)) rfl rfl h) (by rfl) (by rfl)
theorem bcls_ev {c : Cls} (hc : c.ok) (h : List Blk) : (Ev Tryz.prog Γ0 148 [ag c.row] h (bool (clsB c)) h) := by
 refine Ev.castH (Ev.sym0 (d := bool (decide (c.earn ≥ 0) && decide (c.earn ≤ 10000) && (errR c.num c.den == 0 && inB c.num 0 (IntKind.wrap IntKind.i64 (12 * c.den))))) pok [.val (bool (decide (c.earn ≥ 0) && decide (c.earn ≤ 10000))), .val (bool (errR c.num c.den == 0 && inB c.num 0 (IntKind.wrap IntKind.i64 (12 * c.den))))] (by kernel_rfl) (.c (@bin_ev (c.earn) (0) (10000) ([.var [strD c.name, int c.earn, int c.num, int c.den]])) (.c (show (decide (c.earn ≥ 0) && decide (c.earn ≤ 10000)) = true → Ev Tryz.prog Γ0 149 [D.agg [int c.num, int c.den]] [.var [strD c.name, int c.earn, int c.num, int c.den]] (bool (errR c.num c.den == 0 && inB c.num 0 (IntKind.wrap IntKind.i64 (12 * c.den)))) [.var [strD c.name, int c.earn, int c.num, int c.den]] from (fun hg => (@bmean_ev (c.num) (c.den) ?_ ?_ ([.var [strD c.name, int c.earn, int c.num, int c.den]])))) .n)) rfl rfl h) (by rfl) (by rfl) <;> (first | assumption | exact hc.2.1 | exact hc.2.2)
def bfeeB (c : FeeT) : Bool := inB c.credits 0 10000
theorem bfee_ev {c : FeeT} (h : List Blk) : (Ev Tryz.prog Γ0 150 [ag c.row] h (bool (bfeeB c)) h) := by
 exact Ev.castH (Ev.sym0 (d := bool (decide (c.credits ≥ 0) && decide (c.credits ≤ 10000))) pok [.val (bool (decide (c.credits ≥ 0) && decide (c.credits ≤ 10000)))] (by kernel_rfl) (.c (@bin_ev (c.credits) (0) (10000) ([.var [strD c.name, int c.credits]])) .n) rfl rfl h) (by rfl) (by rfl)
def bclB (c : ClauseT) : Bool := inB c.kind 1 5 && inB c.when_ 0 2 && inB c.action 1 3 && inB c.til 0 12
theorem bcl_ev {c : ClauseT} (h : List Blk) : (Ev Tryz.prog Γ0 151 [ag c.row] h (bool (bclB c)) h) := by
 exact Ev.castH (Ev.sym0 (d := bool (decide (c.kind ≥ 1) && decide (c.kind ≤ 5) && (decide (c.when_ ≥ 0) && decide (c.when_ ≤ 2)) && (decide (c.action ≥ 1) && decide (c.action ≤ 3)) && (decide (c.til ≥ 0) && decide (c.til ≤ 12)))) pok [.val (bool (decide (c.kind ≥ 1) && decide (c.kind ≤ 5))), .val (bool (decide (c.when_ ≥ 0) && decide (c.when_ ≤ 2))), .val (bool (decide (c.action ≥ 1) && decide (c.action ≤ 3))), .val (bool (decide (c.til ≥ 0) && decide (c.til ≤ 12)))] (by kernel_rfl) (.c (@bin_ev (c.kind) (1) (5) ([.var [int c.kind, int c.when_, int c.action, int c.til]])) (.c (show (decide (c.kind ≥ 1) && decide (c.kind ≤ 5)) = true → Ev Tryz.prog Γ0 87 [int c.when_, int 0, int 2] [.var [int c.kind, int c.when_, int c.action, int c.til]] (bool (decide (c.when_ ≥ 0) && decide (c.when_ ≤ 2))) [.var [int c.kind, int c.when_, int c.action, int c.til]] from (fun hg => (@bin_ev (c.when_) (0) (2) ([.var [int c.kind, int c.when_, int c.action, int c.til]])))) (.c (show (decide (c.kind ≥ 1) && decide (c.kind ≤ 5) && (decide (c.when_ ≥ 0) && decide (c.when_ ≤ 2))) = true → Ev Tryz.prog Γ0 87 [int c.action, int 1, int 3] [.var [int c.kind, int c.when_, int c.action, int c.til]] (bool (decide (c.action ≥ 1) && decide (c.action ≤ 3))) [.var [int c.kind, int c.when_, int c.action, int c.til]] from (fun hg => (@bin_ev (c.action) (1) (3) ([.var [int c.kind, int c.when_, int c.action, int c.til]])))) (.c (show (decide (c.kind ≥ 1) && decide (c.kind ≤ 5) && (decide (c.when_ ≥ 0) && decide (c.when_ ≤ 2)) && (decide (c.action ≥ 1) && decide (c.action ≤ 3))) = true → Ev Tryz.prog Γ0 87 [int c.til, int 0, int 12] [.var [int c.kind, int c.when_, int c.action, int c.til]] (bool (decide (c.til ≥ 0) && decide (c.til ≤ 12))) [.var [int c.kind, int c.when_, int c.action, int c.til]] from (fun hg => (@bin_ev (c.til) (0) (12) ([.var [int c.kind, int c.when_, int c.action, int c.til]])))) .n)))) rfl rfl h) (by rfl) (by rfl)
noncomputable abbrev xcn148_ev_x0 (c : Cls) : List Blk := [.var [fq 148], .var [strD c.name, int c.earn, int c.num, int c.den]]
theorem xcn148_ev {c : Cls} (hc : c.ok) : (Ev Tryz.prog Γ0 191 [ag (Cls.row c), .ref (.ptr 0 0)] [.var [fnv 148]] (bool (!clsB c)) [.var [fnv 148]]) := by
 exact Ev.castH (Ev.symT (h' := [.var [fq 148]]) (d := bool !clsB c) pok [.val (bool (clsB c))] (by kernel_rfl) (.c (@bcls_ev (c) (hc) ((xcn148_ev_x0 c))) .n)) (by rfl) (by rfl)
theorem xcv148_iv {l : List Cls} (ha : ∀ c ∈ l, c.ok) : ∀ c ∈ l, Iv Tryz.prog Γ0 (.fn (.func 191) [] [.ref (.ptr 0 0)]) [ag (Cls.row c)] [.var [fnv 148]] (bool (!clsB c)) [.var [fnv 148]] := fun c hm => Iv.of pok rfl (by kernel_rfl) (xcn148_ev (ha c hm))
noncomputable abbrev xca148_ev_x0 : List Blk := [.var [fq 148]]
theorem xca148_ev {l : List Cls} (hl : Short l) (ha : ∀ c ∈ l, c.ok) (hf : ∀ c ∈ l, Iv Tryz.prog Γ0 (.fn (.func 191) [] [.ref (.ptr 0 0)]) [ag (Cls.row c)] [.var [fnv 148]] (bool (!clsB c)) [.var [fnv 148]]) (h : List Blk) : (Ev Tryz.prog Γ0 152 [rD (l.map Cls.row), fnv 148] h (bool (!l.any fun c => !clsB c)) h) := by
 exact Ev.castH (Ev.sym0 (d := bool !List.any l fun c => !clsB c) pok [.val (bool (List.any l fun c => !clsB c))] (by kernel_rfl) (.c (@xcc_ev (l) (hl) (D.fn (Fn.func 191) [] [.ref (.ptr 0 0)]) (xca148_ev_x0) (fun c => !clsB c) (hf)) .n) rfl rfl h) (by rfl) (by rfl)
noncomputable abbrev xfn150_ev_x0 (c : FeeT) : List Blk := [.var [fq 150], .var [strD c.name, int c.credits]]
theorem xfn150_ev {c : FeeT} : (Ev Tryz.prog Γ0 193 [ag (FeeT.row c), .ref (.ptr 0 0)] [.var [fnv 150]] (bool (!bfeeB c)) [.var [fnv 150]]) := by
 exact Ev.castH (Ev.symT (h' := [.var [fq 150]]) (d := bool !bfeeB c) pok [.val (bool (bfeeB c))] (by kernel_rfl) (.c (@bfee_ev (c) ((xfn150_ev_x0 c))) .n)) (by rfl) (by rfl)
theorem xfv150_iv {l : List FeeT} : ∀ c ∈ l, Iv Tryz.prog Γ0 (.fn (.func 193) [] [.ref (.ptr 0 0)]) [ag (FeeT.row c)] [.var [fnv 150]] (bool (!bfeeB c)) [.var [fnv 150]] := fun c hm => Iv.of pok rfl (by kernel_rfl) (xfn150_ev )
noncomputable abbrev xfa150_ev_x0 : List Blk := [.var [fq 150]]
theorem xfa150_ev {l : List FeeT} (hl : Short l) (hf : ∀ c ∈ l, Iv Tryz.prog Γ0 (.fn (.func 193) [] [.ref (.ptr 0 0)]) [ag (FeeT.row c)] [.var [fnv 150]] (bool (!bfeeB c)) [.var [fnv 150]]) (h : List Blk) : (Ev Tryz.prog Γ0 153 [rD (l.map FeeT.row), fnv 150] h (bool (!l.any fun c => !bfeeB c)) h) := by
 exact Ev.castH (Ev.sym0 (d := bool !List.any l fun c => !bfeeB c) pok [.val (bool (List.any l fun c => !bfeeB c))] (by kernel_rfl) (.c (@xfc_ev (l) (hl) (D.fn (Fn.func 193) [] [.ref (.ptr 0 0)]) (xfa150_ev_x0) (fun c => !bfeeB c) (hf)) .n) rfl rfl h) (by rfl) (by rfl)
noncomputable abbrev xln151_ev_x0 (c : ClauseT) : List Blk := [.var [fq 151], .var [int c.kind, int c.when_, int c.action, int c.til]]
theorem xln151_ev {c : ClauseT} : (Ev Tryz.prog Γ0 195 [ag (ClauseT.row c), .ref (.ptr 0 0)] [.var [fnv 151]] (bool (!bclB c)) [.var [fnv 151]]) := by
 exact Ev.castH (Ev.symT (h' := [.var [fq 151]]) (d := bool !bclB c) pok [.val (bool (bclB c))] (by kernel_rfl) (.c (@bcl_ev (c) ((xln151_ev_x0 c))) .n)) (by rfl) (by rfl)
theorem xlv151_iv {l : List ClauseT} : ∀ c ∈ l, Iv Tryz.prog Γ0 (.fn (.func 195) [] [.ref (.ptr 0 0)]) [ag (ClauseT.row c)] [.var [fnv 151]] (bool (!bclB c)) [.var [fnv 151]] := fun c hm => Iv.of pok rfl (by kernel_rfl) (xln151_ev )
noncomputable abbrev xla151_ev_x0 : List Blk := [.var [fq 151]]
theorem xla151_ev {l : List ClauseT} (hl : Short l) (hf : ∀ c ∈ l, Iv Tryz.prog Γ0 (.fn (.func 195) [] [.ref (.ptr 0 0)]) [ag (ClauseT.row c)] [.var [fnv 151]] (bool (!bclB c)) [.var [fnv 151]]) (h : List Blk) : (Ev Tryz.prog Γ0 154 [rD (l.map ClauseT.row), fnv 151] h (bool (!l.any fun c => !bclB c)) h) := by
 exact Ev.castH (Ev.sym0 (d := bool !List.any l fun c => !bclB c) pok [.val (bool (List.any l fun c => !bclB c))] (by kernel_rfl) (.c (@xlc_ev (l) (hl) (D.fn (Fn.func 195) [] [.ref (.ptr 0 0)]) (xla151_ev_x0) (fun c => !bclB c) (hf)) .n) rfl rfl h) (by rfl) (by rfl)
structure SysT where
 classes : List Cls
 fees : List FeeT
 honours : List Cls
 clauses : List ClauseT
 deriving Inhabited
def SysT.sys (s : SysT) : Vi.Sys := ⟨s.classes, s.fees, s.honours, s.clauses.map ClauseT.row⟩
def SysT.row (s : SysT) : List Dp := [.sl (s.classes.map Cls.row), .sl (s.fees.map FeeT.row), .sl (s.honours.map Cls.row), .sl (s.clauses.map ClauseT.row)]
def SysT.ok (s : SysT) : Prop := s.sys.ok
theorem SysT.ok.sl {s : SysT} (h : s.ok) : Short s.clauses := by have := h.ll; simpa [Short, SysT.sys] using this
def sysB (s : SysT) : Bool := (!s.classes.any fun c => !clsB c) && (!s.honours.any fun c => !clsB c) && (!s.fees.any fun c => !bfeeB c) && (!s.clauses.any fun c => !bclB c)
noncomputable abbrev validSys_ev_x0 (s : SysT) : List Blk := [.var [rD (List.map Cls.row s.classes), rD (List.map FeeT.row s.fees), rD (List.map Cls.row s.honours), rD (List.map ClauseT.row s.clauses)]]
theorem validSys_ev {s : SysT} (hs : s.ok) (h : List Blk) : (Ev Tryz.prog Γ0 105 [ag s.row] h (bool (sysB s)) h) := by
 refine Ev.castH (Ev.sym0 (d := bool ((((!List.any s.classes fun c => !clsB c) && !List.any s.honours fun c => !clsB c) && !List.any s.fees fun c => !bfeeB c) && !List.any s.clauses fun c => !bclB c)) pok [.val (bool !List.any s.classes fun c => !clsB c), .val (bool !List.any s.honours fun c => !clsB c), .val (bool !List.any s.fees fun c => !bfeeB c), .val (bool !List.any s.clauses fun c => !bclB c)] (by kernel_rfl) (.c (@xca148_ev (s.classes) ?_ ?_ ?_ ((validSys_ev_x0 s))) (.c (show (!List.any s.classes fun c => !clsB c) = true → Ev Tryz.prog Γ0 152 [rD (List.map Cls.row s.honours), fq 148] (validSys_ev_x0 s) (bool !List.any s.honours fun c => !clsB c) (validSys_ev_x0 s) from (fun hg => (@xca148_ev (s.honours) ?_ ?_ ?_ ((validSys_ev_x0 s))))) (.c (show ((!List.any s.classes fun c => !clsB c) && !List.any s.honours fun c => !clsB c) = true → Ev Tryz.prog Γ0 153 [rD (List.map FeeT.row s.fees), fq 150] (validSys_ev_x0 s) (bool !List.any s.fees fun c => !bfeeB c) (validSys_ev_x0 s) from (fun hg => (@xfa150_ev (s.fees) ?_ ?_ ((validSys_ev_x0 s))))) (.c (show (((!List.any s.classes fun c => !clsB c) && !List.any s.honours fun c => !clsB c) && !List.any s.fees fun c => !bfeeB c) = true → Ev Tryz.prog Γ0 154 [rD (List.map ClauseT.row s.clauses), fq 151] (validSys_ev_x0 s) (bool !List.any s.clauses fun c => !bclB c) (validSys_ev_x0 s) from (fun hg => (@xla151_ev (s.clauses) ?_ ?_ ((validSys_ev_x0 s))))) .n)))) rfl rfl h) (by rfl) (by rfl) <;> (first | assumption | exact hs.lc | exact hs.lh | exact hs.lf | exact hs.sl | exact hs.c | exact hs.h | exact xcv148_iv hs.c | exact xcv148_iv hs.h | exact xfv150_iv | exact xlv151_iv)
end Go.Vi
