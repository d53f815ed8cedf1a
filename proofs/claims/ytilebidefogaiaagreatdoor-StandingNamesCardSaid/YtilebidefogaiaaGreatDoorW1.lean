/- StandingNames: part of the proof: contracts of the functions that the law reaches, and the law. No conditions beyond the given statement's own. -/
import Derived.Test.YtilebidefogaiaaGreatDoorV6
import Derived.Test.YtilebidefogaiaaGreatDoorChecked
open Go Go.Proofs
namespace Go.Vi
theorem pok_of {P : Program} (h1 : P.follows .mixedOrders = true) (h2 : (P.funcs.toList.all fun fn => !(fn.name == "runtime.NumGoroutine")) = true) : POk P where
  mixed := h1
  plain f fn hf := by
    have := List.all_eq_true.1 h2 fn (by rw [← Array.getElem?_toList] at hf; exact List.mem_of_getElem? hf)
    simpa using this
abbrev int (n : Int) : D := lit (.int .i64 n)
abbrev u64 (n : Int) : D := lit (.int .u64 n)
abbrev bool (b : Bool) : D := lit (.bool b)
abbrev vi (n : Int) : Dp := .v (.int .i64 n)
abbrev vs (s : ByteArray) : Dp := .v (.string s)
abbrev strD (s : ByteArray) : D := lit (.string s)
abbrev rowsD' (es : List (List Dp)) : D := .p (.sl es)
abbrev ag (r : List Dp) : D := .agg (r.map .p)
abbrev Γ0 : Glob := fun _ => none
theorem pok : POk Tryz.prog := pok_of (by kernel_rfl) (by kernel_rfl)
end Go.Vi
open Go Go.Proofs
namespace Go.Vi
set_option maxRecDepth 100000
def I64 (n : Int) : Prop := -9223372036854775808 ≤ n ∧ n ≤ 9223372036854775807

theorem u64_neg {n : Int} (h : I64 n) (hn : n < 0) : IntKind.u64.wrap (0 - IntKind.u64.wrap n) = (n.natAbs : Int) := by
  obtain ⟨h1, h2⟩ := h
  simp only [IntKind.wrap, IntKind.bits, IntKind.signed, Bool.false_and, Bool.false_eq_true, if_false]
  omega
theorem u64_pos {n : Int} (h : I64 n) (hn : ¬ n < 0) : IntKind.u64.wrap n = (n.natAbs : Int) := by
  obtain ⟨h1, h2⟩ := h
  simp only [IntKind.wrap, IntKind.bits, IntKind.signed, Bool.false_and, Bool.false_eq_true, if_false]
  omega

theorem size_ev {n : Int} (hn : I64 n) (h : List Blk) : Ev Tryz.prog Γ0 147 [int n] h (u64 n.natAbs) h := by
  by_cases h0 : n < 0
  · rw [← u64_neg hn h0]
    exact Ev.sym0 pok (φ := [decide (n < 0) = true]) [.b true] (by kernel_rfl) ⟨by simpa using h0, trivial⟩ rfl rfl h
  · rw [← u64_pos hn h0]
    exact Ev.sym0 pok (φ := [decide (n < 0) = false]) [.b false] (by kernel_rfl) ⟨by simpa using h0, trivial⟩ rfl rfl h
theorem refSize_ev {n : Int} (hn : I64 n) (h : List Blk) : Ev Tryz.prog Γ0 176 [int n] h (u64 n.natAbs) h := by
  by_cases h0 : n < 0
  · rw [← u64_neg hn h0]
    exact Ev.sym0 pok (φ := [decide (n < 0) = true]) [.b true] (by kernel_rfl) ⟨by simpa using h0, trivial⟩ rfl rfl h
  · rw [← u64_pos hn h0]
    exact Ev.sym0 pok (φ := [decide (n < 0) = false]) [.b false] (by kernel_rfl) ⟨by simpa using h0, trivial⟩ rfl rfl h

abbrev stepCell : Blk := .var [.fn (.func 146) [] [.ref (.ptr 0 0)]]
theorem step_ev : ∀ (y x : Nat), Ev Tryz.prog Γ0 146 [u64 x, u64 y, .ref (.ptr 0 0)] [stepCell] (u64 (Nat.gcd y x)) [stepCell] := by
  intro y
  induction y using Nat.strongRecOn with
  | _ y ih =>
    intro x
    by_cases h0 : y = 0
    · subst h0
      rw [Nat.gcd_zero_left]
      exact Ev.of_sym pok (φ := [((0 : Int) == 0) = true]) [.b true] (by kernel_rfl) ⟨by simp, trivial⟩
    · have hi := ih (x % y) (Nat.mod_lt _ (by omega)) y
      rw [← Nat.gcd_rec] at hi
      refine Ev.of_sym pok (φ := [((y : Int) == 0) = false, (!decide ((y : Int) = 0)) = true, Ev Tryz.prog Γ0 146 [u64 y, u64 ((x : Int).tmod y), .ref (.ptr 0 0)] [stepCell] (u64 (Nat.gcd y x)) [stepCell]]) [.b false, .val (u64 (Nat.gcd y x))] (by kernel_rfl) ⟨?_, ?_, ?_, trivial⟩
      · simp; omega
      · simp; omega
      · rw [show (x : Int).tmod y = ((x % y : Nat) : Int) by rw [Int.tmod_eq_emod_of_nonneg (by omega)]; simp]
        exact hi

theorem common_ev {a b : Int} (ha : I64 a) (hb : I64 b) (h : List Blk) : Ev Tryz.prog Γ0 101 [int a, int b] h (u64 (Nat.gcd b.natAbs a.natAbs)) h :=
  Ev.sym0 pok (φ := [Ev Tryz.prog Γ0 147 [int a] [stepCell] (u64 a.natAbs) [stepCell], Ev Tryz.prog Γ0 147 [int b] [stepCell] (u64 b.natAbs) [stepCell],
      Ev Tryz.prog Γ0 146 [u64 a.natAbs, u64 b.natAbs, .ref (.ptr 0 0)] [stepCell] (u64 (Nat.gcd b.natAbs a.natAbs)) [stepCell]])
    [.val (u64 a.natAbs), .val (u64 b.natAbs), .val (u64 (Nat.gcd b.natAbs a.natAbs))] (by kernel_rfl) ⟨size_ev ha _, size_ev hb _, step_ev _ _, trivial⟩ rfl rfl h

/-- Is a fraction invalid? (as the program asks) -/
def badR (n d : Int) : Bool := decide (d < 1) || decide (d > 1073741824) || decide (n < -1073741824) || decide (n > 1073741824) || (Nat.gcd d.natAbs n.natAbs : Int) != 1
def errR (n d : Int) : Int := if badR n d then 50 else 0

theorem check_ev {n d : Int} (hn : I64 n) (hd : I64 d) (h : List Blk) : Ev Tryz.prog Γ0 49 [.agg [int n, int d]] h (int (errR n d)) h := by
  have hc := common_ev hn hd [.var [int n, int d]]
  cases hb : badR n d
  · simp only [errR, hb]
    exact Ev.sym0 pok (φ := [(!(decide (d < 1) || decide (d > 1073741824) || decide (n < -1073741824) || decide (n > 1073741824))) = true →
        Ev Tryz.prog Γ0 101 [int n, int d] [.var [int n, int d]] (u64 (Nat.gcd d.natAbs n.natAbs)) [.var [int n, int d]], badR n d = false])
      [.val (u64 (Nat.gcd d.natAbs n.natAbs)), .b false] (by kernel_rfl) ⟨fun _ => hc, hb, trivial⟩ rfl rfl h
  · simp only [errR, hb]
    exact Ev.sym0 pok (φ := [(!(decide (d < 1) || decide (d > 1073741824) || decide (n < -1073741824) || decide (n > 1073741824))) = true →
        Ev Tryz.prog Γ0 101 [int n, int d] [.var [int n, int d]] (u64 (Nat.gcd d.natAbs n.natAbs)) [.var [int n, int d]], badR n d = true])
      [.val (u64 (Nat.gcd d.natAbs n.natAbs)), .b true] (by kernel_rfl) ⟨fun _ => hc, hb, trivial⟩ rfl rfl h
end Go.Vi
open Go Go.Proofs
namespace Go.Vi
set_option maxRecDepth 100000
theorem tmod_nat (x y : Nat) : (x : Int).tmod y = ((x % y : Nat) : Int) := by
  rw [Int.tmod_eq_emod_of_nonneg (by omega)]; simp

theorem refCommon_loop (p : Nat × Nat) : CW Tryz.prog Γ0 [] false (.loop (sub Tryz.f175 0)) { t := mkT 12 0 [(0, u64 p.1), (1, u64 p.2), (4, u64 0)], h := [], m := [] } (.exit 0) { t := mkT 12 0 [(0, u64 (Nat.gcd p.2 p.1)), (4, u64 0)], h := [], m := [] } := by
  refine CW.loop (fun p : Nat × Nat => { t := mkT 12 0 [(0, u64 p.1), (1, u64 p.2), (4, u64 0)], h := [], m := [] }) (fun p => (.exit 0, { t := mkT 12 0 [(0, u64 (Nat.gcd p.2 p.1)), (4, u64 0)], h := [], m := [] })) (fun p => p.2) ?_ p
  rintro ⟨x, y⟩
  by_cases h0 : y = 0
  · subst h0
    refine .inr ⟨by simp, ?_⟩
    simp only [Nat.gcd_zero_left]
    exact CW.sym pok (φ := [decide ((0 : Int) > 0) = false]) [0, 4] [.b false] (by kernel_rfl) ⟨by simp, trivial⟩
  · refine .inl ⟨(y, x % y), Nat.mod_lt _ (by omega), by simp only [← Nat.gcd_rec], ?_⟩
    have := CW.sym (P := Tryz.prog) (Γ := Γ0) (h0 := []) (rd := false) (c := sub Tryz.f175 0) (s := { t := mkT 12 0 [(0, u64 x), (1, u64 y), (4, u64 0)], h := [], m := [] }) (s' := { t := mkT 12 0 [(0, u64 y), (1, u64 ((x : Int).tmod y)), (4, u64 0)], h := [], m := [] }) (e := .normal) pok
      (φ := [decide ((y : Int) > 0) = true, (!decide ((y : Int) = 0)) = true]) [0, 1, 4] [.b true] (by kernel_rfl) ⟨by simp; omega, by simp; omega, trivial⟩
    rw [tmod_nat] at this
    exact this

theorem refCommon_ev (x y : Nat) (h : List Blk) : Ev Tryz.prog Γ0 175 [u64 x, u64 y] h (u64 (Nat.gcd y x)) h :=
  Ev.sym0 pok (φ := [CW Tryz.prog Γ0 [] false (.loop (sub Tryz.f175 0)) { t := mkT 12 0 [(0, u64 x), (1, u64 y), (4, u64 0)], h := [], m := [] } (.exit 0) { t := mkT 12 0 [(0, u64 (Nat.gcd y x)), (4, u64 0)], h := [], m := [] }])
    [.sum [0,1,4,5] (.exit 0) { t := mkT 12 0 [(0, u64 (Nat.gcd y x)), (4, u64 0)], h := [], m := [] }] (by kernel_rfl) ⟨refCommon_loop (x, y), trivial⟩ rfl rfl h

theorem refCheck_ev {n d : Int} (hn : I64 n) (hd : I64 d) (h : List Blk) : Ev Tryz.prog Γ0 142 [.agg [int n, int d]] h (int (errR n d)) h := by
  have h1 := refSize_ev hn [.var [int n, int d]]
  have h2 := refSize_ev hd [.var [int n, int d]]
  have h3 := refCommon_ev n.natAbs d.natAbs [.var [int n, int d]]
  cases hb : badR n d
  · simp only [errR, hb]
    exact Ev.sym0 pok (φ := [(!(decide (d < 1) || decide (d > 1073741824) || decide (n < -1073741824) || decide (n > 1073741824))) = true →
        Ev Tryz.prog Γ0 176 [int n] [.var [int n, int d]] (u64 n.natAbs) [.var [int n, int d]],
        (!(decide (d < 1) || decide (d > 1073741824) || decide (n < -1073741824) || decide (n > 1073741824))) = true →
        Ev Tryz.prog Γ0 176 [int d] [.var [int n, int d]] (u64 d.natAbs) [.var [int n, int d]],
        (!(decide (d < 1) || decide (d > 1073741824) || decide (n < -1073741824) || decide (n > 1073741824))) = true →
        Ev Tryz.prog Γ0 175 [u64 n.natAbs, u64 d.natAbs] [.var [int n, int d]] (u64 (Nat.gcd d.natAbs n.natAbs)) [.var [int n, int d]], badR n d = false])
      [.val (u64 n.natAbs), .val (u64 d.natAbs), .val (u64 (Nat.gcd d.natAbs n.natAbs)), .b false] (by kernel_rfl) ⟨fun _ => h1, fun _ => h2, fun _ => h3, hb, trivial⟩ rfl rfl h
  · simp only [errR, hb]
    exact Ev.sym0 pok (φ := [(!(decide (d < 1) || decide (d > 1073741824) || decide (n < -1073741824) || decide (n > 1073741824))) = true →
        Ev Tryz.prog Γ0 176 [int n] [.var [int n, int d]] (u64 n.natAbs) [.var [int n, int d]],
        (!(decide (d < 1) || decide (d > 1073741824) || decide (n < -1073741824) || decide (n > 1073741824))) = true →
        Ev Tryz.prog Γ0 176 [int d] [.var [int n, int d]] (u64 d.natAbs) [.var [int n, int d]],
        (!(decide (d < 1) || decide (d > 1073741824) || decide (n < -1073741824) || decide (n > 1073741824))) = true →
        Ev Tryz.prog Γ0 175 [u64 n.natAbs, u64 d.natAbs] [.var [int n, int d]] (u64 (Nat.gcd d.natAbs n.natAbs)) [.var [int n, int d]], badR n d = true])
      [.val (u64 n.natAbs), .val (u64 d.natAbs), .val (u64 (Nat.gcd d.natAbs n.natAbs)), .b true] (by kernel_rfl) ⟨fun _ => h1, fun _ => h2, fun _ => h3, hb, trivial⟩ rfl rfl h
end Go.Vi
open Go Go.Proofs
namespace Go.Vi
set_option maxRecDepth 100000
set_option maxHeartbeats 20000

structure Cls where
  name : ByteArray
  earn : Int
  num : Int
  den : Int
  deriving Inhabited
def Cls.row (c : Cls) : List Dp := [vs c.name, vi c.earn, vi c.num, vi c.den]
def Cls.ok (c : Cls) : Prop := I64 c.earn ∧ I64 c.num ∧ I64 c.den
structure FeeT where
  name : ByteArray
  credits : Int
  deriving Inhabited
def FeeT.row (c : FeeT) : List Dp := [vs c.name, vi c.credits]


/-- The number, from 1 on, of the last of the first n elements with a property; 0 if there is none. -/
def lastN {α : Type} (p : α → Bool) (l : List α) : Nat → Nat
  | 0 => 0
  | n + 1 => match l[n]? with
    | some a => if p a then n + 1 else lastN p l n
    | none => lastN p l n
def lastIx {α : Type} (p : α → Bool) (l : List α) : Nat := lastN p l l.length

/-- An 'int' holds the length of every slice. -/
def Short {α : Type} (l : List α) : Prop := l.length ≤ 140737488355328

def lastFin (x : Nat) (h : List Blk) (k : Nat) : Exit × AS := match k with
  | 0 => (.exit 0, { t := mkT x 0 [(4, int 0)], h := h, m := [] })
  | k => (.ret, { t := mkT x 0 [(4, int k)], h := h, m := [] })

theorem getD_row {α : Type} {row : α → List Dp} {l : List α} {n : Nat} {a : α} (h : l[n]? = some a) : (l.map row).getD n [] = row a := by
  simp [List.getD_eq_getElem?_getD, h]

theorem rowAt {α : Type} {row : α → List Dp} {l : List α} {n : Nat} {a : α} {sz : Nat} (h : l[n]? = some a) (hs : (row a).length = sz) : RowAt (n : Int) (l.map row) (row a) sz := by
  have := (List.getElem?_eq_some_iff.1 h).1
  refine ⟨?_, getD_row h, hs⟩
  simp [inR]
  omega
theorem inR_nat {α : Type} {row : α → List Dp} {l : List α} {n : Nat} {a : α} (h : l[n]? = some a) : inR (n : Int) (l.map row).length = true := by
  have := (List.getElem?_eq_some_iff.1 h).1
  simp [inR]
  omega

theorem wrap_pred {n : Nat} (h : (n : Int) ≤ 9223372036854775806) : IntKind.i64.wrap ((n : Int) + 1 - 1) = n := by
  rw [wrap_i64 (by omega) (by omega)]; omega

theorem lastCls_loop {l : List Cls} (hl : Short l) {f : D} {h : List Blk} {p : Cls → Bool} (hf : ∀ c ∈ l, Iv Tryz.prog Γ0 f [ag c.row] h (bool (p c)) h) (n : Nat) (hn : n ≤ l.length) :
    CW Tryz.prog Γ0 h false (.loop (sub Tryz.f95 0)) { t := mkT 20 0 [(0, rowsD' (l.map Cls.row)), (1, f), (4, int 0), (5, int n)], h := h, m := [] } (lastFin 20 h (lastN p l n)).1 (lastFin 20 h (lastN p l n)).2 := by
  refine CW.loop (ι := { n : Nat // n ≤ l.length }) (fun n => { t := mkT 20 0 [(0, rowsD' (l.map Cls.row)), (1, f), (4, int 0), (5, int n.1)], h := h, m := [] }) (fun n => lastFin 20 h (lastN p l n.1)) (fun n => n.1) ?_ ⟨n, hn⟩
  rintro ⟨n, hn⟩
  cases n with
  | zero =>
    refine .inr ⟨by simp [lastN, lastFin], ?_⟩
    exact CW.sym pok (φ := [decide ((0 : Int) > 0) = false]) [4] [.b false] (by kernel_rfl) ⟨by simp, trivial⟩
  | succ n =>
    have ha : l[n]? = some l[n] := List.getElem?_eq_getElem (by omega)
    generalize l[n] = a at ha
    have hw : IntKind.i64.wrap ((n : Int) + 1 - 1) = n := wrap_pred (by unfold Short at hl; omega)
    have h1 : decide ((n : Int) + 1 > 0) = true := decide_eq_true (by omega)
    have h2 : RowAt (IntKind.i64.wrap ((n : Int) + 1 - 1)) (l.map Cls.row) a.row 4 := by rw [hw]; exact rowAt ha rfl
    have h4 := hf a (List.mem_of_getElem? ha)
    cases hp : p a
    · refine .inl ⟨⟨n, by omega⟩, by simp, by simp [lastN, ha, hp], ?_⟩
      have := CW.sym (P := Tryz.prog) (Γ := Γ0) (h0 := h) (rd := false) (c := sub Tryz.f95 0) (s := { t := mkT 20 0 [(0, rowsD' (l.map Cls.row)), (1, f), (4, int 0), (5, int (n + 1))], h := h, m := [] }) (e := .normal)
        (s' := { t := mkT 20 0 [(0, rowsD' (l.map Cls.row)), (1, f), (4, int 0), (5, int (IntKind.i64.wrap ((n : Int) + 1 - 1)))], h := h, m := [] }) pok
        (φ := [decide ((n : Int) + 1 > 0) = true, RowAt (IntKind.i64.wrap ((n : Int) + 1 - 1)) (l.map Cls.row) a.row 4,
          Iv Tryz.prog Γ0 f [ag a.row] h (bool (p a)) h, p a = false]) [0, 1, 4, 5] [.b true, .row a.row, .ival (bool (p a)), .b false] (by kernel_rfl) ⟨h1, h2, h4, hp, trivial⟩
      rw [hw] at this
      exact this
    · refine .inr ⟨by simp [lastN, ha, hp, lastFin], ?_⟩
      simp only [lastN, ha, hp, if_true]
      exact CW.sym pok (φ := [decide ((n : Int) + 1 > 0) = true, RowAt (IntKind.i64.wrap ((n : Int) + 1 - 1)) (l.map Cls.row) a.row 4,
          Iv Tryz.prog Γ0 f [ag a.row] h (bool (p a)) h, p a = true]) [4] [.b true, .row a.row, .ival (bool (p a)), .b true] (by kernel_rfl) ⟨h1, h2, h4, hp, trivial⟩

theorem lastCls_ev {l : List Cls} (hl : Short l) {f : D} {h : List Blk} {p : Cls → Bool} (hf : ∀ c ∈ l, Iv Tryz.prog Γ0 f [ag c.row] h (bool (p c)) h) : Ev Tryz.prog Γ0 95 [rowsD' (l.map Cls.row), f] h (int (lastIx p l)) h := by
  have hloop := lastCls_loop hl hf l.length (Nat.le_refl _)
  have hlen : ((l.map Cls.row).length : Int) = l.length := by simp
  unfold lastIx
  generalize lastN p l l.length = k at hloop ⊢
  rw [← hlen] at hloop
  cases k with
  | zero =>
    exact Ev.of_sym pok (φ := [CW Tryz.prog Γ0 h false (.loop (sub Tryz.f95 0)) { t := mkT 20 0 [(0, rowsD' (l.map Cls.row)), (1, f), (4, int 0), (5, int (l.map Cls.row).length)], h := h, m := [] } (.exit 0) { t := mkT 20 0 [(4, int 0)], h := h, m := [] }])
      [.sum [0,1,4,5] (.exit 0) { t := mkT 20 0 [(4, int 0)], h := h, m := [] }] (by kernel_rfl) ⟨hloop, trivial⟩
  | succ k =>
    exact Ev.of_sym pok (φ := [CW Tryz.prog Γ0 h false (.loop (sub Tryz.f95 0)) { t := mkT 20 0 [(0, rowsD' (l.map Cls.row)), (1, f), (4, int 0), (5, int (l.map Cls.row).length)], h := h, m := [] } .ret { t := mkT 20 0 [(4, int ((k + 1 : Nat) : Int))], h := h, m := [] }])
      [.sum [0,1,4,5] .ret { t := mkT 20 0 [(4, int ((k + 1 : Nat) : Int))], h := h, m := [] }] (by kernel_rfl) ⟨hloop, trivial⟩
end Go.Vi
open Go Go.Proofs
namespace Go.Vi
set_option maxRecDepth 100000
set_option maxHeartbeats 40000
theorem lastFee_loop {l : List FeeT} (hl : Short l) {f : D} {h : List Blk} {p : FeeT → Bool} (hf : ∀ c ∈ l, Iv Tryz.prog Γ0 f [ag c.row] h (bool (p c)) h) (n : Nat) (hn : n ≤ l.length) :
    CW Tryz.prog Γ0 h false (.loop (sub Tryz.f92 0)) { t := mkT 20 0 [(0, rowsD' (l.map FeeT.row)), (1, f), (4, int 0), (5, int n)], h := h, m := [] } (lastFin 20 h (lastN p l n)).1 (lastFin 20 h (lastN p l n)).2 := by
  refine CW.loop (ι := { n : Nat // n ≤ l.length }) (fun n => { t := mkT 20 0 [(0, rowsD' (l.map FeeT.row)), (1, f), (4, int 0), (5, int n.1)], h := h, m := [] }) (fun n => lastFin 20 h (lastN p l n.1)) (fun n => n.1) ?_ ⟨n, hn⟩
  rintro ⟨n, hn⟩
  cases n with
  | zero =>
    refine .inr ⟨by simp [lastN, lastFin], ?_⟩
    exact CW.sym pok (φ := [decide ((0 : Int) > 0) = false]) [4] [.b false] (by kernel_rfl) ⟨by simp, trivial⟩
  | succ n =>
    have ha : l[n]? = some l[n] := List.getElem?_eq_getElem (by omega)
    generalize l[n] = a at ha
    have hw : IntKind.i64.wrap ((n : Int) + 1 - 1) = n := wrap_pred (by unfold Short at hl; omega)
    have h1 : decide ((n : Int) + 1 > 0) = true := decide_eq_true (by omega)
    have h2 : RowAt (IntKind.i64.wrap ((n : Int) + 1 - 1)) (l.map FeeT.row) a.row 2 := by rw [hw]; exact rowAt ha rfl
    have h4 := hf a (List.mem_of_getElem? ha)
    cases hp : p a
    · refine .inl ⟨⟨n, by omega⟩, by simp, by simp [lastN, ha, hp], ?_⟩
      have := CW.sym (P := Tryz.prog) (Γ := Γ0) (h0 := h) (rd := false) (c := sub Tryz.f92 0) (s := { t := mkT 20 0 [(0, rowsD' (l.map FeeT.row)), (1, f), (4, int 0), (5, int (n + 1))], h := h, m := [] }) (e := .normal)
        (s' := { t := mkT 20 0 [(0, rowsD' (l.map FeeT.row)), (1, f), (4, int 0), (5, int (IntKind.i64.wrap ((n : Int) + 1 - 1)))], h := h, m := [] }) pok
        (φ := [decide ((n : Int) + 1 > 0) = true, RowAt (IntKind.i64.wrap ((n : Int) + 1 - 1)) (l.map FeeT.row) a.row 2,
          Iv Tryz.prog Γ0 f [ag a.row] h (bool (p a)) h, p a = false]) [0, 1, 4, 5] [.b true, .row a.row, .ival (bool (p a)), .b false] (by kernel_rfl) ⟨h1, h2, h4, hp, trivial⟩
      rw [hw] at this
      exact this
    · refine .inr ⟨by simp [lastN, ha, hp, lastFin], ?_⟩
      simp only [lastN, ha, hp, if_true]
      exact CW.sym pok (φ := [decide ((n : Int) + 1 > 0) = true, RowAt (IntKind.i64.wrap ((n : Int) + 1 - 1)) (l.map FeeT.row) a.row 2,
          Iv Tryz.prog Γ0 f [ag a.row] h (bool (p a)) h, p a = true]) [4] [.b true, .row a.row, .ival (bool (p a)), .b true] (by kernel_rfl) ⟨h1, h2, h4, hp, trivial⟩

theorem lastFee_ev {l : List FeeT} (hl : Short l) {f : D} {h : List Blk} {p : FeeT → Bool} (hf : ∀ c ∈ l, Iv Tryz.prog Γ0 f [ag c.row] h (bool (p c)) h) : Ev Tryz.prog Γ0 92 [rowsD' (l.map FeeT.row), f] h (int (lastIx p l)) h := by
  have hloop := lastFee_loop hl hf l.length (Nat.le_refl _)
  have hlen : ((l.map FeeT.row).length : Int) = l.length := by simp
  unfold lastIx
  generalize lastN p l l.length = k at hloop ⊢
  rw [← hlen] at hloop
  cases k with
  | zero =>
    exact Ev.of_sym pok (φ := [CW Tryz.prog Γ0 h false (.loop (sub Tryz.f92 0)) { t := mkT 20 0 [(0, rowsD' (l.map FeeT.row)), (1, f), (4, int 0), (5, int (l.map FeeT.row).length)], h := h, m := [] } (.exit 0) { t := mkT 20 0 [(4, int 0)], h := h, m := [] }])
      [.sum [0,1,4,5] (.exit 0) { t := mkT 20 0 [(4, int 0)], h := h, m := [] }] (by kernel_rfl) ⟨hloop, trivial⟩
  | succ k =>
    exact Ev.of_sym pok (φ := [CW Tryz.prog Γ0 h false (.loop (sub Tryz.f92 0)) { t := mkT 20 0 [(0, rowsD' (l.map FeeT.row)), (1, f), (4, int 0), (5, int (l.map FeeT.row).length)], h := h, m := [] } .ret { t := mkT 20 0 [(4, int ((k + 1 : Nat) : Int))], h := h, m := [] }])
      [.sum [0,1,4,5] .ret { t := mkT 20 0 [(4, int ((k + 1 : Nat) : Int))], h := h, m := [] }] (by kernel_rfl) ⟨hloop, trivial⟩
def amt (n : Int) : Bool := decide (n ≥ 0) && decide (n ≤ 10000)
theorem amount_ev (n : Int) (h : List Blk) : Ev Tryz.prog Γ0 91 [int n] h (bool (amt n)) h :=
  Ev.sym0 pok (φ := []) [] (by kernel_rfl) trivial rfl rfl h

def wrongB (c : Cls) : Bool := !amt c.earn || errR c.num c.den != 0 || decide (c.num < 0) || decide (c.num > IntKind.i64.wrap (12 * c.den))
def wrongF (f : FeeT) : Bool := !amt f.credits

theorem wrongB_ev {c : Cls} (hc : c.ok) (h : List Blk) : Ev Tryz.prog Γ0 94 [ag c.row] h (bool (wrongB c)) h :=
  Ev.sym0 pok (φ := [Ev Tryz.prog Γ0 91 [int c.earn] [.var (c.row.map .p)] (bool (amt c.earn)) [.var (c.row.map .p)],
    (!!amt c.earn) = true → Ev Tryz.prog Γ0 49 [.agg [int c.num, int c.den]] [.var (c.row.map .p)] (int (errR c.num c.den)) [.var (c.row.map .p)]])
    [.val (bool (amt c.earn)), .val (int (errR c.num c.den))] (by kernel_rfl) ⟨amount_ev _ _, fun _ => check_ev hc.2.1 hc.2.2 _, trivial⟩ rfl rfl h

theorem wrongF_ev (c : FeeT) (h : List Blk) : Ev Tryz.prog Γ0 96 [ag c.row] h (bool (wrongF c)) h :=
  Ev.sym0 pok (φ := [Ev Tryz.prog Γ0 91 [int c.credits] [.var (c.row.map .p)] (bool (amt c.credits)) [.var (c.row.map .p)]])
    [.val (bool (amt c.credits))] (by kernel_rfl) ⟨amount_ev _ _, trivial⟩ rfl rfl h

structure Sys where
  classes : List Cls
  fees : List FeeT
  honours : List Cls
  clauses : List (List Dp)
def Sys.cells (s : Sys) : List D := [rowsD' (s.classes.map Cls.row), rowsD' (s.fees.map FeeT.row), rowsD' (s.honours.map Cls.row), rowsD' s.clauses]
structure Sys.ok (s : Sys) : Prop where
  c : ∀ c ∈ s.classes, c.ok
  h : ∀ c ∈ s.honours, c.ok
  f : ∀ f ∈ s.fees, I64 f.credits
  lc : Short s.classes
  lh : Short s.honours
  lf : Short s.fees
  ll : Short s.clauses

def fnv (k : Nat) : D := lit (.func (.func k) #[] #[])

theorem wrongB_iv {l : List Cls} (hl : ∀ c ∈ l, c.ok) (h : List Blk) : ∀ c ∈ l, Iv Tryz.prog Γ0 (fnv 94) [ag c.row] h (bool (wrongB c)) h :=
  fun c hc => Iv.of (f := 94) (fi := []) (ca := []) pok (by kernel_rfl) (by kernel_rfl) (wrongB_ev (hl c hc) h)
theorem wrongF_iv {l : List FeeT} (h : List Blk) : ∀ c ∈ l, Iv Tryz.prog Γ0 (fnv 96) [ag c.row] h (bool (wrongF c)) h :=
  fun c _ => Iv.of (f := 96) (fi := []) (ca := []) pok (by kernel_rfl) (by kernel_rfl) (wrongF_ev c h)

def badS (s : Sys) : Bool := decide (IntKind.i64.wrap ((lastIx wrongB s.classes : Int) + (lastIx wrongB s.honours : Int)) > 0) || decide ((lastIx wrongF s.fees : Int) > 0)
def errS (s : Sys) : Int := if badS s then 1 else 0

theorem sCheck_ev {s : Sys} (hs : s.ok) (h : List Blk) : Ev Tryz.prog Γ0 43 [.agg s.cells] h (int (errS s)) h := by
  have h1 := lastCls_ev hs.lc (wrongB_iv hs.c [.var s.cells])
  have h2 := lastCls_ev hs.lh (wrongB_iv hs.h [.var s.cells])
  have h3 := lastFee_ev hs.lf (wrongF_iv (l := s.fees) [.var s.cells])
  cases hb : badS s
  · simp only [errS, hb]
    exact Ev.sym0 pok (φ := [Ev Tryz.prog Γ0 95 [rowsD' (s.classes.map Cls.row), fnv 94] [.var s.cells] (int (lastIx wrongB s.classes)) [.var s.cells],
      Ev Tryz.prog Γ0 95 [rowsD' (s.honours.map Cls.row), fnv 94] [.var s.cells] (int (lastIx wrongB s.honours)) [.var s.cells],
      (!decide (IntKind.i64.wrap ((lastIx wrongB s.classes : Int) + (lastIx wrongB s.honours : Int)) > 0)) = true → Ev Tryz.prog Γ0 92 [rowsD' (s.fees.map FeeT.row), fnv 96] [.var s.cells] (int (lastIx wrongF s.fees)) [.var s.cells], badS s = false])
      [.val (int (lastIx wrongB s.classes)), .val (int (lastIx wrongB s.honours)), .val (int (lastIx wrongF s.fees)), .b false] (by kernel_rfl) ⟨h1, h2, fun _ => h3, hb, trivial⟩ rfl rfl h
  · simp only [errS, hb]
    exact Ev.sym0 pok (φ := [Ev Tryz.prog Γ0 95 [rowsD' (s.classes.map Cls.row), fnv 94] [.var s.cells] (int (lastIx wrongB s.classes)) [.var s.cells],
      Ev Tryz.prog Γ0 95 [rowsD' (s.honours.map Cls.row), fnv 94] [.var s.cells] (int (lastIx wrongB s.honours)) [.var s.cells],
      (!decide (IntKind.i64.wrap ((lastIx wrongB s.classes : Int) + (lastIx wrongB s.honours : Int)) > 0)) = true → Ev Tryz.prog Γ0 92 [rowsD' (s.fees.map FeeT.row), fnv 96] [.var s.cells] (int (lastIx wrongF s.fees)) [.var s.cells], badS s = true])
      [.val (int (lastIx wrongB s.classes)), .val (int (lastIx wrongB s.honours)), .val (int (lastIx wrongF s.fees)), .b true] (by kernel_rfl) ⟨h1, h2, fun _ => h3, hb, trivial⟩ rfl rfl h

/-- 'Fee', as the program finds it. -/
def feeR (s : Sys) (x : Int) : Int × Int := if errS s != 0 || !amt x then (0, 1) else (lastIx (fun f : FeeT => decide (f.credits ≤ x)) s.fees, 0)

theorem feeP_ev (f : FeeT) (s : Sys) (x : Int) : Ev Tryz.prog Γ0 93 [ag f.row, .ref (.ptr 1 0)] [.var s.cells, .var [int x]] (bool (decide (f.credits ≤ x))) [.var s.cells, .var [int x]] :=
  Ev.symT pok (φ := []) [] (by kernel_rfl) trivial

theorem fee_ev {s : Sys} (hs : s.ok) (x : Int) (h : List Blk) : Ev Tryz.prog Γ0 41 [.agg s.cells, int x] h (.tup [int (feeR s x).1, int (feeR s x).2]) h := by
  have h1 := sCheck_ev hs [.var s.cells, .var [int x]]
  have h2 := amount_ev x [.var s.cells, .var [int x]]
  cases hb : errS s != 0 || !amt x
  · have h3 := lastFee_ev (f := .fn (.func 93) [] [.ref (.ptr 1 0)]) (h := [.var s.cells, .var [int x]]) hs.lf (p := fun f : FeeT => decide (f.credits ≤ x)) (fun c _ => Iv.of (f := 93) (fi := []) (ca := [.ref (.ptr 1 0)]) pok (by kernel_rfl) (by kernel_rfl) (feeP_ev c s x))
    simp only [feeR, hb]
    exact Ev.sym0 pok (φ := [Ev Tryz.prog Γ0 43 [.agg s.cells] [.var s.cells, .var [int x]] (int (errS s)) [.var s.cells, .var [int x]],
      (!errS s != 0) = true → Ev Tryz.prog Γ0 91 [int x] [.var s.cells, .var [int x]] (bool (amt x)) [.var s.cells, .var [int x]], (errS s != 0 || !amt x) = false,
      Ev Tryz.prog Γ0 92 [rowsD' (s.fees.map FeeT.row), .fn (.func 93) [] [.ref (.ptr 1 0)]] [.var s.cells, .var [int x]] (int (lastIx (fun f : FeeT => decide (f.credits ≤ x)) s.fees)) [.var s.cells, .var [int x]]])
      [.val (int (errS s)), .val (bool (amt x)), .b false, .val (int (lastIx (fun f : FeeT => decide (f.credits ≤ x)) s.fees))] (by kernel_rfl) ⟨h1, fun _ => h2, hb, h3, trivial⟩ rfl rfl h
  · simp only [feeR, hb]
    exact Ev.sym0 pok (φ := [Ev Tryz.prog Γ0 43 [.agg s.cells] [.var s.cells, .var [int x]] (int (errS s)) [.var s.cells, .var [int x]],
      (!errS s != 0) = true → Ev Tryz.prog Γ0 91 [int x] [.var s.cells, .var [int x]] (bool (amt x)) [.var s.cells, .var [int x]], (errS s != 0 || !amt x) = true])
      [.val (int (errS s)), .val (bool (amt x)), .b true] (by kernel_rfl) ⟨h1, fun _ => h2, hb, trivial⟩ rfl rfl h
end Go.Vi
open Go Go.Proofs
namespace Go.Vi
set_option maxRecDepth 100000
set_option maxHeartbeats 40000

theorem isNaN_ev (a : Int) (h : List Blk) : Ev Tryz.prog Γ0 123 [int a] h (bool false) h := by
  have := Ev.sym0 (P := Tryz.prog) (Γ := Γ0) (f := 123) (args := [int a]) (d := bool (a != a)) pok (φ := []) [] (by kernel_rfl) trivial rfl rfl h
  simpa using this

def cmpI (a b : Int) : Int := if a < b then -1 else if a > b then 1 else 0

theorem cmpI_ev (a b : Int) (h : List Blk) : Ev Tryz.prog Γ0 66 [int a, int b] h (int (cmpI a b)) h := by
  by_cases h1 : a < b
  · simp only [cmpI, h1, if_true]
    exact Ev.sym0 pok (φ := [Ev Tryz.prog Γ0 123 [int a] [] (bool false) [], Ev Tryz.prog Γ0 123 [int b] [] (bool false) [], false = false, false = false, decide (a < b) = true])
      [.val (bool false), .val (bool false), .b false, .b false, .b true] (by kernel_rfl) ⟨isNaN_ev _ _, isNaN_ev _ _, rfl, rfl, decide_eq_true h1, trivial⟩ rfl rfl h
  · by_cases h2 : a > b
    · simp only [cmpI, h1, h2, if_true, if_false]
      exact Ev.sym0 pok (φ := [Ev Tryz.prog Γ0 123 [int a] [] (bool false) [], Ev Tryz.prog Γ0 123 [int b] [] (bool false) [], false = false, false = false, decide (a < b) = false, decide (a > b) = true])
        [.val (bool false), .val (bool false), .b false, .b false, .b false, .b true] (by kernel_rfl) ⟨isNaN_ev _ _, isNaN_ev _ _, rfl, rfl, decide_eq_false h1, decide_eq_true h2, trivial⟩ rfl rfl h
    · simp only [cmpI, h1, h2, if_false]
      exact Ev.sym0 pok (φ := [Ev Tryz.prog Γ0 123 [int a] [] (bool false) [], Ev Tryz.prog Γ0 123 [int b] [] (bool false) [], false = false, false = false, decide (a < b) = false, decide (a > b) = false])
        [.val (bool false), .val (bool false), .b false, .b false, .b false, .b false] (by kernel_rfl) ⟨isNaN_ev _ _, isNaN_ev _ _, rfl, rfl, decide_eq_false h1, decide_eq_false h2, trivial⟩ rfl rfl h

def crossI (a b c d : Int) : Int := cmpI (IntKind.i64.wrap (a * d)) (IntKind.i64.wrap (c * b))
def cmpR (a b c d : Int) : Int × Int := if errR a b != 0 then (0, errR a b) else if errR c d != 0 then (0, errR c d) else (crossI a b c d, 0)

abbrev hAB (a b c d : Int) : List Blk := [.var [int a, int b], .var [int c, int d]]
abbrev fAB : D := .fn (.func 103) [] [.ref (.ptr 0 0), .ref (.ptr 1 0)]

theorem cross_ev (a b c d : Int) : Ev Tryz.prog Γ0 103 [.ref (.ptr 0 0), .ref (.ptr 1 0)] (hAB a b c d ++ hAB a b c d) (.tup [int (crossI a b c d), int 0]) (hAB a b c d ++ hAB a b c d) :=
  Ev.symT pok (φ := [Ev Tryz.prog Γ0 66 [int (IntKind.i64.wrap (a * d)), int (IntKind.i64.wrap (c * b))] (hAB a b c d ++ hAB a b c d) (int (crossI a b c d)) (hAB a b c d ++ hAB a b c d)])
    [.val (int (crossI a b c d))] (by kernel_rfl) ⟨cmpI_ev _ _ _, trivial⟩

def bothS (a b c d : Int) (i : Nat) : AS := { t := mkT 28 0 [(2, fAB), (6, int 0), (7, int 0), (13, .agg [int a, int b, int c, int d]), (14, int i)], h := hAB a b c d ++ hAB a b c d, m := [] }

theorem both_1 {a b : Int} (c d : Int) (ha : I64 a) (hb : I64 b) (h0 : (errR a b != 0) = false) : CW Tryz.prog Γ0 (hAB a b c d) false (sub Tryz.f102 0) (bothS a b c d 0) .normal (bothS a b c d 1) := by
  have := CW.symT (P := Tryz.prog) (Γ := Γ0) (h0 := hAB a b c d) (rd := false) (c := sub Tryz.f102 0) (s := bothS a b c d 0) (e := .normal) (s' := { t := mkT 28 0 [(2, fAB), (6, int 0), (7, int 0), (13, .agg [int a, int b, int c, int d]), (14, int (IntKind.i64.wrap (0 + 1)))], h := hAB a b c d ++ hAB a b c d, m := [] }) pok
    (φ := [decide ((0 : Int) < 2) = true, inR 0 2 = true, Ev Tryz.prog Γ0 49 [.agg [int a, int b]] (hAB a b c d ++ hAB a b c d ++ [.var [int a, int b]]) (int (errR a b)) (hAB a b c d ++ hAB a b c d ++ [.var [int a, int b]]), (errR a b != 0) = false])
    [2, 6, 7, 13, 14] 4 (Nat.le_of_ble_eq_true rfl) [.b true, .val (int (errR a b)), .b false] (by kernel_rfl) ⟨by decide, by decide, check_ev ha hb _, h0, trivial⟩
  exact this

theorem both_2 (a b : Int) {c d : Int} (hc : I64 c) (hd : I64 d) (h0 : (errR c d != 0) = false) : CW Tryz.prog Γ0 (hAB a b c d) false (sub Tryz.f102 0) (bothS a b c d 1) .normal (bothS a b c d 2) := by
  have := CW.symT (P := Tryz.prog) (Γ := Γ0) (h0 := hAB a b c d) (rd := false) (c := sub Tryz.f102 0) (s := bothS a b c d 1) (e := .normal) (s' := { t := mkT 28 0 [(2, fAB), (6, int 0), (7, int 0), (13, .agg [int a, int b, int c, int d]), (14, int (IntKind.i64.wrap (1 + 1)))], h := hAB a b c d ++ hAB a b c d, m := [] }) pok
    (φ := [decide ((1 : Int) < 2) = true, inR 1 2 = true, Ev Tryz.prog Γ0 49 [.agg [int c, int d]] (hAB a b c d ++ hAB a b c d ++ [.var [int c, int d]]) (int (errR c d)) (hAB a b c d ++ hAB a b c d ++ [.var [int c, int d]]), (errR c d != 0) = false])
    [2, 6, 7, 13, 14] 4 (Nat.le_of_ble_eq_true rfl) [.b true, .val (int (errR c d)), .b false] (by kernel_rfl) ⟨by decide, by decide, check_ev hc hd _, h0, trivial⟩
  exact this

def retS (a b c d e : Int) : AS := { t := mkT 28 0 [(6, int 0), (7, int e)], h := hAB a b c d ++ hAB a b c d, m := [] }

theorem both_loop {a b c d : Int} (ha : I64 a) (hb : I64 b) (hc : I64 c) (hd : I64 d) :
    (∃ e, cmpR a b c d = (0, e) ∧ CW Tryz.prog Γ0 (hAB a b c d) false (.loop (sub Tryz.f102 0)) (bothS a b c d 0) .ret (retS a b c d e)) ∨
    (cmpR a b c d = (crossI a b c d, 0) ∧ CW Tryz.prog Γ0 (hAB a b c d) false (.loop (sub Tryz.f102 0)) (bothS a b c d 0) (.exit 0) { t := mkT 28 0 [(2, fAB), (6, int 0), (7, int 0)], h := hAB a b c d ++ hAB a b c d, m := [] }) := by
  cases h0 : errR a b != 0
  · cases h1 : errR c d != 0
    · refine .inr ⟨by simp [cmpR, h0, h1], ?_⟩
      refine CW.loopN 2 (bothS a b c d) (by simp) (fun i hi => ?_) ?_
      · match i, hi with
        | 0, _ => exact both_1 c d ha hb h0
        | 1, _ => exact both_2 a b hc hd h1
      · exact CW.symT pok (φ := [decide ((2 : Int) < 2) = false]) [2, 6, 7] 4 (Nat.le_of_ble_eq_true rfl) [.b false] (by kernel_rfl) ⟨by decide, trivial⟩
    · refine .inl ⟨errR c d, by simp [cmpR, h0, h1], ?_⟩
      refine CW.loopN 1 (bothS a b c d) (by simp) (fun i hi => ?_) ?_
      · match i, hi with
        | 0, _ => exact both_1 c d ha hb h0
      · exact CW.symT pok (φ := [decide ((1 : Int) < 2) = true, inR 1 2 = true, Ev Tryz.prog Γ0 49 [.agg [int c, int d]] (hAB a b c d ++ hAB a b c d ++ [.var [int c, int d]]) (int (errR c d)) (hAB a b c d ++ hAB a b c d ++ [.var [int c, int d]]), (errR c d != 0) = true])
          [6, 7] 4 (Nat.le_of_ble_eq_true rfl) [.b true, .val (int (errR c d)), .b true] (by kernel_rfl) ⟨by decide, by decide, check_ev hc hd _, h1, trivial⟩
  · refine .inl ⟨errR a b, by simp [cmpR, h0], ?_⟩
    refine CW.loopN 0 (bothS a b c d) (by simp) (fun i hi => absurd hi (Nat.not_lt_zero i)) ?_
    exact CW.symT pok (φ := [decide ((0 : Int) < 2) = true, inR 0 2 = true, Ev Tryz.prog Γ0 49 [.agg [int a, int b]] (hAB a b c d ++ hAB a b c d ++ [.var [int a, int b]]) (int (errR a b)) (hAB a b c d ++ hAB a b c d ++ [.var [int a, int b]]), (errR a b != 0) = true])
          [6, 7] 4 (Nat.le_of_ble_eq_true rfl) [.b true, .val (int (errR a b)), .b true] (by kernel_rfl) ⟨by decide, by decide, check_ev ha hb _, h0, trivial⟩

theorem both_ev {a b c d : Int} (ha : I64 a) (hb : I64 b) (hc : I64 c) (hd : I64 d) : Ev Tryz.prog Γ0 102 [.agg [int a, int b], .agg [int c, int d], fAB] (hAB a b c d) (.tup [int (cmpR a b c d).1, int (cmpR a b c d).2]) (hAB a b c d) := by
  rcases both_loop ha hb hc hd with ⟨e, h1, h2⟩ | ⟨h1, h2⟩
  · rw [h1]
    exact Ev.symT pok (φ := [CW Tryz.prog Γ0 (hAB a b c d) false (.loop (sub Tryz.f102 0)) (bothS a b c d 0) .ret (retS a b c d e)])
      [.sum [2, 6, 7, 13, 14] .ret (retS a b c d e)] (by kernel_rfl) ⟨h2, trivial⟩
  · rw [h1]
    exact Ev.symT pok (φ := [CW Tryz.prog Γ0 (hAB a b c d) false (.loop (sub Tryz.f102 0)) (bothS a b c d 0) (.exit 0) { t := mkT 28 0 [(2, fAB), (6, int 0), (7, int 0)], h := hAB a b c d ++ hAB a b c d, m := [] },
      Ev Tryz.prog Γ0 103 [.ref (.ptr 0 0), .ref (.ptr 1 0)] (hAB a b c d ++ hAB a b c d) (.tup [int (crossI a b c d), int 0]) (hAB a b c d ++ hAB a b c d)])
      [.sum [2, 6, 7, 13, 14] (.exit 0) { t := mkT 28 0 [(2, fAB), (6, int 0), (7, int 0)], h := hAB a b c d ++ hAB a b c d, m := [] }, .val (.tup [int (crossI a b c d), int 0])] (by kernel_rfl)
      ⟨h2, cross_ev _ _ _ _, trivial⟩

theorem compare_ev {a b c d : Int} (ha : I64 a) (hb : I64 b) (hc : I64 c) (hd : I64 d) (h : List Blk) : Ev Tryz.prog Γ0 51 [.agg [int a, int b], .agg [int c, int d]] h (.tup [int (cmpR a b c d).1, int (cmpR a b c d).2]) h :=
  Ev.sym0 pok (φ := [Ev Tryz.prog Γ0 102 [.agg [int a, int b], .agg [int c, int d], fAB] (hAB a b c d) (.tup [int (cmpR a b c d).1, int (cmpR a b c d).2]) (hAB a b c d)])
    [.val (.tup [int (cmpR a b c d).1, int (cmpR a b c d).2])] (by kernel_rfl) ⟨both_ev ha hb hc hd, trivial⟩ rfl rfl h

/-- Do the conditions of a standing hold, as the program asks? -/
def holdsB (earned n d : Int) (c : Cls) : Bool := decide ((cmpR c.num c.den n d).1 ≤ 0) && decide (c.earn ≤ earned)

abbrev hOf (s : Sys) (earned n d : Int) : List Blk := [.var s.cells, .var [int earned], .var [int n, int d]]

theorem holdsP_ev {c : Cls} (hc : c.ok) (s : Sys) {earned n d : Int} (hn : I64 n) (hd : I64 d) : Ev Tryz.prog Γ0 141 [ag c.row, .ref (.ptr 2 0), .ref (.ptr 1 0)] (hOf s earned n d) (bool (holdsB earned n d c)) (hOf s earned n d) :=
  Ev.symT pok (φ := [Ev Tryz.prog Γ0 51 [.agg [int c.num, int c.den], .agg [int n, int d]] (hOf s earned n d ++ [.var (c.row.map .p)]) (.tup [int (cmpR c.num c.den n d).1, int (cmpR c.num c.den n d).2]) (hOf s earned n d ++ [.var (c.row.map .p)])])
    [.val (.tup [int (cmpR c.num c.den n d).1, int (cmpR c.num c.den n d).2])] (by kernel_rfl) ⟨compare_ev hc.2.1 hc.2.2 hn hd _, trivial⟩

def ofR (s : Sys) (l : List Cls) (earned n d : Int) : Int × Int :=
  if errS s != 0 || !amt earned then (0, 1) else if errR n d != 0 then (0, errR n d) else (lastIx (holdsB earned n d) l, 0)

theorem of_ev {s : Sys} (hs : s.ok) {l : List Cls} (hl : ∀ c ∈ l, c.ok) (hsl : Short l) {earned n d : Int} (hn : I64 n) (hd : I64 d) (h : List Blk) :
    Ev Tryz.prog Γ0 89 [.agg s.cells, rowsD' (l.map Cls.row), int earned, .agg [int n, int d]] h (.tup [int (ofR s l earned n d).1, int (ofR s l earned n d).2]) h := by
  have h1 := sCheck_ev hs (hOf s earned n d)
  have h2 := amount_ev earned (hOf s earned n d)
  have h4 := check_ev hn hd (hOf s earned n d)
  cases h0 : errS s != 0 || !amt earned
  · cases h3 : errR n d != 0
    · have h5 := lastCls_ev (f := .fn (.func 141) [] [.ref (.ptr 2 0), .ref (.ptr 1 0)]) (h := hOf s earned n d) hsl (p := holdsB earned n d) (fun c hc => Iv.of (f := 141) (fi := []) (ca := [.ref (.ptr 2 0), .ref (.ptr 1 0)]) pok (by kernel_rfl) (by kernel_rfl) (holdsP_ev (hl c hc) s hn hd))
      simp only [ofR, h0, h3]
      exact Ev.sym0 pok (φ := [Ev Tryz.prog Γ0 43 [.agg s.cells] (hOf s earned n d) (int (errS s)) (hOf s earned n d),
        (!errS s != 0) = true → Ev Tryz.prog Γ0 91 [int earned] (hOf s earned n d) (bool (amt earned)) (hOf s earned n d), (errS s != 0 || !amt earned) = false,
        Ev Tryz.prog Γ0 49 [.agg [int n, int d]] (hOf s earned n d) (int (errR n d)) (hOf s earned n d), (errR n d != 0) = false,
        Ev Tryz.prog Γ0 95 [rowsD' (l.map Cls.row), .fn (.func 141) [] [.ref (.ptr 2 0), .ref (.ptr 1 0)]] (hOf s earned n d) (int (lastIx (holdsB earned n d) l)) (hOf s earned n d)])
        [.val (int (errS s)), .val (bool (amt earned)), .b false, .val (int (errR n d)), .b false, .val (int (lastIx (holdsB earned n d) l))] (by kernel_rfl) ⟨h1, fun _ => h2, h0, h4, h3, h5, trivial⟩ rfl rfl h
    · simp only [ofR, h0, h3]
      exact Ev.sym0 pok (φ := [Ev Tryz.prog Γ0 43 [.agg s.cells] (hOf s earned n d) (int (errS s)) (hOf s earned n d),
        (!errS s != 0) = true → Ev Tryz.prog Γ0 91 [int earned] (hOf s earned n d) (bool (amt earned)) (hOf s earned n d), (errS s != 0 || !amt earned) = false,
        Ev Tryz.prog Γ0 49 [.agg [int n, int d]] (hOf s earned n d) (int (errR n d)) (hOf s earned n d), (errR n d != 0) = true])
        [.val (int (errS s)), .val (bool (amt earned)), .b false, .val (int (errR n d)), .b true] (by kernel_rfl) ⟨h1, fun _ => h2, h0, h4, h3, trivial⟩ rfl rfl h
  · simp only [ofR, h0]
    exact Ev.sym0 pok (φ := [Ev Tryz.prog Γ0 43 [.agg s.cells] (hOf s earned n d) (int (errS s)) (hOf s earned n d),
        (!errS s != 0) = true → Ev Tryz.prog Γ0 91 [int earned] (hOf s earned n d) (bool (amt earned)) (hOf s earned n d), (errS s != 0 || !amt earned) = true])
        [.val (int (errS s)), .val (bool (amt earned)), .b true] (by kernel_rfl) ⟨h1, fun _ => h2, h0, trivial⟩ rfl rfl h

abbrev tupR (r : Int × Int) : D := .tup [int r.1, int r.2]

theorem class_ev {s : Sys} (hs : s.ok) {earned n d : Int} (hn : I64 n) (hd : I64 d) (h : List Blk) : Ev Tryz.prog Γ0 37 [.agg s.cells, int earned, .agg [int n, int d]] h (tupR (ofR s s.classes earned n d)) h :=
  Ev.sym0 pok (φ := [Ev Tryz.prog Γ0 89 [.agg s.cells, rowsD' (s.classes.map Cls.row), int earned, .agg [int n, int d]] [.var s.cells, .var [int n, int d]] (tupR (ofR s s.classes earned n d)) [.var s.cells, .var [int n, int d]]])
    [.val (tupR (ofR s s.classes earned n d))] (by kernel_rfl) ⟨of_ev hs hs.c hs.lc hn hd _, trivial⟩ rfl rfl h
theorem honour_ev {s : Sys} (hs : s.ok) {earned n d : Int} (hn : I64 n) (hd : I64 d) (h : List Blk) : Ev Tryz.prog Γ0 39 [.agg s.cells, int earned, .agg [int n, int d]] h (tupR (ofR s s.honours earned n d)) h :=
  Ev.sym0 pok (φ := [Ev Tryz.prog Γ0 89 [.agg s.cells, rowsD' (s.honours.map Cls.row), int earned, .agg [int n, int d]] [.var s.cells, .var [int n, int d]] (tupR (ofR s s.honours earned n d)) [.var s.cells, .var [int n, int d]]])
    [.val (tupR (ofR s s.honours earned n d))] (by kernel_rfl) ⟨of_ev hs hs.h hs.lh hn hd _, trivial⟩ rfl rfl h
end Go.Vi
open Go Go.Proofs
namespace Go.Vi
set_option maxRecDepth 100000
set_option maxHeartbeats 40000

theorem drop_at {α : Type} {l : List α} {i : Nat} {a : α} (h : l[i]? = some a) : l.drop i = a :: l.drop (i + 1) := by
  obtain ⟨h1, h2⟩ := List.getElem?_eq_some_iff.1 h
  rw [List.drop_eq_getElem_cons h1, h2]

theorem wrap_succ {i n : Nat} (h : i < n) (hn : n ≤ 140737488355328) : IntKind.i64.wrap ((i : Int) + 1) = ((i + 1 : Nat) : Int) := by
  rw [wrap_i64 (by omega) (by omega)]; omega

theorem lt_len {α : Type} (row : α → List Dp) {l : List α} {i : Nat} (h : i < l.length) : decide ((i : Int) < ((l.map row).length : Int)) = true := by simp; omega
theorem ge_len {α : Type} (row : α → List Dp) (l : List α) : decide ((l.length : Int) < ((l.map row).length : Int)) = false := by simp

def wrongV (c : Cls) : Bool := decide (c.earn < 0) || decide (c.earn > 10000) || errR c.num c.den != 0 || decide (c.num < 0) || decide (c.num > IntKind.i64.wrap (12 * c.den))

def validFin (h : List Blk) (b : Bool) (l : List Cls) : Exit × AS := match b with
  | true => (.ret, { t := mkT 58 0 [(2, bool false)], h := h, m := [] })
  | false => (.exit 0, { t := mkT 58 0 [(0, rowsD' (l.map Cls.row)), (2, bool false)], h := h, m := [] })

theorem valid_loop {l : List Cls} (hl : ∀ c ∈ l, c.ok) (hs : Short l) (h : List Blk) (i : Nat) (hi : i ≤ l.length) :
    CW Tryz.prog Γ0 h false (.loop (sub Tryz.f97 0)) { t := mkT 58 0 [(0, rowsD' (l.map Cls.row)), (2, bool false), (3, int i)], h := h, m := [] } (validFin h ((l.drop i).any wrongV) l).1 (validFin h ((l.drop i).any wrongV) l).2 := by
  refine CW.loop (ι := { n : Nat // n ≤ l.length }) (fun i => { t := mkT 58 0 [(0, rowsD' (l.map Cls.row)), (2, bool false), (3, int i.1)], h := h, m := [] }) (fun i => validFin h ((l.drop i.1).any wrongV) l) (fun i => l.length - i.1) ?_ ⟨i, hi⟩
  rintro ⟨i, hi⟩
  by_cases hlt : i < l.length
  · have ha : l[i]? = some l[i] := List.getElem?_eq_getElem hlt
    generalize l[i] = c at ha
    have hc := hl c (List.mem_of_getElem? ha)
    have hr : RowAt (i : Int) (l.map Cls.row) c.row 4 := rowAt ha rfl
    have hk := refCheck_ev hc.2.1 hc.2.2 h
    cases hp : wrongV c
    · refine .inl ⟨⟨i + 1, hlt⟩, by simp only; omega, by simp [drop_at ha, hp], ?_⟩
      have := CW.sym (P := Tryz.prog) (Γ := Γ0) (h0 := h) (rd := false) (c := sub Tryz.f97 0) (s := { t := mkT 58 0 [(0, rowsD' (l.map Cls.row)), (2, bool false), (3, int i)], h := h, m := [] }) (e := .normal)
        (s' := { t := mkT 58 0 [(0, rowsD' (l.map Cls.row)), (2, bool false), (3, int (IntKind.i64.wrap ((i : Int) + 1)))], h := h, m := [] }) pok
        (φ := [decide ((i : Int) < ((l.map Cls.row).length : Int)) = true, RowAt i (l.map Cls.row) c.row 4, (!decide (c.earn < 0)) = true → RowAt i (l.map Cls.row) c.row 4,
          (!(decide (c.earn < 0) || decide (c.earn > 10000))) = true → RowAt i (l.map Cls.row) c.row 4,
          (!(decide (c.earn < 0) || decide (c.earn > 10000))) = true → Ev Tryz.prog Γ0 142 [.agg [int c.num, int c.den]] h (int (errR c.num c.den)) h,
          (!(decide (c.earn < 0) || decide (c.earn > 10000) || errR c.num c.den != 0)) = true → RowAt i (l.map Cls.row) c.row 4,
          (!(decide (c.earn < 0) || decide (c.earn > 10000) || errR c.num c.den != 0 || decide (c.num < 0))) = true → RowAt i (l.map Cls.row) c.row 4,
          (!(decide (c.earn < 0) || decide (c.earn > 10000) || errR c.num c.den != 0 || decide (c.num < 0))) = true → RowAt i (l.map Cls.row) c.row 4, wrongV c = false])
        [0, 2, 3] [.b true, .row c.row, .row c.row, .row c.row, .val (int (errR c.num c.den)), .row c.row, .row c.row, .row c.row, .b false] (by kernel_rfl)
        ⟨lt_len _ hlt, hr, fun _ => hr, fun _ => hr, fun _ => hk, fun _ => hr, fun _ => hr, fun _ => hr, hp, trivial⟩
      rw [wrap_succ hlt hs] at this
      exact this
    · refine .inr ⟨by simp [drop_at ha, hp, validFin], ?_⟩
      simp only [drop_at ha, List.any_cons, hp, Bool.true_or]
      exact CW.sym pok
        (φ := [decide ((i : Int) < ((l.map Cls.row).length : Int)) = true, RowAt i (l.map Cls.row) c.row 4, (!decide (c.earn < 0)) = true → RowAt i (l.map Cls.row) c.row 4,
          (!(decide (c.earn < 0) || decide (c.earn > 10000))) = true → RowAt i (l.map Cls.row) c.row 4,
          (!(decide (c.earn < 0) || decide (c.earn > 10000))) = true → Ev Tryz.prog Γ0 142 [.agg [int c.num, int c.den]] h (int (errR c.num c.den)) h,
          (!(decide (c.earn < 0) || decide (c.earn > 10000) || errR c.num c.den != 0)) = true → RowAt i (l.map Cls.row) c.row 4,
          (!(decide (c.earn < 0) || decide (c.earn > 10000) || errR c.num c.den != 0 || decide (c.num < 0))) = true → RowAt i (l.map Cls.row) c.row 4,
          (!(decide (c.earn < 0) || decide (c.earn > 10000) || errR c.num c.den != 0 || decide (c.num < 0))) = true → RowAt i (l.map Cls.row) c.row 4, wrongV c = true])
        [2] [.b true, .row c.row, .row c.row, .row c.row, .val (int (errR c.num c.den)), .row c.row, .row c.row, .row c.row, .b true] (by kernel_rfl)
        ⟨lt_len _ hlt, hr, fun _ => hr, fun _ => hr, fun _ => hk, fun _ => hr, fun _ => hr, fun _ => hr, hp, trivial⟩
  · have : i = l.length := by omega
    subst this
    refine .inr ⟨by simp [validFin], ?_⟩
    simp only [List.drop_length, List.any_nil]
    exact CW.sym pok (φ := [decide ((l.length : Int) < ((l.map Cls.row).length : Int)) = false]) [0, 2] [.b false] (by kernel_rfl) ⟨ge_len _ l, trivial⟩

theorem valid_ev {l : List Cls} (hl : ∀ c ∈ l, c.ok) (hs : Short l) (h : List Blk) : Ev Tryz.prog Γ0 97 [rowsD' (l.map Cls.row)] h (bool (!l.any wrongV)) h := by
  have hloop := valid_loop hl hs h 0 (Nat.zero_le _)
  rw [List.drop_zero] at hloop
  cases hb : l.any wrongV
  · rw [hb] at hloop
    exact Ev.of_sym pok (φ := [CW Tryz.prog Γ0 h false (.loop (sub Tryz.f97 0)) { t := mkT 58 0 [(0, rowsD' (l.map Cls.row)), (2, bool false), (3, int 0)], h := h, m := [] } (.exit 0) { t := mkT 58 0 [(0, rowsD' (l.map Cls.row)), (2, bool false)], h := h, m := [] }])
      [.sum [0, 2, 3] (.exit 0) { t := mkT 58 0 [(0, rowsD' (l.map Cls.row)), (2, bool false)], h := h, m := [] }] (by kernel_rfl) ⟨hloop, trivial⟩
  · rw [hb] at hloop
    exact Ev.of_sym pok (φ := [CW Tryz.prog Γ0 h false (.loop (sub Tryz.f97 0)) { t := mkT 58 0 [(0, rowsD' (l.map Cls.row)), (2, bool false), (3, int 0)], h := h, m := [] } .ret { t := mkT 58 0 [(2, bool false)], h := h, m := [] }])
      [.sum [0, 2, 3] .ret { t := mkT 58 0 [(2, bool false)], h := h, m := [] }] (by kernel_rfl) ⟨hloop, trivial⟩

/- The fees. -/
def wrongG (f : FeeT) : Bool := decide (f.credits < 0) || decide (f.credits > 10000)
def feesFin (s : Sys) (b : Bool) : Exit × AS := match b with
  | true => (.ret, { t := mkT 37 0 [(2, int 1)], h := [.var s.cells], m := [] })
  | false => (.exit 0, { t := mkT 37 0 [(1, .ref (.ptr 0 0)), (2, int 0)], h := [.var s.cells], m := [] })

theorem fees_loop {s : Sys} (hs : s.ok) (i : Nat) (hi : i ≤ s.fees.length) :
    CW Tryz.prog Γ0 [] false (.loop (sub Tryz.f44 0)) { t := mkT 37 0 [(1, .ref (.ptr 0 0)), (2, int 0), (3, int i)], h := [.var s.cells], m := [] } (feesFin s ((s.fees.drop i).any wrongG)).1 (feesFin s ((s.fees.drop i).any wrongG)).2 := by
  refine CW.loop (ι := { n : Nat // n ≤ s.fees.length }) (fun i => { t := mkT 37 0 [(1, .ref (.ptr 0 0)), (2, int 0), (3, int i.1)], h := [.var s.cells], m := [] }) (fun i => feesFin s ((s.fees.drop i.1).any wrongG)) (fun i => s.fees.length - i.1) ?_ ⟨i, hi⟩
  rintro ⟨i, hi⟩
  by_cases hlt : i < s.fees.length
  · have ha : s.fees[i]? = some s.fees[i] := List.getElem?_eq_getElem hlt
    generalize s.fees[i] = c at ha
    have hr : RowAt (i : Int) (s.fees.map FeeT.row) c.row 2 := rowAt ha rfl
    cases hp : wrongG c
    · refine .inl ⟨⟨i + 1, hlt⟩, by simp only; omega, by simp [drop_at ha, hp], ?_⟩
      have := CW.sym (P := Tryz.prog) (Γ := Γ0) (h0 := []) (rd := false) (c := sub Tryz.f44 0) (s := { t := mkT 37 0 [(1, .ref (.ptr 0 0)), (2, int 0), (3, int i)], h := [.var s.cells], m := [] }) (e := .normal)
        (s' := { t := mkT 37 0 [(1, .ref (.ptr 0 0)), (2, int 0), (3, int (IntKind.i64.wrap ((i : Int) + 1)))], h := [.var s.cells], m := [] }) pok
        (φ := [decide ((i : Int) < ((s.fees.map FeeT.row).length : Int)) = true, RowAt i (s.fees.map FeeT.row) c.row 2, (!decide (c.credits < 0)) = true → RowAt i (s.fees.map FeeT.row) c.row 2, wrongG c = false])
        [1, 2, 3] [.b true, .row c.row, .row c.row, .b false] (by kernel_rfl) ⟨lt_len _ hlt, hr, fun _ => hr, hp, trivial⟩
      rw [wrap_succ hlt hs.lf] at this
      exact this
    · refine .inr ⟨by simp [drop_at ha, hp, feesFin], ?_⟩
      simp only [drop_at ha, List.any_cons, hp, Bool.true_or]
      exact CW.sym pok (φ := [decide ((i : Int) < ((s.fees.map FeeT.row).length : Int)) = true, RowAt i (s.fees.map FeeT.row) c.row 2, (!decide (c.credits < 0)) = true → RowAt i (s.fees.map FeeT.row) c.row 2, wrongG c = true])
        [2] [.b true, .row c.row, .row c.row, .b true] (by kernel_rfl) ⟨lt_len _ hlt, hr, fun _ => hr, hp, trivial⟩
  · have : i = s.fees.length := by omega
    subst this
    refine .inr ⟨by simp [feesFin], ?_⟩
    simp only [List.drop_length, List.any_nil]
    exact CW.sym pok (φ := [decide ((s.fees.length : Int) < ((s.fees.map FeeT.row).length : Int)) = false]) [1, 2] [.b false] (by kernel_rfl) ⟨ge_len _ s.fees, trivial⟩

def badT (s : Sys) : Bool := s.fees.any wrongG || (!!s.classes.any wrongV || !!s.honours.any wrongV)
def errT (s : Sys) : Int := if badT s then 1 else 0

theorem tCheck_ev {s : Sys} (hs : s.ok) (h : List Blk) : Ev Tryz.prog Γ0 44 [.agg s.cells] h (int (errT s)) h := by
  have hloop := fees_loop hs 0 (Nat.zero_le _)
  rw [List.drop_zero] at hloop
  have h1 := valid_ev hs.c hs.lc [.var s.cells]
  have h2 := valid_ev hs.h hs.lh [.var s.cells]
  cases hb : s.fees.any wrongG
  · rw [hb] at hloop
    cases hb2 : (!!s.classes.any wrongV || !!s.honours.any wrongV)
    · simp only [errT, badT, hb, hb2]
      exact Ev.sym0 pok (φ := [CW Tryz.prog Γ0 [] false (.loop (sub Tryz.f44 0)) { t := mkT 37 0 [(1, .ref (.ptr 0 0)), (2, int 0), (3, int 0)], h := [.var s.cells], m := [] } (.exit 0) { t := mkT 37 0 [(1, .ref (.ptr 0 0)), (2, int 0)], h := [.var s.cells], m := [] },
        Ev Tryz.prog Γ0 97 [rowsD' (s.classes.map Cls.row)] [.var s.cells] (bool (!s.classes.any wrongV)) [.var s.cells],
        (!!!s.classes.any wrongV) = true → Ev Tryz.prog Γ0 97 [rowsD' (s.honours.map Cls.row)] [.var s.cells] (bool (!s.honours.any wrongV)) [.var s.cells], (!!s.classes.any wrongV || !!s.honours.any wrongV) = false])
        [.sum [1, 2, 3] (.exit 0) { t := mkT 37 0 [(1, .ref (.ptr 0 0)), (2, int 0)], h := [.var s.cells], m := [] }, .val (bool (!s.classes.any wrongV)), .val (bool (!s.honours.any wrongV)), .b false] (by kernel_rfl) ⟨hloop, h1, fun _ => h2, hb2, trivial⟩ rfl rfl h
    · simp only [errT, badT, hb, hb2]
      exact Ev.sym0 pok (φ := [CW Tryz.prog Γ0 [] false (.loop (sub Tryz.f44 0)) { t := mkT 37 0 [(1, .ref (.ptr 0 0)), (2, int 0), (3, int 0)], h := [.var s.cells], m := [] } (.exit 0) { t := mkT 37 0 [(1, .ref (.ptr 0 0)), (2, int 0)], h := [.var s.cells], m := [] },
        Ev Tryz.prog Γ0 97 [rowsD' (s.classes.map Cls.row)] [.var s.cells] (bool (!s.classes.any wrongV)) [.var s.cells],
        (!!!s.classes.any wrongV) = true → Ev Tryz.prog Γ0 97 [rowsD' (s.honours.map Cls.row)] [.var s.cells] (bool (!s.honours.any wrongV)) [.var s.cells], (!!s.classes.any wrongV || !!s.honours.any wrongV) = true])
        [.sum [1, 2, 3] (.exit 0) { t := mkT 37 0 [(1, .ref (.ptr 0 0)), (2, int 0)], h := [.var s.cells], m := [] }, .val (bool (!s.classes.any wrongV)), .val (bool (!s.honours.any wrongV)), .b true] (by kernel_rfl) ⟨hloop, h1, fun _ => h2, hb2, trivial⟩ rfl rfl h
  · rw [hb] at hloop
    simp only [errT, badT, hb, Bool.true_or]
    exact Ev.sym0 pok (φ := [CW Tryz.prog Γ0 [] false (.loop (sub Tryz.f44 0)) { t := mkT 37 0 [(1, .ref (.ptr 0 0)), (2, int 0), (3, int 0)], h := [.var s.cells], m := [] } .ret { t := mkT 37 0 [(2, int 1)], h := [.var s.cells], m := [] }])
        [.sum [1, 2, 3] .ret { t := mkT 37 0 [(2, int 1)], h := [.var s.cells], m := [] }] (by kernel_rfl) ⟨hloop, trivial⟩ rfl rfl h
end Go.Vi
open Go Go.Proofs
namespace Go.Vi
set_option maxRecDepth 100000
set_option maxHeartbeats 40000

def errP (a b c d : Int) : Int := if errR a b != 0 then errR a b else errR c d

theorem rcheck_ev {a b c d : Int} (ha : I64 a) (hb : I64 b) (hc : I64 c) (hd : I64 d) (h : List Blk) : Ev Tryz.prog Γ0 221 [.agg [int a, int b], .agg [int c, int d]] h (int (errP a b c d)) h := by
  have h1 := refCheck_ev ha hb (hAB a b c d)
  have h2 := refCheck_ev hc hd (hAB a b c d)
  cases h0 : errR a b != 0
  · simp only [errP, h0]
    exact Ev.sym0 pok (φ := [Ev Tryz.prog Γ0 142 [.agg [int a, int b]] (hAB a b c d) (int (errR a b)) (hAB a b c d), (errR a b != 0) = false, Ev Tryz.prog Γ0 142 [.agg [int c, int d]] (hAB a b c d) (int (errR c d)) (hAB a b c d)])
      [.val (int (errR a b)), .b false, .val (int (errR c d))] (by kernel_rfl) ⟨h1, h0, h2, trivial⟩ rfl rfl h
  · simp only [errP, h0]
    exact Ev.sym0 pok (φ := [Ev Tryz.prog Γ0 142 [.agg [int a, int b]] (hAB a b c d) (int (errR a b)) (hAB a b c d), (errR a b != 0) = true])
      [.val (int (errR a b)), .b true] (by kernel_rfl) ⟨h1, h0, trivial⟩ rfl rfl h

theorem cmpR_err {a b c d : Int} (h : (errP a b c d != 0) = true) : cmpR a b c d = (0, errP a b c d) := by
  unfold cmpR errP at *
  split <;> simp_all
theorem cmpR_ok {a b c d : Int} (h : (errP a b c d != 0) = false) : cmpR a b c d = (crossI a b c d, 0) := by
  unfold cmpR errP at *
  split <;> simp_all

theorem rcompare_ev {a b c d : Int} (ha : I64 a) (hb : I64 b) (hc : I64 c) (hd : I64 d) (h : List Blk) : Ev Tryz.prog Γ0 188 [.agg [int a, int b], .agg [int c, int d]] h (tupR (cmpR a b c d)) h := by
  have h1 := rcheck_ev ha hb hc hd (hAB a b c d)
  cases h0 : errP a b c d != 0
  · rw [cmpR_ok h0]
    by_cases hlt : IntKind.i64.wrap (a * d) < IntKind.i64.wrap (c * b)
    · simp only [crossI, cmpI, hlt, if_true]
      exact Ev.sym0 pok (φ := [Ev Tryz.prog Γ0 221 [.agg [int a, int b], .agg [int c, int d]] (hAB a b c d) (int (errP a b c d)) (hAB a b c d), (errP a b c d != 0) = false, decide (IntKind.i64.wrap (a * d) < IntKind.i64.wrap (c * b)) = true])
        [.val (int (errP a b c d)), .b false, .b true] (by kernel_rfl) ⟨h1, h0, decide_eq_true hlt, trivial⟩ rfl rfl h
    · by_cases hgt : IntKind.i64.wrap (a * d) > IntKind.i64.wrap (c * b)
      · simp only [crossI, cmpI, hlt, hgt, if_true, if_false]
        exact Ev.sym0 pok (φ := [Ev Tryz.prog Γ0 221 [.agg [int a, int b], .agg [int c, int d]] (hAB a b c d) (int (errP a b c d)) (hAB a b c d), (errP a b c d != 0) = false, decide (IntKind.i64.wrap (a * d) < IntKind.i64.wrap (c * b)) = false, decide (IntKind.i64.wrap (a * d) > IntKind.i64.wrap (c * b)) = true])
          [.val (int (errP a b c d)), .b false, .b false, .b true] (by kernel_rfl) ⟨h1, h0, decide_eq_false hlt, decide_eq_true hgt, trivial⟩ rfl rfl h
      · simp only [crossI, cmpI, hlt, hgt, if_false]
        exact Ev.sym0 pok (φ := [Ev Tryz.prog Γ0 221 [.agg [int a, int b], .agg [int c, int d]] (hAB a b c d) (int (errP a b c d)) (hAB a b c d), (errP a b c d != 0) = false, decide (IntKind.i64.wrap (a * d) < IntKind.i64.wrap (c * b)) = false, decide (IntKind.i64.wrap (a * d) > IntKind.i64.wrap (c * b)) = false])
          [.val (int (errP a b c d)), .b false, .b false, .b false] (by kernel_rfl) ⟨h1, h0, decide_eq_false hlt, decide_eq_false hgt, trivial⟩ rfl rfl h
  · rw [cmpR_err h0]
    exact Ev.sym0 pok (φ := [Ev Tryz.prog Γ0 221 [.agg [int a, int b], .agg [int c, int d]] (hAB a b c d) (int (errP a b c d)) (hAB a b c d), (errP a b c d != 0) = true])
      [.val (int (errP a b c d)), .b true] (by kernel_rfl) ⟨h1, h0, trivial⟩ rfl rfl h

def atLeastB (a b c d : Int) : Bool := (cmpR a b c d).2 == 0 && decide ((cmpR a b c d).1 ≥ 0)
theorem atLeast_ev {a b c d : Int} (ha : I64 a) (hb : I64 b) (hc : I64 c) (hd : I64 d) (h : List Blk) : Ev Tryz.prog Γ0 143 [.agg [int a, int b], .agg [int c, int d]] h (bool (atLeastB a b c d)) h :=
  Ev.sym0 pok (φ := [Ev Tryz.prog Γ0 188 [.agg [int a, int b], .agg [int c, int d]] (hAB a b c d) (tupR (cmpR a b c d)) (hAB a b c d)])
    [.val (tupR (cmpR a b c d))] (by kernel_rfl) ⟨rcompare_ev ha hb hc hd _, trivial⟩ rfl rfl h

def meetsB (earned n d : Int) (c : Cls) : Bool := decide (earned ≥ c.earn) && atLeastB n d c.num c.den

abbrev hLast (s : Vi.Sys) (n d : Int) : List Blk := [.var s.cells, .var [int n, int d]]
def lastS (s : Vi.Sys) (l : List Cls) (earned n d : Int) (i : Nat) : AS := { t := mkT 54 0 [(1, rowsD' (l.map Cls.row)), (2, int earned), (7, .ref (.ptr 1 0)), (8, int 0), (9, int 0), (11, int (lastN (meetsB earned n d) l i)), (12, int i)], h := hLast s n d, m := [] }

theorem lastN_le {α : Type} (p : α → Bool) (l : List α) : ∀ n, lastN p l n ≤ n
  | 0 => Nat.le_refl _
  | n + 1 => by
    unfold lastN
    split
    · split
      · exact Nat.le_refl _
      · exact Nat.le_succ_of_le (lastN_le p l n)
    · exact Nat.le_succ_of_le (lastN_le p l n)

theorem rlast_loop (s : Vi.Sys) {l : List Cls} (hl : ∀ c ∈ l, c.ok) (hsl : Short l) {earned n d : Int} (hn : I64 n) (hd : I64 d) :
    CW Tryz.prog Γ0 [] false (.loop (sub Tryz.f90 0)) (lastS s l earned n d 0) (.exit 0) { t := mkT 54 0 [(11, int (lastIx (meetsB earned n d) l))], h := hLast s n d, m := [] } := by
  refine CW.loopN l.length (lastS s l earned n d) (by simp) (fun i hlt => ?_) ?_
  · have ha : l[i]? = some l[i] := List.getElem?_eq_getElem hlt
    generalize l[i] = c at ha
    have hc := hl c (List.mem_of_getElem? ha)
    have hr : RowAt (i : Int) (l.map Cls.row) c.row 4 := rowAt ha rfl
    have hk := atLeast_ev hn hd hc.2.1 hc.2.2 (hLast s n d)
    have hw := wrap_succ hlt hsl
    generalize hkk : lastN (meetsB earned n d) l i = k
    cases hp : meetsB earned n d c
    · have e1 : lastN (meetsB earned n d) l (i + 1) = k := by simp [lastN, ha, hp, hkk]
      have := CW.sym (P := Tryz.prog) (Γ := Γ0) (h0 := []) (rd := false) (c := sub Tryz.f90 0) (s := { t := mkT 54 0 [(1, rowsD' (l.map Cls.row)), (2, int earned), (7, .ref (.ptr 1 0)), (8, int 0), (9, int 0), (11, int k), (12, int i)], h := hLast s n d, m := [] }) (e := .normal)
        (s' := { t := mkT 54 0 [(1, rowsD' (l.map Cls.row)), (2, int earned), (7, .ref (.ptr 1 0)), (8, int 0), (9, int 0), (11, int k), (12, int (IntKind.i64.wrap ((i : Int) + 1)))], h := hLast s n d, m := [] }) pok
        (φ := [decide ((i : Int) < ((l.map Cls.row).length : Int)) = true, RowAt i (l.map Cls.row) c.row 4, decide (earned ≥ c.earn) = true → RowAt i (l.map Cls.row) c.row 4,
          decide (earned ≥ c.earn) = true → Ev Tryz.prog Γ0 143 [.agg [int n, int d], .agg [int c.num, int c.den]] (hLast s n d) (bool (atLeastB n d c.num c.den)) (hLast s n d), meetsB earned n d c = false])
        [1, 2, 7, 8, 9, 11, 12] [.b true, .row c.row, .row c.row, .val (bool (atLeastB n d c.num c.den)), .b false] (by kernel_rfl) ⟨lt_len _ hlt, hr, fun _ => hr, fun _ => hk, hp, trivial⟩
      rw [hw] at this
      simp only [lastS, e1, hkk]
      exact this
    · have e1 : lastN (meetsB earned n d) l (i + 1) = i + 1 := by simp [lastN, ha, hp]
      have := CW.sym (P := Tryz.prog) (Γ := Γ0) (h0 := []) (rd := false) (c := sub Tryz.f90 0) (s := { t := mkT 54 0 [(1, rowsD' (l.map Cls.row)), (2, int earned), (7, .ref (.ptr 1 0)), (8, int 0), (9, int 0), (11, int k), (12, int i)], h := hLast s n d, m := [] }) (e := .normal)
        (s' := { t := mkT 54 0 [(1, rowsD' (l.map Cls.row)), (2, int earned), (7, .ref (.ptr 1 0)), (8, int 0), (9, int 0), (11, int (IntKind.i64.wrap ((i : Int) + 1))), (12, int (IntKind.i64.wrap ((i : Int) + 1)))], h := hLast s n d, m := [] }) pok
        (φ := [decide ((i : Int) < ((l.map Cls.row).length : Int)) = true, RowAt i (l.map Cls.row) c.row 4, decide (earned ≥ c.earn) = true → RowAt i (l.map Cls.row) c.row 4,
          decide (earned ≥ c.earn) = true → Ev Tryz.prog Γ0 143 [.agg [int n, int d], .agg [int c.num, int c.den]] (hLast s n d) (bool (atLeastB n d c.num c.den)) (hLast s n d), meetsB earned n d c = true])
        [1, 2, 7, 8, 9, 11, 12] [.b true, .row c.row, .row c.row, .val (bool (atLeastB n d c.num c.den)), .b true] (by kernel_rfl) ⟨lt_len _ hlt, hr, fun _ => hr, fun _ => hk, hp, trivial⟩
      rw [hw] at this
      simp only [lastS, e1, hkk]
      exact this
  · exact CW.sym pok (φ := [decide ((l.length : Int) < ((l.map Cls.row).length : Int)) = false]) [11] [.b false] (by kernel_rfl) ⟨ge_len _ l, trivial⟩

def lastR (s : Vi.Sys) (l : List Cls) (earned n d : Int) : Int × Int :=
  if errT s != 0 || decide (earned < 0) || decide (earned > 10000) then (0, 1) else if errR n d != 0 then (0, errR n d) else (lastIx (meetsB earned n d) l, 0)

theorem rlast_ev {s : Vi.Sys} (hs : s.ok) {l : List Cls} (hl : ∀ c ∈ l, c.ok) (hsl : Short l) {earned n d : Int} (hn : I64 n) (hd : I64 d) (h : List Blk) :
    Ev Tryz.prog Γ0 90 [.agg s.cells, rowsD' (l.map Cls.row), int earned, .agg [int n, int d]] h (tupR (lastR s l earned n d)) h := by
  have h1 := tCheck_ev hs (hLast s n d)
  have h4 := refCheck_ev hn hd (hLast s n d)
  cases h0 : errT s != 0 || decide (earned < 0) || decide (earned > 10000)
  · cases h3 : errR n d != 0
    · have hloop := rlast_loop s hl hsl (earned := earned) hn hd
      simp only [lastR, h0, h3]
      exact Ev.sym0 pok (φ := [Ev Tryz.prog Γ0 44 [.agg s.cells] (hLast s n d) (int (errT s)) (hLast s n d), (errT s != 0 || decide (earned < 0) || decide (earned > 10000)) = false,
        Ev Tryz.prog Γ0 142 [.agg [int n, int d]] (hLast s n d) (int (errR n d)) (hLast s n d), (errR n d != 0) = false,
        CW Tryz.prog Γ0 [] false (.loop (sub Tryz.f90 0)) (lastS s l earned n d 0) (.exit 0) { t := mkT 54 0 [(11, int (lastIx (meetsB earned n d) l))], h := hLast s n d, m := [] }])
        [.val (int (errT s)), .b false, .val (int (errR n d)), .b false, .sum [1, 2, 7, 8, 9, 11, 12] (.exit 0) { t := mkT 54 0 [(11, int (lastIx (meetsB earned n d) l))], h := hLast s n d, m := [] }] (by kernel_rfl) ⟨h1, h0, h4, h3, hloop, trivial⟩ rfl rfl h
    · simp only [lastR, h0, h3]
      exact Ev.sym0 pok (φ := [Ev Tryz.prog Γ0 44 [.agg s.cells] (hLast s n d) (int (errT s)) (hLast s n d), (errT s != 0 || decide (earned < 0) || decide (earned > 10000)) = false,
        Ev Tryz.prog Γ0 142 [.agg [int n, int d]] (hLast s n d) (int (errR n d)) (hLast s n d), (errR n d != 0) = true])
        [.val (int (errT s)), .b false, .val (int (errR n d)), .b true] (by kernel_rfl) ⟨h1, h0, h4, h3, trivial⟩ rfl rfl h
  · simp only [lastR, h0]
    exact Ev.sym0 pok (φ := [Ev Tryz.prog Γ0 44 [.agg s.cells] (hLast s n d) (int (errT s)) (hLast s n d), (errT s != 0 || decide (earned < 0) || decide (earned > 10000)) = true])
        [.val (int (errT s)), .b true] (by kernel_rfl) ⟨h1, h0, trivial⟩ rfl rfl h

theorem rclass_ev {s : Vi.Sys} (hs : s.ok) {earned n d : Int} (hn : I64 n) (hd : I64 d) (h : List Blk) : Ev Tryz.prog Γ0 38 [.agg s.cells, int earned, .agg [int n, int d]] h (tupR (lastR s s.classes earned n d)) h :=
  Ev.sym0 pok (φ := [Ev Tryz.prog Γ0 90 [.agg s.cells, rowsD' (s.classes.map Cls.row), int earned, .agg [int n, int d]] (hLast s n d) (tupR (lastR s s.classes earned n d)) (hLast s n d)])
    [.val (tupR (lastR s s.classes earned n d))] (by kernel_rfl) ⟨rlast_ev hs hs.c hs.lc hn hd _, trivial⟩ rfl rfl h
theorem rhonour_ev {s : Vi.Sys} (hs : s.ok) {earned n d : Int} (hn : I64 n) (hd : I64 d) (h : List Blk) : Ev Tryz.prog Γ0 40 [.agg s.cells, int earned, .agg [int n, int d]] h (tupR (lastR s s.honours earned n d)) h :=
  Ev.sym0 pok (φ := [Ev Tryz.prog Γ0 90 [.agg s.cells, rowsD' (s.honours.map Cls.row), int earned, .agg [int n, int d]] (hLast s n d) (tupR (lastR s s.honours earned n d)) (hLast s n d)])
    [.val (tupR (lastR s s.honours earned n d))] (by kernel_rfl) ⟨rlast_ev hs hs.h hs.lh hn hd _, trivial⟩ rfl rfl h

/- Fee. -/
def feeP (x : Int) (f : FeeT) : Bool := decide (x ≥ f.credits)
def rfeeS (s : Vi.Sys) (x : Int) (i : Nat) : AS := { t := mkT 37 0 [(1, int x), (2, .ref (.ptr 0 0)), (6, int (lastN (feeP x) s.fees i)), (7, int i)], h := [.var s.cells], m := [] }

theorem rfee_loop {s : Vi.Sys} (hs : s.ok) (x : Int) :
    CW Tryz.prog Γ0 [] false (.loop (sub Tryz.f42 0)) (rfeeS s x 0) (.exit 0) { t := mkT 37 0 [(6, int (lastIx (feeP x) s.fees))], h := [.var s.cells], m := [] } := by
  refine CW.loopN s.fees.length (rfeeS s x) (by simp) (fun i hlt => ?_) ?_
  · have ha : s.fees[i]? = some s.fees[i] := List.getElem?_eq_getElem hlt
    generalize s.fees[i] = c at ha
    have hr : RowAt (i : Int) (s.fees.map FeeT.row) c.row 2 := rowAt ha rfl
    have hw := wrap_succ hlt hs.lf
    generalize hkk : lastN (feeP x) s.fees i = k
    cases hp : feeP x c
    · have e1 : lastN (feeP x) s.fees (i + 1) = k := by simp [lastN, ha, hp, hkk]
      have := CW.sym (P := Tryz.prog) (Γ := Γ0) (h0 := []) (rd := false) (c := sub Tryz.f42 0) (s := { t := mkT 37 0 [(1, int x), (2, .ref (.ptr 0 0)), (6, int k), (7, int i)], h := [.var s.cells], m := [] }) (e := .normal)
        (s' := { t := mkT 37 0 [(1, int x), (2, .ref (.ptr 0 0)), (6, int k), (7, int (IntKind.i64.wrap ((i : Int) + 1)))], h := [.var s.cells], m := [] }) pok
        (φ := [decide ((i : Int) < ((s.fees.map FeeT.row).length : Int)) = true, RowAt i (s.fees.map FeeT.row) c.row 2, feeP x c = false])
        [1, 2, 6, 7] [.b true, .row c.row, .b false] (by kernel_rfl) ⟨lt_len _ hlt, hr, hp, trivial⟩
      rw [hw] at this
      simp only [rfeeS, e1, hkk]
      exact this
    · have e1 : lastN (feeP x) s.fees (i + 1) = i + 1 := by simp [lastN, ha, hp]
      have := CW.sym (P := Tryz.prog) (Γ := Γ0) (h0 := []) (rd := false) (c := sub Tryz.f42 0) (s := { t := mkT 37 0 [(1, int x), (2, .ref (.ptr 0 0)), (6, int k), (7, int i)], h := [.var s.cells], m := [] }) (e := .normal)
        (s' := { t := mkT 37 0 [(1, int x), (2, .ref (.ptr 0 0)), (6, int (IntKind.i64.wrap ((i : Int) + 1))), (7, int (IntKind.i64.wrap ((i : Int) + 1)))], h := [.var s.cells], m := [] }) pok
        (φ := [decide ((i : Int) < ((s.fees.map FeeT.row).length : Int)) = true, RowAt i (s.fees.map FeeT.row) c.row 2, feeP x c = true])
        [1, 2, 6, 7] [.b true, .row c.row, .b true] (by kernel_rfl) ⟨lt_len _ hlt, hr, hp, trivial⟩
      rw [hw] at this
      simp only [rfeeS, e1, hkk]
      exact this
  · exact CW.sym pok (φ := [decide ((s.fees.length : Int) < ((s.fees.map FeeT.row).length : Int)) = false]) [6] [.b false] (by kernel_rfl) ⟨ge_len _ s.fees, trivial⟩

def rfeeR (s : Vi.Sys) (x : Int) : Int × Int := if errT s != 0 || decide (x < 0) || decide (x > 10000) then (0, 1) else (lastIx (feeP x) s.fees, 0)
theorem rfee_ev {s : Vi.Sys} (hs : s.ok) (x : Int) (h : List Blk) : Ev Tryz.prog Γ0 42 [.agg s.cells, int x] h (tupR (rfeeR s x)) h := by
  have h1 := tCheck_ev hs [.var s.cells]
  cases h0 : errT s != 0 || decide (x < 0) || decide (x > 10000)
  · have hloop := rfee_loop hs x
    simp only [rfeeR, h0]
    exact Ev.sym0 pok (φ := [Ev Tryz.prog Γ0 44 [.agg s.cells] [.var s.cells] (int (errT s)) [.var s.cells], (errT s != 0 || decide (x < 0) || decide (x > 10000)) = false,
      CW Tryz.prog Γ0 [] false (.loop (sub Tryz.f42 0)) (rfeeS s x 0) (.exit 0) { t := mkT 37 0 [(6, int (lastIx (feeP x) s.fees))], h := [.var s.cells], m := [] }])
      [.val (int (errT s)), .b false, .sum [1, 2, 6, 7] (.exit 0) { t := mkT 37 0 [(6, int (lastIx (feeP x) s.fees))], h := [.var s.cells], m := [] }] (by kernel_rfl) ⟨h1, h0, hloop, trivial⟩ rfl rfl h
  · simp only [rfeeR, h0]
    exact Ev.sym0 pok (φ := [Ev Tryz.prog Γ0 44 [.agg s.cells] [.var s.cells] (int (errT s)) [.var s.cells], (errT s != 0 || decide (x < 0) || decide (x > 10000)) = true])
      [.val (int (errT s)), .b true] (by kernel_rfl) ⟨h1, h0, trivial⟩ rfl rfl h

def few (s : Vi.Sys) : Bool := decide (IntKind.i64.wrap (IntKind.i64.wrap (IntKind.i64.wrap (((s.classes.map Cls.row).length : Int) + ((s.fees.map FeeT.row).length : Int)) + ((s.honours.map Cls.row).length : Int)) + (s.clauses.length : Int)) ≤ 40)
theorem few_ev (s : Vi.Sys) (h : List Blk) : Ev Tryz.prog Γ0 36 [.agg s.cells] h (bool (few s)) h :=
  Ev.sym0 pok (φ := []) [] (by kernel_rfl) trivial rfl rfl h
end Go.Vi
open Go Go.Proofs
namespace Go.Vi
set_option maxRecDepth 100000

theorem lastN_pos {α : Type} (p : α → Bool) (l : List α) : ∀ n, n ≤ l.length → (0 < lastN p l n ↔ (l.take n).any p = true)
  | 0, _ => by simp [lastN]
  | n + 1, h => by
    have ih := lastN_pos p l n (by omega)
    have ha : l[n]? = some l[n] := List.getElem?_eq_getElem (by omega)
    rw [List.take_add_one, ha]
    unfold lastN
    rw [ha]
    simp only [List.any_append, Option.toList_some, List.any_cons, List.any_nil, Bool.or_false, Bool.or_eq_true]
    cases hp : p l[n]
    · simp [ih]
    · simp
theorem lastIx_pos {α : Type} (p : α → Bool) (l : List α) : 0 < lastIx p l ↔ l.any p = true := by
  have := lastN_pos p l l.length (Nat.le_refl _)
  rwa [List.take_length] at this
theorem lastIx_le {α : Type} (p : α → Bool) (l : List α) : lastIx p l ≤ l.length := lastN_le p l _

theorem lastN_congr {α : Type} {p q : α → Bool} {l : List α} (h : ∀ a ∈ l, p a = q a) : ∀ n, lastN p l n = lastN q l n
  | 0 => rfl
  | n + 1 => by
    unfold lastN
    split
    · rename_i a ha
      rw [h a (List.mem_of_getElem? ha), lastN_congr h n]
    · exact lastN_congr h n

theorem wrongB_eq (c : Cls) : wrongB c = wrongV c := by
  unfold wrongB wrongV amt
  congr 3
  by_cases h1 : c.earn < 0 <;> by_cases h2 : c.earn > 10000 <;> simp_all <;> omega
theorem wrongF_eq (f : FeeT) : wrongF f = wrongG f := by
  unfold wrongF wrongG amt
  by_cases h1 : f.credits < 0 <;> by_cases h2 : f.credits > 10000 <;> simp_all <;> omega

theorem bad_eq {s : Vi.Sys} (hs : s.ok) : badS s = badT s := by
  have e1 : wrongB = wrongV := funext wrongB_eq
  have e2 : wrongF = wrongG := funext wrongF_eq
  unfold badS badT
  rw [e1, e2]
  have b1 := lastIx_le wrongV s.classes
  have b2 := lastIx_le wrongV s.honours
  have l1 := hs.lc
  have l2 := hs.lh
  unfold Short at l1 l2
  rw [wrap_i64 (by omega) (by omega)]
  have p1 := lastIx_pos wrongV s.classes
  have p2 := lastIx_pos wrongV s.honours
  have p3 := lastIx_pos wrongG s.fees
  generalize s.classes.any wrongV = a1 at *
  generalize s.honours.any wrongV = a2 at *
  generalize s.fees.any wrongG = a3 at *
  generalize lastIx wrongV s.classes = k1 at *
  generalize lastIx wrongV s.honours = k2 at *
  generalize lastIx wrongG s.fees = k3 at *
  cases a1 <;> cases a2 <;> cases a3 <;> simp at p1 p2 p3 ⊢ <;> omega

theorem err_eq {s : Vi.Sys} (hs : s.ok) : errS s = errT s := by unfold errS errT; rw [bad_eq hs]

theorem cmpI_flip (x y : Int) : decide (cmpI x y ≤ 0) = decide (cmpI y x ≥ 0) := by
  unfold cmpI
  by_cases h1 : x < y <;> by_cases h2 : y < x <;> simp_all <;> omega

theorem errR_cases (n d : Int) : errR n d = 0 ∨ errR n d = 50 := by unfold errR; cases badR n d <;> simp

theorem cmpR_good {a b c d : Int} (h1 : errR a b = 0) (h2 : errR c d = 0) : cmpR a b c d = (crossI a b c d, 0) := by
  unfold cmpR; simp [h1, h2]

theorem holds_eq {earned n d : Int} {c : Cls} (h1 : errR n d = 0) (h2 : errR c.num c.den = 0) : holdsB earned n d c = meetsB earned n d c := by
  unfold holdsB meetsB atLeastB
  rw [cmpR_good h2 h1, cmpR_good h1 h2]
  show (decide (crossI c.num c.den n d ≤ 0) && decide (c.earn ≤ earned)) = (decide (earned ≥ c.earn) && decide (crossI n d c.num c.den ≥ 0))
  have : decide (crossI c.num c.den n d ≤ 0) = decide (crossI n d c.num c.den ≥ 0) := cmpI_flip _ _
  rw [this, Bool.and_comm]

theorem amt_eq (x : Int) (b : Bool) : (b || !amt x) = (b || decide (x < 0) || decide (x > 10000)) := by
  unfold amt
  by_cases h1 : x < 0 <;> by_cases h2 : x > 10000 <;> cases b <;> simp_all <;> omega

theorem errT_zero {s : Vi.Sys} (h : errT s = 0) : badT s = false := by
  unfold errT at h
  cases hb : badT s
  · rfl
  · simp [hb] at h

theorem notWrong {l : List Cls} (h : l.any wrongV = false) : ∀ c ∈ l, errR c.num c.den = 0 := by
  intro c hc
  have := List.any_eq_false.1 h c hc
  unfold wrongV at this
  simp only [Bool.or_eq_true, not_or, bne_iff_ne, ne_eq, Decidable.not_not] at this
  exact this.1.1.2

theorem of_eq {s : Vi.Sys} (hs : s.ok) {l : List Cls} (hl : badT s = false → l.any wrongV = false) (earned n d : Int) : ofR s l earned n d = lastR s l earned n d := by
  unfold ofR lastR
  rw [err_eq hs, amt_eq]
  split
  · rfl
  · rename_i h0
    split
    · rfl
    · rename_i h1
      simp only [Bool.or_eq_true, not_or, bne_iff_ne, ne_eq, Decidable.not_not] at h0 h1
      have hb := hl (errT_zero h0.1.1)
      unfold lastIx
      rw [lastN_congr (fun c hc => holds_eq h1 (notWrong hb c hc))]

theorem class_eq {s : Vi.Sys} (hs : s.ok) (earned n d : Int) : ofR s s.classes earned n d = lastR s s.classes earned n d :=
  of_eq hs (fun h => by simp only [badT, Bool.or_eq_false_iff, Bool.not_not] at h; exact h.2.1) earned n d
theorem honour_eq {s : Vi.Sys} (hs : s.ok) (earned n d : Int) : ofR s s.honours earned n d = lastR s s.honours earned n d :=
  of_eq hs (fun h => by simp only [badT, Bool.or_eq_false_iff, Bool.not_not] at h; exact h.2.2) earned n d
theorem fee_eq {s : Vi.Sys} (hs : s.ok) (x : Int) : feeR s x = rfeeR s x := by
  unfold feeR rfeeR
  rw [err_eq hs, amt_eq]
  rfl
end Go.Vi
open Go Go.Proofs
namespace Go.Vi
set_option maxRecDepth 100000
set_option maxHeartbeats 0
def okTrue (r : Option (D × List Blk)) : Bool := match r with
  | some (.p (.v (.bool true)), []) => true
  | _ => false
theorem sane21_run : okTrue (runF Tryz.prog Γ0 100000 35 [] []) = true := by kernel_rfl
theorem of_okTrue {r : Option (D × List Blk)} (h : okTrue r = true) : r = some (bool true, []) := by
  unfold okTrue at h
  split at h
  · rfl
  · simp at h
theorem sane21_ev (h : List Blk) : Ev Tryz.prog Γ0 35 [] h (bool true) h := Ev.frame0 rfl (VCall.of_run pok (of_okTrue sane21_run)) h
end Go.Vi
open Go Go.Proofs
namespace Go.Vi
set_option maxRecDepth 100000
set_option maxHeartbeats 400000

theorem cmpR_err2 {a b c d : Int} (h : (cmpR a b c d).2 = 0) : errR a b = 0 ∧ errR c d = 0 := by
  unfold cmpR at h
  by_cases h1 : errR a b = 0 <;> by_cases h2 : errR c d = 0 <;> simp_all

/-- The law, by what it computes. -/
def moreP (s : Vi.Sys) (x y n d p q : Int) : Bool :=
  !few s || ((cmpR n d p q).2 != 0 || decide ((cmpR n d p q).1 > 0) || decide (x > y)) ||
    (if ((ofR s s.classes x n d).2 != 0 || (ofR s s.classes y p q).2 != 0) = true then (ofR s s.honours x n d).2 != 0 || (ofR s s.honours y p q).2 != 0
     else (ofR s s.honours x n d).2 == 0 && (ofR s s.honours y p q).2 == 0 && (feeR s x).2 == 0 && (feeR s y).2 == 0 && decide ((ofR s s.classes x n d).1 ≤ (ofR s s.classes y p q).1) &&
       decide ((ofR s s.honours x n d).1 ≤ (ofR s s.honours y p q).1) && decide ((feeR s x).1 ≤ (feeR s y).1))

abbrev more_ev_x0 (s : Sys) (n : Int) (d : Int) (p : Int) (q : Int) : List Blk := [.var [rowsD' (List.map Cls.row s.classes), rowsD' (List.map FeeT.row s.fees), rowsD' (List.map Cls.row s.honours), rowsD' s.clauses], .var [int n, int d], .var [int p, int q]]
abbrev more_ev_x1 (s : Sys) (x : Int) (n : Int) (d : Int) : List D := [D.agg [rowsD' (List.map Cls.row s.classes), rowsD' (List.map FeeT.row s.fees), rowsD' (List.map Cls.row s.honours), rowsD' s.clauses], int x, D.agg [int n, int d]]
abbrev more_ev_x2 (s : Sys) (y : Int) (p : Int) (q : Int) : List D := [D.agg [rowsD' (List.map Cls.row s.classes), rowsD' (List.map FeeT.row s.fees), rowsD' (List.map Cls.row s.honours), rowsD' s.clauses], int y, D.agg [int p, int q]]
abbrev more_ev_x3 (s : Sys) : List D := [D.agg [rowsD' (List.map Cls.row s.classes), rowsD' (List.map FeeT.row s.fees), rowsD' (List.map Cls.row s.honours), rowsD' s.clauses]]
theorem more_ev {s : Vi.Sys} (hs : s.ok) {x y n d p q : Int} (hn : I64 n) (hd : I64 d) (hp : I64 p) (hq : I64 q) (h : List Blk) : (Ev Tryz.prog Γ0 10 [.agg s.cells, int x, int y, .agg [int n, int d], .agg [int p, int q]] h (bool (moreP s x y n d p q)) h) := by
  cases hc0 : !few s
  · cases hc1 : (cmpR n d p q).snd != 0 || decide ((cmpR n d p q).fst > 0) || decide (x > y)
    · cases hc2 : (ofR s s.classes x n d).snd != 0 || (ofR s s.classes y p q).snd != 0
      · exact Ev.cast (Ev.sym0 (P := Tryz.prog) (Γ := Γ0) (f := 10) (args := [D.agg (Sys.cells s), int x, int y, D.agg [int n, int d], D.agg [int p, int q]]) (d := bool ((ofR s s.honours x n d).snd == 0 && (ofR s s.honours y p q).snd == 0 && (feeR s x).snd == 0 && (feeR s y).snd == 0 && decide ((ofR s s.classes x n d).fst ≤ (ofR s s.classes y p q).fst) && decide ((ofR s s.honours x n d).fst ≤ (ofR s s.honours y p q).fst) && decide ((feeR s x).fst ≤ (feeR s y).fst))) pok (φ := [Ev Tryz.prog Γ0 35 [] (more_ev_x0 s n d p q) (bool true) (more_ev_x0 s n d p q), (!true) = false, Ev Tryz.prog Γ0 36 (more_ev_x3 s) (more_ev_x0 s n d p q) (bool (few s)) (more_ev_x0 s n d p q), (!few s) = false, Ev Tryz.prog Γ0 51 [D.agg [int n, int d], D.agg [int p, int q]] (more_ev_x0 s n d p q) (D.tup [int (cmpR n d p q).fst, int (cmpR n d p q).snd]) (more_ev_x0 s n d p q), ((cmpR n d p q).snd != 0 || decide ((cmpR n d p q).fst > 0) || decide (x > y)) = false, Ev Tryz.prog Γ0 37 (more_ev_x1 s x n d) (more_ev_x0 s n d p q) (D.tup [int (ofR s s.classes x n d).fst, int (ofR s s.classes x n d).snd]) (more_ev_x0 s n d p q), Ev Tryz.prog Γ0 37 (more_ev_x2 s y p q) (more_ev_x0 s n d p q) (D.tup [int (ofR s s.classes y p q).fst, int (ofR s s.classes y p q).snd]) (more_ev_x0 s n d p q), Ev Tryz.prog Γ0 39 (more_ev_x1 s x n d) (more_ev_x0 s n d p q) (D.tup [int (ofR s s.honours x n d).fst, int (ofR s s.honours x n d).snd]) (more_ev_x0 s n d p q), Ev Tryz.prog Γ0 39 (more_ev_x2 s y p q) (more_ev_x0 s n d p q) (D.tup [int (ofR s s.honours y p q).fst, int (ofR s s.honours y p q).snd]) (more_ev_x0 s n d p q), Ev Tryz.prog Γ0 41 [D.agg [rowsD' (List.map Cls.row s.classes), rowsD' (List.map FeeT.row s.fees), rowsD' (List.map Cls.row s.honours), rowsD' s.clauses], int x] (more_ev_x0 s n d p q) (D.tup [int (feeR s x).fst, int (feeR s x).snd]) (more_ev_x0 s n d p q), Ev Tryz.prog Γ0 41 [D.agg [rowsD' (List.map Cls.row s.classes), rowsD' (List.map FeeT.row s.fees), rowsD' (List.map Cls.row s.honours), rowsD' s.clauses], int y] (more_ev_x0 s n d p q) (D.tup [int (feeR s y).fst, int (feeR s y).snd]) (more_ev_x0 s n d p q), ((ofR s s.classes x n d).snd != 0 || (ofR s s.classes y p q).snd != 0) = false]) [.val (bool true), .b false, .val (bool (few s)), .b false, .val (D.tup [int (cmpR n d p q).fst, int (cmpR n d p q).snd]), .b false, .val (D.tup [int (ofR s s.classes x n d).fst, int (ofR s s.classes x n d).snd]), .val (D.tup [int (ofR s s.classes y p q).fst, int (ofR s s.classes y p q).snd]), .val (D.tup [int (ofR s s.honours x n d).fst, int (ofR s s.honours x n d).snd]), .val (D.tup [int (ofR s s.honours y p q).fst, int (ofR s s.honours y p q).snd]), .val (D.tup [int (feeR s x).fst, int (feeR s x).snd]), .val (D.tup [int (feeR s y).fst, int (feeR s y).snd]), .b false] (by kernel_rfl) ⟨(@sane21_ev ((more_ev_x0 s n d p q))), rfl, (@few_ev (s) ((more_ev_x0 s n d p q))), hc0, (@compare_ev (n) (d) (p) (q) (hn) (hd) (hp) (hq) ((more_ev_x0 s n d p q))), hc1, (@class_ev (s) (hs) (x) (n) (d) (hn) (hd) ((more_ev_x0 s n d p q))), (@class_ev (s) (hs) (y) (p) (q) (hp) (hq) ((more_ev_x0 s n d p q))), (@honour_ev (s) (hs) (x) (n) (d) (hn) (hd) ((more_ev_x0 s n d p q))), (@honour_ev (s) (hs) (y) (p) (q) (hp) (hq) ((more_ev_x0 s n d p q))), (@fee_ev (s) (hs) (x) ((more_ev_x0 s n d p q))), (@fee_ev (s) (hs) (y) ((more_ev_x0 s n d p q))), hc2, trivial⟩ rfl rfl h) (by simp [moreP, *])
      · exact Ev.cast (Ev.sym0 (P := Tryz.prog) (Γ := Γ0) (f := 10) (args := [D.agg (Sys.cells s), int x, int y, D.agg [int n, int d], D.agg [int p, int q]]) (d := bool ((ofR s s.honours x n d).snd != 0 || (ofR s s.honours y p q).snd != 0)) pok (φ := [Ev Tryz.prog Γ0 35 [] (more_ev_x0 s n d p q) (bool true) (more_ev_x0 s n d p q), (!true) = false, Ev Tryz.prog Γ0 36 (more_ev_x3 s) (more_ev_x0 s n d p q) (bool (few s)) (more_ev_x0 s n d p q), (!few s) = false, Ev Tryz.prog Γ0 51 [D.agg [int n, int d], D.agg [int p, int q]] (more_ev_x0 s n d p q) (D.tup [int (cmpR n d p q).fst, int (cmpR n d p q).snd]) (more_ev_x0 s n d p q), ((cmpR n d p q).snd != 0 || decide ((cmpR n d p q).fst > 0) || decide (x > y)) = false, Ev Tryz.prog Γ0 37 (more_ev_x1 s x n d) (more_ev_x0 s n d p q) (D.tup [int (ofR s s.classes x n d).fst, int (ofR s s.classes x n d).snd]) (more_ev_x0 s n d p q), Ev Tryz.prog Γ0 37 (more_ev_x2 s y p q) (more_ev_x0 s n d p q) (D.tup [int (ofR s s.classes y p q).fst, int (ofR s s.classes y p q).snd]) (more_ev_x0 s n d p q), Ev Tryz.prog Γ0 39 (more_ev_x1 s x n d) (more_ev_x0 s n d p q) (D.tup [int (ofR s s.honours x n d).fst, int (ofR s s.honours x n d).snd]) (more_ev_x0 s n d p q), Ev Tryz.prog Γ0 39 (more_ev_x2 s y p q) (more_ev_x0 s n d p q) (D.tup [int (ofR s s.honours y p q).fst, int (ofR s s.honours y p q).snd]) (more_ev_x0 s n d p q), Ev Tryz.prog Γ0 41 [D.agg [rowsD' (List.map Cls.row s.classes), rowsD' (List.map FeeT.row s.fees), rowsD' (List.map Cls.row s.honours), rowsD' s.clauses], int x] (more_ev_x0 s n d p q) (D.tup [int (feeR s x).fst, int (feeR s x).snd]) (more_ev_x0 s n d p q), Ev Tryz.prog Γ0 41 [D.agg [rowsD' (List.map Cls.row s.classes), rowsD' (List.map FeeT.row s.fees), rowsD' (List.map Cls.row s.honours), rowsD' s.clauses], int y] (more_ev_x0 s n d p q) (D.tup [int (feeR s y).fst, int (feeR s y).snd]) (more_ev_x0 s n d p q), ((ofR s s.classes x n d).snd != 0 || (ofR s s.classes y p q).snd != 0) = true]) [.val (bool true), .b false, .val (bool (few s)), .b false, .val (D.tup [int (cmpR n d p q).fst, int (cmpR n d p q).snd]), .b false, .val (D.tup [int (ofR s s.classes x n d).fst, int (ofR s s.classes x n d).snd]), .val (D.tup [int (ofR s s.classes y p q).fst, int (ofR s s.classes y p q).snd]), .val (D.tup [int (ofR s s.honours x n d).fst, int (ofR s s.honours x n d).snd]), .val (D.tup [int (ofR s s.honours y p q).fst, int (ofR s s.honours y p q).snd]), .val (D.tup [int (feeR s x).fst, int (feeR s x).snd]), .val (D.tup [int (feeR s y).fst, int (feeR s y).snd]), .b true] (by kernel_rfl) ⟨(@sane21_ev ((more_ev_x0 s n d p q))), rfl, (@few_ev (s) ((more_ev_x0 s n d p q))), hc0, (@compare_ev (n) (d) (p) (q) (hn) (hd) (hp) (hq) ((more_ev_x0 s n d p q))), hc1, (@class_ev (s) (hs) (x) (n) (d) (hn) (hd) ((more_ev_x0 s n d p q))), (@class_ev (s) (hs) (y) (p) (q) (hp) (hq) ((more_ev_x0 s n d p q))), (@honour_ev (s) (hs) (x) (n) (d) (hn) (hd) ((more_ev_x0 s n d p q))), (@honour_ev (s) (hs) (y) (p) (q) (hp) (hq) ((more_ev_x0 s n d p q))), (@fee_ev (s) (hs) (x) ((more_ev_x0 s n d p q))), (@fee_ev (s) (hs) (y) ((more_ev_x0 s n d p q))), hc2, trivial⟩ rfl rfl h) (by simp [moreP, *])
    · exact Ev.cast (Ev.sym0 (P := Tryz.prog) (Γ := Γ0) (f := 10) (args := [D.agg (Sys.cells s), int x, int y, D.agg [int n, int d], D.agg [int p, int q]]) (d := bool true) pok (φ := [Ev Tryz.prog Γ0 35 [] (more_ev_x0 s n d p q) (bool true) (more_ev_x0 s n d p q), (!true) = false, Ev Tryz.prog Γ0 36 (more_ev_x3 s) (more_ev_x0 s n d p q) (bool (few s)) (more_ev_x0 s n d p q), (!few s) = false, Ev Tryz.prog Γ0 51 [D.agg [int n, int d], D.agg [int p, int q]] (more_ev_x0 s n d p q) (D.tup [int (cmpR n d p q).fst, int (cmpR n d p q).snd]) (more_ev_x0 s n d p q), ((cmpR n d p q).snd != 0 || decide ((cmpR n d p q).fst > 0) || decide (x > y)) = true]) [.val (bool true), .b false, .val (bool (few s)), .b false, .val (D.tup [int (cmpR n d p q).fst, int (cmpR n d p q).snd]), .b true] (by kernel_rfl) ⟨(@sane21_ev ((more_ev_x0 s n d p q))), rfl, (@few_ev (s) ((more_ev_x0 s n d p q))), hc0, (@compare_ev (n) (d) (p) (q) (hn) (hd) (hp) (hq) ((more_ev_x0 s n d p q))), hc1, trivial⟩ rfl rfl h) (by simp [moreP, *])
  · exact Ev.cast (Ev.sym0 (P := Tryz.prog) (Γ := Γ0) (f := 10) (args := [D.agg (Sys.cells s), int x, int y, D.agg [int n, int d], D.agg [int p, int q]]) (d := bool true) pok (φ := [Ev Tryz.prog Γ0 35 [] (more_ev_x0 s n d p q) (bool true) (more_ev_x0 s n d p q), (!true) = false, Ev Tryz.prog Γ0 36 (more_ev_x3 s) (more_ev_x0 s n d p q) (bool (few s)) (more_ev_x0 s n d p q), (!few s) = true]) [.val (bool true), .b false, .val (bool (few s)), .b true] (by kernel_rfl) ⟨(@sane21_ev ((more_ev_x0 s n d p q))), rfl, (@few_ev (s) ((more_ev_x0 s n d p q))), hc0, trivial⟩ rfl rfl h) (by simp [moreP, *])


end Go.Vi
open Go Go.Proofs
namespace Go.Vi
set_option maxRecDepth 100000

theorem good_of {n d : Int} (h : errR n d = 0) : 1 ≤ d ∧ d ≤ 1073741824 ∧ -1073741824 ≤ n ∧ n ≤ 1073741824 := by
  unfold errR at h
  cases hb : badR n d
  · unfold badR at hb
    simp only [Bool.or_eq_false_iff, decide_eq_false_iff_not] at hb
    omega
  · simp [hb] at h

theorem cross_le {a b c d : Int} (h1 : errR a b = 0) (h2 : errR c d = 0) : (cmpR a b c d).1 ≤ 0 ↔ a * d ≤ c * b := by
  rw [cmpR_good h1 h2]
  have g1 := good_of h1
  have g2 := good_of h2
  have b1 : -1152921504606846976 ≤ a * d ∧ a * d ≤ 1152921504606846976 := by
    constructor
    · have := Int.mul_le_mul_of_nonneg_right g1.2.2.1 (show (0 : Int) ≤ d by omega)
      omega
    · have := Int.mul_le_mul_of_nonneg_right g1.2.2.2 (show (0 : Int) ≤ d by omega)
      omega
  have b2 : -1152921504606846976 ≤ c * b ∧ c * b ≤ 1152921504606846976 := by
    constructor
    · have := Int.mul_le_mul_of_nonneg_right g2.2.2.1 (show (0 : Int) ≤ b by omega)
      omega
    · have := Int.mul_le_mul_of_nonneg_right g2.2.2.2 (show (0 : Int) ≤ b by omega)
      omega
  show crossI a b c d ≤ 0 ↔ _
  unfold crossI cmpI
  rw [wrap_i64 (by omega) (by omega), wrap_i64 (by omega) (by omega)]
  split
  · omega
  · split <;> omega

theorem frac_trans {a b c d p q : Int} (hd : 1 ≤ d) (hb : 1 ≤ b) (hq : 1 ≤ q) (h1 : a * d ≤ c * b) (h2 : c * q ≤ p * d) : a * q ≤ p * b := by
  have e1 := Int.mul_le_mul_of_nonneg_right h1 (show (0 : Int) ≤ q by omega)
  have e2 := Int.mul_le_mul_of_nonneg_right h2 (show (0 : Int) ≤ b by omega)
  have e3 : a * q * d ≤ p * b * d := by
    have h3 : a * d * q = a * q * d := by rw [Int.mul_assoc, Int.mul_comm d q, ← Int.mul_assoc]
    have h4 : c * b * q = c * q * b := by rw [Int.mul_assoc, Int.mul_comm b q, ← Int.mul_assoc]
    have h5 : p * d * b = p * b * d := by rw [Int.mul_assoc, Int.mul_comm d b, ← Int.mul_assoc]
    omega
  exact Int.le_of_mul_le_mul_right e3 (by omega)

theorem lastN_mono {α : Type} {p q : α → Bool} {l : List α} (h : ∀ a ∈ l, p a = true → q a = true) : ∀ n, lastN p l n ≤ lastN q l n
  | 0 => Nat.le_refl _
  | n + 1 => by
    have ih := lastN_mono h n
    have hle := lastN_le p l (n + 1)
    unfold lastN at hle ⊢
    split
    · rename_i a ha
      rw [ha] at hle
      simp only at hle
      cases hp : p a
      · cases hq : q a
        · simpa [hp, hq] using ih
        · simp; simpa [hp] using hle
      · simp [h a (List.mem_of_getElem? ha) hp]
    · exact ih

theorem more_true {s : Vi.Sys} (hs : s.ok) (x y n d p q : Int) : moreP s x y n d p q = true := by
  unfold moreP
  cases hf : few s
  · simp
  cases hc : ((cmpR n d p q).2 != 0 || decide ((cmpR n d p q).1 > 0) || decide (x > y))
  case true => simp
  simp only [Bool.or_eq_false_iff, bne_eq_false_iff_eq, decide_eq_false_iff_not] at hc
  obtain ⟨⟨h1, h2⟩, h3⟩ := hc
  obtain ⟨e1, e2⟩ := cmpR_err2 h1
  have h2' : n * q ≤ p * d := (cross_le e1 e2).1 (by omega)
  have ofx : ∀ l, ofR s l x n d = if (errS s != 0 || !amt x) = true then ((0 : Int), (1 : Int)) else ((lastIx (holdsB x n d) l : Int), 0) := by
    intro l; unfold ofR; simp [e1]
  have ofy : ∀ l, ofR s l y p q = if (errS s != 0 || !amt y) = true then ((0 : Int), (1 : Int)) else ((lastIx (holdsB y p q) l : Int), 0) := by
    intro l; unfold ofR; simp [e2]
  cases ha : (errS s != 0 || !amt x)
  · cases hb : (errS s != 0 || !amt y)
    · simp only [ofx, ofy, ha, hb, feeR]
      have he : errS s = 0 := by
        simp only [Bool.or_eq_false_iff, bne_eq_false_iff_eq] at ha
        exact ha.1
      have hbad : badT s = false := errT_zero (by rw [← err_eq hs]; exact he)
      have hc1 : s.classes.any wrongV = false := by simp only [badT, Bool.or_eq_false_iff, Bool.not_not] at hbad; exact hbad.2.1
      have hc2 : s.honours.any wrongV = false := by simp only [badT, Bool.or_eq_false_iff, Bool.not_not] at hbad; exact hbad.2.2
      have key : ∀ l : List Cls, l.any wrongV = false → lastIx (holdsB x n d) l ≤ lastIx (holdsB y p q) l := by
        intro l hl
        unfold lastIx
        refine lastN_mono (fun c hc => ?_) _
        have hcg := notWrong hl c hc
        unfold holdsB
        simp only [Bool.and_eq_true, decide_eq_true_eq]
        rw [cross_le hcg e1, cross_le hcg e2]
        rintro ⟨k1, k2⟩
        exact ⟨frac_trans (good_of e1).1 (good_of hcg).1 (good_of e2).1 k1 h2', by omega⟩
      have k1 := key _ hc1
      have k2 := key _ hc2
      have k3 : lastIx (fun f : FeeT => decide (f.credits ≤ x)) s.fees ≤ lastIx (fun f : FeeT => decide (f.credits ≤ y)) s.fees := by
        unfold lastIx
        refine lastN_mono (fun c _ => ?_) _
        simp only [decide_eq_true_eq]
        omega
      simp [k1, k2, k3]
    · simp [ofx, ofy, ha, hb]
  · simp [ofx, ofy, ha]
end Go.Vi
