/- QuestionsOrder: part of the proof: contracts of the functions that the law reaches, and the law. No conditions beyond the given statement's own. -/
import Derived.Test.YtafcgfmoekjanaaGreatDoorV8
import Derived.Test.YtafcgfmoekjanaaGreatDoorChecked
open Go Go.Proofs
namespace Go.Vi
theorem pok_of {P : Program} (h1 : P.follows .mixedOrders = true) (h2 : (P.funcs.toList.all fun fn => !(fn.name == "runtime.NumGoroutine")) = true) : POk P where
  mixed := h1
  plain f fn hf := by
    have := List.all_eq_true.1 h2 fn (by rw [← Array.getElem?_toList] at hf; exact List.mem_of_getElem? hf)
    simpa using this
abbrev int (n : Int) : D := lit (.int .i64 n)
abbrev u64 (n : Int) : D := lit (.int .u64 n)
abbrev bool (b : Bool) : D := lit (.bool b)
abbrev vi (n : Int) : Dp := .v (.int .i64 n)
abbrev vs (s : ByteArray) : Dp := .v (.string s)
abbrev strD (s : ByteArray) : D := lit (.string s)
abbrev rowsD' (es : List (List Dp)) : D := .p (.sl es)
abbrev ag (r : List Dp) : D := .agg (r.map .p)
abbrev fq (k : Nat) : D := lit (.func (.func k) #[] #[])
abbrev nq : D := lit (.slice none 0 0)
abbrev Γ0 : Glob := fun _ => none
theorem pok : POk Tryz.prog := pok_of (by kernel_rfl) (by kernel_rfl)
end Go.Vi
open Go Go.Proofs
namespace Go.Vi
set_option maxRecDepth 100000
def I64 (n : Int) : Prop := -9223372036854775808 ≤ n ∧ n ≤ 9223372036854775807
def Short {α : Type} (l : List α) : Prop := l.length ≤ 140737488355328
theorem getD_row {α : Type} {row : α → List Dp} {l : List α} {n : Nat} {a : α} (h : l[n]? = some a) : (l.map row).getD n [] = row a := by
  simp [List.getD_eq_getElem?_getD, h]
theorem rowAt {α : Type} {row : α → List Dp} {l : List α} {n : Nat} {a : α} {sz : Nat} (h : l[n]? = some a) (hs : (row a).length = sz) : RowAt (n : Int) (l.map row) (row a) sz := by
  have := (List.getElem?_eq_some_iff.1 h).1
  refine ⟨?_, getD_row h, hs⟩
  simp [inR]
  omega
theorem inR_nat {α : Type} {row : α → List Dp} {l : List α} {n : Nat} {a : α} (h : l[n]? = some a) : inR (n : Int) (l.map row).length = true := by
  have := (List.getElem?_eq_some_iff.1 h).1
  simp [inR]
  omega
theorem wrap_pred {n : Nat} (h : (n : Int) ≤ 9223372036854775806) : IntKind.i64.wrap ((n : Int) + 1 - 1) = n := by
  rw [wrap_i64 (by omega) (by omega)]; omega
def fnv (k : Nat) : D := lit (.func (.func k) #[] #[])
theorem isNaN_ev (a : Int) (h : List Blk) : Ev Tryz.prog Γ0 23 [int a] h (bool false) h := by
  have := Ev.sym0 (P := Tryz.prog) (Γ := Γ0) (f := 23) (args := [int a]) (d := bool (a != a)) pok (φ := []) [] (by kernel_rfl) trivial rfl rfl h
  simpa using this
def cmpI (a b : Int) : Int := if a < b then -1 else if a > b then 1 else 0
theorem cmpI_ev (a b : Int) (h : List Blk) : Ev Tryz.prog Γ0 16 [int a, int b] h (int (cmpI a b)) h := by
  by_cases h1 : a < b
  · simp only [cmpI, h1, if_true]
    exact Ev.sym0 pok (φ := [Ev Tryz.prog Γ0 23 [int a] [] (bool false) [], Ev Tryz.prog Γ0 23 [int b] [] (bool false) [], false = false, false = false, decide (a < b) = true])
      [.val (bool false), .val (bool false), .b false, .b false, .b true] (by kernel_rfl) ⟨isNaN_ev _ _, isNaN_ev _ _, rfl, rfl, decide_eq_true h1, trivial⟩ rfl rfl h
  · by_cases h2 : a > b
    · simp only [cmpI, h1, h2, if_true, if_false]
      exact Ev.sym0 pok (φ := [Ev Tryz.prog Γ0 23 [int a] [] (bool false) [], Ev Tryz.prog Γ0 23 [int b] [] (bool false) [], false = false, false = false, decide (a < b) = false, decide (a > b) = true])
        [.val (bool false), .val (bool false), .b false, .b false, .b false, .b true] (by kernel_rfl) ⟨isNaN_ev _ _, isNaN_ev _ _, rfl, rfl, decide_eq_false h1, decide_eq_true h2, trivial⟩ rfl rfl h
    · simp only [cmpI, h1, h2, if_false]
      exact Ev.sym0 pok (φ := [Ev Tryz.prog Γ0 23 [int a] [] (bool false) [], Ev Tryz.prog Γ0 23 [int b] [] (bool false) [], false = false, false = false, decide (a < b) = false, decide (a > b) = false])
        [.val (bool false), .val (bool false), .b false, .b false, .b false, .b false] (by kernel_rfl) ⟨isNaN_ev _ _, isNaN_ev _ _, rfl, rfl, decide_eq_false h1, decide_eq_false h2, trivial⟩ rfl rfl h
theorem drop_at {α : Type} {l : List α} {i : Nat} {a : α} (h : l[i]? = some a) : l.drop i = a :: l.drop (i + 1) := by
  obtain ⟨h1, h2⟩ := List.getElem?_eq_some_iff.1 h
  rw [List.drop_eq_getElem_cons h1, h2]
theorem wrap_succ {i n : Nat} (h : i < n) (hn : n ≤ 140737488355328) : IntKind.i64.wrap ((i : Int) + 1) = ((i + 1 : Nat) : Int) := by
  rw [wrap_i64 (by omega) (by omega)]; omega
theorem lt_len {α : Type} (row : α → List Dp) {l : List α} {i : Nat} (h : i < l.length) : decide ((i : Int) < ((l.map row).length : Int)) = true := by simp; omega
theorem ge_len {α : Type} (row : α → List Dp) (l : List α) : decide ((l.length : Int) < ((l.map row).length : Int)) = false := by simp
end Go.Vi
open Go Go.Proofs
namespace Go.Vi
set_option maxRecDepth 100000
set_option maxHeartbeats 4000000
structure QuT where
  kind : Int
  st : Int
  obj : Int
  term : Int
def QuT.row (q : QuT) : List Dp := [vi q.kind, vi q.st, vi q.obj, vi q.term]
def orQ (a b : Int) : Int := bif a != 0 then a else b
def cmpQ (a b : QuT) : Int := orQ (cmpI a.kind b.kind) (orQ (cmpI a.st b.st) (orQ (cmpI a.obj b.obj) (cmpI a.term b.term)))
abbrev qcH (a b : QuT) : List Blk := [.var (a.row.map .p), .var (b.row.map .p), .var [int a.kind, int a.st, int a.obj, int a.term], .var [int b.kind, int b.st, int b.obj, int b.term]]
abbrev qcS (a b : QuT) (i : Int) : AS := { t := mkT 41 0 [(4, int 0), (5, .ref (.ptr 2 0)), (6, .ref (.ptr 3 0)), (27, int i)], h := qcH a b, m := [] }
abbrev qcX (n : Int) : AS := { t := mkT 41 0 [(4, int n)], h := [], m := [] }
noncomputable abbrev qc_0_x0 (a : QuT) (b : QuT) : List Blk := [.var [int a.kind, int a.st, int a.obj, int a.term], .var [int b.kind, int b.st, int b.obj, int b.term], .var [int a.kind, int a.st, int a.obj, int a.term], .var [int b.kind, int b.st, int b.obj, int b.term]]
theorem qc_0 {a b : QuT} (hz : (cmpI a.kind b.kind != 0) = false) : (CW Tryz.prog Γ0 [] false (sub Tryz.f9 0) (qcS a b 0) .normal (qcS a b 1)) := by
  exact CW.cast (CW.symX (s' := { t := mkT 41 0 [(4, int 0), (5, .ref (.ptr 2 0)), (6, .ref (.ptr 3 0)), (27, int (IntKind.wrap IntKind.i64 (0 + 1)))], h := (qc_0_x0 a b), m := [] }) (e := Exit.normal) pok [.st (.mask [4, 5, 6, 27])] [.b true, .val (int (cmpI a.kind b.kind)), .b false] (by kernel_rfl) (.c (show decide (0 < 4) = true from rfl) (.c (show inR 0 4 = true from rfl) (.c (show inR 0 4 = true from rfl) (.c (@cmpI_ev (a.kind) (b.kind) ((qc_0_x0 a b))) (.c hz .n)))))) (by rfl) (by rfl)
noncomputable abbrev qc_1_x0 (a : QuT) (b : QuT) : List Blk := [.var [int a.kind, int a.st, int a.obj, int a.term], .var [int b.kind, int b.st, int b.obj, int b.term], .var [int a.kind, int a.st, int a.obj, int a.term], .var [int b.kind, int b.st, int b.obj, int b.term]]
theorem qc_1 {a b : QuT} (hz : (cmpI a.st b.st != 0) = false) : (CW Tryz.prog Γ0 [] false (sub Tryz.f9 0) (qcS a b 1) .normal (qcS a b 2)) := by
  exact CW.cast (CW.symX (s' := { t := mkT 41 0 [(4, int 0), (5, .ref (.ptr 2 0)), (6, .ref (.ptr 3 0)), (27, int (IntKind.wrap IntKind.i64 (1 + 1)))], h := (qc_1_x0 a b), m := [] }) (e := Exit.normal) pok [.st (.mask [4, 5, 6, 27])] [.b true, .val (int (cmpI a.st b.st)), .b false] (by kernel_rfl) (.c (show decide (1 < 4) = true from rfl) (.c (show inR 1 4 = true from rfl) (.c (show inR 1 4 = true from rfl) (.c (@cmpI_ev (a.st) (b.st) ((qc_1_x0 a b))) (.c hz .n)))))) (by rfl) (by rfl)
noncomputable abbrev qc_2_x0 (a : QuT) (b : QuT) : List Blk := [.var [int a.kind, int a.st, int a.obj, int a.term], .var [int b.kind, int b.st, int b.obj, int b.term], .var [int a.kind, int a.st, int a.obj, int a.term], .var [int b.kind, int b.st, int b.obj, int b.term]]
theorem qc_2 {a b : QuT} (hz : (cmpI a.obj b.obj != 0) = false) : (CW Tryz.prog Γ0 [] false (sub Tryz.f9 0) (qcS a b 2) .normal (qcS a b 3)) := by
  exact CW.cast (CW.symX (s' := { t := mkT 41 0 [(4, int 0), (5, .ref (.ptr 2 0)), (6, .ref (.ptr 3 0)), (27, int (IntKind.wrap IntKind.i64 (2 + 1)))], h := (qc_2_x0 a b), m := [] }) (e := Exit.normal) pok [.st (.mask [4, 5, 6, 27])] [.b true, .val (int (cmpI a.obj b.obj)), .b false] (by kernel_rfl) (.c (show decide (2 < 4) = true from rfl) (.c (show inR 2 4 = true from rfl) (.c (show inR 2 4 = true from rfl) (.c (@cmpI_ev (a.obj) (b.obj) ((qc_2_x0 a b))) (.c hz .n)))))) (by rfl) (by rfl)
noncomputable abbrev qc_3_x0 (a : QuT) (b : QuT) : List Blk := [.var [int a.kind, int a.st, int a.obj, int a.term], .var [int b.kind, int b.st, int b.obj, int b.term], .var [int a.kind, int a.st, int a.obj, int a.term], .var [int b.kind, int b.st, int b.obj, int b.term]]
theorem qc_3 {a b : QuT} (hz : (cmpI a.term b.term != 0) = false) : (CW Tryz.prog Γ0 [] false (sub Tryz.f9 0) (qcS a b 3) .normal (qcS a b 4)) := by
  exact CW.cast (CW.symX (s' := { t := mkT 41 0 [(4, int 0), (5, .ref (.ptr 2 0)), (6, .ref (.ptr 3 0)), (27, int (IntKind.wrap IntKind.i64 (3 + 1)))], h := (qc_3_x0 a b), m := [] }) (e := Exit.normal) pok [.st (.mask [4, 5, 6, 27])] [.b true, .val (int (cmpI a.term b.term)), .b false] (by kernel_rfl) (.c (show decide (3 < 4) = true from rfl) (.c (show inR 3 4 = true from rfl) (.c (show inR 3 4 = true from rfl) (.c (@cmpI_ev (a.term) (b.term) ((qc_3_x0 a b))) (.c hz .n)))))) (by rfl) (by rfl)
theorem qc_4 {a b : QuT} : (CW Tryz.prog Γ0 [] false (sub Tryz.f9 0) (qcS a b 4) (.exit 0) (qcX 0)) := by
  exact CW.cast (CW.symX (s' := { t := mkT 41 0 [(4, int 0)], h := [], m := [] }) (e := Exit.exit 0) pok [.st (.mask [4]), .st (.trim 0)] [.b false] (by kernel_rfl) (.c (show decide (4 < 4) = false from rfl) .n)) (by rfl) (by rfl)
noncomputable abbrev qc_0r_x0 (a : QuT) (b : QuT) : List Blk := [.var [int a.kind, int a.st, int a.obj, int a.term], .var [int b.kind, int b.st, int b.obj, int b.term], .var [int a.kind, int a.st, int a.obj, int a.term], .var [int b.kind, int b.st, int b.obj, int b.term]]
theorem qc_0r {a b : QuT} (hz : (cmpI a.kind b.kind != 0) = true) : (CW Tryz.prog Γ0 [] false (sub Tryz.f9 0) (qcS a b 0) .ret (qcX (cmpI a.kind b.kind))) := by
  exact CW.cast (CW.symX (s' := { t := mkT 41 0 [(4, int (cmpI a.kind b.kind))], h := [], m := [] }) (e := Exit.ret) pok [.st (.mask [4]), .st (.trim 0)] [.b true, .val (int (cmpI a.kind b.kind)), .b true] (by kernel_rfl) (.c (show decide (0 < 4) = true from rfl) (.c (show inR 0 4 = true from rfl) (.c (show inR 0 4 = true from rfl) (.c (@cmpI_ev (a.kind) (b.kind) ((qc_0r_x0 a b))) (.c hz .n)))))) (by rfl) (by rfl)
noncomputable abbrev qc_1r_x0 (a : QuT) (b : QuT) : List Blk := [.var [int a.kind, int a.st, int a.obj, int a.term], .var [int b.kind, int b.st, int b.obj, int b.term], .var [int a.kind, int a.st, int a.obj, int a.term], .var [int b.kind, int b.st, int b.obj, int b.term]]
theorem qc_1r {a b : QuT} (hz : (cmpI a.st b.st != 0) = true) : (CW Tryz.prog Γ0 [] false (sub Tryz.f9 0) (qcS a b 1) .ret (qcX (cmpI a.st b.st))) := by
  exact CW.cast (CW.symX (s' := { t := mkT 41 0 [(4, int (cmpI a.st b.st))], h := [], m := [] }) (e := Exit.ret) pok [.st (.mask [4]), .st (.trim 0)] [.b true, .val (int (cmpI a.st b.st)), .b true] (by kernel_rfl) (.c (show decide (1 < 4) = true from rfl) (.c (show inR 1 4 = true from rfl) (.c (show inR 1 4 = true from rfl) (.c (@cmpI_ev (a.st) (b.st) ((qc_1r_x0 a b))) (.c hz .n)))))) (by rfl) (by rfl)
noncomputable abbrev qc_2r_x0 (a : QuT) (b : QuT) : List Blk := [.var [int a.kind, int a.st, int a.obj, int a.term], .var [int b.kind, int b.st, int b.obj, int b.term], .var [int a.kind, int a.st, int a.obj, int a.term], .var [int b.kind, int b.st, int b.obj, int b.term]]
theorem qc_2r {a b : QuT} (hz : (cmpI a.obj b.obj != 0) = true) : (CW Tryz.prog Γ0 [] false (sub Tryz.f9 0) (qcS a b 2) .ret (qcX (cmpI a.obj b.obj))) := by
  exact CW.cast (CW.symX (s' := { t := mkT 41 0 [(4, int (cmpI a.obj b.obj))], h := [], m := [] }) (e := Exit.ret) pok [.st (.mask [4]), .st (.trim 0)] [.b true, .val (int (cmpI a.obj b.obj)), .b true] (by kernel_rfl) (.c (show decide (2 < 4) = true from rfl) (.c (show inR 2 4 = true from rfl) (.c (show inR 2 4 = true from rfl) (.c (@cmpI_ev (a.obj) (b.obj) ((qc_2r_x0 a b))) (.c hz .n)))))) (by rfl) (by rfl)
noncomputable abbrev qc_3r_x0 (a : QuT) (b : QuT) : List Blk := [.var [int a.kind, int a.st, int a.obj, int a.term], .var [int b.kind, int b.st, int b.obj, int b.term], .var [int a.kind, int a.st, int a.obj, int a.term], .var [int b.kind, int b.st, int b.obj, int b.term]]
theorem qc_3r {a b : QuT} (hz : (cmpI a.term b.term != 0) = true) : (CW Tryz.prog Γ0 [] false (sub Tryz.f9 0) (qcS a b 3) .ret (qcX (cmpI a.term b.term))) := by
  exact CW.cast (CW.symX (s' := { t := mkT 41 0 [(4, int (cmpI a.term b.term))], h := [], m := [] }) (e := Exit.ret) pok [.st (.mask [4]), .st (.trim 0)] [.b true, .val (int (cmpI a.term b.term)), .b true] (by kernel_rfl) (.c (show decide (3 < 4) = true from rfl) (.c (show inR 3 4 = true from rfl) (.c (show inR 3 4 = true from rfl) (.c (@cmpI_ev (a.term) (b.term) ((qc_3r_x0 a b))) (.c hz .n)))))) (by rfl) (by rfl)
def qcHit (a b : QuT) : Bool := cmpI a.kind b.kind != 0 || (cmpI a.st b.st != 0 || (cmpI a.obj b.obj != 0 || cmpI a.term b.term != 0))
def qcRes (a b : QuT) : Unit ⊕ Int := bif qcHit a b then .inr (cmpQ a b) else .inl ()
def qcFin (a b : QuT) : Exit × AS := eachFin (.exit 0) (fun _ : Unit => qcX 0) (fun n : Int => (.ret, qcX n)) (qcRes a b)
theorem qc_cw {a b : QuT} : CW Tryz.prog Γ0 [] false (.loop (sub Tryz.f9 0)) (qcS a b 0) (qcFin a b).1 (qcFin a b).2 := by
  unfold qcFin qcRes qcHit cmpQ orQ
  cases h0 : (cmpI a.kind b.kind != 0)
  · simp only [Bool.false_or, cond_false, eachFin]
    cases h1 : (cmpI a.st b.st != 0)
    · simp only [Bool.false_or, cond_false, eachFin]
      cases h2 : (cmpI a.obj b.obj != 0)
      · simp only [Bool.false_or, cond_false, eachFin]
        cases h3 : (cmpI a.term b.term != 0)
        · simp only [Bool.false_or, cond_false, eachFin]
          refine CW.loopN 4 (fun i => qcS a b i) (by simp) (fun i hi => ?_) qc_4
          match i, hi with
          | 0, _ => exact qc_0 h0
          | 1, _ => exact qc_1 h1
          | 2, _ => exact qc_2 h2
          | 3, _ => exact qc_3 h3
        · simp only [Bool.true_or, cond_true, eachFin]
          refine CW.loopN 3 (fun i => qcS a b i) (by simp) (fun i hi => ?_) (qc_3r h3)
          match i, hi with
          | 0, _ => exact qc_0 h0
          | 1, _ => exact qc_1 h1
          | 2, _ => exact qc_2 h2
      · simp only [Bool.true_or, cond_true, eachFin]
        refine CW.loopN 2 (fun i => qcS a b i) (by simp) (fun i hi => ?_) (qc_2r h2)
        match i, hi with
        | 0, _ => exact qc_0 h0
        | 1, _ => exact qc_1 h1
    · simp only [Bool.true_or, cond_true, eachFin]
      refine CW.loopN 1 (fun i => qcS a b i) (by simp) (fun i hi => ?_) (qc_1r h1)
      match i, hi with
      | 0, _ => exact qc_0 h0
  · simp only [Bool.true_or, cond_true, eachFin]
    exact CW.loopN 0 (fun i => qcS a b i) (by simp) (fun i hi => absurd hi (Nat.not_lt_zero i)) (qc_0r h0)
theorem qcRes_l {a b : QuT} {u : Unit} (h : qcRes a b = .inl u) : cmpQ a b = 0 := by
  unfold qcRes at h
  cases hh : qcHit a b <;> rw [hh] at h
  · unfold qcHit at hh
    simp only [Bool.or_eq_false_iff, bne_eq_false_iff_eq] at hh
    unfold cmpQ orQ
    simp [hh.1, hh.2.1, hh.2.2.1, hh.2.2.2]
  · simp at h
theorem qcRes_r {a b : QuT} {n : Int} (h : qcRes a b = .inr n) : cmpQ a b = n := by
  unfold qcRes at h
  cases hh : qcHit a b <;> rw [hh] at h
  · simp at h
  · simpa using h
end Go.Vi
open Go Go.Proofs
namespace Go.Vi
set_option maxRecDepth 100000
set_option maxHeartbeats 4000000
theorem qcmp_ev {a b : QuT} (h : List Blk) : (Ev Tryz.prog Γ0 9 [ag a.row, ag b.row] h (int (cmpQ a b)) h) := by
  have hl0 := (@qc_cw (a) (b))
  unfold qcFin at hl0
  revert hl0
  cases ho1 : qcRes a b with
  | inl o1_0_0 =>
    intro hl0
    exact Ev.castH (Ev.sym0 (d := int 0) pok [.sum [4, 5, 6, 27] (Exit.exit 0) { t := mkT 41 0 [(4, int 0)], h := [], m := [] }] (by kernel_rfl) (.e (.ref (.ptr 0 0)) (.e (.ref (.ptr 0 0)) (.e (.ref (.ptr 0 0)) (.e (int a.kind) (.e (int a.kind) (.e (int a.kind) (.e (.ref (.ptr 0 1)) (.e (.ref (.ptr 0 1)) (.e (.ref (.ptr 0 1)) (.e (int a.st) (.e (int a.st) (.e (int a.st) (.e (.ref (.ptr 0 2)) (.e (.ref (.ptr 0 2)) (.e (.ref (.ptr 0 2)) (.e (int a.obj) (.e (int a.obj) (.e (int a.obj) (.e (.ref (.ptr 0 3)) (.e (.ref (.ptr 0 3)) (.e (.ref (.ptr 0 3)) (.e (int a.term) (.e (int a.term) (.e (int a.term) (.e (.ref (.ptr 1 0)) (.e (.ref (.ptr 1 0)) (.e (.ref (.ptr 1 0)) (.e (.ref (.ptr 1 0)) (.e (int b.kind) (.e (int b.kind) (.e (int b.kind) (.e (int b.kind) (.e (.ref (.ptr 1 1)) (.e (.ref (.ptr 1 1)) (.e (.ref (.ptr 1 1)) (.e (.ref (.ptr 1 1)) (.e (int b.st) (.e (int b.st) (.e (int b.st) (.e (int b.st) (.e (.ref (.ptr 1 2)) (.e (.ref (.ptr 1 2)) (.e (.ref (.ptr 1 2)) (.e (.ref (.ptr 1 2)) (.e (int b.obj) (.e (int b.obj) (.e (int b.obj) (.e (int b.obj) (.e (.ref (.ptr 1 3)) (.e (.ref (.ptr 1 3)) (.e (.ref (.ptr 1 3)) (.e (.ref (.ptr 1 3)) (.e (int b.term) (.e (int b.term) (.e (int b.term) (.e (int b.term) (.c hl0 .n))))))))))))))))))))))))))))))))))))))))))))))))))))))))) rfl rfl h) (by first | (rw [qcRes_l ho1]; done) | (rw [qcRes_r ho1]; done)) (by rfl)
  | inr o1_1_0 =>
    intro hl0
    exact Ev.castH (Ev.sym0 (d := int o1_1_0) pok [.sum [4, 5, 6, 27] (Exit.ret) { t := mkT 41 0 [(4, int o1_1_0)], h := [], m := [] }] (by kernel_rfl) (.e (.ref (.ptr 0 0)) (.e (.ref (.ptr 0 0)) (.e (.ref (.ptr 0 0)) (.e (int a.kind) (.e (int a.kind) (.e (int a.kind) (.e (.ref (.ptr 0 1)) (.e (.ref (.ptr 0 1)) (.e (.ref (.ptr 0 1)) (.e (int a.st) (.e (int a.st) (.e (int a.st) (.e (.ref (.ptr 0 2)) (.e (.ref (.ptr 0 2)) (.e (.ref (.ptr 0 2)) (.e (int a.obj) (.e (int a.obj) (.e (int a.obj) (.e (.ref (.ptr 0 3)) (.e (.ref (.ptr 0 3)) (.e (.ref (.ptr 0 3)) (.e (int a.term) (.e (int a.term) (.e (int a.term) (.e (.ref (.ptr 1 0)) (.e (.ref (.ptr 1 0)) (.e (.ref (.ptr 1 0)) (.e (.ref (.ptr 1 0)) (.e (int b.kind) (.e (int b.kind) (.e (int b.kind) (.e (int b.kind) (.e (.ref (.ptr 1 1)) (.e (.ref (.ptr 1 1)) (.e (.ref (.ptr 1 1)) (.e (.ref (.ptr 1 1)) (.e (int b.st) (.e (int b.st) (.e (int b.st) (.e (int b.st) (.e (.ref (.ptr 1 2)) (.e (.ref (.ptr 1 2)) (.e (.ref (.ptr 1 2)) (.e (.ref (.ptr 1 2)) (.e (int b.obj) (.e (int b.obj) (.e (int b.obj) (.e (int b.obj) (.e (.ref (.ptr 1 3)) (.e (.ref (.ptr 1 3)) (.e (.ref (.ptr 1 3)) (.e (.ref (.ptr 1 3)) (.e (int b.term) (.e (int b.term) (.e (int b.term) (.e (int b.term) (.c hl0 .n))))))))))))))))))))))))))))))))))))))))))))))))))))))))) rfl rfl h) (by first | (rw [qcRes_l ho1]; done) | (rw [qcRes_r ho1]; done)) (by rfl)
def Tri (x y z : Int) : Prop := (-1 ≤ x ∧ x ≤ 1) ∧ (-1 ≤ y ∧ y ≤ 1) ∧ (-1 ≤ z ∧ z ≤ 1) ∧ (x ≤ 0 → y ≤ 0 → z ≤ 0 ∧ (z = 0 → x = 0 ∧ y = 0)) ∧ (0 ≤ x → 0 ≤ y → 0 ≤ z ∧ (z = 0 → x = 0 ∧ y = 0))
theorem tri_cmp (a b c : Int) : Tri (cmpI a b) (cmpI b c) (cmpI a c) := by
  unfold Tri cmpI
  repeat' split
  all_goals omega
theorem orQ_eq (a b : Int) : orQ a b = if a = 0 then b else a := by
  unfold orQ
  by_cases h : a = 0
  · subst h; rfl
  · have : (a != 0) = true := by simp [h]
    simp [h, this]
theorem tri_or {x y z x' y' z' : Int} (h : Tri x y z) (h' : Tri x' y' z') : Tri (orQ x x') (orQ y y') (orQ z z') := by
  unfold Tri at *
  simp only [orQ_eq]
  obtain ⟨⟨a1, a2⟩, ⟨a3, a4⟩, ⟨a5, a6⟩, a7, a8⟩ := h
  obtain ⟨⟨b1, b2⟩, ⟨b3, b4⟩, ⟨b5, b6⟩, b7, b8⟩ := h'
  have h1 : x = -1 ∨ x = 0 ∨ x = 1 := by omega
  have h2 : y = -1 ∨ y = 0 ∨ y = 1 := by omega
  have h3 : z = -1 ∨ z = 0 ∨ z = 1 := by omega
  have h4 : x' = -1 ∨ x' = 0 ∨ x' = 1 := by omega
  have h5 : y' = -1 ∨ y' = 0 ∨ y' = 1 := by omega
  have h6 : z' = -1 ∨ z' = 0 ∨ z' = 1 := by omega
  rcases h1 with rfl | rfl | rfl <;> rcases h2 with rfl | rfl | rfl <;> rcases h3 with rfl | rfl | rfl <;> first | (exfalso; revert a7 a8; decide) | (clear a7 a8; rcases h4 with rfl | rfl | rfl <;> rcases h5 with rfl | rfl | rfl <;> rcases h6 with rfl | rfl | rfl <;> first | decide | (exfalso; revert b7 b8; decide))
theorem tri_q (a b c : QuT) : Tri (cmpQ a b) (cmpQ b c) (cmpQ a c) := tri_or (tri_cmp ..) (tri_or (tri_cmp ..) (tri_or (tri_cmp ..) (tri_cmp ..)))
theorem cmpI_neg (a b : Int) : cmpI b a = -cmpI a b := by unfold cmpI; repeat' split <;> omega
theorem orQ_neg (a b : Int) : orQ (-a) (-b) = -orQ a b := by
  simp only [orQ_eq]; by_cases h : a = 0 <;> simp [h]
theorem cmpQ_neg (a b : QuT) : cmpQ b a = -cmpQ a b := by
  unfold cmpQ
  rw [cmpI_neg a.kind, cmpI_neg a.st, cmpI_neg a.obj, cmpI_neg a.term, orQ_neg, orQ_neg, orQ_neg]
theorem cmpI_zero (a b : Int) : cmpI a b = 0 ↔ a = b := by unfold cmpI; split <;> (try split) <;> omega
theorem orQ_zero (a b : Int) : orQ a b = 0 ↔ a = 0 ∧ b = 0 := by
  simp only [orQ_eq]; by_cases h : a = 0 <;> simp [h]
theorem cmpQ_zero (a b : QuT) : cmpQ a b = 0 ↔ a.kind = b.kind ∧ a.st = b.st ∧ a.obj = b.obj ∧ a.term = b.term := by
  unfold cmpQ
  rw [orQ_zero, orQ_zero, orQ_zero, cmpI_zero, cmpI_zero, cmpI_zero, cmpI_zero]
theorem cmpQ_kind {a b : QuT} (h : a.kind < b.kind) : cmpQ a b = -1 := by
  unfold cmpQ
  rw [orQ_eq, cmpI, if_pos h]; rfl
theorem ordBad_f (a b : QuT) : (decide (cmpQ a b < -1) || decide (cmpQ a b > 1) || cmpQ a b != IntKind.i64.wrap (0 - cmpQ b a) || !(cmpQ a b == 0) == (a.kind == b.kind && (a.st == b.st && (a.obj == b.obj && (a.term == b.term && true)))) || decide (a.kind < b.kind) && cmpQ a b != -1) = false := by
  obtain ⟨⟨h1, h2⟩, _⟩ := tri_q a b a
  have h3 : IntKind.i64.wrap (0 - cmpQ b a) = cmpQ a b := by rw [cmpQ_neg a b, wrap_i64 (by omega) (by omega)]; omega
  have h4 : (a.kind == b.kind && (a.st == b.st && (a.obj == b.obj && (a.term == b.term && true)))) = (cmpQ a b == 0) := by
    rw [Bool.eq_iff_iff]; simp [cmpQ_zero]
  have h5 : decide (cmpQ a b < -1) = false := decide_eq_false (by omega)
  have h6 : decide (cmpQ a b > 1) = false := decide_eq_false (by omega)
  have h7 : (decide (a.kind < b.kind) && cmpQ a b != -1) = false := by
    by_cases h : a.kind < b.kind
    · simp [cmpQ_kind h]
    · simp [h]
  rw [h3, h4, h5, h6, h7]
  simp
theorem ordGood_t (a b c : QuT) : (!(decide (cmpQ a b ≤ 0) && decide (cmpQ b c ≤ 0) && decide (cmpQ a c > 0)) && !(decide (cmpQ a b ≥ 0) && decide (cmpQ b c ≥ 0) && decide (cmpQ a c < 0))) = true := by
  obtain ⟨_, _, _, h1, h2⟩ := tri_q a b c
  have e1 : ¬ (cmpQ a b ≤ 0 ∧ cmpQ b c ≤ 0 ∧ cmpQ a c > 0) := fun h => by have := (h1 h.1 h.2.1).1; omega
  have e2 : ¬ (cmpQ a b ≥ 0 ∧ cmpQ b c ≥ 0 ∧ cmpQ a c < 0) := fun h => by have := (h2 h.1 h.2.1).1; omega
  rw [← Bool.decide_and, ← Bool.decide_and, ← Bool.decide_and, ← Bool.decide_and]
  simp only [and_assoc]
  rw [decide_eq_false e1, decide_eq_false e2]
  rfl
attribute [local irreducible] cmpQ
noncomputable abbrev qorder_a_x0 (a : QuT) (b : QuT) (c : QuT) : List Blk := [.var [int a.kind, int a.st, int a.obj, int a.term], .var [int b.kind, int b.st, int b.obj, int b.term], .var [int c.kind, int c.st, int c.obj, int c.term]]
theorem qorder_a {a b c : QuT} (hsane : ∀ h, Ev Tryz.prog Γ0 5 [] h (bool true) h) (h : List Blk) : (Ev Tryz.prog Γ0 4 [ag a.row, ag b.row, ag c.row] h (bool true) h) := by
  cases hc0 : decide (cmpQ a b < -1) || decide (cmpQ a b > 1) || cmpQ a b != IntKind.wrap IntKind.i64 (0 - cmpQ b a) || !(cmpQ a b == 0) == (a.kind == b.kind && (a.st == b.st && (a.obj == b.obj && (a.term == b.term && true)))) || decide (a.kind < b.kind) && cmpQ a b != -1
  · exact Ev.castH (Ev.sym0 (d := bool (!(decide (cmpQ a b ≤ 0) && decide (cmpQ b c ≤ 0) && decide (cmpQ a c > 0)) && !(decide (cmpQ a b ≥ 0) && decide (cmpQ b c ≥ 0) && decide (cmpQ a c < 0)))) pok [.val (bool true), .b false, .val (int (cmpQ a b)), .val (int (cmpQ b c)), .val (int (cmpQ a c)), .val (int (cmpQ b a)), .b false] (by kernel_rfl) (.c (@hsane ((qorder_a_x0 a b c))) (.c (show (!true) = false from rfl) (.c (@qcmp_ev (a) (b) ((qorder_a_x0 a b c))) (.c (@qcmp_ev (b) (c) ((qorder_a_x0 a b c))) (.c (@qcmp_ev (a) (c) ((qorder_a_x0 a b c))) (.c (show (!(decide (cmpQ a b < -1) || decide (cmpQ a b > 1))) = true → Ev Tryz.prog Γ0 9 [D.agg [int b.kind, int b.st, int b.obj, int b.term], D.agg [int a.kind, int a.st, int a.obj, int a.term]] (qorder_a_x0 a b c) (int (cmpQ b a)) (qorder_a_x0 a b c) from (fun hg => (@qcmp_ev (b) (a) ((qorder_a_x0 a b c))))) (.c hc0 .n))))))) rfl rfl h) (by first | (rw [ordGood_t]) | (rw [ordBad_f] at hc0; simp at hc0)) (by rfl)
  · exact Ev.castH (Ev.sym0 (d := bool false) pok [.val (bool true), .b false, .val (int (cmpQ a b)), .val (int (cmpQ b c)), .val (int (cmpQ a c)), .val (int (cmpQ b a)), .b true] (by kernel_rfl) (.c (@hsane ((qorder_a_x0 a b c))) (.c (show (!true) = false from rfl) (.c (@qcmp_ev (a) (b) ((qorder_a_x0 a b c))) (.c (@qcmp_ev (b) (c) ((qorder_a_x0 a b c))) (.c (@qcmp_ev (a) (c) ((qorder_a_x0 a b c))) (.c (show (!(decide (cmpQ a b < -1) || decide (cmpQ a b > 1))) = true → Ev Tryz.prog Γ0 9 [D.agg [int b.kind, int b.st, int b.obj, int b.term], D.agg [int a.kind, int a.st, int a.obj, int a.term]] (qorder_a_x0 a b c) (int (cmpQ b a)) (qorder_a_x0 a b c) from (fun hg => (@qcmp_ev (b) (a) ((qorder_a_x0 a b c))))) (.c hc0 .n))))))) rfl rfl h) (by first | (rw [ordGood_t]) | (rw [ordBad_f] at hc0; simp at hc0)) (by rfl)
end Go.Vi
open Go Go.Proofs
namespace Go.Vi
set_option maxRecDepth 100000
set_option maxHeartbeats 4000000
structure FactT where
  kind : Int
  sub : Int
  obj : Int
  value : Int
  frm : Int
  til : Int
  known : Int
  no : Int
  deriving Inhabited
def FactT.row (f : FactT) : List Dp := [vi f.kind, vi f.sub, vi f.obj, vi f.value, vi f.frm, vi f.til, vi f.known, vi f.no]
def FactT.ok (f : FactT) : Prop := I64 f.kind ∧ I64 f.sub ∧ I64 f.obj ∧ I64 f.value ∧ I64 f.frm ∧ I64 f.til ∧ I64 f.known ∧ I64 f.no
def orI (a b : Int) : Int := if (a != 0) = true then a else if (b != 0) = true then b else 0
abbrev orR (a b : Int) : List (List Dp) := [[vi a], [vi b]]
abbrev orS (a b : Int) (i : Int) (h : List Blk) : AS := { t := mkT 18 0 [(2, int 0), (3, int 0), (6, rowsD' (orR a b)), (7, int 2), (8, int i)], h := h, m := [] }
theorem or_0 {a b : Int} {h0 h : List Blk} (hr : RowAt 0 (orR a b) [vi a] 1) (hz : (a != 0) = false) : (CW Tryz.prog Γ0 h0 false (sub Tryz.f154 0) (orS a b 0 h) .normal (orS a b 1 h)) := by
  refine CW.cast (CW.symX (s' := { t := mkT 18 0 [(2, int 0), (3, int 0), (6, rowsD' [[vi a], [vi b]]), (7, int 2), (8, int (IntKind.wrap IntKind.i64 (0 + 1)))], h := h, m := [] }) (e := Exit.normal) pok [.st (.mask [2, 3, 6, 7, 8])] [.b true, .row [vi a], .b false] (by kernel_rfl) (.c (show decide (0 < 2) = true from rfl) (.c hr (.c hz .n)))) ?_ ?_ <;> (first | rfl | simp_all)
theorem or_1 {a b : Int} {h0 h : List Blk} (hr : RowAt 1 (orR a b) [vi b] 1) (hz : (b != 0) = false) : (CW Tryz.prog Γ0 h0 false (sub Tryz.f154 0) (orS a b 1 h) .normal (orS a b 2 h)) := by
  refine CW.cast (CW.symX (s' := { t := mkT 18 0 [(2, int 0), (3, int 0), (6, rowsD' [[vi a], [vi b]]), (7, int 2), (8, int (IntKind.wrap IntKind.i64 (1 + 1)))], h := h, m := [] }) (e := Exit.normal) pok [.st (.mask [2, 3, 6, 7, 8])] [.b true, .row [vi b], .b false] (by kernel_rfl) (.c (show decide (1 < 2) = true from rfl) (.c hr (.c hz .n)))) ?_ ?_ <;> (first | rfl | simp_all)
theorem or_0r {a b : Int} {h0 h : List Blk} (hr : RowAt 0 (orR a b) [vi a] 1) (hz : (a != 0) = true) : (CW Tryz.prog Γ0 h0 false (sub Tryz.f154 0) (orS a b 0 h) .ret { t := mkT 18 0 [(2, int a)], h := h, m := [] }) := by
  refine CW.cast (CW.symX (s' := { t := mkT 18 0 [(2, int a)], h := h, m := [] }) (e := Exit.ret) pok [.st (.mask [2])] [.b true, .row [vi a], .b true] (by kernel_rfl) (.c (show decide (0 < 2) = true from rfl) (.c hr (.c hz .n)))) ?_ ?_ <;> (first | rfl | simp_all)
theorem or_1r {a b : Int} {h0 h : List Blk} (hr : RowAt 1 (orR a b) [vi b] 1) (hz : (b != 0) = true) : (CW Tryz.prog Γ0 h0 false (sub Tryz.f154 0) (orS a b 1 h) .ret { t := mkT 18 0 [(2, int b)], h := h, m := [] }) := by
  refine CW.cast (CW.symX (s' := { t := mkT 18 0 [(2, int b)], h := h, m := [] }) (e := Exit.ret) pok [.st (.mask [2])] [.b true, .row [vi b], .b true] (by kernel_rfl) (.c (show decide (1 < 2) = true from rfl) (.c hr (.c hz .n)))) ?_ ?_ <;> (first | rfl | simp_all)
theorem or_2 {a b : Int} {h0 h : List Blk} : (CW Tryz.prog Γ0 h0 false (sub Tryz.f154 0) (orS a b 2 h) (.exit 0) { t := mkT 18 0 [(2, int 0), (3, int 0)], h := h, m := [] }) := by
  refine CW.cast (CW.symX (s' := { t := mkT 18 0 [(2, int 0), (3, int 0)], h := h, m := [] }) (e := Exit.exit 0) pok [.st (.mask [2, 3])] [.b false] (by kernel_rfl) (.c (show decide (2 < 2) = false from rfl) .n)) ?_ ?_ <;> (first | rfl | simp_all)
def orFin (a b : Int) (h : List Blk) : Exit × AS := match a != 0 with
  | true => (.ret, { t := mkT 18 0 [(2, int a)], h := h, m := [] })
  | false => match b != 0 with
    | true => (.ret, { t := mkT 18 0 [(2, int b)], h := h, m := [] })
    | false => (.exit 0, { t := mkT 18 0 [(2, int 0), (3, int 0)], h := h, m := [] })
theorem or_cw {a b : Int} {h0 h : List Blk} : CW Tryz.prog Γ0 h0 false (.loop (sub Tryz.f154 0)) (orS a b 0 h) (orFin a b h).1 (orFin a b h).2 := by
  have r0 : RowAt 0 (orR a b) [vi a] 1 := ⟨rfl, rfl, rfl⟩
  have r1 : RowAt 1 (orR a b) [vi b] 1 := ⟨rfl, rfl, rfl⟩
  unfold orFin
  cases ha : a != 0
  · cases hb : b != 0
    · refine CW.loopN 2 (fun i => orS a b i h) (by simp) (fun i hi => ?_) or_2
      match i, hi with
      | 0, _ => exact or_0 r0 ha
      | 1, _ => exact or_1 r1 hb
    · refine CW.loopN 1 (fun i => orS a b i h) (by simp) (fun i hi => ?_) (or_1r r1 hb)
      match i, hi with
      | 0, _ => exact or_0 r0 ha
  · exact CW.loopN 0 (fun i => orS a b i h) (by simp) (fun i hi => absurd hi (Nat.not_lt_zero i)) (or_0r r0 ha)
noncomputable abbrev fcmp_ev_x0 (a : FactT) (b : FactT) : List Blk := [.var [int a.kind, int a.sub, int a.obj, int a.value, int a.frm, int a.til, int a.known, int a.no], .var [int b.kind, int b.sub, int b.obj, int b.value, int b.frm, int b.til, int b.known, int b.no]]
theorem fcmp_ev {a b : FactT} (h : List Blk) : (Ev Tryz.prog Γ0 121 [ag a.row, ag b.row] h (int (orI (cmpI a.known b.known) (cmpI a.no b.no))) h) := by
  have hl0 := (@or_cw (cmpI a.known b.known) (cmpI a.no b.no) ([.var [int a.kind, int a.sub, int a.obj, int a.value, int a.frm, int a.til, int a.known, int a.no], .var [int b.kind, int b.sub, int b.obj, int b.value, int b.frm, int b.til, int b.known, int b.no], .vec [[int (cmpI a.known b.known)], [int (cmpI a.no b.no)]] 0 1]) ([.var [int a.kind, int a.sub, int a.obj, int a.value, int a.frm, int a.til, int a.known, int a.no], .var [int b.kind, int b.sub, int b.obj, int b.value, int b.frm, int b.til, int b.known, int b.no], .gone]))
  unfold orFin at hl0
  revert hl0
  cases ho1 : cmpI a.known b.known != 0 with
  | false =>
    intro hl0
    revert hl0
    cases ho2 : cmpI a.no b.no != 0 with
    | false =>
      intro hl0
      exact Ev.castH (Ev.sym0 (d := int 0) pok [.val (int (cmpI a.known b.known)), .val (int (cmpI a.no b.no)), .inl, .st (.frz 2 (orR (cmpI a.known b.known) (cmpI a.no b.no))), .sum [2, 3, 6, 7, 8] (Exit.exit 0) { t := mkT 18 0 [(2, int 0), (3, int 0)], h := [.var [int a.kind, int a.sub, int a.obj, int a.value, int a.frm, int a.til, int a.known, int a.no], .var [int b.kind, int b.sub, int b.obj, int b.value, int b.frm, int b.til, int b.known, int b.no], .gone], m := [] }] (by kernel_rfl) (.c (@cmpI_ev (a.known) (b.known) ((fcmp_ev_x0 a b))) (.c (@cmpI_ev (a.no) (b.no) ((fcmp_ev_x0 a b))) (.c (show [[int (cmpI a.known b.known)], [int (cmpI a.no b.no)]] = [[int (cmpI a.known b.known)], [int (cmpI a.no b.no)]] from rfl) (.c hl0 (.e (.ref (.ptr 0 6)) (.e (int a.known) (.e (.ref (.ptr 1 6)) (.e (int b.known) (.e (.ref (.ptr 0 7)) (.e (.ref (.ptr 0 7)) (.e (int a.no) (.e (int a.no) (.e (.ref (.ptr 1 7)) (.e (.ref (.ptr 1 7)) (.e (int b.no) (.e (int b.no) .n)))))))))))))))) rfl rfl h) (by simp [orI, ho1, ho2]) (by rfl)
    | true =>
      intro hl0
      exact Ev.castH (Ev.sym0 (d := int (cmpI a.no b.no)) pok [.val (int (cmpI a.known b.known)), .val (int (cmpI a.no b.no)), .inl, .st (.frz 2 (orR (cmpI a.known b.known) (cmpI a.no b.no))), .sum [2, 3, 6, 7, 8] (Exit.ret) { t := mkT 18 0 [(2, int (cmpI a.no b.no))], h := [.var [int a.kind, int a.sub, int a.obj, int a.value, int a.frm, int a.til, int a.known, int a.no], .var [int b.kind, int b.sub, int b.obj, int b.value, int b.frm, int b.til, int b.known, int b.no], .gone], m := [] }] (by kernel_rfl) (.c (@cmpI_ev (a.known) (b.known) ((fcmp_ev_x0 a b))) (.c (@cmpI_ev (a.no) (b.no) ((fcmp_ev_x0 a b))) (.c (show [[int (cmpI a.known b.known)], [int (cmpI a.no b.no)]] = [[int (cmpI a.known b.known)], [int (cmpI a.no b.no)]] from rfl) (.c hl0 (.e (.ref (.ptr 0 6)) (.e (int a.known) (.e (.ref (.ptr 1 6)) (.e (int b.known) (.e (.ref (.ptr 0 7)) (.e (.ref (.ptr 0 7)) (.e (int a.no) (.e (int a.no) (.e (.ref (.ptr 1 7)) (.e (.ref (.ptr 1 7)) (.e (int b.no) (.e (int b.no) .n)))))))))))))))) rfl rfl h) (by simp [orI, ho1, ho2]) (by rfl)
  | true =>
    intro hl0
    exact Ev.castH (Ev.sym0 (d := int (cmpI a.known b.known)) pok [.val (int (cmpI a.known b.known)), .val (int (cmpI a.no b.no)), .inl, .st (.frz 2 (orR (cmpI a.known b.known) (cmpI a.no b.no))), .sum [2, 3, 6, 7, 8] (Exit.ret) { t := mkT 18 0 [(2, int (cmpI a.known b.known))], h := [.var [int a.kind, int a.sub, int a.obj, int a.value, int a.frm, int a.til, int a.known, int a.no], .var [int b.kind, int b.sub, int b.obj, int b.value, int b.frm, int b.til, int b.known, int b.no], .gone], m := [] }] (by kernel_rfl) (.c (@cmpI_ev (a.known) (b.known) ((fcmp_ev_x0 a b))) (.c (@cmpI_ev (a.no) (b.no) ((fcmp_ev_x0 a b))) (.c (show [[int (cmpI a.known b.known)], [int (cmpI a.no b.no)]] = [[int (cmpI a.known b.known)], [int (cmpI a.no b.no)]] from rfl) (.c hl0 (.e (.ref (.ptr 0 6)) (.e (int a.known) (.e (.ref (.ptr 1 6)) (.e (int b.known) (.e (.ref (.ptr 0 7)) (.e (.ref (.ptr 0 7)) (.e (int a.no) (.e (int a.no) (.e (.ref (.ptr 1 7)) (.e (.ref (.ptr 1 7)) (.e (int b.no) (.e (int b.no) .n)))))))))))))))) rfl rfl h) (by simp [orI, ho1]) (by rfl)
end Go.Vi
open Go Go.Proofs
namespace Go.Vi
set_option maxRecDepth 100000
set_option maxHeartbeats 4000000
abbrev fz : FactT := ⟨0, 0, 0, 0, 0, 0, 0, 0⟩
abbrev atT : List D := mkT 50 0 [(6, .ref (.ptr 1 0)), (10, .ref (.ptr 2 0)), (11, .ref (.ptr 3 0)), (16, .fn (.func 178) [] [.ref (.ptr 4 0), .ref (.ptr 5 0), .ref (.ptr 6 0)])]
noncomputable abbrev atL (st : LoopState) : Blk := .loop st none 0 atT #[17] (rfAsg (sub Tryz.f84 0)) (rfBody (sub Tryz.f84 0))
noncomputable abbrev atH (kk ks ko term known : Int) (fs : List (List Dp)) (best : FactT) (some : Bool) (st : LoopState) (more : List Blk) : List Blk :=
  [.var [int kk, int ks, int ko], .var [int term], .var (best.row.map .p), .var [bool some], .var [rowsD' fs], .var [int kk, int ks, int ko], .var [int known], .defd, atL st] ++ more
abbrev atU : List D := mkT 50 0 [(6, .ref (.ptr 1 0)), (10, .ref (.ptr 2 0)), (11, .ref (.ptr 3 0)), (12, .ref (.ptr 10 0))]
theorem at_asg {kk ks ko term known : Int} {fs : List (List Dp)} {best f : FactT} {some : Bool} : (CW Tryz.prog Γ0 (atH kk ks ko term known fs best some .ready [.var (f.row.map .p)]) true (rfAsg (sub Tryz.f84 0)) { t := setAll atT [(17, ag f.row)], h := atH kk ks ko term known fs best some .ready [.var (f.row.map .p)], m := [] } .normal { t := atU, h := atH kk ks ko term known fs best some .ready [.var (f.row.map .p), .var (f.row.map .p)], m := [] }) := by
  exact CW.cast (CW.symX (s' := { t := mkT 50 0 [(6, .ref (.ptr 1 0)), (10, .ref (.ptr 2 0)), (11, .ref (.ptr 3 0)), (12, .ref (.ptr 10 0))], h := [.var [int kk, int ks, int ko], .var [int term], .var [int best.kind, int best.sub, int best.obj, int best.value, int best.frm, int best.til, int best.known, int best.no], .var [bool some], .var [rowsD' fs], .var [int kk, int ks, int ko], .var [int known], .defd, .loop LoopState.ready none 0 (mkT 50 0 [(6, .ref (.ptr 1 0)), (10, .ref (.ptr 2 0)), (11, .ref (.ptr 3 0)), (16, D.fn (Fn.func 178) [] [.ref (.ptr 4 0), .ref (.ptr 5 0), .ref (.ptr 6 0)])]) { toList := [17] } (rfAsg (sub Tryz.f84 0)) (rfBody (sub Tryz.f84 0)), .var [int f.kind, int f.sub, int f.obj, int f.value, int f.frm, int f.til, int f.known, int f.no], .var [int f.kind, int f.sub, int f.obj, int f.value, int f.frm, int f.til, int f.known, int f.no]], m := [] }) (e := Exit.normal) pok [.st (.mask [6, 10, 11, 12])] [] (by kernel_rfl) .n) (by rfl) (by rfl)
def atHit (term : Int) (best : FactT) (some : Bool) (f : FactT) : Bool := decide (f.frm ≤ term) && decide (term < f.til) && (!some || decide (orI (cmpI f.known best.known) (cmpI f.no best.no) ≥ 0))
def atStep (term : Int) (best : FactT) (some : Bool) (f : FactT) : FactT × Bool := bif atHit term best some f then (f, true) else (best, some)
noncomputable abbrev at_body_x0 (kk : Int) (ks : Int) (ko : Int) (term : Int) (known : Int) (fs : List (List Dp)) (best : FactT) (f : FactT) (some : Bool) : List Blk := [.var [int kk, int ks, int ko], .var [int term], .var [int best.kind, int best.sub, int best.obj, int best.value, int best.frm, int best.til, int best.known, int best.no], .var [bool some], .var [rowsD' fs], .var [int kk, int ks, int ko], .var [int known], .defd, .loop LoopState.busy none 0 (mkT 50 0 [(6, .ref (.ptr 1 0)), (10, .ref (.ptr 2 0)), (11, .ref (.ptr 3 0)), (16, D.fn (Fn.func 178) [] [.ref (.ptr 4 0), .ref (.ptr 5 0), .ref (.ptr 6 0)])]) { toList := [17] } (rfAsg (sub Tryz.f84 0)) (rfBody (sub Tryz.f84 0)), .var [int f.kind, int f.sub, int f.obj, int f.value, int f.frm, int f.til, int f.known, int f.no], .var [int f.kind, int f.sub, int f.obj, int f.value, int f.frm, int f.til, int f.known, int f.no]]
theorem at_body {kk ks ko term known : Int} {fs : List (List Dp)} {best f : FactT} {some : Bool} : (CW Tryz.prog Γ0 (atH kk ks ko term known fs best some .ready [.var (f.row.map .p)]) true (rfBody (sub Tryz.f84 0)) { t := atU, h := atH kk ks ko term known fs best some .busy [.var (f.row.map .p), .var (f.row.map .p)], m := [] } .normal { t := mkT 50 0 [], h := atH kk ks ko term known fs (atStep term best some f).1 (atStep term best some f).2 .busy [.var (f.row.map .p), .var (f.row.map .p)], m := [] }) := by
  cases hc0 : decide (f.frm ≤ term) && decide (term < f.til) && (!some || decide (orI (cmpI f.known best.known) (cmpI f.no best.no) ≥ 0))
  · refine CW.cast (CW.symX (s' := { t := mkT 50 0 [], h := (at_body_x0 kk ks ko term known fs best f some), m := [] }) (e := Exit.normal) pok [.st (.mask [])] [.val (int (orI (cmpI f.known best.known) (cmpI f.no best.no))), .b false] (by kernel_rfl) (.c (show (decide (f.frm ≤ term) && decide (term < f.til) && !!some) = true → Ev Tryz.prog Γ0 121 [D.agg [int f.kind, int f.sub, int f.obj, int f.value, int f.frm, int f.til, int f.known, int f.no], D.agg [int best.kind, int best.sub, int best.obj, int best.value, int best.frm, int best.til, int best.known, int best.no]] (at_body_x0 kk ks ko term known fs best f some) (int (orI (cmpI f.known best.known) (cmpI f.no best.no))) (at_body_x0 kk ks ko term known fs best f some) from (fun hg => (@fcmp_ev (f) (best) ((at_body_x0 kk ks ko term known fs best f some))))) (.c hc0 .n))) ?_ ?_ <;> (first | rfl | (have hs : atHit term best some f = true := hc0; simp only [atStep, hs, cond_true]; rfl) | (have hs : atHit term best some f = false := hc0; simp only [atStep, hs, cond_false]; rfl))
  · refine CW.cast (CW.symX (s' := { t := mkT 50 0 [], h := [.var [int kk, int ks, int ko], .var [int term], .var [int f.kind, int f.sub, int f.obj, int f.value, int f.frm, int f.til, int f.known, int f.no], .var [bool true], .var [rowsD' fs], .var [int kk, int ks, int ko], .var [int known], .defd, .loop LoopState.busy none 0 (mkT 50 0 [(6, .ref (.ptr 1 0)), (10, .ref (.ptr 2 0)), (11, .ref (.ptr 3 0)), (16, D.fn (Fn.func 178) [] [.ref (.ptr 4 0), .ref (.ptr 5 0), .ref (.ptr 6 0)])]) { toList := [17] } (rfAsg (sub Tryz.f84 0)) (rfBody (sub Tryz.f84 0)), .var [int f.kind, int f.sub, int f.obj, int f.value, int f.frm, int f.til, int f.known, int f.no], .var [int f.kind, int f.sub, int f.obj, int f.value, int f.frm, int f.til, int f.known, int f.no]], m := [] }) (e := Exit.normal) pok [.st (.mask [])] [.val (int (orI (cmpI f.known best.known) (cmpI f.no best.no))), .b true] (by kernel_rfl) (.c (show (decide (f.frm ≤ term) && decide (term < f.til) && !!some) = true → Ev Tryz.prog Γ0 121 [D.agg [int f.kind, int f.sub, int f.obj, int f.value, int f.frm, int f.til, int f.known, int f.no], D.agg [int best.kind, int best.sub, int best.obj, int best.value, int best.frm, int best.til, int best.known, int best.no]] (at_body_x0 kk ks ko term known fs best f some) (int (orI (cmpI f.known best.known) (cmpI f.no best.no))) (at_body_x0 kk ks ko term known fs best f some) from (fun hg => (@fcmp_ev (f) (best) ((at_body_x0 kk ks ko term known fs best f some))))) (.c hc0 .n))) ?_ ?_ <;> (first | rfl | (have hs : atHit term best some f = true := hc0; simp only [atStep, hs, cond_true]; rfl) | (have hs : atHit term best some f = false := hc0; simp only [atStep, hs, cond_false]; rfl))
theorem atIv_ev {kk ks ko term known : Int} {fs : List (List Dp)} {best f : FactT} {some : Bool} : Iv Tryz.prog Γ0 (.ref (.yl 8)) [ag f.row] (atH kk ks ko term known fs best some .ready [.var (f.row.map .p)]) (bool true) (atH kk ks ko term known fs (atStep term best some f).1 (atStep term best some f).2 .ready [.var (f.row.map .p), .var (f.row.map .p)]) :=
  Iv.round (h1 := atH kk ks ko term known fs best some .ready [.var (f.row.map .p), .var (f.row.map .p)]) rfl rfl at_asg rfl at_body rfl
def keyIs (kk ks ko : Int) (f : FactT) : Bool := f.kind == kk && (f.sub == ks && (f.obj == ko && true))
def ofIs (kk ks ko known : Int) (f : FactT) : Bool := keyIs kk ks ko f && decide (f.known ≤ known)
def ofStep (kk ks ko term known : Int) (f : FactT) (s : FactT × Bool) : (FactT × Bool) ⊕ Empty := .inl (bif ofIs kk ks ko known f then atStep term s.1 s.2 f else s)
abbrev ofT (fs : List (List Dp)) (i : Int) : List D := mkT 30 0 [(0, .ref (.yl 8)), (1, .ref (.ptr 4 0)), (2, .ref (.ptr 5 0)), (3, .ref (.ptr 6 0)), (7, rowsD' fs), (8, int fs.length), (9, int i)]
theorem of_body {kk ks ko term known : Int} {fs : List (List Dp)} {best b0 f : FactT} {some s0 : Bool} {i : Nat} (hr : RowAt (i : Int) fs f.row 8) (hlt : decide ((i : Int) < (fs.length : Int)) = true) (hw : IntKind.i64.wrap ((i : Int) + 1) = ((i + 1 : Nat) : Int)) : (CW Tryz.prog Γ0 (atH kk ks ko term known fs b0 s0 .ready []) false (sub Tryz.f178 0) { t := ofT fs i, h := atH kk ks ko term known fs best some .ready [], m := [] } .normal { t := ofT fs ((i + 1 : Nat) : Int), h := atH kk ks ko term known fs (bif ofIs kk ks ko known f then atStep term best some f else (best, some)).1 (bif ofIs kk ks ko known f then atStep term best some f else (best, some)).2 .ready [], m := [] }) := by
  cases hc0 : f.kind == kk && (f.sub == ks && (f.obj == ko && true))
  · refine CW.cast (CW.symX (s' := { t := mkT 30 0 [(0, .ref (.yl 8)), (1, .ref (.ptr 4 0)), (2, .ref (.ptr 5 0)), (3, .ref (.ptr 6 0)), (7, rowsD' fs), (8, int (↑(List.length fs) : Int)), (9, int (IntKind.wrap IntKind.i64 ((↑i : Int) + 1)))], h := [.var [int kk, int ks, int ko], .var [int term], .var [int best.kind, int best.sub, int best.obj, int best.value, int best.frm, int best.til, int best.known, int best.no], .var [bool some], .var [rowsD' fs], .var [int kk, int ks, int ko], .var [int known], .defd, .loop LoopState.ready none 0 (mkT 50 0 [(6, .ref (.ptr 1 0)), (10, .ref (.ptr 2 0)), (11, .ref (.ptr 3 0)), (16, D.fn (Fn.func 178) [] [.ref (.ptr 4 0), .ref (.ptr 5 0), .ref (.ptr 6 0)])]) { toList := [17] } (rfAsg (sub Tryz.f84 0)) (rfBody (sub Tryz.f84 0))], m := [] }) (e := Exit.normal) pok [.st (.mask [0, 1, 2, 3, 7, 8, 9]), .st (.trim 9)] [.b true, .row [vi f.kind, vi f.sub, vi f.obj, vi f.value, vi f.frm, vi f.til, vi f.known, vi f.no], .g false, .g false, .g false, .g false, .ov 22 (bool false), .g false, .g false, .g false, .g false, .ov 28 (bool false), .b false] (by kernel_rfl) (.c hlt (.c hr (.c (show ((f.kind == kk && (f.sub == ks && (f.obj == ko && true))) == true) = false from (by rw [hc0]; rfl)) (.c (show ((f.kind == kk && (f.sub == ks && (f.obj == ko && true))) == true) = false from (by rw [hc0]; rfl)) (.c (show ((f.kind == kk && (f.sub == ks && (f.obj == ko && true))) == true) = false from (by rw [hc0]; rfl)) (.c (show ((f.kind == kk && (f.sub == ks && (f.obj == ko && true))) == true) = false from (by rw [hc0]; rfl)) (.c (show PickIs (bool (f.kind == kk && (f.sub == ks && (f.obj == ko && true)))) (D.p (Dp.v (Value.tuple { toList := [] }))) (bool false) (bool false) from (pickIs_f hc0 rfl)) (.c (show (false == true) = false from rfl) (.c (show (false == true) = false from rfl) (.c (show (false == true) = false from rfl) (.c (show (false == true) = false from rfl) (.c (show PickIs (bool false) (D.p (Dp.v (Value.tuple { toList := [] }))) (bool false) (bool false) from (pickIs_f rfl rfl)) (.c (show false = false from rfl) .n)))))))))))))) ?_ ?_ <;> (first | rfl | (simp only [hw, ofIs, keyIs, hc0, Bool.and_false, Bool.false_and, Bool.true_and, Bool.and_self, cond_true, cond_false]; rfl))
  · cases hc1 : decide (f.known ≤ known)
    · refine CW.cast (CW.symX (s' := { t := mkT 30 0 [(0, .ref (.yl 8)), (1, .ref (.ptr 4 0)), (2, .ref (.ptr 5 0)), (3, .ref (.ptr 6 0)), (7, rowsD' fs), (8, int (↑(List.length fs) : Int)), (9, int (IntKind.wrap IntKind.i64 ((↑i : Int) + 1)))], h := [.var [int kk, int ks, int ko], .var [int term], .var [int best.kind, int best.sub, int best.obj, int best.value, int best.frm, int best.til, int best.known, int best.no], .var [bool some], .var [rowsD' fs], .var [int kk, int ks, int ko], .var [int known], .defd, .loop LoopState.ready none 0 (mkT 50 0 [(6, .ref (.ptr 1 0)), (10, .ref (.ptr 2 0)), (11, .ref (.ptr 3 0)), (16, D.fn (Fn.func 178) [] [.ref (.ptr 4 0), .ref (.ptr 5 0), .ref (.ptr 6 0)])]) { toList := [17] } (rfAsg (sub Tryz.f84 0)) (rfBody (sub Tryz.f84 0))], m := [] }) (e := Exit.normal) pok [.st (.mask [0, 1, 2, 3, 7, 8, 9]), .st (.trim 9)] [.b true, .row [vi f.kind, vi f.sub, vi f.obj, vi f.value, vi f.frm, vi f.til, vi f.known, vi f.no], .g true, .g true, .g true, .g true, .ov 22 (bool (decide (f.known ≤ known))), .g false, .g false, .g false, .g false, .ov 28 (bool false), .b false] (by kernel_rfl) (.c hlt (.c hr (.c (show ((f.kind == kk && (f.sub == ks && (f.obj == ko && true))) == true) = true from (by rw [hc0]; rfl)) (.c (show ((f.kind == kk && (f.sub == ks && (f.obj == ko && true))) == true) = true from (by rw [hc0]; rfl)) (.c (show ((f.kind == kk && (f.sub == ks && (f.obj == ko && true))) == true) = true from (by rw [hc0]; rfl)) (.c (show ((f.kind == kk && (f.sub == ks && (f.obj == ko && true))) == true) = true from (by rw [hc0]; rfl)) (.c (show PickIs (bool (f.kind == kk && (f.sub == ks && (f.obj == ko && true)))) (bool (decide (f.known ≤ known))) (bool false) (bool (decide (f.known ≤ known))) from (pickIs_t hc0 rfl)) (.c (show (decide (f.known ≤ known) == true) = false from (by rw [hc1]; rfl)) (.c (show (decide (f.known ≤ known) == true) = false from (by rw [hc1]; rfl)) (.c (show (decide (f.known ≤ known) == true) = false from (by rw [hc1]; rfl)) (.c (show (decide (f.known ≤ known) == true) = false from (by rw [hc1]; rfl)) (.c (show PickIs (bool (decide (f.known ≤ known))) (D.p (Dp.v (Value.tuple { toList := [] }))) (bool false) (bool false) from (pickIs_f hc1 rfl)) (.c (show false = false from rfl) .n)))))))))))))) ?_ ?_ <;> (first | rfl | (simp only [hw, ofIs, keyIs, hc0, hc1, Bool.and_false, Bool.false_and, Bool.true_and, Bool.and_self, cond_true, cond_false]; rfl))
    · refine CW.cast (CW.symX (s' := { t := mkT 30 0 [(0, .ref (.yl 8)), (1, .ref (.ptr 4 0)), (2, .ref (.ptr 5 0)), (3, .ref (.ptr 6 0)), (7, rowsD' fs), (8, int (↑(List.length fs) : Int)), (9, int (IntKind.wrap IntKind.i64 ((↑i : Int) + 1)))], h := [.var [int kk, int ks, int ko], .var [int term], .var [int (atStep term best some f).fst.kind, int (atStep term best some f).fst.sub, int (atStep term best some f).fst.obj, int (atStep term best some f).fst.value, int (atStep term best some f).fst.frm, int (atStep term best some f).fst.til, int (atStep term best some f).fst.known, int (atStep term best some f).fst.no], .var [bool (atStep term best some f).snd], .var [rowsD' fs], .var [int kk, int ks, int ko], .var [int known], .defd, .loop LoopState.ready none 0 (mkT 50 0 [(6, .ref (.ptr 1 0)), (10, .ref (.ptr 2 0)), (11, .ref (.ptr 3 0)), (16, D.fn (Fn.func 178) [] [.ref (.ptr 4 0), .ref (.ptr 5 0), .ref (.ptr 6 0)])]) { toList := [17] } (rfAsg (sub Tryz.f84 0)) (rfBody (sub Tryz.f84 0))], m := [] }) (e := Exit.normal) pok [.st (.mask [0, 1, 2, 3, 7, 8, 9]), .st (.trim 9)] [.b true, .row [vi f.kind, vi f.sub, vi f.obj, vi f.value, vi f.frm, vi f.til, vi f.known, vi f.no], .g true, .g true, .g true, .g true, .ov 22 (bool (decide (f.known ≤ known))), .g true, .g true, .g true, .inv (bool true) [.var [int kk, int ks, int ko], .var [int term], .var [int (atStep term best some f).fst.kind, int (atStep term best some f).fst.sub, int (atStep term best some f).fst.obj, int (atStep term best some f).fst.value, int (atStep term best some f).fst.frm, int (atStep term best some f).fst.til, int (atStep term best some f).fst.known, int (atStep term best some f).fst.no], .var [bool (atStep term best some f).snd], .var [rowsD' fs], .var [int kk, int ks, int ko], .var [int known], .defd, .loop LoopState.ready none 0 (mkT 50 0 [(6, .ref (.ptr 1 0)), (10, .ref (.ptr 2 0)), (11, .ref (.ptr 3 0)), (16, D.fn (Fn.func 178) [] [.ref (.ptr 4 0), .ref (.ptr 5 0), .ref (.ptr 6 0)])]) { toList := [17] } (rfAsg (sub Tryz.f84 0)) (rfBody (sub Tryz.f84 0)), .var [int f.kind, int f.sub, int f.obj, int f.value, int f.frm, int f.til, int f.known, int f.no], .var [int f.kind, int f.sub, int f.obj, int f.value, int f.frm, int f.til, int f.known, int f.no]], .g true, .ov 28 (bool !true), .b false] (by kernel_rfl) (.c hlt (.c hr (.c (show ((f.kind == kk && (f.sub == ks && (f.obj == ko && true))) == true) = true from (by rw [hc0]; rfl)) (.c (show ((f.kind == kk && (f.sub == ks && (f.obj == ko && true))) == true) = true from (by rw [hc0]; rfl)) (.c (show ((f.kind == kk && (f.sub == ks && (f.obj == ko && true))) == true) = true from (by rw [hc0]; rfl)) (.c (show ((f.kind == kk && (f.sub == ks && (f.obj == ko && true))) == true) = true from (by rw [hc0]; rfl)) (.c (show PickIs (bool (f.kind == kk && (f.sub == ks && (f.obj == ko && true)))) (bool (decide (f.known ≤ known))) (bool false) (bool (decide (f.known ≤ known))) from (pickIs_t hc0 rfl)) (.c (show (decide (f.known ≤ known) == true) = true from (by rw [hc1]; rfl)) (.c (show (decide (f.known ≤ known) == true) = true from (by rw [hc1]; rfl)) (.c (show (decide (f.known ≤ known) == true) = true from (by rw [hc1]; rfl)) (.c (@atIv_ev (kk) (ks) (ko) (term) (known) (fs) (best) (f) (some)) (.c (show (decide (f.known ≤ known) == true) = true from (by rw [hc1]; rfl)) (.c (show PickIs (bool (decide (f.known ≤ known))) (bool !true) (bool false) (bool !true) from (pickIs_t hc1 rfl)) (.c (show (!true) = false from rfl) .n))))))))))))))) ?_ ?_ <;> (first | rfl | (simp only [hw, ofIs, keyIs, hc0, hc1, Bool.and_false, Bool.false_and, Bool.true_and, Bool.and_self, cond_true, cond_false]; rfl))
theorem of_last {kk ks ko term known : Int} {fs : List (List Dp)} {best b0 : FactT} {some s0 : Bool} {i : Nat} (hlt : decide ((i : Int) < (fs.length : Int)) = false) : (CW Tryz.prog Γ0 (atH kk ks ko term known fs b0 s0 .ready []) false (sub Tryz.f178 0) { t := ofT fs i, h := atH kk ks ko term known fs best some .ready [], m := [] } (.exit 0) { t := mkT 30 0 [], h := atH kk ks ko term known fs best some .ready [], m := [] }) := by
  exact CW.cast (CW.symX (s' := { t := mkT 30 0 [], h := [.var [int kk, int ks, int ko], .var [int term], .var [int best.kind, int best.sub, int best.obj, int best.value, int best.frm, int best.til, int best.known, int best.no], .var [bool some], .var [rowsD' fs], .var [int kk, int ks, int ko], .var [int known], .defd, .loop LoopState.ready none 0 (mkT 50 0 [(6, .ref (.ptr 1 0)), (10, .ref (.ptr 2 0)), (11, .ref (.ptr 3 0)), (16, D.fn (Fn.func 178) [] [.ref (.ptr 4 0), .ref (.ptr 5 0), .ref (.ptr 6 0)])]) { toList := [17] } (rfAsg (sub Tryz.f84 0)) (rfBody (sub Tryz.f84 0))], m := [] }) (e := Exit.exit 0) pok [.st (.mask [])] [.b false] (by kernel_rfl) (.c hlt .n)) (by rfl) (by rfl)
def ofGo (kk ks ko term known : Int) (s : FactT × Bool) (f : FactT) : FactT × Bool := bif ofIs kk ks ko known f then atStep term s.1 s.2 f else s
theorem forL_fold {α σ : Type} (g : σ → α → σ) : ∀ (l : List α) (s : σ), forL (fun a s => (.inl (g s a) : σ ⊕ Empty)) l s = .inl (l.foldl g s)
  | [], _ => rfl
  | a :: l, s => forL_fold g l (g s a)
theorem of_cw {kk ks ko term known : Int} {l : List FactT} (hl : Short l) {b0 : FactT} {s0 : Bool} :
    CW Tryz.prog Γ0 (atH kk ks ko term known (l.map FactT.row) b0 s0 .ready []) false (.loop (sub Tryz.f178 0)) { t := ofT (l.map FactT.row) 0, h := atH kk ks ko term known (l.map FactT.row) b0 s0 .ready [], m := [] } (.exit 0)
      { t := mkT 30 0 [], h := atH kk ks ko term known (l.map FactT.row) (l.foldl (ofGo kk ks ko term known) (b0, s0)).1 (l.foldl (ofGo kk ks ko term known) (b0, s0)).2 .ready [], m := [] } := by
  have := CW.each (P := Tryz.prog) (Γ := Γ0) (h0 := atH kk ks ko term known (l.map FactT.row) b0 s0 .ready []) (rd := false) (c := sub Tryz.f178 0) (σ := FactT × Bool) (ρ := Empty) l (fun f s => .inl (ofGo kk ks ko term known s f))
    (fun i s => { t := ofT (l.map FactT.row) (i : Int), h := atH kk ks ko term known (l.map FactT.row) s.1 s.2 .ready [], m := [] }) (.exit 0) (fun s => { t := mkT 30 0 [], h := atH kk ks ko term known (l.map FactT.row) s.1 s.2 .ready [], m := [] }) (fun r => r.elim)
    (fun _ _ => True) (by simp) (fun r => r.elim) ?_ ?_ (b0, s0) trivial
  · rw [forL_fold] at this
    exact this
  · intro i f s hf _
    have hi := (List.getElem?_eq_some_iff.1 hf).1
    exact ⟨fun _ _ => trivial, of_body (rowAt hf rfl) (lt_len _ hi) (wrap_succ hi hl)⟩
  · intro s _
    exact of_last (ge_len _ l)
theorem fiter_ev {kk ks ko term known : Int} {l : List FactT} (hl : Short l) {b0 : FactT} {s0 : Bool} : (Ev Tryz.prog Γ0 178 [.ref (.yl 8), .ref (.ptr 4 0), .ref (.ptr 5 0), .ref (.ptr 6 0)] (atH kk ks ko term known (l.map FactT.row) b0 s0 .ready []) (.tup []) (atH kk ks ko term known (l.map FactT.row) (l.foldl (ofGo kk ks ko term known) (b0, s0)).1 (l.foldl (ofGo kk ks ko term known) (b0, s0)).2 .ready [])) := by
  have hl0 := (@of_cw (kk) (ks) (ko) (term) (known) (l) (hl) (b0) (s0))
  exact Ev.castH (Ev.of_sym (h' := [.var [int kk, int ks, int ko], .var [int term], .var [int (List.foldl (ofGo kk ks ko term known) (b0, s0) l).fst.kind, int (List.foldl (ofGo kk ks ko term known) (b0, s0) l).fst.sub, int (List.foldl (ofGo kk ks ko term known) (b0, s0) l).fst.obj, int (List.foldl (ofGo kk ks ko term known) (b0, s0) l).fst.value, int (List.foldl (ofGo kk ks ko term known) (b0, s0) l).fst.frm, int (List.foldl (ofGo kk ks ko term known) (b0, s0) l).fst.til, int (List.foldl (ofGo kk ks ko term known) (b0, s0) l).fst.known, int (List.foldl (ofGo kk ks ko term known) (b0, s0) l).fst.no], .var [bool (List.foldl (ofGo kk ks ko term known) (b0, s0) l).snd], .var [rowsD' (List.map FactT.row l)], .var [int kk, int ks, int ko], .var [int known], .defd, .loop LoopState.ready none 0 (mkT 50 0 [(6, .ref (.ptr 1 0)), (10, .ref (.ptr 2 0)), (11, .ref (.ptr 3 0)), (16, D.fn (Fn.func 178) [] [.ref (.ptr 4 0), .ref (.ptr 5 0), .ref (.ptr 6 0)])]) { toList := [17] } (rfAsg (sub Tryz.f84 0)) (rfBody (sub Tryz.f84 0))]) (d := D.tup []) pok [.sum [0, 1, 2, 3, 7, 8, 9] (Exit.exit 0) { t := mkT 30 0 [], h := [.var [int kk, int ks, int ko], .var [int term], .var [int (List.foldl (ofGo kk ks ko term known) (b0, s0) l).fst.kind, int (List.foldl (ofGo kk ks ko term known) (b0, s0) l).fst.sub, int (List.foldl (ofGo kk ks ko term known) (b0, s0) l).fst.obj, int (List.foldl (ofGo kk ks ko term known) (b0, s0) l).fst.value, int (List.foldl (ofGo kk ks ko term known) (b0, s0) l).fst.frm, int (List.foldl (ofGo kk ks ko term known) (b0, s0) l).fst.til, int (List.foldl (ofGo kk ks ko term known) (b0, s0) l).fst.known, int (List.foldl (ofGo kk ks ko term known) (b0, s0) l).fst.no], .var [bool (List.foldl (ofGo kk ks ko term known) (b0, s0) l).snd], .var [rowsD' (List.map FactT.row l)], .var [int kk, int ks, int ko], .var [int known], .defd, .loop LoopState.ready none 0 (mkT 50 0 [(6, .ref (.ptr 1 0)), (10, .ref (.ptr 2 0)), (11, .ref (.ptr 3 0)), (16, D.fn (Fn.func 178) [] [.ref (.ptr 4 0), .ref (.ptr 5 0), .ref (.ptr 6 0)])]) { toList := [17] } (rfAsg (sub Tryz.f84 0)) (rfBody (sub Tryz.f84 0))], m := [] }] (by kernel_rfl) (.c hl0 .n)) (by rfl) (by rfl)
noncomputable abbrev atH0 (kk ks ko term known : Int) (fs : List (List Dp)) (best : FactT) (some : Bool) : List Blk :=
  [.var [int kk, int ks, int ko], .var [int term], .var (best.row.map .p), .var [bool some], .var [rowsD' fs], .var [int kk, int ks, int ko], .var [int known]]
theorem at_rf_cw {kk ks ko term known : Int} {l : List FactT} (hl : Short l) {b0 : FactT} {s0 : Bool} : CW Tryz.prog Γ0 [] false (sub Tryz.f84 0) { t := atT, h := atH0 kk ks ko term known (l.map FactT.row) b0 s0, m := [] } .normal
    { t := atT, h := atH kk ks ko term known (l.map FactT.row) (l.foldl (ofGo kk ks ko term known) (b0, s0)).1 (l.foldl (ofGo kk ks ko term known) (b0, s0)).2 .exhausted [], m := [7] } := by
  exact CW.rangeFunc (f := 178) (fi := []) (ca := [.ref (.ptr 4 0), .ref (.ptr 5 0), .ref (.ptr 6 0)]) pok (s := { t := atT, h := atH0 kk ks ko term known (l.map FactT.row) b0 s0, m := [] }) (g := .tmp 16) (ps := #[17]) (asg := rfAsg (sub Tryz.f84 0)) (body := rfBody (sub Tryz.f84 0)) rfl (by kernel_rfl) (fiter_ev hl) rfl
def atR (kk ks ko term known : Int) (l : List FactT) : Int × Bool :=
  let r := l.foldl (ofGo kk ks ko term known) (fz, false)
  bif !r.2 || decide (r.1.value < 0) then (0, false) else (r.1.value, true)
theorem at_ev {kk ks ko term known : Int} {l : List FactT} (hl : Short l) (h : List Blk) : (Ev Tryz.prog Γ0 84 [rowsD' (l.map FactT.row), .agg [int kk, int ks, int ko], int term, int known] h (.tup [int (atR kk ks ko term known l).1, bool (atR kk ks ko term known l).2]) h) := by
  have hl0 := (@at_rf_cw (kk) (ks) (ko) (term) (known) (l) (hl) ({ kind := 0, sub := 0, obj := 0, value := 0, frm := 0, til := 0, known := 0, no := 0 }) (false))
  cases hc1 : !(List.foldl (ofGo kk ks ko term known) ({ kind := 0, sub := 0, obj := 0, value := 0, frm := 0, til := 0, known := 0, no := 0 }, false) l).snd || decide ((List.foldl (ofGo kk ks ko term known) ({ kind := 0, sub := 0, obj := 0, value := 0, frm := 0, til := 0, known := 0, no := 0 }, false) l).fst.value < 0)
  · exact Ev.castH (Ev.sym0 (d := D.tup [int (List.foldl (ofGo kk ks ko term known) ({ kind := 0, sub := 0, obj := 0, value := 0, frm := 0, til := 0, known := 0, no := 0 }, false) l).fst.value, bool true]) pok [.inl, .sum [6, 10, 11, 16] (Exit.normal) { t := mkT 50 0 [(6, .ref (.ptr 1 0)), (10, .ref (.ptr 2 0)), (11, .ref (.ptr 3 0)), (16, D.fn (Fn.func 178) [] [.ref (.ptr 4 0), .ref (.ptr 5 0), .ref (.ptr 6 0)])], h := [.var [int kk, int ks, int ko], .var [int term], .var [int (List.foldl (ofGo kk ks ko term known) ({ kind := 0, sub := 0, obj := 0, value := 0, frm := 0, til := 0, known := 0, no := 0 }, false) l).fst.kind, int (List.foldl (ofGo kk ks ko term known) ({ kind := 0, sub := 0, obj := 0, value := 0, frm := 0, til := 0, known := 0, no := 0 }, false) l).fst.sub, int (List.foldl (ofGo kk ks ko term known) ({ kind := 0, sub := 0, obj := 0, value := 0, frm := 0, til := 0, known := 0, no := 0 }, false) l).fst.obj, int (List.foldl (ofGo kk ks ko term known) ({ kind := 0, sub := 0, obj := 0, value := 0, frm := 0, til := 0, known := 0, no := 0 }, false) l).fst.value, int (List.foldl (ofGo kk ks ko term known) ({ kind := 0, sub := 0, obj := 0, value := 0, frm := 0, til := 0, known := 0, no := 0 }, false) l).fst.frm, int (List.foldl (ofGo kk ks ko term known) ({ kind := 0, sub := 0, obj := 0, value := 0, frm := 0, til := 0, known := 0, no := 0 }, false) l).fst.til, int (List.foldl (ofGo kk ks ko term known) ({ kind := 0, sub := 0, obj := 0, value := 0, frm := 0, til := 0, known := 0, no := 0 }, false) l).fst.known, int (List.foldl (ofGo kk ks ko term known) ({ kind := 0, sub := 0, obj := 0, value := 0, frm := 0, til := 0, known := 0, no := 0 }, false) l).fst.no], .var [bool (List.foldl (ofGo kk ks ko term known) ({ kind := 0, sub := 0, obj := 0, value := 0, frm := 0, til := 0, known := 0, no := 0 }, false) l).snd], .var [rowsD' (List.map FactT.row l)], .var [int kk, int ks, int ko], .var [int known], .defd, .loop LoopState.exhausted none 0 (mkT 50 0 [(6, .ref (.ptr 1 0)), (10, .ref (.ptr 2 0)), (11, .ref (.ptr 3 0)), (16, D.fn (Fn.func 178) [] [.ref (.ptr 4 0), .ref (.ptr 5 0), .ref (.ptr 6 0)])]) { toList := [17] } (rfAsg (sub Tryz.f84 0)) (rfBody (sub Tryz.f84 0))], m := [7] }, .b false] (by kernel_rfl) (.c hl0 (.c hc1 .n)) rfl rfl h) (by simp only [atR, hc1, cond_true, cond_false]) (by rfl)
  · exact Ev.castH (Ev.sym0 (d := D.tup [int 0, bool false]) pok [.inl, .sum [6, 10, 11, 16] (Exit.normal) { t := mkT 50 0 [(6, .ref (.ptr 1 0)), (10, .ref (.ptr 2 0)), (11, .ref (.ptr 3 0)), (16, D.fn (Fn.func 178) [] [.ref (.ptr 4 0), .ref (.ptr 5 0), .ref (.ptr 6 0)])], h := [.var [int kk, int ks, int ko], .var [int term], .var [int (List.foldl (ofGo kk ks ko term known) ({ kind := 0, sub := 0, obj := 0, value := 0, frm := 0, til := 0, known := 0, no := 0 }, false) l).fst.kind, int (List.foldl (ofGo kk ks ko term known) ({ kind := 0, sub := 0, obj := 0, value := 0, frm := 0, til := 0, known := 0, no := 0 }, false) l).fst.sub, int (List.foldl (ofGo kk ks ko term known) ({ kind := 0, sub := 0, obj := 0, value := 0, frm := 0, til := 0, known := 0, no := 0 }, false) l).fst.obj, int (List.foldl (ofGo kk ks ko term known) ({ kind := 0, sub := 0, obj := 0, value := 0, frm := 0, til := 0, known := 0, no := 0 }, false) l).fst.value, int (List.foldl (ofGo kk ks ko term known) ({ kind := 0, sub := 0, obj := 0, value := 0, frm := 0, til := 0, known := 0, no := 0 }, false) l).fst.frm, int (List.foldl (ofGo kk ks ko term known) ({ kind := 0, sub := 0, obj := 0, value := 0, frm := 0, til := 0, known := 0, no := 0 }, false) l).fst.til, int (List.foldl (ofGo kk ks ko term known) ({ kind := 0, sub := 0, obj := 0, value := 0, frm := 0, til := 0, known := 0, no := 0 }, false) l).fst.known, int (List.foldl (ofGo kk ks ko term known) ({ kind := 0, sub := 0, obj := 0, value := 0, frm := 0, til := 0, known := 0, no := 0 }, false) l).fst.no], .var [bool (List.foldl (ofGo kk ks ko term known) ({ kind := 0, sub := 0, obj := 0, value := 0, frm := 0, til := 0, known := 0, no := 0 }, false) l).snd], .var [rowsD' (List.map FactT.row l)], .var [int kk, int ks, int ko], .var [int known], .defd, .loop LoopState.exhausted none 0 (mkT 50 0 [(6, .ref (.ptr 1 0)), (10, .ref (.ptr 2 0)), (11, .ref (.ptr 3 0)), (16, D.fn (Fn.func 178) [] [.ref (.ptr 4 0), .ref (.ptr 5 0), .ref (.ptr 6 0)])]) { toList := [17] } (rfAsg (sub Tryz.f84 0)) (rfBody (sub Tryz.f84 0))], m := [7] }, .b true] (by kernel_rfl) (.c hl0 (.c hc1 .n)) rfl rfl h) (by simp only [atR, hc1, cond_true, cond_false]) (by rfl)
end Go.Vi
open Go Go.Proofs
namespace Go.Vi
set_option maxRecDepth 100000
set_option maxHeartbeats 4000000
abbrev bestC (l : List FactT) : List (List D) := l.map fun f => f.row.map .p
abbrev boolC (l : List Bool) : List (List D) := l.map fun b => [bool b]
abbrev intC (l : List Int) : List (List D) := l.map fun n => [int n]
abbrev zInts : List D := (intC (List.replicate 1024 0)).flatten
abbrev vaT : List D := mkT 63 0 [(6, .ref (.ptr 1 0)), (7, .ref (.ptr 2 0)), (8, .ref (.ptr 3 0)), (15, .fn (.func 178) [] [.ref (.ptr 4 0), .ref (.ptr 5 0), .ref (.ptr 6 0)])]
noncomputable abbrev vaL (st : LoopState) : Blk := .loop st none 0 vaT #[16] (rfAsg (sub Tryz.f165 0)) (rfBody (sub Tryz.f165 0))
noncomputable abbrev vaH (kk ks ko known : Int) (fs : List (List Dp)) (rs : List D) (best : List FactT) (some : List Bool) (st : LoopState) (more : List Blk) : List Blk :=
  [.var [int kk, int ks, int ko], .var rs, .var (bestC best).flatten, .var (boolC some).flatten, .var [rowsD' fs], .var [int kk, int ks, int ko], .var [int known], .defd, vaL st] ++ more
abbrev vaU : List D := mkT 63 0 [(6, .ref (.ptr 1 0)), (7, .ref (.ptr 2 0)), (8, .ref (.ptr 3 0)), (9, .ref (.ptr 10 0))]
theorem va_asg {kk ks ko known : Int} {fs : List (List Dp)} {rs : List D} {best : List FactT} {some : List Bool} {f : FactT} : (CW Tryz.prog Γ0 (vaH kk ks ko known fs rs best some .ready [.var (f.row.map .p)]) true (rfAsg (sub Tryz.f165 0)) { t := setAll vaT [(16, ag f.row)], h := vaH kk ks ko known fs rs best some .ready [.var (f.row.map .p)], m := [] } .normal { t := vaU, h := vaH kk ks ko known fs rs best some .ready [.var (f.row.map .p), .var (f.row.map .p)], m := [] }) := by
  exact CW.cast (CW.symX (s' := { t := mkT 63 0 [(6, .ref (.ptr 1 0)), (7, .ref (.ptr 2 0)), (8, .ref (.ptr 3 0)), (9, .ref (.ptr 10 0))], h := [.var [int kk, int ks, int ko], .var rs, .var (List.flatten (bestC best)), .var (List.flatten (boolC some)), .var [rowsD' fs], .var [int kk, int ks, int ko], .var [int known], .defd, .loop LoopState.ready none 0 (mkT 63 0 [(6, .ref (.ptr 1 0)), (7, .ref (.ptr 2 0)), (8, .ref (.ptr 3 0)), (15, D.fn (Fn.func 178) [] [.ref (.ptr 4 0), .ref (.ptr 5 0), .ref (.ptr 6 0)])]) { toList := [16] } (rfAsg (sub Tryz.f165 0)) (rfBody (sub Tryz.f165 0)), .var [int f.kind, int f.sub, int f.obj, int f.value, int f.frm, int f.til, int f.known, int f.no], .var [int f.kind, int f.sub, int f.obj, int f.value, int f.frm, int f.til, int f.known, int f.no]], m := [] }) (e := Exit.normal) pok [.st (.mask [6, 7, 8, 9])] [] (by kernel_rfl) .n) (by rfl) (by rfl)
theorem va_some {h : List Blk} {off n : Nat} {l : List Bool} {b : Bool} (hb : h[3]? = some (.var (boolC l).flatten)) (hs : l[n]? = some b) (ho : off = n * 1) : loadD Tryz.prog h 4 (.ref (.ptr 3 off)) = some (bool b) := by
  subst ho
  exact load_arr1 (sz := 1) (j := 0) (row := [bool b]) (by kernel_rfl) (by kernel_rfl) hb (fun r hr => by obtain ⟨_, _, rfl⟩ := List.mem_map.1 hr; rfl) (by simp [hs]) rfl
theorem va_best {h : List Blk} {off n : Nat} {l : List FactT} {g : FactT} (hb : h[2]? = some (.var (bestC l).flatten)) (hs : l[n]? = some g) (ho : off = n * 8) : loadD Tryz.prog h 233 (.ref (.ptr 2 off)) = some (ag g.row) := by
  subst ho
  exact load_arr (sz := 8) (row := g.row.map .p) (by kernel_rfl) (by kernel_rfl) hb (by simp [FactT.row]) (by simp [hs])
theorem va_stB {h : List Blk} {off n : Nat} {l : List FactT} {f : FactT} (hb : h[2]? = some (.var (bestC l).flatten)) (hn : n < l.length) (ho : off = n * 8) : storeD Tryz.prog h 233 (.ref (.ptr 2 off)) (ag f.row) = some (h.set 2 (.var (bestC (l.set n f)).flatten)) := by
  subst ho
  rw [store_arr (sz := 8) (new := f.row.map .p) rfl (by kernel_rfl) rfl hb (by simp [FactT.row]) (by simpa using hn), bestC, bestC, List.map_set]
theorem va_stS {h : List Blk} {off n : Nat} {l : List Bool} {b : Bool} (hb : h[3]? = some (.var (boolC l).flatten)) (hn : n < l.length) (ho : off = n * 1) : storeD Tryz.prog h 4 (.ref (.ptr 3 off)) (bool b) = some (h.set 3 (.var (boolC (l.set n b)).flatten)) := by
  subst ho
  rw [store_arr (sz := 1) (new := [bool b]) rfl (by kernel_rfl) rfl hb (fun r hr => by obtain ⟨_, _, rfl⟩ := List.mem_map.1 hr; rfl) (by simpa using hn), boolC, boolC, List.map_set]
theorem lt_of_some {α : Type} {l : List α} {n : Nat} {a : α} (h : l[n]? = some a) : n < l.length := (List.getElem?_eq_some_iff.1 h).1
def vaHit (f g : FactT) (b : Bool) : Bool := !b || decide (orI (cmpI f.known g.known) (cmpI f.no g.no) ≥ 0)
noncomputable abbrev vaS (kk ks ko known : Int) (fs : List (List Dp)) (rs : List D) (best : List FactT) (some : List Bool) (f : FactT) (t : Int) : AS := { t := mkT 63 0 [(6, .ref (.ptr 1 0)), (7, .ref (.ptr 2 0)), (8, .ref (.ptr 3 0)), (9, .ref (.ptr 10 0)), (10, int t)], h := vaH kk ks ko known fs rs best some .busy [.var (f.row.map .p), .var (f.row.map .p)], m := [] }
noncomputable abbrev va_b_x0 (kk : Int) (ks : Int) (ko : Int) (known : Int) (fs : List (List Dp)) (rs : List D) (best : List FactT) (some : List Bool) (f : FactT) : List Blk := [.var [int kk, int ks, int ko], .var rs, .var (List.flatten (bestC best)), .var (List.flatten (boolC some)), .var [rowsD' fs], .var [int kk, int ks, int ko], .var [int known], .defd, .loop LoopState.busy none 0 (mkT 63 0 [(6, .ref (.ptr 1 0)), (7, .ref (.ptr 2 0)), (8, .ref (.ptr 3 0)), (15, D.fn (Fn.func 178) [] [.ref (.ptr 4 0), .ref (.ptr 5 0), .ref (.ptr 6 0)])]) { toList := [16] } (rfAsg (sub Tryz.f165 0)) (rfBody (sub Tryz.f165 0)), .var [int f.kind, int f.sub, int f.obj, int f.value, int f.frm, int f.til, int f.known, int f.no], .var [int f.kind, int f.sub, int f.obj, int f.value, int f.frm, int f.til, int f.known, int f.no]]
theorem va_b {kk ks ko known : Int} {fs : List (List Dp)} {rs : List D} {best b0 : List FactT} {some s0 : List Bool} {f g f0 : FactT} {n : Nat} {b : Bool} (hb : best[n]? = .some g) (hs : some[n]? = .some b) (hn : inR (n : Int) 1024 = true) (hlt : decide ((n : Int) < if false = true then if 1024 > f.til then 1024 else f.til else if 1024 < f.til then 1024 else f.til) = true) : (CW Tryz.prog Γ0 (vaH kk ks ko known fs rs b0 s0 .ready [.var (f0.row.map .p)]) true (sub Tryz.f165 1) (vaS kk ks ko known fs rs best some f (n : Int)) .normal (vaS kk ks ko known fs rs (bif vaHit f g b then best.set n f else best) (bif vaHit f g b then some.set n true else some) f (IntKind.i64.wrap ((n : Int) + 1)))) := by
  cases hc0 : !b || decide (orI (cmpI f.known g.known) (cmpI f.no g.no) ≥ 0)
  · refine CW.cast (CW.symX (s' := { t := mkT 63 0 [(6, .ref (.ptr 1 0)), (7, .ref (.ptr 2 0)), (8, .ref (.ptr 3 0)), (9, .ref (.ptr 10 0)), (10, int (IntKind.wrap IntKind.i64 ((↑n : Int) + 1)))], h := (va_b_x0 kk ks ko known fs rs best some f), m := [] }) (e := Exit.normal) pok [.st (.mask [6, 7, 8, 9, 10])] [.b true, .ov 31 (bool b), .ov 37 (ag (FactT.row g)), .val (int (orI (cmpI f.known g.known) (cmpI f.no g.no))), .b false] (by kernel_rfl) (.c hlt (.c hn (.c (show loadD Tryz.prog (va_b_x0 kk ks ko known fs rs best some f) 4 (.ref (.ptr 3 (0 + Int.toNat (↑n : Int) * 1))) = Option.some (bool b) from ?_) (.c (show (!!b) = true → inR (↑n : Int) 1024 = true from (fun hg => hn)) (.c (show (!!b) = true → loadD Tryz.prog (va_b_x0 kk ks ko known fs rs best some f) 233 (evalD Γ0 (List.map stripD (mkT 63 0 [(6, .ref (.ptr 1 0)), (7, .ref (.ptr 2 0)), (8, .ref (.ptr 3 0)), (9, .ref (.ptr 10 0)), (10, int (↑n : Int)), (21, int (↑n : Int)), (22, .ref (.ptr 10 4)), (23, .ref (.ptr 10 5)), (24, int f.til), (25, int (if false = true then if 1024 > f.til then 1024 else f.til else if 1024 < f.til then 1024 else f.til)), (26, bool (decide ((↑n : Int) < if false = true then if 1024 > f.til then 1024 else f.til else if 1024 < f.til then 1024 else f.til))), (29, int (↑n : Int)), (30, .ref (.ptr 3 (0 + Int.toNat (↑n : Int) * 1))), (31, bool b), (32, bool !b), (33, bool !b), (34, D.grd (!!b) (D.agg [int f.kind, int f.sub, int f.obj, int f.value, int f.frm, int f.til, int f.known, int f.no])), (35, D.grd (!!b) (int (↑n : Int))), (36, D.grd (!!b) (.ref (.ptr 2 (0 + Int.toNat (↑n : Int) * 8))))])) (Operand.tmp 36)) = Option.some (D.agg [int g.kind, int g.sub, int g.obj, int g.value, int g.frm, int g.til, int g.known, int g.no]) from (fun hg => ?_)) (.c (show (!!b) = true → Ev Tryz.prog Γ0 121 [D.agg [int f.kind, int f.sub, int f.obj, int f.value, int f.frm, int f.til, int f.known, int f.no], D.agg [int g.kind, int g.sub, int g.obj, int g.value, int g.frm, int g.til, int g.known, int g.no]] (va_b_x0 kk ks ko known fs rs best some f) (int (orI (cmpI f.known g.known) (cmpI f.no g.no))) (va_b_x0 kk ks ko known fs rs best some f) from (fun hg => (@fcmp_ev (f) (g) ((va_b_x0 kk ks ko known fs rs best some f))))) (.c hc0 .n)))))))) (by first | rfl | (have hh : vaHit f g b = true := hc0; simp only [hh, cond_true]; first | done | rfl) | (have hh : vaHit f g b = false := hc0; simp only [hh, cond_false]; first | done | rfl)) (by first | rfl | (have hh : vaHit f g b = true := hc0; simp only [hh, cond_true]; first | done | rfl) | (have hh : vaHit f g b = false := hc0; simp only [hh, cond_false]; first | done | rfl)) <;> (first | assumption | rfl | exact va_some rfl hs (by simp) | exact va_best rfl hb (by simp) | exact va_stB rfl (lt_of_some hb) (by simp) | exact va_stS rfl (lt_of_some hs) (by simp) | (simp_all; done))
  · refine CW.cast (CW.symX (s' := { t := mkT 63 0 [(6, .ref (.ptr 1 0)), (7, .ref (.ptr 2 0)), (8, .ref (.ptr 3 0)), (9, .ref (.ptr 10 0)), (10, int (IntKind.wrap IntKind.i64 ((↑n : Int) + 1)))], h := [.var [int kk, int ks, int ko], .var rs, .var (List.flatten (bestC (List.set best n f))), .var (List.flatten (boolC (List.set some n true))), .var [rowsD' fs], .var [int kk, int ks, int ko], .var [int known], .defd, .loop LoopState.busy none 0 (mkT 63 0 [(6, .ref (.ptr 1 0)), (7, .ref (.ptr 2 0)), (8, .ref (.ptr 3 0)), (15, D.fn (Fn.func 178) [] [.ref (.ptr 4 0), .ref (.ptr 5 0), .ref (.ptr 6 0)])]) { toList := [16] } (rfAsg (sub Tryz.f165 0)) (rfBody (sub Tryz.f165 0)), .var [int f.kind, int f.sub, int f.obj, int f.value, int f.frm, int f.til, int f.known, int f.no], .var [int f.kind, int f.sub, int f.obj, int f.value, int f.frm, int f.til, int f.known, int f.no]], m := [] }) (e := Exit.normal) pok [.st (.mask [6, 7, 8, 9, 10])] [.b true, .ov 31 (bool b), .ov 37 (ag (FactT.row g)), .val (int (orI (cmpI f.known g.known) (cmpI f.no g.no))), .b true, .oh 10044 D.any (vaH kk ks ko known fs rs (List.set best n f) some LoopState.busy [.var (List.map D.p (FactT.row f)), .var (List.map D.p (FactT.row f))]), .oh 10045 D.any (vaH kk ks ko known fs rs (List.set best n f) (List.set some n true) LoopState.busy [.var (List.map D.p (FactT.row f)), .var (List.map D.p (FactT.row f))])] (by kernel_rfl) (.c hlt (.c hn (.c (show loadD Tryz.prog (va_b_x0 kk ks ko known fs rs best some f) 4 (.ref (.ptr 3 (0 + Int.toNat (↑n : Int) * 1))) = Option.some (bool b) from ?_) (.c (show (!!b) = true → inR (↑n : Int) 1024 = true from (fun hg => hn)) (.c (show (!!b) = true → loadD Tryz.prog (va_b_x0 kk ks ko known fs rs best some f) 233 (evalD Γ0 (List.map stripD (mkT 63 0 [(6, .ref (.ptr 1 0)), (7, .ref (.ptr 2 0)), (8, .ref (.ptr 3 0)), (9, .ref (.ptr 10 0)), (10, int (↑n : Int)), (21, int (↑n : Int)), (22, .ref (.ptr 10 4)), (23, .ref (.ptr 10 5)), (24, int f.til), (25, int (if false = true then if 1024 > f.til then 1024 else f.til else if 1024 < f.til then 1024 else f.til)), (26, bool (decide ((↑n : Int) < if false = true then if 1024 > f.til then 1024 else f.til else if 1024 < f.til then 1024 else f.til))), (29, int (↑n : Int)), (30, .ref (.ptr 3 (0 + Int.toNat (↑n : Int) * 1))), (31, bool b), (32, bool !b), (33, bool !b), (34, D.grd (!!b) (D.agg [int f.kind, int f.sub, int f.obj, int f.value, int f.frm, int f.til, int f.known, int f.no])), (35, D.grd (!!b) (int (↑n : Int))), (36, D.grd (!!b) (.ref (.ptr 2 (0 + Int.toNat (↑n : Int) * 8))))])) (Operand.tmp 36)) = Option.some (D.agg [int g.kind, int g.sub, int g.obj, int g.value, int g.frm, int g.til, int g.known, int g.no]) from (fun hg => ?_)) (.c (show (!!b) = true → Ev Tryz.prog Γ0 121 [D.agg [int f.kind, int f.sub, int f.obj, int f.value, int f.frm, int f.til, int f.known, int f.no], D.agg [int g.kind, int g.sub, int g.obj, int g.value, int g.frm, int g.til, int g.known, int g.no]] (va_b_x0 kk ks ko known fs rs best some f) (int (orI (cmpI f.known g.known) (cmpI f.no g.no))) (va_b_x0 kk ks ko known fs rs best some f) from (fun hg => (@fcmp_ev (f) (g) ((va_b_x0 kk ks ko known fs rs best some f))))) (.c hc0 (.c hn (.c (show storeD Tryz.prog (va_b_x0 kk ks ko known fs rs best some f) 233 (.ref (.ptr 2 (0 + Int.toNat (↑n : Int) * 8))) (D.agg [int f.kind, int f.sub, int f.obj, int f.value, int f.frm, int f.til, int f.known, int f.no]) = Option.some [.var [int kk, int ks, int ko], .var rs, .var (List.flatten (bestC (List.set best n f))), .var (List.flatten (boolC some)), .var [rowsD' fs], .var [int kk, int ks, int ko], .var [int known], .defd, .loop LoopState.busy none 0 (mkT 63 0 [(6, .ref (.ptr 1 0)), (7, .ref (.ptr 2 0)), (8, .ref (.ptr 3 0)), (15, D.fn (Fn.func 178) [] [.ref (.ptr 4 0), .ref (.ptr 5 0), .ref (.ptr 6 0)])]) { toList := [16] } (rfAsg (sub Tryz.f165 0)) (rfBody (sub Tryz.f165 0)), .var [int f.kind, int f.sub, int f.obj, int f.value, int f.frm, int f.til, int f.known, int f.no], .var [int f.kind, int f.sub, int f.obj, int f.value, int f.frm, int f.til, int f.known, int f.no]] from ?_) (.c hn (.c (show storeD Tryz.prog [.var [int kk, int ks, int ko], .var rs, .var (List.flatten (bestC (List.set best n f))), .var (List.flatten (boolC some)), .var [rowsD' fs], .var [int kk, int ks, int ko], .var [int known], .defd, .loop LoopState.busy none 0 (mkT 63 0 [(6, .ref (.ptr 1 0)), (7, .ref (.ptr 2 0)), (8, .ref (.ptr 3 0)), (15, D.fn (Fn.func 178) [] [.ref (.ptr 4 0), .ref (.ptr 5 0), .ref (.ptr 6 0)])]) { toList := [16] } (rfAsg (sub Tryz.f165 0)) (rfBody (sub Tryz.f165 0)), .var [int f.kind, int f.sub, int f.obj, int f.value, int f.frm, int f.til, int f.known, int f.no], .var [int f.kind, int f.sub, int f.obj, int f.value, int f.frm, int f.til, int f.known, int f.no]] 4 (.ref (.ptr 3 (0 + Int.toNat (↑n : Int) * 1))) (evalD Γ0 (mkT 63 0 [(6, .ref (.ptr 1 0)), (7, .ref (.ptr 2 0)), (8, .ref (.ptr 3 0)), (9, .ref (.ptr 10 0)), (10, int (↑n : Int)), (21, int (↑n : Int)), (22, .ref (.ptr 10 4)), (23, .ref (.ptr 10 5)), (24, int f.til), (25, int (if false = true then if 1024 > f.til then 1024 else f.til else if 1024 < f.til then 1024 else f.til)), (26, bool (decide ((↑n : Int) < if false = true then if 1024 > f.til then 1024 else f.til else if 1024 < f.til then 1024 else f.til))), (29, int (↑n : Int)), (30, .ref (.ptr 3 (0 + Int.toNat (↑n : Int) * 1))), (31, bool b), (32, bool !b), (33, bool !b), (34, D.grd (!!b) (D.agg [int f.kind, int f.sub, int f.obj, int f.value, int f.frm, int f.til, int f.known, int f.no])), (35, D.grd (!!b) (int (↑n : Int))), (36, D.grd (!!b) (.ref (.ptr 2 (0 + Int.toNat (↑n : Int) * 8)))), (37, D.grd (!!b) (D.agg [int g.kind, int g.sub, int g.obj, int g.value, int g.frm, int g.til, int g.known, int g.no])), (38, D.grd (!!b) (int (orI (cmpI f.known g.known) (cmpI f.no g.no)))), (39, D.grd (!!b) (bool (decide (orI (cmpI f.known g.known) (cmpI f.no g.no) ≥ 0)))), (40, bool (!b || decide (orI (cmpI f.known g.known) (cmpI f.no g.no) ≥ 0))), (41, int (↑n : Int)), (42, int (↑n : Int)), (43, D.agg [int f.kind, int f.sub, int f.obj, int f.value, int f.frm, int f.til, int f.known, int f.no]), (44, .ref (.ptr 2 (0 + Int.toNat (↑n : Int) * 8))), (45, .ref (.ptr 3 (0 + Int.toNat (↑n : Int) * 1)))]) (Operand.const (Value.bool true))) = Option.some [.var [int kk, int ks, int ko], .var rs, .var (List.flatten (bestC (List.set best n f))), .var (List.flatten (boolC (List.set some n true))), .var [rowsD' fs], .var [int kk, int ks, int ko], .var [int known], .defd, .loop LoopState.busy none 0 (mkT 63 0 [(6, .ref (.ptr 1 0)), (7, .ref (.ptr 2 0)), (8, .ref (.ptr 3 0)), (15, D.fn (Fn.func 178) [] [.ref (.ptr 4 0), .ref (.ptr 5 0), .ref (.ptr 6 0)])]) { toList := [16] } (rfAsg (sub Tryz.f165 0)) (rfBody (sub Tryz.f165 0)), .var [int f.kind, int f.sub, int f.obj, int f.value, int f.frm, int f.til, int f.known, int f.no], .var [int f.kind, int f.sub, int f.obj, int f.value, int f.frm, int f.til, int f.known, int f.no]] from ?_) .n)))))))))))) (by first | rfl | (have hh : vaHit f g b = true := hc0; simp only [hh, cond_true]; first | done | rfl) | (have hh : vaHit f g b = false := hc0; simp only [hh, cond_false]; first | done | rfl)) (by first | rfl | (have hh : vaHit f g b = true := hc0; simp only [hh, cond_true]; first | done | rfl) | (have hh : vaHit f g b = false := hc0; simp only [hh, cond_false]; first | done | rfl)) <;> (first | assumption | rfl | exact va_some rfl hs (by simp) | exact va_best rfl hb (by simp) | exact va_stB rfl (lt_of_some hb) (by simp) | exact va_stS rfl (lt_of_some hs) (by simp) | (simp_all; done))
theorem va_l {kk ks ko known : Int} {fs : List (List Dp)} {rs : List D} {best b0 : List FactT} {some s0 : List Bool} {f f0 : FactT} {x : Int} (hlt : decide (x < if false = true then if 1024 > f.til then 1024 else f.til else if 1024 < f.til then 1024 else f.til) = false) : (CW Tryz.prog Γ0 (vaH kk ks ko known fs rs b0 s0 .ready [.var (f0.row.map .p)]) true (sub Tryz.f165 1) (vaS kk ks ko known fs rs best some f x) (.exit 2) { t := mkT 63 0 [], h := vaH kk ks ko known fs rs best some .busy [.var (f.row.map .p), .var (f.row.map .p)], m := [] }) := by
  exact CW.cast (CW.symX (s' := { t := mkT 63 0 [], h := [.var [int kk, int ks, int ko], .var rs, .var (List.flatten (bestC best)), .var (List.flatten (boolC some)), .var [rowsD' fs], .var [int kk, int ks, int ko], .var [int known], .defd, .loop LoopState.busy none 0 (mkT 63 0 [(6, .ref (.ptr 1 0)), (7, .ref (.ptr 2 0)), (8, .ref (.ptr 3 0)), (15, D.fn (Fn.func 178) [] [.ref (.ptr 4 0), .ref (.ptr 5 0), .ref (.ptr 6 0)])]) { toList := [16] } (rfAsg (sub Tryz.f165 0)) (rfBody (sub Tryz.f165 0)), .var [int f.kind, int f.sub, int f.obj, int f.value, int f.frm, int f.til, int f.known, int f.no], .var [int f.kind, int f.sub, int f.obj, int f.value, int f.frm, int f.til, int f.known, int f.no]], m := [] }) (e := Exit.exit 2) pok [.st (.mask [])] [.b false] (by kernel_rfl) (.c hlt .n)) (by rfl) (by rfl)
abbrev VS := List FactT × List Bool
def VS.ok (s : VS) : Prop := s.1.length = 1024 ∧ s.2.length = 1024
def vaHi (f : FactT) : Int := if f.til < 1024 then f.til else 1024
def vaStep (f : FactT) (s : VS) (n : Nat) : VS := bif vaHit f (s.1.getD n default) (s.2.getD n false) then (s.1.set n f, s.2.set n true) else s
def vaIn (f : FactT) (x : Int) (s : VS) : VS := (List.range' x.toNat (vaHi f - x).toNat).foldl (vaStep f) s
theorem vaStep_ok {f : FactT} {s : VS} (n : Nat) (h : s.ok) : (vaStep f s n).ok := by
  unfold vaStep
  cases vaHit f (s.1.getD n default) (s.2.getD n false)
  · exact h
  · exact ⟨by simpa using h.1, by simpa using h.2⟩
theorem vaHi_eq (f : FactT) : (if false = true then if 1024 > f.til then 1024 else f.til else if 1024 < f.til then 1024 else f.til) = vaHi f := by
  unfold vaHi; simp; split <;> split <;> omega
theorem va_cw {kk ks ko known : Int} {fs : List (List Dp)} {rs : List D} {best b0 : List FactT} {some s0 : List Bool} {f f0 : FactT} {x : Int} (hx : 0 ≤ x) (ho : VS.ok (best, some)) :
    CW Tryz.prog Γ0 (vaH kk ks ko known fs rs b0 s0 .ready [.var (f0.row.map .p)]) true (.loop (sub Tryz.f165 1)) (vaS kk ks ko known fs rs best some f x) (.exit 2) { t := mkT 63 0 [], h := vaH kk ks ko known fs rs (vaIn f x (best, some)).1 (vaIn f x (best, some)).2 .busy [.var (f.row.map .p), .var (f.row.map .p)], m := [] } := by
  have hx' : ((x.toNat : Nat) : Int) = x := by omega
  have hh : vaHi f ≤ 1024 := by unfold vaHi; split <;> omega
  have := CW.each (P := Tryz.prog) (Γ := Γ0) (h0 := vaH kk ks ko known fs rs b0 s0 .ready [.var (f0.row.map .p)]) (rd := true) (c := sub Tryz.f165 1) (σ := VS) (ρ := Empty) (List.range' x.toNat (vaHi f - x).toNat) (fun n s => .inl (vaStep f s n))
    (fun i s => vaS kk ks ko known fs rs s.1 s.2 f (x + (i : Int))) (.exit 2) (fun s => { t := mkT 63 0 [], h := vaH kk ks ko known fs rs s.1 s.2 .busy [.var (f.row.map .p), .var (f.row.map .p)], m := [] }) (fun r => r.elim)
    (fun _ s => s.ok) (by simp) (fun r => r.elim) ?_ ?_ (best, some) ho
  · rw [forL_fold (fun s n => vaStep f s n)] at this
    simpa [eachFin, vaIn] using this
  · intro i n s hn hs
    obtain ⟨hi, he⟩ := List.getElem?_eq_some_iff.1 hn
    simp only [List.length_range'] at hi
    simp only [List.getElem_range', Nat.one_mul] at he
    have hlt : (n : Int) < vaHi f := by omega
    have hb : s.1[n]? = .some (s.1.getD n default) := by
      rw [List.getD, List.getElem?_eq_getElem (by rw [hs.1]; omega)]; rfl
    have hc : s.2[n]? = .some (s.2.getD n false) := by
      rw [List.getD, List.getElem?_eq_getElem (by rw [hs.2]; omega)]; rfl
    refine ⟨fun s' h => by cases h; exact vaStep_ok n hs, ?_⟩
    have key := va_b (kk := kk) (ks := ks) (ko := ko) (known := known) (fs := fs) (rs := rs) (b0 := b0) (s0 := s0) (f := f) (f0 := f0) hb hc (by simp [inR]; omega) (by rw [vaHi_eq]; simpa using hlt)
    rw [wrap_i64 (by omega) (by omega)] at key
    have e1 : x + (i : Int) = (n : Int) := by omega
    have e2 : x + ((i + 1 : Nat) : Int) = (n : Int) + 1 := by omega
    simp only [bodyFin, e1, e2]
    unfold vaStep
    cases hq : vaHit f (s.1.getD n default) (s.2.getD n false) <;> rw [hq] at key <;> exact key
  · intro s _
    refine va_l ?_
    rw [vaHi_eq]
    simp
    omega
theorem va_body {kk ks ko known : Int} {fs : List (List Dp)} {rs : List D} {best : List FactT} {some : List Bool} (ho : VS.ok (best, some)) {f : FactT} : (CW Tryz.prog Γ0 (vaH kk ks ko known fs rs best some .ready [.var (f.row.map .p)]) true (rfBody (sub Tryz.f165 0)) { t := vaU, h := vaH kk ks ko known fs rs best some .busy [.var (f.row.map .p), .var (f.row.map .p)], m := [] } .normal { t := mkT 63 0 [], h := vaH kk ks ko known fs rs (vaIn f (if true = true then if f.frm > 0 then f.frm else 0 else if f.frm < 0 then f.frm else 0) (best, some)).1 (vaIn f (if true = true then if f.frm > 0 then f.frm else 0 else if f.frm < 0 then f.frm else 0) (best, some)).2 .busy [.var (f.row.map .p), .var (f.row.map .p)], m := [] }) := by
  have hl0 := (@va_cw (kk) (ks) (ko) (known) (fs) (rs) (best) (best) (some) (some) (f) (f) (if true = true then if f.frm > 0 then f.frm else 0 else if f.frm < 0 then f.frm else 0) (by first | assumption | (simp; split <;> omega) | (simp; done)) (ho))
  exact CW.cast (CW.symX (s' := { t := mkT 63 0 [], h := [.var [int kk, int ks, int ko], .var rs, .var (List.flatten (bestC (vaIn f (if true = true then if f.frm > 0 then f.frm else 0 else if f.frm < 0 then f.frm else 0) (best, some)).fst)), .var (List.flatten (boolC (vaIn f (if true = true then if f.frm > 0 then f.frm else 0 else if f.frm < 0 then f.frm else 0) (best, some)).snd)), .var [rowsD' fs], .var [int kk, int ks, int ko], .var [int known], .defd, .loop LoopState.busy none 0 (mkT 63 0 [(6, .ref (.ptr 1 0)), (7, .ref (.ptr 2 0)), (8, .ref (.ptr 3 0)), (15, D.fn (Fn.func 178) [] [.ref (.ptr 4 0), .ref (.ptr 5 0), .ref (.ptr 6 0)])]) { toList := [16] } (rfAsg (sub Tryz.f165 0)) (rfBody (sub Tryz.f165 0)), .var [int f.kind, int f.sub, int f.obj, int f.value, int f.frm, int f.til, int f.known, int f.no], .var [int f.kind, int f.sub, int f.obj, int f.value, int f.frm, int f.til, int f.known, int f.no]], m := [] }) (e := Exit.normal) pok [.st (.mask [])] [.sum [6, 7, 8, 9, 10] (Exit.exit 2) { t := mkT 63 0 [], h := [.var [int kk, int ks, int ko], .var rs, .var (List.flatten (bestC (vaIn f (if true = true then if f.frm > 0 then f.frm else 0 else if f.frm < 0 then f.frm else 0) (best, some)).fst)), .var (List.flatten (boolC (vaIn f (if true = true then if f.frm > 0 then f.frm else 0 else if f.frm < 0 then f.frm else 0) (best, some)).snd)), .var [rowsD' fs], .var [int kk, int ks, int ko], .var [int known], .defd, .loop LoopState.busy none 0 (mkT 63 0 [(6, .ref (.ptr 1 0)), (7, .ref (.ptr 2 0)), (8, .ref (.ptr 3 0)), (15, D.fn (Fn.func 178) [] [.ref (.ptr 4 0), .ref (.ptr 5 0), .ref (.ptr 6 0)])]) { toList := [16] } (rfAsg (sub Tryz.f165 0)) (rfBody (sub Tryz.f165 0)), .var [int f.kind, int f.sub, int f.obj, int f.value, int f.frm, int f.til, int f.known, int f.no], .var [int f.kind, int f.sub, int f.obj, int f.value, int f.frm, int f.til, int f.known, int f.no]], m := [] }] (by kernel_rfl) (.c hl0 .n)) (by rfl) (by rfl)
end Go.Vi
