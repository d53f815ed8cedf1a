/- QuestionsCheckSpec: part of the proof: contracts of the functions that the law reaches, and the law. No conditions beyond the given statement's own. -/
import Derived.Test.YtafcgfmoekjanaaGreatDoorV8
import Derived.Test.YtafcgfmoekjanaaGreatDoorChecked
open Go Go.Proofs
namespace Go.Vi
theorem pok_of {P : Program} (h1 : P.follows .mixedOrders = true) (h2 : (P.funcs.toList.all fun fn => !(fn.name == "runtime.NumGoroutine")) = true) : POk P where
  mixed := h1
  plain f fn hf := by
    have := List.all_eq_true.1 h2 fn (by rw [← Array.getElem?_toList] at hf; exact List.mem_of_getElem? hf)
    simpa using this
abbrev int (n : Int) : D := lit (.int .i64 n)
abbrev u64 (n : Int) : D := lit (.int .u64 n)
abbrev bool (b : Bool) : D := lit (.bool b)
abbrev vi (n : Int) : Dp := .v (.int .i64 n)
abbrev vs (s : ByteArray) : Dp := .v (.string s)
abbrev strD (s : ByteArray) : D := lit (.string s)
abbrev rowsD' (es : List (List Dp)) : D := .p (.sl es)
abbrev ag (r : List Dp) : D := .agg (r.map .p)
abbrev fq (k : Nat) : D := lit (.func (.func k) #[] #[])
abbrev nq : D := lit (.slice none 0 0)
abbrev Γ0 : Glob := fun _ => none
theorem pok : POk Tryz.prog := pok_of (by kernel_rfl) (by kernel_rfl)
end Go.Vi
open Go Go.Proofs
namespace Go.Vi
set_option maxRecDepth 100000
def I64 (n : Int) : Prop := -9223372036854775808 ≤ n ∧ n ≤ 9223372036854775807
def Short {α : Type} (l : List α) : Prop := l.length ≤ 140737488355328
theorem getD_row {α : Type} {row : α → List Dp} {l : List α} {n : Nat} {a : α} (h : l[n]? = some a) : (l.map row).getD n [] = row a := by
  simp [List.getD_eq_getElem?_getD, h]
theorem rowAt {α : Type} {row : α → List Dp} {l : List α} {n : Nat} {a : α} {sz : Nat} (h : l[n]? = some a) (hs : (row a).length = sz) : RowAt (n : Int) (l.map row) (row a) sz := by
  have := (List.getElem?_eq_some_iff.1 h).1
  refine ⟨?_, getD_row h, hs⟩
  simp [inR]
  omega
theorem inR_nat {α : Type} {row : α → List Dp} {l : List α} {n : Nat} {a : α} (h : l[n]? = some a) : inR (n : Int) (l.map row).length = true := by
  have := (List.getElem?_eq_some_iff.1 h).1
  simp [inR]
  omega
theorem wrap_pred {n : Nat} (h : (n : Int) ≤ 9223372036854775806) : IntKind.i64.wrap ((n : Int) + 1 - 1) = n := by
  rw [wrap_i64 (by omega) (by omega)]; omega
def fnv (k : Nat) : D := lit (.func (.func k) #[] #[])
theorem isNaN_ev (a : Int) (h : List Blk) : Ev Tryz.prog Γ0 23 [int a] h (bool false) h := by
  have := Ev.sym0 (P := Tryz.prog) (Γ := Γ0) (f := 23) (args := [int a]) (d := bool (a != a)) pok (φ := []) [] (by kernel_rfl) trivial rfl rfl h
  simpa using this
def cmpI (a b : Int) : Int := if a < b then -1 else if a > b then 1 else 0
theorem cmpI_ev (a b : Int) (h : List Blk) : Ev Tryz.prog Γ0 16 [int a, int b] h (int (cmpI a b)) h := by
  by_cases h1 : a < b
  · simp only [cmpI, h1, if_true]
    exact Ev.sym0 pok (φ := [Ev Tryz.prog Γ0 23 [int a] [] (bool false) [], Ev Tryz.prog Γ0 23 [int b] [] (bool false) [], false = false, false = false, decide (a < b) = true])
      [.val (bool false), .val (bool false), .b false, .b false, .b true] (by kernel_rfl) ⟨isNaN_ev _ _, isNaN_ev _ _, rfl, rfl, decide_eq_true h1, trivial⟩ rfl rfl h
  · by_cases h2 : a > b
    · simp only [cmpI, h1, h2, if_true, if_false]
      exact Ev.sym0 pok (φ := [Ev Tryz.prog Γ0 23 [int a] [] (bool false) [], Ev Tryz.prog Γ0 23 [int b] [] (bool false) [], false = false, false = false, decide (a < b) = false, decide (a > b) = true])
        [.val (bool false), .val (bool false), .b false, .b false, .b false, .b true] (by kernel_rfl) ⟨isNaN_ev _ _, isNaN_ev _ _, rfl, rfl, decide_eq_false h1, decide_eq_true h2, trivial⟩ rfl rfl h
    · simp only [cmpI, h1, h2, if_false]
      exact Ev.sym0 pok (φ := [Ev Tryz.prog Γ0 23 [int a] [] (bool false) [], Ev Tryz.prog Γ0 23 [int b] [] (bool false) [], false = false, false = false, decide (a < b) = false, decide (a > b) = false])
        [.val (bool false), .val (bool false), .b false, .b false, .b false, .b false] (by kernel_rfl) ⟨isNaN_ev _ _, isNaN_ev _ _, rfl, rfl, decide_eq_false h1, decide_eq_false h2, trivial⟩ rfl rfl h
theorem drop_at {α : Type} {l : List α} {i : Nat} {a : α} (h : l[i]? = some a) : l.drop i = a :: l.drop (i + 1) := by
  obtain ⟨h1, h2⟩ := List.getElem?_eq_some_iff.1 h
  rw [List.drop_eq_getElem_cons h1, h2]
theorem wrap_succ {i n : Nat} (h : i < n) (hn : n ≤ 140737488355328) : IntKind.i64.wrap ((i : Int) + 1) = ((i + 1 : Nat) : Int) := by
  rw [wrap_i64 (by omega) (by omega)]; omega
theorem lt_len {α : Type} (row : α → List Dp) {l : List α} {i : Nat} (h : i < l.length) : decide ((i : Int) < ((l.map row).length : Int)) = true := by simp; omega
theorem ge_len {α : Type} (row : α → List Dp) (l : List α) : decide ((l.length : Int) < ((l.map row).length : Int)) = false := by simp
end Go.Vi
open Go Go.Proofs
namespace Go.Vi
set_option maxRecDepth 100000
set_option maxHeartbeats 4000000
structure QuT where
  kind : Int
  st : Int
  obj : Int
  term : Int
def QuT.row (q : QuT) : List Dp := [vi q.kind, vi q.st, vi q.obj, vi q.term]
def orQ (a b : Int) : Int := bif a != 0 then a else b
def cmpQ (a b : QuT) : Int := orQ (cmpI a.kind b.kind) (orQ (cmpI a.st b.st) (orQ (cmpI a.obj b.obj) (cmpI a.term b.term)))
abbrev qcH (a b : QuT) : List Blk := [.var (a.row.map .p), .var (b.row.map .p), .var [int a.kind, int a.st, int a.obj, int a.term], .var [int b.kind, int b.st, int b.obj, int b.term]]
abbrev qcS (a b : QuT) (i : Int) : AS := { t := mkT 41 0 [(4, int 0), (5, .ref (.ptr 2 0)), (6, .ref (.ptr 3 0)), (27, int i)], h := qcH a b, m := [] }
abbrev qcX (n : Int) : AS := { t := mkT 41 0 [(4, int n)], h := [], m := [] }
noncomputable abbrev qc_0_x0 (a : QuT) (b : QuT) : List Blk := [.var [int a.kind, int a.st, int a.obj, int a.term], .var [int b.kind, int b.st, int b.obj, int b.term], .var [int a.kind, int a.st, int a.obj, int a.term], .var [int b.kind, int b.st, int b.obj, int b.term]]
theorem qc_0 {a b : QuT} (hz : (cmpI a.kind b.kind != 0) = false) : (CW Tryz.prog Γ0 [] false (sub Tryz.f9 0) (qcS a b 0) .normal (qcS a b 1)) := by
  exact CW.cast (CW.symX (s' := { t := mkT 41 0 [(4, int 0), (5, .ref (.ptr 2 0)), (6, .ref (.ptr 3 0)), (27, int (IntKind.wrap IntKind.i64 (0 + 1)))], h := (qc_0_x0 a b), m := [] }) (e := Exit.normal) pok [.st (.mask [4, 5, 6, 27])] [.b true, .val (int (cmpI a.kind b.kind)), .b false] (by kernel_rfl) (.c (show decide (0 < 4) = true from rfl) (.c (show inR 0 4 = true from rfl) (.c (show inR 0 4 = true from rfl) (.c (@cmpI_ev (a.kind) (b.kind) ((qc_0_x0 a b))) (.c hz .n)))))) (by rfl) (by rfl)
noncomputable abbrev qc_1_x0 (a : QuT) (b : QuT) : List Blk := [.var [int a.kind, int a.st, int a.obj, int a.term], .var [int b.kind, int b.st, int b.obj, int b.term], .var [int a.kind, int a.st, int a.obj, int a.term], .var [int b.kind, int b.st, int b.obj, int b.term]]
theorem qc_1 {a b : QuT} (hz : (cmpI a.st b.st != 0) = false) : (CW Tryz.prog Γ0 [] false (sub Tryz.f9 0) (qcS a b 1) .normal (qcS a b 2)) := by
  exact CW.cast (CW.symX (s' := { t := mkT 41 0 [(4, int 0), (5, .ref (.ptr 2 0)), (6, .ref (.ptr 3 0)), (27, int (IntKind.wrap IntKind.i64 (1 + 1)))], h := (qc_1_x0 a b), m := [] }) (e := Exit.normal) pok [.st (.mask [4, 5, 6, 27])] [.b true, .val (int (cmpI a.st b.st)), .b false] (by kernel_rfl) (.c (show decide (1 < 4) = true from rfl) (.c (show inR 1 4 = true from rfl) (.c (show inR 1 4 = true from rfl) (.c (@cmpI_ev (a.st) (b.st) ((qc_1_x0 a b))) (.c hz .n)))))) (by rfl) (by rfl)
noncomputable abbrev qc_2_x0 (a : QuT) (b : QuT) : List Blk := [.var [int a.kind, int a.st, int a.obj, int a.term], .var [int b.kind, int b.st, int b.obj, int b.term], .var [int a.kind, int a.st, int a.obj, int a.term], .var [int b.kind, int b.st, int b.obj, int b.term]]
theorem qc_2 {a b : QuT} (hz : (cmpI a.obj b.obj != 0) = false) : (CW Tryz.prog Γ0 [] false (sub Tryz.f9 0) (qcS a b 2) .normal (qcS a b 3)) := by
  exact CW.cast (CW.symX (s' := { t := mkT 41 0 [(4, int 0), (5, .ref (.ptr 2 0)), (6, .ref (.ptr 3 0)), (27, int (IntKind.wrap IntKind.i64 (2 + 1)))], h := (qc_2_x0 a b), m := [] }) (e := Exit.normal) pok [.st (.mask [4, 5, 6, 27])] [.b true, .val (int (cmpI a.obj b.obj)), .b false] (by kernel_rfl) (.c (show decide (2 < 4) = true from rfl) (.c (show inR 2 4 = true from rfl) (.c (show inR 2 4 = true from rfl) (.c (@cmpI_ev (a.obj) (b.obj) ((qc_2_x0 a b))) (.c hz .n)))))) (by rfl) (by rfl)
noncomputable abbrev qc_3_x0 (a : QuT) (b : QuT) : List Blk := [.var [int a.kind, int a.st, int a.obj, int a.term], .var [int b.kind, int b.st, int b.obj, int b.term], .var [int a.kind, int a.st, int a.obj, int a.term], .var [int b.kind, int b.st, int b.obj, int b.term]]
theorem qc_3 {a b : QuT} (hz : (cmpI a.term b.term != 0) = false) : (CW Tryz.prog Γ0 [] false (sub Tryz.f9 0) (qcS a b 3) .normal (qcS a b 4)) := by
  exact CW.cast (CW.symX (s' := { t := mkT 41 0 [(4, int 0), (5, .ref (.ptr 2 0)), (6, .ref (.ptr 3 0)), (27, int (IntKind.wrap IntKind.i64 (3 + 1)))], h := (qc_3_x0 a b), m := [] }) (e := Exit.normal) pok [.st (.mask [4, 5, 6, 27])] [.b true, .val (int (cmpI a.term b.term)), .b false] (by kernel_rfl) (.c (show decide (3 < 4) = true from rfl) (.c (show inR 3 4 = true from rfl) (.c (show inR 3 4 = true from rfl) (.c (@cmpI_ev (a.term) (b.term) ((qc_3_x0 a b))) (.c hz .n)))))) (by rfl) (by rfl)
theorem qc_4 {a b : QuT} : (CW Tryz.prog Γ0 [] false (sub Tryz.f9 0) (qcS a b 4) (.exit 0) (qcX 0)) := by
  exact CW.cast (CW.symX (s' := { t := mkT 41 0 [(4, int 0)], h := [], m := [] }) (e := Exit.exit 0) pok [.st (.mask [4]), .st (.trim 0)] [.b false] (by kernel_rfl) (.c (show decide (4 < 4) = false from rfl) .n)) (by rfl) (by rfl)
noncomputable abbrev qc_0r_x0 (a : QuT) (b : QuT) : List Blk := [.var [int a.kind, int a.st, int a.obj, int a.term], .var [int b.kind, int b.st, int b.obj, int b.term], .var [int a.kind, int a.st, int a.obj, int a.term], .var [int b.kind, int b.st, int b.obj, int b.term]]
theorem qc_0r {a b : QuT} (hz : (cmpI a.kind b.kind != 0) = true) : (CW Tryz.prog Γ0 [] false (sub Tryz.f9 0) (qcS a b 0) .ret (qcX (cmpI a.kind b.kind))) := by
  exact CW.cast (CW.symX (s' := { t := mkT 41 0 [(4, int (cmpI a.kind b.kind))], h := [], m := [] }) (e := Exit.ret) pok [.st (.mask [4]), .st (.trim 0)] [.b true, .val (int (cmpI a.kind b.kind)), .b true] (by kernel_rfl) (.c (show decide (0 < 4) = true from rfl) (.c (show inR 0 4 = true from rfl) (.c (show inR 0 4 = true from rfl) (.c (@cmpI_ev (a.kind) (b.kind) ((qc_0r_x0 a b))) (.c hz .n)))))) (by rfl) (by rfl)
noncomputable abbrev qc_1r_x0 (a : QuT) (b : QuT) : List Blk := [.var [int a.kind, int a.st, int a.obj, int a.term], .var [int b.kind, int b.st, int b.obj, int b.term], .var [int a.kind, int a.st, int a.obj, int a.term], .var [int b.kind, int b.st, int b.obj, int b.term]]
theorem qc_1r {a b : QuT} (hz : (cmpI a.st b.st != 0) = true) : (CW Tryz.prog Γ0 [] false (sub Tryz.f9 0) (qcS a b 1) .ret (qcX (cmpI a.st b.st))) := by
  exact CW.cast (CW.symX (s' := { t := mkT 41 0 [(4, int (cmpI a.st b.st))], h := [], m := [] }) (e := Exit.ret) pok [.st (.mask [4]), .st (.trim 0)] [.b true, .val (int (cmpI a.st b.st)), .b true] (by kernel_rfl) (.c (show decide (1 < 4) = true from rfl) (.c (show inR 1 4 = true from rfl) (.c (show inR 1 4 = true from rfl) (.c (@cmpI_ev (a.st) (b.st) ((qc_1r_x0 a b))) (.c hz .n)))))) (by rfl) (by rfl)
noncomputable abbrev qc_2r_x0 (a : QuT) (b : QuT) : List Blk := [.var [int a.kind, int a.st, int a.obj, int a.term], .var [int b.kind, int b.st, int b.obj, int b.term], .var [int a.kind, int a.st, int a.obj, int a.term], .var [int b.kind, int b.st, int b.obj, int b.term]]
theorem qc_2r {a b : QuT} (hz : (cmpI a.obj b.obj != 0) = true) : (CW Tryz.prog Γ0 [] false (sub Tryz.f9 0) (qcS a b 2) .ret (qcX (cmpI a.obj b.obj))) := by
  exact CW.cast (CW.symX (s' := { t := mkT 41 0 [(4, int (cmpI a.obj b.obj))], h := [], m := [] }) (e := Exit.ret) pok [.st (.mask [4]), .st (.trim 0)] [.b true, .val (int (cmpI a.obj b.obj)), .b true] (by kernel_rfl) (.c (show decide (2 < 4) = true from rfl) (.c (show inR 2 4 = true from rfl) (.c (show inR 2 4 = true from rfl) (.c (@cmpI_ev (a.obj) (b.obj) ((qc_2r_x0 a b))) (.c hz .n)))))) (by rfl) (by rfl)
noncomputable abbrev qc_3r_x0 (a : QuT) (b : QuT) : List Blk := [.var [int a.kind, int a.st, int a.obj, int a.term], .var [int b.kind, int b.st, int b.obj, int b.term], .var [int a.kind, int a.st, int a.obj, int a.term], .var [int b.kind, int b.st, int b.obj, int b.term]]
theorem qc_3r {a b : QuT} (hz : (cmpI a.term b.term != 0) = true) : (CW Tryz.prog Γ0 [] false (sub Tryz.f9 0) (qcS a b 3) .ret (qcX (cmpI a.term b.term))) := by
  exact CW.cast (CW.symX (s' := { t := mkT 41 0 [(4, int (cmpI a.term b.term))], h := [], m := [] }) (e := Exit.ret) pok [.st (.mask [4]), .st (.trim 0)] [.b true, .val (int (cmpI a.term b.term)), .b true] (by kernel_rfl) (.c (show decide (3 < 4) = true from rfl) (.c (show inR 3 4 = true from rfl) (.c (show inR 3 4 = true from rfl) (.c (@cmpI_ev (a.term) (b.term) ((qc_3r_x0 a b))) (.c hz .n)))))) (by rfl) (by rfl)
def qcHit (a b : QuT) : Bool := cmpI a.kind b.kind != 0 || (cmpI a.st b.st != 0 || (cmpI a.obj b.obj != 0 || cmpI a.term b.term != 0))
def qcRes (a b : QuT) : Unit ⊕ Int := bif qcHit a b then .inr (cmpQ a b) else .inl ()
def qcFin (a b : QuT) : Exit × AS := eachFin (.exit 0) (fun _ : Unit => qcX 0) (fun n : Int => (.ret, qcX n)) (qcRes a b)
theorem qc_cw {a b : QuT} : CW Tryz.prog Γ0 [] false (.loop (sub Tryz.f9 0)) (qcS a b 0) (qcFin a b).1 (qcFin a b).2 := by
  unfold qcFin qcRes qcHit cmpQ orQ
  cases h0 : (cmpI a.kind b.kind != 0)
  · simp only [Bool.false_or, cond_false, eachFin]
    cases h1 : (cmpI a.st b.st != 0)
    · simp only [Bool.false_or, cond_false, eachFin]
      cases h2 : (cmpI a.obj b.obj != 0)
      · simp only [Bool.false_or, cond_false, eachFin]
        cases h3 : (cmpI a.term b.term != 0)
        · simp only [Bool.false_or, cond_false, eachFin]
          refine CW.loopN 4 (fun i => qcS a b i) (by simp) (fun i hi => ?_) qc_4
          match i, hi with
          | 0, _ => exact qc_0 h0
          | 1, _ => exact qc_1 h1
          | 2, _ => exact qc_2 h2
          | 3, _ => exact qc_3 h3
        · simp only [Bool.true_or, cond_true, eachFin]
          refine CW.loopN 3 (fun i => qcS a b i) (by simp) (fun i hi => ?_) (qc_3r h3)
          match i, hi with
          | 0, _ => exact qc_0 h0
          | 1, _ => exact qc_1 h1
          | 2, _ => exact qc_2 h2
      · simp only [Bool.true_or, cond_true, eachFin]
        refine CW.loopN 2 (fun i => qcS a b i) (by simp) (fun i hi => ?_) (qc_2r h2)
        match i, hi with
        | 0, _ => exact qc_0 h0
        | 1, _ => exact qc_1 h1
    · simp only [Bool.true_or, cond_true, eachFin]
      refine CW.loopN 1 (fun i => qcS a b i) (by simp) (fun i hi => ?_) (qc_1r h1)
      match i, hi with
      | 0, _ => exact qc_0 h0
  · simp only [Bool.true_or, cond_true, eachFin]
    exact CW.loopN 0 (fun i => qcS a b i) (by simp) (fun i hi => absurd hi (Nat.not_lt_zero i)) (qc_0r h0)
theorem qcRes_l {a b : QuT} {u : Unit} (h : qcRes a b = .inl u) : cmpQ a b = 0 := by
  unfold qcRes at h
  cases hh : qcHit a b <;> rw [hh] at h
  · unfold qcHit at hh
    simp only [Bool.or_eq_false_iff, bne_eq_false_iff_eq] at hh
    unfold cmpQ orQ
    simp [hh.1, hh.2.1, hh.2.2.1, hh.2.2.2]
  · simp at h
theorem qcRes_r {a b : QuT} {n : Int} (h : qcRes a b = .inr n) : cmpQ a b = n := by
  unfold qcRes at h
  cases hh : qcHit a b <;> rw [hh] at h
  · simp at h
  · simpa using h
end Go.Vi
open Go Go.Proofs
namespace Go.Vi
set_option maxRecDepth 100000
set_option maxHeartbeats 4000000
theorem qcmp_ev {a b : QuT} (h : List Blk) : (Ev Tryz.prog Γ0 9 [ag a.row, ag b.row] h (int (cmpQ a b)) h) := by
  have hl0 := (@qc_cw (a) (b))
  unfold qcFin at hl0
  revert hl0
  cases ho1 : qcRes a b with
  | inl o1_0_0 =>
    intro hl0
    exact Ev.castH (Ev.sym0 (d := int 0) pok [.sum [4, 5, 6, 27] (Exit.exit 0) { t := mkT 41 0 [(4, int 0)], h := [], m := [] }] (by kernel_rfl) (.e (.ref (.ptr 0 0)) (.e (.ref (.ptr 0 0)) (.e (.ref (.ptr 0 0)) (.e (int a.kind) (.e (int a.kind) (.e (int a.kind) (.e (.ref (.ptr 0 1)) (.e (.ref (.ptr 0 1)) (.e (.ref (.ptr 0 1)) (.e (int a.st) (.e (int a.st) (.e (int a.st) (.e (.ref (.ptr 0 2)) (.e (.ref (.ptr 0 2)) (.e (.ref (.ptr 0 2)) (.e (int a.obj) (.e (int a.obj) (.e (int a.obj) (.e (.ref (.ptr 0 3)) (.e (.ref (.ptr 0 3)) (.e (.ref (.ptr 0 3)) (.e (int a.term) (.e (int a.term) (.e (int a.term) (.e (.ref (.ptr 1 0)) (.e (.ref (.ptr 1 0)) (.e (.ref (.ptr 1 0)) (.e (.ref (.ptr 1 0)) (.e (int b.kind) (.e (int b.kind) (.e (int b.kind) (.e (int b.kind) (.e (.ref (.ptr 1 1)) (.e (.ref (.ptr 1 1)) (.e (.ref (.ptr 1 1)) (.e (.ref (.ptr 1 1)) (.e (int b.st) (.e (int b.st) (.e (int b.st) (.e (int b.st) (.e (.ref (.ptr 1 2)) (.e (.ref (.ptr 1 2)) (.e (.ref (.ptr 1 2)) (.e (.ref (.ptr 1 2)) (.e (int b.obj) (.e (int b.obj) (.e (int b.obj) (.e (int b.obj) (.e (.ref (.ptr 1 3)) (.e (.ref (.ptr 1 3)) (.e (.ref (.ptr 1 3)) (.e (.ref (.ptr 1 3)) (.e (int b.term) (.e (int b.term) (.e (int b.term) (.e (int b.term) (.c hl0 .n))))))))))))))))))))))))))))))))))))))))))))))))))))))))) rfl rfl h) (by first | (rw [qcRes_l ho1]; done) | (rw [qcRes_r ho1]; done)) (by rfl)
  | inr o1_1_0 =>
    intro hl0
    exact Ev.castH (Ev.sym0 (d := int o1_1_0) pok [.sum [4, 5, 6, 27] (Exit.ret) { t := mkT 41 0 [(4, int o1_1_0)], h := [], m := [] }] (by kernel_rfl) (.e (.ref (.ptr 0 0)) (.e (.ref (.ptr 0 0)) (.e (.ref (.ptr 0 0)) (.e (int a.kind) (.e (int a.kind) (.e (int a.kind) (.e (.ref (.ptr 0 1)) (.e (.ref (.ptr 0 1)) (.e (.ref (.ptr 0 1)) (.e (int a.st) (.e (int a.st) (.e (int a.st) (.e (.ref (.ptr 0 2)) (.e (.ref (.ptr 0 2)) (.e (.ref (.ptr 0 2)) (.e (int a.obj) (.e (int a.obj) (.e (int a.obj) (.e (.ref (.ptr 0 3)) (.e (.ref (.ptr 0 3)) (.e (.ref (.ptr 0 3)) (.e (int a.term) (.e (int a.term) (.e (int a.term) (.e (.ref (.ptr 1 0)) (.e (.ref (.ptr 1 0)) (.e (.ref (.ptr 1 0)) (.e (.ref (.ptr 1 0)) (.e (int b.kind) (.e (int b.kind) (.e (int b.kind) (.e (int b.kind) (.e (.ref (.ptr 1 1)) (.e (.ref (.ptr 1 1)) (.e (.ref (.ptr 1 1)) (.e (.ref (.ptr 1 1)) (.e (int b.st) (.e (int b.st) (.e (int b.st) (.e (int b.st) (.e (.ref (.ptr 1 2)) (.e (.ref (.ptr 1 2)) (.e (.ref (.ptr 1 2)) (.e (.ref (.ptr 1 2)) (.e (int b.obj) (.e (int b.obj) (.e (int b.obj) (.e (int b.obj) (.e (.ref (.ptr 1 3)) (.e (.ref (.ptr 1 3)) (.e (.ref (.ptr 1 3)) (.e (.ref (.ptr 1 3)) (.e (int b.term) (.e (int b.term) (.e (int b.term) (.e (int b.term) (.c hl0 .n))))))))))))))))))))))))))))))))))))))))))))))))))))))))) rfl rfl h) (by first | (rw [qcRes_l ho1]; done) | (rw [qcRes_r ho1]; done)) (by rfl)
def Tri (x y z : Int) : Prop := (-1 ≤ x ∧ x ≤ 1) ∧ (-1 ≤ y ∧ y ≤ 1) ∧ (-1 ≤ z ∧ z ≤ 1) ∧ (x ≤ 0 → y ≤ 0 → z ≤ 0 ∧ (z = 0 → x = 0 ∧ y = 0)) ∧ (0 ≤ x → 0 ≤ y → 0 ≤ z ∧ (z = 0 → x = 0 ∧ y = 0))
theorem tri_cmp (a b c : Int) : Tri (cmpI a b) (cmpI b c) (cmpI a c) := by
  unfold Tri cmpI
  repeat' split
  all_goals omega
theorem orQ_eq (a b : Int) : orQ a b = if a = 0 then b else a := by
  unfold orQ
  by_cases h : a = 0
  · subst h; rfl
  · have : (a != 0) = true := by simp [h]
    simp [h, this]
theorem tri_or {x y z x' y' z' : Int} (h : Tri x y z) (h' : Tri x' y' z') : Tri (orQ x x') (orQ y y') (orQ z z') := by
  unfold Tri at *
  simp only [orQ_eq]
  obtain ⟨⟨a1, a2⟩, ⟨a3, a4⟩, ⟨a5, a6⟩, a7, a8⟩ := h
  obtain ⟨⟨b1, b2⟩, ⟨b3, b4⟩, ⟨b5, b6⟩, b7, b8⟩ := h'
  have h1 : x = -1 ∨ x = 0 ∨ x = 1 := by omega
  have h2 : y = -1 ∨ y = 0 ∨ y = 1 := by omega
  have h3 : z = -1 ∨ z = 0 ∨ z = 1 := by omega
  have h4 : x' = -1 ∨ x' = 0 ∨ x' = 1 := by omega
  have h5 : y' = -1 ∨ y' = 0 ∨ y' = 1 := by omega
  have h6 : z' = -1 ∨ z' = 0 ∨ z' = 1 := by omega
  rcases h1 with rfl | rfl | rfl <;> rcases h2 with rfl | rfl | rfl <;> rcases h3 with rfl | rfl | rfl <;> first | (exfalso; revert a7 a8; decide) | (clear a7 a8; rcases h4 with rfl | rfl | rfl <;> rcases h5 with rfl | rfl | rfl <;> rcases h6 with rfl | rfl | rfl <;> first | decide | (exfalso; revert b7 b8; decide))
theorem tri_q (a b c : QuT) : Tri (cmpQ a b) (cmpQ b c) (cmpQ a c) := tri_or (tri_cmp ..) (tri_or (tri_cmp ..) (tri_or (tri_cmp ..) (tri_cmp ..)))
theorem cmpI_neg (a b : Int) : cmpI b a = -cmpI a b := by unfold cmpI; repeat' split <;> omega
theorem orQ_neg (a b : Int) : orQ (-a) (-b) = -orQ a b := by
  simp only [orQ_eq]; by_cases h : a = 0 <;> simp [h]
theorem cmpQ_neg (a b : QuT) : cmpQ b a = -cmpQ a b := by
  unfold cmpQ
  rw [cmpI_neg a.kind, cmpI_neg a.st, cmpI_neg a.obj, cmpI_neg a.term, orQ_neg, orQ_neg, orQ_neg]
theorem cmpI_zero (a b : Int) : cmpI a b = 0 ↔ a = b := by unfold cmpI; split <;> (try split) <;> omega
theorem orQ_zero (a b : Int) : orQ a b = 0 ↔ a = 0 ∧ b = 0 := by
  simp only [orQ_eq]; by_cases h : a = 0 <;> simp [h]
theorem cmpQ_zero (a b : QuT) : cmpQ a b = 0 ↔ a.kind = b.kind ∧ a.st = b.st ∧ a.obj = b.obj ∧ a.term = b.term := by
  unfold cmpQ
  rw [orQ_zero, orQ_zero, orQ_zero, cmpI_zero, cmpI_zero, cmpI_zero, cmpI_zero]
theorem cmpQ_kind {a b : QuT} (h : a.kind < b.kind) : cmpQ a b = -1 := by
  unfold cmpQ
  rw [orQ_eq, cmpI, if_pos h]; rfl
theorem ordBad_f (a b : QuT) : (decide (cmpQ a b < -1) || decide (cmpQ a b > 1) || cmpQ a b != IntKind.i64.wrap (0 - cmpQ b a) || !(cmpQ a b == 0) == (a.kind == b.kind && (a.st == b.st && (a.obj == b.obj && (a.term == b.term && true)))) || decide (a.kind < b.kind) && cmpQ a b != -1) = false := by
  obtain ⟨⟨h1, h2⟩, _⟩ := tri_q a b a
  have h3 : IntKind.i64.wrap (0 - cmpQ b a) = cmpQ a b := by rw [cmpQ_neg a b, wrap_i64 (by omega) (by omega)]; omega
  have h4 : (a.kind == b.kind && (a.st == b.st && (a.obj == b.obj && (a.term == b.term && true)))) = (cmpQ a b == 0) := by
    rw [Bool.eq_iff_iff]; simp [cmpQ_zero]
  have h5 : decide (cmpQ a b < -1) = false := decide_eq_false (by omega)
  have h6 : decide (cmpQ a b > 1) = false := decide_eq_false (by omega)
  have h7 : (decide (a.kind < b.kind) && cmpQ a b != -1) = false := by
    by_cases h : a.kind < b.kind
    · simp [cmpQ_kind h]
    · simp [h]
  rw [h3, h4, h5, h6, h7]
  simp
theorem ordGood_t (a b c : QuT) : (!(decide (cmpQ a b ≤ 0) && decide (cmpQ b c ≤ 0) && decide (cmpQ a c > 0)) && !(decide (cmpQ a b ≥ 0) && decide (cmpQ b c ≥ 0) && decide (cmpQ a c < 0))) = true := by
  obtain ⟨_, _, _, h1, h2⟩ := tri_q a b c
  have e1 : ¬ (cmpQ a b ≤ 0 ∧ cmpQ b c ≤ 0 ∧ cmpQ a c > 0) := fun h => by have := (h1 h.1 h.2.1).1; omega
  have e2 : ¬ (cmpQ a b ≥ 0 ∧ cmpQ b c ≥ 0 ∧ cmpQ a c < 0) := fun h => by have := (h2 h.1 h.2.1).1; omega
  rw [← Bool.decide_and, ← Bool.decide_and, ← Bool.decide_and, ← Bool.decide_and]
  simp only [and_assoc]
  rw [decide_eq_false e1, decide_eq_false e2]
  rfl
attribute [local irreducible] cmpQ
noncomputable abbrev qorder_a_x0 (a : QuT) (b : QuT) (c : QuT) : List Blk := [.var [int a.kind, int a.st, int a.obj, int a.term], .var [int b.kind, int b.st, int b.obj, int b.term], .var [int c.kind, int c.st, int c.obj, int c.term]]
theorem qorder_a {a b c : QuT} (hsane : ∀ h, Ev Tryz.prog Γ0 5 [] h (bool true) h) (h : List Blk) : (Ev Tryz.prog Γ0 4 [ag a.row, ag b.row, ag c.row] h (bool true) h) := by
  cases hc0 : decide (cmpQ a b < -1) || decide (cmpQ a b > 1) || cmpQ a b != IntKind.wrap IntKind.i64 (0 - cmpQ b a) || !(cmpQ a b == 0) == (a.kind == b.kind && (a.st == b.st && (a.obj == b.obj && (a.term == b.term && true)))) || decide (a.kind < b.kind) && cmpQ a b != -1
  · exact Ev.castH (Ev.sym0 (d := bool (!(decide (cmpQ a b ≤ 0) && decide (cmpQ b c ≤ 0) && decide (cmpQ a c > 0)) && !(decide (cmpQ a b ≥ 0) && decide (cmpQ b c ≥ 0) && decide (cmpQ a c < 0)))) pok [.val (bool true), .b false, .val (int (cmpQ a b)), .val (int (cmpQ b c)), .val (int (cmpQ a c)), .val (int (cmpQ b a)), .b false] (by kernel_rfl) (.c (@hsane ((qorder_a_x0 a b c))) (.c (show (!true) = false from rfl) (.c (@qcmp_ev (a) (b) ((qorder_a_x0 a b c))) (.c (@qcmp_ev (b) (c) ((qorder_a_x0 a b c))) (.c (@qcmp_ev (a) (c) ((qorder_a_x0 a b c))) (.c (show (!(decide (cmpQ a b < -1) || decide (cmpQ a b > 1))) = true → Ev Tryz.prog Γ0 9 [D.agg [int b.kind, int b.st, int b.obj, int b.term], D.agg [int a.kind, int a.st, int a.obj, int a.term]] (qorder_a_x0 a b c) (int (cmpQ b a)) (qorder_a_x0 a b c) from (fun hg => (@qcmp_ev (b) (a) ((qorder_a_x0 a b c))))) (.c hc0 .n))))))) rfl rfl h) (by first | (rw [ordGood_t]) | (rw [ordBad_f] at hc0; simp at hc0)) (by rfl)
  · exact Ev.castH (Ev.sym0 (d := bool false) pok [.val (bool true), .b false, .val (int (cmpQ a b)), .val (int (cmpQ b c)), .val (int (cmpQ a c)), .val (int (cmpQ b a)), .b true] (by kernel_rfl) (.c (@hsane ((qorder_a_x0 a b c))) (.c (show (!true) = false from rfl) (.c (@qcmp_ev (a) (b) ((qorder_a_x0 a b c))) (.c (@qcmp_ev (b) (c) ((qorder_a_x0 a b c))) (.c (@qcmp_ev (a) (c) ((qorder_a_x0 a b c))) (.c (show (!(decide (cmpQ a b < -1) || decide (cmpQ a b > 1))) = true → Ev Tryz.prog Γ0 9 [D.agg [int b.kind, int b.st, int b.obj, int b.term], D.agg [int a.kind, int a.st, int a.obj, int a.term]] (qorder_a_x0 a b c) (int (cmpQ b a)) (qorder_a_x0 a b c) from (fun hg => (@qcmp_ev (b) (a) ((qorder_a_x0 a b c))))) (.c hc0 .n))))))) rfl rfl h) (by first | (rw [ordGood_t]) | (rw [ordBad_f] at hc0; simp at hc0)) (by rfl)
end Go.Vi
open Go Go.Proofs
namespace Go.Vi
set_option maxRecDepth 100000
set_option maxHeartbeats 4000000
structure ReadT where
  kind : Int
  sub : Int
  obj : Int
  frm : Int
  til : Int
def ReadT.row (r : ReadT) : List Dp := [vi r.kind, vi r.sub, vi r.obj, vi r.frm, vi r.til]
def inNe (a b : Int) : Bool := a != b
def rdNe (a b : ReadT) : Bool := !(a.kind == b.kind && (a.sub == b.sub && (a.obj == b.obj && true)) && (a.frm == b.frm && (a.til == b.til && true)))
abbrev seiS (l l2 : List (List Dp)) (i : Int) : AS := { t := mkT 26 0 [(0, rowsD' l), (1, rowsD' l2), (4, bool false), (12, int l.length), (13, int i)], h := [], m := [] }
abbrev seiX : Unit → Exit × AS := fun _ => (.ret, { t := mkT 26 0 [(4, bool false)], h := [], m := [] })
def seiF (p : Int × Int) (_ : Unit) : Unit ⊕ Unit := bif inNe p.1 p.2 then .inr () else .inl ()
theorem sei_body {l l2 : List (List Dp)} {a b : Int} {i : Nat} (hr : RowAt (i : Int) l [vi a] 1) (hr2 : RowAt (i : Int) l2 [vi b] 1) (hlt : decide ((i : Int) < (l.length : Int)) = true) (hw : IntKind.i64.wrap ((i : Int) + 1) = ((i + 1 : Nat) : Int)) : (CW Tryz.prog Γ0 [] false (sub Tryz.f17 0) (seiS l l2 i) (bodyFin (fun _ => seiS l l2 ((i + 1 : Nat) : Int)) seiX (seiF (a, b) ())).1 (bodyFin (fun _ => seiS l l2 ((i + 1 : Nat) : Int)) seiX (seiF (a, b) ())).2) := by
  cases hc0 : a != b
  · refine CW.cast (CW.symX (s' := { t := mkT 26 0 [(0, rowsD' l), (1, rowsD' l2), (4, bool false), (12, int (↑(List.length l) : Int)), (13, int (IntKind.wrap IntKind.i64 ((↑i : Int) + 1)))], h := [], m := [] }) (e := Exit.normal) pok [.st (.mask [0, 1, 4, 12, 13])] [.b true, .row [vi a], .row [vi b], .b false] (by kernel_rfl) (.c hlt (.c hr (.c hr2 (.c hc0 .n))))) ?_ ?_ <;> (first | (have hh : inNe a b = true := hc0; simp only [seiF, hh, cond_true, bodyFin]; first | done | rfl) | (have hh : inNe a b = false := hc0; simp only [seiF, hh, cond_false, bodyFin, hw]; first | done | rfl))
  · refine CW.cast (CW.symX (s' := { t := mkT 26 0 [(4, bool false)], h := [], m := [] }) (e := Exit.ret) pok [.st (.mask [4])] [.b true, .row [vi a], .row [vi b], .b true] (by kernel_rfl) (.c hlt (.c hr (.c hr2 (.c hc0 .n))))) ?_ ?_ <;> (first | (have hh : inNe a b = true := hc0; simp only [seiF, hh, cond_true, bodyFin]; first | done | rfl) | (have hh : inNe a b = false := hc0; simp only [seiF, hh, cond_false, bodyFin, hw]; first | done | rfl))
theorem sei_last {l l2 : List (List Dp)} {i : Nat} (hlt : decide ((i : Int) < (l.length : Int)) = false) : (CW Tryz.prog Γ0 [] false (sub Tryz.f17 0) (seiS l l2 i) (.exit 0) { t := mkT 26 0 [], h := [], m := [] }) := by
  exact CW.cast (CW.symX (s' := { t := mkT 26 0 [], h := [], m := [] }) (e := Exit.exit 0) pok [.st (.mask [])] [.b false] (by kernel_rfl) (.c hlt .n)) (by rfl) (by rfl)
def seiR (xs ys : List Int) : Unit ⊕ Unit := forL seiF (xs.zip ys) ()
theorem sei_cw {xs ys : List Int} (hl : Short xs) (he : (((xs.map (fun n : Int => [vi n])).length : Int) != ((ys.map (fun n : Int => [vi n])).length : Int)) = false) :
    CW Tryz.prog Γ0 [] false (.loop (sub Tryz.f17 0)) (seiS (xs.map (fun n : Int => [vi n])) (ys.map (fun n : Int => [vi n])) 0) (eachFin (.exit 0) (fun _ : Unit => { t := mkT 26 0 [], h := [], m := [] }) seiX (seiR xs ys)).1 (eachFin (.exit 0) (fun _ : Unit => { t := mkT 26 0 [], h := [], m := [] }) seiX (seiR xs ys)).2 := by
  have hlen : xs.length = ys.length := by simp at he; omega
  have hz : (xs.zip ys).length = xs.length := by simp [hlen]
  refine CW.each (xs.zip ys) seiF (fun i _ => seiS (xs.map (fun n : Int => [vi n])) (ys.map (fun n : Int => [vi n])) (i : Int)) (.exit 0) (fun _ => { t := mkT 26 0 [], h := [], m := [] }) seiX (fun _ _ => True) (by simp) (fun _ => by simp [seiX]) ?_ ?_ () trivial
  · intro i p u hp _
    obtain ⟨hi, he⟩ := List.getElem?_eq_some_iff.1 hp
    have hx : i < xs.length := by omega
    have hy : i < ys.length := by omega
    have h1 : xs[i]? = some p.1 := by subst he; simp [hx]
    have h2 : ys[i]? = some p.2 := by subst he; simp [hy]
    exact ⟨fun _ _ => trivial, sei_body (a := p.1) (b := p.2) (rowAt h1 rfl) (rowAt h2 rfl) (lt_len _ hx) (wrap_succ hx hl)⟩
  · intro u _
    rw [hz]
    exact sei_last (ge_len _ xs)
def seiB (xs ys : List Int) : Bool := if (((xs.map (fun n : Int => [vi n])).length : Int) != ((ys.map (fun n : Int => [vi n])).length : Int)) = true then false else match seiR xs ys with | .inl _ => true | .inr _ => false
theorem sei_ev {xs ys : List Int} (hl : Short xs) (h : List Blk) : (Ev Tryz.prog Γ0 17 [rowsD' (xs.map (fun n : Int => [vi n])), rowsD' (ys.map (fun n : Int => [vi n]))] h (bool (seiB xs ys)) h) := by
  cases hc0 : (↑(List.length (List.map (fun n => [vi n]) xs)) : Int) != (↑(List.length (List.map (fun n => [vi n]) ys)) : Int)
  · have hl1 := (@sei_cw (xs) (ys) (hl) (hc0))
    revert hl1
    cases ho2 : seiR xs ys with
    | inl o2_0_0 =>
      intro hl1
      exact Ev.castH (Ev.sym0 (d := bool true) pok [.b false, .sum [0, 1, 4, 12, 13] (Exit.exit 0) { t := mkT 26 0 [], h := [], m := [] }] (by kernel_rfl) (.c hc0 (.c hl1 .n)) rfl rfl h) (by simp only [seiB, hc0, ho2]; rfl) (by rfl)
    | inr o2_1_0 =>
      intro hl1
      exact Ev.castH (Ev.sym0 (d := bool false) pok [.b false, .sum [0, 1, 4, 12, 13] (Exit.ret) { t := mkT 26 0 [(4, bool false)], h := [], m := [] }] (by kernel_rfl) (.c hc0 (.c hl1 .n)) rfl rfl h) (by simp only [seiB, hc0, ho2]; rfl) (by rfl)
  · exact Ev.castH (Ev.sym0 (d := bool false) pok [.b true] (by kernel_rfl) (.c hc0 .n) rfl rfl h) (by simp only [seiB, hc0]; rfl) (by rfl)
abbrev serS (l l2 : List (List Dp)) (i : Int) : AS := { t := mkT 26 0 [(0, rowsD' l), (1, rowsD' l2), (4, bool false), (12, int l.length), (13, int i)], h := [], m := [] }
abbrev serX : Unit → Exit × AS := fun _ => (.ret, { t := mkT 26 0 [(4, bool false)], h := [], m := [] })
def serF (p : ReadT × ReadT) (_ : Unit) : Unit ⊕ Unit := bif rdNe p.1 p.2 then .inr () else .inl ()
theorem ser_body {l l2 : List (List Dp)} {a b : ReadT} {i : Nat} (hr : RowAt (i : Int) l a.row 5) (hr2 : RowAt (i : Int) l2 b.row 5) (hlt : decide ((i : Int) < (l.length : Int)) = true) (hw : IntKind.i64.wrap ((i : Int) + 1) = ((i + 1 : Nat) : Int)) : (CW Tryz.prog Γ0 [] false (sub Tryz.f18 0) (serS l l2 i) (bodyFin (fun _ => serS l l2 ((i + 1 : Nat) : Int)) serX (serF (a, b) ())).1 (bodyFin (fun _ => serS l l2 ((i + 1 : Nat) : Int)) serX (serF (a, b) ())).2) := by
  cases hc0 : !(a.kind == b.kind && (a.sub == b.sub && (a.obj == b.obj && true)) && (a.frm == b.frm && (a.til == b.til && true)))
  · refine CW.cast (CW.symX (s' := { t := mkT 26 0 [(0, rowsD' l), (1, rowsD' l2), (4, bool false), (12, int (↑(List.length l) : Int)), (13, int (IntKind.wrap IntKind.i64 ((↑i : Int) + 1)))], h := [], m := [] }) (e := Exit.normal) pok [.st (.mask [0, 1, 4, 12, 13])] [.b true, .row [vi a.kind, vi a.sub, vi a.obj, vi a.frm, vi a.til], .row [vi b.kind, vi b.sub, vi b.obj, vi b.frm, vi b.til], .b false] (by kernel_rfl) (.c hlt (.c hr (.c hr2 (.c hc0 .n))))) ?_ ?_ <;> (first | (have hh : rdNe a b = true := hc0; simp only [serF, hh, cond_true, bodyFin]; first | done | rfl) | (have hh : rdNe a b = false := hc0; simp only [serF, hh, cond_false, bodyFin, hw]; first | done | rfl))
  · refine CW.cast (CW.symX (s' := { t := mkT 26 0 [(4, bool false)], h := [], m := [] }) (e := Exit.ret) pok [.st (.mask [4])] [.b true, .row [vi a.kind, vi a.sub, vi a.obj, vi a.frm, vi a.til], .row [vi b.kind, vi b.sub, vi b.obj, vi b.frm, vi b.til], .b true] (by kernel_rfl) (.c hlt (.c hr (.c hr2 (.c hc0 .n))))) ?_ ?_ <;> (first | (have hh : rdNe a b = true := hc0; simp only [serF, hh, cond_true, bodyFin]; first | done | rfl) | (have hh : rdNe a b = false := hc0; simp only [serF, hh, cond_false, bodyFin, hw]; first | done | rfl))
theorem ser_last {l l2 : List (List Dp)} {i : Nat} (hlt : decide ((i : Int) < (l.length : Int)) = false) : (CW Tryz.prog Γ0 [] false (sub Tryz.f18 0) (serS l l2 i) (.exit 0) { t := mkT 26 0 [], h := [], m := [] }) := by
  exact CW.cast (CW.symX (s' := { t := mkT 26 0 [], h := [], m := [] }) (e := Exit.exit 0) pok [.st (.mask [])] [.b false] (by kernel_rfl) (.c hlt .n)) (by rfl) (by rfl)
def serR (xs ys : List ReadT) : Unit ⊕ Unit := forL serF (xs.zip ys) ()
theorem ser_cw {xs ys : List ReadT} (hl : Short xs) (he : (((xs.map ReadT.row).length : Int) != ((ys.map ReadT.row).length : Int)) = false) :
    CW Tryz.prog Γ0 [] false (.loop (sub Tryz.f18 0)) (serS (xs.map ReadT.row) (ys.map ReadT.row) 0) (eachFin (.exit 0) (fun _ : Unit => { t := mkT 26 0 [], h := [], m := [] }) serX (serR xs ys)).1 (eachFin (.exit 0) (fun _ : Unit => { t := mkT 26 0 [], h := [], m := [] }) serX (serR xs ys)).2 := by
  have hlen : xs.length = ys.length := by simp at he; omega
  have hz : (xs.zip ys).length = xs.length := by simp [hlen]
  refine CW.each (xs.zip ys) serF (fun i _ => serS (xs.map ReadT.row) (ys.map ReadT.row) (i : Int)) (.exit 0) (fun _ => { t := mkT 26 0 [], h := [], m := [] }) serX (fun _ _ => True) (by simp) (fun _ => by simp [serX]) ?_ ?_ () trivial
  · intro i p u hp _
    obtain ⟨hi, he⟩ := List.getElem?_eq_some_iff.1 hp
    have hx : i < xs.length := by omega
    have hy : i < ys.length := by omega
    have h1 : xs[i]? = some p.1 := by subst he; simp [hx]
    have h2 : ys[i]? = some p.2 := by subst he; simp [hy]
    exact ⟨fun _ _ => trivial, ser_body (a := p.1) (b := p.2) (rowAt h1 rfl) (rowAt h2 rfl) (lt_len _ hx) (wrap_succ hx hl)⟩
  · intro u _
    rw [hz]
    exact ser_last (ge_len _ xs)
def serB (xs ys : List ReadT) : Bool := if (((xs.map ReadT.row).length : Int) != ((ys.map ReadT.row).length : Int)) = true then false else match serR xs ys with | .inl _ => true | .inr _ => false
theorem ser_ev {xs ys : List ReadT} (hl : Short xs) (h : List Blk) : (Ev Tryz.prog Γ0 18 [rowsD' (xs.map ReadT.row), rowsD' (ys.map ReadT.row)] h (bool (serB xs ys)) h) := by
  cases hc0 : (↑(List.length (List.map ReadT.row xs)) : Int) != (↑(List.length (List.map ReadT.row ys)) : Int)
  · have hl1 := (@ser_cw (xs) (ys) (hl) (hc0))
    revert hl1
    cases ho2 : serR xs ys with
    | inl o2_0_0 =>
      intro hl1
      exact Ev.castH (Ev.sym0 (d := bool true) pok [.b false, .sum [0, 1, 4, 12, 13] (Exit.exit 0) { t := mkT 26 0 [], h := [], m := [] }] (by kernel_rfl) (.c hc0 (.c hl1 .n)) rfl rfl h) (by simp only [serB, hc0, ho2]; rfl) (by rfl)
    | inr o2_1_0 =>
      intro hl1
      exact Ev.castH (Ev.sym0 (d := bool false) pok [.b false, .sum [0, 1, 4, 12, 13] (Exit.ret) { t := mkT 26 0 [(4, bool false)], h := [], m := [] }] (by kernel_rfl) (.c hc0 (.c hl1 .n)) rfl rfl h) (by simp only [serB, hc0, ho2]; rfl) (by rfl)
  · exact Ev.castH (Ev.sym0 (d := bool false) pok [.b true] (by kernel_rfl) (.c hc0 .n) rfl rfl h) (by simp only [serB, hc0]; rfl) (by rfl)
abbrev reiS (l l2 : List (List Dp)) (i : Int) : AS := { t := mkT 26 0 [(0, rowsD' l), (1, rowsD' l2), (4, bool false), (5, int i)], h := [], m := [] }
abbrev reiX : Unit → Exit × AS := fun _ => (.ret, { t := mkT 26 0 [(4, bool false)], h := [], m := [] })
def reiF (p : Int × Int) (_ : Unit) : Unit ⊕ Unit := bif inNe p.1 p.2 then .inr () else .inl ()
theorem rei_body {l l2 : List (List Dp)} {a b : Int} {i : Nat} (hr : RowAt (i : Int) l [vi a] 1) (hr2 : RowAt (i : Int) l2 [vi b] 1) (hlt : decide ((i : Int) < (l.length : Int)) = true) (hw : IntKind.i64.wrap ((i : Int) + 1) = ((i + 1 : Nat) : Int)) : (CW Tryz.prog Γ0 [] false (sub Tryz.f14 0) (reiS l l2 i) (bodyFin (fun _ => reiS l l2 ((i + 1 : Nat) : Int)) reiX (reiF (a, b) ())).1 (bodyFin (fun _ => reiS l l2 ((i + 1 : Nat) : Int)) reiX (reiF (a, b) ())).2) := by
  cases hc0 : a != b
  · refine CW.cast (CW.symX (s' := { t := mkT 26 0 [(0, rowsD' l), (1, rowsD' l2), (4, bool false), (5, int (IntKind.wrap IntKind.i64 ((↑i : Int) + 1)))], h := [], m := [] }) (e := Exit.normal) pok [.st (.mask [0, 1, 4, 5])] [.b true, .row [vi a], .row [vi b], .b false] (by kernel_rfl) (.c hlt (.c hr (.c hr2 (.c hc0 .n))))) ?_ ?_ <;> (first | (have hh : inNe a b = true := hc0; simp only [reiF, hh, cond_true, bodyFin]; first | done | rfl) | (have hh : inNe a b = false := hc0; simp only [reiF, hh, cond_false, bodyFin, hw]; first | done | rfl))
  · refine CW.cast (CW.symX (s' := { t := mkT 26 0 [(4, bool false)], h := [], m := [] }) (e := Exit.ret) pok [.st (.mask [4])] [.b true, .row [vi a], .row [vi b], .b true] (by kernel_rfl) (.c hlt (.c hr (.c hr2 (.c hc0 .n))))) ?_ ?_ <;> (first | (have hh : inNe a b = true := hc0; simp only [reiF, hh, cond_true, bodyFin]; first | done | rfl) | (have hh : inNe a b = false := hc0; simp only [reiF, hh, cond_false, bodyFin, hw]; first | done | rfl))
theorem rei_last {l l2 : List (List Dp)} {i : Nat} (hlt : decide ((i : Int) < (l.length : Int)) = false) : (CW Tryz.prog Γ0 [] false (sub Tryz.f14 0) (reiS l l2 i) (.exit 0) { t := mkT 26 0 [], h := [], m := [] }) := by
  exact CW.cast (CW.symX (s' := { t := mkT 26 0 [], h := [], m := [] }) (e := Exit.exit 0) pok [.st (.mask [])] [.b false] (by kernel_rfl) (.c hlt .n)) (by rfl) (by rfl)
def reiR (xs ys : List Int) : Unit ⊕ Unit := forL reiF (xs.zip ys) ()
theorem rei_cw {xs ys : List Int} (hl : Short xs) (he : (((xs.map (fun n : Int => [vi n])).length : Int) != ((ys.map (fun n : Int => [vi n])).length : Int)) = false) :
    CW Tryz.prog Γ0 [] false (.loop (sub Tryz.f14 0)) (reiS (xs.map (fun n : Int => [vi n])) (ys.map (fun n : Int => [vi n])) 0) (eachFin (.exit 0) (fun _ : Unit => { t := mkT 26 0 [], h := [], m := [] }) reiX (reiR xs ys)).1 (eachFin (.exit 0) (fun _ : Unit => { t := mkT 26 0 [], h := [], m := [] }) reiX (reiR xs ys)).2 := by
  have hlen : xs.length = ys.length := by simp at he; omega
  have hz : (xs.zip ys).length = xs.length := by simp [hlen]
  refine CW.each (xs.zip ys) reiF (fun i _ => reiS (xs.map (fun n : Int => [vi n])) (ys.map (fun n : Int => [vi n])) (i : Int)) (.exit 0) (fun _ => { t := mkT 26 0 [], h := [], m := [] }) reiX (fun _ _ => True) (by simp) (fun _ => by simp [reiX]) ?_ ?_ () trivial
  · intro i p u hp _
    obtain ⟨hi, he⟩ := List.getElem?_eq_some_iff.1 hp
    have hx : i < xs.length := by omega
    have hy : i < ys.length := by omega
    have h1 : xs[i]? = some p.1 := by subst he; simp [hx]
    have h2 : ys[i]? = some p.2 := by subst he; simp [hy]
    exact ⟨fun _ _ => trivial, rei_body (a := p.1) (b := p.2) (rowAt h1 rfl) (rowAt h2 rfl) (lt_len _ hx) (wrap_succ hx hl)⟩
  · intro u _
    rw [hz]
    exact rei_last (ge_len _ xs)
def reiB (xs ys : List Int) : Bool := if (((xs.map (fun n : Int => [vi n])).length : Int) != ((ys.map (fun n : Int => [vi n])).length : Int)) = true then false else match reiR xs ys with | .inl _ => true | .inr _ => false
theorem rei_ev {xs ys : List Int} (hl : Short xs) (h : List Blk) : (Ev Tryz.prog Γ0 14 [rowsD' (xs.map (fun n : Int => [vi n])), rowsD' (ys.map (fun n : Int => [vi n]))] h (bool (reiB xs ys)) h) := by
  cases hc0 : (↑(List.length (List.map (fun n => [vi n]) xs)) : Int) != (↑(List.length (List.map (fun n => [vi n]) ys)) : Int)
  · have hl1 := (@rei_cw (xs) (ys) (hl) (hc0))
    revert hl1
    cases ho2 : reiR xs ys with
    | inl o2_0_0 =>
      intro hl1
      exact Ev.castH (Ev.sym0 (d := bool true) pok [.b false, .sum [0, 1, 4, 5] (Exit.exit 0) { t := mkT 26 0 [], h := [], m := [] }] (by kernel_rfl) (.c hc0 (.c hl1 .n)) rfl rfl h) (by simp only [reiB, hc0, ho2]; rfl) (by rfl)
    | inr o2_1_0 =>
      intro hl1
      exact Ev.castH (Ev.sym0 (d := bool false) pok [.b false, .sum [0, 1, 4, 5] (Exit.ret) { t := mkT 26 0 [(4, bool false)], h := [], m := [] }] (by kernel_rfl) (.c hc0 (.c hl1 .n)) rfl rfl h) (by simp only [reiB, hc0, ho2]; rfl) (by rfl)
  · exact Ev.castH (Ev.sym0 (d := bool false) pok [.b true] (by kernel_rfl) (.c hc0 .n) rfl rfl h) (by simp only [reiB, hc0]; rfl) (by rfl)
abbrev rerS (l l2 : List (List Dp)) (i : Int) : AS := { t := mkT 26 0 [(0, rowsD' l), (1, rowsD' l2), (4, bool false), (5, int i)], h := [], m := [] }
abbrev rerX : Unit → Exit × AS := fun _ => (.ret, { t := mkT 26 0 [(4, bool false)], h := [], m := [] })
def rerF (p : ReadT × ReadT) (_ : Unit) : Unit ⊕ Unit := bif rdNe p.1 p.2 then .inr () else .inl ()
theorem rer_body {l l2 : List (List Dp)} {a b : ReadT} {i : Nat} (hr : RowAt (i : Int) l a.row 5) (hr2 : RowAt (i : Int) l2 b.row 5) (hlt : decide ((i : Int) < (l.length : Int)) = true) (hw : IntKind.i64.wrap ((i : Int) + 1) = ((i + 1 : Nat) : Int)) : (CW Tryz.prog Γ0 [] false (sub Tryz.f19 0) (rerS l l2 i) (bodyFin (fun _ => rerS l l2 ((i + 1 : Nat) : Int)) rerX (rerF (a, b) ())).1 (bodyFin (fun _ => rerS l l2 ((i + 1 : Nat) : Int)) rerX (rerF (a, b) ())).2) := by
  cases hc0 : !(a.kind == b.kind && (a.sub == b.sub && (a.obj == b.obj && true)) && (a.frm == b.frm && (a.til == b.til && true)))
  · refine CW.cast (CW.symX (s' := { t := mkT 26 0 [(0, rowsD' l), (1, rowsD' l2), (4, bool false), (5, int (IntKind.wrap IntKind.i64 ((↑i : Int) + 1)))], h := [], m := [] }) (e := Exit.normal) pok [.st (.mask [0, 1, 4, 5])] [.b true, .row [vi a.kind, vi a.sub, vi a.obj, vi a.frm, vi a.til], .row [vi b.kind, vi b.sub, vi b.obj, vi b.frm, vi b.til], .b false] (by kernel_rfl) (.c hlt (.c hr (.c hr2 (.c hc0 .n))))) ?_ ?_ <;> (first | (have hh : rdNe a b = true := hc0; simp only [rerF, hh, cond_true, bodyFin]; first | done | rfl) | (have hh : rdNe a b = false := hc0; simp only [rerF, hh, cond_false, bodyFin, hw]; first | done | rfl))
  · refine CW.cast (CW.symX (s' := { t := mkT 26 0 [(4, bool false)], h := [], m := [] }) (e := Exit.ret) pok [.st (.mask [4])] [.b true, .row [vi a.kind, vi a.sub, vi a.obj, vi a.frm, vi a.til], .row [vi b.kind, vi b.sub, vi b.obj, vi b.frm, vi b.til], .b true] (by kernel_rfl) (.c hlt (.c hr (.c hr2 (.c hc0 .n))))) ?_ ?_ <;> (first | (have hh : rdNe a b = true := hc0; simp only [rerF, hh, cond_true, bodyFin]; first | done | rfl) | (have hh : rdNe a b = false := hc0; simp only [rerF, hh, cond_false, bodyFin, hw]; first | done | rfl))
theorem rer_last {l l2 : List (List Dp)} {i : Nat} (hlt : decide ((i : Int) < (l.length : Int)) = false) : (CW Tryz.prog Γ0 [] false (sub Tryz.f19 0) (rerS l l2 i) (.exit 0) { t := mkT 26 0 [], h := [], m := [] }) := by
  exact CW.cast (CW.symX (s' := { t := mkT 26 0 [], h := [], m := [] }) (e := Exit.exit 0) pok [.st (.mask [])] [.b false] (by kernel_rfl) (.c hlt .n)) (by rfl) (by rfl)
def rerR (xs ys : List ReadT) : Unit ⊕ Unit := forL rerF (xs.zip ys) ()
theorem rer_cw {xs ys : List ReadT} (hl : Short xs) (he : (((xs.map ReadT.row).length : Int) != ((ys.map ReadT.row).length : Int)) = false) :
    CW Tryz.prog Γ0 [] false (.loop (sub Tryz.f19 0)) (rerS (xs.map ReadT.row) (ys.map ReadT.row) 0) (eachFin (.exit 0) (fun _ : Unit => { t := mkT 26 0 [], h := [], m := [] }) rerX (rerR xs ys)).1 (eachFin (.exit 0) (fun _ : Unit => { t := mkT 26 0 [], h := [], m := [] }) rerX (rerR xs ys)).2 := by
  have hlen : xs.length = ys.length := by simp at he; omega
  have hz : (xs.zip ys).length = xs.length := by simp [hlen]
  refine CW.each (xs.zip ys) rerF (fun i _ => rerS (xs.map ReadT.row) (ys.map ReadT.row) (i : Int)) (.exit 0) (fun _ => { t := mkT 26 0 [], h := [], m := [] }) rerX (fun _ _ => True) (by simp) (fun _ => by simp [rerX]) ?_ ?_ () trivial
  · intro i p u hp _
    obtain ⟨hi, he⟩ := List.getElem?_eq_some_iff.1 hp
    have hx : i < xs.length := by omega
    have hy : i < ys.length := by omega
    have h1 : xs[i]? = some p.1 := by subst he; simp [hx]
    have h2 : ys[i]? = some p.2 := by subst he; simp [hy]
    exact ⟨fun _ _ => trivial, rer_body (a := p.1) (b := p.2) (rowAt h1 rfl) (rowAt h2 rfl) (lt_len _ hx) (wrap_succ hx hl)⟩
  · intro u _
    rw [hz]
    exact rer_last (ge_len _ xs)
def rerB (xs ys : List ReadT) : Bool := if (((xs.map ReadT.row).length : Int) != ((ys.map ReadT.row).length : Int)) = true then false else match rerR xs ys with | .inl _ => true | .inr _ => false
theorem rer_ev {xs ys : List ReadT} (hl : Short xs) (h : List Blk) : (Ev Tryz.prog Γ0 19 [rowsD' (xs.map ReadT.row), rowsD' (ys.map ReadT.row)] h (bool (rerB xs ys)) h) := by
  cases hc0 : (↑(List.length (List.map ReadT.row xs)) : Int) != (↑(List.length (List.map ReadT.row ys)) : Int)
  · have hl1 := (@rer_cw (xs) (ys) (hl) (hc0))
    revert hl1
    cases ho2 : rerR xs ys with
    | inl o2_0_0 =>
      intro hl1
      exact Ev.castH (Ev.sym0 (d := bool true) pok [.b false, .sum [0, 1, 4, 5] (Exit.exit 0) { t := mkT 26 0 [], h := [], m := [] }] (by kernel_rfl) (.c hc0 (.c hl1 .n)) rfl rfl h) (by simp only [rerB, hc0, ho2]; rfl) (by rfl)
    | inr o2_1_0 =>
      intro hl1
      exact Ev.castH (Ev.sym0 (d := bool false) pok [.b false, .sum [0, 1, 4, 5] (Exit.ret) { t := mkT 26 0 [(4, bool false)], h := [], m := [] }] (by kernel_rfl) (.c hc0 (.c hl1 .n)) rfl rfl h) (by simp only [rerB, hc0, ho2]; rfl) (by rfl)
  · exact Ev.castH (Ev.sym0 (d := bool false) pok [.b true] (by kernel_rfl) (.c hc0 .n) rfl rfl h) (by simp only [rerB, hc0]; rfl) (by rfl)
abbrev qdS (a b : QuT) (i : Int) : AS := { t := mkT 44 0 [(4, int 0), (5, .ref (.ptr 2 0)), (6, .ref (.ptr 3 0)), (7, int i)], h := qcH a b, m := [] }
abbrev qdX (n : Int) : AS := { t := mkT 44 0 [(4, int n)], h := [], m := [] }
def qdF (p : Int × Int) (_ : Unit) : Unit ⊕ Int := bif decide (p.1 < p.2) then .inr (-1) else bif decide (p.1 > p.2) then .inr 1 else .inl ()
abbrev qdB (a b : QuT) (p : Int × Int) (i : Int) : Exit × AS := bodyFin (fun _ => qdS a b i) (fun n : Int => (.ret, qdX n)) (qdF p ())
theorem qd_0 {a b : QuT} : (CW Tryz.prog Γ0 [] false (sub Tryz.f10 0) (qdS a b 0) (qdB a b (a.kind, b.kind) 1).1 (qdB a b (a.kind, b.kind) 1).2) := by
  cases hc0 : decide (a.kind < b.kind)
  · cases hc1 : decide (a.kind > b.kind)
    · exact CW.cast (CW.symX (s' := { t := mkT 44 0 [(4, int 0), (5, .ref (.ptr 2 0)), (6, .ref (.ptr 3 0)), (7, int (IntKind.wrap IntKind.i64 (0 + 1)))], h := [.var [int a.kind, int a.st, int a.obj, int a.term], .var [int b.kind, int b.st, int b.obj, int b.term], .var [int a.kind, int a.st, int a.obj, int a.term], .var [int b.kind, int b.st, int b.obj, int b.term]], m := [] }) (e := Exit.normal) pok [.st (.mask [4, 5, 6, 7])] [.b true, .b false, .b false] (by kernel_rfl) (.c (show decide (0 < 4) = true from rfl) (.c (show inR 0 4 = true from rfl) (.c (show inR 0 4 = true from rfl) (.c hc0 (.c (show inR 0 4 = true from rfl) (.c (show inR 0 4 = true from rfl) (.c hc1 .n)))))))) (by simp only [qdB, qdF, hc0, hc1, cond_true, cond_false, bodyFin]; first | done | rfl) (by simp only [qdB, qdF, hc0, hc1, cond_true, cond_false, bodyFin]; first | done | rfl)
    · exact CW.cast (CW.symX (s' := { t := mkT 44 0 [(4, int 1)], h := [], m := [] }) (e := Exit.ret) pok [.st (.mask [4]), .st (.trim 0)] [.b true, .b false, .b true] (by kernel_rfl) (.c (show decide (0 < 4) = true from rfl) (.c (show inR 0 4 = true from rfl) (.c (show inR 0 4 = true from rfl) (.c hc0 (.c (show inR 0 4 = true from rfl) (.c (show inR 0 4 = true from rfl) (.c hc1 .n)))))))) (by simp only [qdB, qdF, hc0, hc1, cond_true, cond_false, bodyFin]; first | done | rfl) (by simp only [qdB, qdF, hc0, hc1, cond_true, cond_false, bodyFin]; first | done | rfl)
  · exact CW.cast (CW.symX (s' := { t := mkT 44 0 [(4, int (-1))], h := [], m := [] }) (e := Exit.ret) pok [.st (.mask [4]), .st (.trim 0)] [.b true, .b true] (by kernel_rfl) (.c (show decide (0 < 4) = true from rfl) (.c (show inR 0 4 = true from rfl) (.c (show inR 0 4 = true from rfl) (.c hc0 .n))))) (by simp only [qdB, qdF, hc0, cond_true, cond_false, bodyFin]; first | done | rfl) (by simp only [qdB, qdF, hc0, cond_true, cond_false, bodyFin]; first | done | rfl)
theorem qd_1 {a b : QuT} : (CW Tryz.prog Γ0 [] false (sub Tryz.f10 0) (qdS a b 1) (qdB a b (a.st, b.st) 2).1 (qdB a b (a.st, b.st) 2).2) := by
  cases hc0 : decide (a.st < b.st)
  · cases hc1 : decide (a.st > b.st)
    · exact CW.cast (CW.symX (s' := { t := mkT 44 0 [(4, int 0), (5, .ref (.ptr 2 0)), (6, .ref (.ptr 3 0)), (7, int (IntKind.wrap IntKind.i64 (1 + 1)))], h := [.var [int a.kind, int a.st, int a.obj, int a.term], .var [int b.kind, int b.st, int b.obj, int b.term], .var [int a.kind, int a.st, int a.obj, int a.term], .var [int b.kind, int b.st, int b.obj, int b.term]], m := [] }) (e := Exit.normal) pok [.st (.mask [4, 5, 6, 7])] [.b true, .b false, .b false] (by kernel_rfl) (.c (show decide (1 < 4) = true from rfl) (.c (show inR 1 4 = true from rfl) (.c (show inR 1 4 = true from rfl) (.c hc0 (.c (show inR 1 4 = true from rfl) (.c (show inR 1 4 = true from rfl) (.c hc1 .n)))))))) (by simp only [qdB, qdF, hc0, hc1, cond_true, cond_false, bodyFin]; first | done | rfl) (by simp only [qdB, qdF, hc0, hc1, cond_true, cond_false, bodyFin]; first | done | rfl)
    · exact CW.cast (CW.symX (s' := { t := mkT 44 0 [(4, int 1)], h := [], m := [] }) (e := Exit.ret) pok [.st (.mask [4]), .st (.trim 0)] [.b true, .b false, .b true] (by kernel_rfl) (.c (show decide (1 < 4) = true from rfl) (.c (show inR 1 4 = true from rfl) (.c (show inR 1 4 = true from rfl) (.c hc0 (.c (show inR 1 4 = true from rfl) (.c (show inR 1 4 = true from rfl) (.c hc1 .n)))))))) (by simp only [qdB, qdF, hc0, hc1, cond_true, cond_false, bodyFin]; first | done | rfl) (by simp only [qdB, qdF, hc0, hc1, cond_true, cond_false, bodyFin]; first | done | rfl)
  · exact CW.cast (CW.symX (s' := { t := mkT 44 0 [(4, int (-1))], h := [], m := [] }) (e := Exit.ret) pok [.st (.mask [4]), .st (.trim 0)] [.b true, .b true] (by kernel_rfl) (.c (show decide (1 < 4) = true from rfl) (.c (show inR 1 4 = true from rfl) (.c (show inR 1 4 = true from rfl) (.c hc0 .n))))) (by simp only [qdB, qdF, hc0, cond_true, cond_false, bodyFin]; first | done | rfl) (by simp only [qdB, qdF, hc0, cond_true, cond_false, bodyFin]; first | done | rfl)
theorem qd_2 {a b : QuT} : (CW Tryz.prog Γ0 [] false (sub Tryz.f10 0) (qdS a b 2) (qdB a b (a.obj, b.obj) 3).1 (qdB a b (a.obj, b.obj) 3).2) := by
  cases hc0 : decide (a.obj < b.obj)
  · cases hc1 : decide (a.obj > b.obj)
    · exact CW.cast (CW.symX (s' := { t := mkT 44 0 [(4, int 0), (5, .ref (.ptr 2 0)), (6, .ref (.ptr 3 0)), (7, int (IntKind.wrap IntKind.i64 (2 + 1)))], h := [.var [int a.kind, int a.st, int a.obj, int a.term], .var [int b.kind, int b.st, int b.obj, int b.term], .var [int a.kind, int a.st, int a.obj, int a.term], .var [int b.kind, int b.st, int b.obj, int b.term]], m := [] }) (e := Exit.normal) pok [.st (.mask [4, 5, 6, 7])] [.b true, .b false, .b false] (by kernel_rfl) (.c (show decide (2 < 4) = true from rfl) (.c (show inR 2 4 = true from rfl) (.c (show inR 2 4 = true from rfl) (.c hc0 (.c (show inR 2 4 = true from rfl) (.c (show inR 2 4 = true from rfl) (.c hc1 .n)))))))) (by simp only [qdB, qdF, hc0, hc1, cond_true, cond_false, bodyFin]; first | done | rfl) (by simp only [qdB, qdF, hc0, hc1, cond_true, cond_false, bodyFin]; first | done | rfl)
    · exact CW.cast (CW.symX (s' := { t := mkT 44 0 [(4, int 1)], h := [], m := [] }) (e := Exit.ret) pok [.st (.mask [4]), .st (.trim 0)] [.b true, .b false, .b true] (by kernel_rfl) (.c (show decide (2 < 4) = true from rfl) (.c (show inR 2 4 = true from rfl) (.c (show inR 2 4 = true from rfl) (.c hc0 (.c (show inR 2 4 = true from rfl) (.c (show inR 2 4 = true from rfl) (.c hc1 .n)))))))) (by simp only [qdB, qdF, hc0, hc1, cond_true, cond_false, bodyFin]; first | done | rfl) (by simp only [qdB, qdF, hc0, hc1, cond_true, cond_false, bodyFin]; first | done | rfl)
  · exact CW.cast (CW.symX (s' := { t := mkT 44 0 [(4, int (-1))], h := [], m := [] }) (e := Exit.ret) pok [.st (.mask [4]), .st (.trim 0)] [.b true, .b true] (by kernel_rfl) (.c (show decide (2 < 4) = true from rfl) (.c (show inR 2 4 = true from rfl) (.c (show inR 2 4 = true from rfl) (.c hc0 .n))))) (by simp only [qdB, qdF, hc0, cond_true, cond_false, bodyFin]; first | done | rfl) (by simp only [qdB, qdF, hc0, cond_true, cond_false, bodyFin]; first | done | rfl)
theorem qd_3 {a b : QuT} : (CW Tryz.prog Γ0 [] false (sub Tryz.f10 0) (qdS a b 3) (qdB a b (a.term, b.term) 4).1 (qdB a b (a.term, b.term) 4).2) := by
  cases hc0 : decide (a.term < b.term)
  · cases hc1 : decide (a.term > b.term)
    · exact CW.cast (CW.symX (s' := { t := mkT 44 0 [(4, int 0), (5, .ref (.ptr 2 0)), (6, .ref (.ptr 3 0)), (7, int (IntKind.wrap IntKind.i64 (3 + 1)))], h := [.var [int a.kind, int a.st, int a.obj, int a.term], .var [int b.kind, int b.st, int b.obj, int b.term], .var [int a.kind, int a.st, int a.obj, int a.term], .var [int b.kind, int b.st, int b.obj, int b.term]], m := [] }) (e := Exit.normal) pok [.st (.mask [4, 5, 6, 7])] [.b true, .b false, .b false] (by kernel_rfl) (.c (show decide (3 < 4) = true from rfl) (.c (show inR 3 4 = true from rfl) (.c (show inR 3 4 = true from rfl) (.c hc0 (.c (show inR 3 4 = true from rfl) (.c (show inR 3 4 = true from rfl) (.c hc1 .n)))))))) (by simp only [qdB, qdF, hc0, hc1, cond_true, cond_false, bodyFin]; first | done | rfl) (by simp only [qdB, qdF, hc0, hc1, cond_true, cond_false, bodyFin]; first | done | rfl)
    · exact CW.cast (CW.symX (s' := { t := mkT 44 0 [(4, int 1)], h := [], m := [] }) (e := Exit.ret) pok [.st (.mask [4]), .st (.trim 0)] [.b true, .b false, .b true] (by kernel_rfl) (.c (show decide (3 < 4) = true from rfl) (.c (show inR 3 4 = true from rfl) (.c (show inR 3 4 = true from rfl) (.c hc0 (.c (show inR 3 4 = true from rfl) (.c (show inR 3 4 = true from rfl) (.c hc1 .n)))))))) (by simp only [qdB, qdF, hc0, hc1, cond_true, cond_false, bodyFin]; first | done | rfl) (by simp only [qdB, qdF, hc0, hc1, cond_true, cond_false, bodyFin]; first | done | rfl)
  · exact CW.cast (CW.symX (s' := { t := mkT 44 0 [(4, int (-1))], h := [], m := [] }) (e := Exit.ret) pok [.st (.mask [4]), .st (.trim 0)] [.b true, .b true] (by kernel_rfl) (.c (show decide (3 < 4) = true from rfl) (.c (show inR 3 4 = true from rfl) (.c (show inR 3 4 = true from rfl) (.c hc0 .n))))) (by simp only [qdB, qdF, hc0, cond_true, cond_false, bodyFin]; first | done | rfl) (by simp only [qdB, qdF, hc0, cond_true, cond_false, bodyFin]; first | done | rfl)
theorem qd_4 {a b : QuT} : (CW Tryz.prog Γ0 [] false (sub Tryz.f10 0) (qdS a b 4) (.exit 0) (qdX 0)) := by
  exact CW.cast (CW.symX (s' := { t := mkT 44 0 [(4, int 0)], h := [], m := [] }) (e := Exit.exit 0) pok [.st (.mask [4]), .st (.trim 0)] [.b false] (by kernel_rfl) (.c (show decide (4 < 4) = false from rfl) .n)) (by rfl) (by rfl)
def qdL (a b : QuT) : List (Int × Int) := [(a.kind, b.kind), (a.st, b.st), (a.obj, b.obj), (a.term, b.term)]
def qdR (a b : QuT) : Unit ⊕ Int := forL qdF (qdL a b) ()
def qdFin (a b : QuT) : Exit × AS := eachFin (.exit 0) (fun _ : Unit => qdX 0) (fun n : Int => (.ret, qdX n)) (qdR a b)
theorem qd_cw {a b : QuT} : CW Tryz.prog Γ0 [] false (.loop (sub Tryz.f10 0)) (qdS a b 0) (qdFin a b).1 (qdFin a b).2 := by
  refine CW.each (qdL a b) qdF (fun i _ => qdS a b (i : Int)) (.exit 0) (fun _ => qdX 0) (fun n : Int => (.ret, qdX n)) (fun _ _ => True) (by simp) (fun _ => by simp) ?_ ?_ () trivial
  · intro i p u hp _
    refine ⟨fun _ _ => trivial, ?_⟩
    match i, hp with
    | 0, hp => cases hp; exact qd_0
    | 1, hp => cases hp; exact qd_1
    | 2, hp => cases hp; exact qd_2
    | 3, hp => cases hp; exact qd_3
    | _ + 4, hp => simp [qdL] at hp
  · intro u _
    exact qd_4
def qdV (a b : QuT) : Int := match qdR a b with
  | .inl _ => 0
  | .inr n => n
theorem rcmp_a {a b : QuT} (h : List Blk) : (Ev Tryz.prog Γ0 10 [ag a.row, ag b.row] h (int (qdV a b)) h) := by
  have hl0 := (@qd_cw (a) (b))
  unfold qdFin at hl0
  revert hl0
  cases ho1 : qdR a b with
  | inl o1_0_0 =>
    intro hl0
    exact Ev.castH (Ev.sym0 (d := int 0) pok [.sum [4, 5, 6, 7] (Exit.exit 0) { t := mkT 44 0 [(4, int 0)], h := [], m := [] }] (by kernel_rfl) (.c hl0 .n) rfl rfl h) (by (unfold qdV; rw [ho1])) (by rfl)
  | inr o1_1_0 =>
    intro hl0
    exact Ev.castH (Ev.sym0 (d := int o1_1_0) pok [.sum [4, 5, 6, 7] (Exit.ret) { t := mkT 44 0 [(4, int o1_1_0)], h := [], m := [] }] (by kernel_rfl) (.c hl0 .n) rfl rfl h) (by (unfold qdV; rw [ho1])) (by rfl)
theorem qdF_z {x y : Int} {u : Unit} (h : (cmpI x y != 0) = false) : qdF (x, y) u = .inl () := by
  have h' : cmpI x y = 0 := by simpa using h
  obtain rfl := (cmpI_zero x y).1 h'
  simp [qdF]
theorem qdF_n {x y : Int} {u : Unit} (h : (cmpI x y != 0) = true) : qdF (x, y) u = .inr (cmpI x y) := by
  unfold cmpI at h ⊢
  unfold qdF
  by_cases h1 : x < y
  · simp [h1]
  · by_cases h2 : x > y
    · simp [h1, h2]
    · simp [h1, h2] at h
theorem qdV_eq (a b : QuT) : qdV a b = cmpQ a b := by
  unfold qdV qdR qdL cmpQ orQ
  cases h0 : (cmpI a.kind b.kind != 0)
  · simp only [forL, qdF_z h0, cond_false]
    cases h1 : (cmpI a.st b.st != 0)
    · simp only [qdF_z h1, cond_false]
      cases h2 : (cmpI a.obj b.obj != 0)
      · simp only [qdF_z h2, cond_false]
        cases h3 : (cmpI a.term b.term != 0)
        · simp only [qdF_z h3]
          have : cmpI a.term b.term = 0 := by simpa using h3
          exact this.symm
        · simp only [qdF_n h3]
      · simp only [qdF_n h2, cond_true]
    · simp only [qdF_n h1, cond_true]
  · simp only [forL, qdF_n h0, cond_true]
end Go.Vi
