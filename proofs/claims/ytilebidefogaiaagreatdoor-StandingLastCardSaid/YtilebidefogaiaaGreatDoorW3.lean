/- StandingLast: part of the proof: contracts of the functions that the law reaches, and the law. No conditions beyond the given statement's own. -/
import Derived.Test.YtilebidefogaiaaGreatDoorW2
import Derived.Test.YtilebidefogaiaaGreatDoorCards
import Derived.Test.YtilebidefogaiaaGreatDoorTie
import Derived.WalkKit
import Derived.ProofKit
import Derived.OpenShut
import Derived.Deep.DeepHandedRow
import Derived.Lib.LaidTab
open Go Go.Proofs
namespace Go.Vi
set_option maxRecDepth 100000

theorem forL_none {α : Type} {p : α → Bool} {f : α → Unit → Unit ⊕ Unit} (hf : ∀ a, f a () = if p a = true then .inr () else .inl ()) : ∀ {l : List α}, (∀ a ∈ l, p a = false) → forL f l () = .inl ()
  | [], _ => rfl
  | a :: l, h => by
    simp only [forL, hf, h a (by simp)]
    exact forL_none hf fun b hb => h b (by simp [hb])

/-- Behind the last none. -/
theorem lastN_after {α : Type} {p : α → Bool} {l : List α} : ∀ n, ∀ i a, lastN p l n ≤ i → i < n → l[i]? = some a → p a = false
  | 0, i, a, _, h, _ => by omega
  | n + 1, i, a, h1, h2, h3 => by
    unfold lastN at h1
    split at h1
    · rename_i b hb
      cases hp : p b
      · simp only [hp, Bool.false_eq_true, if_false] at h1
        by_cases hi : i = n
        · subst hi; rw [h3] at hb; cases hb; exact hp
        · exact lastN_after n i a h1 (by omega) h3
      · simp only [hp, if_true] at h1; omega
    · by_cases hi : i = n
      · subst hi; simp_all
      · exact lastN_after n i a h1 (by omega) h3
theorem lastIx_after {α : Type} {p : α → Bool} {l : List α} : ∀ a ∈ l.drop (lastIx p l), p a = false := by
  intro a ha
  obtain ⟨i, hi⟩ := List.getElem?_of_mem ha
  rw [List.getElem?_drop] at hi
  exact lastN_after l.length _ a (Nat.le_add_right _ _) (List.getElem?_eq_some_iff.1 hi).1 hi
theorem lastN_has {α : Type} {p : α → Bool} {l : List α} : ∀ n, 0 < lastN p l n → ∃ a, l[lastN p l n - 1]? = some a ∧ p a = true
  | 0, h => by simp [lastN] at h
  | n + 1, h => by
    unfold lastN at h ⊢
    split
    · rename_i b hb
      rw [hb] at h
      cases hp : p b
      · simp only [hp, Bool.false_eq_true, if_false] at h ⊢
        exact lastN_has n h
      · simp only [if_true]
        exact ⟨b, by simpa using hb, hp⟩
    · rename_i hb
      rw [hb] at h
      exact lastN_has n h

theorem at_last {α : Type} [Inhabited α] {p : α → Bool} {l : List α} (hl : Short l) (h : 0 < (lastIx p l : Int)) : p (l.getD (Int.toNat (IntKind.i64.wrap ((lastIx p l : Int) - 1))) default) = true := by
  have hle := lastIx_le p l
  unfold Short at hl
  obtain ⟨a, h1, h2⟩ := lastN_has (p := p) (l := l) l.length (by unfold lastIx at h; omega)
  rw [wrap_i64 (by omega) (by omega), show Int.toNat ((lastIx p l : Int) - 1) = lastN p l l.length - 1 by unfold lastIx; omega, List.getD_eq_getElem?_getD, h1]
  exact h2

theorem holdsL_eq {x n d : Int} {c : Cls} (h1 : errR n d = 0) (h2 : errR c.num c.den = 0) : holdsL x n d c = holdsB x n d c := by
  unfold holdsL holdsB
  rw [cmpR_good h2 h1]
  simp

theorem last_true {s : Vi.Sys} (hs : s.ok) (x n d : Int) : lastP s x n d = true := by
  unfold lastP
  cases hf : few s
  · rfl
  simp only [Bool.not_true, cond_false]
  cases ha : errS s != 0 || !amt x
  case true =>
    have ha' : (errS s != 0 || decide (x < 0) || decide (x > 10000)) = true := by rw [← amt_eq]; exact ha
    rw [ha']
    have e1 : ∀ l, ofR s l x n d = (0, 1) := fun l => by unfold ofR; rw [ha]; rfl
    have e2 : feeR s x = (0, 1) := by unfold feeR; rw [ha]; rfl
    simp [e1, e2]
  have ha' : (errS s != 0 || decide (x < 0) || decide (x > 10000)) = false := by rw [← amt_eq]; exact ha
  rw [ha']
  simp only [cond_false]
  have e2 : feeR s x = ((lastIx (fun f : FeeT => decide (f.credits ≤ x)) s.fees : Int), 0) := by unfold feeR; rw [ha]; rfl
  have hle := lastIx_le (fun f : FeeT => decide (f.credits ≤ x)) s.fees
  have c3 : ((feeR s x).2 != 0 || decide ((feeR s x).1 < 0) || decide ((feeR s x).1 > ((s.fees.map FeeT.row).length : Int)) || decide ((feeR s x).1 > 0) && decide ((s.fees.getD (Int.toNat (IntKind.i64.wrap ((feeR s x).1 - 1))) default).credits > x)) = false := by
    rw [e2]
    simp only [Bool.or_eq_false_iff, bne_self_eq_false, decide_eq_false_iff_not, List.length_map, true_and, Bool.and_eq_false_imp, decide_eq_true_eq]
    refine ⟨⟨by omega, by omega⟩, fun h => ?_⟩
    have := at_last hs.lf h
    simp only [decide_eq_true_eq] at this
    omega
  rw [c3]
  simp only [cond_false]
  have o4 : forL (llF x) (s.fees.drop (Int.toNat (feeR s x).1)) () = .inl () := by
    refine forL_none (p := fun f : FeeT => decide (f.credits ≤ x)) (fun a => rfl) ?_
    rw [e2]
    exact lastIx_after
  rw [o4]
  simp only
  cases h5 : errR n d != 0
  case true =>
    have e1 : ∀ l, ofR s l x n d = (0, errR n d) := fun l => by unfold ofR; rw [ha, h5]; rfl
    simp [e1]
  simp only [cond_false]
  have hnd : errR n d = 0 := by simpa using h5
  have e1 : ∀ l, ofR s l x n d = ((lastIx (holdsB x n d) l : Int), 0) := fun l => by unfold ofR; rw [ha, h5]; rfl
  have he : errS s = 0 := by
    simp only [Bool.or_eq_false_iff, bne_eq_false_iff_eq] at ha
    exact ha.1
  have hbad : badT s = false := errT_zero (by rw [← err_eq hs]; exact he)
  have hc1 : s.classes.any wrongV = false := by simp only [badT, Bool.or_eq_false_iff, Bool.not_not] at hbad; exact hbad.2.1
  have hc2 : s.honours.any wrongV = false := by simp only [badT, Bool.or_eq_false_iff, Bool.not_not] at hbad; exact hbad.2.2
  have l1 := lastIx_le (holdsB x n d) s.classes
  have l2 := lastIx_le (holdsB x n d) s.honours
  have key : ∀ l : List Cls, Short l → l.any wrongV = false → 0 < (lastIx (holdsB x n d) l : Int) → holdsL x n d (l.getD (Int.toNat (IntKind.i64.wrap ((lastIx (holdsB x n d) l : Int) - 1))) default) = true := by
    intro l hl hw hk
    have h1 := at_last hl hk
    have hle := lastIx_le (holdsB x n d) l
    unfold Short at hl
    have hlt : Int.toNat (IntKind.i64.wrap ((lastIx (holdsB x n d) l : Int) - 1)) < l.length := by rw [wrap_i64 (by omega) (by omega)]; omega
    rw [holdsL_eq hnd]
    · exact h1
    · refine notWrong hw _ ?_
      rw [List.getD_eq_getElem?_getD, List.getElem?_eq_getElem hlt]
      exact List.getElem_mem hlt
  have c6 : ((ofR s s.classes x n d).2 != 0 || (ofR s s.honours x n d).2 != 0 || decide ((ofR s s.classes x n d).1 < 0) || decide ((ofR s s.classes x n d).1 > ((s.classes.map Cls.row).length : Int)) || decide ((ofR s s.honours x n d).1 < 0) ||
        decide ((ofR s s.honours x n d).1 > ((s.honours.map Cls.row).length : Int)) || decide ((ofR s s.classes x n d).1 > 0) && !holdsL x n d (s.classes.getD (Int.toNat (IntKind.i64.wrap ((ofR s s.classes x n d).1 - 1))) default) ||
        decide ((ofR s s.honours x n d).1 > 0) && !holdsL x n d (s.honours.getD (Int.toNat (IntKind.i64.wrap ((ofR s s.honours x n d).1 - 1))) default)) = false := by
    rw [e1, e1]
    simp only [Bool.or_eq_false_iff, bne_self_eq_false, decide_eq_false_iff_not, List.length_map, true_and, Bool.and_eq_false_imp, decide_eq_true_eq, Bool.not_eq_false']
    exact ⟨⟨⟨⟨⟨by omega, by omega⟩, by omega⟩, by omega⟩, fun h => key _ hs.lc hc1 h⟩, fun h => key _ hs.lh hc2 h⟩
  rw [c6]
  simp only [cond_false]
  have o : ∀ l : List Cls, l.any wrongV = false → forL (llC x n d) (l.drop (Int.toNat (ofR s l x n d).1)) () = .inl () := by
    intro l hw
    refine forL_none (p := holdsL x n d) (fun a => rfl) ?_
    rw [e1]
    intro a ha
    have hm : a ∈ l := List.mem_of_mem_drop ha
    rw [holdsL_eq hnd (notWrong hw a hm)]
    exact lastIx_after a ha
  rw [o _ hc1, o _ hc2]

theorem ofR_bound (s : Vi.Sys) (l : List Cls) (x n d : Int) : 0 ≤ (ofR s l x n d).1 ∧ (ofR s l x n d).1 ≤ l.length := by
  have := lastIx_le (holdsB x n d) l
  unfold ofR
  split
  · exact ⟨Int.le_refl _, by simp⟩
  · split
    · exact ⟨Int.le_refl _, by simp⟩
    · exact ⟨by simp, by simpa using this⟩
theorem feeR_bound (s : Vi.Sys) (x : Int) : 0 ≤ (feeR s x).1 ∧ (feeR s x).1 ≤ s.fees.length := by
  have := lastIx_le (fun f : FeeT => decide (f.credits ≤ x)) s.fees
  unfold feeR
  split
  · exact ⟨Int.le_refl _, by simp⟩
  · exact ⟨by simp, by simpa using this⟩

theorem standingLast_ev {s : Vi.Sys} (hs : s.ok) {x n d : Int} (hn : I64 n) (hd : I64 d) (h : List Blk) : Ev Tryz.prog Γ0 9 [.agg s.cells, int x, .agg [int n, int d]] h (bool true) h := by
  have := last_ev hs (x := x) hn hd h (cutR_eq _ _ _) (hs.lf.drop _) (cutR_eq _ _ _) (hs.lc.drop _) (fun c hc => hs.c c (List.mem_of_mem_drop hc)) (cutR_eq _ _ _) (hs.lh.drop _) (fun c hc => hs.h c (List.mem_of_mem_drop hc))
    (feeR_bound s x) (ofR_bound s _ x n d) (ofR_bound s _ x n d)
  rwa [last_true hs] at this
end Go.Vi

open Go Go.Proofs
namespace Go.Vi
set_option maxRecDepth 100000
set_option maxHeartbeats 400000

theorem standingSpec_ev {s : Vi.Sys} (hs : s.ok) {x n d : Int} (hn : I64 n) (hd : I64 d) (h : List Blk) : Ev Tryz.prog Γ0 7 [.agg s.cells, int x, .agg [int n, int d]] h (bool true) h := by
  have e0 := sane21_ev (hLast s n d)
  have e1 := few_ev s (hLast s n d)
  cases hf : few s
  · rw [hf] at e1
    exact Ev.sym0 pok (φ := [Ev Tryz.prog Γ0 35 [] (hLast s n d) (bool true) (hLast s n d), (!true) = false, Ev Tryz.prog Γ0 36 [.agg s.cells] (hLast s n d) (bool false) (hLast s n d), (!false) = true])
      [.val (bool true), .b false, .val (bool false), .b true] (by kernel_rfl) ⟨e0, rfl, e1, rfl, trivial⟩ rfl rfl h
  · rw [hf] at e1
    have c1 := class_ev hs (earned := x) hn hd (hLast s n d)
    have c2 := rclass_ev hs (earned := x) hn hd (hLast s n d)
    have c3 := honour_ev hs (earned := x) hn hd (hLast s n d)
    have c4 := rhonour_ev hs (earned := x) hn hd (hLast s n d)
    have c5 := fee_ev hs x (hLast s n d)
    have c6 := rfee_ev hs x (hLast s n d)
    have c7 := sCheck_ev hs (hLast s n d)
    have c8 := tCheck_ev hs (hLast s n d)
    rw [class_eq hs] at c1
    rw [honour_eq hs] at c3
    rw [fee_eq hs] at c5
    rw [err_eq hs] at c7
    generalize lastR s s.classes x n d = r1 at c1 c2
    generalize lastR s s.honours x n d = r2 at c3 c4
    generalize rfeeR s x = r3 at c5 c6
    generalize errT s = r4 at c7 c8
    have key := Ev.sym0 (P := Tryz.prog) (Γ := Γ0) (f := 7) (args := [.agg s.cells, int x, .agg [int n, int d]]) (d := bool (r1.1 == r1.1 && r1.2 == r1.2 && r2.1 == r2.1 && r2.2 == r2.2 && r3.1 == r3.1 && r3.2 == r3.2 && r4 == r4)) pok
      (φ := [Ev Tryz.prog Γ0 35 [] (hLast s n d) (bool true) (hLast s n d), (!true) = false, Ev Tryz.prog Γ0 36 [.agg s.cells] (hLast s n d) (bool true) (hLast s n d), (!true) = false,
        Ev Tryz.prog Γ0 37 [.agg s.cells, int x, .agg [int n, int d]] (hLast s n d) (tupR r1) (hLast s n d), Ev Tryz.prog Γ0 38 [.agg s.cells, int x, .agg [int n, int d]] (hLast s n d) (tupR r1) (hLast s n d),
        Ev Tryz.prog Γ0 39 [.agg s.cells, int x, .agg [int n, int d]] (hLast s n d) (tupR r2) (hLast s n d), Ev Tryz.prog Γ0 40 [.agg s.cells, int x, .agg [int n, int d]] (hLast s n d) (tupR r2) (hLast s n d),
        Ev Tryz.prog Γ0 41 [.agg s.cells, int x] (hLast s n d) (tupR r3) (hLast s n d), Ev Tryz.prog Γ0 42 [.agg s.cells, int x] (hLast s n d) (tupR r3) (hLast s n d),
        (r1.1 == r1.1 && r1.2 == r1.2 && r2.1 == r2.1 && r2.2 == r2.2 && r3.1 == r3.1 && r3.2 == r3.2) = true → Ev Tryz.prog Γ0 43 [.agg s.cells] (hLast s n d) (int r4) (hLast s n d),
        (r1.1 == r1.1 && r1.2 == r1.2 && r2.1 == r2.1 && r2.2 == r2.2 && r3.1 == r3.1 && r3.2 == r3.2) = true → Ev Tryz.prog Γ0 44 [.agg s.cells] (hLast s n d) (int r4) (hLast s n d)])
      [.val (bool true), .b false, .val (bool true), .b false, .val (tupR r1), .val (tupR r1), .val (tupR r2), .val (tupR r2), .val (tupR r3), .val (tupR r3), .val (int r4), .val (int r4)] (by kernel_rfl)
      ⟨e0, rfl, e1, rfl, c1, c2, c3, c4, c5, c6, fun _ => c7, fun _ => c8, trivial⟩ rfl rfl h
    simpa using key
end Go.Vi
open Go Go.Proofs
namespace Go.Vi
open Go.ChangeShapes Go.WideShapes Go.ChangeAt Go.RowKit Go.Proofs.YtilebidefogaiaaGreatDoor
set_option maxRecDepth 100000

theorem cells3 : Tryz.prog.cellsOf 3 = 1 := by kernel_rfl
theorem cells9 : Tryz.prog.cellsOf 9 = 1 := by kernel_rfl
theorem cells35 : Tryz.prog.cellsOf 35 = 2 := by kernel_rfl
theorem cells72 : Tryz.prog.cellsOf 72 = 1 := by kernel_rfl
theorem cells73 : Tryz.prog.cellsOf 73 = 1 := by kernel_rfl
theorem cells74 : Tryz.prog.cellsOf 74 = 1 := by kernel_rfl
theorem cells76 : Tryz.prog.cellsOf 76 = 4 := by kernel_rfl
theorem cells87 : Tryz.prog.cellsOf 87 = 2 := by kernel_rfl
theorem cells91 : Tryz.prog.cellsOf 91 = 4 := by kernel_rfl
theorem bytes91 : Tryz.prog.bytesOf 91 = 40 := by kernel_rfl
theorem bytes87 : Tryz.prog.bytesOf 87 = 24 := by kernel_rfl
theorem bytes102 : Tryz.prog.bytesOf 102 = 32 := by kernel_rfl
theorem plain21 : plainB Tryz.prog [3, 9, 35, 72, 73, 74, 76, 87, 91, 102] = true := by kernel_rfl

theorem shp_int {n : Nat} {ds : List Dp} (h : Shp Tryz.prog n 3 ds) : ∃ x, ds = [vi x] ∧ I64 x := by
  cases n with
  | zero => exact h.elim
  | succ n =>
    simp only [Shp, Tryz.underlying3] at h
    obtain ⟨x, rfl, hw⟩ := h
    refine ⟨x, rfl, ?_⟩
    have := bounds_i64 hw
    exact this

theorem shp_str {n : Nat} {ds : List Dp} (h : Shp Tryz.prog n 9 ds) : ∃ s, ds = [vs s] := by
  cases n with
  | zero => exact h.elim
  | succ n =>
    simp only [Shp, Tryz.underlying9] at h
    obtain ⟨s, rfl, _⟩ := h
    exact ⟨s, rfl⟩

theorem shp_ratio {n : Nat} {ds : List Dp} (h : Shp Tryz.prog n 35 ds) : ∃ a b, ds = [vi a, vi b] ∧ I64 a ∧ I64 b := by
  cases n with
  | zero => exact h.elim
  | succ n =>
    simp only [Shp, Tryz.underlying35, List.forall_mem_cons, cells3, cells35] at h
    obtain ⟨hl, h1, h2, _⟩ := h
    obtain ⟨a, e1, ha⟩ := shp_int h1
    obtain ⟨b, e2, hb⟩ := shp_int h2
    match ds, hl with
    | [x, y], _ =>
      simp at e1 e2
      subst e1; subst e2
      exact ⟨a, b, rfl, ha, hb⟩

theorem shp_class {n : Nat} {ds : List Dp} (h : Shp Tryz.prog n 91 ds) : ∃ c : Cls, ds = c.row ∧ c.ok := by
  cases n with
  | zero => exact h.elim
  | succ n =>
    simp only [Shp, Tryz.underlying91, List.forall_mem_cons, cells3, cells9, cells35, cells91] at h
    obtain ⟨hl, h1, h2, h3, _⟩ := h
    obtain ⟨s, e1⟩ := shp_str h1
    obtain ⟨x, e2, hx⟩ := shp_int h2
    obtain ⟨a, b, e3, ha, hb⟩ := shp_ratio h3
    match ds, hl with
    | [p, q, r, t], _ =>
      simp at e1 e2 e3
      obtain ⟨rfl, rfl⟩ := e3
      subst e1; subst e2
      exact ⟨⟨s, x, a, b⟩, rfl, hx, ha, hb⟩

theorem shp_fee {n : Nat} {ds : List Dp} (h : Shp Tryz.prog n 87 ds) : ∃ c : FeeT, ds = c.row ∧ I64 c.credits := by
  cases n with
  | zero => exact h.elim
  | succ n =>
    simp only [Shp, Tryz.underlying87, List.forall_mem_cons, cells3, cells9, cells87] at h
    obtain ⟨hl, h1, h2, _⟩ := h
    obtain ⟨s, e1⟩ := shp_str h1
    obtain ⟨x, e2, hx⟩ := shp_int h2
    match ds, hl with
    | [p, q], _ =>
      simp at e1 e2
      subst e1; subst e2
      exact ⟨⟨s, x⟩, rfl, hx⟩

theorem map_of {α : Type} {row : α → List Dp} {ok : α → Prop} : ∀ {es : List (List Dp)}, (∀ r ∈ es, ∃ a, r = row a ∧ ok a) → ∃ l : List α, es = l.map row ∧ ∀ a ∈ l, ok a
  | [], _ => ⟨[], rfl, by simp⟩
  | r :: es, h => by
    obtain ⟨a, rfl, ha⟩ := h r (List.mem_cons_self ..)
    obtain ⟨l, rfl, hl⟩ := map_of (fun r hr => h r (List.mem_cons_of_mem _ hr))
    exact ⟨a :: l, rfl, fun b hb => (List.mem_cons.1 hb).elim (fun e => e ▸ ha) (hl b)⟩

theorem short_of {n k : Nat} (h : n * k ≤ reachBytes) (hk : 1 ≤ k) : n ≤ 140737488355328 := by
  have : n ≤ n * k := Nat.le_mul_of_pos_right n hk
  unfold reachBytes at h
  omega

theorem shp_classes {n : Nat} {ds : List Dp} (h : Shp Tryz.prog n 72 ds) : ∃ l : List Cls, ds = [.sl (l.map Cls.row)] ∧ (∀ c ∈ l, c.ok) ∧ Short l := by
  cases n with
  | zero => exact h.elim
  | succ n =>
    simp only [Shp, Tryz.underlying72, bytes91] at h
    obtain ⟨es, rfl, hb, he⟩ := h
    obtain ⟨l, rfl, hl⟩ := map_of (row := Cls.row) (ok := Cls.ok) (fun r hr => shp_class (he r hr))
    exact ⟨l, rfl, hl, by have := short_of hb (by omega); simpa [Short] using this⟩

theorem shp_fees {n : Nat} {ds : List Dp} (h : Shp Tryz.prog n 73 ds) : ∃ l : List FeeT, ds = [.sl (l.map FeeT.row)] ∧ (∀ c ∈ l, I64 c.credits) ∧ Short l := by
  cases n with
  | zero => exact h.elim
  | succ n =>
    simp only [Shp, Tryz.underlying73, bytes87] at h
    obtain ⟨es, rfl, hb, he⟩ := h
    obtain ⟨l, rfl, hl⟩ := map_of (row := FeeT.row) (ok := fun c => I64 c.credits) (fun r hr => shp_fee (he r hr))
    exact ⟨l, rfl, hl, by have := short_of hb (by omega); simpa [Short] using this⟩

theorem shp_clauses {n : Nat} {ds : List Dp} (h : Shp Tryz.prog n 74 ds) : ∃ l, ds = [.sl l] ∧ Short l := by
  cases n with
  | zero => exact h.elim
  | succ n =>
    simp only [Shp, Tryz.underlying74, bytes102] at h
    obtain ⟨es, rfl, hb, _⟩ := h
    exact ⟨es, rfl, short_of hb (by omega)⟩

theorem shp_sys {n : Nat} {ds : List Dp} (h : Shp Tryz.prog n 76 ds) : ∃ s : Vi.Sys, ds.map .p = s.cells ∧ s.ok := by
  cases n with
  | zero => exact h.elim
  | succ n =>
    simp only [Shp, Tryz.underlying76, List.forall_mem_cons, cells72, cells73, cells74, cells76] at h
    obtain ⟨hl, h1, h2, h3, h4, _⟩ := h
    obtain ⟨a, e1, a1, a2⟩ := shp_classes h1
    obtain ⟨b, e2, b1, b2⟩ := shp_fees h2
    obtain ⟨c, e3, c1, c2⟩ := shp_classes h3
    obtain ⟨d, e4, d1⟩ := shp_clauses h4
    match ds, hl with
    | [p, q, r, t], _ =>
      simp at e1 e2 e3 e4
      subst e1; subst e2; subst e3; subst e4
      exact ⟨⟨a, b, c, d⟩, rfl, ⟨a1, c1, b1, a2, c2, b2, d1⟩⟩

/-- A struct that comes as an argument. -/
theorem arg_struct {H : Type} {enc : TypeId × Value → H} {W : World} {base : Nat} {t : TypeId} {fs : Array Field} {v : Value} {d : DataW H} {p : List MemPlace} (hu : Tryz.prog.underlying t = some (.struct fs)) (ht : t ∈ [3, 9, 35, 72, 73, 74, 76, 87, 91, 102])
    (hok : Value.okWide Tryz.prog W .any base t v) (h : DataW.Trod enc Tryz.prog W 0 (fun _ => true) true t v d p) (hw : (d.weights Tryz.prog t).all (· ≤ reachBytes) = true) :
    ∃ n ds, Shp Tryz.prog n t ds ∧ Rel W (avs (fun _ => False) (fun _ => none) []) (fun _ => none) [] (.agg (ds.map .p)) v := by
  unfold Value.okWide at hok
  rw [hu] at hok
  obtain ⟨cs, rfl, _, _⟩ := hok
  obtain ⟨fuel, hf⟩ := h
  obtain ⟨ds, h1, h2⟩ := open_plain plain21 av_start fuel t _ d p ht hf hw
  refine ⟨fuel, ds, h1, ?_⟩
  simp only [Rel]
  exact ⟨cs, rfl, h2.relL⟩
end Go.Vi
