/- StandingAlike: part of the proof. -/
import Derived.Test.YtilebidefogaiaaGreatDoorW2
import Derived.Shelf.Slices.In.SortAlone
import Derived.Shelf.Slices.In.SortNone
import Derived.Sort.EveryDepth
open Go Go.Proofs
namespace Go.Vi
set_option maxRecDepth 100000
set_option maxHeartbeats 4000000
structure CourseT where
 name : ByteArray
 number : Int
 credits : Int
 rep : Int
 need : RuleT
 bar : RuleT
def CourseT.row (c : CourseT) : List Dp := [vs c.name, vi c.number, vi c.credits, vi c.rep,
 vi c.need.fl.op, vi c.need.fl.c, vs c.need.fl.nm, vi c.need.fl.n, vi c.need.fl.d, .sl c.need.fl.ks, vi c.bar.fl.op, vi c.bar.fl.c, vs c.bar.fl.nm, vi c.bar.fl.n, vi c.bar.fl.d, .sl c.bar.fl.ks]
def CourseT.ok (c : CourseT) : Prop := c.need.ok ∧ c.bar.ok
def courseB (c : CourseT) : Bool := inB c.number 0 4095 && inB c.credits 1 60 && inB c.rep 0 2 && (ruleErr c.need.bad == 0) && (ruleErr c.bar.bad == 0)
noncomputable abbrev vcourse_ev_x0 (c : CourseT) : List Blk := [.var [strD c.name, int c.number, int c.credits, int c.rep, int (RuleT.fl c.need).op, int (RuleT.fl c.need).c, strD (RuleT.fl c.need).nm, int (RuleT.fl c.need).n, int (RuleT.fl c.need).d, rD (RuleT.fl c.need).ks, int (RuleT.fl c.bar).op, int (RuleT.fl c.bar).c, strD (RuleT.fl c.bar).nm, int (RuleT.fl c.bar).n, int (RuleT.fl c.bar).d, rD (RuleT.fl c.bar).ks]]
theorem vcourse_ev {c : CourseT} (hc : c.ok) (h : List Blk) : (Ev Tryz.prog Γk 198 [ag c.row] h (bool (courseB c)) h) := by
 refine Ev.castH (Ev.sym0 (d := bool (decide (c.number ≥ 0) && decide (c.number ≤ 4095) && (decide (c.credits ≥ 1) && decide (c.credits ≤ 60)) && (decide (c.rep ≥ 0) && decide (c.rep ≤ 2)) && ruleErr (RuleT.bad c.need) == 0 && ruleErr (RuleT.bad c.bar) == 0)) pok [.val (bool (decide (c.number ≥ 0) && decide (c.number ≤ 4095))), .val (bool (decide (c.credits ≥ 1) && decide (c.credits ≤ 60))), .val (bool (decide (c.rep ≥ 0) && decide (c.rep ≤ 2))), .val (int (ruleErr (RuleT.bad c.need))), .val (int (ruleErr (RuleT.bad c.bar)))] (by kernel_rfl) (.c (Ev.glob0 (Γ' := Γk) (@bin_ev (c.number) (0) (4095) ((vcourse_ev_x0 c)))) (.c (show (decide (c.number ≥ 0) && decide (c.number ≤ 4095)) = true → Ev Tryz.prog Γk 87 [int c.credits, int 1, int 60] (vcourse_ev_x0 c) (bool (decide (c.credits ≥ 1) && decide (c.credits ≤ 60))) (vcourse_ev_x0 c) from (fun hg => (Ev.glob0 (@bin_ev (c.credits) (1) (60) ((vcourse_ev_x0 c)))))) (.c (show (decide (c.number ≥ 0) && decide (c.number ≤ 4095) && (decide (c.credits ≥ 1) && decide (c.credits ≤ 60))) = true → Ev Tryz.prog Γk 87 [int c.rep, int 0, int 2] (vcourse_ev_x0 c) (bool (decide (c.rep ≥ 0) && decide (c.rep ≤ 2))) (vcourse_ev_x0 c) from (fun hg => (Ev.glob0 (@bin_ev (c.rep) (0) (2) ((vcourse_ev_x0 c)))))) (.c (show (decide (c.number ≥ 0) && decide (c.number ≤ 4095) && (decide (c.credits ≥ 1) && decide (c.credits ≤ 60)) && (decide (c.rep ≥ 0) && decide (c.rep ≤ 2))) = true → Ev Tryz.prog Γk 226 [D.agg [int (RuleT.fl c.need).op, int (RuleT.fl c.need).c, strD (RuleT.fl c.need).nm, int (RuleT.fl c.need).n, int (RuleT.fl c.need).d, rD (RuleT.fl c.need).ks]] (vcourse_ev_x0 c) (int (ruleErr (RuleT.bad c.need))) (vcourse_ev_x0 c) from (fun hg => (@rulesCheck_ev (c.need) ?_ ((vcourse_ev_x0 c))))) (.c (show (decide (c.number ≥ 0) && decide (c.number ≤ 4095) && (decide (c.credits ≥ 1) && decide (c.credits ≤ 60)) && (decide (c.rep ≥ 0) && decide (c.rep ≤ 2)) && ruleErr (RuleT.bad c.need) == 0) = true → Ev Tryz.prog Γk 226 [D.agg [int (RuleT.fl c.bar).op, int (RuleT.fl c.bar).c, strD (RuleT.fl c.bar).nm, int (RuleT.fl c.bar).n, int (RuleT.fl c.bar).d, rD (RuleT.fl c.bar).ks]] (vcourse_ev_x0 c) (int (ruleErr (RuleT.bad c.bar))) (vcourse_ev_x0 c) from (fun hg => (@rulesCheck_ev (c.bar) ?_ ((vcourse_ev_x0 c))))) .n))))) rfl rfl h) (by rfl) (by rfl) <;> (first | assumption | exact hc.1 | exact hc.2)
noncomputable abbrev vc197_ev_x0 (c : CourseT) (n : Int) : List Blk := [.var [int n], .var [strD c.name, int c.number, int c.credits, int c.rep, int (RuleT.fl c.need).op, int (RuleT.fl c.need).c, strD (RuleT.fl c.need).nm, int (RuleT.fl c.need).n, int (RuleT.fl c.need).d, rD (RuleT.fl c.need).ks, int (RuleT.fl c.bar).op, int (RuleT.fl c.bar).c, strD (RuleT.fl c.bar).nm, int (RuleT.fl c.bar).n, int (RuleT.fl c.bar).d, rD (RuleT.fl c.bar).ks]]
theorem vc197_ev {c : CourseT} (hc : c.ok) {n : Int} : (Ev Tryz.prog Γk 197 [ag c.row, .ref (.ptr 0 0)] [.var [int n]] (bool (c.number == n && courseB c)) [.var [int n]]) := by
 exact Ev.castH (Ev.symT (h' := [.var [int n]]) (d := bool (c.number == n && courseB c)) pok [.val (bool (courseB c))] (by kernel_rfl) (.c (show (c.number == n) = true → Ev Tryz.prog Γk 198 [D.agg [strD c.name, int c.number, int c.credits, int c.rep, int (RuleT.fl c.need).op, int (RuleT.fl c.need).c, strD (RuleT.fl c.need).nm, int (RuleT.fl c.need).n, int (RuleT.fl c.need).d, rD (RuleT.fl c.need).ks, int (RuleT.fl c.bar).op, int (RuleT.fl c.bar).c, strD (RuleT.fl c.bar).nm, int (RuleT.fl c.bar).n, int (RuleT.fl c.bar).d, rD (RuleT.fl c.bar).ks]] (vc197_ev_x0 c n) (bool (courseB c)) (vc197_ev_x0 c n) from (fun hg => (@vcourse_ev (c) (hc) ((vc197_ev_x0 c n))))) .n)) (by rfl) (by rfl)
structure WorldT where
 c : List CourseT
 p : List (List Dp)
 s : List SysT
 f : List FactT
def WorldT.l (w : WorldT) : List D := [rD (w.c.map CourseT.row), rD w.p, rD (w.s.map SysT.row), rD (w.f.map FactT.row)]
abbrev atA (w : WorldT) (kk ks ko term known : Int) : List D := [rD (w.f.map FactT.row), .agg [int kk, int ks, int ko], int term, int known]
abbrev readR (kk ks ko a b : Int) : List (List Dp) := [[vi kk, vi ks, vi ko, vi a, vi b]]
theorem rowAt_getD {α : Type} [Inhabited α] {row : α → List Dp} {l : List α} {v : Int} {sz : Nat} (hs : ∀ x, (row x).length = sz) (h0 : 0 ≤ v) (h1 : v < (l.length : Int)) : RowAt v (l.map row) (row (l.getD v.toNat default)) sz := by
 obtain ⟨n, rfl⟩ : ∃ n : Nat, v = n := ⟨v.toNat, by omega⟩
 have hn : n < l.length := by omega
 have hx : l[n]? = some l[n] := List.getElem?_eq_getElem hn
 have : l.getD (Int.toNat (n : Int)) default = l[n] := by simp [List.getD, hx]
 rw [this]
 exact rowAt hx (hs _)
def lookB {α : Type} [Inhabited α] (l : List α) (valid : α → Bool) (p : Int × Bool) : Bool := !p.2 || decide (p.1 < 0) || decide (p.1 ≥ (l.length : Int)) || !valid (l.getD p.1.toNat default)
def lookL {α : Type} [Inhabited α] (l : List α) (valid : α → Bool) (z : α) (p : Int × Bool) : α × Bool := match lookB l valid p with
 | true => (z, false)
 | false => (l.getD p.1.toNat default, true)
theorem lookB_mem {α : Type} [Inhabited α] {l : List α} {valid : α → Bool} {p : Int × Bool} (h : lookB l valid p = false) : l.getD p.1.toNat default ∈ l ∧ valid (l.getD p.1.toNat default) = true ∧ p.2 = true ∧ 0 ≤ p.1 ∧ p.1 < l.length := by
 unfold lookB at h
 simp only [Bool.or_eq_false_iff, Bool.not_eq_false', decide_eq_false_iff_not] at h
 obtain ⟨⟨⟨h1, h2⟩, h3⟩, h4⟩ := h
 refine ⟨?_, h4, h1, by omega, by omega⟩
 have : p.1.toNat < l.length := by omega
 rw [List.getD, List.getElem?_eq_getElem this]
 exact List.getElem_mem this
def SysT.zero : SysT := ⟨[], [], [], []⟩
abbrev sysZ : D := .agg [rD [], rD [], rD [], rD []]
noncomputable abbrev ls0_x0 (w : WorldT) : List Blk := [.var [rD (List.map CourseT.row w.c), rD w.p, rD (List.map SysT.row w.s), rD (List.map FactT.row w.f)], .var [int 4, int 0, int 0], .var [nq, nq, nq, nq]]
theorem ls0 {w : WorldT} {term known : Int} (ht : (!(decide (term ≥ 0) && decide (term ≤ 1023))) = true) (h : List Blk) : (Ev Tryz.prog Γk 104 [.agg w.l, rD (w.s.map SysT.row), .agg [int 4, int 0, int 0], int term, int known, fnv 105] h (.tup [sysZ, rD [], bool false]) h) := by
 exact Ev.castH (Ev.nilW (Ev.sym0 (d := D.tup [D.agg [nq, nq, nq, nq], nq, bool false]) pok [.val (bool (decide (term ≥ 0) && decide (term ≤ 1023))), .b true] (by kernel_rfl) (.c (Ev.glob0 (Γ' := Γk) (@bin_ev (term) (0) (1023) ((ls0_x0 w)))) (.c ht .n)) rfl rfl h)) (by rfl) (by rfl)
noncomputable abbrev ls1_x0 (w : WorldT) : List Blk := [.var [rD (List.map CourseT.row w.c), rD w.p, rD (List.map SysT.row w.s), rD (List.map FactT.row w.f)], .var [int 4, int 0, int 0], .var [nq, nq, nq, nq], .gone]
noncomputable abbrev ls1_x1 (w : WorldT) : List Blk := [.var [rD (List.map CourseT.row w.c), rD w.p, rD (List.map SysT.row w.s), rD (List.map FactT.row w.f)], .var [int 4, int 0, int 0], .var [nq, nq, nq, nq]]
theorem ls1 {w : WorldT} {term known v : Int} {b : Bool} (ht : (!(decide (term ≥ 0) && decide (term ≤ 1023))) = false) (hat : ∀ h, Ev Tryz.prog Γk 86 (atA w 4 0 0 term known) h (.tup [int v, bool b]) h) (hs : ∀ x ∈ w.s, x.ok) (h : List Blk) : (Ev Tryz.prog Γk 104 [.agg w.l, rD (w.s.map SysT.row), .agg [int 4, int 0, int 0], int term, int known, fnv 105] h (.tup [ag (lookL w.s sysB SysT.zero (v, b)).1.row, rD (readR 4 0 0 term (IntKind.i64.wrap (term + 1))), bool (lookL w.s sysB SysT.zero (v, b)).2]) h) := by
 cases hc0 : !b || decide (v < 0) || decide (v ≥ (↑(List.length (List.map SysT.row w.s)) : Int)) || !sysB (List.getD w.s (Int.toNat v) default)
 ·refine Ev.castH (Ev.nilW (Ev.sym0 (d := D.tup [D.agg [rD (List.map Cls.row (List.getD w.s (Int.toNat v) default).classes), rD (List.map FeeT.row (List.getD w.s (Int.toNat v) default).fees), rD (List.map Cls.row (List.getD w.s (Int.toNat v) default).honours), rD (List.map ClauseT.row (List.getD w.s (Int.toNat v) default).clauses)], rD [[vi 4, vi 0, vi 0, vi term, vi (IntKind.wrap IntKind.i64 (term + 1))]], bool true]) pok [.val (bool (decide (term ≥ 0) && decide (term ≤ 1023))), .b false, .nx 1, .st (.frz 3 (readR 4 0 0 term (IntKind.wrap IntKind.i64 (term + 1)))), .val (D.tup [int v, bool b]), .row [Dp.sl (List.map Cls.row (List.getD w.s (Int.toNat v) default).classes), Dp.sl (List.map FeeT.row (List.getD w.s (Int.toNat v) default).fees), Dp.sl (List.map Cls.row (List.getD w.s (Int.toNat v) default).honours), Dp.sl (List.map ClauseT.row (List.getD w.s (Int.toNat v) default).clauses)], .val (bool (sysB (List.getD w.s (Int.toNat v) default))), .b false, .row [Dp.sl (List.map Cls.row (List.getD w.s (Int.toNat v) default).classes), Dp.sl (List.map FeeT.row (List.getD w.s (Int.toNat v) default).fees), Dp.sl (List.map Cls.row (List.getD w.s (Int.toNat v) default).honours), Dp.sl (List.map ClauseT.row (List.getD w.s (Int.toNat v) default).clauses)]] (by kernel_rfl) (.c (Ev.glob0 (Γ' := Γk) (@bin_ev (term) (0) (1023) ((ls1_x1 w)))) (.c ht (.c (show [[int 4, int 0, int 0, int term, int (IntKind.wrap IntKind.i64 (term + 1))]] = [[int 4, int 0, int 0, int term, int (IntKind.wrap IntKind.i64 (term + 1))]] from rfl) (.c (@hat ((ls1_x0 w))) (.c (show (!(!b || decide (v < 0) || decide (v ≥ (↑(List.length (List.map SysT.row w.s)) : Int)))) = true → RowAt v (List.map SysT.row w.s) [Dp.sl (List.map Cls.row (List.getD w.s (Int.toNat v) default).classes), Dp.sl (List.map FeeT.row (List.getD w.s (Int.toNat v) default).fees), Dp.sl (List.map Cls.row (List.getD w.s (Int.toNat v) default).honours), Dp.sl (List.map ClauseT.row (List.getD w.s (Int.toNat v) default).clauses)] 4 from (fun hg => ?_)) (.c (show (!(!b || decide (v < 0) || decide (v ≥ (↑(List.length (List.map SysT.row w.s)) : Int)))) = true → Ev Tryz.prog Γk 105 [(ag (SysT.row (List.getD w.s (Int.toNat v) default)))] (ls1_x0 w) (bool (sysB (List.getD w.s (Int.toNat v) default))) (ls1_x0 w) from (fun hg => (Ev.glob0 (@validSys_ev (List.getD w.s (Int.toNat v) default) ?_ ((ls1_x0 w)))))) (.c hc0 (.c (show RowAt v (List.map SysT.row w.s) [Dp.sl (List.map Cls.row (List.getD w.s (Int.toNat v) default).classes), Dp.sl (List.map FeeT.row (List.getD w.s (Int.toNat v) default).fees), Dp.sl (List.map Cls.row (List.getD w.s (Int.toNat v) default).honours), Dp.sl (List.map ClauseT.row (List.getD w.s (Int.toNat v) default).clauses)] 4 from ?_) .n)))))))) rfl rfl h)) (by first | (have hb : lookB w.s sysB (v, b) = true := by rw [← hc0]; simp [lookB]); simp only [lookL, hb]; rfl | (have hb : lookB w.s sysB (v, b) = false := by rw [← hc0]; simp [lookB]); simp only [lookL, hb]; rfl) (by rfl) <;> (first | assumption | (refine rowAt_getD (fun _ => rfl) ?_ ?_ <;> simp_all; done) | (simp_all; done))
 ·refine Ev.castH (Ev.nilW (Ev.sym0 (d := D.tup [D.agg [nq, nq, nq, nq], rD [[vi 4, vi 0, vi 0, vi term, vi (IntKind.wrap IntKind.i64 (term + 1))]], bool false]) pok [.val (bool (decide (term ≥ 0) && decide (term ≤ 1023))), .b false, .nx 1, .st (.frz 3 (readR 4 0 0 term (IntKind.wrap IntKind.i64 (term + 1)))), .val (D.tup [int v, bool b]), .row [Dp.sl (List.map Cls.row (List.getD w.s (Int.toNat v) default).classes), Dp.sl (List.map FeeT.row (List.getD w.s (Int.toNat v) default).fees), Dp.sl (List.map Cls.row (List.getD w.s (Int.toNat v) default).honours), Dp.sl (List.map ClauseT.row (List.getD w.s (Int.toNat v) default).clauses)], .val (bool (sysB (List.getD w.s (Int.toNat v) default))), .b true] (by kernel_rfl) (.c (Ev.glob0 (Γ' := Γk) (@bin_ev (term) (0) (1023) ((ls1_x1 w)))) (.c ht (.c (show [[int 4, int 0, int 0, int term, int (IntKind.wrap IntKind.i64 (term + 1))]] = [[int 4, int 0, int 0, int term, int (IntKind.wrap IntKind.i64 (term + 1))]] from rfl) (.c (@hat ((ls1_x0 w))) (.c (show (!(!b || decide (v < 0) || decide (v ≥ (↑(List.length (List.map SysT.row w.s)) : Int)))) = true → RowAt v (List.map SysT.row w.s) [Dp.sl (List.map Cls.row (List.getD w.s (Int.toNat v) default).classes), Dp.sl (List.map FeeT.row (List.getD w.s (Int.toNat v) default).fees), Dp.sl (List.map Cls.row (List.getD w.s (Int.toNat v) default).honours), Dp.sl (List.map ClauseT.row (List.getD w.s (Int.toNat v) default).clauses)] 4 from (fun hg => ?_)) (.c (show (!(!b || decide (v < 0) || decide (v ≥ (↑(List.length (List.map SysT.row w.s)) : Int)))) = true → Ev Tryz.prog Γk 105 [(ag (SysT.row (List.getD w.s (Int.toNat v) default)))] (ls1_x0 w) (bool (sysB (List.getD w.s (Int.toNat v) default))) (ls1_x0 w) from (fun hg => (Ev.glob0 (@validSys_ev (List.getD w.s (Int.toNat v) default) ?_ ((ls1_x0 w)))))) (.c hc0 .n))))))) rfl rfl h)) (by first | (have hb : lookB w.s sysB (v, b) = true := by rw [← hc0]; simp [lookB]); simp only [lookL, hb]; rfl | (have hb : lookB w.s sysB (v, b) = false := by rw [← hc0]; simp [lookB]); simp only [lookL, hb]; rfl) (by rfl) <;> (first | assumption | (refine rowAt_getD (fun _ => rfl) ?_ ?_ <;> simp_all; done) | (simp_all; done))
structure WorldT.ok (w : WorldT) : Prop where
 c : ∀ x ∈ w.c, x.ok
 s : ∀ x ∈ w.s, x.ok
 lf : w.f.length ≤ 69000
 lc : Short w.c
 ls : Short w.s
 i : ∀ f ∈ w.f, f.ok
theorem WorldT.ok.sf {w : WorldT} (h : w.ok) : Short w.f := by have := h.lf; unfold Short; omega
def outB (term : Int) : Bool := !(decide (term ≥ 0) && decide (term ≤ 1023))
def systemR (w : WorldT) (term known : Int) : SysT × Bool := match outB term with
 | true => (SysT.zero, false)
 | false => lookL w.s sysB SysT.zero (atR 4 0 0 term known w.f)
def readsT (kk ks ko term : Int) : List (List Dp) := match outB term with
 | true => []
 | false => readR kk ks ko term (IntKind.i64.wrap (term + 1))
theorem lookSys_ev {w : WorldT} (hw : w.ok) {term known : Int} (h : List Blk) : Ev Tryz.prog Γk 104 [.agg w.l, rD (w.s.map SysT.row), .agg [int 4, int 0, int 0], int term, int known, fnv 105] h (.tup [ag (systemR w term known).1.row, rD (readsT 4 0 0 term), bool (systemR w term known).2]) h := by
 unfold systemR readsT
 cases ht : outB term with
 | true => exact ls0 ht h
 | false => exact ls1 ht (fun h => Ev.glob0 (at_ev hw.sf h)) hw.s h
noncomputable abbrev system_ev_x0 (w : WorldT) : List Blk := [.var [rD (List.map CourseT.row w.c), rD w.p, rD (List.map SysT.row w.s), rD (List.map FactT.row w.f)], .var [nq, nq, nq, nq]]
theorem system_evA {w : WorldT} (hw : w.ok) {term known : Int} (h : List Blk) : (Ev Tryz.prog Γk 52 [.agg w.l, int term, int known] h (.tup [ag (systemR w term known).1.row, rD (readsT 4 0 0 term)]) h) := by
 exact Ev.castH (Ev.sym0 (d := D.tup [D.agg [rD (List.map Cls.row (systemR w term known).fst.classes), rD (List.map FeeT.row (systemR w term known).fst.fees), rD (List.map Cls.row (systemR w term known).fst.honours), rD (List.map ClauseT.row (systemR w term known).fst.clauses)], rD (readsT 4 0 0 term)]) pok [.val (D.tup [(ag (SysT.row (systemR w term known).fst)), rD (readsT 4 0 0 term), bool (systemR w term known).snd])] (by kernel_rfl) (.c (@lookSys_ev (w) (hw) (term) (known) ((system_ev_x0 w))) .n) rfl rfl h) (by rfl) (by rfl)
def RuleT.zero : RuleT := .mk 0 0 ⟨#[]⟩ 0 0 []
def CourseT.zero : CourseT := ⟨⟨#[]⟩, 0, 0, 0, RuleT.zero, RuleT.zero⟩
instance : Inhabited CourseT := ⟨CourseT.zero⟩
theorem CourseT.zero_ok : CourseT.zero.ok := by
 have : RuleT.zero.ok := ⟨by unfold I64 Short; simp, trivial⟩
 exact ⟨this, this⟩
theorem courses_ok {l : List CourseT} (h : ∀ x ∈ l, x.ok) (n : Nat) : (l.getD n default).ok := by
 rcases Nat.lt_or_ge n l.length with hn | hn
 ·rw [List.getD, List.getElem?_eq_getElem hn]; exact h _ (List.getElem_mem hn)
 ·rw [List.getD, List.getElem?_eq_none hn]; exact CourseT.zero_ok
abbrev crsZ : D := ag CourseT.zero.row
def courseV (n : Int) (c : CourseT) : Bool := c.number == n && courseB c
noncomputable abbrev lc0_x0 (w : WorldT) (n : Int) : List Blk := [.var [int n], .var [rD (List.map CourseT.row w.c), rD w.p, rD (List.map SysT.row w.s), rD (List.map FactT.row w.f)], .var [int 1, int n, int 0], .var [strD { data := #[] }, int 0, int 0, int 0, int 0, int 0, strD { data := #[] }, int 0, int 0, nq, int 0, int 0, strD { data := #[] }, int 0, int 0, nq]]
theorem lc0 {w : WorldT} {n term known : Int} (ht : (!(decide (term ≥ 0) && decide (term ≤ 1023))) = true) : (Ev Tryz.prog Γk 199 [.agg w.l, rD (w.c.map CourseT.row), .agg [int 1, int n, int 0], int term, int known, .fn (.func 197) [] [.ref (.ptr 0 0)]] [.var [int n]] (.tup [crsZ, rD [], bool false]) [.var [int n]]) := by
 exact Ev.castH (Ev.nilW (Ev.symT (h' := [.var [int n]]) (d := D.tup [D.agg [strD { data := #[] }, int 0, int 0, int 0, int 0, int 0, strD { data := #[] }, int 0, int 0, nq, int 0, int 0, strD { data := #[] }, int 0, int 0, nq], nq, bool false]) pok [.val (bool (decide (term ≥ 0) && decide (term ≤ 1023))), .b true] (by kernel_rfl) (.c (Ev.glob0 (Γ' := Γk) (@bin_ev (term) (0) (1023) ((lc0_x0 w n)))) (.c ht .n)))) (by rfl) (by rfl)
noncomputable abbrev lc1_x0 (w : WorldT) (v : Int) : List D := [D.agg [strD (List.getD w.c (Int.toNat v) default).name, int (List.getD w.c (Int.toNat v) default).number, int (List.getD w.c (Int.toNat v) default).credits, int (List.getD w.c (Int.toNat v) default).rep, int (RuleT.fl (List.getD w.c (Int.toNat v) default).need).op, int (RuleT.fl (List.getD w.c (Int.toNat v) default).need).c, strD (RuleT.fl (List.getD w.c (Int.toNat v) default).need).nm, int (RuleT.fl (List.getD w.c (Int.toNat v) default).need).n, int (RuleT.fl (List.getD w.c (Int.toNat v) default).need).d, rD (RuleT.fl (List.getD w.c (Int.toNat v) default).need).ks, int (RuleT.fl (List.getD w.c (Int.toNat v) default).bar).op, int (RuleT.fl (List.getD w.c (Int.toNat v) default).bar).c, strD (RuleT.fl (List.getD w.c (Int.toNat v) default).bar).nm, int (RuleT.fl (List.getD w.c (Int.toNat v) default).bar).n, int (RuleT.fl (List.getD w.c (Int.toNat v) default).bar).d, rD (RuleT.fl (List.getD w.c (Int.toNat v) default).bar).ks], .ref (.ptr 0 0)]
noncomputable abbrev lc1_x1 (w : WorldT) (n : Int) : List Blk := [.var [int n], .var [rD (List.map CourseT.row w.c), rD w.p, rD (List.map SysT.row w.s), rD (List.map FactT.row w.f)], .var [int 1, int n, int 0], .var [strD { data := #[] }, int 0, int 0, int 0, int 0, int 0, strD { data := #[] }, int 0, int 0, nq, int 0, int 0, strD { data := #[] }, int 0, int 0, nq], .gone]
noncomputable abbrev lc1_x2 (w : WorldT) (n : Int) : List Blk := [.var [int n], .var [rD (List.map CourseT.row w.c), rD w.p, rD (List.map SysT.row w.s), rD (List.map FactT.row w.f)], .var [int 1, int n, int 0], .var [strD { data := #[] }, int 0, int 0, int 0, int 0, int 0, strD { data := #[] }, int 0, int 0, nq, int 0, int 0, strD { data := #[] }, int 0, int 0, nq]]
theorem lc1 {w : WorldT} {n term known v : Int} {b : Bool} (ht : (!(decide (term ≥ 0) && decide (term ≤ 1023))) = false) (hat : ∀ h, Ev Tryz.prog Γk 86 (atA w 1 n 0 term known) h (.tup [int v, bool b]) h) (hs : ∀ x ∈ w.c, x.ok) : (Ev Tryz.prog Γk 199 [.agg w.l, rD (w.c.map CourseT.row), .agg [int 1, int n, int 0], int term, int known, .fn (.func 197) [] [.ref (.ptr 0 0)]] [.var [int n]] (.tup [ag (lookL w.c (courseV n) CourseT.zero (v, b)).1.row, rD (readR 1 n 0 term (IntKind.i64.wrap (term + 1))), bool (lookL w.c (courseV n) CourseT.zero (v, b)).2]) [.var [int n]]) := by
 cases hc0 : !b || decide (v < 0) || decide (v ≥ (↑(List.length (List.map CourseT.row w.c)) : Int)) || !((List.getD w.c (Int.toNat v) default).number == n && courseB (List.getD w.c (Int.toNat v) default))
 ·refine Ev.castH (Ev.nilW (Ev.symT (h' := [.var [int n]]) (d := D.tup [D.agg [strD (List.getD w.c (Int.toNat v) default).name, int (List.getD w.c (Int.toNat v) default).number, int (List.getD w.c (Int.toNat v) default).credits, int (List.getD w.c (Int.toNat v) default).rep, int (RuleT.fl (List.getD w.c (Int.toNat v) default).need).op, int (RuleT.fl (List.getD w.c (Int.toNat v) default).need).c, strD (RuleT.fl (List.getD w.c (Int.toNat v) default).need).nm, int (RuleT.fl (List.getD w.c (Int.toNat v) default).need).n, int (RuleT.fl (List.getD w.c (Int.toNat v) default).need).d, rD (RuleT.fl (List.getD w.c (Int.toNat v) default).need).ks, int (RuleT.fl (List.getD w.c (Int.toNat v) default).bar).op, int (RuleT.fl (List.getD w.c (Int.toNat v) default).bar).c, strD (RuleT.fl (List.getD w.c (Int.toNat v) default).bar).nm, int (RuleT.fl (List.getD w.c (Int.toNat v) default).bar).n, int (RuleT.fl (List.getD w.c (Int.toNat v) default).bar).d, rD (RuleT.fl (List.getD w.c (Int.toNat v) default).bar).ks], rD [[vi 1, vi n, vi 0, vi term, vi (IntKind.wrap IntKind.i64 (term + 1))]], bool true]) pok [.val (bool (decide (term ≥ 0) && decide (term ≤ 1023))), .b false, .nx 1, .st (.frz 4 (readR 1 n 0 term (IntKind.wrap IntKind.i64 (term + 1)))), .val (D.tup [int v, bool b]), .row [vs (List.getD w.c (Int.toNat v) default).name, vi (List.getD w.c (Int.toNat v) default).number, vi (List.getD w.c (Int.toNat v) default).credits, vi (List.getD w.c (Int.toNat v) default).rep, vi (RuleT.fl (List.getD w.c (Int.toNat v) default).need).op, vi (RuleT.fl (List.getD w.c (Int.toNat v) default).need).c, vs (RuleT.fl (List.getD w.c (Int.toNat v) default).need).nm, vi (RuleT.fl (List.getD w.c (Int.toNat v) default).need).n, vi (RuleT.fl (List.getD w.c (Int.toNat v) default).need).d, Dp.sl (RuleT.fl (List.getD w.c (Int.toNat v) default).need).ks, vi (RuleT.fl (List.getD w.c (Int.toNat v) default).bar).op, vi (RuleT.fl (List.getD w.c (Int.toNat v) default).bar).c, vs (RuleT.fl (List.getD w.c (Int.toNat v) default).bar).nm, vi (RuleT.fl (List.getD w.c (Int.toNat v) default).bar).n, vi (RuleT.fl (List.getD w.c (Int.toNat v) default).bar).d, Dp.sl (RuleT.fl (List.getD w.c (Int.toNat v) default).bar).ks], .val (bool ((List.getD w.c (Int.toNat v) default).number == n && courseB (List.getD w.c (Int.toNat v) default))), .b false, .row [vs (List.getD w.c (Int.toNat v) default).name, vi (List.getD w.c (Int.toNat v) default).number, vi (List.getD w.c (Int.toNat v) default).credits, vi (List.getD w.c (Int.toNat v) default).rep, vi (RuleT.fl (List.getD w.c (Int.toNat v) default).need).op, vi (RuleT.fl (List.getD w.c (Int.toNat v) default).need).c, vs (RuleT.fl (List.getD w.c (Int.toNat v) default).need).nm, vi (RuleT.fl (List.getD w.c (Int.toNat v) default).need).n, vi (RuleT.fl (List.getD w.c (Int.toNat v) default).need).d, Dp.sl (RuleT.fl (List.getD w.c (Int.toNat v) default).need).ks, vi (RuleT.fl (List.getD w.c (Int.toNat v) default).bar).op, vi (RuleT.fl (List.getD w.c (Int.toNat v) default).bar).c, vs (RuleT.fl (List.getD w.c (Int.toNat v) default).bar).nm, vi (RuleT.fl (List.getD w.c (Int.toNat v) default).bar).n, vi (RuleT.fl (List.getD w.c (Int.toNat v) default).bar).d, Dp.sl (RuleT.fl (List.getD w.c (Int.toNat v) default).bar).ks]] (by kernel_rfl) (.c (Ev.glob0 (Γ' := Γk) (@bin_ev (term) (0) (1023) ((lc1_x2 w n)))) (.c ht (.c (show [[int 1, int n, int 0, int term, int (IntKind.wrap IntKind.i64 (term + 1))]] = [[int 1, int n, int 0, int term, int (IntKind.wrap IntKind.i64 (term + 1))]] from rfl) (.c (@hat ((lc1_x1 w n))) (.c (show (!(!b || decide (v < 0) || decide (v ≥ (↑(List.length (List.map CourseT.row w.c)) : Int)))) = true → RowAt v (List.map CourseT.row w.c) [vs (List.getD w.c (Int.toNat v) default).name, vi (List.getD w.c (Int.toNat v) default).number, vi (List.getD w.c (Int.toNat v) default).credits, vi (List.getD w.c (Int.toNat v) default).rep, vi (RuleT.fl (List.getD w.c (Int.toNat v) default).need).op, vi (RuleT.fl (List.getD w.c (Int.toNat v) default).need).c, vs (RuleT.fl (List.getD w.c (Int.toNat v) default).need).nm, vi (RuleT.fl (List.getD w.c (Int.toNat v) default).need).n, vi (RuleT.fl (List.getD w.c (Int.toNat v) default).need).d, Dp.sl (RuleT.fl (List.getD w.c (Int.toNat v) default).need).ks, vi (RuleT.fl (List.getD w.c (Int.toNat v) default).bar).op, vi (RuleT.fl (List.getD w.c (Int.toNat v) default).bar).c, vs (RuleT.fl (List.getD w.c (Int.toNat v) default).bar).nm, vi (RuleT.fl (List.getD w.c (Int.toNat v) default).bar).n, vi (RuleT.fl (List.getD w.c (Int.toNat v) default).bar).d, Dp.sl (RuleT.fl (List.getD w.c (Int.toNat v) default).bar).ks] 16 from (fun hg => ?_)) (.c (show (!(!b || decide (v < 0) || decide (v ≥ (↑(List.length (List.map CourseT.row w.c)) : Int)))) = true → Ev Tryz.prog Γk 197 (lc1_x0 w v) (lc1_x1 w n) (bool ((List.getD w.c (Int.toNat v) default).number == n && courseB (List.getD w.c (Int.toNat v) default))) (lc1_x1 w n) from (fun hg => (Ev.castH (Ev.frameX (args := (lc1_x0 w v)) (H := (lc1_x1 w n)) [0] (@vc197_ev (List.getD w.c (Int.toNat v) default) ?_ (n)) (by kernel_rfl) (by kernel_rfl) (by kernel_rfl) trivial trivial) (by kernel_rfl) (by kernel_rfl)))) (.c hc0 (.c (show RowAt v (List.map CourseT.row w.c) [vs (List.getD w.c (Int.toNat v) default).name, vi (List.getD w.c (Int.toNat v) default).number, vi (List.getD w.c (Int.toNat v) default).credits, vi (List.getD w.c (Int.toNat v) default).rep, vi (RuleT.fl (List.getD w.c (Int.toNat v) default).need).op, vi (RuleT.fl (List.getD w.c (Int.toNat v) default).need).c, vs (RuleT.fl (List.getD w.c (Int.toNat v) default).need).nm, vi (RuleT.fl (List.getD w.c (Int.toNat v) default).need).n, vi (RuleT.fl (List.getD w.c (Int.toNat v) default).need).d, Dp.sl (RuleT.fl (List.getD w.c (Int.toNat v) default).need).ks, vi (RuleT.fl (List.getD w.c (Int.toNat v) default).bar).op, vi (RuleT.fl (List.getD w.c (Int.toNat v) default).bar).c, vs (RuleT.fl (List.getD w.c (Int.toNat v) default).bar).nm, vi (RuleT.fl (List.getD w.c (Int.toNat v) default).bar).n, vi (RuleT.fl (List.getD w.c (Int.toNat v) default).bar).d, Dp.sl (RuleT.fl (List.getD w.c (Int.toNat v) default).bar).ks] 16 from ?_) .n)))))))))) (by first | (have hb : lookB w.c (courseV n) (v, b) = true := by rw [← hc0]; simp [lookB, courseV]); simp only [lookL, hb]; rfl | (have hb : lookB w.c (courseV n) (v, b) = false := by rw [← hc0]; simp [lookB, courseV]); simp only [lookL, hb]; rfl | rfl) (by first | (have hb : lookB w.c (courseV n) (v, b) = true := by rw [← hc0]; simp [lookB, courseV]); simp only [lookL, hb]; rfl | (have hb : lookB w.c (courseV n) (v, b) = false := by rw [← hc0]; simp [lookB, courseV]); simp only [lookL, hb]; rfl | rfl) <;> (first | assumption | exact courses_ok hs _ | (refine rowAt_getD (fun _ => rfl) ?_ ?_ <;> simp_all; done) | (simp_all; done))
 ·refine Ev.castH (Ev.nilW (Ev.symT (h' := [.var [int n]]) (d := D.tup [D.agg [strD { data := #[] }, int 0, int 0, int 0, int 0, int 0, strD { data := #[] }, int 0, int 0, nq, int 0, int 0, strD { data := #[] }, int 0, int 0, nq], rD [[vi 1, vi n, vi 0, vi term, vi (IntKind.wrap IntKind.i64 (term + 1))]], bool false]) pok [.val (bool (decide (term ≥ 0) && decide (term ≤ 1023))), .b false, .nx 1, .st (.frz 4 (readR 1 n 0 term (IntKind.wrap IntKind.i64 (term + 1)))), .val (D.tup [int v, bool b]), .row [vs (List.getD w.c (Int.toNat v) default).name, vi (List.getD w.c (Int.toNat v) default).number, vi (List.getD w.c (Int.toNat v) default).credits, vi (List.getD w.c (Int.toNat v) default).rep, vi (RuleT.fl (List.getD w.c (Int.toNat v) default).need).op, vi (RuleT.fl (List.getD w.c (Int.toNat v) default).need).c, vs (RuleT.fl (List.getD w.c (Int.toNat v) default).need).nm, vi (RuleT.fl (List.getD w.c (Int.toNat v) default).need).n, vi (RuleT.fl (List.getD w.c (Int.toNat v) default).need).d, Dp.sl (RuleT.fl (List.getD w.c (Int.toNat v) default).need).ks, vi (RuleT.fl (List.getD w.c (Int.toNat v) default).bar).op, vi (RuleT.fl (List.getD w.c (Int.toNat v) default).bar).c, vs (RuleT.fl (List.getD w.c (Int.toNat v) default).bar).nm, vi (RuleT.fl (List.getD w.c (Int.toNat v) default).bar).n, vi (RuleT.fl (List.getD w.c (Int.toNat v) default).bar).d, Dp.sl (RuleT.fl (List.getD w.c (Int.toNat v) default).bar).ks], .val (bool ((List.getD w.c (Int.toNat v) default).number == n && courseB (List.getD w.c (Int.toNat v) default))), .b true] (by kernel_rfl) (.c (Ev.glob0 (Γ' := Γk) (@bin_ev (term) (0) (1023) ((lc1_x2 w n)))) (.c ht (.c (show [[int 1, int n, int 0, int term, int (IntKind.wrap IntKind.i64 (term + 1))]] = [[int 1, int n, int 0, int term, int (IntKind.wrap IntKind.i64 (term + 1))]] from rfl) (.c (@hat ((lc1_x1 w n))) (.c (show (!(!b || decide (v < 0) || decide (v ≥ (↑(List.length (List.map CourseT.row w.c)) : Int)))) = true → RowAt v (List.map CourseT.row w.c) [vs (List.getD w.c (Int.toNat v) default).name, vi (List.getD w.c (Int.toNat v) default).number, vi (List.getD w.c (Int.toNat v) default).credits, vi (List.getD w.c (Int.toNat v) default).rep, vi (RuleT.fl (List.getD w.c (Int.toNat v) default).need).op, vi (RuleT.fl (List.getD w.c (Int.toNat v) default).need).c, vs (RuleT.fl (List.getD w.c (Int.toNat v) default).need).nm, vi (RuleT.fl (List.getD w.c (Int.toNat v) default).need).n, vi (RuleT.fl (List.getD w.c (Int.toNat v) default).need).d, Dp.sl (RuleT.fl (List.getD w.c (Int.toNat v) default).need).ks, vi (RuleT.fl (List.getD w.c (Int.toNat v) default).bar).op, vi (RuleT.fl (List.getD w.c (Int.toNat v) default).bar).c, vs (RuleT.fl (List.getD w.c (Int.toNat v) default).bar).nm, vi (RuleT.fl (List.getD w.c (Int.toNat v) default).bar).n, vi (RuleT.fl (List.getD w.c (Int.toNat v) default).bar).d, Dp.sl (RuleT.fl (List.getD w.c (Int.toNat v) default).bar).ks] 16 from (fun hg => (by first | assumption | exact courses_ok hs _ | (refine rowAt_getD (fun _ => rfl) ?_ ?_ <;> simp_all; done) | (simp_all; done)))) (.c (show (!(!b || decide (v < 0) || decide (v ≥ (↑(List.length (List.map CourseT.row w.c)) : Int)))) = true → Ev Tryz.prog Γk 197 (lc1_x0 w v) (lc1_x1 w n) (bool ((List.getD w.c (Int.toNat v) default).number == n && courseB (List.getD w.c (Int.toNat v) default))) (lc1_x1 w n) from (fun hg => (Ev.castH (Ev.frameX (args := (lc1_x0 w v)) (H := (lc1_x1 w n)) [0] (@vc197_ev (List.getD w.c (Int.toNat v) default) (by first | assumption | exact courses_ok hs _ | (refine rowAt_getD (fun _ => rfl) ?_ ?_ <;> simp_all; done) | (simp_all; done)) (n)) (by kernel_rfl) (by kernel_rfl) (by kernel_rfl) trivial trivial) (by kernel_rfl) (by kernel_rfl)))) (.c hc0 .n))))))))) ?_ ?_ <;> (first | (have hb : lookB w.c (courseV n) (v, b) = true := by rw [← hc0]; simp [lookB, courseV]); simp only [lookL, hb]; rfl | (have hb : lookB w.c (courseV n) (v, b) = false := by rw [← hc0]; simp [lookB, courseV]); simp only [lookL, hb]; rfl | rfl)
def courseR (w : WorldT) (n term known : Int) : CourseT × Bool := match outB term with
 | true => (CourseT.zero, false)
 | false => lookL w.c (courseV n) CourseT.zero (atR 1 n 0 term known w.f)
theorem lookCrs_ev {w : WorldT} (hw : w.ok) {n term known : Int} : Ev Tryz.prog Γk 199 [.agg w.l, rD (w.c.map CourseT.row), .agg [int 1, int n, int 0], int term, int known, .fn (.func 197) [] [.ref (.ptr 0 0)]] [.var [int n]] (.tup [ag (courseR w n term known).1.row, rD (readsT 1 n 0 term), bool (courseR w n term known).2]) [.var [int n]] := by
 unfold courseR readsT
 cases ht : outB term with
 | true => exact lc0 ht
 | false => exact lc1 ht (fun h => Ev.glob0 (at_ev hw.sf h)) hw.c
noncomputable abbrev course_ev_x0 (w : WorldT) (n : Int) : List Blk := [.var [rD (List.map CourseT.row w.c), rD w.p, rD (List.map SysT.row w.s), rD (List.map FactT.row w.f)], .var [int n], .var [strD { data := #[] }, int 0, int 0, int 0, int 0, int 0, strD { data := #[] }, int 0, int 0, nq, int 0, int 0, strD { data := #[] }, int 0, int 0, nq]]
theorem course_evA {w : WorldT} (hw : w.ok) {n term known : Int} (h : List Blk) : (Ev Tryz.prog Γk 161 [.agg w.l, int n, int term, int known] h (.tup [ag (courseR w n term known).1.row, rD (readsT 1 n 0 term), bool (courseR w n term known).2]) h) := by
 exact Ev.castH (Ev.sym0 (d := D.tup [D.agg [strD (courseR w n term known).fst.name, int (courseR w n term known).fst.number, int (courseR w n term known).fst.credits, int (courseR w n term known).fst.rep, int (RuleT.fl (courseR w n term known).fst.need).op, int (RuleT.fl (courseR w n term known).fst.need).c, strD (RuleT.fl (courseR w n term known).fst.need).nm, int (RuleT.fl (courseR w n term known).fst.need).n, int (RuleT.fl (courseR w n term known).fst.need).d, rD (RuleT.fl (courseR w n term known).fst.need).ks, int (RuleT.fl (courseR w n term known).fst.bar).op, int (RuleT.fl (courseR w n term known).fst.bar).c, strD (RuleT.fl (courseR w n term known).fst.bar).nm, int (RuleT.fl (courseR w n term known).fst.bar).n, int (RuleT.fl (courseR w n term known).fst.bar).d, rD (RuleT.fl (courseR w n term known).fst.bar).ks], rD (readsT 1 n 0 term), bool (courseR w n term known).snd]) pok [.val (D.tup [D.agg [strD (courseR w n term known).fst.name, int (courseR w n term known).fst.number, int (courseR w n term known).fst.credits, int (courseR w n term known).fst.rep, int (RuleT.fl (courseR w n term known).fst.need).op, int (RuleT.fl (courseR w n term known).fst.need).c, strD (RuleT.fl (courseR w n term known).fst.need).nm, int (RuleT.fl (courseR w n term known).fst.need).n, int (RuleT.fl (courseR w n term known).fst.need).d, rD (RuleT.fl (courseR w n term known).fst.need).ks, int (RuleT.fl (courseR w n term known).fst.bar).op, int (RuleT.fl (courseR w n term known).fst.bar).c, strD (RuleT.fl (courseR w n term known).fst.bar).nm, int (RuleT.fl (courseR w n term known).fst.bar).n, int (RuleT.fl (courseR w n term known).fst.bar).d, rD (RuleT.fl (courseR w n term known).fst.bar).ks], rD (readsT 1 n 0 term), bool (courseR w n term known).snd])] (by kernel_rfl) (.c (show Ev Tryz.prog Γk 199 [D.agg (WorldT.l w), rD (List.map CourseT.row w.c), D.agg [int 1, int n, int 0], int term, int known, D.fn (Fn.func 197) [] [.ref (.ptr 1 0)]] (course_ev_x0 w n) (D.tup [D.agg [strD (courseR w n term known).fst.name, int (courseR w n term known).fst.number, int (courseR w n term known).fst.credits, int (courseR w n term known).fst.rep, int (RuleT.fl (courseR w n term known).fst.need).op, int (RuleT.fl (courseR w n term known).fst.need).c, strD (RuleT.fl (courseR w n term known).fst.need).nm, int (RuleT.fl (courseR w n term known).fst.need).n, int (RuleT.fl (courseR w n term known).fst.need).d, rD (RuleT.fl (courseR w n term known).fst.need).ks, int (RuleT.fl (courseR w n term known).fst.bar).op, int (RuleT.fl (courseR w n term known).fst.bar).c, strD (RuleT.fl (courseR w n term known).fst.bar).nm, int (RuleT.fl (courseR w n term known).fst.bar).n, int (RuleT.fl (courseR w n term known).fst.bar).d, rD (RuleT.fl (courseR w n term known).fst.bar).ks], rD (readsT 1 n 0 term), bool (courseR w n term known).snd]) (course_ev_x0 w n) from (Ev.castH (Ev.frameX (args := [D.agg (WorldT.l w), rD (List.map CourseT.row w.c), D.agg [int 1, int n, int 0], int term, int known, D.fn (Fn.func 197) [] [.ref (.ptr 1 0)]]) (H := (course_ev_x0 w n)) [1] (@lookCrs_ev (w) (hw) (n) (term) (known)) (by kernel_rfl) (by kernel_rfl) (by kernel_rfl) trivial trivial) (by kernel_rfl) (by kernel_rfl))) .n) rfl rfl h) (by rfl) (by rfl)
end Go.Vi
open Go Go.Proofs Go.Shelf
namespace Go.Vi
abbrev intsV (l : List Int) : List (List D) := l.map fun n => [int n]
theorem relL_ints {w : World} {av : Nat → Prop} {loc : Loc} {h : List Blk} : ∀ {l : List Int} {ys : List Value}, RelL w av loc h (intsV l).flatten ys → ys = l.map (Value.int .i64)
 | [], [], _ => rfl
 | [], _ :: _, r => by simp [RelL] at r
 | _ :: _, [], r => by simp [RelL] at r
 | n :: l, y :: ys, r => by
  simp only [intsV, List.map_cons, List.flatten_cons, List.cons_append, List.nil_append, RelL] at r
  have h1 : y = .int .i64 n := by simpa [Rel, RelP] using r.1
  rw [h1, relL_ints (l := l) r.2]; rfl
theorem relL_ints' {w : World} {av : Nat → Prop} {loc : Loc} {h : List Blk} : ∀ {l : List Int}, RelL w av loc h (intsV l).flatten (l.map (Value.int .i64))
 | [] => trivial
 | n :: l => by
  simp only [intsV, List.map_cons, List.flatten_cons, List.cons_append, List.nil_append, RelL]
  exact ⟨by simp [Rel, RelP], relL_ints' (l := l)⟩
theorem sortInt_ev' {P : Program} {ρ : Ren} {Γ : Glob} (L : Lays.n189 P ρ) {h : List Blk} {b e : Nat} {l : List Int} (hb : h[b]? = some (.vec (intsV l) e 1)) (hl : l.length < 4611686018427387904) :
  Ev P Γ (ρ.f 189) [.ref (.vec b e)] h (.tup []) (h.set b (.vec (intsV (l.mergeSort fun x y => decide (x ≤ y))) e 1)) := by
 intro O w loc vs R ra
 obtain ⟨y, rfl⟩ : ∃ y, vs = [y] := by
  match vs, ra with
  | [y], _ => exact ⟨y, rfl⟩
  | [], r => simp [RelL] at r
  | _ :: _ :: _, r => simp [RelL] at r
 have r := ra.1
 simp only [Rel, RefRel, hb] at r
 have hv := r.2.2 trivial
 have B := R.blk b _ hb
 simp only [BlkOk] at B
 have hlen : (intsV l).length = l.length := by simp [intsV]
 refine callsIn_wide.2 ?_
 cases hlb : loc b with
 | none =>
  rw [hlb] at hv B
  obtain ⟨hn, rfl⟩ := hv
  have hl0 : l = [] := by simpa [intsV] using hn
  subst hl0
  refine Calls.mono (calls_of_every_depth fun D => AnyS.slices_Sort_int_none_alone L D none 0 w) ?_
  rintro e' w' ⟨rfl, rfl⟩
  have hset : h.set b (.vec (intsV ([].mergeSort fun x y => decide (x ≤ y))) e 1) = h := by
   apply List.ext_getElem?
   intro i
   by_cases hi : i = b
   ·subst hi; rw [get_set_eq hb, hb]; simp
   ·rw [get_set_ne _ _ hi]
  refine ⟨.tuple #[], .tup [], _, loc, rfl, ⟨rfl, rfl⟩, ?_, ?_, ?_⟩
  ·rw [hset]; exact R
  ·rw [hset]; exact Ext.refl _ _ _
  ·simp [Rel, RelL]
 | some p =>
  obtain ⟨blk, cap⟩ := p
  rw [hlb] at hv B
  obtain ⟨rfl, hcap⟩ := hv
  simp only at B
  obtain ⟨c, T, fr, ys, hobj, hcs, hle, hfr, hsz, hrel, rest, hcl⟩ := B
  have hys := relL_ints hrel
  subst hys
  have hblk : blk < w.heap.size := (Array.getElem?_eq_some_iff.1 hobj).1
  have hH : Sort.Holds (Value.int .i64) w blk 0 l.toArray := by
   intro j hj
   have hj' : j < l.length := by simpa using hj
   have hc : c[j]? = some (Value.int .i64 l[j]) := by
    rw [← Array.getElem?_toList, hcl, List.getElem?_append_left (by simpa using hj')]
    simp [hj']
   constructor
   ·simp [World.cell?, hobj, hc, hj']
   ·have := hfr j (Array.getElem?_eq_some_iff.1 hc).1
    obtain ⟨lo, hi⟩ := fr
    simp only [World.frozen?, hobj, Nat.zero_add]
    rw [← Bool.not_eq_true]
    simpa using this
  rw [hlen]
  refine Calls.mono (calls_of_every_depth fun D => AnyS.slices_Sort_int_alone L D blk 0 cap l w hH hblk hl) ?_
  rintro e' w' ⟨rfl, n, os, rfl⟩
  have hlm : (l.mergeSort fun x y => decide (x ≤ y)).length = l.length := by simp
  generalize (l.mergeSort fun x y => decide (x ≤ y)) = m at hlm ⊢
  have hobj' : (Sort.grow (Sort.putRow (Value.int .i64) (Sort.ahead w n) blk 0 m.toArray) os).heap[blk]? = some (.cells (Sort.putCells (Value.int .i64) 0 m.toArray c) T fr) := by
   rw [Sort.heap_grow_old _ _ (by simpa [Sort.putRow, Sort.mapBlock, Sort.ahead] using hblk)]
   simp [Sort.putRow, Sort.mapBlock, Sort.ahead, Array.getElem?_modify, hobj, Sort.onCells]
  have hcells : (Sort.putCells (Value.int .i64) 0 m.toArray c).toList = m.map (Value.int .i64) ++ rest := by
   unfold Sort.putCells
   rw [Array.toList_mapIdx, hcl]
   apply List.ext_getElem?
   intro i
   rw [List.getElem?_mapIdx]
   by_cases hi : i < l.length
   ·rw [List.getElem?_append_left (by simpa using hi), List.getElem?_append_left (by simpa [hlm] using hi)]
    have hm : i < m.length := by omega
    simp [hi, hm]
   ·rw [List.getElem?_append_right (by simpa using Nat.le_of_not_lt hi), List.getElem?_append_right (by simpa [hlm] using Nat.le_of_not_lt hi)]
    simp [hi, hlm]
  have key := R.step (w' := Sort.grow (Sort.putRow (Value.int .i64) (Sort.ahead w n) blk 0 m.toArray) os) (l' := loc) (h' := h.set b (.vec (intsV m) e 1)) b (.vec (intsV m) e 1)
   (by simp [Sort.grow, Sort.putRow, Sort.mapBlock, Sort.ahead]) ⟨rfl, rfl, rfl, by simp [Sort.grow, Sort.putRow, Sort.mapBlock, Sort.ahead]⟩ (fun i hi => get_set_ne _ _ hi) (get_set_eq hb) (fun _ _ => rfl)
   (fun z hz => by rw [hb] at hz; cases hz; exact ⟨⟨Nat.le_refl _, fun _ => by simp [intsV, hlm], rfl⟩, fun _ => rfl⟩)
   (fun k hk hno => by
    have hkb : k ≠ blk := fun e => hno _ cap hb (by simp) (by rw [hlb, e])
    rw [Sort.heap_grow_old _ _ (by simpa [Sort.putRow, Sort.mapBlock, Sort.ahead] using hk)]
    simp [Sort.putRow, Sort.mapBlock, Sort.ahead, Array.getElem?_modify, Ne.symm hkb])
   (fun k c hk => .inl ⟨_, c, hb, by simp, hk⟩)
   (fun E => by
    simp only [BlkOk, hlb]
    refine ⟨_, T, fr, m.map (Value.int .i64), hobj', ?_, ?_, ?_, ?_, relL_ints', rest, hcells⟩
    ·simpa [Sort.putCells] using hcs
    ·simpa [intsV, hlm] using hle
    ·simpa [Sort.putCells] using hfr
    ·simp [intsV])
  exact ⟨.tuple #[], .tup [], _, loc, rfl, ⟨rfl, rfl⟩, key.1, key.2, by simp [Rel, RelL]⟩
end Go.Vi
namespace Go.Proofs
open Go.Shelf
def Tryz.laysSort_ren : Go.Shelf.Ren := ⟨fun | 189 => 88 | 125 => 122 | 257 => 140 | 128 => 173 | 129 => 174 | 294 => 179 | 295 => 180 | 296 => 181 | 297 => 182 | 298 => 183 | 299 => 184 | 216 => 185 | 300 => 186 | 301 => 187 | 328 => 218 | 329 => 211 | 330 => 212 | 331 => 219 | 332 => 220 | 215 => 123 | 343 => 232 | n => n, fun | 28 => 30 | 3 => 3 | 46 => 192 | 0 => 0 | 51 => 233 | 53 => 169 | 4 => 4 | 183 => 227 | 182 => 226 | 131 => 150 | 5 => 5 | 9 => 9 | 218 => 251 | 222 => 255 | 228 => 265 | 229 => 266 | n => n, fun | n => n⟩
theorem Tryz.laysSort : Go.Proofs.Lays.n189 Tryz.prog Tryz.laysSort_ren := {
 mixed := by kernel_rfl
 f125 := Tryz.func122.trans (congrArg some (by kernel_rfl))
 f128 := Tryz.func173.trans (congrArg some (by kernel_rfl))
 f129 := Tryz.func174.trans (congrArg some (by kernel_rfl))
 f189 := Tryz.func88.trans (congrArg some (by kernel_rfl))
 f215 := Tryz.func123.trans (congrArg some (by kernel_rfl))
 f216 := Tryz.func185.trans (congrArg some (by kernel_rfl))
 f257 := Tryz.func140.trans (congrArg some (by kernel_rfl))
 f294 := Tryz.func179.trans (congrArg some (by kernel_rfl))
 f295 := Tryz.func180.trans (congrArg some (by kernel_rfl))
 f296 := Tryz.func181.trans (congrArg some (by kernel_rfl))
 f297 := Tryz.func182.trans (congrArg some (by kernel_rfl))
 f298 := Tryz.func183.trans (congrArg some (by kernel_rfl))
 f299 := Tryz.func184.trans (congrArg some (by kernel_rfl))
 f300 := Tryz.func186.trans (congrArg some (by kernel_rfl))
 f301 := Tryz.func187.trans (congrArg some (by kernel_rfl))
 f328 := Tryz.func218.trans (congrArg some (by kernel_rfl))
 f329 := Tryz.func211.trans (congrArg some (by kernel_rfl))
 f330 := Tryz.func212.trans (congrArg some (by kernel_rfl))
 f331 := Tryz.func219.trans (congrArg some (by kernel_rfl))
 f332 := Tryz.func220.trans (congrArg some (by kernel_rfl))
 f343 := Tryz.func232.trans (congrArg some (by kernel_rfl))
 t0 := Tryz.underlying0
 a0 := Tryz.isAgg0
 z0 := Tryz.sizeOf0
 v0 := Tryz.zeroValue0
 t3 := Tryz.underlying3
 a3 := Tryz.isAgg3
 z3 := Tryz.sizeOf3
 v3 := Tryz.zeroValue3
 t4 := Tryz.underlying4
 a4 := Tryz.isAgg4
 z4 := Tryz.sizeOf4
 v4 := Tryz.zeroValue4
 t5 := Tryz.underlying5
 a5 := Tryz.isAgg5
 z5 := Tryz.sizeOf5
 v5 := Tryz.zeroValue5
 t9 := Tryz.underlying9
 a9 := Tryz.isAgg9
 z9 := Tryz.sizeOf9
 v9 := Tryz.zeroValue9
 t28 := Tryz.underlying30
 a28 := Tryz.isAgg30
 z28 := Tryz.sizeOf30
 v28 := Tryz.zeroValue30
 t46 := Tryz.underlying192
 a46 := Tryz.isAgg192
 z46 := Tryz.sizeOf192
 v46 := Tryz.zeroValue192
 t51 := Tryz.underlying233
 a51 := Tryz.isAgg233
 z51 := Tryz.sizeOf233
 v51 := Tryz.zeroValue233
 t53 := Tryz.underlying169
 a53 := Tryz.isAgg169
 z53 := Tryz.sizeOf169
 v53 := Tryz.zeroValue169
 t131 := Tryz.underlying150
 a131 := Tryz.isAgg150
 z131 := Tryz.sizeOf150
 v131 := Tryz.zeroValue150
 t182 := Tryz.underlying226
 a182 := Tryz.isAgg226
 z182 := Tryz.sizeOf226
 v182 := Tryz.zeroValue226
 t183 := Tryz.underlying227
 a183 := Tryz.isAgg227
 z183 := Tryz.sizeOf227
 v183 := Tryz.zeroValue227
 t218 := Tryz.underlying251
 a218 := Tryz.isAgg251
 z218 := Tryz.sizeOf251
 v218 := Tryz.zeroValue251
 t222 := Tryz.underlying255
 a222 := Tryz.isAgg255
 z222 := Tryz.sizeOf255
 v222 := Tryz.zeroValue255
 t228 := Tryz.underlying265
 a228 := Tryz.isAgg265
 z228 := Tryz.sizeOf265
 v228 := Tryz.zeroValue265
 t229 := Tryz.underlying266
 a229 := Tryz.isAgg266
 z229 := Tryz.sizeOf266
 v229 := Tryz.zeroValue266 }
end Go.Proofs
namespace Go.Vi
open Go.Shelf
theorem sortInt_ev {h : List Blk} {b e : Nat} {l : List Int} (hb : h[b]? = some (.vec (intsV l) e 1)) (hl : l.length < 4611686018427387904) :
  Ev Tryz.prog Γ0 88 [.ref (.vec b e)] h (.tup []) (h.set b (.vec (intsV (l.mergeSort fun x y => decide (x ≤ y))) e 1)) := sortInt_ev' Tryz.laysSort hb hl
end Go.Vi
open Go
namespace Go.Vi
theorem Ev.post {P : Program} {Γ : Glob} {f : FuncId} {args : List D} {h h1 h2 : List Blk} {d d2 : D} (az : List Ans) {φ : List Prop} (hE : Ev P Γ f args h d h1) (hp : pre h { t := [d], h := h1, m := [] } az = some ({ t := [d2], h := h2, m := [] }, [], φ)) (hφ : AllP φ) : Ev P Γ f args h d2 h2 := by
 intro O w l vs R ra
 refine CallsIn.mono (hE O w l vs R ra) ?_
 rintro e w' ⟨v, d', h', l', rfl, ⟨rfl, rfl⟩, R', E', r'⟩
 obtain ⟨l2, R2, E2, r2, -⟩ := pre_ok (Γ := Γ) (X := { O := O, w := w, l := l, h := h }) _ _ _ _ _ hp hφ { tmps := #[v], defers := [] } w' ⟨l', R', E', ⟨r', trivial⟩, rfl⟩
 exact ⟨v, d2, h2, l2, rfl, ⟨rfl, rfl⟩, R2, E2, r2.1⟩
end Go.Vi
open Go Go.Proofs
namespace Go.Vi
set_option maxRecDepth 100000
set_option maxHeartbeats 4000000
abbrev nilD0 : D := lit (.slice none 0 0)
abbrev setKV (l : List Int) : List (D × D × Nat) := l.zipIdx.map fun p => (int p.1, bool true, p.2)
abbrev setB (l : List Int) : Blk := .map (setKV l) l.length
theorem findKV_set (c : Int) : ∀ (l : List Int) (k i : Nat), findKV (int c) ((l.zipIdx k).map fun p => (int p.1, bool true, p.2)) i = some (match l.idxOf? c with | some j => some (i + j, bool true) | none => none)
 | [], _, _ => rfl
 | a :: l, k, i => by
  have ih := findKV_set c l (k + 1) (i + 1)
  simp only [List.zipIdx_cons, List.map_cons, findKV, keyEq, if_true, List.idxOf?_cons]
  by_cases h : a = c
  ·subst h; simp
  ·have h' : (c == a) = false := by simp; exact fun e => h e.symm
   have h'' : (a == c) = false := by simp; exact h
   rw [h', h'', ih]
   cases l.idxOf? c <;> simp <;> omega
theorem lookup_set {P : Program} {h : List Blk} {t : TypeId} {b : Nat} {l : List Int} {c : Int} {kt et : TypeId} (hk : keyKind P kt (int c) = true) (ht : P.underlying t = some (.map kt et)) (hz : zeroV P et = some (.bool false)) (hb : h[b]? = some (setB l)) :
  lookupD P h t (.ref (.mp b)) (int c) false = some (bool (l.contains c)) := by
 unfold lookupD
 simp only [ht, mapOf, hb, hk, if_true, hz, findKV_set c l 0 0]
 cases hi : l.idxOf? c with
 | none =>
  have : l.contains c = false := by
   rw [List.idxOf?_eq_none_iff] at hi
   simpa using hi
  simp only [this]; rfl
 | some j =>
  have : l.contains c = true := by
   have : ¬ l.idxOf? c = none := by rw [hi]; simp
   rw [List.idxOf?_eq_none_iff] at this
   simpa using this
  simp only [this]; rfl
theorem update_set {P : Program} {h : List Blk} {t : TypeId} {b : Nat} {l : List Int} {c : Int} {kt et : TypeId} (hk : keyKind P kt (int c) = true) (ht : P.underlying t = some (.map kt et)) (hb : h[b]? = some (setB l)) (hn : l.contains c = false) :
  mapUpdateD P h t (.ref (.mp b)) (int c) (bool true) = some (h.set b (setB (l ++ [c]))) := by
 have hi : l.idxOf? c = none := by rw [List.idxOf?_eq_none_iff]; simpa using hn
 unfold mapUpdateD
 simp only [ht, hb, hk, if_true, findKV_set c l 0 0, hi]
 simp [setB, setKV, List.zipIdx_append]
abbrev nuV (l : List Int) : List (List D) := l.map fun n => [int n]
theorem nuV_map (l : List Int) (f : Ref → D) : (nuV l).map (D.mapRL f) = nuV l := by simp [nuV, D.mapRL, D.mapR, Function.comp_def]
theorem nuV_inn (l : List Int) (k : Nat) : (nuV l).all (D.innL k) = true := by simp [nuV, D.innL, D.inn]
theorem nuV_app (l : List Int) (n : Int) : nuV l ++ [[int n]] = nuV (l ++ [n]) := by simp [nuV]
theorem nuV_len (l : List Int) : (nuV l).length = l.length := by simp [nuV]
abbrev nuH (c0 c1 c2 : List (List Dp)) (fs : List (List Dp)) (s : Blk) (v : List (List D)) : List Blk := [.var [rD c0, rD c1, rD c2, rD fs], .var [int 12, int 0, int 0], s, .vec v 0 1]
abbrev nuS (c0 c1 c2 : List (List Dp)) (fs : List (List Dp)) (many : Int) (s : Blk) (v : List (List D)) (i : Int) : AS :=
 { t := mkT 70 0 [(4, .ref (.vec 3 0)), (5, nilD0), (6, .ref (.ptr 1 0)), (7, int many), (9, .ref (.mp 2)), (24, rD fs), (25, int fs.length), (26, int i)], h := nuH c0 c1 c2 fs s v, m := [] }
abbrev nuE (c0 c1 c2 : List (List Dp)) (fs : List (List Dp)) (many : Int) (s : Blk) (v : List (List D)) : AS :=
 { t := mkT 70 0 [(4, .ref (.vec 3 0)), (5, nilD0), (6, .ref (.ptr 1 0))], h := nuH c0 c1 c2 fs s v, m := [] }
def isNew (f : FactT) (l : List Int) : Bool := f.kind == 1 && (f.obj == 0 && (decide (f.sub ≥ 0) && decide (f.sub ≤ 4095) && !l.contains f.sub))
def nuF (many : Int) (f : FactT) (l : List Int) : List Int ⊕ List Int := if decide ((l.length : Int) ≥ many) = true then .inr l else .inl (bif isNew f l then l ++ [f.sub] else l)
theorem setKV_inn (l : List Int) (k : Nat) : ((setKV l).all fun e => D.inn k e.1 && D.inn k e.2.1) = true := by simp [setKV, D.inn]
theorem setKV_ren (l : List Int) (f : Ref → D) : (setKV l).map (fun e => (D.mapR f e.1, D.mapR f e.2.1, e.2.2)) = setKV l := by simp [setKV, D.mapR, Function.comp_def]
theorem nuF_stop {many : Int} {f : FactT} {l : List Int} (h : decide (((nuV l).length : Int) ≥ many) = true) : nuF many f l = .inr l := by
 rw [nuV_len] at h; simp only [nuF, h, if_true]
theorem nuF_old {many : Int} {f : FactT} {l : List Int} (h : decide (((nuV l).length : Int) ≥ many) = false) (hn : isNew f l = false) : nuF many f l = .inl l := by
 rw [nuV_len] at h; simp [nuF, h, hn]
theorem nuF_new {many : Int} {f : FactT} {l : List Int} (h : decide (((nuV l).length : Int) ≥ many) = false) (hn : isNew f l = true) : nuF many f l = .inl (l ++ [f.sub]) := by
 rw [nuV_len] at h; simp [nuF, h, hn]
theorem lk152 {h : List Blk} {l : List Int} {c : Int} (hb : h[2]? = some (setB l)) : lookupD Tryz.prog h 152 (.ref (.mp 2)) (int c) false = some (bool (l.contains c)) := lookup_set (kt := 3) (et := 4) (by kernel_rfl) (by kernel_rfl) (by kernel_rfl) hb
theorem up152 {h : List Blk} {l : List Int} {c : Int} (hb : h[2]? = some (setB l)) (hn : (!l.contains c) = true) : mapUpdateD Tryz.prog h 152 (.ref (.mp 2)) (int c) (bool true) = some (h.set 2 (setB (l ++ [c]))) := update_set (kt := 3) (et := 4) (by kernel_rfl) (by kernel_rfl) hb (by simpa using hn)
noncomputable abbrev nu_body_x0 (c0 : List (List Dp)) (c1 : List (List Dp)) (c2 : List (List Dp)) (fs : List (List Dp)) (l : List Int) (f : FactT) : List Blk := [.var [rD c0, rD c1, rD c2, rD fs], .var [int 12, int 0, int 0], .map (setKV l) (List.length l), .vec (nuV l) 0 1, .var [int f.kind, int f.sub, int f.obj, int f.value, int f.frm, int f.til, int f.known, int f.no]]
theorem nu_body {c0 c1 c2 : List (List Dp)} {fs : List (List Dp)} {many : Int} {l : List Int} {i : Nat} {f : FactT} (hr : RowAt (i : Int) fs f.row 8) (hlt : decide ((i : Int) < (fs.length : Int)) = true) (hw : IntKind.i64.wrap ((i : Int) + 1) = ((i + 1 : Nat) : Int)) (hl : l.length ≤ 70000)
  (hp : ∀ f, (nuV l).map (D.mapRL f) = nuV l) (hi : ∀ k, (nuV l).all (D.innL k) = true) : (CW Tryz.prog Γ0 [] false (sub Tryz.f34 0) (nuS c0 c1 c2 fs many (setB l) (nuV l) i) (bodyFin (fun l' => nuS c0 c1 c2 fs many (setB l') (nuV l') ((i + 1 : Nat) : Int)) (fun l => (.exit 0, nuE c0 c1 c2 fs many (setB l) (nuV l))) (nuF many f l)).1 (bodyFin (fun l' => nuS c0 c1 c2 fs many (setB l') (nuV l') ((i + 1 : Nat) : Int)) (fun l => (.exit 0, nuE c0 c1 c2 fs many (setB l) (nuV l))) (nuF many f l)).2) := by
 cases hc0 : decide ((↑(List.length (nuV l)) : Int) ≥ many)
 ·cases hc1 : f.kind == 1
  ·refine CW.cast (CW.symX (s' := { t := mkT 70 0 [(4, .ref (.vec 3 0)), (5, nq), (6, .ref (.ptr 1 0)), (7, int many), (9, .ref (.mp 2)), (24, rD fs), (25, int (↑(List.length fs) : Int)), (26, int (IntKind.wrap IntKind.i64 ((↑i : Int) + 1)))], h := [.var [rD c0, rD c1, rD c2, rD fs], .var [int 12, int 0, int 0], .map (setKV l) (List.length l), .vec (nuV l) 0 1], m := [] }) (e := Exit.normal) pok [.st (.mask [4, 5, 6, 7, 9, 24, 25, 26]), .st (.ren 3 0), .st (.trim 4)] [.b true, .row [vi f.kind, vi f.sub, vi f.obj, vi f.value, vi f.frm, vi f.til, vi f.known, vi f.no], .b false, .g false, .g false, .g false, .g false, .ov 46 (bool false), .g false, .g false, .ov 50 (bool false), .g false, .g false, .g false, .g false, .ov 56 (bool false), .b false] (by kernel_rfl) (.c hlt (.c hr (.c hc0 (.c (show ((f.kind == 1) == true) = false from (by rw [hc1]; rfl)) (.c (show ((f.kind == 1) == true) = false from (by rw [hc1]; rfl)) (.c (show ((f.kind == 1) == true) = false from (by rw [hc1]; rfl)) (.c (show ((f.kind == 1) == true) = false from (by rw [hc1]; rfl)) (.c (show PickIs (bool (f.kind == 1)) (D.p (Dp.v (Value.tuple { toList := [] }))) (bool false) (bool false) from (pickIs_f hc1 rfl)) (.c (show (false == true) = false from rfl) (.c (show (false == true) = false from rfl) (.c (show PickIs (bool false) (D.p (Dp.v (Value.tuple { toList := [] }))) (bool false) (bool false) from (pickIs_f rfl rfl)) (.c (show (false == true) = false from rfl) (.c (show (false == true) = false from rfl) (.c (show (false == true) = false from rfl) (.c (show (false == true) = false from rfl) (.c (show PickIs (bool false) (D.p (Dp.v (Value.tuple { toList := [] }))) (bool false) (bool false) from (pickIs_f rfl rfl)) (.c (show false = false from rfl) (.c (show List.map (D.mapRL (renR 3 0 0)) (nuV l) = nuV l from ?_) (.c (show List.map (fun e => (D.mapR (renR 3 0 0) e.fst, D.mapR (renR 3 0 0) e.snd.fst, e.snd.snd)) (setKV l) = setKV l from ?_) (.c (show (List.all (setKV l) fun e => D.inn 4 e.fst && D.inn 4 e.snd.fst) = true from ?_) (.c (show List.all (nuV l) (D.innL 4) = true from ?_) .n)))))))))))))))))))))) (by first | (rw [nuF_stop hc0]; rfl) | (rw [nuF_stop hc0]; done) | (rw [nuF_new hc0] <;> first | (simp only [isNew, hc1, Bool.false_and]; done) | (simp only [bodyFin]; done) | (simp only [bodyFin, hw, nuV_app]; rfl)) | (rw [nuF_old hc0] <;> first | (simp only [isNew, hc1, Bool.false_and]; done) | (simp only [bodyFin]; done) | (simp only [bodyFin, hw]; rfl))) (by first | (rw [nuF_stop hc0]; rfl) | (rw [nuF_stop hc0]; done) | (rw [nuF_new hc0] <;> first | (simp only [isNew, hc0, hc1, Bool.and_self, Bool.true_and, Bool.and_true, Bool.and_false, Bool.false_and, cond_true, cond_false]; done) | (simp only [bodyFin, hw]; done) | (simp only [bodyFin, hw]; rfl)) | (rw [nuF_old hc0] <;> first | (simp only [isNew, hc1, Bool.false_and]; done) | (simp only [bodyFin, hw]; done) | (simp only [bodyFin, hw]; rfl))) <;> (first | assumption | exact lk152 (l := l) rfl | exact up152 (l := l) rfl (by assumption) | exact setKV_inn _ _ | exact setKV_ren _ _ | exact nuV_inn _ _ | exact nuV_map _ _ | (rw [nuV_app]; exact nuV_inn _ _) | (rw [nuV_app]; exact nuV_map _ _) | rfl | (simp [rowOk, D.one, Value.oneCell', roomOk]; omega))
  ·cases hc2 : f.obj == 0
   ·refine CW.cast (CW.symX (s' := { t := mkT 70 0 [(4, .ref (.vec 3 0)), (5, nq), (6, .ref (.ptr 1 0)), (7, int many), (9, .ref (.mp 2)), (24, rD fs), (25, int (↑(List.length fs) : Int)), (26, int (IntKind.wrap IntKind.i64 ((↑i : Int) + 1)))], h := [.var [rD c0, rD c1, rD c2, rD fs], .var [int 12, int 0, int 0], .map (setKV l) (List.length l), .vec (nuV l) 0 1], m := [] }) (e := Exit.normal) pok [.st (.mask [4, 5, 6, 7, 9, 24, 25, 26]), .st (.ren 3 0), .st (.trim 4)] [.b true, .row [vi f.kind, vi f.sub, vi f.obj, vi f.value, vi f.frm, vi f.til, vi f.known, vi f.no], .b false, .g true, .g true, .g true, .g true, .ov 46 (bool (f.obj == 0)), .g false, .g false, .ov 50 (bool false), .g false, .g false, .g false, .g false, .ov 56 (bool false), .b false] (by kernel_rfl) (.c hlt (.c hr (.c hc0 (.c (show ((f.kind == 1) == true) = true from (by rw [hc1]; rfl)) (.c (show ((f.kind == 1) == true) = true from (by rw [hc1]; rfl)) (.c (show ((f.kind == 1) == true) = true from (by rw [hc1]; rfl)) (.c (show ((f.kind == 1) == true) = true from (by rw [hc1]; rfl)) (.c (show PickIs (bool (f.kind == 1)) (bool (f.obj == 0)) (bool false) (bool (f.obj == 0)) from (pickIs_t hc1 rfl)) (.c (show ((f.obj == 0) == true) = false from (by rw [hc2]; rfl)) (.c (show ((f.obj == 0) == true) = false from (by rw [hc2]; rfl)) (.c (show PickIs (bool (f.obj == 0)) (D.p (Dp.v (Value.tuple { toList := [] }))) (bool false) (bool false) from (pickIs_f hc2 rfl)) (.c (show (false == true) = false from rfl) (.c (show (false == true) = false from rfl) (.c (show (false == true) = false from rfl) (.c (show (false == true) = false from rfl) (.c (show PickIs (bool false) (D.p (Dp.v (Value.tuple { toList := [] }))) (bool false) (bool false) from (pickIs_f rfl rfl)) (.c (show false = false from rfl) (.c (show List.map (D.mapRL (renR 3 0 0)) (nuV l) = nuV l from ?_) (.c (show List.map (fun e => (D.mapR (renR 3 0 0) e.fst, D.mapR (renR 3 0 0) e.snd.fst, e.snd.snd)) (setKV l) = setKV l from ?_) (.c (show (List.all (setKV l) fun e => D.inn 4 e.fst && D.inn 4 e.snd.fst) = true from ?_) (.c (show List.all (nuV l) (D.innL 4) = true from ?_) .n)))))))))))))))))))))) (by first | (rw [nuF_stop hc0]; rfl) | (rw [nuF_stop hc0]; done) | (rw [nuF_new hc0] <;> first | (simp only [isNew, hc1, hc2, Bool.and_false, Bool.false_and]; done) | (simp only [bodyFin]; done) | (simp only [bodyFin, hw, nuV_app]; rfl)) | (rw [nuF_old hc0] <;> first | (simp only [isNew, hc1, hc2, Bool.and_false, Bool.false_and]; done) | (simp only [bodyFin]; done) | (simp only [bodyFin, hw]; rfl))) (by first | (rw [nuF_stop hc0]; rfl) | (rw [nuF_stop hc0]; done) | (rw [nuF_new hc0] <;> first | (simp only [isNew, hc0, hc1, hc2, Bool.and_self, Bool.true_and, Bool.and_true, Bool.and_false, Bool.false_and, cond_true, cond_false]; done) | (simp only [bodyFin, hw]; done) | (simp only [bodyFin, hw]; rfl)) | (rw [nuF_old hc0] <;> first | (simp only [isNew, hc1, hc2, Bool.and_false, Bool.false_and]; done) | (simp only [bodyFin, hw]; done) | (simp only [bodyFin, hw]; rfl))) <;> (first | assumption | exact lk152 (l := l) rfl | exact up152 (l := l) rfl (by assumption) | exact setKV_inn _ _ | exact setKV_ren _ _ | exact nuV_inn _ _ | exact nuV_map _ _ | (rw [nuV_app]; exact nuV_inn _ _) | (rw [nuV_app]; exact nuV_map _ _) | rfl | (simp [rowOk, D.one, Value.oneCell', roomOk]; omega))
   ·cases hc3 : decide (f.sub ≥ 0) && decide (f.sub ≤ 4095)
    ·refine CW.cast (CW.symX (s' := { t := mkT 70 0 [(4, .ref (.vec 3 0)), (5, nq), (6, .ref (.ptr 1 0)), (7, int many), (9, .ref (.mp 2)), (24, rD fs), (25, int (↑(List.length fs) : Int)), (26, int (IntKind.wrap IntKind.i64 ((↑i : Int) + 1)))], h := [.var [rD c0, rD c1, rD c2, rD fs], .var [int 12, int 0, int 0], .map (setKV l) (List.length l), .vec (nuV l) 0 1], m := [] }) (e := Exit.normal) pok [.st (.mask [4, 5, 6, 7, 9, 24, 25, 26]), .st (.ren 3 0), .st (.trim 4)] [.b true, .row [vi f.kind, vi f.sub, vi f.obj, vi f.value, vi f.frm, vi f.til, vi f.known, vi f.no], .b false, .g true, .g true, .g true, .g true, .ov 46 (bool (f.obj == 0)), .g true, .g true, .val (bool (decide (f.sub ≥ 0) && decide (f.sub ≤ 4095))), .ov 50 (bool (decide (f.sub ≥ 0) && decide (f.sub ≤ 4095))), .g false, .g false, .g false, .g false, .ov 56 (bool false), .b false] (by kernel_rfl) (.c hlt (.c hr (.c hc0 (.c (show ((f.kind == 1) == true) = true from (by rw [hc1]; rfl)) (.c (show ((f.kind == 1) == true) = true from (by rw [hc1]; rfl)) (.c (show ((f.kind == 1) == true) = true from (by rw [hc1]; rfl)) (.c (show ((f.kind == 1) == true) = true from (by rw [hc1]; rfl)) (.c (show PickIs (bool (f.kind == 1)) (bool (f.obj == 0)) (bool false) (bool (f.obj == 0)) from (pickIs_t hc1 rfl)) (.c (show ((f.obj == 0) == true) = true from (by rw [hc2]; rfl)) (.c (show ((f.obj == 0) == true) = true from (by rw [hc2]; rfl)) (.c (@bin_ev (f.sub) (0) (4095) ((nu_body_x0 c0 c1 c2 fs l f))) (.c (show PickIs (bool (f.obj == 0)) (bool (decide (f.sub ≥ 0) && decide (f.sub ≤ 4095))) (bool false) (bool (decide (f.sub ≥ 0) && decide (f.sub ≤ 4095))) from (pickIs_t hc2 rfl)) (.c (show ((decide (f.sub ≥ 0) && decide (f.sub ≤ 4095)) == true) = false from (by rw [hc3]; rfl)) (.c (show ((decide (f.sub ≥ 0) && decide (f.sub ≤ 4095)) == true) = false from (by rw [hc3]; rfl)) (.c (show ((decide (f.sub ≥ 0) && decide (f.sub ≤ 4095)) == true) = false from (by rw [hc3]; rfl)) (.c (show ((decide (f.sub ≥ 0) && decide (f.sub ≤ 4095)) == true) = false from (by rw [hc3]; rfl)) (.c (show PickIs (bool (decide (f.sub ≥ 0) && decide (f.sub ≤ 4095))) (D.p (Dp.v (Value.tuple { toList := [] }))) (bool false) (bool false) from (pickIs_f hc3 rfl)) (.c (show false = false from rfl) (.c (show List.map (D.mapRL (renR 3 0 0)) (nuV l) = nuV l from ?_) (.c (show List.map (fun e => (D.mapR (renR 3 0 0) e.fst, D.mapR (renR 3 0 0) e.snd.fst, e.snd.snd)) (setKV l) = setKV l from ?_) (.c (show (List.all (setKV l) fun e => D.inn 4 e.fst && D.inn 4 e.snd.fst) = true from ?_) (.c (show List.all (nuV l) (D.innL 4) = true from ?_) .n))))))))))))))))))))))) (by first | (rw [nuF_stop hc0]; rfl) | (rw [nuF_stop hc0]; done) | (rw [nuF_new hc0] <;> first | (simp only [isNew, hc1, hc2, hc3, Bool.and_false, Bool.false_and]; done) | (simp only [bodyFin]; done) | (simp only [bodyFin, hw, nuV_app]; rfl)) | (rw [nuF_old hc0] <;> first | (simp only [isNew, hc1, hc2, hc3, Bool.and_false, Bool.false_and]; done) | (simp only [bodyFin]; done) | (simp only [bodyFin, hw]; rfl))) (by first | (rw [nuF_stop hc0]; rfl) | (rw [nuF_stop hc0]; done) | (rw [nuF_new hc0] <;> first | (simp only [isNew, hc0, hc1, hc2, hc3, Bool.and_self, Bool.true_and, Bool.and_true, Bool.and_false, Bool.false_and, cond_true, cond_false]; done) | (simp only [bodyFin, hw]; done) | (simp only [bodyFin, hw]; rfl)) | (rw [nuF_old hc0] <;> first | (simp only [isNew, hc1, hc2, hc3, Bool.and_false, Bool.false_and]; done) | (simp only [bodyFin, hw]; done) | (simp only [bodyFin, hw]; rfl))) <;> (first | assumption | exact lk152 (l := l) rfl | exact up152 (l := l) rfl (by assumption) | exact setKV_inn _ _ | exact setKV_ren _ _ | exact nuV_inn _ _ | exact nuV_map _ _ | (rw [nuV_app]; exact nuV_inn _ _) | (rw [nuV_app]; exact nuV_map _ _) | rfl | (simp [rowOk, D.one, Value.oneCell', roomOk]; omega))
    ·cases hc4 : !List.contains l f.sub
     ·refine CW.cast (CW.symX (s' := { t := mkT 70 0 [(4, .ref (.vec 3 0)), (5, nq), (6, .ref (.ptr 1 0)), (7, int many), (9, .ref (.mp 2)), (24, rD fs), (25, int (↑(List.length fs) : Int)), (26, int (IntKind.wrap IntKind.i64 ((↑i : Int) + 1)))], h := [.var [rD c0, rD c1, rD c2, rD fs], .var [int 12, int 0, int 0], .map (setKV l) (List.length l), .vec (nuV l) 0 1], m := [] }) (e := Exit.normal) pok [.st (.mask [4, 5, 6, 7, 9, 24, 25, 26]), .st (.ren 3 0), .st (.trim 4)] [.b true, .row [vi f.kind, vi f.sub, vi f.obj, vi f.value, vi f.frm, vi f.til, vi f.known, vi f.no], .b false, .g true, .g true, .g true, .g true, .ov 46 (bool (f.obj == 0)), .g true, .g true, .val (bool (decide (f.sub ≥ 0) && decide (f.sub ≤ 4095))), .ov 50 (bool (decide (f.sub ≥ 0) && decide (f.sub ≤ 4095))), .g true, .g true, .g true, .ov 54 (bool (List.contains l f.sub)), .g true, .ov 56 (bool !List.contains l f.sub), .b false] (by kernel_rfl) (.c hlt (.c hr (.c hc0 (.c (show ((f.kind == 1) == true) = true from (by rw [hc1]; rfl)) (.c (show ((f.kind == 1) == true) = true from (by rw [hc1]; rfl)) (.c (show ((f.kind == 1) == true) = true from (by rw [hc1]; rfl)) (.c (show ((f.kind == 1) == true) = true from (by rw [hc1]; rfl)) (.c (show PickIs (bool (f.kind == 1)) (bool (f.obj == 0)) (bool false) (bool (f.obj == 0)) from (pickIs_t hc1 rfl)) (.c (show ((f.obj == 0) == true) = true from (by rw [hc2]; rfl)) (.c (show ((f.obj == 0) == true) = true from (by rw [hc2]; rfl)) (.c (@bin_ev (f.sub) (0) (4095) ((nu_body_x0 c0 c1 c2 fs l f))) (.c (show PickIs (bool (f.obj == 0)) (bool (decide (f.sub ≥ 0) && decide (f.sub ≤ 4095))) (bool false) (bool (decide (f.sub ≥ 0) && decide (f.sub ≤ 4095))) from (pickIs_t hc2 rfl)) (.c (show ((decide (f.sub ≥ 0) && decide (f.sub ≤ 4095)) == true) = true from (by rw [hc3]; rfl)) (.c (show ((decide (f.sub ≥ 0) && decide (f.sub ≤ 4095)) == true) = true from (by rw [hc3]; rfl)) (.c (show ((decide (f.sub ≥ 0) && decide (f.sub ≤ 4095)) == true) = true from (by rw [hc3]; rfl)) (.c (show lookupD Tryz.prog (nu_body_x0 c0 c1 c2 fs l f) 152 (.ref (.mp 2)) (int f.sub) false = some (bool (List.contains l f.sub)) from ?_) (.c (show ((decide (f.sub ≥ 0) && decide (f.sub ≤ 4095)) == true) = true from (by rw [hc3]; rfl)) (.c (show PickIs (bool (decide (f.sub ≥ 0) && decide (f.sub ≤ 4095))) (bool !List.contains l f.sub) (bool false) (bool !List.contains l f.sub) from (pickIs_t hc3 rfl)) (.c hc4 (.c (show List.map (D.mapRL (renR 3 0 0)) (nuV l) = nuV l from ?_) (.c (show List.map (fun e => (D.mapR (renR 3 0 0) e.fst, D.mapR (renR 3 0 0) e.snd.fst, e.snd.snd)) (setKV l) = setKV l from ?_) (.c (show (List.all (setKV l) fun e => D.inn 4 e.fst && D.inn 4 e.snd.fst) = true from ?_) (.c (show List.all (nuV l) (D.innL 4) = true from ?_) .n)))))))))))))))))))))))) (by first | (rw [nuF_stop hc0]; rfl) | (rw [nuF_stop hc0]; done) | (rw [nuF_new hc0] <;> first | (simp only [isNew, hc1, hc2, hc3, hc4, Bool.and_false]; done) | (simp only [bodyFin]; done) | (simp only [bodyFin, hw, nuV_app]; rfl)) | (rw [nuF_old hc0] <;> first | (simp only [isNew, hc1, hc2, hc3, hc4, Bool.and_false]; done) | (simp only [bodyFin]; done) | (simp only [bodyFin, hw]; rfl))) (by first | (rw [nuF_stop hc0]; rfl) | (rw [nuF_stop hc0]; done) | (rw [nuF_new hc0] <;> first | (simp only [isNew, hc0, hc1, hc2, hc3, hc4, Bool.and_self, Bool.true_and, Bool.and_true, Bool.and_false, Bool.false_and, cond_true, cond_false]; done) | (simp only [bodyFin, hw]; done) | (simp only [bodyFin, hw]; rfl)) | (rw [nuF_old hc0] <;> first | (simp only [isNew, hc1, hc2, hc3, hc4, Bool.and_false]; done) | (simp only [bodyFin, hw]; done) | (simp only [bodyFin, hw]; rfl))) <;> (first | assumption | exact lk152 (l := l) rfl | exact up152 (l := l) rfl (by assumption) | exact setKV_inn _ _ | exact setKV_ren _ _ | exact nuV_inn _ _ | exact nuV_map _ _ | (rw [nuV_app]; exact nuV_inn _ _) | (rw [nuV_app]; exact nuV_map _ _) | rfl | (simp [rowOk, D.one, Value.oneCell', roomOk]; omega))
     ·refine CW.cast (CW.symX (s' := { t := mkT 70 0 [(4, .ref (.vec 3 0)), (5, nq), (6, .ref (.ptr 1 0)), (7, int many), (9, .ref (.mp 2)), (24, rD fs), (25, int (↑(List.length fs) : Int)), (26, int (IntKind.wrap IntKind.i64 ((↑i : Int) + 1)))], h := [.var [rD c0, rD c1, rD c2, rD fs], .var [int 12, int 0, int 0], .map (setKV (l ++ [f.sub])) (List.length (l ++ [f.sub])), .vec (nuV l ++ [[int f.sub]]) 0 1], m := [] }) (e := Exit.normal) pok [.st (.mask [4, 5, 6, 7, 9, 24, 25, 26]), .st (.ren 3 0), .st (.trim 4)] [.b true, .row [vi f.kind, vi f.sub, vi f.obj, vi f.value, vi f.frm, vi f.til, vi f.known, vi f.no], .b false, .g true, .g true, .g true, .g true, .ov 46 (bool (f.obj == 0)), .g true, .g true, .val (bool (decide (f.sub ≥ 0) && decide (f.sub ≤ 4095))), .ov 50 (bool (decide (f.sub ≥ 0) && decide (f.sub ≤ 4095))), .g true, .g true, .g true, .ov 54 (bool (List.contains l f.sub)), .g true, .ov 56 (bool !List.contains l f.sub), .b true, .oh 10057 D.any (nuH c0 c1 c2 fs (setB (l ++ [f.sub])) (nuV l) ++ [.var (List.map D.p (FactT.row f))])] (by kernel_rfl) (.c hlt (.c hr (.c hc0 (.c (show ((f.kind == 1) == true) = true from (by rw [hc1]; rfl)) (.c (show ((f.kind == 1) == true) = true from (by rw [hc1]; rfl)) (.c (show ((f.kind == 1) == true) = true from (by rw [hc1]; rfl)) (.c (show ((f.kind == 1) == true) = true from (by rw [hc1]; rfl)) (.c (show PickIs (bool (f.kind == 1)) (bool (f.obj == 0)) (bool false) (bool (f.obj == 0)) from (pickIs_t hc1 rfl)) (.c (show ((f.obj == 0) == true) = true from (by rw [hc2]; rfl)) (.c (show ((f.obj == 0) == true) = true from (by rw [hc2]; rfl)) (.c (@bin_ev (f.sub) (0) (4095) ((nu_body_x0 c0 c1 c2 fs l f))) (.c (show PickIs (bool (f.obj == 0)) (bool (decide (f.sub ≥ 0) && decide (f.sub ≤ 4095))) (bool false) (bool (decide (f.sub ≥ 0) && decide (f.sub ≤ 4095))) from (pickIs_t hc2 rfl)) (.c (show ((decide (f.sub ≥ 0) && decide (f.sub ≤ 4095)) == true) = true from (by rw [hc3]; rfl)) (.c (show ((decide (f.sub ≥ 0) && decide (f.sub ≤ 4095)) == true) = true from (by rw [hc3]; rfl)) (.c (show ((decide (f.sub ≥ 0) && decide (f.sub ≤ 4095)) == true) = true from (by rw [hc3]; rfl)) (.c (show lookupD Tryz.prog (nu_body_x0 c0 c1 c2 fs l f) 152 (.ref (.mp 2)) (int f.sub) false = some (bool (List.contains l f.sub)) from ?_) (.c (show ((decide (f.sub ≥ 0) && decide (f.sub ≤ 4095)) == true) = true from (by rw [hc3]; rfl)) (.c (show PickIs (bool (decide (f.sub ≥ 0) && decide (f.sub ≤ 4095))) (bool !List.contains l f.sub) (bool false) (bool !List.contains l f.sub) from (pickIs_t hc3 rfl)) (.c hc4 (.c (show mapUpdateD Tryz.prog (nu_body_x0 c0 c1 c2 fs l f) 152 (.ref (.mp 2)) (int f.sub) (evalD Γ0 (D.any :: D.any :: D.any :: D.any :: .ref (.vec 3 0) :: nq :: .ref (.ptr 1 0) :: int many :: D.any :: .ref (.mp 2) :: D.any :: .ref (.ptr 4 0) :: int f.sub :: D.any :: D.any :: D.any :: D.any :: D.any :: D.any :: D.any :: D.any :: D.any :: D.any :: D.any :: rD fs :: int (↑(List.length fs) : Int) :: int (↑i : Int) :: bool (decide ((↑i : Int) < (↑(List.length fs) : Int))) :: D.ep [vi f.kind, vi f.sub, vi f.obj, vi f.value, vi f.frm, vi f.til, vi f.known, vi f.no] :: D.agg [int f.kind, int f.sub, int f.obj, int f.value, int f.frm, int f.til, int f.known, int f.no] :: .ref (.vec 3 0) :: int (↑(List.length (nuV l)) : Int) :: int many :: bool (decide ((↑(List.length (nuV l)) : Int) ≥ many)) :: .ref (.ptr 4 0) :: .ref (.ptr 4 1) :: int f.sub :: .ref (.ptr 4 0) :: .ref (.ptr 4 0) :: int f.kind :: bool (f.kind == 1) :: bool (f.kind == 1) :: .ref (.ptr 4 0) :: .ref (.ptr 4 2) :: int f.obj :: bool (f.obj == 0) :: bool (f.obj == 0) :: bool (f.obj == 0) :: mkT 22 0 [(0, int f.sub), (1, bool (decide (f.sub ≥ 0) && decide (f.sub ≤ 4095))), (2, bool (decide (f.sub ≥ 0) && decide (f.sub ≤ 4095))), (3, bool (decide (f.sub ≥ 0) && decide (f.sub ≤ 4095))), (4, .ref (.mp 2)), (5, int f.sub), (6, bool (List.contains l f.sub)), (7, bool !List.contains l f.sub), (8, bool !List.contains l f.sub), (9, .ref (.mp 2)), (10, int f.sub)]) (Operand.const (Value.bool true))) = some [.var [rD c0, rD c1, rD c2, rD fs], .var [int 12, int 0, int 0], .map (setKV (l ++ [f.sub])) (List.length (l ++ [f.sub])), .vec (nuV l) 0 1, .var [int f.kind, int f.sub, int f.obj, int f.value, int f.frm, int f.til, int f.known, int f.no]] from ?_) (.c (show (List.all [[int f.sub]] (rowOk 1) && roomOk (List.length (nuV l) + List.length [[int f.sub]]) 8) = true from ?_) (.c (show List.map (D.mapRL (renR 3 1 0)) (nuV l ++ [[int f.sub]]) = nuV l ++ [[int f.sub]] from ?_) (.c (show List.map (fun e => (D.mapR (renR 3 1 0) e.fst, D.mapR (renR 3 1 0) e.snd.fst, e.snd.snd)) (setKV (l ++ [f.sub])) = setKV (l ++ [f.sub]) from ?_) (.c (show [[int f.sub]] = [[int f.sub]] from rfl) (.c (show (List.all (setKV (l ++ [f.sub])) fun e => D.inn 4 e.fst && D.inn 4 e.snd.fst) = true from ?_) (.c (show List.all (nuV l ++ [[int f.sub]]) (D.innL 4) = true from ?_) .n))))))))))))))))))))))))))) (by first | (rw [nuF_stop hc0]; rfl) | (rw [nuF_stop hc0]; done) | (rw [nuF_new hc0] <;> first | (simp only [isNew, hc1, hc2, hc3, hc4, Bool.and_self]; done) | (simp only [bodyFin]; done) | (simp only [bodyFin, hw, nuV_app]; rfl)) | (rw [nuF_old hc0] <;> first | (simp only [isNew, hc0, hc1, hc2, hc3, hc4, Bool.and_self, Bool.true_and, Bool.and_true, Bool.and_false, Bool.false_and, cond_true, cond_false]; done) | (simp only [bodyFin, hw]; done) | (simp only [bodyFin, hw]; rfl))) (by first | (rw [nuF_stop hc0]; rfl) | (rw [nuF_stop hc0]; done) | (rw [nuF_new hc0] <;> first | (simp only [isNew, hc1, hc2, hc3, hc4, Bool.and_self]; done) | (simp only [bodyFin, hw, nuV_app]; done) | (simp only [bodyFin, hw, nuV_app]; rfl)) | (rw [nuF_old hc0] <;> first | (simp only [isNew, hc0, hc1, hc2, hc3, hc4, Bool.and_self, Bool.true_and, Bool.and_true, Bool.and_false, Bool.false_and, cond_true, cond_false]; done) | (simp only [bodyFin, hw]; done) | (simp only [bodyFin, hw]; rfl))) <;> (first | assumption | exact lk152 (l := l) rfl | exact up152 (l := l) rfl (by assumption) | exact setKV_inn _ _ | exact setKV_ren _ _ | exact nuV_inn _ _ | exact nuV_map _ _ | (rw [nuV_app]; exact nuV_inn _ _) | (rw [nuV_app]; exact nuV_map _ _) | rfl | (simp [rowOk, D.one, Value.oneCell', roomOk]; omega))
 ·refine CW.cast (CW.symX (s' := { t := mkT 70 0 [(4, .ref (.vec 3 0)), (5, nq), (6, .ref (.ptr 1 0))], h := [.var [rD c0, rD c1, rD c2, rD fs], .var [int 12, int 0, int 0], .map (setKV l) (List.length l), .vec (nuV l) 0 1], m := [] }) (e := Exit.exit 0) pok [.st (.mask [4, 5, 6]), .st (.trim 4)] [.b true, .row [vi f.kind, vi f.sub, vi f.obj, vi f.value, vi f.frm, vi f.til, vi f.known, vi f.no], .b true] (by kernel_rfl) (.c hlt (.c hr (.c hc0 (.c (show (List.all (setKV l) fun e => D.inn 4 e.fst && D.inn 4 e.snd.fst) = true from (by first | assumption | exact lk152 (l := l) rfl | exact up152 (l := l) rfl (by assumption) | exact setKV_inn _ _ | exact setKV_ren _ _ | exact nuV_inn _ _ | exact nuV_map _ _ | (rw [nuV_app]; exact nuV_inn _ _) | (rw [nuV_app]; exact nuV_map _ _) | rfl | (simp [rowOk, D.one, Value.oneCell', roomOk]; omega))) (.c (show List.all (nuV l) (D.innL 4) = true from (by first | assumption | exact lk152 (l := l) rfl | exact up152 (l := l) rfl (by assumption) | exact setKV_inn _ _ | exact setKV_ren _ _ | exact nuV_inn _ _ | exact nuV_map _ _ | (rw [nuV_app]; exact nuV_inn _ _) | (rw [nuV_app]; exact nuV_map _ _) | rfl | (simp [rowOk, D.one, Value.oneCell', roomOk]; omega))) .n)))))) ?_ ?_ <;> (first | (rw [nuF_stop hc0]; rfl) | (rw [nuF_stop hc0]; done) | (rw [nuF_new hc0] <;> first | (simp only [isNew, hc0, Bool.and_self, Bool.true_and, Bool.and_true, Bool.and_false, Bool.false_and, cond_true, cond_false]; done) | (simp only [bodyFin, hw, nuV_app]; done) | (simp only [bodyFin, hw, nuV_app]; rfl)) | (rw [nuF_old hc0] <;> first | (simp only [isNew, hc0, Bool.and_self, Bool.true_and, Bool.and_true, Bool.and_false, Bool.false_and, cond_true, cond_false]; done) | (simp only [bodyFin, hw]; done) | (simp only [bodyFin, hw]; rfl)))
theorem nu_last {c0 c1 c2 : List (List Dp)} {fs : List (List Dp)} {many : Int} {s : Blk} {v : List (List D)} {i : Nat} (hlt : decide ((i : Int) < (fs.length : Int)) = false) : (CW Tryz.prog Γ0 [] false (sub Tryz.f34 0) (nuS c0 c1 c2 fs many s v i) (.exit 0) (nuE c0 c1 c2 fs many s v)) := by
 exact CW.cast (CW.symX (s' := { t := mkT 70 0 [(4, .ref (.vec 3 0)), (5, nq), (6, .ref (.ptr 1 0))], h := [.var [rD c0, rD c1, rD c2, rD fs], .var [int 12, int 0, int 0], s, .vec v 0 1], m := [] }) (e := Exit.exit 0) pok [.st (.mask [4, 5, 6])] [.b false] (by kernel_rfl) (.c hlt .n)) (by rfl) (by rfl)
def nuG (r : List Int ⊕ List Int) : List Int := match r with | .inl l => l | .inr l => l
theorem nuF_len {many : Int} {f : FactT} {l l' : List Int} (h : nuF many f l = .inl l') : l'.length ≤ l.length + 1 := by
 unfold nuF at h
 split at h
 ·simp at h
 ·simp at h; subst h
  cases isNew f l <;> simp
theorem nu_cw {c0 c1 c2 : List (List Dp)} {many : Int} {fs : List FactT} (hf : fs.length ≤ 69000) :
  CW Tryz.prog Γ0 [] false (.loop (sub Tryz.f34 0)) (nuS c0 c1 c2 (fs.map FactT.row) many (setB []) (nuV []) 0) (.exit 0) (nuE c0 c1 c2 (fs.map FactT.row) many (setB (nuG (forL (nuF many) fs []))) (nuV (nuG (forL (nuF many) fs [])))) := by
 have := CW.each (P := Tryz.prog) (Γ := Γ0) (h0 := []) (rd := false) (c := sub Tryz.f34 0) fs (nuF many) (fun i l => nuS c0 c1 c2 (fs.map FactT.row) many (setB l) (nuV l) (i : Int)) (.exit 0) (fun l => nuE c0 c1 c2 (fs.map FactT.row) many (setB l) (nuV l)) (fun l => (.exit 0, nuE c0 c1 c2 (fs.map FactT.row) many (setB l) (nuV l)))
  (fun i l => l.length ≤ i) (by simp) (by simp) ?_ ?_ [] (by simp)
 ·cases h : forL (nuF many) fs [] <;> rw [h] at this <;> exact this
 ·intro i f l hfi hl
  have hi := (List.getElem?_eq_some_iff.1 hfi).1
  refine ⟨fun l' h => ?_, nu_body (rowAt hfi rfl) (lt_len _ hi) (wrap_succ hi (by omega)) (by omega) (nuV_map l) (nuV_inn l)⟩
  have := nuF_len h
  omega
 ·intro l hl
  exact nu_last (ge_len _ fs)
theorem nu_frz (l : List Int) : nuV l = (l.map fun n => [vi n]).map (List.map D.p) := by simp [nuV]
theorem sort4_ev {x0 x1 x2 : Blk} {l : List Int} (hl : l.length < 4611686018427387904) : Ev Tryz.prog Γ0 88 [.ref (.vec 3 0)] [x0, x1, x2, .vec (nuV l) 0 1] (.tup []) [x0, x1, x2, .vec (nuV (l.mergeSort fun x y => decide (x ≤ y))) 0 1] :=
 sortInt_ev (h := [x0, x1, x2, .vec (nuV l) 0 1]) (b := 3) rfl hl
theorem forL_nu_len {many : Int} : ∀ (fs : List FactT) (l : List Int), (nuG (forL (nuF many) fs l)).length ≤ l.length + fs.length
 | [], l => by simp [forL, nuG]
 | f :: fs, l => by
  simp only [forL]
  cases h : nuF many f l with
  | inl l' =>
   have := nuF_len h
   have := forL_nu_len (many := many) fs l'
   simp only [List.length_cons]; omega
  | inr l' =>
   have : l' = l := by
    unfold nuF at h; split at h
    ·simp at h; exact h.symm
    ·simp at h
   subst this
   simp only [nuG]; omega
theorem nums_len {many : Int} {fs : List FactT} (hf : fs.length ≤ 69000) : (nuG (forL (nuF many) fs [])).length < 4611686018427387904 := by
 have := forL_nu_len (many := many) fs []
 simp at this; omega
def numsOf (many : Int) (fs : List FactT) : List Int := nuG (forL (nuF many) fs [])
def manyOf (fs : List FactT) (known : Int) : Int := (atR 12 0 0 0 known fs).1
def numbersR (fs : List FactT) (known : Int) : List Int := (numsOf (manyOf fs known) fs).mergeSort fun x y => decide (x ≤ y)
noncomputable abbrev nuB (c0 c1 c2 : List (List Dp)) (fs : List FactT) (known : Int) (r : Blk) : List Blk := [.var [rD c0, rD c1, rD c2, rD (fs.map FactT.row)], .var [int 12, int 0, int 0], setB (nuG (forL (nuF (atR 12 0 0 0 known fs).1) fs [])), .gone, r]
noncomputable abbrev numbers_a_x0 (c0 : List (List Dp)) (c1 : List (List Dp)) (c2 : List (List Dp)) (fs : List FactT) (known : Int) : List Blk := [.var [rD c0, rD c1, rD c2, rD (List.map FactT.row fs)], .var [int 12, int 0, int 0], .map (setKV (nuG (forL (nuF (atR 12 0 0 0 known fs).fst) fs []))) (List.length (nuG (forL (nuF (atR 12 0 0 0 known fs).fst) fs []))), .vec (nuV (nuG (forL (nuF (atR 12 0 0 0 known fs).fst) fs []))) 0 1]
noncomputable abbrev numbers_a_x1 (c0 : List (List Dp)) (c1 : List (List Dp)) (c2 : List (List Dp)) (fs : List FactT) : List Blk := [.var [rD c0, rD c1, rD c2, rD (List.map FactT.row fs)], .var [int 12, int 0, int 0]]
theorem numbers_a {c0 c1 c2 : List (List Dp)} {fs : List FactT} (hf : fs.length ≤ 69000) (hs : Short fs) {known : Int} : (Ev Tryz.prog Γ0 34 [.agg [rD c0, rD c1, rD c2, rD (fs.map FactT.row)], int known] [] (.tup [rD ((numbersR fs known).map fun n => [vi n]), .ref (.vec 4 0)]) (nuB c0 c1 c2 fs known (.vec [[int 12, int 0, int 0, int 0, int 1]] 0 5))) := by
 have hl0 := (@nu_cw (c0) (c1) (c2) ((atR 12 0 0 0 known fs).fst) (fs) (hf))
 refine Ev.castH (Ev.of_sym (h' := [.var [rD c0, rD c1, rD c2, rD (List.map FactT.row fs)], .var [int 12, int 0, int 0], .map (setKV (nuG (forL (nuF (atR 12 0 0 0 known fs).fst) fs []))) (List.length (nuG (forL (nuF (atR 12 0 0 0 known fs).fst) fs []))), .gone, .vec [[int 12, int 0, int 0, int 0, int 1]] 0 5]) (d := D.tup [rD (List.map (fun n => [vi n]) (numbersR fs known)), .ref (.vec 4 0)]) pok [.val (D.tup [int (atR 12 0 0 0 known fs).fst, bool (atR 12 0 0 0 known fs).snd]), .nx 2, .st (.nilT 4 1), .sum [4, 5, 6, 7, 9, 24, 25, 26] (Exit.exit 0) { t := mkT 70 0 [(4, .ref (.vec 3 0)), (5, nq), (6, .ref (.ptr 1 0))], h := (numbers_a_x0 c0 c1 c2 fs known), m := [] }, .call (D.tup []) [.var [rD c0, rD c1, rD c2, rD (List.map FactT.row fs)], .var [int 12, int 0, int 0], .map (setKV (nuG (forL (nuF (atR 12 0 0 0 known fs).fst) fs []))) (List.length (nuG (forL (nuF (atR 12 0 0 0 known fs).fst) fs []))), .vec (nuV (List.mergeSort (nuG (forL (nuF (atR 12 0 0 0 known fs).fst) fs [])) fun x y => decide (x ≤ y))) 0 1], .st (.frz 3 (List.map (fun n => [vi n]) (numbersR fs known)))] (by kernel_rfl) (.c (@at_ev (12) (0) (0) (0) (known) (fs) (hs) ((numbers_a_x1 c0 c1 c2 fs))) (.c hl0 (.c (@sort4_ev (.var [rD c0, rD c1, rD c2, rD (List.map FactT.row fs)]) (.var [int 12, int 0, int 0]) (.map (setKV (nuG (forL (nuF (atR 12 0 0 0 known fs).fst) fs []))) (List.length (nuG (forL (nuF (atR 12 0 0 0 known fs).fst) fs [])))) (nuG (forL (nuF (atR 12 0 0 0 known fs).fst) fs [])) ?_) (.c (show nuV (List.mergeSort (nuG (forL (nuF (atR 12 0 0 0 known fs).fst) fs [])) fun x y => decide (x ≤ y)) = List.map (fun x => List.map D.p x) (List.map (fun n => [vi n]) (numbersR fs known)) from ?_) (.c (show List.map (fun e => (D.mapR (frzR 3 0 (List.map (fun n => [vi n]) (numbersR fs known))) e.fst, D.mapR (frzR 3 0 (List.map (fun n => [vi n]) (numbersR fs known))) e.snd.fst, e.snd.snd)) (setKV (nuG (forL (nuF (atR 12 0 0 0 known fs).fst) fs []))) = setKV (nuG (forL (nuF (atR 12 0 0 0 known fs).fst) fs [])) from ?_) (.e (D.agg [int 12, int 0, int 0]) .n))))))) (by rfl) (by rfl) <;> (first | assumption | exact nums_len hf | exact setKV_ren _ _ | exact nu_frz _)
theorem numbers_b {c0 c1 c2 : List (List Dp)} {fs : List FactT} (hf : fs.length ≤ 69000) (hs : Short fs) {known : Int} : Ev Tryz.prog Γ0 34 [.agg [rD c0, rD c1, rD c2, rD (fs.map FactT.row)], int known] [] (.tup [rD ((numbersR fs known).map fun n => [vi n]), .ref (.vec 0 0)]) [.vec [[int 12, int 0, int 0, int 0, int 1]] 0 5] :=
 Ev.castH ((numbers_a (c0 := c0) (c1 := c1) (c2 := c2) (known := known) hf hs).keepB [4] (by kernel_rfl) ⟨rfl, trivial⟩) (by kernel_rfl) (by kernel_rfl)
theorem numbers_evA {c0 c1 c2 : List (List Dp)} {fs : List FactT} (hf : fs.length ≤ 69000) (hs : Short fs) {known : Int} (h : List Blk) : Ev Tryz.prog Γ0 34 [.agg [rD c0, rD c1, rD c2, rD (fs.map FactT.row)], int known] h (.tup [rD ((numbersR fs known).map fun n => [vi n]), .ref (.vec h.length 0)]) (h ++ [.vec [[int 12, int 0, int 0, int 0, int 1]] 0 5]) :=
 (numbers_b (c0 := c0) (c1 := c1) (c2 := c2) (known := known) hf hs).frameN (by kernel_rfl) rfl h
end Go.Vi
open Go Go.Proofs
namespace Go.Vi
set_option maxRecDepth 100000
set_option maxHeartbeats 4000000
abbrev bestC (l : List FactT) : List (List D) := l.map fun f => f.row.map .p
abbrev boolC (l : List Bool) : List (List D) := l.map fun b => [bool b]
abbrev intC (l : List Int) : List (List D) := l.map fun n => [int n]
abbrev vaT : List D := mkT 63 0 [(6, .ref (.ptr 1 0)), (7, .ref (.ptr 2 0)), (8, .ref (.ptr 3 0)), (15, .fn (.func 178) [] [.ref (.ptr 4 0), .ref (.ptr 5 0), .ref (.ptr 6 0)])]
noncomputable abbrev vaL (st : LoopState) : Blk := .loop st none 0 vaT #[16] (rfAsg (sub Tryz.f159 0)) (rfBody (sub Tryz.f159 0))
noncomputable abbrev vaH (kk ks ko known : Int) (fs : List (List Dp)) (rs : List D) (best : List FactT) (some : List Bool) (st : LoopState) (more : List Blk) : List Blk :=
 [.var [int kk, int ks, int ko], .var rs, .var (bestC best).flatten, .var (boolC some).flatten, .var [rD fs], .var [int kk, int ks, int ko], .var [int known], .defd, vaL st] ++ more
abbrev vaU : List D := mkT 63 0 [(6, .ref (.ptr 1 0)), (7, .ref (.ptr 2 0)), (8, .ref (.ptr 3 0)), (9, .ref (.ptr 10 0))]
theorem va_asg {kk ks ko known : Int} {fs : List (List Dp)} {rs : List D} {best : List FactT} {some : List Bool} {f : FactT} : (CW Tryz.prog Γ0 (vaH kk ks ko known fs rs best some .ready [.var (f.row.map .p)]) true (rfAsg (sub Tryz.f159 0)) { t := setAll vaT [(16, ag f.row)], h := vaH kk ks ko known fs rs best some .ready [.var (f.row.map .p)], m := [] } .normal { t := vaU, h := vaH kk ks ko known fs rs best some .ready [.var (f.row.map .p), .var (f.row.map .p)], m := [] }) := by
 exact CW.cast (CW.symX (s' := { t := mkT 63 0 [(6, .ref (.ptr 1 0)), (7, .ref (.ptr 2 0)), (8, .ref (.ptr 3 0)), (9, .ref (.ptr 10 0))], h := [.var [int kk, int ks, int ko], .var rs, .var (List.flatten (bestC best)), .var (List.flatten (boolC some)), .var [rD fs], .var [int kk, int ks, int ko], .var [int known], .defd, .loop LoopState.ready none 0 (mkT 63 0 [(6, .ref (.ptr 1 0)), (7, .ref (.ptr 2 0)), (8, .ref (.ptr 3 0)), (15, D.fn (Fn.func 178) [] [.ref (.ptr 4 0), .ref (.ptr 5 0), .ref (.ptr 6 0)])]) { toList := [16] } (rfAsg (sub Tryz.f159 0)) (rfBody (sub Tryz.f159 0)), .var [int f.kind, int f.sub, int f.obj, int f.value, int f.frm, int f.til, int f.known, int f.no], .var [int f.kind, int f.sub, int f.obj, int f.value, int f.frm, int f.til, int f.known, int f.no]], m := [] }) (e := Exit.normal) pok [.st (.mask [6, 7, 8, 9])] [] (by kernel_rfl) .n) (by rfl) (by rfl)
theorem va_some {h : List Blk} {off n : Nat} {l : List Bool} {b : Bool} (hb : h[3]? = some (.var (boolC l).flatten)) (hs : l[n]? = some b) (ho : off = n * 1) : loadD Tryz.prog h 4 (.ref (.ptr 3 off)) = some (bool b) := by
 subst ho
 exact load_arr1 (sz := 1) (j := 0) (row := [bool b]) (by kernel_rfl) (by kernel_rfl) hb (fun r hr => by obtain ⟨_, _, rfl⟩ := List.mem_map.1 hr; rfl) (by simp [hs]) rfl
theorem va_best {h : List Blk} {off n : Nat} {l : List FactT} {g : FactT} (hb : h[2]? = some (.var (bestC l).flatten)) (hs : l[n]? = some g) (ho : off = n * 8) : loadD Tryz.prog h 60 (.ref (.ptr 2 off)) = some (ag g.row) := by
 subst ho
 exact load_arr (sz := 8) (row := g.row.map .p) (by kernel_rfl) (by kernel_rfl) hb (by simp [FactT.row]) (by simp [hs])
theorem va_stB {h : List Blk} {off n : Nat} {l : List FactT} {f : FactT} (hb : h[2]? = some (.var (bestC l).flatten)) (hn : n < l.length) (ho : off = n * 8) : storeD Tryz.prog h 60 (.ref (.ptr 2 off)) (ag f.row) = some (h.set 2 (.var (bestC (l.set n f)).flatten)) := by
 subst ho
 rw [store_arr (sz := 8) (new := f.row.map .p) rfl (by kernel_rfl) rfl hb (by simp [FactT.row]) (by simpa using hn), bestC, bestC, List.map_set]
theorem va_stS {h : List Blk} {off n : Nat} {l : List Bool} {b : Bool} (hb : h[3]? = some (.var (boolC l).flatten)) (hn : n < l.length) (ho : off = n * 1) : storeD Tryz.prog h 4 (.ref (.ptr 3 off)) (bool b) = some (h.set 3 (.var (boolC (l.set n b)).flatten)) := by
 subst ho
 rw [store_arr (sz := 1) (new := [bool b]) rfl (by kernel_rfl) rfl hb (fun r hr => by obtain ⟨_, _, rfl⟩ := List.mem_map.1 hr; rfl) (by simpa using hn), boolC, boolC, List.map_set]
theorem lt_of_some {α : Type} {l : List α} {n : Nat} {a : α} (h : l[n]? = some a) : n < l.length := (List.getElem?_eq_some_iff.1 h).1
def vaHit (f g : FactT) (b : Bool) : Bool := !b || decide (orI (cmpI f.known g.known) (cmpI f.no g.no) ≥ 0)
noncomputable abbrev vaS (kk ks ko known : Int) (fs : List (List Dp)) (rs : List D) (best : List FactT) (some : List Bool) (f : FactT) (t : Int) : AS := { t := mkT 63 0 [(6, .ref (.ptr 1 0)), (7, .ref (.ptr 2 0)), (8, .ref (.ptr 3 0)), (9, .ref (.ptr 10 0)), (10, int t)], h := vaH kk ks ko known fs rs best some .busy [.var (f.row.map .p), .var (f.row.map .p)], m := [] }
noncomputable abbrev va_b_x0 (kk : Int) (ks : Int) (ko : Int) (known : Int) (fs : List (List Dp)) (rs : List D) (best : List FactT) (some : List Bool) (f : FactT) : List Blk := [.var [int kk, int ks, int ko], .var rs, .var (List.flatten (bestC best)), .var (List.flatten (boolC some)), .var [rD fs], .var [int kk, int ks, int ko], .var [int known], .defd, .loop LoopState.busy none 0 (mkT 63 0 [(6, .ref (.ptr 1 0)), (7, .ref (.ptr 2 0)), (8, .ref (.ptr 3 0)), (15, D.fn (Fn.func 178) [] [.ref (.ptr 4 0), .ref (.ptr 5 0), .ref (.ptr 6 0)])]) { toList := [16] } (rfAsg (sub Tryz.f159 0)) (rfBody (sub Tryz.f159 0)), .var [int f.kind, int f.sub, int f.obj, int f.value, int f.frm, int f.til, int f.known, int f.no], .var [int f.kind, int f.sub, int f.obj, int f.value, int f.frm, int f.til, int f.known, int f.no]]
theorem va_b {kk ks ko known : Int} {fs : List (List Dp)} {rs : List D} {best b0 : List FactT} {some s0 : List Bool} {f g f0 : FactT} {n : Nat} {b : Bool} (hb : best[n]? = .some g) (hs : some[n]? = .some b) (hn : inR (n : Int) 1024 = true) (hlt : decide ((n : Int) < if false = true then if 1024 > f.til then 1024 else f.til else if 1024 < f.til then 1024 else f.til) = true) : (CW Tryz.prog Γ0 (vaH kk ks ko known fs rs b0 s0 .ready [.var (f0.row.map .p)]) true (sub Tryz.f159 1) (vaS kk ks ko known fs rs best some f (n : Int)) .normal (vaS kk ks ko known fs rs (bif vaHit f g b then best.set n f else best) (bif vaHit f g b then some.set n true else some) f (IntKind.i64.wrap ((n : Int) + 1)))) := by
 cases hc0 : !b || decide (orI (cmpI f.known g.known) (cmpI f.no g.no) ≥ 0)
 ·refine CW.cast (CW.symX (s' := { t := mkT 63 0 [(6, .ref (.ptr 1 0)), (7, .ref (.ptr 2 0)), (8, .ref (.ptr 3 0)), (9, .ref (.ptr 10 0)), (10, int (IntKind.wrap IntKind.i64 ((↑n : Int) + 1)))], h := (va_b_x0 kk ks ko known fs rs best some f), m := [] }) (e := Exit.normal) pok [.st (.mask [6, 7, 8, 9, 10])] [.b true, .ov 31 (bool b), .ov 37 (ag (FactT.row g)), .val (int (orI (cmpI f.known g.known) (cmpI f.no g.no))), .b false] (by kernel_rfl) (.c hlt (.c hn (.c (show loadD Tryz.prog (va_b_x0 kk ks ko known fs rs best some f) 4 (.ref (.ptr 3 (0 + Int.toNat (↑n : Int) * 1))) = Option.some (bool b) from ?_) (.c (show (!!b) = true → inR (↑n : Int) 1024 = true from (fun hg => hn)) (.c (show (!!b) = true → loadD Tryz.prog (va_b_x0 kk ks ko known fs rs best some f) 60 (evalD Γ0 (List.map stripD (mkT 63 0 [(6, .ref (.ptr 1 0)), (7, .ref (.ptr 2 0)), (8, .ref (.ptr 3 0)), (9, .ref (.ptr 10 0)), (10, int (↑n : Int)), (21, int (↑n : Int)), (22, .ref (.ptr 10 4)), (23, .ref (.ptr 10 5)), (24, int f.til), (25, int (if false = true then if 1024 > f.til then 1024 else f.til else if 1024 < f.til then 1024 else f.til)), (26, bool (decide ((↑n : Int) < if false = true then if 1024 > f.til then 1024 else f.til else if 1024 < f.til then 1024 else f.til))), (29, int (↑n : Int)), (30, .ref (.ptr 3 (0 + Int.toNat (↑n : Int) * 1))), (31, bool b), (32, bool !b), (33, bool !b), (34, D.grd (!!b) (D.agg [int f.kind, int f.sub, int f.obj, int f.value, int f.frm, int f.til, int f.known, int f.no])), (35, D.grd (!!b) (int (↑n : Int))), (36, D.grd (!!b) (.ref (.ptr 2 (0 + Int.toNat (↑n : Int) * 8))))])) (Operand.tmp 36)) = Option.some (D.agg [int g.kind, int g.sub, int g.obj, int g.value, int g.frm, int g.til, int g.known, int g.no]) from (fun hg => ?_)) (.c (show (!!b) = true → Ev Tryz.prog Γ0 84 [D.agg [int f.kind, int f.sub, int f.obj, int f.value, int f.frm, int f.til, int f.known, int f.no], D.agg [int g.kind, int g.sub, int g.obj, int g.value, int g.frm, int g.til, int g.known, int g.no]] (va_b_x0 kk ks ko known fs rs best some f) (int (orI (cmpI f.known g.known) (cmpI f.no g.no))) (va_b_x0 kk ks ko known fs rs best some f) from (fun hg => (@fcmp_ev (f) (g) ((va_b_x0 kk ks ko known fs rs best some f))))) (.c hc0 .n)))))))) (by first | rfl | (have hh : vaHit f g b = true := hc0; simp only [hh, cond_true]; first | done | rfl) | (have hh : vaHit f g b = false := hc0; simp only [hh, cond_false]; first | done | rfl)) (by first | rfl | (have hh : vaHit f g b = true := hc0; simp only [hh, cond_true]; first | done | rfl) | (have hh : vaHit f g b = false := hc0; simp only [hh, cond_false]; first | done | rfl)) <;> (first | assumption | rfl | exact va_some rfl hs (by simp) | exact va_best rfl hb (by simp) | exact va_stB rfl (lt_of_some hb) (by simp) | exact va_stS rfl (lt_of_some hs) (by simp) | (simp_all; done))
 ·refine CW.cast (CW.symX (s' := { t := mkT 63 0 [(6, .ref (.ptr 1 0)), (7, .ref (.ptr 2 0)), (8, .ref (.ptr 3 0)), (9, .ref (.ptr 10 0)), (10, int (IntKind.wrap IntKind.i64 ((↑n : Int) + 1)))], h := [.var [int kk, int ks, int ko], .var rs, .var (List.flatten (bestC (List.set best n f))), .var (List.flatten (boolC (List.set some n true))), .var [rD fs], .var [int kk, int ks, int ko], .var [int known], .defd, .loop LoopState.busy none 0 (mkT 63 0 [(6, .ref (.ptr 1 0)), (7, .ref (.ptr 2 0)), (8, .ref (.ptr 3 0)), (15, D.fn (Fn.func 178) [] [.ref (.ptr 4 0), .ref (.ptr 5 0), .ref (.ptr 6 0)])]) { toList := [16] } (rfAsg (sub Tryz.f159 0)) (rfBody (sub Tryz.f159 0)), .var [int f.kind, int f.sub, int f.obj, int f.value, int f.frm, int f.til, int f.known, int f.no], .var [int f.kind, int f.sub, int f.obj, int f.value, int f.frm, int f.til, int f.known, int f.no]], m := [] }) (e := Exit.normal) pok [.st (.mask [6, 7, 8, 9, 10])] [.b true, .ov 31 (bool b), .ov 37 (ag (FactT.row g)), .val (int (orI (cmpI f.known g.known) (cmpI f.no g.no))), .b true, .oh 10044 D.any (vaH kk ks ko known fs rs (List.set best n f) some LoopState.busy [.var (List.map D.p (FactT.row f)), .var (List.map D.p (FactT.row f))]), .oh 10045 D.any (vaH kk ks ko known fs rs (List.set best n f) (List.set some n true) LoopState.busy [.var (List.map D.p (FactT.row f)), .var (List.map D.p (FactT.row f))])] (by kernel_rfl) (.c hlt (.c hn (.c (show loadD Tryz.prog (va_b_x0 kk ks ko known fs rs best some f) 4 (.ref (.ptr 3 (0 + Int.toNat (↑n : Int) * 1))) = Option.some (bool b) from ?_) (.c (show (!!b) = true → inR (↑n : Int) 1024 = true from (fun hg => hn)) (.c (show (!!b) = true → loadD Tryz.prog (va_b_x0 kk ks ko known fs rs best some f) 60 (evalD Γ0 (List.map stripD (mkT 63 0 [(6, .ref (.ptr 1 0)), (7, .ref (.ptr 2 0)), (8, .ref (.ptr 3 0)), (9, .ref (.ptr 10 0)), (10, int (↑n : Int)), (21, int (↑n : Int)), (22, .ref (.ptr 10 4)), (23, .ref (.ptr 10 5)), (24, int f.til), (25, int (if false = true then if 1024 > f.til then 1024 else f.til else if 1024 < f.til then 1024 else f.til)), (26, bool (decide ((↑n : Int) < if false = true then if 1024 > f.til then 1024 else f.til else if 1024 < f.til then 1024 else f.til))), (29, int (↑n : Int)), (30, .ref (.ptr 3 (0 + Int.toNat (↑n : Int) * 1))), (31, bool b), (32, bool !b), (33, bool !b), (34, D.grd (!!b) (D.agg [int f.kind, int f.sub, int f.obj, int f.value, int f.frm, int f.til, int f.known, int f.no])), (35, D.grd (!!b) (int (↑n : Int))), (36, D.grd (!!b) (.ref (.ptr 2 (0 + Int.toNat (↑n : Int) * 8))))])) (Operand.tmp 36)) = Option.some (D.agg [int g.kind, int g.sub, int g.obj, int g.value, int g.frm, int g.til, int g.known, int g.no]) from (fun hg => ?_)) (.c (show (!!b) = true → Ev Tryz.prog Γ0 84 [D.agg [int f.kind, int f.sub, int f.obj, int f.value, int f.frm, int f.til, int f.known, int f.no], D.agg [int g.kind, int g.sub, int g.obj, int g.value, int g.frm, int g.til, int g.known, int g.no]] (va_b_x0 kk ks ko known fs rs best some f) (int (orI (cmpI f.known g.known) (cmpI f.no g.no))) (va_b_x0 kk ks ko known fs rs best some f) from (fun hg => (@fcmp_ev (f) (g) ((va_b_x0 kk ks ko known fs rs best some f))))) (.c hc0 (.c hn (.c (show storeD Tryz.prog (va_b_x0 kk ks ko known fs rs best some f) 60 (.ref (.ptr 2 (0 + Int.toNat (↑n : Int) * 8))) (D.agg [int f.kind, int f.sub, int f.obj, int f.value, int f.frm, int f.til, int f.known, int f.no]) = Option.some [.var [int kk, int ks, int ko], .var rs, .var (List.flatten (bestC (List.set best n f))), .var (List.flatten (boolC some)), .var [rD fs], .var [int kk, int ks, int ko], .var [int known], .defd, .loop LoopState.busy none 0 (mkT 63 0 [(6, .ref (.ptr 1 0)), (7, .ref (.ptr 2 0)), (8, .ref (.ptr 3 0)), (15, D.fn (Fn.func 178) [] [.ref (.ptr 4 0), .ref (.ptr 5 0), .ref (.ptr 6 0)])]) { toList := [16] } (rfAsg (sub Tryz.f159 0)) (rfBody (sub Tryz.f159 0)), .var [int f.kind, int f.sub, int f.obj, int f.value, int f.frm, int f.til, int f.known, int f.no], .var [int f.kind, int f.sub, int f.obj, int f.value, int f.frm, int f.til, int f.known, int f.no]] from ?_) (.c hn (.c (show storeD Tryz.prog [.var [int kk, int ks, int ko], .var rs, .var (List.flatten (bestC (List.set best n f))), .var (List.flatten (boolC some)), .var [rD fs], .var [int kk, int ks, int ko], .var [int known], .defd, .loop LoopState.busy none 0 (mkT 63 0 [(6, .ref (.ptr 1 0)), (7, .ref (.ptr 2 0)), (8, .ref (.ptr 3 0)), (15, D.fn (Fn.func 178) [] [.ref (.ptr 4 0), .ref (.ptr 5 0), .ref (.ptr 6 0)])]) { toList := [16] } (rfAsg (sub Tryz.f159 0)) (rfBody (sub Tryz.f159 0)), .var [int f.kind, int f.sub, int f.obj, int f.value, int f.frm, int f.til, int f.known, int f.no], .var [int f.kind, int f.sub, int f.obj, int f.value, int f.frm, int f.til, int f.known, int f.no]] 4 (.ref (.ptr 3 (0 + Int.toNat (↑n : Int) * 1))) (evalD Γ0 (mkT 63 0 [(6, .ref (.ptr 1 0)), (7, .ref (.ptr 2 0)), (8, .ref (.ptr 3 0)), (9, .ref (.ptr 10 0)), (10, int (↑n : Int)), (21, int (↑n : Int)), (22, .ref (.ptr 10 4)), (23, .ref (.ptr 10 5)), (24, int f.til), (25, int (if false = true then if 1024 > f.til then 1024 else f.til else if 1024 < f.til then 1024 else f.til)), (26, bool (decide ((↑n : Int) < if false = true then if 1024 > f.til then 1024 else f.til else if 1024 < f.til then 1024 else f.til))), (29, int (↑n : Int)), (30, .ref (.ptr 3 (0 + Int.toNat (↑n : Int) * 1))), (31, bool b), (32, bool !b), (33, bool !b), (34, D.grd (!!b) (D.agg [int f.kind, int f.sub, int f.obj, int f.value, int f.frm, int f.til, int f.known, int f.no])), (35, D.grd (!!b) (int (↑n : Int))), (36, D.grd (!!b) (.ref (.ptr 2 (0 + Int.toNat (↑n : Int) * 8)))), (37, D.grd (!!b) (D.agg [int g.kind, int g.sub, int g.obj, int g.value, int g.frm, int g.til, int g.known, int g.no])), (38, D.grd (!!b) (int (orI (cmpI f.known g.known) (cmpI f.no g.no)))), (39, D.grd (!!b) (bool (decide (orI (cmpI f.known g.known) (cmpI f.no g.no) ≥ 0)))), (40, bool (!b || decide (orI (cmpI f.known g.known) (cmpI f.no g.no) ≥ 0))), (41, int (↑n : Int)), (42, int (↑n : Int)), (43, D.agg [int f.kind, int f.sub, int f.obj, int f.value, int f.frm, int f.til, int f.known, int f.no]), (44, .ref (.ptr 2 (0 + Int.toNat (↑n : Int) * 8))), (45, .ref (.ptr 3 (0 + Int.toNat (↑n : Int) * 1)))]) (Operand.const (Value.bool true))) = Option.some [.var [int kk, int ks, int ko], .var rs, .var (List.flatten (bestC (List.set best n f))), .var (List.flatten (boolC (List.set some n true))), .var [rD fs], .var [int kk, int ks, int ko], .var [int known], .defd, .loop LoopState.busy none 0 (mkT 63 0 [(6, .ref (.ptr 1 0)), (7, .ref (.ptr 2 0)), (8, .ref (.ptr 3 0)), (15, D.fn (Fn.func 178) [] [.ref (.ptr 4 0), .ref (.ptr 5 0), .ref (.ptr 6 0)])]) { toList := [16] } (rfAsg (sub Tryz.f159 0)) (rfBody (sub Tryz.f159 0)), .var [int f.kind, int f.sub, int f.obj, int f.value, int f.frm, int f.til, int f.known, int f.no], .var [int f.kind, int f.sub, int f.obj, int f.value, int f.frm, int f.til, int f.known, int f.no]] from ?_) .n)))))))))))) (by first | rfl | (have hh : vaHit f g b = true := hc0; simp only [hh, cond_true]; first | done | rfl) | (have hh : vaHit f g b = false := hc0; simp only [hh, cond_false]; first | done | rfl)) (by first | rfl | (have hh : vaHit f g b = true := hc0; simp only [hh, cond_true]; first | done | rfl) | (have hh : vaHit f g b = false := hc0; simp only [hh, cond_false]; first | done | rfl)) <;> (first | assumption | rfl | exact va_some rfl hs (by simp) | exact va_best rfl hb (by simp) | exact va_stB rfl (lt_of_some hb) (by simp) | exact va_stS rfl (lt_of_some hs) (by simp) | (simp_all; done))
theorem va_l {kk ks ko known : Int} {fs : List (List Dp)} {rs : List D} {best b0 : List FactT} {some s0 : List Bool} {f f0 : FactT} {x : Int} (hlt : decide (x < if false = true then if 1024 > f.til then 1024 else f.til else if 1024 < f.til then 1024 else f.til) = false) : (CW Tryz.prog Γ0 (vaH kk ks ko known fs rs b0 s0 .ready [.var (f0.row.map .p)]) true (sub Tryz.f159 1) (vaS kk ks ko known fs rs best some f x) (.exit 2) { t := mkT 63 0 [], h := vaH kk ks ko known fs rs best some .busy [.var (f.row.map .p), .var (f.row.map .p)], m := [] }) := by
 exact CW.cast (CW.symX (s' := { t := mkT 63 0 [], h := [.var [int kk, int ks, int ko], .var rs, .var (List.flatten (bestC best)), .var (List.flatten (boolC some)), .var [rD fs], .var [int kk, int ks, int ko], .var [int known], .defd, .loop LoopState.busy none 0 (mkT 63 0 [(6, .ref (.ptr 1 0)), (7, .ref (.ptr 2 0)), (8, .ref (.ptr 3 0)), (15, D.fn (Fn.func 178) [] [.ref (.ptr 4 0), .ref (.ptr 5 0), .ref (.ptr 6 0)])]) { toList := [16] } (rfAsg (sub Tryz.f159 0)) (rfBody (sub Tryz.f159 0)), .var [int f.kind, int f.sub, int f.obj, int f.value, int f.frm, int f.til, int f.known, int f.no], .var [int f.kind, int f.sub, int f.obj, int f.value, int f.frm, int f.til, int f.known, int f.no]], m := [] }) (e := Exit.exit 2) pok [.st (.mask [])] [.b false] (by kernel_rfl) (.c hlt .n)) (by rfl) (by rfl)
abbrev VS := List FactT × List Bool
def VS.ok (s : VS) : Prop := s.1.length = 1024 ∧ s.2.length = 1024
def vaHi (f : FactT) : Int := if f.til < 1024 then f.til else 1024
def vaStep (f : FactT) (s : VS) (n : Nat) : VS := bif vaHit f (s.1.getD n default) (s.2.getD n false) then (s.1.set n f, s.2.set n true) else s
def vaIn (f : FactT) (x : Int) (s : VS) : VS := (List.range' x.toNat (vaHi f - x).toNat).foldl (vaStep f) s
theorem vaStep_ok {f : FactT} {s : VS} (n : Nat) (h : s.ok) : (vaStep f s n).ok := by
 unfold vaStep
 cases vaHit f (s.1.getD n default) (s.2.getD n false)
 ·exact h
 ·exact ⟨by simpa using h.1, by simpa using h.2⟩
theorem vaHi_eq (f : FactT) : (if false = true then if 1024 > f.til then 1024 else f.til else if 1024 < f.til then 1024 else f.til) = vaHi f := by
 unfold vaHi; simp; split <;> split <;> omega
theorem va_cw {kk ks ko known : Int} {fs : List (List Dp)} {rs : List D} {best b0 : List FactT} {some s0 : List Bool} {f f0 : FactT} {x : Int} (hx : 0 ≤ x) (ho : VS.ok (best, some)) :
  CW Tryz.prog Γ0 (vaH kk ks ko known fs rs b0 s0 .ready [.var (f0.row.map .p)]) true (.loop (sub Tryz.f159 1)) (vaS kk ks ko known fs rs best some f x) (.exit 2) { t := mkT 63 0 [], h := vaH kk ks ko known fs rs (vaIn f x (best, some)).1 (vaIn f x (best, some)).2 .busy [.var (f.row.map .p), .var (f.row.map .p)], m := [] } := by
 have hx' : ((x.toNat : Nat) : Int) = x := by omega
 have hh : vaHi f ≤ 1024 := by unfold vaHi; split <;> omega
 have := CW.each (P := Tryz.prog) (Γ := Γ0) (h0 := vaH kk ks ko known fs rs b0 s0 .ready [.var (f0.row.map .p)]) (rd := true) (c := sub Tryz.f159 1) (σ := VS) (ρ := Empty) (List.range' x.toNat (vaHi f - x).toNat) (fun n s => .inl (vaStep f s n))
  (fun i s => vaS kk ks ko known fs rs s.1 s.2 f (x + (i : Int))) (.exit 2) (fun s => { t := mkT 63 0 [], h := vaH kk ks ko known fs rs s.1 s.2 .busy [.var (f.row.map .p), .var (f.row.map .p)], m := [] }) (fun r => r.elim)
  (fun _ s => s.ok) (by simp) (fun r => r.elim) ?_ ?_ (best, some) ho
 ·rw [forL_fold (fun s n => vaStep f s n)] at this
  simpa [eachFin, vaIn] using this
 ·intro i n s hn hs
  obtain ⟨hi, he⟩ := List.getElem?_eq_some_iff.1 hn
  simp only [List.length_range'] at hi
  simp only [List.getElem_range', Nat.one_mul] at he
  have hlt : (n : Int) < vaHi f := by omega
  have hb : s.1[n]? = .some (s.1.getD n default) := by
   rw [List.getD, List.getElem?_eq_getElem (by rw [hs.1]; omega)]; rfl
  have hc : s.2[n]? = .some (s.2.getD n false) := by
   rw [List.getD, List.getElem?_eq_getElem (by rw [hs.2]; omega)]; rfl
  refine ⟨fun s' h => by cases h; exact vaStep_ok n hs, ?_⟩
  have key := va_b (kk := kk) (ks := ks) (ko := ko) (known := known) (fs := fs) (rs := rs) (b0 := b0) (s0 := s0) (f := f) (f0 := f0) hb hc (by simp [inR]; omega) (by rw [vaHi_eq]; simpa using hlt)
  rw [wrap_i64 (by omega) (by omega)] at key
  have e1 : x + (i : Int) = (n : Int) := by omega
  have e2 : x + ((i + 1 : Nat) : Int) = (n : Int) + 1 := by omega
  simp only [bodyFin, e1, e2]
  unfold vaStep
  cases hq : vaHit f (s.1.getD n default) (s.2.getD n false) <;> rw [hq] at key <;> exact key
 ·intro s _
  refine va_l ?_
  rw [vaHi_eq]
  simp
  omega
theorem va_body {kk ks ko known : Int} {fs : List (List Dp)} {rs : List D} {best : List FactT} {some : List Bool} (ho : VS.ok (best, some)) {f : FactT} : (CW Tryz.prog Γ0 (vaH kk ks ko known fs rs best some .ready [.var (f.row.map .p)]) true (rfBody (sub Tryz.f159 0)) { t := vaU, h := vaH kk ks ko known fs rs best some .busy [.var (f.row.map .p), .var (f.row.map .p)], m := [] } .normal { t := mkT 63 0 [], h := vaH kk ks ko known fs rs (vaIn f (if true = true then if f.frm > 0 then f.frm else 0 else if f.frm < 0 then f.frm else 0) (best, some)).1 (vaIn f (if true = true then if f.frm > 0 then f.frm else 0 else if f.frm < 0 then f.frm else 0) (best, some)).2 .busy [.var (f.row.map .p), .var (f.row.map .p)], m := [] }) := by
 have hl0 := (@va_cw (kk) (ks) (ko) (known) (fs) (rs) (best) (best) (some) (some) (f) (f) (if true = true then if f.frm > 0 then f.frm else 0 else if f.frm < 0 then f.frm else 0) (by first | assumption | (simp; split <;> omega) | (simp; done)) (ho))
 exact CW.cast (CW.symX (s' := { t := mkT 63 0 [], h := [.var [int kk, int ks, int ko], .var rs, .var (List.flatten (bestC (vaIn f (if true = true then if f.frm > 0 then f.frm else 0 else if f.frm < 0 then f.frm else 0) (best, some)).fst)), .var (List.flatten (boolC (vaIn f (if true = true then if f.frm > 0 then f.frm else 0 else if f.frm < 0 then f.frm else 0) (best, some)).snd)), .var [rD fs], .var [int kk, int ks, int ko], .var [int known], .defd, .loop LoopState.busy none 0 (mkT 63 0 [(6, .ref (.ptr 1 0)), (7, .ref (.ptr 2 0)), (8, .ref (.ptr 3 0)), (15, D.fn (Fn.func 178) [] [.ref (.ptr 4 0), .ref (.ptr 5 0), .ref (.ptr 6 0)])]) { toList := [16] } (rfAsg (sub Tryz.f159 0)) (rfBody (sub Tryz.f159 0)), .var [int f.kind, int f.sub, int f.obj, int f.value, int f.frm, int f.til, int f.known, int f.no], .var [int f.kind, int f.sub, int f.obj, int f.value, int f.frm, int f.til, int f.known, int f.no]], m := [] }) (e := Exit.normal) pok [.st (.mask [])] [.sum [6, 7, 8, 9, 10] (Exit.exit 2) { t := mkT 63 0 [], h := [.var [int kk, int ks, int ko], .var rs, .var (List.flatten (bestC (vaIn f (if true = true then if f.frm > 0 then f.frm else 0 else if f.frm < 0 then f.frm else 0) (best, some)).fst)), .var (List.flatten (boolC (vaIn f (if true = true then if f.frm > 0 then f.frm else 0 else if f.frm < 0 then f.frm else 0) (best, some)).snd)), .var [rD fs], .var [int kk, int ks, int ko], .var [int known], .defd, .loop LoopState.busy none 0 (mkT 63 0 [(6, .ref (.ptr 1 0)), (7, .ref (.ptr 2 0)), (8, .ref (.ptr 3 0)), (15, D.fn (Fn.func 178) [] [.ref (.ptr 4 0), .ref (.ptr 5 0), .ref (.ptr 6 0)])]) { toList := [16] } (rfAsg (sub Tryz.f159 0)) (rfBody (sub Tryz.f159 0)), .var [int f.kind, int f.sub, int f.obj, int f.value, int f.frm, int f.til, int f.known, int f.no], .var [int f.kind, int f.sub, int f.obj, int f.value, int f.frm, int f.til, int f.known, int f.no]], m := [] }] (by kernel_rfl) (.c hl0 .n)) (by rfl) (by rfl)
end Go.Vi
