/- RecordOfSpecUpto: part of the proof: contracts of the functions that the law reaches, and the law. No conditions beyond the given statement's own. -/
import Derived.Test.YtilebidefogaiaaGreatDoorW2
import Derived.Shelf.Slices.In.SortAlone
import Derived.Shelf.Slices.In.SortNone
import Derived.Sort.EveryDepth
open Go.Vi.FactT renaming row → Ch
open Int renaming toNat → Cf
open List renaming getD → Cl, map → B6, getElem?_eq_getElem → Cv, length → Cb, length_cons → Di, mem_of_getElem? → CS, map_cons → Dj, flatten_cons → C7, cons_append → FV, ext_getElem? → EF, getElem?_append_left → Cr, getElem?_append_right → CV, idxOf?_eq_none_iff → Fk, all → Cx, contains → Dt, mergeSort → He
open Go.Proofs.Tryz renaming prog → B7, f34 → Hs
open Go.Vi.Ev renaming castH → Cj, sym0 → Cn, glob0 → CZ, nilW → GI, frameX → Fs
open Go.Vi.D renaming tup → DC, agg → Db, mapRL → C6, mapR → Da, innL → CT, inn → DS, one → Fa, any → EB
open Go.Exit renaming exit → CE, normal → Cq
open Go.Value renaming tuple → Dd, int → Es, oneCell' → CX
open Go.Vi.RuleT renaming fl → B9, bad → Er
open Go.Vi.SysT renaming row → CD
open Go.IntKind renaming i64 → B8, wrap → Cc
open Go.Vi.Dp renaming sl → D3
open Bool renaming or_eq_false_iff → D2, not_eq_false' → Fw, not_eq_true' → Df, and_eq_true → Cd, false_and → Cs, and_self → CO, true_and → CN, and_true → C3, and_false → Cw
open Array renaming getElem?_eq_some_iff → DM, getElem?_modify → EI
open Go.Sort renaming grow → FF, putRow → DD, ahead → DT, putCells → Ec, heap_grow_old → Fh, mapBlock → DB
open Nat renaming le_of_not_lt → Ek
open Function renaming comp_def → Hd
open Go.Vi.CW renaming cast → Ct, symX → Cu
open Go Go.Proofs
namespace Go.Vi
set_option maxRecDepth 100000
set_option maxHeartbeats 4000000
theorem zD (kk ks ko term known : Int) : ∀ (r l : List FactT) (s : Nat × Option (Nat × FactT)), s.1 = l.length → (∀ j g, s.2 = some (j, g) → (l ++ r)[j]? = some g) →
  ∀ s', forL (a7F kk ks ko term known) r s = .inl s' → ∀ j g, s'.2 = some (j, g) → (l ++ r)[j]? = some g
 | [], l, s, _, h2, s', h, j, g, hj => by simp only [forL, Sum.inl.injEq] at h; subst h; exact h2 j g hj
 | f :: r, l, s, h1, h2, s', h, j, g, hj => by
  simp only [forL, a7F] at h
  have := zD kk ks ko term known r (l ++ [f]) _ (by simp [h1]) (fun j g hj => ?_) s' h j g hj
  ·simpa using this
  ·have hf : (l ++ [f] ++ r)[s.1]? = some f := by rw [h1]; simp
   have e : l ++ [f] ++ r = l ++ f :: r := by simp
   obtain ⟨n, o⟩ := s
   cases o with
   | none =>
    simp only at hj
    cases hh : fK kk ks ko term known f <;> rw [hh] at hj <;> simp at hj
    obtain ⟨rfl, rfl⟩ := hj; exact hf
   | some p =>
    obtain ⟨j0, g0⟩ := p
    simp only at hj
    cases hh : fK kk ks ko term known f && !befB f g0 <;> rw [hh] at hj <;> simp at hj
    ·obtain ⟨rfl, rfl⟩ := hj; rw [e]; exact h2 _ _ rfl
    ·obtain ⟨rfl, rfl⟩ := hj; exact hf
theorem zF {kk ks ko term known : Int} {l : List FactT} {p : Nat × FactT} (h : a7B kk ks ko term known l = some p) : l[p.1]? = some p.2 := by
 unfold a7B at h
 cases hf : forL (a7F kk ks ko term known) l (0, none) with
 | inr r => exact r.elim
 | inl s =>
  rw [hf] at h
  exact zD kk ks ko term known l [] (0, none) rfl (by simp) s hf p.1 p.2 h
theorem qI {kk ks ko term known : Int} {l : List FactT} {p : Nat × FactT} (h : a7B kk ks ko term known l = some p) : aH (p.1 : Int) (l.map Ch) (l.getD (Cf (p.1 : Int)) default).row 8 := by
 have := zF h
 rw [show l.getD (Cf (p.1 : Int)) default = p.2 by simp [Cl, this]]
 exact rowAt this rfl
def a7Fin (kk ks ko : Int) (fs : List (List Dp)) (s : Option (Nat × FactT)) : Exit × AS := match s with
 | none => (.exit 0, { t := mkT 76 0 [(0, ab fs), (8, int 0), (9, bool false), (10, int (-1))], h := [.var [int kk, int ks, int ko]], m := [] })
 | some p => (.exit 0, { t := mkT 76 0 [(0, ab fs), (8, int 0), (9, bool false), (10, int (p.1 : Int))], h := [.var [int kk, int ks, int ko]], m := [] })
theorem a7f_cw {kk ks ko term known : Int} {l : List FactT} (hl : am l) :
  CW B7 Γ0 [] false (.loop (sub Tryz.f124 0)) (a7S kk ks ko term known (l.map Ch) (-1) 0) (a7Fin kk ks ko (l.map Ch) (a7B kk ks ko term known l)).1 (a7Fin kk ks ko (l.map Ch) (a7B kk ks ko term known l)).2 := by
 have := a7_cwl (kk := kk) (ks := ks) (ko := ko) (term := term) (known := known) hl
 cases h : a7B kk ks ko term known l <;> rw [h] at this <;> exact this
def xB (kk ks ko term known : Int) (l : List FactT) : Int × Bool := match a7B kk ks ko term known l with
 | none => (0, false)
 | some p => bif decide ((l.getD (Cf (p.1 : Int)) default).value < 0) then (0, false) else ((l.getD (Cf (p.1 : Int)) default).value, true)
theorem wb {kk ks ko term known : Int} {l : List FactT} (hl : am l) (h : List Blk) : (Ev B7 Γ0 124 [ab (l.map Ch), .agg [int kk, int ks, int ko], int term, int known] h (.tup [int (xB kk ks ko term known l).1, bool (xB kk ks ko term known l).2]) h) := by
 have hl0 := (@a7f_cw (kk) (ks) (ko) (term) (known) (l) (hl))
 revert hl0
 cases ho1 : a7B kk ks ko term known l with
 | none =>
  intro hl0
  exact Cj (Cn (d := DC [int 0, bool false]) pok [.sum [0, 2, 3, 5, 8, 9, 10, 11] (CE 0) { t := mkT 76 0 [(0, ab (B6 Ch l)), (8, int 0), (9, bool false), (10, int (-1))], h := [.var [int kk, int ks, int ko]], m := [] }, .g false, .g false, .g false, .g false, .g false, .g false, .ov 70 (bool true), .b true] (by kernel_rfl) (.c hl0 (.c (show (decide (-1 < 0) == false) = false from rfl) (.c (show (decide (-1 < 0) == false) = false from rfl) (.c (show (decide (-1 < 0) == false) = false from rfl) (.c (show (decide (-1 < 0) == false) = false from rfl) (.c (show (decide (-1 < 0) == false) = false from rfl) (.c (show (decide (-1 < 0) == false) = false from rfl) (.c (show ae (bool (decide (-1 < 0))) (bool true) (D.p (Dp.v (Dd { toList := [] }))) (bool true) from (by first | assumption | rfl | exact af rfl rfl | exact qI ho1 | (refine ai ?_ rfl; simp) | (simp; done))) (.c (show true = true from rfl) .n))))))))) rfl rfl h) (by first | (simp only [xB, ho1]; done) | (simp only [xB, ho1, cond_true, cond_false]; rfl) | (exfalso; simp_all; done) | (exfalso; simp_all; omega)) (by rfl)
 | some o1_1_0 =>
  intro hl0
  cases hc2 : decide ((Cl l (Cf (↑o1_1_0.fst : Int)) default).value < 0)
  ·refine Cj (Cn (d := DC [int (Cl l (Cf (↑o1_1_0.fst : Int)) default).value, bool true]) pok [.sum [0, 2, 3, 5, 8, 9, 10, 11] (CE 0) { t := mkT 76 0 [(0, ab (B6 Ch l)), (8, int 0), (9, bool false), (10, int (↑o1_1_0.fst : Int))], h := [.var [int kk, int ks, int ko]], m := [] }, .g true, .g true, .g true, .row [vi (Cl l (Cf (↑o1_1_0.fst : Int)) default).kind, vi (Cl l (Cf (↑o1_1_0.fst : Int)) default).sub, vi (Cl l (Cf (↑o1_1_0.fst : Int)) default).obj, vi (Cl l (Cf (↑o1_1_0.fst : Int)) default).value, vi (Cl l (Cf (↑o1_1_0.fst : Int)) default).frm, vi (Cl l (Cf (↑o1_1_0.fst : Int)) default).til, vi (Cl l (Cf (↑o1_1_0.fst : Int)) default).known, vi (Cl l (Cf (↑o1_1_0.fst : Int)) default).no], .g true, .g true, .g true, .ov 70 (bool (decide ((Cl l (Cf (↑o1_1_0.fst : Int)) default).value < 0))), .b false, .row [vi (Cl l (Cf (↑o1_1_0.fst : Int)) default).kind, vi (Cl l (Cf (↑o1_1_0.fst : Int)) default).sub, vi (Cl l (Cf (↑o1_1_0.fst : Int)) default).obj, vi (Cl l (Cf (↑o1_1_0.fst : Int)) default).value, vi (Cl l (Cf (↑o1_1_0.fst : Int)) default).frm, vi (Cl l (Cf (↑o1_1_0.fst : Int)) default).til, vi (Cl l (Cf (↑o1_1_0.fst : Int)) default).known, vi (Cl l (Cf (↑o1_1_0.fst : Int)) default).no]] (by kernel_rfl) (.c hl0 (.c (show (decide ((↑o1_1_0.fst : Int) < 0) == false) = true from rfl) (.c (show (decide ((↑o1_1_0.fst : Int) < 0) == false) = true from rfl) (.c (show (decide ((↑o1_1_0.fst : Int) < 0) == false) = true from rfl) (.c (show aH (↑o1_1_0.fst : Int) (B6 Ch l) [vi (Cl l (Cf (↑o1_1_0.fst : Int)) default).kind, vi (Cl l (Cf (↑o1_1_0.fst : Int)) default).sub, vi (Cl l (Cf (↑o1_1_0.fst : Int)) default).obj, vi (Cl l (Cf (↑o1_1_0.fst : Int)) default).value, vi (Cl l (Cf (↑o1_1_0.fst : Int)) default).frm, vi (Cl l (Cf (↑o1_1_0.fst : Int)) default).til, vi (Cl l (Cf (↑o1_1_0.fst : Int)) default).known, vi (Cl l (Cf (↑o1_1_0.fst : Int)) default).no] 8 from ?_) (.c (show (decide ((↑o1_1_0.fst : Int) < 0) == false) = true from rfl) (.c (show (decide ((↑o1_1_0.fst : Int) < 0) == false) = true from rfl) (.c (show (decide ((↑o1_1_0.fst : Int) < 0) == false) = true from rfl) (.c (show ae (bool (decide ((↑o1_1_0.fst : Int) < 0))) (bool true) (bool (decide ((Cl l (Cf (↑o1_1_0.fst : Int)) default).value < 0))) (bool (decide ((Cl l (Cf (↑o1_1_0.fst : Int)) default).value < 0))) from ?_) (.c hc2 (.c (show aH (↑o1_1_0.fst : Int) (B6 Ch l) [vi (Cl l (Cf (↑o1_1_0.fst : Int)) default).kind, vi (Cl l (Cf (↑o1_1_0.fst : Int)) default).sub, vi (Cl l (Cf (↑o1_1_0.fst : Int)) default).obj, vi (Cl l (Cf (↑o1_1_0.fst : Int)) default).value, vi (Cl l (Cf (↑o1_1_0.fst : Int)) default).frm, vi (Cl l (Cf (↑o1_1_0.fst : Int)) default).til, vi (Cl l (Cf (↑o1_1_0.fst : Int)) default).known, vi (Cl l (Cf (↑o1_1_0.fst : Int)) default).no] 8 from ?_) .n))))))))))) rfl rfl h) (by first | (simp only [xB, ho1, hc2, cond_false]; done) | (simp only [xB, ho1, hc2, cond_true, cond_false]; rfl) | (exfalso; simp_all; done) | (exfalso; simp_all; omega)) (by rfl) <;> (first | assumption | rfl | exact af rfl rfl | exact qI ho1 | (refine ai ?_ rfl; simp) | (simp; done))
  ·refine Cj (Cn (d := DC [int 0, bool false]) pok [.sum [0, 2, 3, 5, 8, 9, 10, 11] (CE 0) { t := mkT 76 0 [(0, ab (B6 Ch l)), (8, int 0), (9, bool false), (10, int (↑o1_1_0.fst : Int))], h := [.var [int kk, int ks, int ko]], m := [] }, .g true, .g true, .g true, .row [vi (Cl l (Cf (↑o1_1_0.fst : Int)) default).kind, vi (Cl l (Cf (↑o1_1_0.fst : Int)) default).sub, vi (Cl l (Cf (↑o1_1_0.fst : Int)) default).obj, vi (Cl l (Cf (↑o1_1_0.fst : Int)) default).value, vi (Cl l (Cf (↑o1_1_0.fst : Int)) default).frm, vi (Cl l (Cf (↑o1_1_0.fst : Int)) default).til, vi (Cl l (Cf (↑o1_1_0.fst : Int)) default).known, vi (Cl l (Cf (↑o1_1_0.fst : Int)) default).no], .g true, .g true, .g true, .ov 70 (bool (decide ((Cl l (Cf (↑o1_1_0.fst : Int)) default).value < 0))), .b true] (by kernel_rfl) (.c hl0 (.c (show (decide ((↑o1_1_0.fst : Int) < 0) == false) = true from rfl) (.c (show (decide ((↑o1_1_0.fst : Int) < 0) == false) = true from rfl) (.c (show (decide ((↑o1_1_0.fst : Int) < 0) == false) = true from rfl) (.c (show aH (↑o1_1_0.fst : Int) (B6 Ch l) [vi (Cl l (Cf (↑o1_1_0.fst : Int)) default).kind, vi (Cl l (Cf (↑o1_1_0.fst : Int)) default).sub, vi (Cl l (Cf (↑o1_1_0.fst : Int)) default).obj, vi (Cl l (Cf (↑o1_1_0.fst : Int)) default).value, vi (Cl l (Cf (↑o1_1_0.fst : Int)) default).frm, vi (Cl l (Cf (↑o1_1_0.fst : Int)) default).til, vi (Cl l (Cf (↑o1_1_0.fst : Int)) default).known, vi (Cl l (Cf (↑o1_1_0.fst : Int)) default).no] 8 from ?_) (.c (show (decide ((↑o1_1_0.fst : Int) < 0) == false) = true from rfl) (.c (show (decide ((↑o1_1_0.fst : Int) < 0) == false) = true from rfl) (.c (show (decide ((↑o1_1_0.fst : Int) < 0) == false) = true from rfl) (.c (show ae (bool (decide ((↑o1_1_0.fst : Int) < 0))) (bool true) (bool (decide ((Cl l (Cf (↑o1_1_0.fst : Int)) default).value < 0))) (bool (decide ((Cl l (Cf (↑o1_1_0.fst : Int)) default).value < 0))) from ?_) (.c hc2 .n)))))))))) rfl rfl h) (by first | (simp only [xB, ho1, hc2, cond_true]; done) | (simp only [xB, ho1, hc2, cond_true, cond_false]; rfl) | (exfalso; simp_all; done) | (exfalso; simp_all; omega)) (by rfl) <;> (first | assumption | rfl | exact af rfl rfl | exact qI ho1 | (refine ai ?_ rfl; simp) | (simp; done))
end Go.Vi
open Go Go.Proofs
namespace Go.Vi
set_option maxRecDepth 100000
set_option maxHeartbeats 4000000
structure CourseT where
 name : ByteArray
 number : Int
 credits : Int
 rep : Int
 need : RuleT
 bar : RuleT
def CourseT.row (c : CourseT) : List Dp := [vs c.name, vi c.number, vi c.credits, vi c.rep,
 vi c.need.fl.op, vi c.need.fl.c, vs c.need.fl.nm, vi c.need.fl.n, vi c.need.fl.d, .sl c.need.fl.ks, vi c.bar.fl.op, vi c.bar.fl.c, vs c.bar.fl.nm, vi c.bar.fl.n, vi c.bar.fl.d, .sl c.bar.fl.ks]
def CourseT.ok (c : CourseT) : Prop := c.need.ok ∧ c.bar.ok
def b8 (c : CourseT) : Bool := inB c.number 0 4095 && inB c.credits 1 60 && inB c.rep 0 2 && (bF c.need.bad == 0) && (bF c.bar.bad == 0)
noncomputable abbrev cv (c : CourseT) : List Blk := [.var [al c.name, int c.number, int c.credits, int c.rep, int (B9 c.need).op, int (B9 c.need).c, al (B9 c.need).nm, int (B9 c.need).n, int (B9 c.need).d, ab (B9 c.need).ks, int (B9 c.bar).op, int (B9 c.bar).c, al (B9 c.bar).nm, int (B9 c.bar).n, int (B9 c.bar).d, ab (B9 c.bar).ks]]
theorem tH {c : CourseT} (hc : c.ok) (h : List Blk) : (Ev B7 Γk 198 [ag c.row] h (bool (b8 c)) h) := by
 refine Cj (Cn (d := bool (decide (c.number ≥ 0) && decide (c.number ≤ 4095) && (decide (c.credits ≥ 1) && decide (c.credits ≤ 60)) && (decide (c.rep ≥ 0) && decide (c.rep ≤ 2)) && bF (Er c.need) == 0 && bF (Er c.bar) == 0)) pok [.val (bool (decide (c.number ≥ 0) && decide (c.number ≤ 4095))), .val (bool (decide (c.credits ≥ 1) && decide (c.credits ≤ 60))), .val (bool (decide (c.rep ≥ 0) && decide (c.rep ≤ 2))), .val (int (bF (Er c.need))), .val (int (bF (Er c.bar)))] (by kernel_rfl) (.c (CZ (Γ' := Γk) (@gM (c.number) 0 4095 (cv c))) (.c (gd (decide (c.number ≥ 0) && decide (c.number ≤ 4095)) (CZ (Γ' := Γk) (@gM (c.credits) 1 60 (cv c)))) (.c (gd (decide (c.number ≥ 0) && decide (c.number ≤ 4095) && (decide (c.credits ≥ 1) && decide (c.credits ≤ 60))) (CZ (Γ' := Γk) (@gM (c.rep) 0 2 (cv c)))) (.c (gd (decide (c.number ≥ 0) && decide (c.number ≤ 4095) && (decide (c.credits ≥ 1) && decide (c.credits ≤ 60)) && (decide (c.rep ≥ 0) && decide (c.rep ≤ 2))) (@gR (c.need) ?_ (cv c))) (.c (gd (decide (c.number ≥ 0) && decide (c.number ≤ 4095) && (decide (c.credits ≥ 1) && decide (c.credits ≤ 60)) && (decide (c.rep ≥ 0) && decide (c.rep ≤ 2)) && bF (Er c.need) == 0) (@gR (c.bar) ?_ (cv c))) .n))))) rfl rfl h) (by rfl) (by rfl) <;> (first | assumption | exact hc.1 | exact hc.2)
noncomputable abbrev qJ (c : CourseT) (n : Int) : List Blk := [.var [int n], .var [al c.name, int c.number, int c.credits, int c.rep, int (B9 c.need).op, int (B9 c.need).c, al (B9 c.need).nm, int (B9 c.need).n, int (B9 c.need).d, ab (B9 c.need).ks, int (B9 c.bar).op, int (B9 c.bar).c, al (B9 c.bar).nm, int (B9 c.bar).n, int (B9 c.bar).d, ab (B9 c.bar).ks]]
theorem sI {c : CourseT} (hc : c.ok) {n : Int} : (Ev B7 Γk 197 [ag c.row, .ref (.ptr 0 0)] [.var [int n]] (bool (c.number == n && b8 c)) [.var [int n]]) := by
 exact Cj (Ev.symT (h' := [.var [int n]]) (d := bool (c.number == n && b8 c)) pok [.val (bool (b8 c))] (by kernel_rfl) (.c (gd (c.number == n) (@tH c hc (qJ c n))) .n)) (by rfl) (by rfl)
structure WorldT where
 c : List CourseT
 p : List (List Dp)
 s : List SysT
 f : List FactT
def WorldT.l (w : WorldT) : List D := [ab (w.c.map CourseT.row), ab w.p, ab (w.s.map CD), ab (w.f.map Ch)]
abbrev atA (w : WorldT) (kk ks ko term known : Int) : List D := [ab (w.f.map Ch), .agg [int kk, int ks, int ko], int term, int known]
abbrev qK (kk ks ko a b : Int) : List (List Dp) := [[vi kk, vi ks, vi ko, vi a, vi b]]
theorem cJ {α : Type} [Inhabited α] {row : α → List Dp} {l : List α} {v : Int} {sz : Nat} (hs : ∀ x, (row x).length = sz) (h0 : 0 ≤ v) (h1 : v < (l.length : Int)) : aH v (l.map row) (row (l.getD v.toNat default)) sz := by
 obtain ⟨n, rfl⟩ : ∃ n : Nat, v = n := ⟨v.toNat, by omega⟩
 have hn : n < l.length := by omega
 have hx : l[n]? = some l[n] := Cv hn
 have : l.getD (Cf (n : Int)) default = l[n] := by simp [Cl, hx]
 rw [this]
 exact rowAt hx (hs _)
def eJ {α : Type} [Inhabited α] (l : List α) (valid : α → Bool) (p : Int × Bool) : Bool := !p.2 || decide (p.1 < 0) || decide (p.1 ≥ (l.length : Int)) || !valid (l.getD p.1.toNat default)
def f9 {α : Type} [Inhabited α] (l : List α) (valid : α → Bool) (z : α) (p : Int × Bool) : α × Bool := match eJ l valid p with
 | true => (z, false)
 | false => (l.getD p.1.toNat default, true)
structure WorldT.ok (w : WorldT) : Prop where
 c : ∀ x ∈ w.c, x.ok
 s : ∀ x ∈ w.s, x.ok
 lf : w.f.length ≤ 69000
 lc : am w.c
 ls : am w.s
 i : ∀ f ∈ w.f, f.ok
theorem WorldT.ok.sf {w : WorldT} (h : w.ok) : am w.f := by have := h.lf; unfold am; omega
def outB (term : Int) : Bool := !(decide (term ≥ 0) && decide (term ≤ 1023))
def gT (kk ks ko term : Int) : List (List Dp) := match outB term with
 | true => []
 | false => qK kk ks ko term (B8.wrap (term + 1))
def RuleT.zero : RuleT := .mk 0 0 ⟨#[]⟩ 0 0 []
def CourseT.zero : CourseT := ⟨⟨#[]⟩, 0, 0, 0, RuleT.zero, RuleT.zero⟩
instance : Inhabited CourseT := ⟨CourseT.zero⟩
theorem CourseT.zero_ok : CourseT.zero.ok := by
 have : RuleT.zero.ok := ⟨by unfold I64 am; simp, trivial⟩
 exact ⟨this, this⟩
theorem iK {l : List CourseT} (h : ∀ x ∈ l, x.ok) (n : Nat) : (l.getD n default).ok := by
 rcases Nat.lt_or_ge n l.length with hn | hn
 ·rw [Cl, Cv hn]; exact h _ (List.getElem_mem hn)
 ·rw [Cl, List.getElem?_eq_none hn]; exact CourseT.zero_ok
abbrev crsZ : D := ag CourseT.zero.row
def bf (n : Int) (c : CourseT) : Bool := c.number == n && b8 c
noncomputable abbrev lc0_x0 (w : WorldT) (n : Int) : List Blk := [.var [int n], .var [ab (B6 CourseT.row w.c), ab w.p, ab (B6 CD w.s), ab (B6 Ch w.f)], .var [int 1, int n, int 0], .var [al { data := #[] }, int 0, int 0, int 0, int 0, int 0, al { data := #[] }, int 0, int 0, nq, int 0, int 0, al { data := #[] }, int 0, int 0, nq]]
theorem lc0 {w : WorldT} {n term known : Int} (ht : (!(decide (term ≥ 0) && decide (term ≤ 1023))) = true) : (Ev B7 Γk 199 [.agg w.l, ab (w.c.map CourseT.row), .agg [int 1, int n, int 0], int term, int known, .fn (.func 197) [] [.ref (.ptr 0 0)]] [.var [int n]] (.tup [crsZ, ab [], bool false]) [.var [int n]]) := by
 exact Cj (GI (Ev.symT (h' := [.var [int n]]) (d := DC [Db [al { data := #[] }, int 0, int 0, int 0, int 0, int 0, al { data := #[] }, int 0, int 0, nq, int 0, int 0, al { data := #[] }, int 0, int 0, nq], nq, bool false]) pok [.val (bool (decide (term ≥ 0) && decide (term ≤ 1023))), .b true] (by kernel_rfl) (.c (CZ (Γ' := Γk) (@gM term 0 1023 (lc0_x0 w n))) (.c ht .n)))) (by rfl) (by rfl)
noncomputable abbrev sJ (w : WorldT) (v : Int) : List D := [Db [al (Cl w.c (Cf v) default).name, int (Cl w.c (Cf v) default).number, int (Cl w.c (Cf v) default).credits, int (Cl w.c (Cf v) default).rep, int (B9 (Cl w.c (Cf v) default).need).op, int (B9 (Cl w.c (Cf v) default).need).c, al (B9 (Cl w.c (Cf v) default).need).nm, int (B9 (Cl w.c (Cf v) default).need).n, int (B9 (Cl w.c (Cf v) default).need).d, ab (B9 (Cl w.c (Cf v) default).need).ks, int (B9 (Cl w.c (Cf v) default).bar).op, int (B9 (Cl w.c (Cf v) default).bar).c, al (B9 (Cl w.c (Cf v) default).bar).nm, int (B9 (Cl w.c (Cf v) default).bar).n, int (B9 (Cl w.c (Cf v) default).bar).d, ab (B9 (Cl w.c (Cf v) default).bar).ks], .ref (.ptr 0 0)]
noncomputable abbrev i9 (w : WorldT) (n : Int) : List Blk := [.var [int n], .var [ab (B6 CourseT.row w.c), ab w.p, ab (B6 CD w.s), ab (B6 Ch w.f)], .var [int 1, int n, int 0], .var [al { data := #[] }, int 0, int 0, int 0, int 0, int 0, al { data := #[] }, int 0, int 0, nq, int 0, int 0, al { data := #[] }, int 0, int 0, nq], .gone]
noncomputable abbrev zG (w : WorldT) (n : Int) : List Blk := [.var [int n], .var [ab (B6 CourseT.row w.c), ab w.p, ab (B6 CD w.s), ab (B6 Ch w.f)], .var [int 1, int n, int 0], .var [al { data := #[] }, int 0, int 0, int 0, int 0, int 0, al { data := #[] }, int 0, int 0, nq, int 0, int 0, al { data := #[] }, int 0, int 0, nq]]
theorem lc1 {w : WorldT} {n term known v : Int} {b : Bool} (ht : (!(decide (term ≥ 0) && decide (term ≤ 1023))) = false) (hat : ∀ h, Ev B7 Γk 86 (atA w 1 n 0 term known) h (.tup [int v, bool b]) h) (hs : ∀ x ∈ w.c, x.ok) : (Ev B7 Γk 199 [.agg w.l, ab (w.c.map CourseT.row), .agg [int 1, int n, int 0], int term, int known, .fn (.func 197) [] [.ref (.ptr 0 0)]] [.var [int n]] (.tup [ag (f9 w.c (bf n) CourseT.zero (v, b)).1.row, ab (qK 1 n 0 term (B8.wrap (term + 1))), bool (f9 w.c (bf n) CourseT.zero (v, b)).2]) [.var [int n]]) := by
 cases hc0 : !b || decide (v < 0) || decide (v ≥ (↑(Cb (B6 CourseT.row w.c)) : Int)) || !((Cl w.c (Cf v) default).number == n && b8 (Cl w.c (Cf v) default))
 ·let v0 := Cl w.c (Cf v) default
  let v1 := B6 CourseT.row w.c
  let v2 : List D := [int 1, int n, int 0, int term, int (Cc B8 (term + 1))]
  refine Cj (GI (Ev.symT (h' := [.var [int n]]) (d := DC [Db [al v0.name, int v0.number, int v0.credits, int v0.rep, int (B9 v0.need).op, int (B9 v0.need).c, al (B9 v0.need).nm, int (B9 v0.need).n, int (B9 v0.need).d, ab (B9 v0.need).ks, int (B9 v0.bar).op, int (B9 v0.bar).c, al (B9 v0.bar).nm, int (B9 v0.bar).n, int (B9 v0.bar).d, ab (B9 v0.bar).ks], ab [[vi 1, vi n, vi 0, vi term, vi (Cc B8 (term + 1))]], bool true]) pok [.val (bool (decide (term ≥ 0) && decide (term ≤ 1023))), .b false, .nx 1, .st (.frz 4 (qK 1 n 0 term (Cc B8 (term + 1)))), .val (DC [int v, bool b]), .row [vs v0.name, vi v0.number, vi v0.credits, vi v0.rep, vi (B9 v0.need).op, vi (B9 v0.need).c, vs (B9 v0.need).nm, vi (B9 v0.need).n, vi (B9 v0.need).d, D3 (B9 v0.need).ks, vi (B9 v0.bar).op, vi (B9 v0.bar).c, vs (B9 v0.bar).nm, vi (B9 v0.bar).n, vi (B9 v0.bar).d, D3 (B9 v0.bar).ks], .val (bool (v0.number == n && b8 v0)), .b false, .row [vs v0.name, vi v0.number, vi v0.credits, vi v0.rep, vi (B9 v0.need).op, vi (B9 v0.need).c, vs (B9 v0.need).nm, vi (B9 v0.need).n, vi (B9 v0.need).d, D3 (B9 v0.need).ks, vi (B9 v0.bar).op, vi (B9 v0.bar).c, vs (B9 v0.bar).nm, vi (B9 v0.bar).n, vi (B9 v0.bar).d, D3 (B9 v0.bar).ks]] (by kernel_rfl) (.c (CZ (Γ' := Γk) (@gM term 0 1023 (zG w n))) (.c ht (.c (show [v2] = [v2] from rfl) (.c (@hat (i9 w n)) (.c (show (!(!b || decide (v < 0) || decide (v ≥ (↑(Cb v1) : Int)))) = true → aH v v1 [vs v0.name, vi v0.number, vi v0.credits, vi v0.rep, vi (B9 v0.need).op, vi (B9 v0.need).c, vs (B9 v0.need).nm, vi (B9 v0.need).n, vi (B9 v0.need).d, D3 (B9 v0.need).ks, vi (B9 v0.bar).op, vi (B9 v0.bar).c, vs (B9 v0.bar).nm, vi (B9 v0.bar).n, vi (B9 v0.bar).d, D3 (B9 v0.bar).ks] 16 from (fun hg => ?_)) (.c (show (!(!b || decide (v < 0) || decide (v ≥ (↑(Cb v1) : Int)))) = true → Ev B7 Γk 197 (sJ w v) (i9 w n) (bool (v0.number == n && b8 v0)) (i9 w n) from (fun hg => (Cj (Fs (args := (sJ w v)) (H := (i9 w n)) [0] (@sI v0 ?_ n) (by kernel_rfl) (by kernel_rfl) (by kernel_rfl) trivial trivial) (by kernel_rfl) (by kernel_rfl)))) (.c hc0 (.c (show aH v v1 [vs v0.name, vi v0.number, vi v0.credits, vi v0.rep, vi (B9 v0.need).op, vi (B9 v0.need).c, vs (B9 v0.need).nm, vi (B9 v0.need).n, vi (B9 v0.need).d, D3 (B9 v0.need).ks, vi (B9 v0.bar).op, vi (B9 v0.bar).c, vs (B9 v0.bar).nm, vi (B9 v0.bar).n, vi (B9 v0.bar).d, D3 (B9 v0.bar).ks] 16 from ?_) .n)))))))))) (by subst v0 v1 v2; first | (have hb : eJ w.c (bf n) (v, b) = true := by rw [← hc0]; simp [eJ, bf]); simp only [f9, hb]; rfl | (have hb : eJ w.c (bf n) (v, b) = false := by rw [← hc0]; simp [eJ, bf]); simp only [f9, hb]; rfl | rfl) (by subst v0 v1 v2; first | (have hb : eJ w.c (bf n) (v, b) = true := by rw [← hc0]; simp [eJ, bf]); simp only [f9, hb]; rfl | (have hb : eJ w.c (bf n) (v, b) = false := by rw [← hc0]; simp [eJ, bf]); simp only []; rfl | rfl) <;> subst v0 v1 v2 <;> (first | assumption | exact iK hs _ | (refine cJ (fun _ => rfl) ?_ ?_ <;> simp_all; done) | (simp_all; done))
 ·let v0 := Cl w.c (Cf v) default
  let v1 : List D := [int 1, int n, int 0, int term, int (Cc B8 (term + 1))]
  refine Cj (GI (Ev.symT (h' := [.var [int n]]) (d := DC [Db [al { data := #[] }, int 0, int 0, int 0, int 0, int 0, al { data := #[] }, int 0, int 0, nq, int 0, int 0, al { data := #[] }, int 0, int 0, nq], ab [[vi 1, vi n, vi 0, vi term, vi (Cc B8 (term + 1))]], bool false]) pok [.val (bool (decide (term ≥ 0) && decide (term ≤ 1023))), .b false, .nx 1, .st (.frz 4 (qK 1 n 0 term (Cc B8 (term + 1)))), .val (DC [int v, bool b]), .row [vs v0.name, vi v0.number, vi v0.credits, vi v0.rep, vi (B9 v0.need).op, vi (B9 v0.need).c, vs (B9 v0.need).nm, vi (B9 v0.need).n, vi (B9 v0.need).d, D3 (B9 v0.need).ks, vi (B9 v0.bar).op, vi (B9 v0.bar).c, vs (B9 v0.bar).nm, vi (B9 v0.bar).n, vi (B9 v0.bar).d, D3 (B9 v0.bar).ks], .val (bool (v0.number == n && b8 v0)), .b true] (by kernel_rfl) (.c (CZ (Γ' := Γk) (@gM term 0 1023 (zG w n))) (.c ht (.c (show [v1] = [v1] from rfl) (.c (@hat (i9 w n)) (.c (show (!(!b || decide (v < 0) || decide (v ≥ (↑(Cb (B6 CourseT.row w.c)) : Int)))) = true → aH v (B6 CourseT.row w.c) [vs v0.name, vi v0.number, vi v0.credits, vi v0.rep, vi (B9 v0.need).op, vi (B9 v0.need).c, vs (B9 v0.need).nm, vi (B9 v0.need).n, vi (B9 v0.need).d, D3 (B9 v0.need).ks, vi (B9 v0.bar).op, vi (B9 v0.bar).c, vs (B9 v0.bar).nm, vi (B9 v0.bar).n, vi (B9 v0.bar).d, D3 (B9 v0.bar).ks] 16 from (fun hg => (by subst v0 v1; first | assumption | exact iK hs _ | (refine cJ (fun _ => rfl) ?_ ?_ <;> simp_all; done) | (simp_all; done)))) (.c (show (!(!b || decide (v < 0) || decide (v ≥ (↑(Cb (B6 CourseT.row w.c)) : Int)))) = true → Ev B7 Γk 197 (sJ w v) (i9 w n) (bool (v0.number == n && b8 v0)) (i9 w n) from (fun hg => (Cj (Fs (args := (sJ w v)) (H := (i9 w n)) [0] (@sI v0 (by subst v0 v1; first | assumption | exact iK hs _ | (refine cJ (fun _ => rfl) ?_ ?_ <;> simp_all; done) | (simp_all; done)) n) (by kernel_rfl) (by kernel_rfl) (by kernel_rfl) trivial trivial) (by kernel_rfl) (by kernel_rfl)))) (.c hc0 .n))))))))) ?_ ?_ <;> subst v0 v1 <;> (first | (have hb : eJ w.c (bf n) (v, b) = true := by rw [← hc0]; simp [eJ, bf]); simp only [f9, hb]; rfl | (have hb : eJ w.c (bf n) (v, b) = false := by rw [← hc0]; simp [eJ, bf]); simp only [f9, hb]; rfl | rfl)
def ac (w : WorldT) (n term known : Int) : CourseT × Bool := match outB term with
 | true => (CourseT.zero, false)
 | false => f9 w.c (bf n) CourseT.zero (atR 1 n 0 term known w.f)
theorem tI {w : WorldT} (hw : w.ok) {n term known : Int} : Ev B7 Γk 199 [.agg w.l, ab (w.c.map CourseT.row), .agg [int 1, int n, int 0], int term, int known, .fn (.func 197) [] [.ref (.ptr 0 0)]] [.var [int n]] (.tup [ag (ac w n term known).1.row, ab (gT 1 n 0 term), bool (ac w n term known).2]) [.var [int n]] := by
 unfold ac gT
 cases ht : outB term with
 | true => exact lc0 ht
 | false => exact lc1 ht (fun h => CZ (at_ev hw.sf h)) hw.c
noncomputable abbrev fe (w : WorldT) (n : Int) : List Blk := [.var [ab (B6 CourseT.row w.c), ab w.p, ab (B6 CD w.s), ab (B6 Ch w.f)], .var [int n], .var [al { data := #[] }, int 0, int 0, int 0, int 0, int 0, al { data := #[] }, int 0, int 0, nq, int 0, int 0, al { data := #[] }, int 0, int 0, nq]]
theorem tJ {w : WorldT} (hw : w.ok) {n term known : Int} (h : List Blk) : (Ev B7 Γk 161 [.agg w.l, int n, int term, int known] h (.tup [ag (ac w n term known).1.row, ab (gT 1 n 0 term), bool (ac w n term known).2]) h) := by
 let v0 := DC [Db [al (ac w n term known).fst.name, int (ac w n term known).fst.number, int (ac w n term known).fst.credits, int (ac w n term known).fst.rep, int (B9 (ac w n term known).fst.need).op, int (B9 (ac w n term known).fst.need).c, al (B9 (ac w n term known).fst.need).nm, int (B9 (ac w n term known).fst.need).n, int (B9 (ac w n term known).fst.need).d, ab (B9 (ac w n term known).fst.need).ks, int (B9 (ac w n term known).fst.bar).op, int (B9 (ac w n term known).fst.bar).c, al (B9 (ac w n term known).fst.bar).nm, int (B9 (ac w n term known).fst.bar).n, int (B9 (ac w n term known).fst.bar).d, ab (B9 (ac w n term known).fst.bar).ks], ab (gT 1 n 0 term), bool (ac w n term known).snd]
 exact Cj (Cn (d := DC [Db [al (ac w n term known).fst.name, int (ac w n term known).fst.number, int (ac w n term known).fst.credits, int (ac w n term known).fst.rep, int (B9 (ac w n term known).fst.need).op, int (B9 (ac w n term known).fst.need).c, al (B9 (ac w n term known).fst.need).nm, int (B9 (ac w n term known).fst.need).n, int (B9 (ac w n term known).fst.need).d, ab (B9 (ac w n term known).fst.need).ks, int (B9 (ac w n term known).fst.bar).op, int (B9 (ac w n term known).fst.bar).c, al (B9 (ac w n term known).fst.bar).nm, int (B9 (ac w n term known).fst.bar).n, int (B9 (ac w n term known).fst.bar).d, ab (B9 (ac w n term known).fst.bar).ks], ab (gT 1 n 0 term), bool (ac w n term known).snd]) pok [.val v0] (by kernel_rfl) (.c (show Ev B7 Γk 199 [Db (WorldT.l w), ab (B6 CourseT.row w.c), Db [int 1, int n, int 0], int term, int known, D.fn (Fn.func 197) [] [.ref (.ptr 1 0)]] (fe w n) v0 (fe w n) from (Cj (Fs (args := [Db (WorldT.l w), ab (B6 CourseT.row w.c), Db [int 1, int n, int 0], int term, int known, D.fn (Fn.func 197) [] [.ref (.ptr 1 0)]]) (H := (fe w n)) [1] (@tI w hw n term known) (by kernel_rfl) (by kernel_rfl) (by kernel_rfl) trivial trivial) (by kernel_rfl) (by kernel_rfl))) .n) rfl rfl h) (by rfl) (by rfl)
end Go.Vi
open Go Go.Proofs
namespace Go.Vi
set_option maxRecDepth 100000
set_option maxHeartbeats 4000000
theorem kE {kk ks ko term : Int} (h : List Blk) : (Ev B7 Γ0 128 [.agg [int kk, int ks, int ko], int term] h (.agg [int kk, int ks, int ko, int term, int (B8.wrap (term + 1))]) h) := by
 exact Cj (Cn (d := Db [int kk, int ks, int ko, int term, int (Cc B8 (term + 1))]) pok [] (by kernel_rfl) .n rfl rfl h) (by rfl) (by rfl)
def CourseT.small (c : CourseT) : Prop := c.need.size ≤ 1048576 ∧ c.bar.size ≤ 1048576
noncomputable abbrev bz (c : CourseT) : List Blk := [.var [al c.name, int c.number, int c.credits, int c.rep, int (B9 c.need).op, int (B9 c.need).c, al (B9 c.need).nm, int (B9 c.need).n, int (B9 c.need).d, ab (B9 c.need).ks, int (B9 c.bar).op, int (B9 c.bar).c, al (B9 c.bar).nm, int (B9 c.bar).n, int (B9 c.bar).d, ab (B9 c.bar).ks]]
theorem gU {c : CourseT} (hc : c.ok) (hs : c.small) (h : List Blk) : (Ev B7 Γ0 133 [ag c.row] h (bool (b8 c)) h) := by
 refine Cj (Cn (d := bool (decide (c.number ≥ 0) && decide (c.number ≤ 4095) && (decide (c.credits ≥ 1) && decide (c.credits ≤ 60)) && (decide (c.rep ≥ 0) && decide (c.rep ≤ 2)) && bF (Er c.need) == 0 && bF (Er c.bar) == 0)) pok [.val (bool (decide (c.number ≥ 0) && decide (c.number ≤ 4095))), .val (bool (decide (c.credits ≥ 1) && decide (c.credits ≤ 60))), .val (bool (decide (c.rep ≥ 0) && decide (c.rep ≤ 2))), .val (int (bF (Er c.need))), .val (int (bF (Er c.bar)))] (by kernel_rfl) (.c (@dE (c.number) 0 4095 (bz c)) (.c (gd (decide (c.number ≥ 0) && decide (c.number ≤ 4095)) (@dE (c.credits) 1 60 (bz c))) (.c (gd (decide (c.number ≥ 0) && decide (c.number ≤ 4095) && (decide (c.credits ≥ 1) && decide (c.credits ≤ 60))) (@dE (c.rep) 0 2 (bz c))) (.c (gd (decide (c.number ≥ 0) && decide (c.number ≤ 4095) && (decide (c.credits ≥ 1) && decide (c.credits ≤ 60)) && (decide (c.rep ≥ 0) && decide (c.rep ≤ 2))) (@me (c.need) ?_ ?_ (bz c))) (.c (gd (decide (c.number ≥ 0) && decide (c.number ≤ 4095) && (decide (c.credits ≥ 1) && decide (c.credits ≤ 60)) && (decide (c.rep ≥ 0) && decide (c.rep ≤ 2)) && bF (Er c.need) == 0) (@me (c.bar) ?_ ?_ (bz c))) .n))))) rfl rfl h) (by rfl) (by rfl) <;> (first | assumption | exact hc.1 | exact hc.2 | exact hs.1 | exact hs.2)
theorem sK {l : List CourseT} {v n : Int} {b : Bool} (hw1 : B8.wrap (((l.map CourseT.row).length : Int) - 1) = (l.length : Int) - 1) :
  (!b || !(decide (v ≥ 0) && decide (v ≤ B8.wrap (((l.map CourseT.row).length : Int) - 1))) || (!((l.getD v.toNat default).number == n)) || !b8 (l.getD v.toNat default)) = eJ l (bf n) (v, b) := by
 unfold eJ bf
 rw [hw1]
 have e1 : decide (v < 0) = !decide (v ≥ 0) := by by_cases h : v ≥ 0 <;> simp [h] <;> omega
 have e2 : decide (v ≥ (l.length : Int)) = !decide (v ≤ (l.length : Int) - 1) := by by_cases h : v ≤ (l.length : Int) - 1 <;> simp [h] <;> omega
 simp only [e1, e2]
 cases b <;> cases decide (v ≥ 0) <;> cases decide (v ≤ (l.length : Int) - 1) <;> simp
noncomputable abbrev tK (w : WorldT) : List Blk := [.var [ab (B6 CourseT.row w.c), ab w.p, ab (B6 CD w.s), ab (B6 Ch w.f)], .var [al { data := #[] }, int 0, int 0, int 0, int 0, int 0, al { data := #[] }, int 0, int 0, nq, int 0, int 0, al { data := #[] }, int 0, int 0, nq]]
theorem Be {w : WorldT} {n term known : Int} (ht : (!(decide (term ≥ 0) && decide (term ≤ 1023))) = true) (h : List Blk) : (Ev B7 Γ0 76 [.agg w.l, int n, int term, int known] h (.tup [ag CourseT.zero.row, ab [], bool false]) h) := by
 exact Cj (GI (Cn (d := DC [Db [al { data := #[] }, int 0, int 0, int 0, int 0, int 0, al { data := #[] }, int 0, int 0, nq, int 0, int 0, al { data := #[] }, int 0, int 0, nq], nq, bool false]) pok [.val (bool (decide (term ≥ 0) && decide (term ≤ 1023))), .b true] (by kernel_rfl) (.c (@dE term 0 1023 (tK w)) (.c ht .n)) rfl rfl h)) (by rfl) (by rfl)
noncomputable abbrev dj (w : WorldT) (n : Int) : List Blk := [.var [ab (B6 CourseT.row w.c), ab w.p, ab (B6 CD w.s), ab (B6 Ch w.f)], .var [al { data := #[] }, int 0, int 0, int 0, int 0, int 0, al { data := #[] }, int 0, int 0, nq, int 0, int 0, al { data := #[] }, int 0, int 0, nq], .var [int 1, int n, int 0], .gone]
noncomputable abbrev mf (w : WorldT) (n : Int) : List Blk := [.var [ab (B6 CourseT.row w.c), ab w.p, ab (B6 CD w.s), ab (B6 Ch w.f)], .var [al { data := #[] }, int 0, int 0, int 0, int 0, int 0, al { data := #[] }, int 0, int 0, nq, int 0, int 0, al { data := #[] }, int 0, int 0, nq], .var [int 1, int n, int 0]]
noncomputable abbrev mg (w : WorldT) : List Blk := [.var [ab (B6 CourseT.row w.c), ab w.p, ab (B6 CD w.s), ab (B6 Ch w.f)], .var [al { data := #[] }, int 0, int 0, int 0, int 0, int 0, al { data := #[] }, int 0, int 0, nq, int 0, int 0, al { data := #[] }, int 0, int 0, nq]]
theorem Bf {w : WorldT} {n term known v : Int} {b : Bool} (ht : (!(decide (term ≥ 0) && decide (term ≤ 1023))) = false) (hat : ∀ h, Ev B7 Γ0 124 [ab (w.f.map Ch), .agg [int 1, int n, int 0], int term, int known] h (.tup [int v, bool b]) h) (hs : ∀ x ∈ w.c, x.ok) (hs2 : ∀ x ∈ w.c, x.small) (hw1 : B8.wrap (((w.c.map CourseT.row).length : Int) - 1) = (w.c.length : Int) - 1)
  (hd1 : (w.c.getD v.toNat default).ok) (hd2 : (w.c.getD v.toNat default).small) (h : List Blk) : (Ev B7 Γ0 76 [.agg w.l, int n, int term, int known] h (.tup [ag (f9 w.c (bf n) CourseT.zero (v, b)).1.row, ab (qK 1 n 0 term (B8.wrap (term + 1))), bool (f9 w.c (bf n) CourseT.zero (v, b)).2]) h) := by
 cases hc0 : !b || !(decide (v ≥ 0) && decide (v ≤ Cc B8 ((↑(Cb (B6 CourseT.row w.c)) : Int) - 1))) || (Cl w.c (Cf v) default).number != n || !b8 (Cl w.c (Cf v) default)
 ·let v0 := Cl w.c (Cf v) default
  let v1 := B6 CourseT.row w.c
  let v2 : List D := [int 1, int n, int 0, int term, int (Cc B8 (term + 1))]
  refine Cj (GI (Cn (d := DC [Db [al v0.name, int v0.number, int v0.credits, int v0.rep, int (B9 v0.need).op, int (B9 v0.need).c, al (B9 v0.need).nm, int (B9 v0.need).n, int (B9 v0.need).d, ab (B9 v0.need).ks, int (B9 v0.bar).op, int (B9 v0.bar).c, al (B9 v0.bar).nm, int (B9 v0.bar).n, int (B9 v0.bar).d, ab (B9 v0.bar).ks], ab [[vi 1, vi n, vi 0, vi term, vi (Cc B8 (term + 1))]], bool true]) pok [.val (bool (decide (term ≥ 0) && decide (term ≤ 1023))), .b false, .val (Db v2), .st (.frz 3 (qK 1 n 0 term (Cc B8 (term + 1)))), .val (DC [int v, bool b]), .val (bool (decide (v ≥ 0) && decide (v ≤ Cc B8 ((↑(Cb v1) : Int) - 1)))), .row [vs v0.name, vi v0.number, vi v0.credits, vi v0.rep, vi (B9 v0.need).op, vi (B9 v0.need).c, vs (B9 v0.need).nm, vi (B9 v0.need).n, vi (B9 v0.need).d, D3 (B9 v0.need).ks, vi (B9 v0.bar).op, vi (B9 v0.bar).c, vs (B9 v0.bar).nm, vi (B9 v0.bar).n, vi (B9 v0.bar).d, D3 (B9 v0.bar).ks], .row [vs v0.name, vi v0.number, vi v0.credits, vi v0.rep, vi (B9 v0.need).op, vi (B9 v0.need).c, vs (B9 v0.need).nm, vi (B9 v0.need).n, vi (B9 v0.need).d, D3 (B9 v0.need).ks, vi (B9 v0.bar).op, vi (B9 v0.bar).c, vs (B9 v0.bar).nm, vi (B9 v0.bar).n, vi (B9 v0.bar).d, D3 (B9 v0.bar).ks], .val (bool (b8 v0)), .b false, .row [vs v0.name, vi v0.number, vi v0.credits, vi v0.rep, vi (B9 v0.need).op, vi (B9 v0.need).c, vs (B9 v0.need).nm, vi (B9 v0.need).n, vi (B9 v0.need).d, D3 (B9 v0.need).ks, vi (B9 v0.bar).op, vi (B9 v0.bar).c, vs (B9 v0.bar).nm, vi (B9 v0.bar).n, vi (B9 v0.bar).d, D3 (B9 v0.bar).ks]] (by kernel_rfl) (.c (@dE term 0 1023 (mg w)) (.c ht (.c (@kE 1 n 0 term (mf w n)) (.c (show [v2] = [v2] from rfl) (.c (@hat (dj w n)) (.c (gd (!!b) (@dE v 0 (Cc B8 ((↑(Cb v1) : Int) - 1)) (dj w n))) (.c (show (!(!b || !(decide (v ≥ 0) && decide (v ≤ Cc B8 ((↑(Cb v1) : Int) - 1))))) = true → aH v v1 [vs v0.name, vi v0.number, vi v0.credits, vi v0.rep, vi (B9 v0.need).op, vi (B9 v0.need).c, vs (B9 v0.need).nm, vi (B9 v0.need).n, vi (B9 v0.need).d, D3 (B9 v0.need).ks, vi (B9 v0.bar).op, vi (B9 v0.bar).c, vs (B9 v0.bar).nm, vi (B9 v0.bar).n, vi (B9 v0.bar).d, D3 (B9 v0.bar).ks] 16 from (fun hg => ?_)) (.c (show (!(!b || !(decide (v ≥ 0) && decide (v ≤ Cc B8 ((↑(Cb v1) : Int) - 1))) || v0.number != n)) = true → aH v v1 [vs v0.name, vi v0.number, vi v0.credits, vi v0.rep, vi (B9 v0.need).op, vi (B9 v0.need).c, vs (B9 v0.need).nm, vi (B9 v0.need).n, vi (B9 v0.need).d, D3 (B9 v0.need).ks, vi (B9 v0.bar).op, vi (B9 v0.bar).c, vs (B9 v0.bar).nm, vi (B9 v0.bar).n, vi (B9 v0.bar).d, D3 (B9 v0.bar).ks] 16 from (fun hg => ?_)) (.c (gd (!(!b || !(decide (v ≥ 0) && decide (v ≤ Cc B8 ((↑(Cb v1) : Int) - 1))) || v0.number != n)) (@gU v0 hd1 hd2 (dj w n))) (.c hc0 (.c (show aH v v1 [vs v0.name, vi v0.number, vi v0.credits, vi v0.rep, vi (B9 v0.need).op, vi (B9 v0.need).c, vs (B9 v0.need).nm, vi (B9 v0.need).n, vi (B9 v0.need).d, D3 (B9 v0.need).ks, vi (B9 v0.bar).op, vi (B9 v0.bar).c, vs (B9 v0.bar).nm, vi (B9 v0.bar).n, vi (B9 v0.bar).d, D3 (B9 v0.bar).ks] 16 from ?_) .n))))))))))) rfl rfl h)) (by subst v0 v1 v2; first | (have hb : eJ w.c (bf n) (v, b) = true := (sK hw1).symm.trans hc0; simp only [f9, hb]; rfl) | (have hb : eJ w.c (bf n) (v, b) = false := (sK hw1).symm.trans hc0; simp only [f9, hb]; rfl) | rfl) (by rfl) <;> subst v0 v1 v2 <;> (first | assumption | (refine cJ (fun _ => rfl) ?_ ?_ <;> simp only [hw1, D2, Fw, Df, Cd, decide_eq_true_eq] at * <;> omega) | (refine cJ (fun _ => rfl) ?_ ?_ <;> simp_all <;> omega))
 ·let v0 := Cl w.c (Cf v) default
  let v1 := Cb (B6 CourseT.row w.c)
  let v2 : List D := [int 1, int n, int 0, int term, int (Cc B8 (term + 1))]
  refine Cj (GI (Cn (d := DC [Db [al { data := #[] }, int 0, int 0, int 0, int 0, int 0, al { data := #[] }, int 0, int 0, nq, int 0, int 0, al { data := #[] }, int 0, int 0, nq], ab [[vi 1, vi n, vi 0, vi term, vi (Cc B8 (term + 1))]], bool false]) pok [.val (bool (decide (term ≥ 0) && decide (term ≤ 1023))), .b false, .val (Db v2), .st (.frz 3 (qK 1 n 0 term (Cc B8 (term + 1)))), .val (DC [int v, bool b]), .val (bool (decide (v ≥ 0) && decide (v ≤ Cc B8 ((↑v1 : Int) - 1)))), .row [vs v0.name, vi v0.number, vi v0.credits, vi v0.rep, vi (B9 v0.need).op, vi (B9 v0.need).c, vs (B9 v0.need).nm, vi (B9 v0.need).n, vi (B9 v0.need).d, D3 (B9 v0.need).ks, vi (B9 v0.bar).op, vi (B9 v0.bar).c, vs (B9 v0.bar).nm, vi (B9 v0.bar).n, vi (B9 v0.bar).d, D3 (B9 v0.bar).ks], .row [vs v0.name, vi v0.number, vi v0.credits, vi v0.rep, vi (B9 v0.need).op, vi (B9 v0.need).c, vs (B9 v0.need).nm, vi (B9 v0.need).n, vi (B9 v0.need).d, D3 (B9 v0.need).ks, vi (B9 v0.bar).op, vi (B9 v0.bar).c, vs (B9 v0.bar).nm, vi (B9 v0.bar).n, vi (B9 v0.bar).d, D3 (B9 v0.bar).ks], .val (bool (b8 v0)), .b true] (by kernel_rfl) (.c (@dE term 0 1023 (mg w)) (.c ht (.c (@kE 1 n 0 term (mf w n)) (.c (show [v2] = [v2] from rfl) (.c (@hat (dj w n)) (.c (gd (!!b) (@dE v 0 (Cc B8 ((↑v1 : Int) - 1)) (dj w n))) (.c (show (!(!b || !(decide (v ≥ 0) && decide (v ≤ Cc B8 ((↑v1 : Int) - 1))))) = true → aH v (B6 CourseT.row w.c) [vs v0.name, vi v0.number, vi v0.credits, vi v0.rep, vi (B9 v0.need).op, vi (B9 v0.need).c, vs (B9 v0.need).nm, vi (B9 v0.need).n, vi (B9 v0.need).d, D3 (B9 v0.need).ks, vi (B9 v0.bar).op, vi (B9 v0.bar).c, vs (B9 v0.bar).nm, vi (B9 v0.bar).n, vi (B9 v0.bar).d, D3 (B9 v0.bar).ks] 16 from (fun hg => ?_)) (.c (show (!(!b || !(decide (v ≥ 0) && decide (v ≤ Cc B8 ((↑v1 : Int) - 1))) || v0.number != n)) = true → aH v (B6 CourseT.row w.c) [vs v0.name, vi v0.number, vi v0.credits, vi v0.rep, vi (B9 v0.need).op, vi (B9 v0.need).c, vs (B9 v0.need).nm, vi (B9 v0.need).n, vi (B9 v0.need).d, D3 (B9 v0.need).ks, vi (B9 v0.bar).op, vi (B9 v0.bar).c, vs (B9 v0.bar).nm, vi (B9 v0.bar).n, vi (B9 v0.bar).d, D3 (B9 v0.bar).ks] 16 from (fun hg => ?_)) (.c (gd (!(!b || !(decide (v ≥ 0) && decide (v ≤ Cc B8 ((↑v1 : Int) - 1))) || v0.number != n)) (@gU v0 hd1 hd2 (dj w n))) (.c hc0 .n)))))))))) rfl rfl h)) (by subst v0 v1 v2; first | (have hb : eJ w.c (bf n) (v, b) = true := (sK hw1).symm.trans hc0; simp only [f9, hb]; rfl) | (have hb : eJ w.c (bf n) (v, b) = false := (sK hw1).symm.trans hc0; simp only [f9, hb]; rfl) | rfl) (by rfl) <;> subst v0 v1 v2 <;> (first | assumption | (refine cJ (fun _ => rfl) ?_ ?_ <;> simp only [hw1, D2, Fw, Df, Cd, decide_eq_true_eq, Bool.or_eq_true] at * <;> omega) | (refine cJ (fun _ => rfl) ?_ ?_ <;> simp_all <;> omega))
end Go.Vi
open Go Go.Proofs
namespace Go.Vi
set_option maxRecDepth 100000
set_option maxHeartbeats 1000000
theorem Bg (f g : FactT) : decide (orI (aK f.known g.known) (aK f.no g.no) ≥ 0) = !befB f g := by
 have h : orI (aK f.known g.known) (aK f.no g.no) ≥ 0 ↔ ¬ (f.known < g.known ∨ (f.known = g.known ∧ f.no < g.no)) := by
  unfold orI aK
  repeat' split
  all_goals simp_all
  all_goals omega
 rw [Bool.eq_iff_iff]
 simp only [decide_eq_true_eq, h, befB, Df, D2, Bool.and_eq_false_iff, decide_eq_false_iff_not, beq_eq_false_iff_ne, ne_eq]
 omega
def a7Rel (s : Option (Nat × FactT)) (r : FactT × Bool) : Prop := match s with
 | none => r.2 = false
 | some p => r.2 = true ∧ r.1 = p.2
theorem Bh {kk ks ko term known : Int} {i : Nat} {s : Option (Nat × FactT)} {r : FactT × Bool} {f : FactT} (h : a7Rel s r) :
  ∃ s', a7F kk ks ko term known f (i, s) = .inl (i + 1, s') ∧ a7Rel s' (nB kk ks ko term known r f) := by
 refine ⟨_, rfl, ?_⟩
 obtain ⟨g, b⟩ := r
 unfold nB ofIs bN qC fK
 cases s with
 | none =>
  simp only [a7Rel] at h
  subst h
  simp only
  cases keyIs kk ks ko f <;> cases decide (f.frm ≤ term) <;> cases decide (term < f.til) <;> cases decide (f.known ≤ known) <;> simp [a7Rel]
 | some p =>
  obtain ⟨j, q⟩ := p
  simp only [a7Rel] at h
  obtain ⟨rfl, rfl⟩ := h
  simp only [Bg]
  cases keyIs kk ks ko f <;> cases decide (f.frm ≤ term) <;> cases decide (term < f.til) <;> cases decide (f.known ≤ known) <;> cases befB f g <;> simp [a7Rel]
theorem wc {kk ks ko term known : Int} : ∀ (l : List FactT) (i : Nat) (s : Option (Nat × FactT)) (r : FactT × Bool), a7Rel s r →
  ∃ s', forL (a7F kk ks ko term known) l (i, s) = .inl (i + l.length, s') ∧ a7Rel s' (l.foldl (nB kk ks ko term known) r)
 | [], i, s, r, h => ⟨s, rfl, h⟩
 | f :: l, i, s, r, h => by
  obtain ⟨s1, e1, h1⟩ := Bh (kk := kk) (ks := ks) (ko := ko) (term := term) (known := known) (i := i) (f := f) h
  obtain ⟨s2, e2, h2⟩ := wc l (i + 1) s1 _ h1
  refine ⟨s2, ?_, h2⟩
  simp only [forL, e1, e2, Di]
  congr 2
  omega
theorem we {kk ks ko term known : Int} {l : List FactT} : xB kk ks ko term known l = atR kk ks ko term known l := by
 obtain ⟨s, e, h⟩ := wc (kk := kk) (ks := ks) (ko := ko) (term := term) (known := known) l 0 none (fz, false) rfl
 have hb : a7B kk ks ko term known l = s := by unfold a7B; rw [e]
 unfold xB atR
 rw [hb]
 cases s with
 | none =>
  simp only [a7Rel] at h
  simp only [h]; rfl
 | some p =>
  simp only [a7Rel] at h
  have hp := zF hb
  have hg : l.getD p.1 default = p.2 := by simp [Cl, hp]
  simp only [Int.toNat_natCast, hg, h.1, h.2]
  cases decide (p.2.value < 0) <;> rfl
theorem qL {w : WorldT} (hw : w.ok) (hs : ∀ x ∈ w.c, x.small) {n term known : Int} (h : List Blk) : Ev B7 Γ0 76 [.agg w.l, int n, int term, int known] h (.tup [ag (ac w n term known).1.row, ab (gT 1 n 0 term), bool (ac w n term known).2]) h := by
 unfold ac gT
 cases ht : outB term with
 | true => exact Be ht h
 | false =>
  have hlc := hw.lc
  unfold am at hlc
  have hz : ∀ v : Int, (w.c.getD v.toNat default).ok ∧ (w.c.getD v.toNat default).small := by
   intro v
   rw [Cl]
   cases hx : w.c[v.toNat]? with
   | none => exact ⟨CourseT.zero_ok, by constructor <;> decide⟩
   | some x => exact ⟨hw.c x (CS hx), hs x (CS hx)⟩
  exact Bf ht (fun h => by have := wb (kk := 1) (ks := n) (ko := 0) (term := term) (known := known) hw.sf h; rw [we] at this; exact this) hw.c hs (by rw [List.length_map, wrap_i64 (by omega) (by omega)]) (hz _).1 (hz _).2 h
end Go.Vi
open Go Go.Proofs Go.Shelf
namespace Go.Vi
abbrev ff (l : List Int) : List (List D) := l.map fun n => [int n]
theorem pq {w : World} {av : Nat → Prop} {loc : Loc} {h : List Blk} : ∀ {l : List Int} {ys : List Value}, RelL w av loc h (ff l).flatten ys → ys = l.map (Es .i64)
 | [], [], _ => rfl
 | [], _ :: _, r => by simp [RelL] at r
 | _ :: _, [], r => by simp [RelL] at r
 | n :: l, y :: ys, r => by
  simp only [ff, Dj, C7, FV, List.nil_append, RelL] at r
  have h1 : y = .int .i64 n := by simpa [Rel, RelP] using r.1
  rw [h1, pq (l := l) r.2]; rfl
theorem mh {w : World} {av : Nat → Prop} {loc : Loc} {h : List Blk} : ∀ {l : List Int}, RelL w av loc h (ff l).flatten (l.map (Es .i64))
 | [] => trivial
 | n :: l => by
  simp only [ff, Dj, C7, FV, List.nil_append, RelL]
  exact ⟨by simp [Rel, RelP], mh (l := l)⟩
theorem qM {P : Program} {ρ : Ren} {Γ : ak} (L : Lays.n189 P ρ) {h : List Blk} {b e : Nat} {l : List Int} (hb : h[b]? = some (.vec (ff l) e 1)) (hl : l.length < 4611686018427387904) :
  Ev P Γ (ρ.f 189) [.ref (.vec b e)] h (.tup []) (h.set b (.vec (ff (l.mergeSort fun x y => decide (x ≤ y))) e 1)) := by
 intro O w loc vs R ra
 obtain ⟨y, rfl⟩ : ∃ y, vs = [y] := by
  match vs, ra with
  | [y], _ => exact ⟨y, rfl⟩
  | [], r => simp [RelL] at r
  | _ :: _ :: _, r => simp [RelL] at r
 have r := ra.1
 simp only [Rel, RefRel, hb] at r
 have hv := r.2.2 trivial
 have B := R.blk b _ hb
 simp only [BlkOk] at B
 have hlen : (ff l).length = l.length := by simp [ff]
 refine callsIn_wide.2 ?_
 cases hlb : loc b with
 | none =>
  rw [hlb] at hv B
  obtain ⟨hn, rfl⟩ := hv
  have hl0 : l = [] := by simpa [ff] using hn
  subst hl0
  refine Calls.mono (calls_of_every_depth fun D => AnyS.slices_Sort_int_none_alone L D none 0 w) ?_
  rintro e' w' ⟨rfl, rfl⟩
  have hset : h.set b (.vec (ff ([].mergeSort fun x y => decide (x ≤ y))) e 1) = h := by
   apply EF
   intro i
   by_cases hi : i = b
   ·subst hi; rw [bc hb, hb]; simp
   ·rw [bB _ _ hi]
  refine ⟨.tuple #[], .tup [], _, loc, rfl, ⟨rfl, rfl⟩, ?_, ?_, ?_⟩
  ·rw [hset]; exact R
  ·rw [hset]; exact Ext.refl _ _ _
  ·simp [Rel, RelL]
 | some p =>
  obtain ⟨blk, cap⟩ := p
  rw [hlb] at hv B
  obtain ⟨rfl, hcap⟩ := hv
  simp only at B
  obtain ⟨c, T, fr, ys, hobj, hcs, hle, hfr, hsz, hrel, rest, hcl⟩ := B
  have hys := pq hrel
  subst hys
  have hblk : blk < w.heap.size := (DM.1 hobj).1
  have hH : Sort.Holds (Es .i64) w blk 0 l.toArray := by
   intro j hj
   have hj' : j < l.length := by simpa using hj
   have hc : c[j]? = some (Es .i64 l[j]) := by
    rw [← Array.getElem?_toList, hcl, Cr (by simpa using hj')]
    simp [hj']
   constructor
   ·simp [World.cell?, hobj, hc, hj']
   ·have := hfr j (DM.1 hc).1
    obtain ⟨lo, hi⟩ := fr
    simp only [World.frozen?, hobj, Nat.zero_add]
    rw [← Bool.not_eq_true]
    simpa using this
  rw [hlen]
  refine Calls.mono (calls_of_every_depth fun D => AnyS.slices_Sort_int_alone L D blk 0 cap l w hH hblk hl) ?_
  rintro e' w' ⟨rfl, n, os, rfl⟩
  have hlm : (l.mergeSort fun x y => decide (x ≤ y)).length = l.length := by simp
  generalize (l.mergeSort fun x y => decide (x ≤ y)) = m at hlm ⊢
  have hobj' : (FF (DD (Es .i64) (DT w n) blk 0 m.toArray) os).heap[blk]? = some (.cells (Ec (Es .i64) 0 m.toArray c) T fr) := by
   rw [Fh _ _ (by simpa [DD, DB, DT] using hblk)]
   simp [DD, DB, DT, EI, hobj, Sort.onCells]
  have hcells : (Ec (Es .i64) 0 m.toArray c).toList = m.map (Es .i64) ++ rest := by
   unfold Ec
   rw [Array.toList_mapIdx, hcl]
   apply EF
   intro i
   rw [List.getElem?_mapIdx]
   by_cases hi : i < l.length
   ·rw [Cr (by simpa using hi), Cr (by simpa [hlm] using hi)]
    have hm : i < m.length := by omega
    simp [hi, hm]
   ·rw [CV (by simpa using Ek hi), CV (by simpa [hlm] using Ek hi)]
    simp [hi, hlm]
  have key := R.step (w' := FF (DD (Es .i64) (DT w n) blk 0 m.toArray) os) (l' := loc) (h' := h.set b (.vec (ff m) e 1)) b (.vec (ff m) e 1)
   (by simp [FF, DD, DB, DT]) ⟨rfl, rfl, rfl, by simp [FF, DD, DB, DT]⟩ (fun i hi => bB _ _ hi) (bc hb) (fun _ _ => rfl)
   (fun z hz => by rw [hb] at hz; cases hz; exact ⟨⟨Nat.le_refl _, fun _ => by simp [ff, hlm], rfl⟩, fun _ => rfl⟩)
   (fun k hk hno => by
    have hkb : k ≠ blk := fun e => hno _ cap hb (by simp) (by rw [hlb, e])
    rw [Fh _ _ (by simpa [DD, DB, DT] using hk)]
    simp [DD, DB, DT, EI, Ne.symm hkb])
   (fun k c hk => .inl ⟨_, c, hb, by simp, hk⟩)
   (fun E => by
    simp only [BlkOk, hlb]
    refine ⟨_, T, fr, m.map (Es .i64), hobj', ?_, ?_, ?_, ?_, mh, rest, hcells⟩
    ·simpa [Ec] using hcs
    ·simpa [ff, hlm] using hle
    ·simpa [Ec] using hfr
    ·simp [ff])
  exact ⟨.tuple #[], .tup [], _, loc, rfl, ⟨rfl, rfl⟩, key.1, key.2, by simp [Rel, RelL]⟩
end Go.Vi
namespace Go.Proofs
open Go.Shelf
def Tryz.laysSort_ren : Go.Shelf.Ren := ⟨fun | 189 => 88 | 125 => 122 | 257 => 140 | 128 => 173 | 129 => 174 | 294 => 179 | 295 => 180 | 296 => 181 | 297 => 182 | 298 => 183 | 299 => 184 | 216 => 185 | 300 => 186 | 301 => 187 | 328 => 218 | 329 => 211 | 330 => 212 | 331 => 219 | 332 => 220 | 215 => 123 | 343 => 232 | n => n, fun | 28 => 30 | 3 => 3 | 46 => 192 | 0 => 0 | 51 => 233 | 53 => 169 | 4 => 4 | 183 => 227 | 182 => 226 | 131 => 150 | 5 => 5 | 9 => 9 | 218 => 251 | 222 => 255 | 228 => 265 | 229 => 266 | n => n, fun | n => n⟩
theorem Tryz.laysSort : Go.Proofs.Lays.n189 B7 Tryz.laysSort_ren := {
 mixed := by kernel_rfl
 f125 := Tryz.func122.trans (congrArg some (by kernel_rfl))
 f128 := Tryz.func173.trans (congrArg some (by kernel_rfl))
 f129 := Tryz.func174.trans (congrArg some (by kernel_rfl))
 f189 := Tryz.func88.trans (congrArg some (by kernel_rfl))
 f215 := Tryz.func123.trans (congrArg some (by kernel_rfl))
 f216 := Tryz.func185.trans (congrArg some (by kernel_rfl))
 f257 := Tryz.func140.trans (congrArg some (by kernel_rfl))
 f294 := Tryz.func179.trans (congrArg some (by kernel_rfl))
 f295 := Tryz.func180.trans (congrArg some (by kernel_rfl))
 f296 := Tryz.func181.trans (congrArg some (by kernel_rfl))
 f297 := Tryz.func182.trans (congrArg some (by kernel_rfl))
 f298 := Tryz.func183.trans (congrArg some (by kernel_rfl))
 f299 := Tryz.func184.trans (congrArg some (by kernel_rfl))
 f300 := Tryz.func186.trans (congrArg some (by kernel_rfl))
 f301 := Tryz.func187.trans (congrArg some (by kernel_rfl))
 f328 := Tryz.func218.trans (congrArg some (by kernel_rfl))
 f329 := Tryz.func211.trans (congrArg some (by kernel_rfl))
 f330 := Tryz.func212.trans (congrArg some (by kernel_rfl))
 f331 := Tryz.func219.trans (congrArg some (by kernel_rfl))
 f332 := Tryz.func220.trans (congrArg some (by kernel_rfl))
 f343 := Tryz.func232.trans (congrArg some (by kernel_rfl))
 t0 := Tryz.underlying0
 a0 := Tryz.isAgg0
 z0 := Tryz.sizeOf0
 v0 := Tryz.zeroValue0
 t3 := Tryz.underlying3
 a3 := Tryz.isAgg3
 z3 := Tryz.sizeOf3
 v3 := Tryz.zeroValue3
 t4 := Tryz.underlying4
 a4 := Tryz.isAgg4
 z4 := Tryz.sizeOf4
 v4 := Tryz.zeroValue4
 t5 := Tryz.underlying5
 a5 := Tryz.isAgg5
 z5 := Tryz.sizeOf5
 v5 := Tryz.zeroValue5
 t9 := Tryz.underlying9
 a9 := Tryz.isAgg9
 z9 := Tryz.sizeOf9
 v9 := Tryz.zeroValue9
 t28 := Tryz.underlying30
 a28 := Tryz.isAgg30
 z28 := Tryz.sizeOf30
 v28 := Tryz.zeroValue30
 t46 := Tryz.underlying192
 a46 := Tryz.isAgg192
 z46 := Tryz.sizeOf192
 v46 := Tryz.zeroValue192
 t51 := Tryz.underlying233
 a51 := Tryz.isAgg233
 z51 := Tryz.sizeOf233
 v51 := Tryz.zeroValue233
 t53 := Tryz.underlying169
 a53 := Tryz.isAgg169
 z53 := Tryz.sizeOf169
 v53 := Tryz.zeroValue169
 t131 := Tryz.underlying150
 a131 := Tryz.isAgg150
 z131 := Tryz.sizeOf150
 v131 := Tryz.zeroValue150
 t182 := Tryz.underlying226
 a182 := Tryz.isAgg226
 z182 := Tryz.sizeOf226
 v182 := Tryz.zeroValue226
 t183 := Tryz.underlying227
 a183 := Tryz.isAgg227
 z183 := Tryz.sizeOf227
 v183 := Tryz.zeroValue227
 t218 := Tryz.underlying251
 a218 := Tryz.isAgg251
 z218 := Tryz.sizeOf251
 v218 := Tryz.zeroValue251
 t222 := Tryz.underlying255
 a222 := Tryz.isAgg255
 z222 := Tryz.sizeOf255
 v222 := Tryz.zeroValue255
 t228 := Tryz.underlying265
 a228 := Tryz.isAgg265
 z228 := Tryz.sizeOf265
 v228 := Tryz.zeroValue265
 t229 := Tryz.underlying266
 a229 := Tryz.isAgg266
 z229 := Tryz.sizeOf266
 v229 := Tryz.zeroValue266 }
end Go.Proofs
namespace Go.Vi
open Go.Shelf
theorem tL {h : List Blk} {b e : Nat} {l : List Int} (hb : h[b]? = some (.vec (ff l) e 1)) (hl : l.length < 4611686018427387904) :
  Ev B7 Γ0 88 [.ref (.vec b e)] h (.tup []) (h.set b (.vec (ff (l.mergeSort fun x y => decide (x ≤ y))) e 1)) := qM Tryz.laysSort hb hl
end Go.Vi
open Go
namespace Go.Vi
theorem Ev.post {P : Program} {Γ : ak} {f : FuncId} {args : List D} {h h1 h2 : List Blk} {d d2 : D} (az : List Ans) {φ : List Prop} (hE : Ev P Γ f args h d h1) (hp : pre h { t := [d], h := h1, m := [] } az = some ({ t := [d2], h := h2, m := [] }, [], φ)) (hφ : AllP φ) : Ev P Γ f args h d2 h2 := by
 intro O w l vs R ra
 refine CallsIn.mono (hE O w l vs R ra) ?_
 rintro e w' ⟨v, d', h', l', rfl, ⟨rfl, rfl⟩, R', E', r'⟩
 obtain ⟨l2, R2, E2, r2, -⟩ := sj (Γ := Γ) (X := { O := O, w := w, l := l, h := h }) _ _ _ _ _ hp hφ { tmps := #[v], defers := [] } w' ⟨l', R', E', ⟨r', trivial⟩, rfl⟩
 exact ⟨v, d2, h2, l2, rfl, ⟨rfl, rfl⟩, R2, E2, r2.1⟩
end Go.Vi
open Go Go.Proofs
namespace Go.Vi
set_option maxRecDepth 100000
set_option maxHeartbeats 4000000
abbrev yu : D := lit (.slice none 0 0)
abbrev bG (l : List Int) : List (D × D × Nat) := l.zipIdx.map fun p => (int p.1, bool true, p.2)
abbrev nE (l : List Int) : Blk := .map (bG l) l.length
theorem iL (c : Int) : ∀ (l : List Int) (k i : Nat), d9 (int c) ((l.zipIdx k).map fun p => (int p.1, bool true, p.2)) i = some (match l.idxOf? c with | some j => some (i + j, bool true) | none => none)
 | [], _, _ => rfl
 | a :: l, k, i => by
  have ih := iL c l (k + 1) (i + 1)
  simp only [List.zipIdx_cons, Dj, d9, mG, if_true, List.idxOf?_cons]
  by_cases h : a = c
  ·subst h; simp
  ·have h' : (c == a) = false := by simp; exact fun e => h e.symm
   have h'' : (a == c) = false := by simp; exact h
   rw [h', h'', ih]
   cases l.idxOf? c <;> simp <;> omega
theorem tM {P : Program} {h : List Blk} {t : TypeId} {b : Nat} {l : List Int} {c : Int} {kt et : TypeId} (hk : dU P kt (int c) = true) (ht : P.underlying t = some (.map kt et)) (hz : jy P et = some (.bool false)) (hb : h[b]? = some (nE l)) :
  cj P h t (.ref (.mp b)) (int c) false = some (bool (l.contains c)) := by
 unfold cj
 simp only [ht, n8, hb, hk, if_true, hz, iL c l 0 0]
 cases hi : l.idxOf? c with
 | none =>
  have : l.contains c = false := by
   rw [Fk] at hi
   simpa using hi
  simp only [this]; rfl
 | some j =>
  have : l.contains c = true := by
   have : ¬ l.idxOf? c = none := by rw [hi]; simp
   rw [Fk] at this
   simpa using this
  simp only [this]; rfl
theorem tN {P : Program} {h : List Blk} {t : TypeId} {b : Nat} {l : List Int} {c : Int} {kt et : TypeId} (hk : dU P kt (int c) = true) (ht : P.underlying t = some (.map kt et)) (hb : h[b]? = some (nE l)) (hn : l.contains c = false) :
  cd P h t (.ref (.mp b)) (int c) (bool true) = some (h.set b (nE (l ++ [c]))) := by
 have hi : l.idxOf? c = none := by rw [Fk]; simpa using hn
 unfold cd
 simp only [ht, hb, hk, if_true, iL c l 0 0, hi]
 simp [nE, bG, List.zipIdx_append]
abbrev nuV (l : List Int) : List (List D) := l.map fun n => [int n]
theorem aU (l : List Int) (f : Ref → D) : (nuV l).map (C6 f) = nuV l := by simp [nuV, C6, Da, Hd]
theorem aV (l : List Int) (k : Nat) : (nuV l).all (CT k) = true := by simp [nuV, CT, DS]
theorem aF (l : List Int) (n : Int) : nuV l ++ [[int n]] = nuV (l ++ [n]) := by simp [nuV]
theorem kF (l : List Int) : (nuV l).length = l.length := by simp [nuV]
abbrev nuH (c0 c1 c2 : List (List Dp)) (fs : List (List Dp)) (s : Blk) (v : List (List D)) : List Blk := [.var [ab c0, ab c1, ab c2, ab fs], .var [int 12, int 0, int 0], s, .vec v 0 1]
abbrev nuS (c0 c1 c2 : List (List Dp)) (fs : List (List Dp)) (many : Int) (s : Blk) (v : List (List D)) (i : Int) : AS :=
 { t := mkT 70 0 [(4, .ref (.vec 3 0)), (5, yu), (6, .ref (.ptr 1 0)), (7, int many), (9, .ref (.mp 2)), (24, ab fs), (25, int fs.length), (26, int i)], h := nuH c0 c1 c2 fs s v, m := [] }
abbrev nuE (c0 c1 c2 : List (List Dp)) (fs : List (List Dp)) (many : Int) (s : Blk) (v : List (List D)) : AS :=
 { t := mkT 70 0 [(4, .ref (.vec 3 0)), (5, yu), (6, .ref (.ptr 1 0))], h := nuH c0 c1 c2 fs s v, m := [] }
def isNew (f : FactT) (l : List Int) : Bool := f.kind == 1 && (f.obj == 0 && (decide (f.sub ≥ 0) && decide (f.sub ≤ 4095) && !l.contains f.sub))
def nuF (many : Int) (f : FactT) (l : List Int) : List Int ⊕ List Int := if decide ((l.length : Int) ≥ many) = true then .inr l else .inl (bif isNew f l then l ++ [f.sub] else l)
theorem dG (l : List Int) (k : Nat) : ((bG l).all fun e => DS k e.1 && DS k e.2.1) = true := by simp [bG, DS]
theorem cV (l : List Int) (f : Ref → D) : (bG l).map (fun e => (Da f e.1, Da f e.2.1, e.2.2)) = bG l := by simp [bG, Da, Hd]
theorem aP {many : Int} {f : FactT} {l : List Int} (h : decide (((nuV l).length : Int) ≥ many) = true) : nuF many f l = .inr l := by
 rw [kF] at h; simp only [nuF, h, if_true]
theorem dH {many : Int} {f : FactT} {l : List Int} (h : decide (((nuV l).length : Int) ≥ many) = false) (hn : isNew f l = false) : nuF many f l = .inl l := by
 rw [kF] at h; simp [nuF, h, hn]
theorem dI {many : Int} {f : FactT} {l : List Int} (h : decide (((nuV l).length : Int) ≥ many) = false) (hn : isNew f l = true) : nuF many f l = .inl (l ++ [f.sub]) := by
 rw [kF] at h; simp [nuF, h, hn]
theorem qN {h : List Blk} {l : List Int} {c : Int} (hb : h[2]? = some (nE l)) : cj B7 h 152 (.ref (.mp 2)) (int c) false = some (bool (l.contains c)) := tM (kt := 3) (et := 4) (by kernel_rfl) (by kernel_rfl) (by kernel_rfl) hb
theorem qO {h : List Blk} {l : List Int} {c : Int} (hb : h[2]? = some (nE l)) (hn : (!l.contains c) = true) : cd B7 h 152 (.ref (.mp 2)) (int c) (bool true) = some (h.set 2 (nE (l ++ [c]))) := tN (kt := 3) (et := 4) (by kernel_rfl) (by kernel_rfl) hb (by simpa using hn)
noncomputable abbrev dl (c0 : List (List Dp)) (c1 : List (List Dp)) (c2 : List (List Dp)) (fs : List (List Dp)) (l : List Int) (f : FactT) : List Blk := [.var [ab c0, ab c1, ab c2, ab fs], .var [int 12, int 0, int 0], .map (bG l) (Cb l), .vec (nuV l) 0 1, .var [int f.kind, int f.sub, int f.obj, int f.value, int f.frm, int f.til, int f.known, int f.no]]
theorem Bi {c0 c1 c2 : List (List Dp)} {fs : List (List Dp)} {many : Int} {l : List Int} {i : Nat} {f : FactT} (hr : aH (i : Int) fs f.row 8) (hlt : decide ((i : Int) < (fs.length : Int)) = true) (hw : B8.wrap ((i : Int) + 1) = ((i + 1 : Nat) : Int)) (hl : l.length ≤ 70000)
  (hp : ∀ f, (nuV l).map (C6 f) = nuV l) (hi : ∀ k, (nuV l).all (CT k) = true) : (CW B7 Γ0 [] false (sub Hs 0) (nuS c0 c1 c2 fs many (nE l) (nuV l) i) (ad (fun l' => nuS c0 c1 c2 fs many (nE l') (nuV l') ((i + 1 : Nat) : Int)) (fun l => (.exit 0, nuE c0 c1 c2 fs many (nE l) (nuV l))) (nuF many f l)).1 (ad (fun l' => nuS c0 c1 c2 fs many (nE l') (nuV l') ((i + 1 : Nat) : Int)) (fun l => (.exit 0, nuE c0 c1 c2 fs many (nE l) (nuV l))) (nuF many f l)).2) := by
 cases hc0 : decide ((↑(Cb (nuV l)) : Int) ≥ many)
 ·cases hc1 : f.kind == 1
  ·let v0 := D.p (Dp.v (Dd { toList := [] }))
   refine Ct (Cu (s' := { t := mkT 70 0 [(4, .ref (.vec 3 0)), (5, nq), (6, .ref (.ptr 1 0)), (7, int many), (9, .ref (.mp 2)), (24, ab fs), (25, int (↑(Cb fs) : Int)), (26, int (Cc B8 ((↑i : Int) + 1)))], h := [.var [ab c0, ab c1, ab c2, ab fs], .var [int 12, int 0, int 0], .map (bG l) (Cb l), .vec (nuV l) 0 1], m := [] }) (e := Cq) pok [.st (.mask [4, 5, 6, 7, 9, 24, 25, 26]), .st (.ren 3 0), .st (.trim 4)] [.b true, .row [vi f.kind, vi f.sub, vi f.obj, vi f.value, vi f.frm, vi f.til, vi f.known, vi f.no], .b false, .g false, .g false, .g false, .g false, .ov 46 (bool false), .g false, .g false, .ov 50 (bool false), .g false, .g false, .g false, .g false, .ov 56 (bool false), .b false] (by kernel_rfl) (.c hlt (.c hr (.c hc0 (.c (show ((f.kind == 1) == true) = false from (by subst v0; rw [hc1]; rfl)) (.c (show ((f.kind == 1) == true) = false from (by subst v0; rw [hc1]; rfl)) (.c (show ((f.kind == 1) == true) = false from (by subst v0; rw [hc1]; rfl)) (.c (show ((f.kind == 1) == true) = false from (by subst v0; rw [hc1]; rfl)) (.c (show ae (bool (f.kind == 1)) v0 (bool false) (bool false) from (ai hc1 rfl)) (.c (show (false == true) = false from rfl) (.c (show (false == true) = false from rfl) (.c (show ae (bool false) v0 (bool false) (bool false) from (ai rfl rfl)) (.c (show (false == true) = false from rfl) (.c (show (false == true) = false from rfl) (.c (show (false == true) = false from rfl) (.c (show (false == true) = false from rfl) (.c (show ae (bool false) v0 (bool false) (bool false) from (ai rfl rfl)) (.c (show false = false from rfl) (.c (show B6 (C6 (aS 3 0 0)) (nuV l) = nuV l from ?_) (.c (show B6 (fun e => (Da (aS 3 0 0) e.fst, Da (aS 3 0 0) e.snd.fst, e.snd.snd)) (bG l) = bG l from ?_) (.c (show (Cx (bG l) fun e => DS 4 e.fst && DS 4 e.snd.fst) = true from ?_) (.c (show Cx (nuV l) (CT 4) = true from ?_) .n)))))))))))))))))))))) (by subst v0; first | (rw [aP hc0]; rfl) | (rw [aP hc0]; done) | (rw [dI hc0] <;> first | (simp only [isNew, hc1, Cs]; done) | (simp only [ad]; done) | (simp only [ad, hw, aF]; rfl)) | (rw [dH hc0] <;> first | (simp only [isNew, hc1, Cs]; done) | (simp only [ad]; done) | (simp only [ad, hw]; rfl))) (by subst v0; first | (rw [aP hc0]; rfl) | (rw [aP hc0]; done) | (rw [dI hc0] <;> first | (simp only [isNew, hc0, hc1, CO, CN, C3, Cw, Cs, cond_true, cond_false]; done) | (simp only [ad, hw]; done) | (simp only [ad, hw]; rfl)) | (rw [dH hc0] <;> first | (simp only [isNew, hc1, Cs]; done) | (simp only [ad, hw]; done) | (simp only [ad, hw]; rfl))) <;> subst v0 <;> (first | assumption | exact qN (l := l) rfl | exact qO (l := l) rfl (by assumption) | exact dG _ _ | exact cV _ _ | exact aV _ _ | exact aU _ _ | (rw [aF]; exact aV _ _) | (rw [aF]; exact aU _ _) | rfl | (simp [aO, Fa, CX, roomOk]; omega))
  ·cases hc2 : f.obj == 0
   ·refine Ct (Cu (s' := { t := mkT 70 0 [(4, .ref (.vec 3 0)), (5, nq), (6, .ref (.ptr 1 0)), (7, int many), (9, .ref (.mp 2)), (24, ab fs), (25, int (↑(Cb fs) : Int)), (26, int (Cc B8 ((↑i : Int) + 1)))], h := [.var [ab c0, ab c1, ab c2, ab fs], .var [int 12, int 0, int 0], .map (bG l) (Cb l), .vec (nuV l) 0 1], m := [] }) (e := Cq) pok [.st (.mask [4, 5, 6, 7, 9, 24, 25, 26]), .st (.ren 3 0), .st (.trim 4)] [.b true, .row [vi f.kind, vi f.sub, vi f.obj, vi f.value, vi f.frm, vi f.til, vi f.known, vi f.no], .b false, .g true, .g true, .g true, .g true, .ov 46 (bool (f.obj == 0)), .g false, .g false, .ov 50 (bool false), .g false, .g false, .g false, .g false, .ov 56 (bool false), .b false] (by kernel_rfl) (.c hlt (.c hr (.c hc0 (.c (show ((f.kind == 1) == true) = true from (by rw [hc1]; rfl)) (.c (show ((f.kind == 1) == true) = true from (by rw [hc1]; rfl)) (.c (show ((f.kind == 1) == true) = true from (by rw [hc1]; rfl)) (.c (show ((f.kind == 1) == true) = true from (by rw [hc1]; rfl)) (.c (show ae (bool (f.kind == 1)) (bool (f.obj == 0)) (bool false) (bool (f.obj == 0)) from (af hc1 rfl)) (.c (show ((f.obj == 0) == true) = false from (by rw [hc2]; rfl)) (.c (show ((f.obj == 0) == true) = false from (by rw [hc2]; rfl)) (.c (show ae (bool (f.obj == 0)) (D.p (Dp.v (Dd { toList := [] }))) (bool false) (bool false) from (ai hc2 rfl)) (.c (show (false == true) = false from rfl) (.c (show (false == true) = false from rfl) (.c (show (false == true) = false from rfl) (.c (show (false == true) = false from rfl) (.c (show ae (bool false) (D.p (Dp.v (Dd { toList := [] }))) (bool false) (bool false) from (ai rfl rfl)) (.c (show false = false from rfl) (.c (show B6 (C6 (aS 3 0 0)) (nuV l) = nuV l from ?_) (.c (show B6 (fun e => (Da (aS 3 0 0) e.fst, Da (aS 3 0 0) e.snd.fst, e.snd.snd)) (bG l) = bG l from ?_) (.c (show (Cx (bG l) fun e => DS 4 e.fst && DS 4 e.snd.fst) = true from ?_) (.c (show Cx (nuV l) (CT 4) = true from ?_) .n)))))))))))))))))))))) (by first | (rw [aP hc0]; rfl) | (rw [aP hc0]; done) | (rw [dI hc0] <;> first | (simp only [isNew, hc1, hc2, Cw, Cs]; done) | (simp only [ad]; done) | (simp only [ad, hw, aF]; rfl)) | (rw [dH hc0] <;> first | (simp only [isNew, hc1, hc2, Cw, Cs]; done) | (simp only [ad]; done) | (simp only [ad, hw]; rfl))) (by first | (rw [aP hc0]; rfl) | (rw [aP hc0]; done) | (rw [dI hc0] <;> first | (simp only [isNew, hc0, hc1, hc2, CO, CN, C3, Cw, Cs, cond_true, cond_false]; done) | (simp only [ad, hw]; done) | (simp only [ad, hw]; rfl)) | (rw [dH hc0] <;> first | (simp only [isNew, hc1, hc2, Cw, Cs]; done) | (simp only [ad, hw]; done) | (simp only [ad, hw]; rfl))) <;> (first | assumption | exact qN (l := l) rfl | exact qO (l := l) rfl (by assumption) | exact dG _ _ | exact cV _ _ | exact aV _ _ | exact aU _ _ | (rw [aF]; exact aV _ _) | (rw [aF]; exact aU _ _) | rfl | (simp [aO, Fa, CX, roomOk]; omega))
   ·cases hc3 : decide (f.sub ≥ 0) && decide (f.sub ≤ 4095)
    ·refine Ct (Cu (s' := { t := mkT 70 0 [(4, .ref (.vec 3 0)), (5, nq), (6, .ref (.ptr 1 0)), (7, int many), (9, .ref (.mp 2)), (24, ab fs), (25, int (↑(Cb fs) : Int)), (26, int (Cc B8 ((↑i : Int) + 1)))], h := [.var [ab c0, ab c1, ab c2, ab fs], .var [int 12, int 0, int 0], .map (bG l) (Cb l), .vec (nuV l) 0 1], m := [] }) (e := Cq) pok [.st (.mask [4, 5, 6, 7, 9, 24, 25, 26]), .st (.ren 3 0), .st (.trim 4)] [.b true, .row [vi f.kind, vi f.sub, vi f.obj, vi f.value, vi f.frm, vi f.til, vi f.known, vi f.no], .b false, .g true, .g true, .g true, .g true, .ov 46 (bool (f.obj == 0)), .g true, .g true, .val (bool (decide (f.sub ≥ 0) && decide (f.sub ≤ 4095))), .ov 50 (bool (decide (f.sub ≥ 0) && decide (f.sub ≤ 4095))), .g false, .g false, .g false, .g false, .ov 56 (bool false), .b false] (by kernel_rfl) (.c hlt (.c hr (.c hc0 (.c (show ((f.kind == 1) == true) = true from (by rw [hc1]; rfl)) (.c (show ((f.kind == 1) == true) = true from (by rw [hc1]; rfl)) (.c (show ((f.kind == 1) == true) = true from (by rw [hc1]; rfl)) (.c (show ((f.kind == 1) == true) = true from (by rw [hc1]; rfl)) (.c (show ae (bool (f.kind == 1)) (bool (f.obj == 0)) (bool false) (bool (f.obj == 0)) from (af hc1 rfl)) (.c (show ((f.obj == 0) == true) = true from (by rw [hc2]; rfl)) (.c (show ((f.obj == 0) == true) = true from (by rw [hc2]; rfl)) (.c (@gM (f.sub) 0 4095 (dl c0 c1 c2 fs l f)) (.c (show ae (bool (f.obj == 0)) (bool (decide (f.sub ≥ 0) && decide (f.sub ≤ 4095))) (bool false) (bool (decide (f.sub ≥ 0) && decide (f.sub ≤ 4095))) from (af hc2 rfl)) (.c (show ((decide (f.sub ≥ 0) && decide (f.sub ≤ 4095)) == true) = false from (by rw [hc3]; rfl)) (.c (show ((decide (f.sub ≥ 0) && decide (f.sub ≤ 4095)) == true) = false from (by rw [hc3]; rfl)) (.c (show ((decide (f.sub ≥ 0) && decide (f.sub ≤ 4095)) == true) = false from (by rw [hc3]; rfl)) (.c (show ((decide (f.sub ≥ 0) && decide (f.sub ≤ 4095)) == true) = false from (by rw [hc3]; rfl)) (.c (show ae (bool (decide (f.sub ≥ 0) && decide (f.sub ≤ 4095))) (D.p (Dp.v (Dd { toList := [] }))) (bool false) (bool false) from (ai hc3 rfl)) (.c (show false = false from rfl) (.c (show B6 (C6 (aS 3 0 0)) (nuV l) = nuV l from ?_) (.c (show B6 (fun e => (Da (aS 3 0 0) e.fst, Da (aS 3 0 0) e.snd.fst, e.snd.snd)) (bG l) = bG l from ?_) (.c (show (Cx (bG l) fun e => DS 4 e.fst && DS 4 e.snd.fst) = true from ?_) (.c (show Cx (nuV l) (CT 4) = true from ?_) .n))))))))))))))))))))))) (by first | (rw [aP hc0]; rfl) | (rw [aP hc0]; done) | (rw [dI hc0] <;> first | (simp only [isNew, hc1, hc2, hc3, Cw, Cs]; done) | (simp only [ad]; done) | (simp only [ad, hw, aF]; rfl)) | (rw [dH hc0] <;> first | (simp only [isNew, hc1, hc2, hc3, Cw, Cs]; done) | (simp only [ad]; done) | (simp only [ad, hw]; rfl))) (by first | (rw [aP hc0]; rfl) | (rw [aP hc0]; done) | (rw [dI hc0] <;> first | (simp only [isNew, hc0, hc1, hc2, hc3, CO, CN, C3, Cw, Cs, cond_true, cond_false]; done) | (simp only [ad, hw]; done) | (simp only [ad, hw]; rfl)) | (rw [dH hc0] <;> first | (simp only [isNew, hc1, hc2, hc3, Cw, Cs]; done) | (simp only [ad, hw]; done) | (simp only [ad, hw]; rfl))) <;> (first | assumption | exact qN (l := l) rfl | exact qO (l := l) rfl (by assumption) | exact dG _ _ | exact cV _ _ | exact aV _ _ | exact aU _ _ | (rw [aF]; exact aV _ _) | (rw [aF]; exact aU _ _) | rfl | (simp [aO, Fa, CX, roomOk]; omega))
    ·cases hc4 : !Dt l f.sub
     ·refine Ct (Cu (s' := { t := mkT 70 0 [(4, .ref (.vec 3 0)), (5, nq), (6, .ref (.ptr 1 0)), (7, int many), (9, .ref (.mp 2)), (24, ab fs), (25, int (↑(Cb fs) : Int)), (26, int (Cc B8 ((↑i : Int) + 1)))], h := [.var [ab c0, ab c1, ab c2, ab fs], .var [int 12, int 0, int 0], .map (bG l) (Cb l), .vec (nuV l) 0 1], m := [] }) (e := Cq) pok [.st (.mask [4, 5, 6, 7, 9, 24, 25, 26]), .st (.ren 3 0), .st (.trim 4)] [.b true, .row [vi f.kind, vi f.sub, vi f.obj, vi f.value, vi f.frm, vi f.til, vi f.known, vi f.no], .b false, .g true, .g true, .g true, .g true, .ov 46 (bool (f.obj == 0)), .g true, .g true, .val (bool (decide (f.sub ≥ 0) && decide (f.sub ≤ 4095))), .ov 50 (bool (decide (f.sub ≥ 0) && decide (f.sub ≤ 4095))), .g true, .g true, .g true, .ov 54 (bool (Dt l f.sub)), .g true, .ov 56 (bool !Dt l f.sub), .b false] (by kernel_rfl) (.c hlt (.c hr (.c hc0 (.c (show ((f.kind == 1) == true) = true from (by rw [hc1]; rfl)) (.c (show ((f.kind == 1) == true) = true from (by rw [hc1]; rfl)) (.c (show ((f.kind == 1) == true) = true from (by rw [hc1]; rfl)) (.c (show ((f.kind == 1) == true) = true from (by rw [hc1]; rfl)) (.c (show ae (bool (f.kind == 1)) (bool (f.obj == 0)) (bool false) (bool (f.obj == 0)) from (af hc1 rfl)) (.c (show ((f.obj == 0) == true) = true from (by rw [hc2]; rfl)) (.c (show ((f.obj == 0) == true) = true from (by rw [hc2]; rfl)) (.c (@gM (f.sub) 0 4095 (dl c0 c1 c2 fs l f)) (.c (show ae (bool (f.obj == 0)) (bool (decide (f.sub ≥ 0) && decide (f.sub ≤ 4095))) (bool false) (bool (decide (f.sub ≥ 0) && decide (f.sub ≤ 4095))) from (af hc2 rfl)) (.c (show ((decide (f.sub ≥ 0) && decide (f.sub ≤ 4095)) == true) = true from (by rw [hc3]; rfl)) (.c (show ((decide (f.sub ≥ 0) && decide (f.sub ≤ 4095)) == true) = true from (by rw [hc3]; rfl)) (.c (show ((decide (f.sub ≥ 0) && decide (f.sub ≤ 4095)) == true) = true from (by rw [hc3]; rfl)) (.c (show cj B7 (dl c0 c1 c2 fs l f) 152 (.ref (.mp 2)) (int f.sub) false = some (bool (Dt l f.sub)) from ?_) (.c (show ((decide (f.sub ≥ 0) && decide (f.sub ≤ 4095)) == true) = true from (by rw [hc3]; rfl)) (.c (show ae (bool (decide (f.sub ≥ 0) && decide (f.sub ≤ 4095))) (bool !Dt l f.sub) (bool false) (bool !Dt l f.sub) from (af hc3 rfl)) (.c hc4 (.c (show B6 (C6 (aS 3 0 0)) (nuV l) = nuV l from ?_) (.c (show B6 (fun e => (Da (aS 3 0 0) e.fst, Da (aS 3 0 0) e.snd.fst, e.snd.snd)) (bG l) = bG l from ?_) (.c (show (Cx (bG l) fun e => DS 4 e.fst && DS 4 e.snd.fst) = true from ?_) (.c (show Cx (nuV l) (CT 4) = true from ?_) .n)))))))))))))))))))))))) (by first | (rw [aP hc0]; rfl) | (rw [aP hc0]; done) | (rw [dI hc0] <;> first | (simp only [isNew, hc1, hc2, hc3, hc4, Cw]; done) | (simp only [ad]; done) | (simp only [ad, hw, aF]; rfl)) | (rw [dH hc0] <;> first | (simp only [isNew, hc1, hc2, hc3, hc4, Cw]; done) | (simp only [ad]; done) | (simp only [ad, hw]; rfl))) (by first | (rw [aP hc0]; rfl) | (rw [aP hc0]; done) | (rw [dI hc0] <;> first | (simp only [isNew, hc0, hc1, hc2, hc3, hc4, CO, CN, C3, Cw, Cs, cond_true, cond_false]; done) | (simp only [ad, hw]; done) | (simp only [ad, hw]; rfl)) | (rw [dH hc0] <;> first | (simp only [isNew, hc1, hc2, hc3, hc4, Cw]; done) | (simp only [ad, hw]; done) | (simp only [ad, hw]; rfl))) <;> (first | assumption | exact qN (l := l) rfl | exact qO (l := l) rfl (by assumption) | exact dG _ _ | exact cV _ _ | exact aV _ _ | exact aU _ _ | (rw [aF]; exact aV _ _) | (rw [aF]; exact aU _ _) | rfl | (simp [aO, Fa, CX, roomOk]; omega))
     ·let v0 : List D := [int f.kind, int f.sub, int f.obj, int f.value, int f.frm, int f.til, int f.known, int f.no]
      refine Ct (Cu (s' := { t := mkT 70 0 [(4, .ref (.vec 3 0)), (5, nq), (6, .ref (.ptr 1 0)), (7, int many), (9, .ref (.mp 2)), (24, ab fs), (25, int (↑(Cb fs) : Int)), (26, int (Cc B8 ((↑i : Int) + 1)))], h := [.var [ab c0, ab c1, ab c2, ab fs], .var [int 12, int 0, int 0], .map (bG (l ++ [f.sub])) (Cb (l ++ [f.sub])), .vec (nuV l ++ [[int f.sub]]) 0 1], m := [] }) (e := Cq) pok [.st (.mask [4, 5, 6, 7, 9, 24, 25, 26]), .st (.ren 3 0), .st (.trim 4)] [.b true, .row [vi f.kind, vi f.sub, vi f.obj, vi f.value, vi f.frm, vi f.til, vi f.known, vi f.no], .b false, .g true, .g true, .g true, .g true, .ov 46 (bool (f.obj == 0)), .g true, .g true, .val (bool (decide (f.sub ≥ 0) && decide (f.sub ≤ 4095))), .ov 50 (bool (decide (f.sub ≥ 0) && decide (f.sub ≤ 4095))), .g true, .g true, .g true, .ov 54 (bool (Dt l f.sub)), .g true, .ov 56 (bool !Dt l f.sub), .b true, .oh 10057 EB (nuH c0 c1 c2 fs (nE (l ++ [f.sub])) (nuV l) ++ [.var (B6 D.p (Ch f))])] (by kernel_rfl) (.c hlt (.c hr (.c hc0 (.c (show ((f.kind == 1) == true) = true from (by subst v0; rw [hc1]; rfl)) (.c (show ((f.kind == 1) == true) = true from (by subst v0; rw [hc1]; rfl)) (.c (show ((f.kind == 1) == true) = true from (by subst v0; rw [hc1]; rfl)) (.c (show ((f.kind == 1) == true) = true from (by subst v0; rw [hc1]; rfl)) (.c (show ae (bool (f.kind == 1)) (bool (f.obj == 0)) (bool false) (bool (f.obj == 0)) from (af hc1 rfl)) (.c (show ((f.obj == 0) == true) = true from (by subst v0; rw [hc2]; rfl)) (.c (show ((f.obj == 0) == true) = true from (by subst v0; rw [hc2]; rfl)) (.c (@gM (f.sub) 0 4095 (dl c0 c1 c2 fs l f)) (.c (show ae (bool (f.obj == 0)) (bool (decide (f.sub ≥ 0) && decide (f.sub ≤ 4095))) (bool false) (bool (decide (f.sub ≥ 0) && decide (f.sub ≤ 4095))) from (af hc2 rfl)) (.c (show ((decide (f.sub ≥ 0) && decide (f.sub ≤ 4095)) == true) = true from (by subst v0; rw [hc3]; rfl)) (.c (show ((decide (f.sub ≥ 0) && decide (f.sub ≤ 4095)) == true) = true from (by subst v0; rw [hc3]; rfl)) (.c (show ((decide (f.sub ≥ 0) && decide (f.sub ≤ 4095)) == true) = true from (by subst v0; rw [hc3]; rfl)) (.c (show cj B7 (dl c0 c1 c2 fs l f) 152 (.ref (.mp 2)) (int f.sub) false = some (bool (Dt l f.sub)) from ?_) (.c (show ((decide (f.sub ≥ 0) && decide (f.sub ≤ 4095)) == true) = true from (by subst v0; rw [hc3]; rfl)) (.c (show ae (bool (decide (f.sub ≥ 0) && decide (f.sub ≤ 4095))) (bool !Dt l f.sub) (bool false) (bool !Dt l f.sub) from (af hc3 rfl)) (.c hc4 (.c (show cd B7 (dl c0 c1 c2 fs l f) 152 (.ref (.mp 2)) (int f.sub) (evalD Γ0 (EB :: EB :: EB :: EB :: .ref (.vec 3 0) :: nq :: .ref (.ptr 1 0) :: int many :: EB :: .ref (.mp 2) :: EB :: .ref (.ptr 4 0) :: int f.sub :: EB :: EB :: EB :: EB :: EB :: EB :: EB :: EB :: EB :: EB :: EB :: ab fs :: int (↑(Cb fs) : Int) :: int (↑i : Int) :: bool (decide ((↑i : Int) < (↑(Cb fs) : Int))) :: D.ep [vi f.kind, vi f.sub, vi f.obj, vi f.value, vi f.frm, vi f.til, vi f.known, vi f.no] :: Db v0 :: .ref (.vec 3 0) :: int (↑(Cb (nuV l)) : Int) :: int many :: bool (decide ((↑(Cb (nuV l)) : Int) ≥ many)) :: .ref (.ptr 4 0) :: .ref (.ptr 4 1) :: int f.sub :: .ref (.ptr 4 0) :: .ref (.ptr 4 0) :: int f.kind :: bool (f.kind == 1) :: bool (f.kind == 1) :: .ref (.ptr 4 0) :: .ref (.ptr 4 2) :: int f.obj :: bool (f.obj == 0) :: bool (f.obj == 0) :: bool (f.obj == 0) :: mkT 22 0 [(0, int f.sub), (1, bool (decide (f.sub ≥ 0) && decide (f.sub ≤ 4095))), (2, bool (decide (f.sub ≥ 0) && decide (f.sub ≤ 4095))), (3, bool (decide (f.sub ≥ 0) && decide (f.sub ≤ 4095))), (4, .ref (.mp 2)), (5, int f.sub), (6, bool (Dt l f.sub)), (7, bool !Dt l f.sub), (8, bool !Dt l f.sub), (9, .ref (.mp 2)), (10, int f.sub)]) (Operand.const (Value.bool true))) = some [.var [ab c0, ab c1, ab c2, ab fs], .var [int 12, int 0, int 0], .map (bG (l ++ [f.sub])) (Cb (l ++ [f.sub])), .vec (nuV l) 0 1, .var v0] from ?_) (.c (show (Cx [[int f.sub]] (aO 1) && roomOk (Cb (nuV l) + Cb [[int f.sub]]) 8) = true from ?_) (.c (show B6 (C6 (aS 3 1 0)) (nuV l ++ [[int f.sub]]) = nuV l ++ [[int f.sub]] from ?_) (.c (show B6 (fun e => (Da (aS 3 1 0) e.fst, Da (aS 3 1 0) e.snd.fst, e.snd.snd)) (bG (l ++ [f.sub])) = bG (l ++ [f.sub]) from ?_) (.c (show [[int f.sub]] = [[int f.sub]] from rfl) (.c (show (Cx (bG (l ++ [f.sub])) fun e => DS 4 e.fst && DS 4 e.snd.fst) = true from ?_) (.c (show Cx (nuV l ++ [[int f.sub]]) (CT 4) = true from ?_) .n))))))))))))))))))))))))))) (by subst v0; first | (rw [aP hc0]; rfl) | (rw [aP hc0]; done) | (rw [dI hc0] <;> first | (simp only [isNew, hc1, hc2, hc3, hc4, CO]; done) | (simp only [ad]; done) | (simp only [ad, hw, aF]; rfl)) | (rw [dH hc0] <;> first | (simp only [isNew, hc0, hc1, hc2, hc3, hc4, CO, CN, C3, Cw, Cs, cond_true, cond_false]; done) | (simp only [ad, hw]; done) | (simp only [ad, hw]; rfl))) (by subst v0; first | (rw [aP hc0]; rfl) | (rw [aP hc0]; done) | (rw [dI hc0] <;> first | (simp only [isNew, hc1, hc2, hc3, hc4, CO]; done) | (simp only [ad, hw, aF]; done) | (simp only [ad, hw, aF]; rfl)) | (rw [dH hc0] <;> first | (simp only [isNew, hc0, hc1, hc2, hc3, hc4, CO, CN, C3, Cw, Cs, cond_true, cond_false]; done) | (simp only [ad, hw]; done) | (simp only [ad, hw]; rfl))) <;> subst v0 <;> (first | assumption | exact qN (l := l) rfl | exact qO (l := l) rfl (by assumption) | exact dG _ _ | exact cV _ _ | exact aV _ _ | exact aU _ _ | (rw [aF]; exact aV _ _) | (rw [aF]; exact aU _ _) | rfl | (simp [aO, Fa, CX, roomOk]; omega))
 ·refine Ct (Cu (s' := { t := mkT 70 0 [(4, .ref (.vec 3 0)), (5, nq), (6, .ref (.ptr 1 0))], h := [.var [ab c0, ab c1, ab c2, ab fs], .var [int 12, int 0, int 0], .map (bG l) (Cb l), .vec (nuV l) 0 1], m := [] }) (e := CE 0) pok [.st (.mask [4, 5, 6]), .st (.trim 4)] [.b true, .row [vi f.kind, vi f.sub, vi f.obj, vi f.value, vi f.frm, vi f.til, vi f.known, vi f.no], .b true] (by kernel_rfl) (.c hlt (.c hr (.c hc0 (.c (show (Cx (bG l) fun e => DS 4 e.fst && DS 4 e.snd.fst) = true from (by first | assumption | exact qN (l := l) rfl | exact qO (l := l) rfl (by assumption) | exact dG _ _ | exact cV _ _ | exact aV _ _ | exact aU _ _ | (rw [aF]; exact aV _ _) | (rw [aF]; exact aU _ _) | rfl | (simp [aO, Fa, CX, roomOk]; omega))) (.c (show Cx (nuV l) (CT 4) = true from (by first | assumption | exact qN (l := l) rfl | exact qO (l := l) rfl (by assumption) | exact dG _ _ | exact cV _ _ | exact aV _ _ | exact aU _ _ | (rw [aF]; exact aV _ _) | (rw [aF]; exact aU _ _) | rfl | (simp [aO, Fa, CX, roomOk]; omega))) .n)))))) ?_ ?_ <;> (first | (rw [aP hc0]; rfl) | (rw [aP hc0]; done) | (rw [dI hc0] <;> first | (simp only [isNew, hc0, CO, CN, C3, Cw, Cs, cond_true, cond_false]; done) | (simp only [ad, hw, aF]; done) | (simp only [ad, hw, aF]; rfl)) | (rw [dH hc0] <;> first | (simp only [isNew, hc0, CO, CN, C3, Cw, Cs, cond_true, cond_false]; done) | (simp only [ad, hw]; done) | (simp only [ad, hw]; rfl)))
theorem Bj {c0 c1 c2 : List (List Dp)} {fs : List (List Dp)} {many : Int} {s : Blk} {v : List (List D)} {i : Nat} (hlt : decide ((i : Int) < (fs.length : Int)) = false) : (CW B7 Γ0 [] false (sub Hs 0) (nuS c0 c1 c2 fs many s v i) (.exit 0) (nuE c0 c1 c2 fs many s v)) := by
 exact Ct (Cu (s' := { t := mkT 70 0 [(4, .ref (.vec 3 0)), (5, nq), (6, .ref (.ptr 1 0))], h := [.var [ab c0, ab c1, ab c2, ab fs], .var [int 12, int 0, int 0], s, .vec v 0 1], m := [] }) (e := CE 0) pok [.st (.mask [4, 5, 6])] [.b false] (by kernel_rfl) (.c hlt .n)) (by rfl) (by rfl)
def nuG (r : List Int ⊕ List Int) : List Int := match r with | .inl l => l | .inr l => l
theorem qP {many : Int} {f : FactT} {l l' : List Int} (h : nuF many f l = .inl l') : l'.length ≤ l.length + 1 := by
 unfold nuF at h
 split at h
 ·simp at h
 ·simp at h; subst h
  cases isNew f l <;> simp
theorem nu_cw {c0 c1 c2 : List (List Dp)} {many : Int} {fs : List FactT} (hf : fs.length ≤ 69000) :
  CW B7 Γ0 [] false (.loop (sub Hs 0)) (nuS c0 c1 c2 (fs.map Ch) many (nE []) (nuV []) 0) (.exit 0) (nuE c0 c1 c2 (fs.map Ch) many (nE (nuG (forL (nuF many) fs []))) (nuV (nuG (forL (nuF many) fs [])))) := by
 have := CW.each (P := B7) (Γ := Γ0) (h0 := []) (rd := false) (c := sub Hs 0) fs (nuF many) (fun i l => nuS c0 c1 c2 (fs.map Ch) many (nE l) (nuV l) (i : Int)) (.exit 0) (fun l => nuE c0 c1 c2 (fs.map Ch) many (nE l) (nuV l)) (fun l => (.exit 0, nuE c0 c1 c2 (fs.map Ch) many (nE l) (nuV l)))
  (fun i l => l.length ≤ i) (by simp) (by simp) ?_ ?_ [] (by simp)
 ·cases h : forL (nuF many) fs [] <;> rw [h] at this <;> exact this
 ·intro i f l hfi hl
  have hi := (List.getElem?_eq_some_iff.1 hfi).1
  refine ⟨fun l' h => ?_, Bi (rowAt hfi rfl) (lt_len _ hi) (wrap_succ hi (by omega)) (by omega) (aU l) (aV l)⟩
  have := qP h
  omega
 ·intro l hl
  exact Bj (bM _ fs)
theorem zH (l : List Int) : nuV l = (l.map fun n => [vi n]).map (B6 D.p) := by simp [nuV]
theorem yv {x0 x1 x2 : Blk} {l : List Int} (hl : l.length < 4611686018427387904) : Ev B7 Γ0 88 [.ref (.vec 3 0)] [x0, x1, x2, .vec (nuV l) 0 1] (.tup []) [x0, x1, x2, .vec (nuV (l.mergeSort fun x y => decide (x ≤ y))) 0 1] :=
 tL (h := [x0, x1, x2, .vec (nuV l) 0 1]) (b := 3) rfl hl
theorem eK {many : Int} : ∀ (fs : List FactT) (l : List Int), (nuG (forL (nuF many) fs l)).length ≤ l.length + fs.length
 | [], l => by simp [forL, nuG]
 | f :: fs, l => by
  simp only [forL]
  cases h : nuF many f l with
  | inl l' =>
   have := qP h
   have := eK (many := many) fs l'
   simp only [Di]; omega
  | inr l' =>
   have : l' = l := by
    unfold nuF at h; split at h
    ·simp at h; exact h.symm
    ·simp at h
   subst this
   simp only [nuG]; omega
theorem yw {many : Int} {fs : List FactT} (hf : fs.length ≤ 69000) : (nuG (forL (nuF many) fs [])).length < 4611686018427387904 := by
 have := eK (many := many) fs []
 simp at this; omega
def cY (many : Int) (fs : List FactT) : List Int := nuG (forL (nuF many) fs [])
def wg (fs : List FactT) (known : Int) : Int := (atR 12 0 0 0 known fs).1
def aj (fs : List FactT) (known : Int) : List Int := (cY (wg fs known) fs).mergeSort fun x y => decide (x ≤ y)
noncomputable abbrev nuB (c0 c1 c2 : List (List Dp)) (fs : List FactT) (known : Int) (r : Blk) : List Blk := [.var [ab c0, ab c1, ab c2, ab (fs.map Ch)], .var [int 12, int 0, int 0], nE (nuG (forL (nuF (atR 12 0 0 0 known fs).1) fs [])), .gone, r]
noncomputable abbrev pt (c0 : List (List Dp)) (c1 : List (List Dp)) (c2 : List (List Dp)) (fs : List FactT) (known : Int) : List Blk := [.var [ab c0, ab c1, ab c2, ab (B6 Ch fs)], .var [int 12, int 0, int 0], .map (bG (nuG (forL (nuF (atR 12 0 0 0 known fs).fst) fs []))) (Cb (nuG (forL (nuF (atR 12 0 0 0 known fs).fst) fs []))), .vec (nuV (nuG (forL (nuF (atR 12 0 0 0 known fs).fst) fs []))) 0 1]
noncomputable abbrev pu (c0 : List (List Dp)) (c1 : List (List Dp)) (c2 : List (List Dp)) (fs : List FactT) : List Blk := [.var [ab c0, ab c1, ab c2, ab (B6 Ch fs)], .var [int 12, int 0, int 0]]
theorem wh {c0 c1 c2 : List (List Dp)} {fs : List FactT} (hf : fs.length ≤ 69000) (hs : am fs) {known : Int} : (Ev B7 Γ0 34 [.agg [ab c0, ab c1, ab c2, ab (fs.map Ch)], int known] [] (.tup [ab ((aj fs known).map fun n => [vi n]), .ref (.vec 4 0)]) (nuB c0 c1 c2 fs known (.vec [[int 12, int 0, int 0, int 0, int 1]] 0 5))) := by
 have hl0 := (@nu_cw (c0) (c1) (c2) ((atR 12 0 0 0 known fs).fst) (fs) (hf))
 let v0 := Cb (nuG (forL (nuF (atR 12 0 0 0 known fs).fst) fs []))
 let v1 : List D := [ab c0, ab c1, ab c2, ab (B6 Ch fs)]
 refine Cj (Ev.of_sym (h' := [.var v1, .var [int 12, int 0, int 0], .map (bG (nuG (forL (nuF (atR 12 0 0 0 known fs).fst) fs []))) v0, .gone, .vec [[int 12, int 0, int 0, int 0, int 1]] 0 5]) (d := DC [ab (B6 (fun n => [vi n]) (aj fs known)), .ref (.vec 4 0)]) pok [.val (DC [int (atR 12 0 0 0 known fs).fst, bool (atR 12 0 0 0 known fs).snd]), .nx 2, .st (.nilT 4 1), .sum [4, 5, 6, 7, 9, 24, 25, 26] (CE 0) { t := mkT 70 0 [(4, .ref (.vec 3 0)), (5, nq), (6, .ref (.ptr 1 0))], h := (pt c0 c1 c2 fs known), m := [] }, .call (DC []) [.var v1, .var [int 12, int 0, int 0], .map (bG (nuG (forL (nuF (atR 12 0 0 0 known fs).fst) fs []))) v0, .vec (nuV (He (nuG (forL (nuF (atR 12 0 0 0 known fs).fst) fs [])) fun x y => decide (x ≤ y))) 0 1], .st (.frz 3 (B6 (fun n => [vi n]) (aj fs known)))] (by kernel_rfl) (.c (@at_ev 12 0 0 0 known fs hs (pu c0 c1 c2 fs)) (.c hl0 (.c (@yv (.var v1) (.var [int 12, int 0, int 0]) (.map (bG (nuG (forL (nuF (atR 12 0 0 0 known fs).fst) fs []))) v0) (nuG (forL (nuF (atR 12 0 0 0 known fs).fst) fs [])) ?_) (.c (show nuV (He (nuG (forL (nuF (atR 12 0 0 0 known fs).fst) fs [])) fun x y => decide (x ≤ y)) = B6 (fun x => B6 D.p x) (B6 (fun n => [vi n]) (aj fs known)) from ?_) (.c (show B6 (fun e => (Da (qi 3 0 (B6 (fun n => [vi n]) (aj fs known))) e.fst, Da (qi 3 0 (B6 (fun n => [vi n]) (aj fs known))) e.snd.fst, e.snd.snd)) (bG (nuG (forL (nuF (atR 12 0 0 0 known fs).fst) fs []))) = bG (nuG (forL (nuF (atR 12 0 0 0 known fs).fst) fs [])) from ?_) (.e (Db [int 12, int 0, int 0]) .n))))))) (by rfl) (by rfl) <;> subst v0 v1 <;> (first | assumption | exact yw hf | exact cV _ _ | exact zH _)
theorem wi {c0 c1 c2 : List (List Dp)} {fs : List FactT} (hf : fs.length ≤ 69000) (hs : am fs) {known : Int} : Ev B7 Γ0 34 [.agg [ab c0, ab c1, ab c2, ab (fs.map Ch)], int known] [] (.tup [ab ((aj fs known).map fun n => [vi n]), .ref (.vec 0 0)]) [.vec [[int 12, int 0, int 0, int 0, int 1]] 0 5] :=
 Cj ((wh (c0 := c0) (c1 := c1) (c2 := c2) (known := known) hf hs).keepB [4] (by kernel_rfl) ⟨rfl, trivial⟩) (by kernel_rfl) (by kernel_rfl)
theorem qQ {c0 c1 c2 : List (List Dp)} {fs : List FactT} (hf : fs.length ≤ 69000) (hs : am fs) {known : Int} (h : List Blk) : Ev B7 Γ0 34 [.agg [ab c0, ab c1, ab c2, ab (fs.map Ch)], int known] h (.tup [ab ((aj fs known).map fun n => [vi n]), .ref (.vec h.length 0)]) (h ++ [.vec [[int 12, int 0, int 0, int 0, int 1]] 0 5]) :=
 (wi (c0 := c0) (c1 := c1) (c2 := c2) (known := known) hf hs).frameN (by kernel_rfl) rfl h
end Go.Vi
