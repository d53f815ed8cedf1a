/- RecordAlike: part of the proof: contracts of the functions that the law reaches, and the law. No conditions beyond the given statement's own. -/
import Derived.Test.YtilebidefogaiaaGreatDoorW1
import Derived.Shelf.Slices.In.SortAlone
import Derived.Shelf.Slices.In.SortNone
import Derived.Sort.EveryDepth
open Go.Vi.RuleT renaming fl → DC, bad → HG
open Go.Proofs.Tryz renaming prog → Du, f34 → IR, f159 → D2
open Go.Vi.Ev renaming castH → DI, glob0 → D7, frameX → F2
open Go.Vi.SysT renaming row → DJ
open Go.Vi.FactT renaming row → DE
open List renaming getElem?_eq_getElem → DT, getD → D9, map → Dt, length → Dw, map_cons → EH, flatten_cons → EC, cons_append → GZ, ext_getElem? → Gf, getElem?_append_left → DP, getElem?_append_right → Ep, idxOf?_eq_none_iff → GV, all → FC, contains → EF, getElem?_eq_some_iff → DA, mergeSort → EK, flatten → DK, mem_map → D3, set → Gg
open Int renaming toNat → DN
open Go.IntKind renaming i64 → Dz, wrap → DG
open Go.Vi.D renaming tup → Es, agg → EB, fn → EO, mapRL → El, mapR → DR, innL → FP, inn → Fv, one → GO, any → EN, grd → Gx
open Go.Vi.Dp renaming sl → Hx
open Go.Fn renaming func → DW
open Go.Value renaming int → F5, tuple → Gd, oneCell' → Ez
open Array renaming getElem?_eq_some_iff → Fo, getElem?_modify → Gi
open Go.Sort renaming grow → Hb, putRow → Fj, ahead → Fs, putCells → FK, heap_grow_old → GS, mapBlock → Fi
open Nat renaming le_of_not_lt → FZ
open Function renaming comp_def → IA
open Go.Vi.CW renaming cast → DU, symX → DV
open Go.Exit renaming normal → DQ, exit → Ea
open Bool renaming false_and → Ex, and_self → Fe, true_and → E5, and_true → FR, and_false → ED
open Go.Operand renaming const → H6
open Go.LoopState renaming busy → Fb
open Option renaming some → FG
open Go Go.Proofs
namespace Go.Vi
set_option maxRecDepth 100000
set_option maxHeartbeats 4000000
structure CourseT where
 name : ByteArray
 number : Int
 credits : Int
 rep : Int
 need : RuleT
 bar : RuleT
def CourseT.row (c : CourseT) : List Dp := [vs c.name, vi c.number, vi c.credits, vi c.rep,
 vi c.need.fl.op, vi c.need.fl.c, vs c.need.fl.nm, vi c.need.fl.n, vi c.need.fl.d, .sl c.need.fl.ks, vi c.bar.fl.op, vi c.bar.fl.c, vs c.bar.fl.nm, vi c.bar.fl.n, vi c.bar.fl.d, .sl c.bar.fl.ks]
def CourseT.ok (c : CourseT) : Prop := c.need.ok ∧ c.bar.ok
def el (c : CourseT) : Bool := inB c.number 0 4095 && inB c.credits 1 60 && inB c.rep 0 2 && (dN c.need.bad == 0) && (dN c.bar.bad == 0)
noncomputable abbrev cE (c : CourseT) : List Blk := [.var [aA c.name, int c.number, int c.credits, int c.rep, int (DC c.need).op, int (DC c.need).c, aA (DC c.need).nm, int (DC c.need).n, int (DC c.need).d, ab (DC c.need).ks, int (DC c.bar).op, int (DC c.bar).c, aA (DC c.bar).nm, int (DC c.bar).n, int (DC c.bar).d, ab (DC c.bar).ks]]
theorem ux {c : CourseT} (hc : c.ok) (h : List Blk) : (Ev Du Γk 198 [ag c.row] h (bool (el c)) h) := by
 refine DI (Ev.sym0 (d := bool (decide (c.number ≥ 0) && decide (c.number ≤ 4095) && (decide (c.credits ≥ 1) && decide (c.credits ≤ 60)) && (decide (c.rep ≥ 0) && decide (c.rep ≤ 2)) && dN (HG c.need) == 0 && dN (HG c.bar) == 0)) pok [.val (bool (decide (c.number ≥ 0) && decide (c.number ≤ 4095))), .val (bool (decide (c.credits ≥ 1) && decide (c.credits ≤ 60))), .val (bool (decide (c.rep ≥ 0) && decide (c.rep ≤ 2))), .val (int (dN (HG c.need))), .val (int (dN (HG c.bar)))] (by kernel_rfl) (.c (D7 (Γ' := Γk) (@eD (c.number) 0 4095 (cE c))) (.c (gd (decide (c.number ≥ 0) && decide (c.number ≤ 4095)) (D7 (Γ' := Γk) (@eD (c.credits) 1 60 (cE c)))) (.c (gd (decide (c.number ≥ 0) && decide (c.number ≤ 4095) && (decide (c.credits ≥ 1) && decide (c.credits ≤ 60))) (D7 (Γ' := Γk) (@eD (c.rep) 0 2 (cE c)))) (.c (gd (decide (c.number ≥ 0) && decide (c.number ≤ 4095) && (decide (c.credits ≥ 1) && decide (c.credits ≤ 60)) && (decide (c.rep ≥ 0) && decide (c.rep ≤ 2))) (@hZ (c.need) ?_ (cE c))) (.c (gd (decide (c.number ≥ 0) && decide (c.number ≤ 4095) && (decide (c.credits ≥ 1) && decide (c.credits ≤ 60)) && (decide (c.rep ≥ 0) && decide (c.rep ≤ 2)) && dN (HG c.need) == 0) (@hZ (c.bar) ?_ (cE c))) .n))))) rfl rfl h) (by rfl) (by rfl) <;> (first | assumption | exact hc.1 | exact hc.2)
noncomputable abbrev rR (c : CourseT) (n : Int) : List Blk := [.var [int n], .var [aA c.name, int c.number, int c.credits, int c.rep, int (DC c.need).op, int (DC c.need).c, aA (DC c.need).nm, int (DC c.need).n, int (DC c.need).d, ab (DC c.need).ks, int (DC c.bar).op, int (DC c.bar).c, aA (DC c.bar).nm, int (DC c.bar).n, int (DC c.bar).d, ab (DC c.bar).ks]]
theorem tn {c : CourseT} (hc : c.ok) {n : Int} : (Ev Du Γk 197 [ag c.row, .ref (.ptr 0 0)] [.var [int n]] (bool (c.number == n && el c)) [.var [int n]]) := by
 exact DI (Ev.symT (h' := [.var [int n]]) (d := bool (c.number == n && el c)) pok [.val (bool (el c))] (by kernel_rfl) (.c (gd (c.number == n) (@ux c hc (rR c n))) .n)) (by rfl) (by rfl)
structure WorldT where
 c : List CourseT
 p : List (List Dp)
 s : List SysT
 f : List FactT
def WorldT.l (w : WorldT) : List D := [ab (w.c.map CourseT.row), ab w.p, ab (w.s.map DJ), ab (w.f.map DE)]
abbrev atA (w : WorldT) (kk ks ko term known : Int) : List D := [ab (w.f.map DE), .agg [int kk, int ks, int ko], int term, int known]
abbrev yT (kk ks ko a b : Int) : List (List Dp) := [[vi kk, vi ks, vi ko, vi a, vi b]]
theorem bk {α : Type} [Inhabited α] {row : α → List Dp} {l : List α} {v : Int} {sz : Nat} (hs : ∀ x, (row x).length = sz) (h0 : 0 ≤ v) (h1 : v < (l.length : Int)) : aM v (l.map row) (row (l.getD v.toNat default)) sz := by
 obtain ⟨n, rfl⟩ : ∃ n : Nat, v = n := ⟨v.toNat, by omega⟩
 have hn : n < l.length := by omega
 have hx : l[n]? = some l[n] := DT hn
 have : l.getD (DN (n : Int)) default = l[n] := by simp [D9, hx]
 rw [this]
 exact rowAt hx (hs _)
def i8 {α : Type} [Inhabited α] (l : List α) (valid : α → Bool) (p : Int × Bool) : Bool := !p.2 || decide (p.1 < 0) || decide (p.1 ≥ (l.length : Int)) || !valid (l.getD p.1.toNat default)
def qi {α : Type} [Inhabited α] (l : List α) (valid : α → Bool) (z : α) (p : Int × Bool) : α × Bool := match i8 l valid p with
 | true => (z, false)
 | false => (l.getD p.1.toNat default, true)
structure WorldT.ok (w : WorldT) : Prop where
 c : ∀ x ∈ w.c, x.ok
 s : ∀ x ∈ w.s, x.ok
 lf : w.f.length ≤ 69000
 lc : aj w.c
 ls : aj w.s
 i : ∀ f ∈ w.f, f.ok
theorem WorldT.ok.sf {w : WorldT} (h : w.ok) : aj w.f := by have := h.lf; unfold aj; omega
def outB (term : Int) : Bool := !(decide (term ≥ 0) && decide (term ≤ 1023))
def lg (kk ks ko term : Int) : List (List Dp) := match outB term with
 | true => []
 | false => yT kk ks ko term (Dz.wrap (term + 1))
def RuleT.zero : RuleT := .mk 0 0 ⟨#[]⟩ 0 0 []
def CourseT.zero : CourseT := ⟨⟨#[]⟩, 0, 0, 0, RuleT.zero, RuleT.zero⟩
instance : Inhabited CourseT := ⟨CourseT.zero⟩
theorem CourseT.zero_ok : CourseT.zero.ok := by
 have : RuleT.zero.ok := ⟨by unfold I64 aj; simp, trivial⟩
 exact ⟨this, this⟩
theorem i9 {l : List CourseT} (h : ∀ x ∈ l, x.ok) (n : Nat) : (l.getD n default).ok := by
 rcases Nat.lt_or_ge n l.length with hn | hn
 ·rw [D9, DT hn]; exact h _ (List.getElem_mem hn)
 ·rw [D9, List.getElem?_eq_none hn]; exact CourseT.zero_ok
abbrev crsZ : D := ag CourseT.zero.row
def cm (n : Int) (c : CourseT) : Bool := c.number == n && el c
noncomputable abbrev lc0_x0 (w : WorldT) (n : Int) : List Blk := [.var [int n], .var [ab (Dt CourseT.row w.c), ab w.p, ab (Dt DJ w.s), ab (Dt DE w.f)], .var [int 1, int n, int 0], .var [aA { data := #[] }, int 0, int 0, int 0, int 0, int 0, aA { data := #[] }, int 0, int 0, nq, int 0, int 0, aA { data := #[] }, int 0, int 0, nq]]
theorem lc0 {w : WorldT} {n term known : Int} (ht : (!(decide (term ≥ 0) && decide (term ≤ 1023))) = true) : (Ev Du Γk 199 [.agg w.l, ab (w.c.map CourseT.row), .agg [int 1, int n, int 0], int term, int known, .fn (.func 197) [] [.ref (.ptr 0 0)]] [.var [int n]] (.tup [crsZ, ab [], bool false]) [.var [int n]]) := by
 exact DI (Ev.nilW (Ev.symT (h' := [.var [int n]]) (d := Es [EB [aA { data := #[] }, int 0, int 0, int 0, int 0, int 0, aA { data := #[] }, int 0, int 0, nq, int 0, int 0, aA { data := #[] }, int 0, int 0, nq], nq, bool false]) pok [.val (bool (decide (term ≥ 0) && decide (term ≤ 1023))), .b true] (by kernel_rfl) (.c (D7 (Γ' := Γk) (@eD term 0 1023 (lc0_x0 w n))) (.c ht .n)))) (by rfl) (by rfl)
noncomputable abbrev tp (w : WorldT) (v : Int) : List D := [EB [aA (D9 w.c (DN v) default).name, int (D9 w.c (DN v) default).number, int (D9 w.c (DN v) default).credits, int (D9 w.c (DN v) default).rep, int (DC (D9 w.c (DN v) default).need).op, int (DC (D9 w.c (DN v) default).need).c, aA (DC (D9 w.c (DN v) default).need).nm, int (DC (D9 w.c (DN v) default).need).n, int (DC (D9 w.c (DN v) default).need).d, ab (DC (D9 w.c (DN v) default).need).ks, int (DC (D9 w.c (DN v) default).bar).op, int (DC (D9 w.c (DN v) default).bar).c, aA (DC (D9 w.c (DN v) default).bar).nm, int (DC (D9 w.c (DN v) default).bar).n, int (DC (D9 w.c (DN v) default).bar).d, ab (DC (D9 w.c (DN v) default).bar).ks], .ref (.ptr 0 0)]
noncomputable abbrev jx (w : WorldT) (n : Int) : List Blk := [.var [int n], .var [ab (Dt CourseT.row w.c), ab w.p, ab (Dt DJ w.s), ab (Dt DE w.f)], .var [int 1, int n, int 0], .var [aA { data := #[] }, int 0, int 0, int 0, int 0, int 0, aA { data := #[] }, int 0, int 0, nq, int 0, int 0, aA { data := #[] }, int 0, int 0, nq], .gone]
noncomputable abbrev Ai (w : WorldT) (n : Int) : List Blk := [.var [int n], .var [ab (Dt CourseT.row w.c), ab w.p, ab (Dt DJ w.s), ab (Dt DE w.f)], .var [int 1, int n, int 0], .var [aA { data := #[] }, int 0, int 0, int 0, int 0, int 0, aA { data := #[] }, int 0, int 0, nq, int 0, int 0, aA { data := #[] }, int 0, int 0, nq]]
theorem lc1 {w : WorldT} {n term known v : Int} {b : Bool} (ht : (!(decide (term ≥ 0) && decide (term ≤ 1023))) = false) (hat : ∀ h, Ev Du Γk 86 (atA w 1 n 0 term known) h (.tup [int v, bool b]) h) (hs : ∀ x ∈ w.c, x.ok) : (Ev Du Γk 199 [.agg w.l, ab (w.c.map CourseT.row), .agg [int 1, int n, int 0], int term, int known, .fn (.func 197) [] [.ref (.ptr 0 0)]] [.var [int n]] (.tup [ag (qi w.c (cm n) CourseT.zero (v, b)).1.row, ab (yT 1 n 0 term (Dz.wrap (term + 1))), bool (qi w.c (cm n) CourseT.zero (v, b)).2]) [.var [int n]]) := by
 cases hc0 : !b || decide (v < 0) || decide (v ≥ (↑(Dw (Dt CourseT.row w.c)) : Int)) || !((D9 w.c (DN v) default).number == n && el (D9 w.c (DN v) default))
 ·let v0 := D9 w.c (DN v) default
  let v1 := Dt CourseT.row w.c
  let v2 : List D := [int 1, int n, int 0, int term, int (DG Dz (term + 1))]
  refine DI (Ev.nilW (Ev.symT (h' := [.var [int n]]) (d := Es [EB [aA v0.name, int v0.number, int v0.credits, int v0.rep, int (DC v0.need).op, int (DC v0.need).c, aA (DC v0.need).nm, int (DC v0.need).n, int (DC v0.need).d, ab (DC v0.need).ks, int (DC v0.bar).op, int (DC v0.bar).c, aA (DC v0.bar).nm, int (DC v0.bar).n, int (DC v0.bar).d, ab (DC v0.bar).ks], ab [[vi 1, vi n, vi 0, vi term, vi (DG Dz (term + 1))]], bool true]) pok [.val (bool (decide (term ≥ 0) && decide (term ≤ 1023))), .b false, .nx 1, .st (.frz 4 (yT 1 n 0 term (DG Dz (term + 1)))), .val (Es [int v, bool b]), .row [vs v0.name, vi v0.number, vi v0.credits, vi v0.rep, vi (DC v0.need).op, vi (DC v0.need).c, vs (DC v0.need).nm, vi (DC v0.need).n, vi (DC v0.need).d, Hx (DC v0.need).ks, vi (DC v0.bar).op, vi (DC v0.bar).c, vs (DC v0.bar).nm, vi (DC v0.bar).n, vi (DC v0.bar).d, Hx (DC v0.bar).ks], .val (bool (v0.number == n && el v0)), .b false, .row [vs v0.name, vi v0.number, vi v0.credits, vi v0.rep, vi (DC v0.need).op, vi (DC v0.need).c, vs (DC v0.need).nm, vi (DC v0.need).n, vi (DC v0.need).d, Hx (DC v0.need).ks, vi (DC v0.bar).op, vi (DC v0.bar).c, vs (DC v0.bar).nm, vi (DC v0.bar).n, vi (DC v0.bar).d, Hx (DC v0.bar).ks]] (by kernel_rfl) (.c (D7 (Γ' := Γk) (@eD term 0 1023 (Ai w n))) (.c ht (.c (show [v2] = [v2] from rfl) (.c (@hat (jx w n)) (.c (show (!(!b || decide (v < 0) || decide (v ≥ (↑(Dw v1) : Int)))) = true → aM v v1 [vs v0.name, vi v0.number, vi v0.credits, vi v0.rep, vi (DC v0.need).op, vi (DC v0.need).c, vs (DC v0.need).nm, vi (DC v0.need).n, vi (DC v0.need).d, Hx (DC v0.need).ks, vi (DC v0.bar).op, vi (DC v0.bar).c, vs (DC v0.bar).nm, vi (DC v0.bar).n, vi (DC v0.bar).d, Hx (DC v0.bar).ks] 16 from (fun hg => ?_)) (.c (show (!(!b || decide (v < 0) || decide (v ≥ (↑(Dw v1) : Int)))) = true → Ev Du Γk 197 (tp w v) (jx w n) (bool (v0.number == n && el v0)) (jx w n) from (fun hg => (DI (F2 (args := (tp w v)) (H := (jx w n)) [0] (@tn v0 ?_ n) (by kernel_rfl) (by kernel_rfl) (by kernel_rfl) trivial trivial) (by kernel_rfl) (by kernel_rfl)))) (.c hc0 (.c (show aM v v1 [vs v0.name, vi v0.number, vi v0.credits, vi v0.rep, vi (DC v0.need).op, vi (DC v0.need).c, vs (DC v0.need).nm, vi (DC v0.need).n, vi (DC v0.need).d, Hx (DC v0.need).ks, vi (DC v0.bar).op, vi (DC v0.bar).c, vs (DC v0.bar).nm, vi (DC v0.bar).n, vi (DC v0.bar).d, Hx (DC v0.bar).ks] 16 from ?_) .n)))))))))) (by subst v0 v1 v2; first | (have hb : i8 w.c (cm n) (v, b) = true := by rw [← hc0]; simp [i8, cm]); simp only [qi, hb]; rfl | (have hb : i8 w.c (cm n) (v, b) = false := by rw [← hc0]; simp [i8, cm]); simp only [qi, hb]; rfl | rfl) (by subst v0 v1 v2; first | (have hb : i8 w.c (cm n) (v, b) = true := by rw [← hc0]; simp [i8, cm]); simp only [qi, hb]; rfl | (have hb : i8 w.c (cm n) (v, b) = false := by rw [← hc0]; simp [i8, cm]); simp only []; rfl | rfl) <;> subst v0 v1 v2 <;> (first | assumption | exact i9 hs _ | (refine bk (fun _ => rfl) ?_ ?_ <;> simp_all; done) | (simp_all; done))
 ·let v0 := D9 w.c (DN v) default
  let v1 : List D := [int 1, int n, int 0, int term, int (DG Dz (term + 1))]
  refine DI (Ev.nilW (Ev.symT (h' := [.var [int n]]) (d := Es [EB [aA { data := #[] }, int 0, int 0, int 0, int 0, int 0, aA { data := #[] }, int 0, int 0, nq, int 0, int 0, aA { data := #[] }, int 0, int 0, nq], ab [[vi 1, vi n, vi 0, vi term, vi (DG Dz (term + 1))]], bool false]) pok [.val (bool (decide (term ≥ 0) && decide (term ≤ 1023))), .b false, .nx 1, .st (.frz 4 (yT 1 n 0 term (DG Dz (term + 1)))), .val (Es [int v, bool b]), .row [vs v0.name, vi v0.number, vi v0.credits, vi v0.rep, vi (DC v0.need).op, vi (DC v0.need).c, vs (DC v0.need).nm, vi (DC v0.need).n, vi (DC v0.need).d, Hx (DC v0.need).ks, vi (DC v0.bar).op, vi (DC v0.bar).c, vs (DC v0.bar).nm, vi (DC v0.bar).n, vi (DC v0.bar).d, Hx (DC v0.bar).ks], .val (bool (v0.number == n && el v0)), .b true] (by kernel_rfl) (.c (D7 (Γ' := Γk) (@eD term 0 1023 (Ai w n))) (.c ht (.c (show [v1] = [v1] from rfl) (.c (@hat (jx w n)) (.c (show (!(!b || decide (v < 0) || decide (v ≥ (↑(Dw (Dt CourseT.row w.c)) : Int)))) = true → aM v (Dt CourseT.row w.c) [vs v0.name, vi v0.number, vi v0.credits, vi v0.rep, vi (DC v0.need).op, vi (DC v0.need).c, vs (DC v0.need).nm, vi (DC v0.need).n, vi (DC v0.need).d, Hx (DC v0.need).ks, vi (DC v0.bar).op, vi (DC v0.bar).c, vs (DC v0.bar).nm, vi (DC v0.bar).n, vi (DC v0.bar).d, Hx (DC v0.bar).ks] 16 from (fun hg => (by subst v0 v1; first | assumption | exact i9 hs _ | (refine bk (fun _ => rfl) ?_ ?_ <;> simp_all; done) | (simp_all; done)))) (.c (show (!(!b || decide (v < 0) || decide (v ≥ (↑(Dw (Dt CourseT.row w.c)) : Int)))) = true → Ev Du Γk 197 (tp w v) (jx w n) (bool (v0.number == n && el v0)) (jx w n) from (fun hg => (DI (F2 (args := (tp w v)) (H := (jx w n)) [0] (@tn v0 (by subst v0 v1; first | assumption | exact i9 hs _ | (refine bk (fun _ => rfl) ?_ ?_ <;> simp_all; done) | (simp_all; done)) n) (by kernel_rfl) (by kernel_rfl) (by kernel_rfl) trivial trivial) (by kernel_rfl) (by kernel_rfl)))) (.c hc0 .n))))))))) ?_ ?_ <;> subst v0 v1 <;> (first | (have hb : i8 w.c (cm n) (v, b) = true := by rw [← hc0]; simp [i8, cm]); simp only [qi, hb]; rfl | (have hb : i8 w.c (cm n) (v, b) = false := by rw [← hc0]; simp [i8, cm]); simp only [qi, hb]; rfl | rfl)
def ac (w : WorldT) (n term known : Int) : CourseT × Bool := match outB term with
 | true => (CourseT.zero, false)
 | false => qi w.c (cm n) CourseT.zero (atR 1 n 0 term known w.f)
theorem uy {w : WorldT} (hw : w.ok) {n term known : Int} : Ev Du Γk 199 [.agg w.l, ab (w.c.map CourseT.row), .agg [int 1, int n, int 0], int term, int known, .fn (.func 197) [] [.ref (.ptr 0 0)]] [.var [int n]] (.tup [ag (ac w n term known).1.row, ab (lg 1 n 0 term), bool (ac w n term known).2]) [.var [int n]] := by
 unfold ac lg
 cases ht : outB term with
 | true => exact lc0 ht
 | false => exact lc1 ht (fun h => D7 (yO hw.sf h)) hw.c
noncomputable abbrev fF (w : WorldT) (n : Int) : List Blk := [.var [ab (Dt CourseT.row w.c), ab w.p, ab (Dt DJ w.s), ab (Dt DE w.f)], .var [int n], .var [aA { data := #[] }, int 0, int 0, int 0, int 0, int 0, aA { data := #[] }, int 0, int 0, nq, int 0, int 0, aA { data := #[] }, int 0, int 0, nq]]
theorem uz {w : WorldT} (hw : w.ok) {n term known : Int} (h : List Blk) : (Ev Du Γk 161 [.agg w.l, int n, int term, int known] h (.tup [ag (ac w n term known).1.row, ab (lg 1 n 0 term), bool (ac w n term known).2]) h) := by
 let v0 := Es [EB [aA (ac w n term known).fst.name, int (ac w n term known).fst.number, int (ac w n term known).fst.credits, int (ac w n term known).fst.rep, int (DC (ac w n term known).fst.need).op, int (DC (ac w n term known).fst.need).c, aA (DC (ac w n term known).fst.need).nm, int (DC (ac w n term known).fst.need).n, int (DC (ac w n term known).fst.need).d, ab (DC (ac w n term known).fst.need).ks, int (DC (ac w n term known).fst.bar).op, int (DC (ac w n term known).fst.bar).c, aA (DC (ac w n term known).fst.bar).nm, int (DC (ac w n term known).fst.bar).n, int (DC (ac w n term known).fst.bar).d, ab (DC (ac w n term known).fst.bar).ks], ab (lg 1 n 0 term), bool (ac w n term known).snd]
 exact DI (Ev.sym0 (d := Es [EB [aA (ac w n term known).fst.name, int (ac w n term known).fst.number, int (ac w n term known).fst.credits, int (ac w n term known).fst.rep, int (DC (ac w n term known).fst.need).op, int (DC (ac w n term known).fst.need).c, aA (DC (ac w n term known).fst.need).nm, int (DC (ac w n term known).fst.need).n, int (DC (ac w n term known).fst.need).d, ab (DC (ac w n term known).fst.need).ks, int (DC (ac w n term known).fst.bar).op, int (DC (ac w n term known).fst.bar).c, aA (DC (ac w n term known).fst.bar).nm, int (DC (ac w n term known).fst.bar).n, int (DC (ac w n term known).fst.bar).d, ab (DC (ac w n term known).fst.bar).ks], ab (lg 1 n 0 term), bool (ac w n term known).snd]) pok [.val v0] (by kernel_rfl) (.c (show Ev Du Γk 199 [EB (WorldT.l w), ab (Dt CourseT.row w.c), EB [int 1, int n, int 0], int term, int known, EO (DW 197) [] [.ref (.ptr 1 0)]] (fF w n) v0 (fF w n) from (DI (F2 (args := [EB (WorldT.l w), ab (Dt CourseT.row w.c), EB [int 1, int n, int 0], int term, int known, EO (DW 197) [] [.ref (.ptr 1 0)]]) (H := (fF w n)) [1] (@uy w hw n term known) (by kernel_rfl) (by kernel_rfl) (by kernel_rfl) trivial trivial) (by kernel_rfl) (by kernel_rfl))) .n) rfl rfl h) (by rfl) (by rfl)
end Go.Vi
open Go Go.Proofs Go.Shelf
namespace Go.Vi
abbrev fG (l : List Int) : List (List D) := l.map fun n => [int n]
theorem qj {w : World} {av : Nat → Prop} {loc : Loc} {h : List Blk} : ∀ {l : List Int} {ys : List Value}, RelL w av loc h (fG l).flatten ys → ys = l.map (F5 .i64)
 | [], [], _ => rfl
 | [], _ :: _, r => by simp [RelL] at r
 | _ :: _, [], r => by simp [RelL] at r
 | n :: l, y :: ys, r => by
  simp only [fG, EH, EC, GZ, List.nil_append, RelL] at r
  have h1 : y = .int .i64 n := by simpa [Rel, RelP] using r.1
  rw [h1, qj (l := l) r.2]; rfl
theorem mS {w : World} {av : Nat → Prop} {loc : Loc} {h : List Blk} : ∀ {l : List Int}, RelL w av loc h (fG l).flatten (l.map (F5 .i64))
 | [] => trivial
 | n :: l => by
  simp only [fG, EH, EC, GZ, List.nil_append, RelL]
  exact ⟨by simp [Rel, RelP], mS (l := l)⟩
theorem rS {P : Program} {ρ : Ren} {Γ : am} (L : Lays.n189 P ρ) {h : List Blk} {b e : Nat} {l : List Int} (hb : h[b]? = some (.vec (fG l) e 1)) (hl : l.length < 4611686018427387904) :
  Ev P Γ (ρ.f 189) [.ref (.vec b e)] h (.tup []) (h.set b (.vec (fG (l.mergeSort fun x y => decide (x ≤ y))) e 1)) := by
 intro O w loc vs R ra
 obtain ⟨y, rfl⟩ : ∃ y, vs = [y] := by
  match vs, ra with
  | [y], _ => exact ⟨y, rfl⟩
  | [], r => simp [RelL] at r
  | _ :: _ :: _, r => simp [RelL] at r
 have r := ra.1
 simp only [Rel, RefRel, hb] at r
 have hv := r.2.2 trivial
 have B := R.blk b _ hb
 simp only [BlkOk] at B
 have hlen : (fG l).length = l.length := by simp [fG]
 refine callsIn_wide.2 ?_
 cases hlb : loc b with
 | none =>
  rw [hlb] at hv B
  obtain ⟨hn, rfl⟩ := hv
  have hl0 : l = [] := by simpa [fG] using hn
  subst hl0
  refine Calls.mono (calls_of_every_depth fun D => AnyS.slices_Sort_int_none_alone L D none 0 w) ?_
  rintro e' w' ⟨rfl, rfl⟩
  have hset : h.set b (.vec (fG ([].mergeSort fun x y => decide (x ≤ y))) e 1) = h := by
   apply Gf
   intro i
   by_cases hi : i = b
   ·subst hi; rw [bc hb, hb]; simp
   ·rw [bJ _ _ hi]
  refine ⟨.tuple #[], .tup [], _, loc, rfl, ⟨rfl, rfl⟩, ?_, ?_, ?_⟩
  ·rw [hset]; exact R
  ·rw [hset]; exact Ext.refl _ _ _
  ·simp [Rel, RelL]
 | some p =>
  obtain ⟨blk, cap⟩ := p
  rw [hlb] at hv B
  obtain ⟨rfl, hcap⟩ := hv
  simp only at B
  obtain ⟨c, T, fr, ys, hobj, hcs, hle, hfr, hsz, hrel, rest, hcl⟩ := B
  have hys := qj hrel
  subst hys
  have hblk : blk < w.heap.size := (Fo.1 hobj).1
  have hH : Sort.Holds (F5 .i64) w blk 0 l.toArray := by
   intro j hj
   have hj' : j < l.length := by simpa using hj
   have hc : c[j]? = some (F5 .i64 l[j]) := by
    rw [← Array.getElem?_toList, hcl, DP (by simpa using hj')]
    simp [hj']
   constructor
   ·simp [World.cell?, hobj, hc, hj']
   ·have := hfr j (Fo.1 hc).1
    obtain ⟨lo, hi⟩ := fr
    simp only [World.frozen?, hobj, Nat.zero_add]
    rw [← Bool.not_eq_true]
    simpa using this
  rw [hlen]
  refine Calls.mono (calls_of_every_depth fun D => AnyS.slices_Sort_int_alone L D blk 0 cap l w hH hblk hl) ?_
  rintro e' w' ⟨rfl, n, os, rfl⟩
  have hlm : (l.mergeSort fun x y => decide (x ≤ y)).length = l.length := by simp
  generalize (l.mergeSort fun x y => decide (x ≤ y)) = m at hlm ⊢
  have hobj' : (Hb (Fj (F5 .i64) (Fs w n) blk 0 m.toArray) os).heap[blk]? = some (.cells (FK (F5 .i64) 0 m.toArray c) T fr) := by
   rw [GS _ _ (by simpa [Fj, Fi, Fs] using hblk)]
   simp [Fj, Fi, Fs, Gi, hobj, Sort.onCells]
  have hcells : (FK (F5 .i64) 0 m.toArray c).toList = m.map (F5 .i64) ++ rest := by
   unfold FK
   rw [Array.toList_mapIdx, hcl]
   apply Gf
   intro i
   rw [List.getElem?_mapIdx]
   by_cases hi : i < l.length
   ·rw [DP (by simpa using hi), DP (by simpa [hlm] using hi)]
    have hm : i < m.length := by omega
    simp [hi, hm]
   ·rw [Ep (by simpa using FZ hi), Ep (by simpa [hlm] using FZ hi)]
    simp [hi, hlm]
  have key := R.step (w' := Hb (Fj (F5 .i64) (Fs w n) blk 0 m.toArray) os) (l' := loc) (h' := h.set b (.vec (fG m) e 1)) b (.vec (fG m) e 1)
   (by simp [Hb, Fj, Fi, Fs]) ⟨rfl, rfl, rfl, by simp [Hb, Fj, Fi, Fs]⟩ (fun i hi => bJ _ _ hi) (bc hb) (fun _ _ => rfl)
   (fun z hz => by rw [hb] at hz; cases hz; exact ⟨⟨Nat.le_refl _, fun _ => by simp [fG, hlm], rfl⟩, fun _ => rfl⟩)
   (fun k hk hno => by
    have hkb : k ≠ blk := fun e => hno _ cap hb (by simp) (by rw [hlb, e])
    rw [GS _ _ (by simpa [Fj, Fi, Fs] using hk)]
    simp [Fj, Fi, Fs, Gi, Ne.symm hkb])
   (fun k c hk => .inl ⟨_, c, hb, by simp, hk⟩)
   (fun E => by
    simp only [BlkOk, hlb]
    refine ⟨_, T, fr, m.map (F5 .i64), hobj', ?_, ?_, ?_, ?_, mS, rest, hcells⟩
    ·simpa [FK] using hcs
    ·simpa [fG, hlm] using hle
    ·simpa [FK] using hfr
    ·simp [fG])
  exact ⟨.tuple #[], .tup [], _, loc, rfl, ⟨rfl, rfl⟩, key.1, key.2, by simp [Rel, RelL]⟩
end Go.Vi
namespace Go.Proofs
open Go.Shelf
def Tryz.laysSort_ren : Go.Shelf.Ren := ⟨fun | 189 => 88 | 125 => 122 | 257 => 140 | 128 => 173 | 129 => 174 | 294 => 179 | 295 => 180 | 296 => 181 | 297 => 182 | 298 => 183 | 299 => 184 | 216 => 185 | 300 => 186 | 301 => 187 | 328 => 218 | 329 => 211 | 330 => 212 | 331 => 219 | 332 => 220 | 215 => 123 | 343 => 232 | n => n, fun | 28 => 30 | 3 => 3 | 46 => 192 | 0 => 0 | 51 => 233 | 53 => 169 | 4 => 4 | 183 => 227 | 182 => 226 | 131 => 150 | 5 => 5 | 9 => 9 | 218 => 251 | 222 => 255 | 228 => 265 | 229 => 266 | n => n, fun | n => n⟩
theorem Tryz.laysSort : Go.Proofs.Lays.n189 Du Tryz.laysSort_ren := {
 mixed := by kernel_rfl
 f125 := Tryz.func122.trans (congrArg some (by kernel_rfl))
 f128 := Tryz.func173.trans (congrArg some (by kernel_rfl))
 f129 := Tryz.func174.trans (congrArg some (by kernel_rfl))
 f189 := Tryz.func88.trans (congrArg some (by kernel_rfl))
 f215 := Tryz.func123.trans (congrArg some (by kernel_rfl))
 f216 := Tryz.func185.trans (congrArg some (by kernel_rfl))
 f257 := Tryz.func140.trans (congrArg some (by kernel_rfl))
 f294 := Tryz.func179.trans (congrArg some (by kernel_rfl))
 f295 := Tryz.func180.trans (congrArg some (by kernel_rfl))
 f296 := Tryz.func181.trans (congrArg some (by kernel_rfl))
 f297 := Tryz.func182.trans (congrArg some (by kernel_rfl))
 f298 := Tryz.func183.trans (congrArg some (by kernel_rfl))
 f299 := Tryz.func184.trans (congrArg some (by kernel_rfl))
 f300 := Tryz.func186.trans (congrArg some (by kernel_rfl))
 f301 := Tryz.func187.trans (congrArg some (by kernel_rfl))
 f328 := Tryz.func218.trans (congrArg some (by kernel_rfl))
 f329 := Tryz.func211.trans (congrArg some (by kernel_rfl))
 f330 := Tryz.func212.trans (congrArg some (by kernel_rfl))
 f331 := Tryz.func219.trans (congrArg some (by kernel_rfl))
 f332 := Tryz.func220.trans (congrArg some (by kernel_rfl))
 f343 := Tryz.func232.trans (congrArg some (by kernel_rfl))
 t0 := Tryz.underlying0
 a0 := Tryz.isAgg0
 z0 := Tryz.sizeOf0
 v0 := Tryz.zeroValue0
 t3 := Tryz.underlying3
 a3 := Tryz.isAgg3
 z3 := Tryz.sizeOf3
 v3 := Tryz.zeroValue3
 t4 := Tryz.underlying4
 a4 := Tryz.isAgg4
 z4 := Tryz.sizeOf4
 v4 := Tryz.zeroValue4
 t5 := Tryz.underlying5
 a5 := Tryz.isAgg5
 z5 := Tryz.sizeOf5
 v5 := Tryz.zeroValue5
 t9 := Tryz.underlying9
 a9 := Tryz.isAgg9
 z9 := Tryz.sizeOf9
 v9 := Tryz.zeroValue9
 t28 := Tryz.underlying30
 a28 := Tryz.isAgg30
 z28 := Tryz.sizeOf30
 v28 := Tryz.zeroValue30
 t46 := Tryz.underlying192
 a46 := Tryz.isAgg192
 z46 := Tryz.sizeOf192
 v46 := Tryz.zeroValue192
 t51 := Tryz.underlying233
 a51 := Tryz.isAgg233
 z51 := Tryz.sizeOf233
 v51 := Tryz.zeroValue233
 t53 := Tryz.underlying169
 a53 := Tryz.isAgg169
 z53 := Tryz.sizeOf169
 v53 := Tryz.zeroValue169
 t131 := Tryz.underlying150
 a131 := Tryz.isAgg150
 z131 := Tryz.sizeOf150
 v131 := Tryz.zeroValue150
 t182 := Tryz.underlying226
 a182 := Tryz.isAgg226
 z182 := Tryz.sizeOf226
 v182 := Tryz.zeroValue226
 t183 := Tryz.underlying227
 a183 := Tryz.isAgg227
 z183 := Tryz.sizeOf227
 v183 := Tryz.zeroValue227
 t218 := Tryz.underlying251
 a218 := Tryz.isAgg251
 z218 := Tryz.sizeOf251
 v218 := Tryz.zeroValue251
 t222 := Tryz.underlying255
 a222 := Tryz.isAgg255
 z222 := Tryz.sizeOf255
 v222 := Tryz.zeroValue255
 t228 := Tryz.underlying265
 a228 := Tryz.isAgg265
 z228 := Tryz.sizeOf265
 v228 := Tryz.zeroValue265
 t229 := Tryz.underlying266
 a229 := Tryz.isAgg266
 z229 := Tryz.sizeOf266
 v229 := Tryz.zeroValue266 }
end Go.Proofs
namespace Go.Vi
open Go.Shelf
theorem mT {h : List Blk} {b e : Nat} {l : List Int} (hb : h[b]? = some (.vec (fG l) e 1)) (hl : l.length < 4611686018427387904) :
  Ev Du Γ0 88 [.ref (.vec b e)] h (.tup []) (h.set b (.vec (fG (l.mergeSort fun x y => decide (x ≤ y))) e 1)) := rS Tryz.laysSort hb hl
end Go.Vi
open Go
namespace Go.Vi
theorem Ev.post {P : Program} {Γ : am} {f : FuncId} {args : List D} {h h1 h2 : List Blk} {d d2 : D} (az : List Ans) {φ : List Prop} (hE : Ev P Γ f args h d h1) (hp : pre h { t := [d], h := h1, m := [] } az = some ({ t := [d2], h := h2, m := [] }, [], φ)) (hφ : AllP φ) : Ev P Γ f args h d2 h2 := by
 intro O w l vs R ra
 refine CallsIn.mono (hE O w l vs R ra) ?_
 rintro e w' ⟨v, d', h', l', rfl, ⟨rfl, rfl⟩, R', E', r'⟩
 obtain ⟨l2, R2, E2, r2, -⟩ := s6 (Γ := Γ) (X := { O := O, w := w, l := l, h := h }) _ _ _ _ _ hp hφ { tmps := #[v], defers := [] } w' ⟨l', R', E', ⟨r', trivial⟩, rfl⟩
 exact ⟨v, d2, h2, l2, rfl, ⟨rfl, rfl⟩, R2, E2, r2.1⟩
end Go.Vi
open Go Go.Proofs
namespace Go.Vi
set_option maxRecDepth 100000
set_option maxHeartbeats 4000000
abbrev dl : D := lit (.slice none 0 0)
abbrev aI (l : List Int) : List (D × D × Nat) := l.zipIdx.map fun p => (int p.1, bool true, p.2)
abbrev jV (l : List Int) : Blk := .map (aI l) l.length
theorem ja (c : Int) : ∀ (l : List Int) (k i : Nat), c5 (int c) ((l.zipIdx k).map fun p => (int p.1, bool true, p.2)) i = some (match l.idxOf? c with | some j => some (i + j, bool true) | none => none)
 | [], _, _ => rfl
 | a :: l, k, i => by
  have ih := ja c l (k + 1) (i + 1)
  simp only [List.zipIdx_cons, EH, c5, ge, if_true, List.idxOf?_cons]
  by_cases h : a = c
  ·subst h; simp
  ·have h' : (c == a) = false := by simp; exact fun e => h e.symm
   have h'' : (a == c) = false := by simp; exact h
   rw [h', h'', ih]
   cases l.idxOf? c <;> simp <;> omega
theorem mU {P : Program} {h : List Blk} {t : TypeId} {b : Nat} {l : List Int} {c : Int} {kt et : TypeId} (hk : ci P kt (int c) = true) (ht : P.underlying t = some (.map kt et)) (hz : gx P et = some (.bool false)) (hb : h[b]? = some (jV l)) :
  ar P h t (.ref (.mp b)) (int c) false = some (bool (l.contains c)) := by
 unfold ar
 simp only [ht, j3, hb, hk, if_true, hz, ja c l 0 0]
 cases hi : l.idxOf? c with
 | none =>
  have : l.contains c = false := by
   rw [GV] at hi
   simpa using hi
  simp only [this]; rfl
 | some j =>
  have : l.contains c = true := by
   have : ¬ l.idxOf? c = none := by rw [hi]; simp
   rw [GV] at this
   simpa using this
  simp only [this]; rfl
theorem mV {P : Program} {h : List Blk} {t : TypeId} {b : Nat} {l : List Int} {c : Int} {kt et : TypeId} (hk : ci P kt (int c) = true) (ht : P.underlying t = some (.map kt et)) (hb : h[b]? = some (jV l)) (hn : l.contains c = false) :
  ap P h t (.ref (.mp b)) (int c) (bool true) = some (h.set b (jV (l ++ [c]))) := by
 have hi : l.idxOf? c = none := by rw [GV]; simpa using hn
 unfold ap
 simp only [ht, hb, hk, if_true, ja c l 0 0, hi]
 simp [jV, aI, List.zipIdx_append]
abbrev nuV (l : List Int) : List (List D) := l.map fun n => [int n]
theorem bh (l : List Int) (f : Ref → D) : (nuV l).map (El f) = nuV l := by simp [nuV, El, DR, IA]
theorem br (l : List Int) (k : Nat) : (nuV l).all (FP k) = true := by simp [nuV, FP, Fv]
theorem aJ (l : List Int) (n : Int) : nuV l ++ [[int n]] = nuV (l ++ [n]) := by simp [nuV]
theorem li (l : List Int) : (nuV l).length = l.length := by simp [nuV]
abbrev nuH (c0 c1 c2 : List (List Dp)) (fs : List (List Dp)) (s : Blk) (v : List (List D)) : List Blk := [.var [ab c0, ab c1, ab c2, ab fs], .var [int 12, int 0, int 0], s, .vec v 0 1]
abbrev nuS (c0 c1 c2 : List (List Dp)) (fs : List (List Dp)) (many : Int) (s : Blk) (v : List (List D)) (i : Int) : AS :=
 { t := mkT 70 0 [(4, .ref (.vec 3 0)), (5, dl), (6, .ref (.ptr 1 0)), (7, int many), (9, .ref (.mp 2)), (24, ab fs), (25, int fs.length), (26, int i)], h := nuH c0 c1 c2 fs s v, m := [] }
abbrev nuE (c0 c1 c2 : List (List Dp)) (fs : List (List Dp)) (many : Int) (s : Blk) (v : List (List D)) : AS :=
 { t := mkT 70 0 [(4, .ref (.vec 3 0)), (5, dl), (6, .ref (.ptr 1 0))], h := nuH c0 c1 c2 fs s v, m := [] }
def isNew (f : FactT) (l : List Int) : Bool := f.kind == 1 && (f.obj == 0 && (decide (f.sub ≥ 0) && decide (f.sub ≤ 4095) && !l.contains f.sub))
def nuF (many : Int) (f : FactT) (l : List Int) : List Int ⊕ List Int := if decide ((l.length : Int) ≥ many) = true then .inr l else .inl (bif isNew f l then l ++ [f.sub] else l)
theorem ce (l : List Int) (k : Nat) : ((aI l).all fun e => Fv k e.1 && Fv k e.2.1) = true := by simp [aI, Fv]
theorem bI (l : List Int) (f : Ref → D) : (aI l).map (fun e => (DR f e.1, DR f e.2.1, e.2.2)) = aI l := by simp [aI, DR, IA]
theorem aS {many : Int} {f : FactT} {l : List Int} (h : decide (((nuV l).length : Int) ≥ many) = true) : nuF many f l = .inr l := by
 rw [li] at h; simp only [nuF, h, if_true]
theorem dP {many : Int} {f : FactT} {l : List Int} (h : decide (((nuV l).length : Int) ≥ many) = false) (hn : isNew f l = false) : nuF many f l = .inl l := by
 rw [li] at h; simp [nuF, h, hn]
theorem dQ {many : Int} {f : FactT} {l : List Int} (h : decide (((nuV l).length : Int) ≥ many) = false) (hn : isNew f l = true) : nuF many f l = .inl (l ++ [f.sub]) := by
 rw [li] at h; simp [nuF, h, hn]
theorem rT {h : List Blk} {l : List Int} {c : Int} (hb : h[2]? = some (jV l)) : ar Du h 152 (.ref (.mp 2)) (int c) false = some (bool (l.contains c)) := mU (kt := 3) (et := 4) (by kernel_rfl) (by kernel_rfl) (by kernel_rfl) hb
theorem rU {h : List Blk} {l : List Int} {c : Int} (hb : h[2]? = some (jV l)) (hn : (!l.contains c) = true) : ap Du h 152 (.ref (.mp 2)) (int c) (bool true) = some (h.set 2 (jV (l ++ [c]))) := mV (kt := 3) (et := 4) (by kernel_rfl) (by kernel_rfl) hb (by simpa using hn)
noncomputable abbrev dz (c0 : List (List Dp)) (c1 : List (List Dp)) (c2 : List (List Dp)) (fs : List (List Dp)) (l : List Int) (f : FactT) : List Blk := [.var [ab c0, ab c1, ab c2, ab fs], .var [int 12, int 0, int 0], .map (aI l) (Dw l), .vec (nuV l) 0 1, .var [int f.kind, int f.sub, int f.obj, int f.value, int f.frm, int f.til, int f.known, int f.no]]
theorem Bw {c0 c1 c2 : List (List Dp)} {fs : List (List Dp)} {many : Int} {l : List Int} {i : Nat} {f : FactT} (hr : aM (i : Int) fs f.row 8) (hlt : decide ((i : Int) < (fs.length : Int)) = true) (hw : Dz.wrap ((i : Int) + 1) = ((i + 1 : Nat) : Int)) (hl : l.length ≤ 70000)
  (hp : ∀ f, (nuV l).map (El f) = nuV l) (hi : ∀ k, (nuV l).all (FP k) = true) : (CW Du Γ0 [] false (sub IR 0) (nuS c0 c1 c2 fs many (jV l) (nuV l) i) (ad (fun l' => nuS c0 c1 c2 fs many (jV l') (nuV l') ((i + 1 : Nat) : Int)) (fun l => (.exit 0, nuE c0 c1 c2 fs many (jV l) (nuV l))) (nuF many f l)).1 (ad (fun l' => nuS c0 c1 c2 fs many (jV l') (nuV l') ((i + 1 : Nat) : Int)) (fun l => (.exit 0, nuE c0 c1 c2 fs many (jV l) (nuV l))) (nuF many f l)).2) := by
 cases hc0 : decide ((↑(Dw (nuV l)) : Int) ≥ many)
 ·cases hc1 : f.kind == 1
  ·let v0 := D.p (Dp.v (Gd { toList := [] }))
   refine DU (DV (s' := { t := mkT 70 0 [(4, .ref (.vec 3 0)), (5, nq), (6, .ref (.ptr 1 0)), (7, int many), (9, .ref (.mp 2)), (24, ab fs), (25, int (↑(Dw fs) : Int)), (26, int (DG Dz ((↑i : Int) + 1)))], h := [.var [ab c0, ab c1, ab c2, ab fs], .var [int 12, int 0, int 0], .map (aI l) (Dw l), .vec (nuV l) 0 1], m := [] }) (e := DQ) pok [.st (.mask [4, 5, 6, 7, 9, 24, 25, 26]), .st (.ren 3 0), .st (.trim 4)] [.b true, .row [vi f.kind, vi f.sub, vi f.obj, vi f.value, vi f.frm, vi f.til, vi f.known, vi f.no], .b false, .g false, .g false, .g false, .g false, .ov 46 (bool false), .g false, .g false, .ov 50 (bool false), .g false, .g false, .g false, .g false, .ov 56 (bool false), .b false] (by kernel_rfl) (.c hlt (.c hr (.c hc0 (.c (show ((f.kind == 1) == true) = false from (by subst v0; rw [hc1]; rfl)) (.c (show ((f.kind == 1) == true) = false from (by subst v0; rw [hc1]; rfl)) (.c (show ((f.kind == 1) == true) = false from (by subst v0; rw [hc1]; rfl)) (.c (show ((f.kind == 1) == true) = false from (by subst v0; rw [hc1]; rfl)) (.c (show aX (bool (f.kind == 1)) v0 (bool false) (bool false) from (bU hc1 rfl)) (.c (show (false == true) = false from rfl) (.c (show (false == true) = false from rfl) (.c (show aX (bool false) v0 (bool false) (bool false) from (bU rfl rfl)) (.c (show (false == true) = false from rfl) (.c (show (false == true) = false from rfl) (.c (show (false == true) = false from rfl) (.c (show (false == true) = false from rfl) (.c (show aX (bool false) v0 (bool false) (bool false) from (bU rfl rfl)) (.c (show false = false from rfl) (.c (show Dt (El (au 3 0 0)) (nuV l) = nuV l from ?_) (.c (show Dt (fun e => (DR (au 3 0 0) e.fst, DR (au 3 0 0) e.snd.fst, e.snd.snd)) (aI l) = aI l from ?_) (.c (show (FC (aI l) fun e => Fv 4 e.fst && Fv 4 e.snd.fst) = true from ?_) (.c (show FC (nuV l) (FP 4) = true from ?_) .n)))))))))))))))))))))) (by subst v0; first | (rw [aS hc0]; rfl) | (rw [aS hc0]; done) | (rw [dQ hc0] <;> first | (simp only [isNew, hc1, Ex]; done) | (simp only [ad]; done) | (simp only [ad, hw, aJ]; rfl)) | (rw [dP hc0] <;> first | (simp only [isNew, hc1, Ex]; done) | (simp only [ad]; done) | (simp only [ad, hw]; rfl))) (by subst v0; first | (rw [aS hc0]; rfl) | (rw [aS hc0]; done) | (rw [dQ hc0] <;> first | (simp only [isNew, hc0, hc1, Fe, E5, FR, ED, Ex, cond_true, cond_false]; done) | (simp only [ad, hw]; done) | (simp only [ad, hw]; rfl)) | (rw [dP hc0] <;> first | (simp only [isNew, hc1, Ex]; done) | (simp only [ad, hw]; done) | (simp only [ad, hw]; rfl))) <;> subst v0 <;> (first | assumption | exact rT (l := l) rfl | exact rU (l := l) rfl (by assumption) | exact ce _ _ | exact bI _ _ | exact br _ _ | exact bh _ _ | (rw [aJ]; exact br _ _) | (rw [aJ]; exact bh _ _) | rfl | (simp [bw, GO, Ez, roomOk]; omega))
  ·cases hc2 : f.obj == 0
   ·refine DU (DV (s' := { t := mkT 70 0 [(4, .ref (.vec 3 0)), (5, nq), (6, .ref (.ptr 1 0)), (7, int many), (9, .ref (.mp 2)), (24, ab fs), (25, int (↑(Dw fs) : Int)), (26, int (DG Dz ((↑i : Int) + 1)))], h := [.var [ab c0, ab c1, ab c2, ab fs], .var [int 12, int 0, int 0], .map (aI l) (Dw l), .vec (nuV l) 0 1], m := [] }) (e := DQ) pok [.st (.mask [4, 5, 6, 7, 9, 24, 25, 26]), .st (.ren 3 0), .st (.trim 4)] [.b true, .row [vi f.kind, vi f.sub, vi f.obj, vi f.value, vi f.frm, vi f.til, vi f.known, vi f.no], .b false, .g true, .g true, .g true, .g true, .ov 46 (bool (f.obj == 0)), .g false, .g false, .ov 50 (bool false), .g false, .g false, .g false, .g false, .ov 56 (bool false), .b false] (by kernel_rfl) (.c hlt (.c hr (.c hc0 (.c (show ((f.kind == 1) == true) = true from (by rw [hc1]; rfl)) (.c (show ((f.kind == 1) == true) = true from (by rw [hc1]; rfl)) (.c (show ((f.kind == 1) == true) = true from (by rw [hc1]; rfl)) (.c (show ((f.kind == 1) == true) = true from (by rw [hc1]; rfl)) (.c (show aX (bool (f.kind == 1)) (bool (f.obj == 0)) (bool false) (bool (f.obj == 0)) from (bz hc1 rfl)) (.c (show ((f.obj == 0) == true) = false from (by rw [hc2]; rfl)) (.c (show ((f.obj == 0) == true) = false from (by rw [hc2]; rfl)) (.c (show aX (bool (f.obj == 0)) (D.p (Dp.v (Gd { toList := [] }))) (bool false) (bool false) from (bU hc2 rfl)) (.c (show (false == true) = false from rfl) (.c (show (false == true) = false from rfl) (.c (show (false == true) = false from rfl) (.c (show (false == true) = false from rfl) (.c (show aX (bool false) (D.p (Dp.v (Gd { toList := [] }))) (bool false) (bool false) from (bU rfl rfl)) (.c (show false = false from rfl) (.c (show Dt (El (au 3 0 0)) (nuV l) = nuV l from ?_) (.c (show Dt (fun e => (DR (au 3 0 0) e.fst, DR (au 3 0 0) e.snd.fst, e.snd.snd)) (aI l) = aI l from ?_) (.c (show (FC (aI l) fun e => Fv 4 e.fst && Fv 4 e.snd.fst) = true from ?_) (.c (show FC (nuV l) (FP 4) = true from ?_) .n)))))))))))))))))))))) (by first | (rw [aS hc0]; rfl) | (rw [aS hc0]; done) | (rw [dQ hc0] <;> first | (simp only [isNew, hc1, hc2, ED, Ex]; done) | (simp only [ad]; done) | (simp only [ad, hw, aJ]; rfl)) | (rw [dP hc0] <;> first | (simp only [isNew, hc1, hc2, ED, Ex]; done) | (simp only [ad]; done) | (simp only [ad, hw]; rfl))) (by first | (rw [aS hc0]; rfl) | (rw [aS hc0]; done) | (rw [dQ hc0] <;> first | (simp only [isNew, hc0, hc1, hc2, Fe, E5, FR, ED, Ex, cond_true, cond_false]; done) | (simp only [ad, hw]; done) | (simp only [ad, hw]; rfl)) | (rw [dP hc0] <;> first | (simp only [isNew, hc1, hc2, ED, Ex]; done) | (simp only [ad, hw]; done) | (simp only [ad, hw]; rfl))) <;> (first | assumption | exact rT (l := l) rfl | exact rU (l := l) rfl (by assumption) | exact ce _ _ | exact bI _ _ | exact br _ _ | exact bh _ _ | (rw [aJ]; exact br _ _) | (rw [aJ]; exact bh _ _) | rfl | (simp [bw, GO, Ez, roomOk]; omega))
   ·cases hc3 : decide (f.sub ≥ 0) && decide (f.sub ≤ 4095)
    ·refine DU (DV (s' := { t := mkT 70 0 [(4, .ref (.vec 3 0)), (5, nq), (6, .ref (.ptr 1 0)), (7, int many), (9, .ref (.mp 2)), (24, ab fs), (25, int (↑(Dw fs) : Int)), (26, int (DG Dz ((↑i : Int) + 1)))], h := [.var [ab c0, ab c1, ab c2, ab fs], .var [int 12, int 0, int 0], .map (aI l) (Dw l), .vec (nuV l) 0 1], m := [] }) (e := DQ) pok [.st (.mask [4, 5, 6, 7, 9, 24, 25, 26]), .st (.ren 3 0), .st (.trim 4)] [.b true, .row [vi f.kind, vi f.sub, vi f.obj, vi f.value, vi f.frm, vi f.til, vi f.known, vi f.no], .b false, .g true, .g true, .g true, .g true, .ov 46 (bool (f.obj == 0)), .g true, .g true, .val (bool (decide (f.sub ≥ 0) && decide (f.sub ≤ 4095))), .ov 50 (bool (decide (f.sub ≥ 0) && decide (f.sub ≤ 4095))), .g false, .g false, .g false, .g false, .ov 56 (bool false), .b false] (by kernel_rfl) (.c hlt (.c hr (.c hc0 (.c (show ((f.kind == 1) == true) = true from (by rw [hc1]; rfl)) (.c (show ((f.kind == 1) == true) = true from (by rw [hc1]; rfl)) (.c (show ((f.kind == 1) == true) = true from (by rw [hc1]; rfl)) (.c (show ((f.kind == 1) == true) = true from (by rw [hc1]; rfl)) (.c (show aX (bool (f.kind == 1)) (bool (f.obj == 0)) (bool false) (bool (f.obj == 0)) from (bz hc1 rfl)) (.c (show ((f.obj == 0) == true) = true from (by rw [hc2]; rfl)) (.c (show ((f.obj == 0) == true) = true from (by rw [hc2]; rfl)) (.c (@eD (f.sub) 0 4095 (dz c0 c1 c2 fs l f)) (.c (show aX (bool (f.obj == 0)) (bool (decide (f.sub ≥ 0) && decide (f.sub ≤ 4095))) (bool false) (bool (decide (f.sub ≥ 0) && decide (f.sub ≤ 4095))) from (bz hc2 rfl)) (.c (show ((decide (f.sub ≥ 0) && decide (f.sub ≤ 4095)) == true) = false from (by rw [hc3]; rfl)) (.c (show ((decide (f.sub ≥ 0) && decide (f.sub ≤ 4095)) == true) = false from (by rw [hc3]; rfl)) (.c (show ((decide (f.sub ≥ 0) && decide (f.sub ≤ 4095)) == true) = false from (by rw [hc3]; rfl)) (.c (show ((decide (f.sub ≥ 0) && decide (f.sub ≤ 4095)) == true) = false from (by rw [hc3]; rfl)) (.c (show aX (bool (decide (f.sub ≥ 0) && decide (f.sub ≤ 4095))) (D.p (Dp.v (Gd { toList := [] }))) (bool false) (bool false) from (bU hc3 rfl)) (.c (show false = false from rfl) (.c (show Dt (El (au 3 0 0)) (nuV l) = nuV l from ?_) (.c (show Dt (fun e => (DR (au 3 0 0) e.fst, DR (au 3 0 0) e.snd.fst, e.snd.snd)) (aI l) = aI l from ?_) (.c (show (FC (aI l) fun e => Fv 4 e.fst && Fv 4 e.snd.fst) = true from ?_) (.c (show FC (nuV l) (FP 4) = true from ?_) .n))))))))))))))))))))))) (by first | (rw [aS hc0]; rfl) | (rw [aS hc0]; done) | (rw [dQ hc0] <;> first | (simp only [isNew, hc1, hc2, hc3, ED, Ex]; done) | (simp only [ad]; done) | (simp only [ad, hw, aJ]; rfl)) | (rw [dP hc0] <;> first | (simp only [isNew, hc1, hc2, hc3, ED, Ex]; done) | (simp only [ad]; done) | (simp only [ad, hw]; rfl))) (by first | (rw [aS hc0]; rfl) | (rw [aS hc0]; done) | (rw [dQ hc0] <;> first | (simp only [isNew, hc0, hc1, hc2, hc3, Fe, E5, FR, ED, Ex, cond_true, cond_false]; done) | (simp only [ad, hw]; done) | (simp only [ad, hw]; rfl)) | (rw [dP hc0] <;> first | (simp only [isNew, hc1, hc2, hc3, ED, Ex]; done) | (simp only [ad, hw]; done) | (simp only [ad, hw]; rfl))) <;> (first | assumption | exact rT (l := l) rfl | exact rU (l := l) rfl (by assumption) | exact ce _ _ | exact bI _ _ | exact br _ _ | exact bh _ _ | (rw [aJ]; exact br _ _) | (rw [aJ]; exact bh _ _) | rfl | (simp [bw, GO, Ez, roomOk]; omega))
    ·cases hc4 : !EF l f.sub
     ·refine DU (DV (s' := { t := mkT 70 0 [(4, .ref (.vec 3 0)), (5, nq), (6, .ref (.ptr 1 0)), (7, int many), (9, .ref (.mp 2)), (24, ab fs), (25, int (↑(Dw fs) : Int)), (26, int (DG Dz ((↑i : Int) + 1)))], h := [.var [ab c0, ab c1, ab c2, ab fs], .var [int 12, int 0, int 0], .map (aI l) (Dw l), .vec (nuV l) 0 1], m := [] }) (e := DQ) pok [.st (.mask [4, 5, 6, 7, 9, 24, 25, 26]), .st (.ren 3 0), .st (.trim 4)] [.b true, .row [vi f.kind, vi f.sub, vi f.obj, vi f.value, vi f.frm, vi f.til, vi f.known, vi f.no], .b false, .g true, .g true, .g true, .g true, .ov 46 (bool (f.obj == 0)), .g true, .g true, .val (bool (decide (f.sub ≥ 0) && decide (f.sub ≤ 4095))), .ov 50 (bool (decide (f.sub ≥ 0) && decide (f.sub ≤ 4095))), .g true, .g true, .g true, .ov 54 (bool (EF l f.sub)), .g true, .ov 56 (bool !EF l f.sub), .b false] (by kernel_rfl) (.c hlt (.c hr (.c hc0 (.c (show ((f.kind == 1) == true) = true from (by rw [hc1]; rfl)) (.c (show ((f.kind == 1) == true) = true from (by rw [hc1]; rfl)) (.c (show ((f.kind == 1) == true) = true from (by rw [hc1]; rfl)) (.c (show ((f.kind == 1) == true) = true from (by rw [hc1]; rfl)) (.c (show aX (bool (f.kind == 1)) (bool (f.obj == 0)) (bool false) (bool (f.obj == 0)) from (bz hc1 rfl)) (.c (show ((f.obj == 0) == true) = true from (by rw [hc2]; rfl)) (.c (show ((f.obj == 0) == true) = true from (by rw [hc2]; rfl)) (.c (@eD (f.sub) 0 4095 (dz c0 c1 c2 fs l f)) (.c (show aX (bool (f.obj == 0)) (bool (decide (f.sub ≥ 0) && decide (f.sub ≤ 4095))) (bool false) (bool (decide (f.sub ≥ 0) && decide (f.sub ≤ 4095))) from (bz hc2 rfl)) (.c (show ((decide (f.sub ≥ 0) && decide (f.sub ≤ 4095)) == true) = true from (by rw [hc3]; rfl)) (.c (show ((decide (f.sub ≥ 0) && decide (f.sub ≤ 4095)) == true) = true from (by rw [hc3]; rfl)) (.c (show ((decide (f.sub ≥ 0) && decide (f.sub ≤ 4095)) == true) = true from (by rw [hc3]; rfl)) (.c (show ar Du (dz c0 c1 c2 fs l f) 152 (.ref (.mp 2)) (int f.sub) false = some (bool (EF l f.sub)) from ?_) (.c (show ((decide (f.sub ≥ 0) && decide (f.sub ≤ 4095)) == true) = true from (by rw [hc3]; rfl)) (.c (show aX (bool (decide (f.sub ≥ 0) && decide (f.sub ≤ 4095))) (bool !EF l f.sub) (bool false) (bool !EF l f.sub) from (bz hc3 rfl)) (.c hc4 (.c (show Dt (El (au 3 0 0)) (nuV l) = nuV l from ?_) (.c (show Dt (fun e => (DR (au 3 0 0) e.fst, DR (au 3 0 0) e.snd.fst, e.snd.snd)) (aI l) = aI l from ?_) (.c (show (FC (aI l) fun e => Fv 4 e.fst && Fv 4 e.snd.fst) = true from ?_) (.c (show FC (nuV l) (FP 4) = true from ?_) .n)))))))))))))))))))))))) (by first | (rw [aS hc0]; rfl) | (rw [aS hc0]; done) | (rw [dQ hc0] <;> first | (simp only [isNew, hc1, hc2, hc3, hc4, ED]; done) | (simp only [ad]; done) | (simp only [ad, hw, aJ]; rfl)) | (rw [dP hc0] <;> first | (simp only [isNew, hc1, hc2, hc3, hc4, ED]; done) | (simp only [ad]; done) | (simp only [ad, hw]; rfl))) (by first | (rw [aS hc0]; rfl) | (rw [aS hc0]; done) | (rw [dQ hc0] <;> first | (simp only [isNew, hc0, hc1, hc2, hc3, hc4, Fe, E5, FR, ED, Ex, cond_true, cond_false]; done) | (simp only [ad, hw]; done) | (simp only [ad, hw]; rfl)) | (rw [dP hc0] <;> first | (simp only [isNew, hc1, hc2, hc3, hc4, ED]; done) | (simp only [ad, hw]; done) | (simp only [ad, hw]; rfl))) <;> (first | assumption | exact rT (l := l) rfl | exact rU (l := l) rfl (by assumption) | exact ce _ _ | exact bI _ _ | exact br _ _ | exact bh _ _ | (rw [aJ]; exact br _ _) | (rw [aJ]; exact bh _ _) | rfl | (simp [bw, GO, Ez, roomOk]; omega))
     ·let v0 : List D := [int f.kind, int f.sub, int f.obj, int f.value, int f.frm, int f.til, int f.known, int f.no]
      refine DU (DV (s' := { t := mkT 70 0 [(4, .ref (.vec 3 0)), (5, nq), (6, .ref (.ptr 1 0)), (7, int many), (9, .ref (.mp 2)), (24, ab fs), (25, int (↑(Dw fs) : Int)), (26, int (DG Dz ((↑i : Int) + 1)))], h := [.var [ab c0, ab c1, ab c2, ab fs], .var [int 12, int 0, int 0], .map (aI (l ++ [f.sub])) (Dw (l ++ [f.sub])), .vec (nuV l ++ [[int f.sub]]) 0 1], m := [] }) (e := DQ) pok [.st (.mask [4, 5, 6, 7, 9, 24, 25, 26]), .st (.ren 3 0), .st (.trim 4)] [.b true, .row [vi f.kind, vi f.sub, vi f.obj, vi f.value, vi f.frm, vi f.til, vi f.known, vi f.no], .b false, .g true, .g true, .g true, .g true, .ov 46 (bool (f.obj == 0)), .g true, .g true, .val (bool (decide (f.sub ≥ 0) && decide (f.sub ≤ 4095))), .ov 50 (bool (decide (f.sub ≥ 0) && decide (f.sub ≤ 4095))), .g true, .g true, .g true, .ov 54 (bool (EF l f.sub)), .g true, .ov 56 (bool !EF l f.sub), .b true, .oh 10057 EN (nuH c0 c1 c2 fs (jV (l ++ [f.sub])) (nuV l) ++ [.var (Dt D.p (DE f))])] (by kernel_rfl) (.c hlt (.c hr (.c hc0 (.c (show ((f.kind == 1) == true) = true from (by subst v0; rw [hc1]; rfl)) (.c (show ((f.kind == 1) == true) = true from (by subst v0; rw [hc1]; rfl)) (.c (show ((f.kind == 1) == true) = true from (by subst v0; rw [hc1]; rfl)) (.c (show ((f.kind == 1) == true) = true from (by subst v0; rw [hc1]; rfl)) (.c (show aX (bool (f.kind == 1)) (bool (f.obj == 0)) (bool false) (bool (f.obj == 0)) from (bz hc1 rfl)) (.c (show ((f.obj == 0) == true) = true from (by subst v0; rw [hc2]; rfl)) (.c (show ((f.obj == 0) == true) = true from (by subst v0; rw [hc2]; rfl)) (.c (@eD (f.sub) 0 4095 (dz c0 c1 c2 fs l f)) (.c (show aX (bool (f.obj == 0)) (bool (decide (f.sub ≥ 0) && decide (f.sub ≤ 4095))) (bool false) (bool (decide (f.sub ≥ 0) && decide (f.sub ≤ 4095))) from (bz hc2 rfl)) (.c (show ((decide (f.sub ≥ 0) && decide (f.sub ≤ 4095)) == true) = true from (by subst v0; rw [hc3]; rfl)) (.c (show ((decide (f.sub ≥ 0) && decide (f.sub ≤ 4095)) == true) = true from (by subst v0; rw [hc3]; rfl)) (.c (show ((decide (f.sub ≥ 0) && decide (f.sub ≤ 4095)) == true) = true from (by subst v0; rw [hc3]; rfl)) (.c (show ar Du (dz c0 c1 c2 fs l f) 152 (.ref (.mp 2)) (int f.sub) false = some (bool (EF l f.sub)) from ?_) (.c (show ((decide (f.sub ≥ 0) && decide (f.sub ≤ 4095)) == true) = true from (by subst v0; rw [hc3]; rfl)) (.c (show aX (bool (decide (f.sub ≥ 0) && decide (f.sub ≤ 4095))) (bool !EF l f.sub) (bool false) (bool !EF l f.sub) from (bz hc3 rfl)) (.c hc4 (.c (show ap Du (dz c0 c1 c2 fs l f) 152 (.ref (.mp 2)) (int f.sub) (evalD Γ0 (EN :: EN :: EN :: EN :: .ref (.vec 3 0) :: nq :: .ref (.ptr 1 0) :: int many :: EN :: .ref (.mp 2) :: EN :: .ref (.ptr 4 0) :: int f.sub :: EN :: EN :: EN :: EN :: EN :: EN :: EN :: EN :: EN :: EN :: EN :: ab fs :: int (↑(Dw fs) : Int) :: int (↑i : Int) :: bool (decide ((↑i : Int) < (↑(Dw fs) : Int))) :: D.ep [vi f.kind, vi f.sub, vi f.obj, vi f.value, vi f.frm, vi f.til, vi f.known, vi f.no] :: EB v0 :: .ref (.vec 3 0) :: int (↑(Dw (nuV l)) : Int) :: int many :: bool (decide ((↑(Dw (nuV l)) : Int) ≥ many)) :: .ref (.ptr 4 0) :: .ref (.ptr 4 1) :: int f.sub :: .ref (.ptr 4 0) :: .ref (.ptr 4 0) :: int f.kind :: bool (f.kind == 1) :: bool (f.kind == 1) :: .ref (.ptr 4 0) :: .ref (.ptr 4 2) :: int f.obj :: bool (f.obj == 0) :: bool (f.obj == 0) :: bool (f.obj == 0) :: mkT 22 0 [(0, int f.sub), (1, bool (decide (f.sub ≥ 0) && decide (f.sub ≤ 4095))), (2, bool (decide (f.sub ≥ 0) && decide (f.sub ≤ 4095))), (3, bool (decide (f.sub ≥ 0) && decide (f.sub ≤ 4095))), (4, .ref (.mp 2)), (5, int f.sub), (6, bool (EF l f.sub)), (7, bool !EF l f.sub), (8, bool !EF l f.sub), (9, .ref (.mp 2)), (10, int f.sub)]) (H6 (Value.bool true))) = some [.var [ab c0, ab c1, ab c2, ab fs], .var [int 12, int 0, int 0], .map (aI (l ++ [f.sub])) (Dw (l ++ [f.sub])), .vec (nuV l) 0 1, .var v0] from ?_) (.c (show (FC [[int f.sub]] (bw 1) && roomOk (Dw (nuV l) + Dw [[int f.sub]]) 8) = true from ?_) (.c (show Dt (El (au 3 1 0)) (nuV l ++ [[int f.sub]]) = nuV l ++ [[int f.sub]] from ?_) (.c (show Dt (fun e => (DR (au 3 1 0) e.fst, DR (au 3 1 0) e.snd.fst, e.snd.snd)) (aI (l ++ [f.sub])) = aI (l ++ [f.sub]) from ?_) (.c (show [[int f.sub]] = [[int f.sub]] from rfl) (.c (show (FC (aI (l ++ [f.sub])) fun e => Fv 4 e.fst && Fv 4 e.snd.fst) = true from ?_) (.c (show FC (nuV l ++ [[int f.sub]]) (FP 4) = true from ?_) .n))))))))))))))))))))))))))) (by subst v0; first | (rw [aS hc0]; rfl) | (rw [aS hc0]; done) | (rw [dQ hc0] <;> first | (simp only [isNew, hc1, hc2, hc3, hc4, Fe]; done) | (simp only [ad]; done) | (simp only [ad, hw, aJ]; rfl)) | (rw [dP hc0] <;> first | (simp only [isNew, hc0, hc1, hc2, hc3, hc4, Fe, E5, FR, ED, Ex, cond_true, cond_false]; done) | (simp only [ad, hw]; done) | (simp only [ad, hw]; rfl))) (by subst v0; first | (rw [aS hc0]; rfl) | (rw [aS hc0]; done) | (rw [dQ hc0] <;> first | (simp only [isNew, hc1, hc2, hc3, hc4, Fe]; done) | (simp only [ad, hw, aJ]; done) | (simp only [ad, hw, aJ]; rfl)) | (rw [dP hc0] <;> first | (simp only [isNew, hc0, hc1, hc2, hc3, hc4, Fe, E5, FR, ED, Ex, cond_true, cond_false]; done) | (simp only [ad, hw]; done) | (simp only [ad, hw]; rfl))) <;> subst v0 <;> (first | assumption | exact rT (l := l) rfl | exact rU (l := l) rfl (by assumption) | exact ce _ _ | exact bI _ _ | exact br _ _ | exact bh _ _ | (rw [aJ]; exact br _ _) | (rw [aJ]; exact bh _ _) | rfl | (simp [bw, GO, Ez, roomOk]; omega))
 ·refine DU (DV (s' := { t := mkT 70 0 [(4, .ref (.vec 3 0)), (5, nq), (6, .ref (.ptr 1 0))], h := [.var [ab c0, ab c1, ab c2, ab fs], .var [int 12, int 0, int 0], .map (aI l) (Dw l), .vec (nuV l) 0 1], m := [] }) (e := Ea 0) pok [.st (.mask [4, 5, 6]), .st (.trim 4)] [.b true, .row [vi f.kind, vi f.sub, vi f.obj, vi f.value, vi f.frm, vi f.til, vi f.known, vi f.no], .b true] (by kernel_rfl) (.c hlt (.c hr (.c hc0 (.c (show (FC (aI l) fun e => Fv 4 e.fst && Fv 4 e.snd.fst) = true from (by first | assumption | exact rT (l := l) rfl | exact rU (l := l) rfl (by assumption) | exact ce _ _ | exact bI _ _ | exact br _ _ | exact bh _ _ | (rw [aJ]; exact br _ _) | (rw [aJ]; exact bh _ _) | rfl | (simp [bw, GO, Ez, roomOk]; omega))) (.c (show FC (nuV l) (FP 4) = true from (by first | assumption | exact rT (l := l) rfl | exact rU (l := l) rfl (by assumption) | exact ce _ _ | exact bI _ _ | exact br _ _ | exact bh _ _ | (rw [aJ]; exact br _ _) | (rw [aJ]; exact bh _ _) | rfl | (simp [bw, GO, Ez, roomOk]; omega))) .n)))))) ?_ ?_ <;> (first | (rw [aS hc0]; rfl) | (rw [aS hc0]; done) | (rw [dQ hc0] <;> first | (simp only [isNew, hc0, Fe, E5, FR, ED, Ex, cond_true, cond_false]; done) | (simp only [ad, hw, aJ]; done) | (simp only [ad, hw, aJ]; rfl)) | (rw [dP hc0] <;> first | (simp only [isNew, hc0, Fe, E5, FR, ED, Ex, cond_true, cond_false]; done) | (simp only [ad, hw]; done) | (simp only [ad, hw]; rfl)))
theorem Bx {c0 c1 c2 : List (List Dp)} {fs : List (List Dp)} {many : Int} {s : Blk} {v : List (List D)} {i : Nat} (hlt : decide ((i : Int) < (fs.length : Int)) = false) : (CW Du Γ0 [] false (sub IR 0) (nuS c0 c1 c2 fs many s v i) (.exit 0) (nuE c0 c1 c2 fs many s v)) := by
 exact DU (DV (s' := { t := mkT 70 0 [(4, .ref (.vec 3 0)), (5, nq), (6, .ref (.ptr 1 0))], h := [.var [ab c0, ab c1, ab c2, ab fs], .var [int 12, int 0, int 0], s, .vec v 0 1], m := [] }) (e := Ea 0) pok [.st (.mask [4, 5, 6])] [.b false] (by kernel_rfl) (.c hlt .n)) (by rfl) (by rfl)
def nuG (r : List Int ⊕ List Int) : List Int := match r with | .inl l => l | .inr l => l
theorem wz {many : Int} {f : FactT} {l l' : List Int} (h : nuF many f l = .inl l') : l'.length ≤ l.length + 1 := by
 unfold nuF at h
 split at h
 ·simp at h
 ·simp at h; subst h
  cases isNew f l <;> simp
theorem nu_cw {c0 c1 c2 : List (List Dp)} {many : Int} {fs : List FactT} (hf : fs.length ≤ 69000) :
  CW Du Γ0 [] false (.loop (sub IR 0)) (nuS c0 c1 c2 (fs.map DE) many (jV []) (nuV []) 0) (.exit 0) (nuE c0 c1 c2 (fs.map DE) many (jV (nuG (co (nuF many) fs []))) (nuV (nuG (co (nuF many) fs [])))) := by
 have := CW.each (P := Du) (Γ := Γ0) (h0 := []) (rd := false) (c := sub IR 0) fs (nuF many) (fun i l => nuS c0 c1 c2 (fs.map DE) many (jV l) (nuV l) (i : Int)) (.exit 0) (fun l => nuE c0 c1 c2 (fs.map DE) many (jV l) (nuV l)) (fun l => (.exit 0, nuE c0 c1 c2 (fs.map DE) many (jV l) (nuV l)))
  (fun i l => l.length ≤ i) (by simp) (by simp) ?_ ?_ [] (by simp)
 ·cases h : co (nuF many) fs [] <;> rw [h] at this <;> exact this
 ·intro i f l hfi hl
  have hi := (DA.1 hfi).1
  refine ⟨fun l' h => ?_, Bw (rowAt hfi rfl) (lt_len _ hi) (wrap_succ hi (by omega)) (by omega) (bh l) (br l)⟩
  have := wz h
  omega
 ·intro l hl
  exact Bx (bS _ fs)
theorem Aj (l : List Int) : nuV l = (l.map fun n => [vi n]).map (Dt D.p) := by simp [nuV]
theorem yU {x0 x1 x2 : Blk} {l : List Int} (hl : l.length < 4611686018427387904) : Ev Du Γ0 88 [.ref (.vec 3 0)] [x0, x1, x2, .vec (nuV l) 0 1] (.tup []) [x0, x1, x2, .vec (nuV (l.mergeSort fun x y => decide (x ≤ y))) 0 1] :=
 mT (h := [x0, x1, x2, .vec (nuV l) 0 1]) (b := 3) rfl hl
theorem gp {many : Int} : ∀ (fs : List FactT) (l : List Int), (nuG (co (nuF many) fs l)).length ≤ l.length + fs.length
 | [], l => by simp [co, nuG]
 | f :: fs, l => by
  simp only [co]
  cases h : nuF many f l with
  | inl l' =>
   have := wz h
   have := gp (many := many) fs l'
   simp only [List.length_cons]; omega
  | inr l' =>
   have : l' = l := by
    unfold nuF at h; split at h
    ·simp at h; exact h.symm
    ·simp at h
   subst this
   simp only [nuG]; omega
theorem yV {many : Int} {fs : List FactT} (hf : fs.length ≤ 69000) : (nuG (co (nuF many) fs [])).length < 4611686018427387904 := by
 have := gp (many := many) fs []
 simp at this; omega
def Ak (many : Int) (fs : List FactT) : List Int := nuG (co (nuF many) fs [])
def wA (fs : List FactT) (known : Int) : Int := (atR 12 0 0 0 known fs).1
def ae (fs : List FactT) (known : Int) : List Int := (Ak (wA fs known) fs).mergeSort fun x y => decide (x ≤ y)
noncomputable abbrev nuB (c0 c1 c2 : List (List Dp)) (fs : List FactT) (known : Int) (r : Blk) : List Blk := [.var [ab c0, ab c1, ab c2, ab (fs.map DE)], .var [int 12, int 0, int 0], jV (nuG (co (nuF (atR 12 0 0 0 known fs).1) fs [])), .gone, r]
noncomputable abbrev qk (c0 : List (List Dp)) (c1 : List (List Dp)) (c2 : List (List Dp)) (fs : List FactT) (known : Int) : List Blk := [.var [ab c0, ab c1, ab c2, ab (Dt DE fs)], .var [int 12, int 0, int 0], .map (aI (nuG (co (nuF (atR 12 0 0 0 known fs).fst) fs []))) (Dw (nuG (co (nuF (atR 12 0 0 0 known fs).fst) fs []))), .vec (nuV (nuG (co (nuF (atR 12 0 0 0 known fs).fst) fs []))) 0 1]
noncomputable abbrev ql (c0 : List (List Dp)) (c1 : List (List Dp)) (c2 : List (List Dp)) (fs : List FactT) : List Blk := [.var [ab c0, ab c1, ab c2, ab (Dt DE fs)], .var [int 12, int 0, int 0]]
theorem wB {c0 c1 c2 : List (List Dp)} {fs : List FactT} (hf : fs.length ≤ 69000) (hs : aj fs) {known : Int} : (Ev Du Γ0 34 [.agg [ab c0, ab c1, ab c2, ab (fs.map DE)], int known] [] (.tup [ab ((ae fs known).map fun n => [vi n]), .ref (.vec 4 0)]) (nuB c0 c1 c2 fs known (.vec [[int 12, int 0, int 0, int 0, int 1]] 0 5))) := by
 have hl0 := (@nu_cw (c0) (c1) (c2) ((atR 12 0 0 0 known fs).fst) (fs) (hf))
 let v0 := Dw (nuG (co (nuF (atR 12 0 0 0 known fs).fst) fs []))
 let v1 : List D := [ab c0, ab c1, ab c2, ab (Dt DE fs)]
 refine DI (Ev.of_sym (h' := [.var v1, .var [int 12, int 0, int 0], .map (aI (nuG (co (nuF (atR 12 0 0 0 known fs).fst) fs []))) v0, .gone, .vec [[int 12, int 0, int 0, int 0, int 1]] 0 5]) (d := Es [ab (Dt (fun n => [vi n]) (ae fs known)), .ref (.vec 4 0)]) pok [.val (Es [int (atR 12 0 0 0 known fs).fst, bool (atR 12 0 0 0 known fs).snd]), .nx 2, .st (.nilT 4 1), .sum [4, 5, 6, 7, 9, 24, 25, 26] (Ea 0) { t := mkT 70 0 [(4, .ref (.vec 3 0)), (5, nq), (6, .ref (.ptr 1 0))], h := (qk c0 c1 c2 fs known), m := [] }, .call (Es []) [.var v1, .var [int 12, int 0, int 0], .map (aI (nuG (co (nuF (atR 12 0 0 0 known fs).fst) fs []))) v0, .vec (nuV (EK (nuG (co (nuF (atR 12 0 0 0 known fs).fst) fs [])) fun x y => decide (x ≤ y))) 0 1], .st (.frz 3 (Dt (fun n => [vi n]) (ae fs known)))] (by kernel_rfl) (.c (@yO 12 0 0 0 known fs hs (ql c0 c1 c2 fs)) (.c hl0 (.c (@yU (.var v1) (.var [int 12, int 0, int 0]) (.map (aI (nuG (co (nuF (atR 12 0 0 0 known fs).fst) fs []))) v0) (nuG (co (nuF (atR 12 0 0 0 known fs).fst) fs [])) ?_) (.c (show nuV (EK (nuG (co (nuF (atR 12 0 0 0 known fs).fst) fs [])) fun x y => decide (x ≤ y)) = Dt (fun x => Dt D.p x) (Dt (fun n => [vi n]) (ae fs known)) from ?_) (.c (show Dt (fun e => (DR (dc 3 0 (Dt (fun n => [vi n]) (ae fs known))) e.fst, DR (dc 3 0 (Dt (fun n => [vi n]) (ae fs known))) e.snd.fst, e.snd.snd)) (aI (nuG (co (nuF (atR 12 0 0 0 known fs).fst) fs []))) = aI (nuG (co (nuF (atR 12 0 0 0 known fs).fst) fs [])) from ?_) (.e (EB [int 12, int 0, int 0]) .n))))))) (by rfl) (by rfl) <;> subst v0 v1 <;> (first | assumption | exact yV hf | exact bI _ _ | exact Aj _)
theorem wC {c0 c1 c2 : List (List Dp)} {fs : List FactT} (hf : fs.length ≤ 69000) (hs : aj fs) {known : Int} : Ev Du Γ0 34 [.agg [ab c0, ab c1, ab c2, ab (fs.map DE)], int known] [] (.tup [ab ((ae fs known).map fun n => [vi n]), .ref (.vec 0 0)]) [.vec [[int 12, int 0, int 0, int 0, int 1]] 0 5] :=
 DI ((wB (c0 := c0) (c1 := c1) (c2 := c2) (known := known) hf hs).keepB [4] (by kernel_rfl) ⟨rfl, trivial⟩) (by kernel_rfl) (by kernel_rfl)
theorem lj {c0 c1 c2 : List (List Dp)} {fs : List FactT} (hf : fs.length ≤ 69000) (hs : aj fs) {known : Int} (h : List Blk) : Ev Du Γ0 34 [.agg [ab c0, ab c1, ab c2, ab (fs.map DE)], int known] h (.tup [ab ((ae fs known).map fun n => [vi n]), .ref (.vec h.length 0)]) (h ++ [.vec [[int 12, int 0, int 0, int 0, int 1]] 0 5]) :=
 (wC (c0 := c0) (c1 := c1) (c2 := c2) (known := known) hf hs).frameN (by kernel_rfl) rfl h
end Go.Vi
open Go Go.Proofs
namespace Go.Vi
set_option maxRecDepth 100000
set_option maxHeartbeats 4000000
abbrev cg (l : List FactT) : List (List D) := l.map fun f => f.row.map .p
abbrev cH (l : List Bool) : List (List D) := l.map fun b => [bool b]
abbrev ba (l : List Int) : List (List D) := l.map fun n => [int n]
abbrev vaT : List D := mkT 63 0 [(6, .ref (.ptr 1 0)), (7, .ref (.ptr 2 0)), (8, .ref (.ptr 3 0)), (15, .fn (.func 178) [] [.ref (.ptr 4 0), .ref (.ptr 5 0), .ref (.ptr 6 0)])]
noncomputable abbrev vaL (st : LoopState) : Blk := .loop st none 0 vaT #[16] (aC (sub D2 0)) (ak (sub D2 0))
noncomputable abbrev vaH (kk ks ko known : Int) (fs : List (List Dp)) (rs : List D) (best : List FactT) (some : List Bool) (st : LoopState) (more : List Blk) : List Blk :=
 [.var [int kk, int ks, int ko], .var rs, .var (cg best).flatten, .var (cH some).flatten, .var [ab fs], .var [int kk, int ks, int ko], .var [int known], .defd, vaL st] ++ more
abbrev vaU : List D := mkT 63 0 [(6, .ref (.ptr 1 0)), (7, .ref (.ptr 2 0)), (8, .ref (.ptr 3 0)), (9, .ref (.ptr 10 0))]
theorem va_asg {kk ks ko known : Int} {fs : List (List Dp)} {rs : List D} {best : List FactT} {some : List Bool} {f : FactT} : (CW Du Γ0 (vaH kk ks ko known fs rs best some .ready [.var (f.row.map .p)]) true (aC (sub D2 0)) { t := d6 vaT [(16, ag f.row)], h := vaH kk ks ko known fs rs best some .ready [.var (f.row.map .p)], m := [] } .normal { t := vaU, h := vaH kk ks ko known fs rs best some .ready [.var (f.row.map .p), .var (f.row.map .p)], m := [] }) := by
 let v0 : List D := [int f.kind, int f.sub, int f.obj, int f.value, int f.frm, int f.til, int f.known, int f.no]
 exact DU (DV (s' := { t := mkT 63 0 [(6, .ref (.ptr 1 0)), (7, .ref (.ptr 2 0)), (8, .ref (.ptr 3 0)), (9, .ref (.ptr 10 0))], h := [.var [int kk, int ks, int ko], .var rs, .var (DK (cg best)), .var (DK (cH some)), .var [ab fs], .var [int kk, int ks, int ko], .var [int known], .defd, .loop LoopState.ready none 0 (mkT 63 0 [(6, .ref (.ptr 1 0)), (7, .ref (.ptr 2 0)), (8, .ref (.ptr 3 0)), (15, EO (DW 178) [] [.ref (.ptr 4 0), .ref (.ptr 5 0), .ref (.ptr 6 0)])]) { toList := [16] } (aC (sub D2 0)) (ak (sub D2 0)), .var v0, .var v0], m := [] }) (e := DQ) pok [.st (.mask [6, 7, 8, 9])] [] (by kernel_rfl) .n) (by rfl) (by rfl)
theorem og {h : List Blk} {off n : Nat} {l : List Bool} {b : Bool} (hb : h[3]? = some (.var (cH l).flatten)) (hs : l[n]? = some b) (ho : off = n * 1) : bn Du h 4 (.ref (.ptr 3 off)) = some (bool b) := by
 subst ho
 exact kQ (sz := 1) (j := 0) (row := [bool b]) (by kernel_rfl) (by kernel_rfl) hb (fun r hr => by obtain ⟨_, _, rfl⟩ := D3.1 hr; rfl) (by simp [hs]) rfl
theorem wD {h : List Blk} {off n : Nat} {l : List FactT} {g : FactT} (hb : h[2]? = some (.var (cg l).flatten)) (hs : l[n]? = some g) (ho : off = n * 8) : bn Du h 60 (.ref (.ptr 2 off)) = some (ag g.row) := by
 subst ho
 exact yA (sz := 8) (row := g.row.map .p) (by kernel_rfl) (by kernel_rfl) hb (by simp [DE]) (by simp [hs])
theorem Al {h : List Blk} {off n : Nat} {l : List FactT} {f : FactT} (hb : h[2]? = some (.var (cg l).flatten)) (hn : n < l.length) (ho : off = n * 8) : bM Du h 60 (.ref (.ptr 2 off)) (ag f.row) = some (h.set 2 (.var (cg (l.set n f)).flatten)) := by
 subst ho
 rw [kR (sz := 8) (new := f.row.map .p) rfl (by kernel_rfl) rfl hb (by simp [DE]) (by simpa using hn), cg, cg, List.map_set]
theorem Am {h : List Blk} {off n : Nat} {l : List Bool} {b : Bool} (hb : h[3]? = some (.var (cH l).flatten)) (hn : n < l.length) (ho : off = n * 1) : bM Du h 4 (.ref (.ptr 3 off)) (bool b) = some (h.set 3 (.var (cH (l.set n b)).flatten)) := by
 subst ho
 rw [kR (sz := 1) (new := [bool b]) rfl (by kernel_rfl) rfl hb (fun r hr => by obtain ⟨_, _, rfl⟩ := D3.1 hr; rfl) (by simpa using hn), cH, cH, List.map_set]
theorem fU {α : Type} {l : List α} {n : Nat} {a : α} (h : l[n]? = some a) : n < l.length := (DA.1 h).1
def vaHit (f g : FactT) (b : Bool) : Bool := !b || decide (orI (aW f.known g.known) (aW f.no g.no) ≥ 0)
noncomputable abbrev vaS (kk ks ko known : Int) (fs : List (List Dp)) (rs : List D) (best : List FactT) (some : List Bool) (f : FactT) (t : Int) : AS := { t := mkT 63 0 [(6, .ref (.ptr 1 0)), (7, .ref (.ptr 2 0)), (8, .ref (.ptr 3 0)), (9, .ref (.ptr 10 0)), (10, int t)], h := vaH kk ks ko known fs rs best some .busy [.var (f.row.map .p), .var (f.row.map .p)], m := [] }
noncomputable abbrev fH (kk : Int) (ks : Int) (ko : Int) (known : Int) (fs : List (List Dp)) (rs : List D) (best : List FactT) (some : List Bool) (f : FactT) : List Blk := [.var [int kk, int ks, int ko], .var rs, .var (DK (cg best)), .var (DK (cH some)), .var [ab fs], .var [int kk, int ks, int ko], .var [int known], .defd, .loop Fb none 0 (mkT 63 0 [(6, .ref (.ptr 1 0)), (7, .ref (.ptr 2 0)), (8, .ref (.ptr 3 0)), (15, EO (DW 178) [] [.ref (.ptr 4 0), .ref (.ptr 5 0), .ref (.ptr 6 0)])]) { toList := [16] } (aC (sub D2 0)) (ak (sub D2 0)), .var [int f.kind, int f.sub, int f.obj, int f.value, int f.frm, int f.til, int f.known, int f.no], .var [int f.kind, int f.sub, int f.obj, int f.value, int f.frm, int f.til, int f.known, int f.no]]
theorem va_b {kk ks ko known : Int} {fs : List (List Dp)} {rs : List D} {best b0 : List FactT} {some s0 : List Bool} {f g f0 : FactT} {n : Nat} {b : Bool} (hb : best[n]? = .some g) (hs : some[n]? = .some b) (hn : inR (n : Int) 1024 = true) (hlt : decide ((n : Int) < if false = true then if 1024 > f.til then 1024 else f.til else if 1024 < f.til then 1024 else f.til) = true) : (CW Du Γ0 (vaH kk ks ko known fs rs b0 s0 .ready [.var (f0.row.map .p)]) true (sub D2 1) (vaS kk ks ko known fs rs best some f (n : Int)) .normal (vaS kk ks ko known fs rs (bif vaHit f g b then best.set n f else best) (bif vaHit f g b then some.set n true else some) f (Dz.wrap ((n : Int) + 1)))) := by
 cases hc0 : !b || decide (orI (aW f.known g.known) (aW f.no g.no) ≥ 0)
 ·refine DU (DV (s' := { t := mkT 63 0 [(6, .ref (.ptr 1 0)), (7, .ref (.ptr 2 0)), (8, .ref (.ptr 3 0)), (9, .ref (.ptr 10 0)), (10, int (DG Dz ((↑n : Int) + 1)))], h := (fH kk ks ko known fs rs best some f), m := [] }) (e := DQ) pok [.st (.mask [6, 7, 8, 9, 10])] [.b true, .ov 31 (bool b), .ov 37 (ag (DE g)), .val (int (orI (aW f.known g.known) (aW f.no g.no))), .b false] (by kernel_rfl) (.c hlt (.c hn (.c (show bn Du (fH kk ks ko known fs rs best some f) 4 (.ref (.ptr 3 (0 + DN (↑n : Int) * 1))) = FG (bool b) from ?_) (.c (show (!!b) = true → inR (↑n : Int) 1024 = true from (fun hg => hn)) (.c (show (!!b) = true → bn Du (fH kk ks ko known fs rs best some f) 60 (evalD Γ0 (Dt d7 (mkT 63 0 [(6, .ref (.ptr 1 0)), (7, .ref (.ptr 2 0)), (8, .ref (.ptr 3 0)), (9, .ref (.ptr 10 0)), (10, int (↑n : Int)), (21, int (↑n : Int)), (22, .ref (.ptr 10 4)), (23, .ref (.ptr 10 5)), (24, int f.til), (25, int (if false = true then if 1024 > f.til then 1024 else f.til else if 1024 < f.til then 1024 else f.til)), (26, bool (decide ((↑n : Int) < if false = true then if 1024 > f.til then 1024 else f.til else if 1024 < f.til then 1024 else f.til))), (29, int (↑n : Int)), (30, .ref (.ptr 3 (0 + DN (↑n : Int) * 1))), (31, bool b), (32, bool !b), (33, bool !b), (34, Gx (!!b) (EB [int f.kind, int f.sub, int f.obj, int f.value, int f.frm, int f.til, int f.known, int f.no])), (35, Gx (!!b) (int (↑n : Int))), (36, Gx (!!b) (.ref (.ptr 2 (0 + DN (↑n : Int) * 8))))])) (Operand.tmp 36)) = FG (EB [int g.kind, int g.sub, int g.obj, int g.value, int g.frm, int g.til, int g.known, int g.no]) from (fun hg => ?_)) (.c (gd (!!b) (@oe f g (fH kk ks ko known fs rs best some f))) (.c hc0 .n)))))))) (by first | rfl | (have hh : vaHit f g b = true := hc0; simp only [hh, cond_true]; first | done | rfl) | (have hh : vaHit f g b = false := hc0; simp only [hh, cond_false]; first | done | rfl)) (by first | rfl | (have hh : vaHit f g b = true := hc0; simp only [hh, cond_true]; first | done | rfl) | (have hh : vaHit f g b = false := hc0; simp only [hh, cond_false]; first | done | rfl)) <;> (first | assumption | rfl | exact og rfl hs (by simp) | exact wD rfl hb (by simp) | exact Al rfl (fU hb) (by simp) | exact Am rfl (fU hs) (by simp) | (simp_all; done))
 ·let v0 : List D := [int f.kind, int f.sub, int f.obj, int f.value, int f.frm, int f.til, int f.known, int f.no]
  let v1 : List Blk := [.var [int kk, int ks, int ko], .var rs, .var (DK (cg (Gg best n f))), .var (DK (cH (Gg some n true))), .var [ab fs], .var [int kk, int ks, int ko], .var [int known], .defd, .loop Fb none 0 (mkT 63 0 [(6, .ref (.ptr 1 0)), (7, .ref (.ptr 2 0)), (8, .ref (.ptr 3 0)), (15, EO (DW 178) [] [.ref (.ptr 4 0), .ref (.ptr 5 0), .ref (.ptr 6 0)])]) { toList := [16] } (aC (sub D2 0)) (ak (sub D2 0)), .var v0, .var v0]
  let v2 : List Blk := [.var [int kk, int ks, int ko], .var rs, .var (DK (cg (Gg best n f))), .var (DK (cH some)), .var [ab fs], .var [int kk, int ks, int ko], .var [int known], .defd, .loop Fb none 0 (mkT 63 0 [(6, .ref (.ptr 1 0)), (7, .ref (.ptr 2 0)), (8, .ref (.ptr 3 0)), (15, EO (DW 178) [] [.ref (.ptr 4 0), .ref (.ptr 5 0), .ref (.ptr 6 0)])]) { toList := [16] } (aC (sub D2 0)) (ak (sub D2 0)), .var v0, .var v0]
  let v3 := EB [int g.kind, int g.sub, int g.obj, int g.value, int g.frm, int g.til, int g.known, int g.no]
  let v4 := Dt D.p (DE f)
  refine DU (DV (s' := { t := mkT 63 0 [(6, .ref (.ptr 1 0)), (7, .ref (.ptr 2 0)), (8, .ref (.ptr 3 0)), (9, .ref (.ptr 10 0)), (10, int (DG Dz ((↑n : Int) + 1)))], h := v1, m := [] }) (e := DQ) pok [.st (.mask [6, 7, 8, 9, 10])] [.b true, .ov 31 (bool b), .ov 37 (ag (DE g)), .val (int (orI (aW f.known g.known) (aW f.no g.no))), .b true, .oh 10044 EN (vaH kk ks ko known fs rs (Gg best n f) some Fb [.var v4, .var v4]), .oh 10045 EN (vaH kk ks ko known fs rs (Gg best n f) (Gg some n true) Fb [.var v4, .var v4])] (by kernel_rfl) (.c hlt (.c hn (.c (show bn Du (fH kk ks ko known fs rs best some f) 4 (.ref (.ptr 3 (0 + DN (↑n : Int) * 1))) = FG (bool b) from ?_) (.c (show (!!b) = true → inR (↑n : Int) 1024 = true from (fun hg => hn)) (.c (show (!!b) = true → bn Du (fH kk ks ko known fs rs best some f) 60 (evalD Γ0 (Dt d7 (mkT 63 0 [(6, .ref (.ptr 1 0)), (7, .ref (.ptr 2 0)), (8, .ref (.ptr 3 0)), (9, .ref (.ptr 10 0)), (10, int (↑n : Int)), (21, int (↑n : Int)), (22, .ref (.ptr 10 4)), (23, .ref (.ptr 10 5)), (24, int f.til), (25, int (if false = true then if 1024 > f.til then 1024 else f.til else if 1024 < f.til then 1024 else f.til)), (26, bool (decide ((↑n : Int) < if false = true then if 1024 > f.til then 1024 else f.til else if 1024 < f.til then 1024 else f.til))), (29, int (↑n : Int)), (30, .ref (.ptr 3 (0 + DN (↑n : Int) * 1))), (31, bool b), (32, bool !b), (33, bool !b), (34, Gx (!!b) (EB v0)), (35, Gx (!!b) (int (↑n : Int))), (36, Gx (!!b) (.ref (.ptr 2 (0 + DN (↑n : Int) * 8))))])) (Operand.tmp 36)) = FG v3 from (fun hg => ?_)) (.c (gd (!!b) (@oe f g (fH kk ks ko known fs rs best some f))) (.c hc0 (.c hn (.c (show bM Du (fH kk ks ko known fs rs best some f) 60 (.ref (.ptr 2 (0 + DN (↑n : Int) * 8))) (EB v0) = FG v2 from ?_) (.c hn (.c (show bM Du v2 4 (.ref (.ptr 3 (0 + DN (↑n : Int) * 1))) (evalD Γ0 (mkT 63 0 [(6, .ref (.ptr 1 0)), (7, .ref (.ptr 2 0)), (8, .ref (.ptr 3 0)), (9, .ref (.ptr 10 0)), (10, int (↑n : Int)), (21, int (↑n : Int)), (22, .ref (.ptr 10 4)), (23, .ref (.ptr 10 5)), (24, int f.til), (25, int (if false = true then if 1024 > f.til then 1024 else f.til else if 1024 < f.til then 1024 else f.til)), (26, bool (decide ((↑n : Int) < if false = true then if 1024 > f.til then 1024 else f.til else if 1024 < f.til then 1024 else f.til))), (29, int (↑n : Int)), (30, .ref (.ptr 3 (0 + DN (↑n : Int) * 1))), (31, bool b), (32, bool !b), (33, bool !b), (34, Gx (!!b) (EB v0)), (35, Gx (!!b) (int (↑n : Int))), (36, Gx (!!b) (.ref (.ptr 2 (0 + DN (↑n : Int) * 8)))), (37, Gx (!!b) v3), (38, Gx (!!b) (int (orI (aW f.known g.known) (aW f.no g.no)))), (39, Gx (!!b) (bool (decide (orI (aW f.known g.known) (aW f.no g.no) ≥ 0)))), (40, bool (!b || decide (orI (aW f.known g.known) (aW f.no g.no) ≥ 0))), (41, int (↑n : Int)), (42, int (↑n : Int)), (43, EB v0), (44, .ref (.ptr 2 (0 + DN (↑n : Int) * 8))), (45, .ref (.ptr 3 (0 + DN (↑n : Int) * 1)))]) (H6 (Value.bool true))) = FG v1 from ?_) .n)))))))))))) (by subst v0 v1 v2 v3 v4; first | rfl | (have hh : vaHit f g b = true := hc0; simp only [hh, cond_true]; first | done | rfl) | (have hh : vaHit f g b = false := hc0; simp only [hh, cond_false]; first | done | rfl)) (by subst v0 v1 v2 v3 v4; first | rfl | (have hh : vaHit f g b = true := hc0; simp only [hh, cond_true]; first | done | rfl) | (have hh : vaHit f g b = false := hc0; simp only [hh, cond_false]; first | done | rfl)) <;> subst v0 v1 v2 v3 v4 <;> (first | assumption | rfl | exact og rfl hs (by simp) | exact wD rfl hb (by simp) | exact Al rfl (fU hb) (by simp) | exact Am rfl (fU hs) (by simp) | (simp_all; done))
theorem va_l {kk ks ko known : Int} {fs : List (List Dp)} {rs : List D} {best b0 : List FactT} {some s0 : List Bool} {f f0 : FactT} {x : Int} (hlt : decide (x < if false = true then if 1024 > f.til then 1024 else f.til else if 1024 < f.til then 1024 else f.til) = false) : (CW Du Γ0 (vaH kk ks ko known fs rs b0 s0 .ready [.var (f0.row.map .p)]) true (sub D2 1) (vaS kk ks ko known fs rs best some f x) (.exit 2) { t := mkT 63 0 [], h := vaH kk ks ko known fs rs best some .busy [.var (f.row.map .p), .var (f.row.map .p)], m := [] }) := by
 let v0 : List D := [int f.kind, int f.sub, int f.obj, int f.value, int f.frm, int f.til, int f.known, int f.no]
 exact DU (DV (s' := { t := mkT 63 0 [], h := [.var [int kk, int ks, int ko], .var rs, .var (DK (cg best)), .var (DK (cH some)), .var [ab fs], .var [int kk, int ks, int ko], .var [int known], .defd, .loop Fb none 0 (mkT 63 0 [(6, .ref (.ptr 1 0)), (7, .ref (.ptr 2 0)), (8, .ref (.ptr 3 0)), (15, EO (DW 178) [] [.ref (.ptr 4 0), .ref (.ptr 5 0), .ref (.ptr 6 0)])]) { toList := [16] } (aC (sub D2 0)) (ak (sub D2 0)), .var v0, .var v0], m := [] }) (e := Ea 2) pok [.st (.mask [])] [.b false] (by kernel_rfl) (.c hlt .n)) (by rfl) (by rfl)
abbrev VS := List FactT × List Bool
def VS.ok (s : VS) : Prop := s.1.length = 1024 ∧ s.2.length = 1024
def uA (f : FactT) : Int := if f.til < 1024 then f.til else 1024
def fe (f : FactT) (s : VS) (n : Nat) : VS := bif vaHit f (s.1.getD n default) (s.2.getD n false) then (s.1.set n f, s.2.set n true) else s
def wE (f : FactT) (x : Int) (s : VS) : VS := (List.range' x.toNat (uA f - x).toNat).foldl (fe f) s
theorem vaStep_ok {f : FactT} {s : VS} (n : Nat) (h : s.ok) : (fe f s n).ok := by
 unfold fe
 cases vaHit f (s.1.getD n default) (s.2.getD n false)
 ·exact h
 ·exact ⟨by simpa using h.1, by simpa using h.2⟩
theorem wF (f : FactT) : (if false = true then if 1024 > f.til then 1024 else f.til else if 1024 < f.til then 1024 else f.til) = uA f := by
 unfold uA; simp; split <;> split <;> omega
theorem va_cw {kk ks ko known : Int} {fs : List (List Dp)} {rs : List D} {best b0 : List FactT} {some s0 : List Bool} {f f0 : FactT} {x : Int} (hx : 0 ≤ x) (ho : VS.ok (best, some)) :
  CW Du Γ0 (vaH kk ks ko known fs rs b0 s0 .ready [.var (f0.row.map .p)]) true (.loop (sub D2 1)) (vaS kk ks ko known fs rs best some f x) (.exit 2) { t := mkT 63 0 [], h := vaH kk ks ko known fs rs (wE f x (best, some)).1 (wE f x (best, some)).2 .busy [.var (f.row.map .p), .var (f.row.map .p)], m := [] } := by
 have hx' : ((x.toNat : Nat) : Int) = x := by omega
 have hh : uA f ≤ 1024 := by unfold uA; split <;> omega
 have := CW.each (P := Du) (Γ := Γ0) (h0 := vaH kk ks ko known fs rs b0 s0 .ready [.var (f0.row.map .p)]) (rd := true) (c := sub D2 1) (σ := VS) (ρ := Empty) (List.range' x.toNat (uA f - x).toNat) (fun n s => .inl (fe f s n))
  (fun i s => vaS kk ks ko known fs rs s.1 s.2 f (x + (i : Int))) (.exit 2) (fun s => { t := mkT 63 0 [], h := vaH kk ks ko known fs rs s.1 s.2 .busy [.var (f.row.map .p), .var (f.row.map .p)], m := [] }) (fun r => r.elim)
  (fun _ s => s.ok) (by simp) (fun r => r.elim) ?_ ?_ (best, some) ho
 ·rw [aY (fun s n => fe f s n)] at this
  simpa [ck, wE] using this
 ·intro i n s hn hs
  obtain ⟨hi, he⟩ := DA.1 hn
  simp only [List.length_range'] at hi
  simp only [List.getElem_range', Nat.one_mul] at he
  have hlt : (n : Int) < uA f := by omega
  have hb : s.1[n]? = .some (s.1.getD n default) := by
   rw [D9, DT (by rw [hs.1]; omega)]; rfl
  have hc : s.2[n]? = .some (s.2.getD n false) := by
   rw [D9, DT (by rw [hs.2]; omega)]; rfl
  refine ⟨fun s' h => by cases h; exact vaStep_ok n hs, ?_⟩
  have key := va_b (kk := kk) (ks := ks) (ko := ko) (known := known) (fs := fs) (rs := rs) (b0 := b0) (s0 := s0) (f := f) (f0 := f0) hb hc (by simp [inR]; omega) (by rw [wF]; simpa using hlt)
  rw [wrap_i64 (by omega) (by omega)] at key
  have e1 : x + (i : Int) = (n : Int) := by omega
  have e2 : x + ((i + 1 : Nat) : Int) = (n : Int) + 1 := by omega
  simp only [ad, e1, e2]
  unfold fe
  cases hq : vaHit f (s.1.getD n default) (s.2.getD n false) <;> rw [hq] at key <;> exact key
 ·intro s _
  refine va_l ?_
  rw [wF]
  simp
  omega
theorem Bz {kk ks ko known : Int} {fs : List (List Dp)} {rs : List D} {best : List FactT} {some : List Bool} (ho : VS.ok (best, some)) {f : FactT} : (CW Du Γ0 (vaH kk ks ko known fs rs best some .ready [.var (f.row.map .p)]) true (ak (sub D2 0)) { t := vaU, h := vaH kk ks ko known fs rs best some .busy [.var (f.row.map .p), .var (f.row.map .p)], m := [] } .normal { t := mkT 63 0 [], h := vaH kk ks ko known fs rs (wE f (if true = true then if f.frm > 0 then f.frm else 0 else if f.frm < 0 then f.frm else 0) (best, some)).1 (wE f (if true = true then if f.frm > 0 then f.frm else 0 else if f.frm < 0 then f.frm else 0) (best, some)).2 .busy [.var (f.row.map .p), .var (f.row.map .p)], m := [] }) := by
 have hl0 := (@va_cw (kk) (ks) (ko) (known) (fs) (rs) (best) (best) (some) (some) (f) (f) (if true = true then if f.frm > 0 then f.frm else 0 else if f.frm < 0 then f.frm else 0) (by first | assumption | (simp; split <;> omega) | (simp; done)) (ho))
 let v1 : List D := [int f.kind, int f.sub, int f.obj, int f.value, int f.frm, int f.til, int f.known, int f.no]
 let v0 : List Blk := [.var [int kk, int ks, int ko], .var rs, .var (DK (cg (wE f (if true = true then if f.frm > 0 then f.frm else 0 else if f.frm < 0 then f.frm else 0) (best, some)).fst)), .var (DK (cH (wE f (if true = true then if f.frm > 0 then f.frm else 0 else if f.frm < 0 then f.frm else 0) (best, some)).snd)), .var [ab fs], .var [int kk, int ks, int ko], .var [int known], .defd, .loop Fb none 0 (mkT 63 0 [(6, .ref (.ptr 1 0)), (7, .ref (.ptr 2 0)), (8, .ref (.ptr 3 0)), (15, EO (DW 178) [] [.ref (.ptr 4 0), .ref (.ptr 5 0), .ref (.ptr 6 0)])]) { toList := [16] } (aC (sub D2 0)) (ak (sub D2 0)), .var v1, .var v1]
 exact DU (DV (s' := { t := mkT 63 0 [], h := v0, m := [] }) (e := DQ) pok [.st (.mask [])] [.sum [6, 7, 8, 9, 10] (Ea 2) { t := mkT 63 0 [], h := v0, m := [] }] (by kernel_rfl) (.c hl0 .n)) (by rfl) (by rfl)
end Go.Vi
