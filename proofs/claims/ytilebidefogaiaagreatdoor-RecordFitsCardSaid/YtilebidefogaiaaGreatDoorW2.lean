/- RecordFits: part of the proof: contracts of the functions that the law reaches, and the law. No conditions beyond the given statement's own. -/
import Derived.Test.YtilebidefogaiaaGreatDoorW1
import Derived.Shelf.Slices.In.SortAlone
import Derived.Shelf.Slices.In.SortNone
import Derived.Sort.EveryDepth
open Go.Vi.RuleT renaming fl → Dn, bad → Hp
open Go.Proofs.Tryz renaming prog → Dg, f34 → It, f159 → DK
open Go.Vi.Ev renaming castH → Dv, glob0 → DW, frameX → FD
open Go.Vi.SysT renaming row → Dw
open Go.Vi.FactT renaming row → Ds
open List renaming getElem?_eq_getElem → DF, getD → DS, map → De, length → Dh, map_cons → En, flatten_cons → Eo, cons_append → GK, ext_getElem? → F1, getElem?_append_left → DB, getElem?_append_right → Eb, idxOf?_eq_none_iff → GG, all → Fk, contains → Es, getElem?_eq_some_iff → Dm, mergeSort → Ey, flatten → Dx, mem_map → DL, set → F2
open Int renaming toNat → Dz
open Go.IntKind renaming i64 → Dj, wrap → Dr
open Go.Vi.D renaming tup → Em, agg → EB, fn → EA, mapRL → D6, mapR → DC, innL → Fw, inn → Fg, one → Gx, any → EF, grd → Hk
open Go.Vi.Dp renaming sl → Hf
open Go.Fn renaming func → DG
open Go.Value renaming int → FP, tuple → FZ, oneCell' → El
open Array renaming getElem?_eq_some_iff → Fa, getElem?_modify → F4
open Go.Sort renaming grow → GV, putRow → E5, ahead → Fe, putCells → Ft, heap_grow_old → GC, mapBlock → EX
open Nat renaming le_of_not_lt → FJ
open Function renaming comp_def → Ic
open Go.Vi.CW renaming cast → DN, symX → DP
open Go.Exit renaming normal → DE, exit → Ea
open Bool renaming false_and → Ej, and_self → EU, true_and → EM, and_true → Fz, and_false → Ep
open Go.Operand renaming const → HO
open Go.LoopState renaming busy → ES
open Option renaming some → Fm
open Go Go.Proofs
namespace Go.Vi
set_option maxRecDepth 100000
set_option maxHeartbeats 4000000
structure CourseT where
 name : ByteArray
 number : Int
 credits : Int
 rep : Int
 need : RuleT
 bar : RuleT
def CourseT.row (c : CourseT) : List Dp := [vs c.name, vi c.number, vi c.credits, vi c.rep,
 vi c.need.fl.op, vi c.need.fl.c, vs c.need.fl.nm, vi c.need.fl.n, vi c.need.fl.d, .sl c.need.fl.ks, vi c.bar.fl.op, vi c.bar.fl.c, vs c.bar.fl.nm, vi c.bar.fl.n, vi c.bar.fl.d, .sl c.bar.fl.ks]
def CourseT.ok (c : CourseT) : Prop := c.need.ok ∧ c.bar.ok
def dR (c : CourseT) : Bool := inB c.number 0 4095 && inB c.credits 1 60 && inB c.rep 0 2 && (dQ c.need.bad == 0) && (dQ c.bar.bad == 0)
noncomputable abbrev cK (c : CourseT) : List Blk := [.var [aA c.name, int c.number, int c.credits, int c.rep, int (Dn c.need).op, int (Dn c.need).c, aA (Dn c.need).nm, int (Dn c.need).n, int (Dn c.need).d, ab (Dn c.need).ks, int (Dn c.bar).op, int (Dn c.bar).c, aA (Dn c.bar).nm, int (Dn c.bar).n, int (Dn c.bar).d, ab (Dn c.bar).ks]]
theorem um {c : CourseT} (hc : c.ok) (h : List Blk) : (Ev Dg Γk 198 [ag c.row] h (bool (dR c)) h) := by
 refine Dv (Ev.sym0 (d := bool (decide (c.number ≥ 0) && decide (c.number ≤ 4095) && (decide (c.credits ≥ 1) && decide (c.credits ≤ 60)) && (decide (c.rep ≥ 0) && decide (c.rep ≤ 2)) && dQ (Hp c.need) == 0 && dQ (Hp c.bar) == 0)) pok [.val (bool (decide (c.number ≥ 0) && decide (c.number ≤ 4095))), .val (bool (decide (c.credits ≥ 1) && decide (c.credits ≤ 60))), .val (bool (decide (c.rep ≥ 0) && decide (c.rep ≤ 2))), .val (int (dQ (Hp c.need))), .val (int (dQ (Hp c.bar)))] (by kernel_rfl) (.c (DW (Γ' := Γk) (@eA (c.number) 0 4095 (cK c))) (.c (gd (decide (c.number ≥ 0) && decide (c.number ≤ 4095)) (DW (Γ' := Γk) (@eA (c.credits) 1 60 (cK c)))) (.c (gd (decide (c.number ≥ 0) && decide (c.number ≤ 4095) && (decide (c.credits ≥ 1) && decide (c.credits ≤ 60))) (DW (Γ' := Γk) (@eA (c.rep) 0 2 (cK c)))) (.c (gd (decide (c.number ≥ 0) && decide (c.number ≤ 4095) && (decide (c.credits ≥ 1) && decide (c.credits ≤ 60)) && (decide (c.rep ≥ 0) && decide (c.rep ≤ 2))) (@hB (c.need) ?_ (cK c))) (.c (gd (decide (c.number ≥ 0) && decide (c.number ≤ 4095) && (decide (c.credits ≥ 1) && decide (c.credits ≤ 60)) && (decide (c.rep ≥ 0) && decide (c.rep ≤ 2)) && dQ (Hp c.need) == 0) (@hB (c.bar) ?_ (cK c))) .n))))) rfl rfl h) (by rfl) (by rfl) <;> (first | assumption | exact hc.1 | exact hc.2)
noncomputable abbrev rE (c : CourseT) (n : Int) : List Blk := [.var [int n], .var [aA c.name, int c.number, int c.credits, int c.rep, int (Dn c.need).op, int (Dn c.need).c, aA (Dn c.need).nm, int (Dn c.need).n, int (Dn c.need).d, ab (Dn c.need).ks, int (Dn c.bar).op, int (Dn c.bar).c, aA (Dn c.bar).nm, int (Dn c.bar).n, int (Dn c.bar).d, ab (Dn c.bar).ks]]
theorem s9 {c : CourseT} (hc : c.ok) {n : Int} : (Ev Dg Γk 197 [ag c.row, .ref (.ptr 0 0)] [.var [int n]] (bool (c.number == n && dR c)) [.var [int n]]) := by
 exact Dv (Ev.symT (h' := [.var [int n]]) (d := bool (c.number == n && dR c)) pok [.val (bool (dR c))] (by kernel_rfl) (.c (gd (c.number == n) (@um c hc (rE c n))) .n)) (by rfl) (by rfl)
structure WorldT where
 c : List CourseT
 p : List (List Dp)
 s : List SysT
 f : List FactT
def WorldT.l (w : WorldT) : List D := [ab (w.c.map CourseT.row), ab w.p, ab (w.s.map Dw), ab (w.f.map Ds)]
abbrev atA (w : WorldT) (kk ks ko term known : Int) : List D := [ab (w.f.map Ds), .agg [int kk, int ks, int ko], int term, int known]
abbrev yI (kk ks ko a b : Int) : List (List Dp) := [[vi kk, vi ks, vi ko, vi a, vi b]]
theorem bl {α : Type} [Inhabited α] {row : α → List Dp} {l : List α} {v : Int} {sz : Nat} (hs : ∀ x, (row x).length = sz) (h0 : 0 ≤ v) (h1 : v < (l.length : Int)) : aM v (l.map row) (row (l.getD v.toNat default)) sz := by
 obtain ⟨n, rfl⟩ : ∃ n : Nat, v = n := ⟨v.toNat, by omega⟩
 have hn : n < l.length := by omega
 have hx : l[n]? = some l[n] := DF hn
 have : l.getD (Dz (n : Int)) default = l[n] := by simp [DS, hx]
 rw [this]
 exact rowAt hx (hs _)
def fV {α : Type} [Inhabited α] (l : List α) (valid : α → Bool) (p : Int × Bool) : Bool := !p.2 || decide (p.1 < 0) || decide (p.1 ≥ (l.length : Int)) || !valid (l.getD p.1.toNat default)
def n9 {α : Type} [Inhabited α] (l : List α) (valid : α → Bool) (z : α) (p : Int × Bool) : α × Bool := match fV l valid p with
 | true => (z, false)
 | false => (l.getD p.1.toNat default, true)
theorem wi {α : Type} [Inhabited α] {l : List α} {valid : α → Bool} {p : Int × Bool} (h : fV l valid p = false) : l.getD p.1.toNat default ∈ l ∧ valid (l.getD p.1.toNat default) = true ∧ p.2 = true ∧ 0 ≤ p.1 ∧ p.1 < l.length := by
 unfold fV at h
 simp only [Bool.or_eq_false_iff, Bool.not_eq_false', decide_eq_false_iff_not] at h
 obtain ⟨⟨⟨h1, h2⟩, h3⟩, h4⟩ := h
 refine ⟨?_, h4, h1, by omega, by omega⟩
 have : p.1.toNat < l.length := by omega
 rw [DS, DF this]
 exact List.getElem_mem this
structure WorldT.ok (w : WorldT) : Prop where
 c : ∀ x ∈ w.c, x.ok
 s : ∀ x ∈ w.s, x.ok
 lf : w.f.length ≤ 69000
 lc : al w.c
 ls : al w.s
 i : ∀ f ∈ w.f, f.ok
theorem WorldT.ok.sf {w : WorldT} (h : w.ok) : al w.f := by have := h.lf; unfold al; omega
def outB (term : Int) : Bool := !(decide (term ≥ 0) && decide (term ≤ 1023))
def kT (kk ks ko term : Int) : List (List Dp) := match outB term with
 | true => []
 | false => yI kk ks ko term (Dj.wrap (term + 1))
def RuleT.zero : RuleT := .mk 0 0 ⟨#[]⟩ 0 0 []
def CourseT.zero : CourseT := ⟨⟨#[]⟩, 0, 0, 0, RuleT.zero, RuleT.zero⟩
instance : Inhabited CourseT := ⟨CourseT.zero⟩
theorem CourseT.zero_ok : CourseT.zero.ok := by
 have : RuleT.zero.ok := ⟨by unfold I64 al; simp, trivial⟩
 exact ⟨this, this⟩
theorem i4 {l : List CourseT} (h : ∀ x ∈ l, x.ok) (n : Nat) : (l.getD n default).ok := by
 rcases Nat.lt_or_ge n l.length with hn | hn
 ·rw [DS, DF hn]; exact h _ (List.getElem_mem hn)
 ·rw [DS, List.getElem?_eq_none hn]; exact CourseT.zero_ok
abbrev crsZ : D := ag CourseT.zero.row
def b5 (n : Int) (c : CourseT) : Bool := c.number == n && dR c
noncomputable abbrev lc0_x0 (w : WorldT) (n : Int) : List Blk := [.var [int n], .var [ab (De CourseT.row w.c), ab w.p, ab (De Dw w.s), ab (De Ds w.f)], .var [int 1, int n, int 0], .var [aA { data := #[] }, int 0, int 0, int 0, int 0, int 0, aA { data := #[] }, int 0, int 0, nq, int 0, int 0, aA { data := #[] }, int 0, int 0, nq]]
theorem lc0 {w : WorldT} {n term known : Int} (ht : (!(decide (term ≥ 0) && decide (term ≤ 1023))) = true) : (Ev Dg Γk 199 [.agg w.l, ab (w.c.map CourseT.row), .agg [int 1, int n, int 0], int term, int known, .fn (.func 197) [] [.ref (.ptr 0 0)]] [.var [int n]] (.tup [crsZ, ab [], bool false]) [.var [int n]]) := by
 exact Dv (Ev.nilW (Ev.symT (h' := [.var [int n]]) (d := Em [EB [aA { data := #[] }, int 0, int 0, int 0, int 0, int 0, aA { data := #[] }, int 0, int 0, nq, int 0, int 0, aA { data := #[] }, int 0, int 0, nq], nq, bool false]) pok [.val (bool (decide (term ≥ 0) && decide (term ≤ 1023))), .b true] (by kernel_rfl) (.c (DW (Γ' := Γk) (@eA term 0 1023 (lc0_x0 w n))) (.c ht .n)))) (by rfl) (by rfl)
noncomputable abbrev ta (w : WorldT) (v : Int) : List D := [EB [aA (DS w.c (Dz v) default).name, int (DS w.c (Dz v) default).number, int (DS w.c (Dz v) default).credits, int (DS w.c (Dz v) default).rep, int (Dn (DS w.c (Dz v) default).need).op, int (Dn (DS w.c (Dz v) default).need).c, aA (Dn (DS w.c (Dz v) default).need).nm, int (Dn (DS w.c (Dz v) default).need).n, int (Dn (DS w.c (Dz v) default).need).d, ab (Dn (DS w.c (Dz v) default).need).ks, int (Dn (DS w.c (Dz v) default).bar).op, int (Dn (DS w.c (Dz v) default).bar).c, aA (Dn (DS w.c (Dz v) default).bar).nm, int (Dn (DS w.c (Dz v) default).bar).n, int (Dn (DS w.c (Dz v) default).bar).d, ab (Dn (DS w.c (Dz v) default).bar).ks], .ref (.ptr 0 0)]
noncomputable abbrev jr (w : WorldT) (n : Int) : List Blk := [.var [int n], .var [ab (De CourseT.row w.c), ab w.p, ab (De Dw w.s), ab (De Ds w.f)], .var [int 1, int n, int 0], .var [aA { data := #[] }, int 0, int 0, int 0, int 0, int 0, aA { data := #[] }, int 0, int 0, nq, int 0, int 0, aA { data := #[] }, int 0, int 0, nq], .gone]
noncomputable abbrev zT (w : WorldT) (n : Int) : List Blk := [.var [int n], .var [ab (De CourseT.row w.c), ab w.p, ab (De Dw w.s), ab (De Ds w.f)], .var [int 1, int n, int 0], .var [aA { data := #[] }, int 0, int 0, int 0, int 0, int 0, aA { data := #[] }, int 0, int 0, nq, int 0, int 0, aA { data := #[] }, int 0, int 0, nq]]
theorem lc1 {w : WorldT} {n term known v : Int} {b : Bool} (ht : (!(decide (term ≥ 0) && decide (term ≤ 1023))) = false) (hat : ∀ h, Ev Dg Γk 86 (atA w 1 n 0 term known) h (.tup [int v, bool b]) h) (hs : ∀ x ∈ w.c, x.ok) : (Ev Dg Γk 199 [.agg w.l, ab (w.c.map CourseT.row), .agg [int 1, int n, int 0], int term, int known, .fn (.func 197) [] [.ref (.ptr 0 0)]] [.var [int n]] (.tup [ag (n9 w.c (b5 n) CourseT.zero (v, b)).1.row, ab (yI 1 n 0 term (Dj.wrap (term + 1))), bool (n9 w.c (b5 n) CourseT.zero (v, b)).2]) [.var [int n]]) := by
 cases hc0 : !b || decide (v < 0) || decide (v ≥ (↑(Dh (De CourseT.row w.c)) : Int)) || !((DS w.c (Dz v) default).number == n && dR (DS w.c (Dz v) default))
 ·let v0 := DS w.c (Dz v) default
  let v1 := De CourseT.row w.c
  let v2 : List D := [int 1, int n, int 0, int term, int (Dr Dj (term + 1))]
  refine Dv (Ev.nilW (Ev.symT (h' := [.var [int n]]) (d := Em [EB [aA v0.name, int v0.number, int v0.credits, int v0.rep, int (Dn v0.need).op, int (Dn v0.need).c, aA (Dn v0.need).nm, int (Dn v0.need).n, int (Dn v0.need).d, ab (Dn v0.need).ks, int (Dn v0.bar).op, int (Dn v0.bar).c, aA (Dn v0.bar).nm, int (Dn v0.bar).n, int (Dn v0.bar).d, ab (Dn v0.bar).ks], ab [[vi 1, vi n, vi 0, vi term, vi (Dr Dj (term + 1))]], bool true]) pok [.val (bool (decide (term ≥ 0) && decide (term ≤ 1023))), .b false, .nx 1, .st (.frz 4 (yI 1 n 0 term (Dr Dj (term + 1)))), .val (Em [int v, bool b]), .row [vs v0.name, vi v0.number, vi v0.credits, vi v0.rep, vi (Dn v0.need).op, vi (Dn v0.need).c, vs (Dn v0.need).nm, vi (Dn v0.need).n, vi (Dn v0.need).d, Hf (Dn v0.need).ks, vi (Dn v0.bar).op, vi (Dn v0.bar).c, vs (Dn v0.bar).nm, vi (Dn v0.bar).n, vi (Dn v0.bar).d, Hf (Dn v0.bar).ks], .val (bool (v0.number == n && dR v0)), .b false, .row [vs v0.name, vi v0.number, vi v0.credits, vi v0.rep, vi (Dn v0.need).op, vi (Dn v0.need).c, vs (Dn v0.need).nm, vi (Dn v0.need).n, vi (Dn v0.need).d, Hf (Dn v0.need).ks, vi (Dn v0.bar).op, vi (Dn v0.bar).c, vs (Dn v0.bar).nm, vi (Dn v0.bar).n, vi (Dn v0.bar).d, Hf (Dn v0.bar).ks]] (by kernel_rfl) (.c (DW (Γ' := Γk) (@eA term 0 1023 (zT w n))) (.c ht (.c (show [v2] = [v2] from rfl) (.c (@hat (jr w n)) (.c (show (!(!b || decide (v < 0) || decide (v ≥ (↑(Dh v1) : Int)))) = true → aM v v1 [vs v0.name, vi v0.number, vi v0.credits, vi v0.rep, vi (Dn v0.need).op, vi (Dn v0.need).c, vs (Dn v0.need).nm, vi (Dn v0.need).n, vi (Dn v0.need).d, Hf (Dn v0.need).ks, vi (Dn v0.bar).op, vi (Dn v0.bar).c, vs (Dn v0.bar).nm, vi (Dn v0.bar).n, vi (Dn v0.bar).d, Hf (Dn v0.bar).ks] 16 from (fun hg => ?_)) (.c (show (!(!b || decide (v < 0) || decide (v ≥ (↑(Dh v1) : Int)))) = true → Ev Dg Γk 197 (ta w v) (jr w n) (bool (v0.number == n && dR v0)) (jr w n) from (fun hg => (Dv (FD (args := (ta w v)) (H := (jr w n)) [0] (@s9 v0 ?_ n) (by kernel_rfl) (by kernel_rfl) (by kernel_rfl) trivial trivial) (by kernel_rfl) (by kernel_rfl)))) (.c hc0 (.c (show aM v v1 [vs v0.name, vi v0.number, vi v0.credits, vi v0.rep, vi (Dn v0.need).op, vi (Dn v0.need).c, vs (Dn v0.need).nm, vi (Dn v0.need).n, vi (Dn v0.need).d, Hf (Dn v0.need).ks, vi (Dn v0.bar).op, vi (Dn v0.bar).c, vs (Dn v0.bar).nm, vi (Dn v0.bar).n, vi (Dn v0.bar).d, Hf (Dn v0.bar).ks] 16 from ?_) .n)))))))))) (by subst v0 v1 v2; first | (have hb : fV w.c (b5 n) (v, b) = true := by rw [← hc0]; simp [fV, b5]); simp only [n9, hb]; rfl | (have hb : fV w.c (b5 n) (v, b) = false := by rw [← hc0]; simp [fV, b5]); simp only [n9, hb]; rfl | rfl) (by subst v0 v1 v2; first | (have hb : fV w.c (b5 n) (v, b) = true := by rw [← hc0]; simp [fV, b5]); simp only [n9, hb]; rfl | (have hb : fV w.c (b5 n) (v, b) = false := by rw [← hc0]; simp [fV, b5]); simp only []; rfl | rfl) <;> subst v0 v1 v2 <;> (first | assumption | exact i4 hs _ | (refine bl (fun _ => rfl) ?_ ?_ <;> simp_all; done) | (simp_all; done))
 ·let v0 := DS w.c (Dz v) default
  let v1 : List D := [int 1, int n, int 0, int term, int (Dr Dj (term + 1))]
  refine Dv (Ev.nilW (Ev.symT (h' := [.var [int n]]) (d := Em [EB [aA { data := #[] }, int 0, int 0, int 0, int 0, int 0, aA { data := #[] }, int 0, int 0, nq, int 0, int 0, aA { data := #[] }, int 0, int 0, nq], ab [[vi 1, vi n, vi 0, vi term, vi (Dr Dj (term + 1))]], bool false]) pok [.val (bool (decide (term ≥ 0) && decide (term ≤ 1023))), .b false, .nx 1, .st (.frz 4 (yI 1 n 0 term (Dr Dj (term + 1)))), .val (Em [int v, bool b]), .row [vs v0.name, vi v0.number, vi v0.credits, vi v0.rep, vi (Dn v0.need).op, vi (Dn v0.need).c, vs (Dn v0.need).nm, vi (Dn v0.need).n, vi (Dn v0.need).d, Hf (Dn v0.need).ks, vi (Dn v0.bar).op, vi (Dn v0.bar).c, vs (Dn v0.bar).nm, vi (Dn v0.bar).n, vi (Dn v0.bar).d, Hf (Dn v0.bar).ks], .val (bool (v0.number == n && dR v0)), .b true] (by kernel_rfl) (.c (DW (Γ' := Γk) (@eA term 0 1023 (zT w n))) (.c ht (.c (show [v1] = [v1] from rfl) (.c (@hat (jr w n)) (.c (show (!(!b || decide (v < 0) || decide (v ≥ (↑(Dh (De CourseT.row w.c)) : Int)))) = true → aM v (De CourseT.row w.c) [vs v0.name, vi v0.number, vi v0.credits, vi v0.rep, vi (Dn v0.need).op, vi (Dn v0.need).c, vs (Dn v0.need).nm, vi (Dn v0.need).n, vi (Dn v0.need).d, Hf (Dn v0.need).ks, vi (Dn v0.bar).op, vi (Dn v0.bar).c, vs (Dn v0.bar).nm, vi (Dn v0.bar).n, vi (Dn v0.bar).d, Hf (Dn v0.bar).ks] 16 from (fun hg => (by subst v0 v1; first | assumption | exact i4 hs _ | (refine bl (fun _ => rfl) ?_ ?_ <;> simp_all; done) | (simp_all; done)))) (.c (show (!(!b || decide (v < 0) || decide (v ≥ (↑(Dh (De CourseT.row w.c)) : Int)))) = true → Ev Dg Γk 197 (ta w v) (jr w n) (bool (v0.number == n && dR v0)) (jr w n) from (fun hg => (Dv (FD (args := (ta w v)) (H := (jr w n)) [0] (@s9 v0 (by subst v0 v1; first | assumption | exact i4 hs _ | (refine bl (fun _ => rfl) ?_ ?_ <;> simp_all; done) | (simp_all; done)) n) (by kernel_rfl) (by kernel_rfl) (by kernel_rfl) trivial trivial) (by kernel_rfl) (by kernel_rfl)))) (.c hc0 .n))))))))) ?_ ?_ <;> subst v0 v1 <;> (first | (have hb : fV w.c (b5 n) (v, b) = true := by rw [← hc0]; simp [fV, b5]); simp only [n9, hb]; rfl | (have hb : fV w.c (b5 n) (v, b) = false := by rw [← hc0]; simp [fV, b5]); simp only [n9, hb]; rfl | rfl)
def ac (w : WorldT) (n term known : Int) : CourseT × Bool := match outB term with
 | true => (CourseT.zero, false)
 | false => n9 w.c (b5 n) CourseT.zero (atR 1 n 0 term known w.f)
theorem un {w : WorldT} (hw : w.ok) {n term known : Int} : Ev Dg Γk 199 [.agg w.l, ab (w.c.map CourseT.row), .agg [int 1, int n, int 0], int term, int known, .fn (.func 197) [] [.ref (.ptr 0 0)]] [.var [int n]] (.tup [ag (ac w n term known).1.row, ab (kT 1 n 0 term), bool (ac w n term known).2]) [.var [int n]] := by
 unfold ac kT
 cases ht : outB term with
 | true => exact lc0 ht
 | false => exact lc1 ht (fun h => DW (yD hw.sf h)) hw.c
noncomputable abbrev fA (w : WorldT) (n : Int) : List Blk := [.var [ab (De CourseT.row w.c), ab w.p, ab (De Dw w.s), ab (De Ds w.f)], .var [int n], .var [aA { data := #[] }, int 0, int 0, int 0, int 0, int 0, aA { data := #[] }, int 0, int 0, nq, int 0, int 0, aA { data := #[] }, int 0, int 0, nq]]
theorem uo {w : WorldT} (hw : w.ok) {n term known : Int} (h : List Blk) : (Ev Dg Γk 161 [.agg w.l, int n, int term, int known] h (.tup [ag (ac w n term known).1.row, ab (kT 1 n 0 term), bool (ac w n term known).2]) h) := by
 let v0 := Em [EB [aA (ac w n term known).fst.name, int (ac w n term known).fst.number, int (ac w n term known).fst.credits, int (ac w n term known).fst.rep, int (Dn (ac w n term known).fst.need).op, int (Dn (ac w n term known).fst.need).c, aA (Dn (ac w n term known).fst.need).nm, int (Dn (ac w n term known).fst.need).n, int (Dn (ac w n term known).fst.need).d, ab (Dn (ac w n term known).fst.need).ks, int (Dn (ac w n term known).fst.bar).op, int (Dn (ac w n term known).fst.bar).c, aA (Dn (ac w n term known).fst.bar).nm, int (Dn (ac w n term known).fst.bar).n, int (Dn (ac w n term known).fst.bar).d, ab (Dn (ac w n term known).fst.bar).ks], ab (kT 1 n 0 term), bool (ac w n term known).snd]
 exact Dv (Ev.sym0 (d := Em [EB [aA (ac w n term known).fst.name, int (ac w n term known).fst.number, int (ac w n term known).fst.credits, int (ac w n term known).fst.rep, int (Dn (ac w n term known).fst.need).op, int (Dn (ac w n term known).fst.need).c, aA (Dn (ac w n term known).fst.need).nm, int (Dn (ac w n term known).fst.need).n, int (Dn (ac w n term known).fst.need).d, ab (Dn (ac w n term known).fst.need).ks, int (Dn (ac w n term known).fst.bar).op, int (Dn (ac w n term known).fst.bar).c, aA (Dn (ac w n term known).fst.bar).nm, int (Dn (ac w n term known).fst.bar).n, int (Dn (ac w n term known).fst.bar).d, ab (Dn (ac w n term known).fst.bar).ks], ab (kT 1 n 0 term), bool (ac w n term known).snd]) pok [.val v0] (by kernel_rfl) (.c (show Ev Dg Γk 199 [EB (WorldT.l w), ab (De CourseT.row w.c), EB [int 1, int n, int 0], int term, int known, EA (DG 197) [] [.ref (.ptr 1 0)]] (fA w n) v0 (fA w n) from (Dv (FD (args := [EB (WorldT.l w), ab (De CourseT.row w.c), EB [int 1, int n, int 0], int term, int known, EA (DG 197) [] [.ref (.ptr 1 0)]]) (H := (fA w n)) [1] (@un w hw n term known) (by kernel_rfl) (by kernel_rfl) (by kernel_rfl) trivial trivial) (by kernel_rfl) (by kernel_rfl))) .n) rfl rfl h) (by rfl) (by rfl)
end Go.Vi
open Go Go.Proofs Go.Shelf
namespace Go.Vi
abbrev fB (l : List Int) : List (List D) := l.map fun n => [int n]
theorem qf {w : World} {av : Nat → Prop} {loc : Loc} {h : List Blk} : ∀ {l : List Int} {ys : List Value}, RelL w av loc h (fB l).flatten ys → ys = l.map (FP .i64)
 | [], [], _ => rfl
 | [], _ :: _, r => by simp [RelL] at r
 | _ :: _, [], r => by simp [RelL] at r
 | n :: l, y :: ys, r => by
  simp only [fB, En, Eo, GK, List.nil_append, RelL] at r
  have h1 : y = .int .i64 n := by simpa [Rel, RelP] using r.1
  rw [h1, qf (l := l) r.2]; rfl
theorem mJ {w : World} {av : Nat → Prop} {loc : Loc} {h : List Blk} : ∀ {l : List Int}, RelL w av loc h (fB l).flatten (l.map (FP .i64))
 | [] => trivial
 | n :: l => by
  simp only [fB, En, Eo, GK, List.nil_append, RelL]
  exact ⟨by simp [Rel, RelP], mJ (l := l)⟩
theorem rF {P : Program} {ρ : Ren} {Γ : am} (L : Lays.n189 P ρ) {h : List Blk} {b e : Nat} {l : List Int} (hb : h[b]? = some (.vec (fB l) e 1)) (hl : l.length < 4611686018427387904) :
  Ev P Γ (ρ.f 189) [.ref (.vec b e)] h (.tup []) (h.set b (.vec (fB (l.mergeSort fun x y => decide (x ≤ y))) e 1)) := by
 intro O w loc vs R ra
 obtain ⟨y, rfl⟩ : ∃ y, vs = [y] := by
  match vs, ra with
  | [y], _ => exact ⟨y, rfl⟩
  | [], r => simp [RelL] at r
  | _ :: _ :: _, r => simp [RelL] at r
 have r := ra.1
 simp only [Rel, RefRel, hb] at r
 have hv := r.2.2 trivial
 have B := R.blk b _ hb
 simp only [BlkOk] at B
 have hlen : (fB l).length = l.length := by simp [fB]
 refine callsIn_wide.2 ?_
 cases hlb : loc b with
 | none =>
  rw [hlb] at hv B
  obtain ⟨hn, rfl⟩ := hv
  have hl0 : l = [] := by simpa [fB] using hn
  subst hl0
  refine Calls.mono (calls_of_every_depth fun D => AnyS.slices_Sort_int_none_alone L D none 0 w) ?_
  rintro e' w' ⟨rfl, rfl⟩
  have hset : h.set b (.vec (fB ([].mergeSort fun x y => decide (x ≤ y))) e 1) = h := by
   apply F1
   intro i
   by_cases hi : i = b
   ·subst hi; rw [bf hb, hb]; simp
   ·rw [bO _ _ hi]
  refine ⟨.tuple #[], .tup [], _, loc, rfl, ⟨rfl, rfl⟩, ?_, ?_, ?_⟩
  ·rw [hset]; exact R
  ·rw [hset]; exact Ext.refl _ _ _
  ·simp [Rel, RelL]
 | some p =>
  obtain ⟨blk, cap⟩ := p
  rw [hlb] at hv B
  obtain ⟨rfl, hcap⟩ := hv
  simp only at B
  obtain ⟨c, T, fr, ys, hobj, hcs, hle, hfr, hsz, hrel, rest, hcl⟩ := B
  have hys := qf hrel
  subst hys
  have hblk : blk < w.heap.size := (Fa.1 hobj).1
  have hH : Sort.Holds (FP .i64) w blk 0 l.toArray := by
   intro j hj
   have hj' : j < l.length := by simpa using hj
   have hc : c[j]? = some (FP .i64 l[j]) := by
    rw [← Array.getElem?_toList, hcl, DB (by simpa using hj')]
    simp [hj']
   constructor
   ·simp [World.cell?, hobj, hc, hj']
   ·have := hfr j (Fa.1 hc).1
    obtain ⟨lo, hi⟩ := fr
    simp only [World.frozen?, hobj, Nat.zero_add]
    rw [← Bool.not_eq_true]
    simpa using this
  rw [hlen]
  refine Calls.mono (calls_of_every_depth fun D => AnyS.slices_Sort_int_alone L D blk 0 cap l w hH hblk hl) ?_
  rintro e' w' ⟨rfl, n, os, rfl⟩
  have hlm : (l.mergeSort fun x y => decide (x ≤ y)).length = l.length := by simp
  generalize (l.mergeSort fun x y => decide (x ≤ y)) = m at hlm ⊢
  have hobj' : (GV (E5 (FP .i64) (Fe w n) blk 0 m.toArray) os).heap[blk]? = some (.cells (Ft (FP .i64) 0 m.toArray c) T fr) := by
   rw [GC _ _ (by simpa [E5, EX, Fe] using hblk)]
   simp [E5, EX, Fe, F4, hobj, Sort.onCells]
  have hcells : (Ft (FP .i64) 0 m.toArray c).toList = m.map (FP .i64) ++ rest := by
   unfold Ft
   rw [Array.toList_mapIdx, hcl]
   apply F1
   intro i
   rw [List.getElem?_mapIdx]
   by_cases hi : i < l.length
   ·rw [DB (by simpa using hi), DB (by simpa [hlm] using hi)]
    have hm : i < m.length := by omega
    simp [hi, hm]
   ·rw [Eb (by simpa using FJ hi), Eb (by simpa [hlm] using FJ hi)]
    simp [hi, hlm]
  have key := R.step (w' := GV (E5 (FP .i64) (Fe w n) blk 0 m.toArray) os) (l' := loc) (h' := h.set b (.vec (fB m) e 1)) b (.vec (fB m) e 1)
   (by simp [GV, E5, EX, Fe]) ⟨rfl, rfl, rfl, by simp [GV, E5, EX, Fe]⟩ (fun i hi => bO _ _ hi) (bf hb) (fun _ _ => rfl)
   (fun z hz => by rw [hb] at hz; cases hz; exact ⟨⟨Nat.le_refl _, fun _ => by simp [fB, hlm], rfl⟩, fun _ => rfl⟩)
   (fun k hk hno => by
    have hkb : k ≠ blk := fun e => hno _ cap hb (by simp) (by rw [hlb, e])
    rw [GC _ _ (by simpa [E5, EX, Fe] using hk)]
    simp [E5, EX, Fe, F4, Ne.symm hkb])
   (fun k c hk => .inl ⟨_, c, hb, by simp, hk⟩)
   (fun E => by
    simp only [BlkOk, hlb]
    refine ⟨_, T, fr, m.map (FP .i64), hobj', ?_, ?_, ?_, ?_, mJ, rest, hcells⟩
    ·simpa [Ft] using hcs
    ·simpa [fB, hlm] using hle
    ·simpa [Ft] using hfr
    ·simp [fB])
  exact ⟨.tuple #[], .tup [], _, loc, rfl, ⟨rfl, rfl⟩, key.1, key.2, by simp [Rel, RelL]⟩
end Go.Vi
namespace Go.Proofs
open Go.Shelf
def Tryz.laysSort_ren : Go.Shelf.Ren := ⟨fun | 189 => 88 | 125 => 122 | 257 => 140 | 128 => 173 | 129 => 174 | 294 => 179 | 295 => 180 | 296 => 181 | 297 => 182 | 298 => 183 | 299 => 184 | 216 => 185 | 300 => 186 | 301 => 187 | 328 => 218 | 329 => 211 | 330 => 212 | 331 => 219 | 332 => 220 | 215 => 123 | 343 => 232 | n => n, fun | 28 => 30 | 3 => 3 | 46 => 192 | 0 => 0 | 51 => 233 | 53 => 169 | 4 => 4 | 183 => 227 | 182 => 226 | 131 => 150 | 5 => 5 | 9 => 9 | 218 => 251 | 222 => 255 | 228 => 265 | 229 => 266 | n => n, fun | n => n⟩
theorem Tryz.laysSort : Go.Proofs.Lays.n189 Dg Tryz.laysSort_ren := {
 mixed := by kernel_rfl
 f125 := Tryz.func122.trans (congrArg some (by kernel_rfl))
 f128 := Tryz.func173.trans (congrArg some (by kernel_rfl))
 f129 := Tryz.func174.trans (congrArg some (by kernel_rfl))
 f189 := Tryz.func88.trans (congrArg some (by kernel_rfl))
 f215 := Tryz.func123.trans (congrArg some (by kernel_rfl))
 f216 := Tryz.func185.trans (congrArg some (by kernel_rfl))
 f257 := Tryz.func140.trans (congrArg some (by kernel_rfl))
 f294 := Tryz.func179.trans (congrArg some (by kernel_rfl))
 f295 := Tryz.func180.trans (congrArg some (by kernel_rfl))
 f296 := Tryz.func181.trans (congrArg some (by kernel_rfl))
 f297 := Tryz.func182.trans (congrArg some (by kernel_rfl))
 f298 := Tryz.func183.trans (congrArg some (by kernel_rfl))
 f299 := Tryz.func184.trans (congrArg some (by kernel_rfl))
 f300 := Tryz.func186.trans (congrArg some (by kernel_rfl))
 f301 := Tryz.func187.trans (congrArg some (by kernel_rfl))
 f328 := Tryz.func218.trans (congrArg some (by kernel_rfl))
 f329 := Tryz.func211.trans (congrArg some (by kernel_rfl))
 f330 := Tryz.func212.trans (congrArg some (by kernel_rfl))
 f331 := Tryz.func219.trans (congrArg some (by kernel_rfl))
 f332 := Tryz.func220.trans (congrArg some (by kernel_rfl))
 f343 := Tryz.func232.trans (congrArg some (by kernel_rfl))
 t0 := Tryz.underlying0
 a0 := Tryz.isAgg0
 z0 := Tryz.sizeOf0
 v0 := Tryz.zeroValue0
 t3 := Tryz.underlying3
 a3 := Tryz.isAgg3
 z3 := Tryz.sizeOf3
 v3 := Tryz.zeroValue3
 t4 := Tryz.underlying4
 a4 := Tryz.isAgg4
 z4 := Tryz.sizeOf4
 v4 := Tryz.zeroValue4
 t5 := Tryz.underlying5
 a5 := Tryz.isAgg5
 z5 := Tryz.sizeOf5
 v5 := Tryz.zeroValue5
 t9 := Tryz.underlying9
 a9 := Tryz.isAgg9
 z9 := Tryz.sizeOf9
 v9 := Tryz.zeroValue9
 t28 := Tryz.underlying30
 a28 := Tryz.isAgg30
 z28 := Tryz.sizeOf30
 v28 := Tryz.zeroValue30
 t46 := Tryz.underlying192
 a46 := Tryz.isAgg192
 z46 := Tryz.sizeOf192
 v46 := Tryz.zeroValue192
 t51 := Tryz.underlying233
 a51 := Tryz.isAgg233
 z51 := Tryz.sizeOf233
 v51 := Tryz.zeroValue233
 t53 := Tryz.underlying169
 a53 := Tryz.isAgg169
 z53 := Tryz.sizeOf169
 v53 := Tryz.zeroValue169
 t131 := Tryz.underlying150
 a131 := Tryz.isAgg150
 z131 := Tryz.sizeOf150
 v131 := Tryz.zeroValue150
 t182 := Tryz.underlying226
 a182 := Tryz.isAgg226
 z182 := Tryz.sizeOf226
 v182 := Tryz.zeroValue226
 t183 := Tryz.underlying227
 a183 := Tryz.isAgg227
 z183 := Tryz.sizeOf227
 v183 := Tryz.zeroValue227
 t218 := Tryz.underlying251
 a218 := Tryz.isAgg251
 z218 := Tryz.sizeOf251
 v218 := Tryz.zeroValue251
 t222 := Tryz.underlying255
 a222 := Tryz.isAgg255
 z222 := Tryz.sizeOf255
 v222 := Tryz.zeroValue255
 t228 := Tryz.underlying265
 a228 := Tryz.isAgg265
 z228 := Tryz.sizeOf265
 v228 := Tryz.zeroValue265
 t229 := Tryz.underlying266
 a229 := Tryz.isAgg266
 z229 := Tryz.sizeOf266
 v229 := Tryz.zeroValue266 }
end Go.Proofs
namespace Go.Vi
open Go.Shelf
theorem mK {h : List Blk} {b e : Nat} {l : List Int} (hb : h[b]? = some (.vec (fB l) e 1)) (hl : l.length < 4611686018427387904) :
  Ev Dg Γ0 88 [.ref (.vec b e)] h (.tup []) (h.set b (.vec (fB (l.mergeSort fun x y => decide (x ≤ y))) e 1)) := rF Tryz.laysSort hb hl
end Go.Vi
open Go
namespace Go.Vi
theorem Ev.post {P : Program} {Γ : am} {f : FuncId} {args : List D} {h h1 h2 : List Blk} {d d2 : D} (az : List Ans) {φ : List Prop} (hE : Ev P Γ f args h d h1) (hp : pre h { t := [d], h := h1, m := [] } az = some ({ t := [d2], h := h2, m := [] }, [], φ)) (hφ : AllP φ) : Ev P Γ f args h d2 h2 := by
 intro O w l vs R ra
 refine CallsIn.mono (hE O w l vs R ra) ?_
 rintro e w' ⟨v, d', h', l', rfl, ⟨rfl, rfl⟩, R', E', r'⟩
 obtain ⟨l2, R2, E2, r2, -⟩ := sP (Γ := Γ) (X := { O := O, w := w, l := l, h := h }) _ _ _ _ _ hp hφ { tmps := #[v], defers := [] } w' ⟨l', R', E', ⟨r', trivial⟩, rfl⟩
 exact ⟨v, d2, h2, l2, rfl, ⟨rfl, rfl⟩, R2, E2, r2.1⟩
end Go.Vi
open Go Go.Proofs
namespace Go.Vi
set_option maxRecDepth 100000
set_option maxHeartbeats 4000000
abbrev dt : D := lit (.slice none 0 0)
abbrev aI (l : List Int) : List (D × D × Nat) := l.zipIdx.map fun p => (int p.1, bool true, p.2)
abbrev jO (l : List Int) : Blk := .map (aI l) l.length
theorem i5 (c : Int) : ∀ (l : List Int) (k i : Nat), da (int c) ((l.zipIdx k).map fun p => (int p.1, bool true, p.2)) i = some (match l.idxOf? c with | some j => some (i + j, bool true) | none => none)
 | [], _, _ => rfl
 | a :: l, k, i => by
  have ih := i5 c l (k + 1) (i + 1)
  simp only [List.zipIdx_cons, En, da, f5, if_true, List.idxOf?_cons]
  by_cases h : a = c
  ·subst h; simp
  ·have h' : (c == a) = false := by simp; exact fun e => h e.symm
   have h'' : (a == c) = false := by simp; exact h
   rw [h', h'', ih]
   cases l.idxOf? c <;> simp <;> omega
theorem mL {P : Program} {h : List Blk} {t : TypeId} {b : Nat} {l : List Int} {c : Int} {kt et : TypeId} (hk : cr P kt (int c) = true) (ht : P.underlying t = some (.map kt et)) (hz : gq P et = some (.bool false)) (hb : h[b]? = some (jO l)) :
  ar P h t (.ref (.mp b)) (int c) false = some (bool (l.contains c)) := by
 unfold ar
 simp only [ht, jV, hb, hk, if_true, hz, i5 c l 0 0]
 cases hi : l.idxOf? c with
 | none =>
  have : l.contains c = false := by
   rw [GG] at hi
   simpa using hi
  simp only [this]; rfl
 | some j =>
  have : l.contains c = true := by
   have : ¬ l.idxOf? c = none := by rw [hi]; simp
   rw [GG] at this
   simpa using this
  simp only [this]; rfl
theorem mM {P : Program} {h : List Blk} {t : TypeId} {b : Nat} {l : List Int} {c : Int} {kt et : TypeId} (hk : cr P kt (int c) = true) (ht : P.underlying t = some (.map kt et)) (hb : h[b]? = some (jO l)) (hn : l.contains c = false) :
  ap P h t (.ref (.mp b)) (int c) (bool true) = some (h.set b (jO (l ++ [c]))) := by
 have hi : l.idxOf? c = none := by rw [GG]; simpa using hn
 unfold ap
 simp only [ht, hb, hk, if_true, i5 c l 0 0, hi]
 simp [jO, aI, List.zipIdx_append]
abbrev nuV (l : List Int) : List (List D) := l.map fun n => [int n]
theorem bj (l : List Int) (f : Ref → D) : (nuV l).map (D6 f) = nuV l := by simp [nuV, D6, DC, Ic]
theorem bw (l : List Int) (k : Nat) : (nuV l).all (Fw k) = true := by simp [nuV, Fw, Fg]
theorem aJ (l : List Int) (n : Int) : nuV l ++ [[int n]] = nuV (l ++ [n]) := by simp [nuV]
theorem kU (l : List Int) : (nuV l).length = l.length := by simp [nuV]
abbrev nuH (c0 c1 c2 : List (List Dp)) (fs : List (List Dp)) (s : Blk) (v : List (List D)) : List Blk := [.var [ab c0, ab c1, ab c2, ab fs], .var [int 12, int 0, int 0], s, .vec v 0 1]
abbrev nuS (c0 c1 c2 : List (List Dp)) (fs : List (List Dp)) (many : Int) (s : Blk) (v : List (List D)) (i : Int) : AS :=
 { t := mkT 70 0 [(4, .ref (.vec 3 0)), (5, dt), (6, .ref (.ptr 1 0)), (7, int many), (9, .ref (.mp 2)), (24, ab fs), (25, int fs.length), (26, int i)], h := nuH c0 c1 c2 fs s v, m := [] }
abbrev nuE (c0 c1 c2 : List (List Dp)) (fs : List (List Dp)) (many : Int) (s : Blk) (v : List (List D)) : AS :=
 { t := mkT 70 0 [(4, .ref (.vec 3 0)), (5, dt), (6, .ref (.ptr 1 0))], h := nuH c0 c1 c2 fs s v, m := [] }
def isNew (f : FactT) (l : List Int) : Bool := f.kind == 1 && (f.obj == 0 && (decide (f.sub ≥ 0) && decide (f.sub ≤ 4095) && !l.contains f.sub))
def nuF (many : Int) (f : FactT) (l : List Int) : List Int ⊕ List Int := if decide ((l.length : Int) ≥ many) = true then .inr l else .inl (bif isNew f l then l ++ [f.sub] else l)
theorem cn (l : List Int) (k : Nat) : ((aI l).all fun e => Fg k e.1 && Fg k e.2.1) = true := by simp [aI, Fg]
theorem bN (l : List Int) (f : Ref → D) : (aI l).map (fun e => (DC f e.1, DC f e.2.1, e.2.2)) = aI l := by simp [aI, DC, Ic]
theorem aV {many : Int} {f : FactT} {l : List Int} (h : decide (((nuV l).length : Int) ≥ many) = true) : nuF many f l = .inr l := by
 rw [kU] at h; simp only [nuF, h, if_true]
theorem dS {many : Int} {f : FactT} {l : List Int} (h : decide (((nuV l).length : Int) ≥ many) = false) (hn : isNew f l = false) : nuF many f l = .inl l := by
 rw [kU] at h; simp [nuF, h, hn]
theorem dT {many : Int} {f : FactT} {l : List Int} (h : decide (((nuV l).length : Int) ≥ many) = false) (hn : isNew f l = true) : nuF many f l = .inl (l ++ [f.sub]) := by
 rw [kU] at h; simp [nuF, h, hn]
theorem rH {h : List Blk} {l : List Int} {c : Int} (hb : h[2]? = some (jO l)) : ar Dg h 152 (.ref (.mp 2)) (int c) false = some (bool (l.contains c)) := mL (kt := 3) (et := 4) (by kernel_rfl) (by kernel_rfl) (by kernel_rfl) hb
theorem rI {h : List Blk} {l : List Int} {c : Int} (hb : h[2]? = some (jO l)) (hn : (!l.contains c) = true) : ap Dg h 152 (.ref (.mp 2)) (int c) (bool true) = some (h.set 2 (jO (l ++ [c]))) := mM (kt := 3) (et := 4) (by kernel_rfl) (by kernel_rfl) hb (by simpa using hn)
noncomputable abbrev dB (c0 : List (List Dp)) (c1 : List (List Dp)) (c2 : List (List Dp)) (fs : List (List Dp)) (l : List Int) (f : FactT) : List Blk := [.var [ab c0, ab c1, ab c2, ab fs], .var [int 12, int 0, int 0], .map (aI l) (Dh l), .vec (nuV l) 0 1, .var [int f.kind, int f.sub, int f.obj, int f.value, int f.frm, int f.til, int f.known, int f.no]]
theorem Bh {c0 c1 c2 : List (List Dp)} {fs : List (List Dp)} {many : Int} {l : List Int} {i : Nat} {f : FactT} (hr : aM (i : Int) fs f.row 8) (hlt : decide ((i : Int) < (fs.length : Int)) = true) (hw : Dj.wrap ((i : Int) + 1) = ((i + 1 : Nat) : Int)) (hl : l.length ≤ 70000)
  (hp : ∀ f, (nuV l).map (D6 f) = nuV l) (hi : ∀ k, (nuV l).all (Fw k) = true) : (CW Dg Γ0 [] false (sub It 0) (nuS c0 c1 c2 fs many (jO l) (nuV l) i) (ad (fun l' => nuS c0 c1 c2 fs many (jO l') (nuV l') ((i + 1 : Nat) : Int)) (fun l => (.exit 0, nuE c0 c1 c2 fs many (jO l) (nuV l))) (nuF many f l)).1 (ad (fun l' => nuS c0 c1 c2 fs many (jO l') (nuV l') ((i + 1 : Nat) : Int)) (fun l => (.exit 0, nuE c0 c1 c2 fs many (jO l) (nuV l))) (nuF many f l)).2) := by
 cases hc0 : decide ((↑(Dh (nuV l)) : Int) ≥ many)
 ·cases hc1 : f.kind == 1
  ·let v0 := D.p (Dp.v (FZ { toList := [] }))
   refine DN (DP (s' := { t := mkT 70 0 [(4, .ref (.vec 3 0)), (5, nq), (6, .ref (.ptr 1 0)), (7, int many), (9, .ref (.mp 2)), (24, ab fs), (25, int (↑(Dh fs) : Int)), (26, int (Dr Dj ((↑i : Int) + 1)))], h := [.var [ab c0, ab c1, ab c2, ab fs], .var [int 12, int 0, int 0], .map (aI l) (Dh l), .vec (nuV l) 0 1], m := [] }) (e := DE) pok [.st (.mask [4, 5, 6, 7, 9, 24, 25, 26]), .st (.ren 3 0), .st (.trim 4)] [.b true, .row [vi f.kind, vi f.sub, vi f.obj, vi f.value, vi f.frm, vi f.til, vi f.known, vi f.no], .b false, .g false, .g false, .g false, .g false, .ov 46 (bool false), .g false, .g false, .ov 50 (bool false), .g false, .g false, .g false, .g false, .ov 56 (bool false), .b false] (by kernel_rfl) (.c hlt (.c hr (.c hc0 (.c (show ((f.kind == 1) == true) = false from (by subst v0; rw [hc1]; rfl)) (.c (show ((f.kind == 1) == true) = false from (by subst v0; rw [hc1]; rfl)) (.c (show ((f.kind == 1) == true) = false from (by subst v0; rw [hc1]; rfl)) (.c (show ((f.kind == 1) == true) = false from (by subst v0; rw [hc1]; rfl)) (.c (show aZ (bool (f.kind == 1)) v0 (bool false) (bool false) from (b9 hc1 rfl)) (.c (show (false == true) = false from rfl) (.c (show (false == true) = false from rfl) (.c (show aZ (bool false) v0 (bool false) (bool false) from (b9 rfl rfl)) (.c (show (false == true) = false from rfl) (.c (show (false == true) = false from rfl) (.c (show (false == true) = false from rfl) (.c (show (false == true) = false from rfl) (.c (show aZ (bool false) v0 (bool false) (bool false) from (b9 rfl rfl)) (.c (show false = false from rfl) (.c (show De (D6 (au 3 0 0)) (nuV l) = nuV l from ?_) (.c (show De (fun e => (DC (au 3 0 0) e.fst, DC (au 3 0 0) e.snd.fst, e.snd.snd)) (aI l) = aI l from ?_) (.c (show (Fk (aI l) fun e => Fg 4 e.fst && Fg 4 e.snd.fst) = true from ?_) (.c (show Fk (nuV l) (Fw 4) = true from ?_) .n)))))))))))))))))))))) (by subst v0; first | (rw [aV hc0]; rfl) | (rw [aV hc0]; done) | (rw [dT hc0] <;> first | (simp only [isNew, hc1, Ej]; done) | (simp only [ad]; done) | (simp only [ad, hw, aJ]; rfl)) | (rw [dS hc0] <;> first | (simp only [isNew, hc1, Ej]; done) | (simp only [ad]; done) | (simp only [ad, hw]; rfl))) (by subst v0; first | (rw [aV hc0]; rfl) | (rw [aV hc0]; done) | (rw [dT hc0] <;> first | (simp only [isNew, hc0, hc1, EU, EM, Fz, Ep, Ej, cond_true, cond_false]; done) | (simp only [ad, hw]; done) | (simp only [ad, hw]; rfl)) | (rw [dS hc0] <;> first | (simp only [isNew, hc1, Ej]; done) | (simp only [ad, hw]; done) | (simp only [ad, hw]; rfl))) <;> subst v0 <;> (first | assumption | exact rH (l := l) rfl | exact rI (l := l) rfl (by assumption) | exact cn _ _ | exact bN _ _ | exact bw _ _ | exact bj _ _ | (rw [aJ]; exact bw _ _) | (rw [aJ]; exact bj _ _) | rfl | (simp [bC, Gx, El, roomOk]; omega))
  ·cases hc2 : f.obj == 0
   ·refine DN (DP (s' := { t := mkT 70 0 [(4, .ref (.vec 3 0)), (5, nq), (6, .ref (.ptr 1 0)), (7, int many), (9, .ref (.mp 2)), (24, ab fs), (25, int (↑(Dh fs) : Int)), (26, int (Dr Dj ((↑i : Int) + 1)))], h := [.var [ab c0, ab c1, ab c2, ab fs], .var [int 12, int 0, int 0], .map (aI l) (Dh l), .vec (nuV l) 0 1], m := [] }) (e := DE) pok [.st (.mask [4, 5, 6, 7, 9, 24, 25, 26]), .st (.ren 3 0), .st (.trim 4)] [.b true, .row [vi f.kind, vi f.sub, vi f.obj, vi f.value, vi f.frm, vi f.til, vi f.known, vi f.no], .b false, .g true, .g true, .g true, .g true, .ov 46 (bool (f.obj == 0)), .g false, .g false, .ov 50 (bool false), .g false, .g false, .g false, .g false, .ov 56 (bool false), .b false] (by kernel_rfl) (.c hlt (.c hr (.c hc0 (.c (show ((f.kind == 1) == true) = true from (by rw [hc1]; rfl)) (.c (show ((f.kind == 1) == true) = true from (by rw [hc1]; rfl)) (.c (show ((f.kind == 1) == true) = true from (by rw [hc1]; rfl)) (.c (show ((f.kind == 1) == true) = true from (by rw [hc1]; rfl)) (.c (show aZ (bool (f.kind == 1)) (bool (f.obj == 0)) (bool false) (bool (f.obj == 0)) from (bJ hc1 rfl)) (.c (show ((f.obj == 0) == true) = false from (by rw [hc2]; rfl)) (.c (show ((f.obj == 0) == true) = false from (by rw [hc2]; rfl)) (.c (show aZ (bool (f.obj == 0)) (D.p (Dp.v (FZ { toList := [] }))) (bool false) (bool false) from (b9 hc2 rfl)) (.c (show (false == true) = false from rfl) (.c (show (false == true) = false from rfl) (.c (show (false == true) = false from rfl) (.c (show (false == true) = false from rfl) (.c (show aZ (bool false) (D.p (Dp.v (FZ { toList := [] }))) (bool false) (bool false) from (b9 rfl rfl)) (.c (show false = false from rfl) (.c (show De (D6 (au 3 0 0)) (nuV l) = nuV l from ?_) (.c (show De (fun e => (DC (au 3 0 0) e.fst, DC (au 3 0 0) e.snd.fst, e.snd.snd)) (aI l) = aI l from ?_) (.c (show (Fk (aI l) fun e => Fg 4 e.fst && Fg 4 e.snd.fst) = true from ?_) (.c (show Fk (nuV l) (Fw 4) = true from ?_) .n)))))))))))))))))))))) (by first | (rw [aV hc0]; rfl) | (rw [aV hc0]; done) | (rw [dT hc0] <;> first | (simp only [isNew, hc1, hc2, Ep, Ej]; done) | (simp only [ad]; done) | (simp only [ad, hw, aJ]; rfl)) | (rw [dS hc0] <;> first | (simp only [isNew, hc1, hc2, Ep, Ej]; done) | (simp only [ad]; done) | (simp only [ad, hw]; rfl))) (by first | (rw [aV hc0]; rfl) | (rw [aV hc0]; done) | (rw [dT hc0] <;> first | (simp only [isNew, hc0, hc1, hc2, EU, EM, Fz, Ep, Ej, cond_true, cond_false]; done) | (simp only [ad, hw]; done) | (simp only [ad, hw]; rfl)) | (rw [dS hc0] <;> first | (simp only [isNew, hc1, hc2, Ep, Ej]; done) | (simp only [ad, hw]; done) | (simp only [ad, hw]; rfl))) <;> (first | assumption | exact rH (l := l) rfl | exact rI (l := l) rfl (by assumption) | exact cn _ _ | exact bN _ _ | exact bw _ _ | exact bj _ _ | (rw [aJ]; exact bw _ _) | (rw [aJ]; exact bj _ _) | rfl | (simp [bC, Gx, El, roomOk]; omega))
   ·cases hc3 : decide (f.sub ≥ 0) && decide (f.sub ≤ 4095)
    ·refine DN (DP (s' := { t := mkT 70 0 [(4, .ref (.vec 3 0)), (5, nq), (6, .ref (.ptr 1 0)), (7, int many), (9, .ref (.mp 2)), (24, ab fs), (25, int (↑(Dh fs) : Int)), (26, int (Dr Dj ((↑i : Int) + 1)))], h := [.var [ab c0, ab c1, ab c2, ab fs], .var [int 12, int 0, int 0], .map (aI l) (Dh l), .vec (nuV l) 0 1], m := [] }) (e := DE) pok [.st (.mask [4, 5, 6, 7, 9, 24, 25, 26]), .st (.ren 3 0), .st (.trim 4)] [.b true, .row [vi f.kind, vi f.sub, vi f.obj, vi f.value, vi f.frm, vi f.til, vi f.known, vi f.no], .b false, .g true, .g true, .g true, .g true, .ov 46 (bool (f.obj == 0)), .g true, .g true, .val (bool (decide (f.sub ≥ 0) && decide (f.sub ≤ 4095))), .ov 50 (bool (decide (f.sub ≥ 0) && decide (f.sub ≤ 4095))), .g false, .g false, .g false, .g false, .ov 56 (bool false), .b false] (by kernel_rfl) (.c hlt (.c hr (.c hc0 (.c (show ((f.kind == 1) == true) = true from (by rw [hc1]; rfl)) (.c (show ((f.kind == 1) == true) = true from (by rw [hc1]; rfl)) (.c (show ((f.kind == 1) == true) = true from (by rw [hc1]; rfl)) (.c (show ((f.kind == 1) == true) = true from (by rw [hc1]; rfl)) (.c (show aZ (bool (f.kind == 1)) (bool (f.obj == 0)) (bool false) (bool (f.obj == 0)) from (bJ hc1 rfl)) (.c (show ((f.obj == 0) == true) = true from (by rw [hc2]; rfl)) (.c (show ((f.obj == 0) == true) = true from (by rw [hc2]; rfl)) (.c (@eA (f.sub) 0 4095 (dB c0 c1 c2 fs l f)) (.c (show aZ (bool (f.obj == 0)) (bool (decide (f.sub ≥ 0) && decide (f.sub ≤ 4095))) (bool false) (bool (decide (f.sub ≥ 0) && decide (f.sub ≤ 4095))) from (bJ hc2 rfl)) (.c (show ((decide (f.sub ≥ 0) && decide (f.sub ≤ 4095)) == true) = false from (by rw [hc3]; rfl)) (.c (show ((decide (f.sub ≥ 0) && decide (f.sub ≤ 4095)) == true) = false from (by rw [hc3]; rfl)) (.c (show ((decide (f.sub ≥ 0) && decide (f.sub ≤ 4095)) == true) = false from (by rw [hc3]; rfl)) (.c (show ((decide (f.sub ≥ 0) && decide (f.sub ≤ 4095)) == true) = false from (by rw [hc3]; rfl)) (.c (show aZ (bool (decide (f.sub ≥ 0) && decide (f.sub ≤ 4095))) (D.p (Dp.v (FZ { toList := [] }))) (bool false) (bool false) from (b9 hc3 rfl)) (.c (show false = false from rfl) (.c (show De (D6 (au 3 0 0)) (nuV l) = nuV l from ?_) (.c (show De (fun e => (DC (au 3 0 0) e.fst, DC (au 3 0 0) e.snd.fst, e.snd.snd)) (aI l) = aI l from ?_) (.c (show (Fk (aI l) fun e => Fg 4 e.fst && Fg 4 e.snd.fst) = true from ?_) (.c (show Fk (nuV l) (Fw 4) = true from ?_) .n))))))))))))))))))))))) (by first | (rw [aV hc0]; rfl) | (rw [aV hc0]; done) | (rw [dT hc0] <;> first | (simp only [isNew, hc1, hc2, hc3, Ep, Ej]; done) | (simp only [ad]; done) | (simp only [ad, hw, aJ]; rfl)) | (rw [dS hc0] <;> first | (simp only [isNew, hc1, hc2, hc3, Ep, Ej]; done) | (simp only [ad]; done) | (simp only [ad, hw]; rfl))) (by first | (rw [aV hc0]; rfl) | (rw [aV hc0]; done) | (rw [dT hc0] <;> first | (simp only [isNew, hc0, hc1, hc2, hc3, EU, EM, Fz, Ep, Ej, cond_true, cond_false]; done) | (simp only [ad, hw]; done) | (simp only [ad, hw]; rfl)) | (rw [dS hc0] <;> first | (simp only [isNew, hc1, hc2, hc3, Ep, Ej]; done) | (simp only [ad, hw]; done) | (simp only [ad, hw]; rfl))) <;> (first | assumption | exact rH (l := l) rfl | exact rI (l := l) rfl (by assumption) | exact cn _ _ | exact bN _ _ | exact bw _ _ | exact bj _ _ | (rw [aJ]; exact bw _ _) | (rw [aJ]; exact bj _ _) | rfl | (simp [bC, Gx, El, roomOk]; omega))
    ·cases hc4 : !Es l f.sub
     ·refine DN (DP (s' := { t := mkT 70 0 [(4, .ref (.vec 3 0)), (5, nq), (6, .ref (.ptr 1 0)), (7, int many), (9, .ref (.mp 2)), (24, ab fs), (25, int (↑(Dh fs) : Int)), (26, int (Dr Dj ((↑i : Int) + 1)))], h := [.var [ab c0, ab c1, ab c2, ab fs], .var [int 12, int 0, int 0], .map (aI l) (Dh l), .vec (nuV l) 0 1], m := [] }) (e := DE) pok [.st (.mask [4, 5, 6, 7, 9, 24, 25, 26]), .st (.ren 3 0), .st (.trim 4)] [.b true, .row [vi f.kind, vi f.sub, vi f.obj, vi f.value, vi f.frm, vi f.til, vi f.known, vi f.no], .b false, .g true, .g true, .g true, .g true, .ov 46 (bool (f.obj == 0)), .g true, .g true, .val (bool (decide (f.sub ≥ 0) && decide (f.sub ≤ 4095))), .ov 50 (bool (decide (f.sub ≥ 0) && decide (f.sub ≤ 4095))), .g true, .g true, .g true, .ov 54 (bool (Es l f.sub)), .g true, .ov 56 (bool !Es l f.sub), .b false] (by kernel_rfl) (.c hlt (.c hr (.c hc0 (.c (show ((f.kind == 1) == true) = true from (by rw [hc1]; rfl)) (.c (show ((f.kind == 1) == true) = true from (by rw [hc1]; rfl)) (.c (show ((f.kind == 1) == true) = true from (by rw [hc1]; rfl)) (.c (show ((f.kind == 1) == true) = true from (by rw [hc1]; rfl)) (.c (show aZ (bool (f.kind == 1)) (bool (f.obj == 0)) (bool false) (bool (f.obj == 0)) from (bJ hc1 rfl)) (.c (show ((f.obj == 0) == true) = true from (by rw [hc2]; rfl)) (.c (show ((f.obj == 0) == true) = true from (by rw [hc2]; rfl)) (.c (@eA (f.sub) 0 4095 (dB c0 c1 c2 fs l f)) (.c (show aZ (bool (f.obj == 0)) (bool (decide (f.sub ≥ 0) && decide (f.sub ≤ 4095))) (bool false) (bool (decide (f.sub ≥ 0) && decide (f.sub ≤ 4095))) from (bJ hc2 rfl)) (.c (show ((decide (f.sub ≥ 0) && decide (f.sub ≤ 4095)) == true) = true from (by rw [hc3]; rfl)) (.c (show ((decide (f.sub ≥ 0) && decide (f.sub ≤ 4095)) == true) = true from (by rw [hc3]; rfl)) (.c (show ((decide (f.sub ≥ 0) && decide (f.sub ≤ 4095)) == true) = true from (by rw [hc3]; rfl)) (.c (show ar Dg (dB c0 c1 c2 fs l f) 152 (.ref (.mp 2)) (int f.sub) false = some (bool (Es l f.sub)) from ?_) (.c (show ((decide (f.sub ≥ 0) && decide (f.sub ≤ 4095)) == true) = true from (by rw [hc3]; rfl)) (.c (show aZ (bool (decide (f.sub ≥ 0) && decide (f.sub ≤ 4095))) (bool !Es l f.sub) (bool false) (bool !Es l f.sub) from (bJ hc3 rfl)) (.c hc4 (.c (show De (D6 (au 3 0 0)) (nuV l) = nuV l from ?_) (.c (show De (fun e => (DC (au 3 0 0) e.fst, DC (au 3 0 0) e.snd.fst, e.snd.snd)) (aI l) = aI l from ?_) (.c (show (Fk (aI l) fun e => Fg 4 e.fst && Fg 4 e.snd.fst) = true from ?_) (.c (show Fk (nuV l) (Fw 4) = true from ?_) .n)))))))))))))))))))))))) (by first | (rw [aV hc0]; rfl) | (rw [aV hc0]; done) | (rw [dT hc0] <;> first | (simp only [isNew, hc1, hc2, hc3, hc4, Ep]; done) | (simp only [ad]; done) | (simp only [ad, hw, aJ]; rfl)) | (rw [dS hc0] <;> first | (simp only [isNew, hc1, hc2, hc3, hc4, Ep]; done) | (simp only [ad]; done) | (simp only [ad, hw]; rfl))) (by first | (rw [aV hc0]; rfl) | (rw [aV hc0]; done) | (rw [dT hc0] <;> first | (simp only [isNew, hc0, hc1, hc2, hc3, hc4, EU, EM, Fz, Ep, Ej, cond_true, cond_false]; done) | (simp only [ad, hw]; done) | (simp only [ad, hw]; rfl)) | (rw [dS hc0] <;> first | (simp only [isNew, hc1, hc2, hc3, hc4, Ep]; done) | (simp only [ad, hw]; done) | (simp only [ad, hw]; rfl))) <;> (first | assumption | exact rH (l := l) rfl | exact rI (l := l) rfl (by assumption) | exact cn _ _ | exact bN _ _ | exact bw _ _ | exact bj _ _ | (rw [aJ]; exact bw _ _) | (rw [aJ]; exact bj _ _) | rfl | (simp [bC, Gx, El, roomOk]; omega))
     ·let v0 : List D := [int f.kind, int f.sub, int f.obj, int f.value, int f.frm, int f.til, int f.known, int f.no]
      refine DN (DP (s' := { t := mkT 70 0 [(4, .ref (.vec 3 0)), (5, nq), (6, .ref (.ptr 1 0)), (7, int many), (9, .ref (.mp 2)), (24, ab fs), (25, int (↑(Dh fs) : Int)), (26, int (Dr Dj ((↑i : Int) + 1)))], h := [.var [ab c0, ab c1, ab c2, ab fs], .var [int 12, int 0, int 0], .map (aI (l ++ [f.sub])) (Dh (l ++ [f.sub])), .vec (nuV l ++ [[int f.sub]]) 0 1], m := [] }) (e := DE) pok [.st (.mask [4, 5, 6, 7, 9, 24, 25, 26]), .st (.ren 3 0), .st (.trim 4)] [.b true, .row [vi f.kind, vi f.sub, vi f.obj, vi f.value, vi f.frm, vi f.til, vi f.known, vi f.no], .b false, .g true, .g true, .g true, .g true, .ov 46 (bool (f.obj == 0)), .g true, .g true, .val (bool (decide (f.sub ≥ 0) && decide (f.sub ≤ 4095))), .ov 50 (bool (decide (f.sub ≥ 0) && decide (f.sub ≤ 4095))), .g true, .g true, .g true, .ov 54 (bool (Es l f.sub)), .g true, .ov 56 (bool !Es l f.sub), .b true, .oh 10057 EF (nuH c0 c1 c2 fs (jO (l ++ [f.sub])) (nuV l) ++ [.var (De D.p (Ds f))])] (by kernel_rfl) (.c hlt (.c hr (.c hc0 (.c (show ((f.kind == 1) == true) = true from (by subst v0; rw [hc1]; rfl)) (.c (show ((f.kind == 1) == true) = true from (by subst v0; rw [hc1]; rfl)) (.c (show ((f.kind == 1) == true) = true from (by subst v0; rw [hc1]; rfl)) (.c (show ((f.kind == 1) == true) = true from (by subst v0; rw [hc1]; rfl)) (.c (show aZ (bool (f.kind == 1)) (bool (f.obj == 0)) (bool false) (bool (f.obj == 0)) from (bJ hc1 rfl)) (.c (show ((f.obj == 0) == true) = true from (by subst v0; rw [hc2]; rfl)) (.c (show ((f.obj == 0) == true) = true from (by subst v0; rw [hc2]; rfl)) (.c (@eA (f.sub) 0 4095 (dB c0 c1 c2 fs l f)) (.c (show aZ (bool (f.obj == 0)) (bool (decide (f.sub ≥ 0) && decide (f.sub ≤ 4095))) (bool false) (bool (decide (f.sub ≥ 0) && decide (f.sub ≤ 4095))) from (bJ hc2 rfl)) (.c (show ((decide (f.sub ≥ 0) && decide (f.sub ≤ 4095)) == true) = true from (by subst v0; rw [hc3]; rfl)) (.c (show ((decide (f.sub ≥ 0) && decide (f.sub ≤ 4095)) == true) = true from (by subst v0; rw [hc3]; rfl)) (.c (show ((decide (f.sub ≥ 0) && decide (f.sub ≤ 4095)) == true) = true from (by subst v0; rw [hc3]; rfl)) (.c (show ar Dg (dB c0 c1 c2 fs l f) 152 (.ref (.mp 2)) (int f.sub) false = some (bool (Es l f.sub)) from ?_) (.c (show ((decide (f.sub ≥ 0) && decide (f.sub ≤ 4095)) == true) = true from (by subst v0; rw [hc3]; rfl)) (.c (show aZ (bool (decide (f.sub ≥ 0) && decide (f.sub ≤ 4095))) (bool !Es l f.sub) (bool false) (bool !Es l f.sub) from (bJ hc3 rfl)) (.c hc4 (.c (show ap Dg (dB c0 c1 c2 fs l f) 152 (.ref (.mp 2)) (int f.sub) (evalD Γ0 (EF :: EF :: EF :: EF :: .ref (.vec 3 0) :: nq :: .ref (.ptr 1 0) :: int many :: EF :: .ref (.mp 2) :: EF :: .ref (.ptr 4 0) :: int f.sub :: EF :: EF :: EF :: EF :: EF :: EF :: EF :: EF :: EF :: EF :: EF :: ab fs :: int (↑(Dh fs) : Int) :: int (↑i : Int) :: bool (decide ((↑i : Int) < (↑(Dh fs) : Int))) :: D.ep [vi f.kind, vi f.sub, vi f.obj, vi f.value, vi f.frm, vi f.til, vi f.known, vi f.no] :: EB v0 :: .ref (.vec 3 0) :: int (↑(Dh (nuV l)) : Int) :: int many :: bool (decide ((↑(Dh (nuV l)) : Int) ≥ many)) :: .ref (.ptr 4 0) :: .ref (.ptr 4 1) :: int f.sub :: .ref (.ptr 4 0) :: .ref (.ptr 4 0) :: int f.kind :: bool (f.kind == 1) :: bool (f.kind == 1) :: .ref (.ptr 4 0) :: .ref (.ptr 4 2) :: int f.obj :: bool (f.obj == 0) :: bool (f.obj == 0) :: bool (f.obj == 0) :: mkT 22 0 [(0, int f.sub), (1, bool (decide (f.sub ≥ 0) && decide (f.sub ≤ 4095))), (2, bool (decide (f.sub ≥ 0) && decide (f.sub ≤ 4095))), (3, bool (decide (f.sub ≥ 0) && decide (f.sub ≤ 4095))), (4, .ref (.mp 2)), (5, int f.sub), (6, bool (Es l f.sub)), (7, bool !Es l f.sub), (8, bool !Es l f.sub), (9, .ref (.mp 2)), (10, int f.sub)]) (HO (Value.bool true))) = some [.var [ab c0, ab c1, ab c2, ab fs], .var [int 12, int 0, int 0], .map (aI (l ++ [f.sub])) (Dh (l ++ [f.sub])), .vec (nuV l) 0 1, .var v0] from ?_) (.c (show (Fk [[int f.sub]] (bC 1) && roomOk (Dh (nuV l) + Dh [[int f.sub]]) 8) = true from ?_) (.c (show De (D6 (au 3 1 0)) (nuV l ++ [[int f.sub]]) = nuV l ++ [[int f.sub]] from ?_) (.c (show De (fun e => (DC (au 3 1 0) e.fst, DC (au 3 1 0) e.snd.fst, e.snd.snd)) (aI (l ++ [f.sub])) = aI (l ++ [f.sub]) from ?_) (.c (show [[int f.sub]] = [[int f.sub]] from rfl) (.c (show (Fk (aI (l ++ [f.sub])) fun e => Fg 4 e.fst && Fg 4 e.snd.fst) = true from ?_) (.c (show Fk (nuV l ++ [[int f.sub]]) (Fw 4) = true from ?_) .n))))))))))))))))))))))))))) (by subst v0; first | (rw [aV hc0]; rfl) | (rw [aV hc0]; done) | (rw [dT hc0] <;> first | (simp only [isNew, hc1, hc2, hc3, hc4, EU]; done) | (simp only [ad]; done) | (simp only [ad, hw, aJ]; rfl)) | (rw [dS hc0] <;> first | (simp only [isNew, hc0, hc1, hc2, hc3, hc4, EU, EM, Fz, Ep, Ej, cond_true, cond_false]; done) | (simp only [ad, hw]; done) | (simp only [ad, hw]; rfl))) (by subst v0; first | (rw [aV hc0]; rfl) | (rw [aV hc0]; done) | (rw [dT hc0] <;> first | (simp only [isNew, hc1, hc2, hc3, hc4, EU]; done) | (simp only [ad, hw, aJ]; done) | (simp only [ad, hw, aJ]; rfl)) | (rw [dS hc0] <;> first | (simp only [isNew, hc0, hc1, hc2, hc3, hc4, EU, EM, Fz, Ep, Ej, cond_true, cond_false]; done) | (simp only [ad, hw]; done) | (simp only [ad, hw]; rfl))) <;> subst v0 <;> (first | assumption | exact rH (l := l) rfl | exact rI (l := l) rfl (by assumption) | exact cn _ _ | exact bN _ _ | exact bw _ _ | exact bj _ _ | (rw [aJ]; exact bw _ _) | (rw [aJ]; exact bj _ _) | rfl | (simp [bC, Gx, El, roomOk]; omega))
 ·refine DN (DP (s' := { t := mkT 70 0 [(4, .ref (.vec 3 0)), (5, nq), (6, .ref (.ptr 1 0))], h := [.var [ab c0, ab c1, ab c2, ab fs], .var [int 12, int 0, int 0], .map (aI l) (Dh l), .vec (nuV l) 0 1], m := [] }) (e := Ea 0) pok [.st (.mask [4, 5, 6]), .st (.trim 4)] [.b true, .row [vi f.kind, vi f.sub, vi f.obj, vi f.value, vi f.frm, vi f.til, vi f.known, vi f.no], .b true] (by kernel_rfl) (.c hlt (.c hr (.c hc0 (.c (show (Fk (aI l) fun e => Fg 4 e.fst && Fg 4 e.snd.fst) = true from (by first | assumption | exact rH (l := l) rfl | exact rI (l := l) rfl (by assumption) | exact cn _ _ | exact bN _ _ | exact bw _ _ | exact bj _ _ | (rw [aJ]; exact bw _ _) | (rw [aJ]; exact bj _ _) | rfl | (simp [bC, Gx, El, roomOk]; omega))) (.c (show Fk (nuV l) (Fw 4) = true from (by first | assumption | exact rH (l := l) rfl | exact rI (l := l) rfl (by assumption) | exact cn _ _ | exact bN _ _ | exact bw _ _ | exact bj _ _ | (rw [aJ]; exact bw _ _) | (rw [aJ]; exact bj _ _) | rfl | (simp [bC, Gx, El, roomOk]; omega))) .n)))))) ?_ ?_ <;> (first | (rw [aV hc0]; rfl) | (rw [aV hc0]; done) | (rw [dT hc0] <;> first | (simp only [isNew, hc0, EU, EM, Fz, Ep, Ej, cond_true, cond_false]; done) | (simp only [ad, hw, aJ]; done) | (simp only [ad, hw, aJ]; rfl)) | (rw [dS hc0] <;> first | (simp only [isNew, hc0, EU, EM, Fz, Ep, Ej, cond_true, cond_false]; done) | (simp only [ad, hw]; done) | (simp only [ad, hw]; rfl)))
theorem Bi {c0 c1 c2 : List (List Dp)} {fs : List (List Dp)} {many : Int} {s : Blk} {v : List (List D)} {i : Nat} (hlt : decide ((i : Int) < (fs.length : Int)) = false) : (CW Dg Γ0 [] false (sub It 0) (nuS c0 c1 c2 fs many s v i) (.exit 0) (nuE c0 c1 c2 fs many s v)) := by
 exact DN (DP (s' := { t := mkT 70 0 [(4, .ref (.vec 3 0)), (5, nq), (6, .ref (.ptr 1 0))], h := [.var [ab c0, ab c1, ab c2, ab fs], .var [int 12, int 0, int 0], s, .vec v 0 1], m := [] }) (e := Ea 0) pok [.st (.mask [4, 5, 6])] [.b false] (by kernel_rfl) (.c hlt .n)) (by rfl) (by rfl)
def nuG (r : List Int ⊕ List Int) : List Int := match r with | .inl l => l | .inr l => l
theorem wj {many : Int} {f : FactT} {l l' : List Int} (h : nuF many f l = .inl l') : l'.length ≤ l.length + 1 := by
 unfold nuF at h
 split at h
 ·simp at h
 ·simp at h; subst h
  cases isNew f l <;> simp
theorem nu_cw {c0 c1 c2 : List (List Dp)} {many : Int} {fs : List FactT} (hf : fs.length ≤ 69000) :
  CW Dg Γ0 [] false (.loop (sub It 0)) (nuS c0 c1 c2 (fs.map Ds) many (jO []) (nuV []) 0) (.exit 0) (nuE c0 c1 c2 (fs.map Ds) many (jO (nuG (forL (nuF many) fs []))) (nuV (nuG (forL (nuF many) fs [])))) := by
 have := CW.each (P := Dg) (Γ := Γ0) (h0 := []) (rd := false) (c := sub It 0) fs (nuF many) (fun i l => nuS c0 c1 c2 (fs.map Ds) many (jO l) (nuV l) (i : Int)) (.exit 0) (fun l => nuE c0 c1 c2 (fs.map Ds) many (jO l) (nuV l)) (fun l => (.exit 0, nuE c0 c1 c2 (fs.map Ds) many (jO l) (nuV l)))
  (fun i l => l.length ≤ i) (by simp) (by simp) ?_ ?_ [] (by simp)
 ·cases h : forL (nuF many) fs [] <;> rw [h] at this <;> exact this
 ·intro i f l hfi hl
  have hi := (Dm.1 hfi).1
  refine ⟨fun l' h => ?_, Bh (rowAt hfi rfl) (lt_len _ hi) (wrap_succ hi (by omega)) (by omega) (bj l) (bw l)⟩
  have := wj h
  omega
 ·intro l hl
  exact Bi (cw _ fs)
theorem zU (l : List Int) : nuV l = (l.map fun n => [vi n]).map (De D.p) := by simp [nuV]
theorem yJ {x0 x1 x2 : Blk} {l : List Int} (hl : l.length < 4611686018427387904) : Ev Dg Γ0 88 [.ref (.vec 3 0)] [x0, x1, x2, .vec (nuV l) 0 1] (.tup []) [x0, x1, x2, .vec (nuV (l.mergeSort fun x y => decide (x ≤ y))) 0 1] :=
 mK (h := [x0, x1, x2, .vec (nuV l) 0 1]) (b := 3) rfl hl
theorem gj {many : Int} : ∀ (fs : List FactT) (l : List Int), (nuG (forL (nuF many) fs l)).length ≤ l.length + fs.length
 | [], l => by simp [forL, nuG]
 | f :: fs, l => by
  simp only [forL]
  cases h : nuF many f l with
  | inl l' =>
   have := wj h
   have := gj (many := many) fs l'
   simp only [List.length_cons]; omega
  | inr l' =>
   have : l' = l := by
    unfold nuF at h; split at h
    ·simp at h; exact h.symm
    ·simp at h
   subst this
   simp only [nuG]; omega
theorem yK {many : Int} {fs : List FactT} (hf : fs.length ≤ 69000) : (nuG (forL (nuF many) fs [])).length < 4611686018427387904 := by
 have := gj (many := many) fs []
 simp at this; omega
def tb (many : Int) (fs : List FactT) : List Int := nuG (forL (nuF many) fs [])
def zV (fs : List FactT) (known : Int) : Int := (atR 12 0 0 0 known fs).1
def ah (fs : List FactT) (known : Int) : List Int := (tb (zV fs known) fs).mergeSort fun x y => decide (x ≤ y)
noncomputable abbrev nuB (c0 c1 c2 : List (List Dp)) (fs : List FactT) (known : Int) (r : Blk) : List Blk := [.var [ab c0, ab c1, ab c2, ab (fs.map Ds)], .var [int 12, int 0, int 0], jO (nuG (forL (nuF (atR 12 0 0 0 known fs).1) fs [])), .gone, r]
noncomputable abbrev qg (c0 : List (List Dp)) (c1 : List (List Dp)) (c2 : List (List Dp)) (fs : List FactT) (known : Int) : List Blk := [.var [ab c0, ab c1, ab c2, ab (De Ds fs)], .var [int 12, int 0, int 0], .map (aI (nuG (forL (nuF (atR 12 0 0 0 known fs).fst) fs []))) (Dh (nuG (forL (nuF (atR 12 0 0 0 known fs).fst) fs []))), .vec (nuV (nuG (forL (nuF (atR 12 0 0 0 known fs).fst) fs []))) 0 1]
noncomputable abbrev qh (c0 : List (List Dp)) (c1 : List (List Dp)) (c2 : List (List Dp)) (fs : List FactT) : List Blk := [.var [ab c0, ab c1, ab c2, ab (De Ds fs)], .var [int 12, int 0, int 0]]
theorem wl {c0 c1 c2 : List (List Dp)} {fs : List FactT} (hf : fs.length ≤ 69000) (hs : al fs) {known : Int} : (Ev Dg Γ0 34 [.agg [ab c0, ab c1, ab c2, ab (fs.map Ds)], int known] [] (.tup [ab ((ah fs known).map fun n => [vi n]), .ref (.vec 4 0)]) (nuB c0 c1 c2 fs known (.vec [[int 12, int 0, int 0, int 0, int 1]] 0 5))) := by
 have hl0 := (@nu_cw (c0) (c1) (c2) ((atR 12 0 0 0 known fs).fst) (fs) (hf))
 let v0 := Dh (nuG (forL (nuF (atR 12 0 0 0 known fs).fst) fs []))
 let v1 : List D := [ab c0, ab c1, ab c2, ab (De Ds fs)]
 refine Dv (Ev.of_sym (h' := [.var v1, .var [int 12, int 0, int 0], .map (aI (nuG (forL (nuF (atR 12 0 0 0 known fs).fst) fs []))) v0, .gone, .vec [[int 12, int 0, int 0, int 0, int 1]] 0 5]) (d := Em [ab (De (fun n => [vi n]) (ah fs known)), .ref (.vec 4 0)]) pok [.val (Em [int (atR 12 0 0 0 known fs).fst, bool (atR 12 0 0 0 known fs).snd]), .nx 2, .st (.nilT 4 1), .sum [4, 5, 6, 7, 9, 24, 25, 26] (Ea 0) { t := mkT 70 0 [(4, .ref (.vec 3 0)), (5, nq), (6, .ref (.ptr 1 0))], h := (qg c0 c1 c2 fs known), m := [] }, .call (Em []) [.var v1, .var [int 12, int 0, int 0], .map (aI (nuG (forL (nuF (atR 12 0 0 0 known fs).fst) fs []))) v0, .vec (nuV (Ey (nuG (forL (nuF (atR 12 0 0 0 known fs).fst) fs [])) fun x y => decide (x ≤ y))) 0 1], .st (.frz 3 (De (fun n => [vi n]) (ah fs known)))] (by kernel_rfl) (.c (@yD 12 0 0 0 known fs hs (qh c0 c1 c2 fs)) (.c hl0 (.c (@yJ (.var v1) (.var [int 12, int 0, int 0]) (.map (aI (nuG (forL (nuF (atR 12 0 0 0 known fs).fst) fs []))) v0) (nuG (forL (nuF (atR 12 0 0 0 known fs).fst) fs [])) ?_) (.c (show nuV (Ey (nuG (forL (nuF (atR 12 0 0 0 known fs).fst) fs [])) fun x y => decide (x ≤ y)) = De (fun x => De D.p x) (De (fun n => [vi n]) (ah fs known)) from ?_) (.c (show De (fun e => (DC (dh 3 0 (De (fun n => [vi n]) (ah fs known))) e.fst, DC (dh 3 0 (De (fun n => [vi n]) (ah fs known))) e.snd.fst, e.snd.snd)) (aI (nuG (forL (nuF (atR 12 0 0 0 known fs).fst) fs []))) = aI (nuG (forL (nuF (atR 12 0 0 0 known fs).fst) fs [])) from ?_) (.e (EB [int 12, int 0, int 0]) .n))))))) (by rfl) (by rfl) <;> subst v0 v1 <;> (first | assumption | exact yK hf | exact bN _ _ | exact zU _)
theorem wm {c0 c1 c2 : List (List Dp)} {fs : List FactT} (hf : fs.length ≤ 69000) (hs : al fs) {known : Int} : Ev Dg Γ0 34 [.agg [ab c0, ab c1, ab c2, ab (fs.map Ds)], int known] [] (.tup [ab ((ah fs known).map fun n => [vi n]), .ref (.vec 0 0)]) [.vec [[int 12, int 0, int 0, int 0, int 1]] 0 5] :=
 Dv ((wl (c0 := c0) (c1 := c1) (c2 := c2) (known := known) hf hs).keepB [4] (by kernel_rfl) ⟨rfl, trivial⟩) (by kernel_rfl) (by kernel_rfl)
theorem kV {c0 c1 c2 : List (List Dp)} {fs : List FactT} (hf : fs.length ≤ 69000) (hs : al fs) {known : Int} (h : List Blk) : Ev Dg Γ0 34 [.agg [ab c0, ab c1, ab c2, ab (fs.map Ds)], int known] h (.tup [ab ((ah fs known).map fun n => [vi n]), .ref (.vec h.length 0)]) (h ++ [.vec [[int 12, int 0, int 0, int 0, int 1]] 0 5]) :=
 (wm (c0 := c0) (c1 := c1) (c2 := c2) (known := known) hf hs).frameN (by kernel_rfl) rfl h
end Go.Vi
open Go Go.Proofs
namespace Go.Vi
set_option maxRecDepth 100000
set_option maxHeartbeats 4000000
abbrev co (l : List FactT) : List (List D) := l.map fun f => f.row.map .p
abbrev cN (l : List Bool) : List (List D) := l.map fun b => [bool b]
abbrev bd (l : List Int) : List (List D) := l.map fun n => [int n]
abbrev vaT : List D := mkT 63 0 [(6, .ref (.ptr 1 0)), (7, .ref (.ptr 2 0)), (8, .ref (.ptr 3 0)), (15, .fn (.func 178) [] [.ref (.ptr 4 0), .ref (.ptr 5 0), .ref (.ptr 6 0)])]
noncomputable abbrev vaL (st : LoopState) : Blk := .loop st none 0 vaT #[16] (aC (sub DK 0)) (aj (sub DK 0))
noncomputable abbrev vaH (kk ks ko known : Int) (fs : List (List Dp)) (rs : List D) (best : List FactT) (some : List Bool) (st : LoopState) (more : List Blk) : List Blk :=
 [.var [int kk, int ks, int ko], .var rs, .var (co best).flatten, .var (cN some).flatten, .var [ab fs], .var [int kk, int ks, int ko], .var [int known], .defd, vaL st] ++ more
abbrev vaU : List D := mkT 63 0 [(6, .ref (.ptr 1 0)), (7, .ref (.ptr 2 0)), (8, .ref (.ptr 3 0)), (9, .ref (.ptr 10 0))]
theorem va_asg {kk ks ko known : Int} {fs : List (List Dp)} {rs : List D} {best : List FactT} {some : List Bool} {f : FactT} : (CW Dg Γ0 (vaH kk ks ko known fs rs best some .ready [.var (f.row.map .p)]) true (aC (sub DK 0)) { t := d6 vaT [(16, ag f.row)], h := vaH kk ks ko known fs rs best some .ready [.var (f.row.map .p)], m := [] } .normal { t := vaU, h := vaH kk ks ko known fs rs best some .ready [.var (f.row.map .p), .var (f.row.map .p)], m := [] }) := by
 let v0 : List D := [int f.kind, int f.sub, int f.obj, int f.value, int f.frm, int f.til, int f.known, int f.no]
 exact DN (DP (s' := { t := mkT 63 0 [(6, .ref (.ptr 1 0)), (7, .ref (.ptr 2 0)), (8, .ref (.ptr 3 0)), (9, .ref (.ptr 10 0))], h := [.var [int kk, int ks, int ko], .var rs, .var (Dx (co best)), .var (Dx (cN some)), .var [ab fs], .var [int kk, int ks, int ko], .var [int known], .defd, .loop LoopState.ready none 0 (mkT 63 0 [(6, .ref (.ptr 1 0)), (7, .ref (.ptr 2 0)), (8, .ref (.ptr 3 0)), (15, EA (DG 178) [] [.ref (.ptr 4 0), .ref (.ptr 5 0), .ref (.ptr 6 0)])]) { toList := [16] } (aC (sub DK 0)) (aj (sub DK 0)), .var v0, .var v0], m := [] }) (e := DE) pok [.st (.mask [6, 7, 8, 9])] [] (by kernel_rfl) .n) (by rfl) (by rfl)
theorem oa {h : List Blk} {off n : Nat} {l : List Bool} {b : Bool} (hb : h[3]? = some (.var (cN l).flatten)) (hs : l[n]? = some b) (ho : off = n * 1) : bp Dg h 4 (.ref (.ptr 3 off)) = some (bool b) := by
 subst ho
 exact kI (sz := 1) (j := 0) (row := [bool b]) (by kernel_rfl) (by kernel_rfl) hb (fun r hr => by obtain ⟨_, _, rfl⟩ := DL.1 hr; rfl) (by simp [hs]) rfl
theorem wn {h : List Blk} {off n : Nat} {l : List FactT} {g : FactT} (hb : h[2]? = some (.var (co l).flatten)) (hs : l[n]? = some g) (ho : off = n * 8) : bp Dg h 60 (.ref (.ptr 2 off)) = some (ag g.row) := by
 subst ho
 exact yp (sz := 8) (row := g.row.map .p) (by kernel_rfl) (by kernel_rfl) hb (by simp [Ds]) (by simp [hs])
theorem zW {h : List Blk} {off n : Nat} {l : List FactT} {f : FactT} (hb : h[2]? = some (.var (co l).flatten)) (hn : n < l.length) (ho : off = n * 8) : bS Dg h 60 (.ref (.ptr 2 off)) (ag f.row) = some (h.set 2 (.var (co (l.set n f)).flatten)) := by
 subst ho
 rw [kJ (sz := 8) (new := f.row.map .p) rfl (by kernel_rfl) rfl hb (by simp [Ds]) (by simpa using hn), co, co, List.map_set]
theorem zX {h : List Blk} {off n : Nat} {l : List Bool} {b : Bool} (hb : h[3]? = some (.var (cN l).flatten)) (hn : n < l.length) (ho : off = n * 1) : bS Dg h 4 (.ref (.ptr 3 off)) (bool b) = some (h.set 3 (.var (cN (l.set n b)).flatten)) := by
 subst ho
 rw [kJ (sz := 1) (new := [bool b]) rfl (by kernel_rfl) rfl hb (fun r hr => by obtain ⟨_, _, rfl⟩ := DL.1 hr; rfl) (by simpa using hn), cN, cN, List.map_set]
theorem fP {α : Type} {l : List α} {n : Nat} {a : α} (h : l[n]? = some a) : n < l.length := (Dm.1 h).1
def vaHit (f g : FactT) (b : Bool) : Bool := !b || decide (orI (aR f.known g.known) (aR f.no g.no) ≥ 0)
noncomputable abbrev vaS (kk ks ko known : Int) (fs : List (List Dp)) (rs : List D) (best : List FactT) (some : List Bool) (f : FactT) (t : Int) : AS := { t := mkT 63 0 [(6, .ref (.ptr 1 0)), (7, .ref (.ptr 2 0)), (8, .ref (.ptr 3 0)), (9, .ref (.ptr 10 0)), (10, int t)], h := vaH kk ks ko known fs rs best some .busy [.var (f.row.map .p), .var (f.row.map .p)], m := [] }
noncomputable abbrev fC (kk : Int) (ks : Int) (ko : Int) (known : Int) (fs : List (List Dp)) (rs : List D) (best : List FactT) (some : List Bool) (f : FactT) : List Blk := [.var [int kk, int ks, int ko], .var rs, .var (Dx (co best)), .var (Dx (cN some)), .var [ab fs], .var [int kk, int ks, int ko], .var [int known], .defd, .loop ES none 0 (mkT 63 0 [(6, .ref (.ptr 1 0)), (7, .ref (.ptr 2 0)), (8, .ref (.ptr 3 0)), (15, EA (DG 178) [] [.ref (.ptr 4 0), .ref (.ptr 5 0), .ref (.ptr 6 0)])]) { toList := [16] } (aC (sub DK 0)) (aj (sub DK 0)), .var [int f.kind, int f.sub, int f.obj, int f.value, int f.frm, int f.til, int f.known, int f.no], .var [int f.kind, int f.sub, int f.obj, int f.value, int f.frm, int f.til, int f.known, int f.no]]
theorem va_b {kk ks ko known : Int} {fs : List (List Dp)} {rs : List D} {best b0 : List FactT} {some s0 : List Bool} {f g f0 : FactT} {n : Nat} {b : Bool} (hb : best[n]? = .some g) (hs : some[n]? = .some b) (hn : inR (n : Int) 1024 = true) (hlt : decide ((n : Int) < if false = true then if 1024 > f.til then 1024 else f.til else if 1024 < f.til then 1024 else f.til) = true) : (CW Dg Γ0 (vaH kk ks ko known fs rs b0 s0 .ready [.var (f0.row.map .p)]) true (sub DK 1) (vaS kk ks ko known fs rs best some f (n : Int)) .normal (vaS kk ks ko known fs rs (bif vaHit f g b then best.set n f else best) (bif vaHit f g b then some.set n true else some) f (Dj.wrap ((n : Int) + 1)))) := by
 cases hc0 : !b || decide (orI (aR f.known g.known) (aR f.no g.no) ≥ 0)
 ·refine DN (DP (s' := { t := mkT 63 0 [(6, .ref (.ptr 1 0)), (7, .ref (.ptr 2 0)), (8, .ref (.ptr 3 0)), (9, .ref (.ptr 10 0)), (10, int (Dr Dj ((↑n : Int) + 1)))], h := (fC kk ks ko known fs rs best some f), m := [] }) (e := DE) pok [.st (.mask [6, 7, 8, 9, 10])] [.b true, .ov 31 (bool b), .ov 37 (ag (Ds g)), .val (int (orI (aR f.known g.known) (aR f.no g.no))), .b false] (by kernel_rfl) (.c hlt (.c hn (.c (show bp Dg (fC kk ks ko known fs rs best some f) 4 (.ref (.ptr 3 (0 + Dz (↑n : Int) * 1))) = Fm (bool b) from ?_) (.c (show (!!b) = true → inR (↑n : Int) 1024 = true from (fun hg => hn)) (.c (show (!!b) = true → bp Dg (fC kk ks ko known fs rs best some f) 60 (evalD Γ0 (De ex (mkT 63 0 [(6, .ref (.ptr 1 0)), (7, .ref (.ptr 2 0)), (8, .ref (.ptr 3 0)), (9, .ref (.ptr 10 0)), (10, int (↑n : Int)), (21, int (↑n : Int)), (22, .ref (.ptr 10 4)), (23, .ref (.ptr 10 5)), (24, int f.til), (25, int (if false = true then if 1024 > f.til then 1024 else f.til else if 1024 < f.til then 1024 else f.til)), (26, bool (decide ((↑n : Int) < if false = true then if 1024 > f.til then 1024 else f.til else if 1024 < f.til then 1024 else f.til))), (29, int (↑n : Int)), (30, .ref (.ptr 3 (0 + Dz (↑n : Int) * 1))), (31, bool b), (32, bool !b), (33, bool !b), (34, Hk (!!b) (EB [int f.kind, int f.sub, int f.obj, int f.value, int f.frm, int f.til, int f.known, int f.no])), (35, Hk (!!b) (int (↑n : Int))), (36, Hk (!!b) (.ref (.ptr 2 (0 + Dz (↑n : Int) * 8))))])) (Operand.tmp 36)) = Fm (EB [int g.kind, int g.sub, int g.obj, int g.value, int g.frm, int g.til, int g.known, int g.no]) from (fun hg => ?_)) (.c (gd (!!b) (@n8 f g (fC kk ks ko known fs rs best some f))) (.c hc0 .n)))))))) (by first | rfl | (have hh : vaHit f g b = true := hc0; simp only [hh, cond_true]; first | done | rfl) | (have hh : vaHit f g b = false := hc0; simp only [hh, cond_false]; first | done | rfl)) (by first | rfl | (have hh : vaHit f g b = true := hc0; simp only [hh, cond_true]; first | done | rfl) | (have hh : vaHit f g b = false := hc0; simp only [hh, cond_false]; first | done | rfl)) <;> (first | assumption | rfl | exact oa rfl hs (by simp) | exact wn rfl hb (by simp) | exact zW rfl (fP hb) (by simp) | exact zX rfl (fP hs) (by simp) | (simp_all; done))
 ·let v0 : List D := [int f.kind, int f.sub, int f.obj, int f.value, int f.frm, int f.til, int f.known, int f.no]
  let v1 : List Blk := [.var [int kk, int ks, int ko], .var rs, .var (Dx (co (F2 best n f))), .var (Dx (cN (F2 some n true))), .var [ab fs], .var [int kk, int ks, int ko], .var [int known], .defd, .loop ES none 0 (mkT 63 0 [(6, .ref (.ptr 1 0)), (7, .ref (.ptr 2 0)), (8, .ref (.ptr 3 0)), (15, EA (DG 178) [] [.ref (.ptr 4 0), .ref (.ptr 5 0), .ref (.ptr 6 0)])]) { toList := [16] } (aC (sub DK 0)) (aj (sub DK 0)), .var v0, .var v0]
  let v2 : List Blk := [.var [int kk, int ks, int ko], .var rs, .var (Dx (co (F2 best n f))), .var (Dx (cN some)), .var [ab fs], .var [int kk, int ks, int ko], .var [int known], .defd, .loop ES none 0 (mkT 63 0 [(6, .ref (.ptr 1 0)), (7, .ref (.ptr 2 0)), (8, .ref (.ptr 3 0)), (15, EA (DG 178) [] [.ref (.ptr 4 0), .ref (.ptr 5 0), .ref (.ptr 6 0)])]) { toList := [16] } (aC (sub DK 0)) (aj (sub DK 0)), .var v0, .var v0]
  let v3 := EB [int g.kind, int g.sub, int g.obj, int g.value, int g.frm, int g.til, int g.known, int g.no]
  let v4 := De D.p (Ds f)
  refine DN (DP (s' := { t := mkT 63 0 [(6, .ref (.ptr 1 0)), (7, .ref (.ptr 2 0)), (8, .ref (.ptr 3 0)), (9, .ref (.ptr 10 0)), (10, int (Dr Dj ((↑n : Int) + 1)))], h := v1, m := [] }) (e := DE) pok [.st (.mask [6, 7, 8, 9, 10])] [.b true, .ov 31 (bool b), .ov 37 (ag (Ds g)), .val (int (orI (aR f.known g.known) (aR f.no g.no))), .b true, .oh 10044 EF (vaH kk ks ko known fs rs (F2 best n f) some ES [.var v4, .var v4]), .oh 10045 EF (vaH kk ks ko known fs rs (F2 best n f) (F2 some n true) ES [.var v4, .var v4])] (by kernel_rfl) (.c hlt (.c hn (.c (show bp Dg (fC kk ks ko known fs rs best some f) 4 (.ref (.ptr 3 (0 + Dz (↑n : Int) * 1))) = Fm (bool b) from ?_) (.c (show (!!b) = true → inR (↑n : Int) 1024 = true from (fun hg => hn)) (.c (show (!!b) = true → bp Dg (fC kk ks ko known fs rs best some f) 60 (evalD Γ0 (De ex (mkT 63 0 [(6, .ref (.ptr 1 0)), (7, .ref (.ptr 2 0)), (8, .ref (.ptr 3 0)), (9, .ref (.ptr 10 0)), (10, int (↑n : Int)), (21, int (↑n : Int)), (22, .ref (.ptr 10 4)), (23, .ref (.ptr 10 5)), (24, int f.til), (25, int (if false = true then if 1024 > f.til then 1024 else f.til else if 1024 < f.til then 1024 else f.til)), (26, bool (decide ((↑n : Int) < if false = true then if 1024 > f.til then 1024 else f.til else if 1024 < f.til then 1024 else f.til))), (29, int (↑n : Int)), (30, .ref (.ptr 3 (0 + Dz (↑n : Int) * 1))), (31, bool b), (32, bool !b), (33, bool !b), (34, Hk (!!b) (EB v0)), (35, Hk (!!b) (int (↑n : Int))), (36, Hk (!!b) (.ref (.ptr 2 (0 + Dz (↑n : Int) * 8))))])) (Operand.tmp 36)) = Fm v3 from (fun hg => ?_)) (.c (gd (!!b) (@n8 f g (fC kk ks ko known fs rs best some f))) (.c hc0 (.c hn (.c (show bS Dg (fC kk ks ko known fs rs best some f) 60 (.ref (.ptr 2 (0 + Dz (↑n : Int) * 8))) (EB v0) = Fm v2 from ?_) (.c hn (.c (show bS Dg v2 4 (.ref (.ptr 3 (0 + Dz (↑n : Int) * 1))) (evalD Γ0 (mkT 63 0 [(6, .ref (.ptr 1 0)), (7, .ref (.ptr 2 0)), (8, .ref (.ptr 3 0)), (9, .ref (.ptr 10 0)), (10, int (↑n : Int)), (21, int (↑n : Int)), (22, .ref (.ptr 10 4)), (23, .ref (.ptr 10 5)), (24, int f.til), (25, int (if false = true then if 1024 > f.til then 1024 else f.til else if 1024 < f.til then 1024 else f.til)), (26, bool (decide ((↑n : Int) < if false = true then if 1024 > f.til then 1024 else f.til else if 1024 < f.til then 1024 else f.til))), (29, int (↑n : Int)), (30, .ref (.ptr 3 (0 + Dz (↑n : Int) * 1))), (31, bool b), (32, bool !b), (33, bool !b), (34, Hk (!!b) (EB v0)), (35, Hk (!!b) (int (↑n : Int))), (36, Hk (!!b) (.ref (.ptr 2 (0 + Dz (↑n : Int) * 8)))), (37, Hk (!!b) v3), (38, Hk (!!b) (int (orI (aR f.known g.known) (aR f.no g.no)))), (39, Hk (!!b) (bool (decide (orI (aR f.known g.known) (aR f.no g.no) ≥ 0)))), (40, bool (!b || decide (orI (aR f.known g.known) (aR f.no g.no) ≥ 0))), (41, int (↑n : Int)), (42, int (↑n : Int)), (43, EB v0), (44, .ref (.ptr 2 (0 + Dz (↑n : Int) * 8))), (45, .ref (.ptr 3 (0 + Dz (↑n : Int) * 1)))]) (HO (Value.bool true))) = Fm v1 from ?_) .n)))))))))))) (by subst v0 v1 v2 v3 v4; first | rfl | (have hh : vaHit f g b = true := hc0; simp only [hh, cond_true]; first | done | rfl) | (have hh : vaHit f g b = false := hc0; simp only [hh, cond_false]; first | done | rfl)) (by subst v0 v1 v2 v3 v4; first | rfl | (have hh : vaHit f g b = true := hc0; simp only [hh, cond_true]; first | done | rfl) | (have hh : vaHit f g b = false := hc0; simp only [hh, cond_false]; first | done | rfl)) <;> subst v0 v1 v2 v3 v4 <;> (first | assumption | rfl | exact oa rfl hs (by simp) | exact wn rfl hb (by simp) | exact zW rfl (fP hb) (by simp) | exact zX rfl (fP hs) (by simp) | (simp_all; done))
theorem va_l {kk ks ko known : Int} {fs : List (List Dp)} {rs : List D} {best b0 : List FactT} {some s0 : List Bool} {f f0 : FactT} {x : Int} (hlt : decide (x < if false = true then if 1024 > f.til then 1024 else f.til else if 1024 < f.til then 1024 else f.til) = false) : (CW Dg Γ0 (vaH kk ks ko known fs rs b0 s0 .ready [.var (f0.row.map .p)]) true (sub DK 1) (vaS kk ks ko known fs rs best some f x) (.exit 2) { t := mkT 63 0 [], h := vaH kk ks ko known fs rs best some .busy [.var (f.row.map .p), .var (f.row.map .p)], m := [] }) := by
 let v0 : List D := [int f.kind, int f.sub, int f.obj, int f.value, int f.frm, int f.til, int f.known, int f.no]
 exact DN (DP (s' := { t := mkT 63 0 [], h := [.var [int kk, int ks, int ko], .var rs, .var (Dx (co best)), .var (Dx (cN some)), .var [ab fs], .var [int kk, int ks, int ko], .var [int known], .defd, .loop ES none 0 (mkT 63 0 [(6, .ref (.ptr 1 0)), (7, .ref (.ptr 2 0)), (8, .ref (.ptr 3 0)), (15, EA (DG 178) [] [.ref (.ptr 4 0), .ref (.ptr 5 0), .ref (.ptr 6 0)])]) { toList := [16] } (aC (sub DK 0)) (aj (sub DK 0)), .var v0, .var v0], m := [] }) (e := Ea 2) pok [.st (.mask [])] [.b false] (by kernel_rfl) (.c hlt .n)) (by rfl) (by rfl)
abbrev VS := List FactT × List Bool
def VS.ok (s : VS) : Prop := s.1.length = 1024 ∧ s.2.length = 1024
def uq (f : FactT) : Int := if f.til < 1024 then f.til else 1024
def e9 (f : FactT) (s : VS) (n : Nat) : VS := bif vaHit f (s.1.getD n default) (s.2.getD n false) then (s.1.set n f, s.2.set n true) else s
def wo (f : FactT) (x : Int) (s : VS) : VS := (List.range' x.toNat (uq f - x).toNat).foldl (e9 f) s
theorem vaStep_ok {f : FactT} {s : VS} (n : Nat) (h : s.ok) : (e9 f s n).ok := by
 unfold e9
 cases vaHit f (s.1.getD n default) (s.2.getD n false)
 ·exact h
 ·exact ⟨by simpa using h.1, by simpa using h.2⟩
theorem wp (f : FactT) : (if false = true then if 1024 > f.til then 1024 else f.til else if 1024 < f.til then 1024 else f.til) = uq f := by
 unfold uq; simp; split <;> split <;> omega
theorem va_cw {kk ks ko known : Int} {fs : List (List Dp)} {rs : List D} {best b0 : List FactT} {some s0 : List Bool} {f f0 : FactT} {x : Int} (hx : 0 ≤ x) (ho : VS.ok (best, some)) :
  CW Dg Γ0 (vaH kk ks ko known fs rs b0 s0 .ready [.var (f0.row.map .p)]) true (.loop (sub DK 1)) (vaS kk ks ko known fs rs best some f x) (.exit 2) { t := mkT 63 0 [], h := vaH kk ks ko known fs rs (wo f x (best, some)).1 (wo f x (best, some)).2 .busy [.var (f.row.map .p), .var (f.row.map .p)], m := [] } := by
 have hx' : ((x.toNat : Nat) : Int) = x := by omega
 have hh : uq f ≤ 1024 := by unfold uq; split <;> omega
 have := CW.each (P := Dg) (Γ := Γ0) (h0 := vaH kk ks ko known fs rs b0 s0 .ready [.var (f0.row.map .p)]) (rd := true) (c := sub DK 1) (σ := VS) (ρ := Empty) (List.range' x.toNat (uq f - x).toNat) (fun n s => .inl (e9 f s n))
  (fun i s => vaS kk ks ko known fs rs s.1 s.2 f (x + (i : Int))) (.exit 2) (fun s => { t := mkT 63 0 [], h := vaH kk ks ko known fs rs s.1 s.2 .busy [.var (f.row.map .p), .var (f.row.map .p)], m := [] }) (fun r => r.elim)
  (fun _ s => s.ok) (by simp) (fun r => r.elim) ?_ ?_ (best, some) ho
 ·rw [bh (fun s n => e9 f s n)] at this
  simpa [cG, wo] using this
 ·intro i n s hn hs
  obtain ⟨hi, he⟩ := Dm.1 hn
  simp only [List.length_range'] at hi
  simp only [List.getElem_range', Nat.one_mul] at he
  have hlt : (n : Int) < uq f := by omega
  have hb : s.1[n]? = .some (s.1.getD n default) := by
   rw [DS, DF (by rw [hs.1]; omega)]; rfl
  have hc : s.2[n]? = .some (s.2.getD n false) := by
   rw [DS, DF (by rw [hs.2]; omega)]; rfl
  refine ⟨fun s' h => by cases h; exact vaStep_ok n hs, ?_⟩
  have key := va_b (kk := kk) (ks := ks) (ko := ko) (known := known) (fs := fs) (rs := rs) (b0 := b0) (s0 := s0) (f := f) (f0 := f0) hb hc (by simp [inR]; omega) (by rw [wp]; simpa using hlt)
  rw [wrap_i64 (by omega) (by omega)] at key
  have e1 : x + (i : Int) = (n : Int) := by omega
  have e2 : x + ((i + 1 : Nat) : Int) = (n : Int) + 1 := by omega
  simp only [ad, e1, e2]
  unfold e9
  cases hq : vaHit f (s.1.getD n default) (s.2.getD n false) <;> rw [hq] at key <;> exact key
 ·intro s _
  refine va_l ?_
  rw [wp]
  simp
  omega
theorem Bj {kk ks ko known : Int} {fs : List (List Dp)} {rs : List D} {best : List FactT} {some : List Bool} (ho : VS.ok (best, some)) {f : FactT} : (CW Dg Γ0 (vaH kk ks ko known fs rs best some .ready [.var (f.row.map .p)]) true (aj (sub DK 0)) { t := vaU, h := vaH kk ks ko known fs rs best some .busy [.var (f.row.map .p), .var (f.row.map .p)], m := [] } .normal { t := mkT 63 0 [], h := vaH kk ks ko known fs rs (wo f (if true = true then if f.frm > 0 then f.frm else 0 else if f.frm < 0 then f.frm else 0) (best, some)).1 (wo f (if true = true then if f.frm > 0 then f.frm else 0 else if f.frm < 0 then f.frm else 0) (best, some)).2 .busy [.var (f.row.map .p), .var (f.row.map .p)], m := [] }) := by
 have hl0 := (@va_cw (kk) (ks) (ko) (known) (fs) (rs) (best) (best) (some) (some) (f) (f) (if true = true then if f.frm > 0 then f.frm else 0 else if f.frm < 0 then f.frm else 0) (by first | assumption | (simp; split <;> omega) | (simp; done)) (ho))
 let v1 : List D := [int f.kind, int f.sub, int f.obj, int f.value, int f.frm, int f.til, int f.known, int f.no]
 let v0 : List Blk := [.var [int kk, int ks, int ko], .var rs, .var (Dx (co (wo f (if true = true then if f.frm > 0 then f.frm else 0 else if f.frm < 0 then f.frm else 0) (best, some)).fst)), .var (Dx (cN (wo f (if true = true then if f.frm > 0 then f.frm else 0 else if f.frm < 0 then f.frm else 0) (best, some)).snd)), .var [ab fs], .var [int kk, int ks, int ko], .var [int known], .defd, .loop ES none 0 (mkT 63 0 [(6, .ref (.ptr 1 0)), (7, .ref (.ptr 2 0)), (8, .ref (.ptr 3 0)), (15, EA (DG 178) [] [.ref (.ptr 4 0), .ref (.ptr 5 0), .ref (.ptr 6 0)])]) { toList := [16] } (aC (sub DK 0)) (aj (sub DK 0)), .var v1, .var v1]
 exact DN (DP (s' := { t := mkT 63 0 [], h := v0, m := [] }) (e := DE) pok [.st (.mask [])] [.sum [6, 7, 8, 9, 10] (Ea 2) { t := mkT 63 0 [], h := v0, m := [] }] (by kernel_rfl) (.c hl0 .n)) (by rfl) (by rfl)
end Go.Vi
