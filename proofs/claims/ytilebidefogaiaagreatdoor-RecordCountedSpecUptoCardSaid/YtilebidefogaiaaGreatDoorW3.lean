/- RecordCountedSpecUpto: part of the proof: contracts of the functions that the law reaches, and the law. No conditions beyond the given statement's own. -/
import Derived.Test.YtilebidefogaiaaGreatDoorW2
import Derived.Shelf.Slices.In.SortAlone
import Derived.Shelf.Slices.In.SortNone
import Derived.Sort.EveryDepth
import Derived.Shelf.SlSortCmp.NoneTotal
import Derived.Ground.SlsfProg
open Go.Vi.RuleT renaming fl → y7, bad → Bm
open Go.Proofs.Tryz renaming prog → y6, f159 → zx, f178 → Ce
open Go.Vi.Ev renaming castH → zk, sym0 → zm, glob0 → zV, nilW → Bi, frameX → DN
open Go.Vi.SysT renaming row → zZ
open Go.Vi.FactT renaming row → zo
open List renaming getElem?_eq_getElem → zp, getD → zi, map → y9, length → zf, mem_of_getElem? → zL, length_map → AN, flatten → zl, mem_map → zI, map_set → DF, getElem?_eq_some_iff → zc, set → Bj, range' → Ax, foldl → Br, range → Ab, all_eq_true → zJ, replicate → zz
open Int renaming toNat → zh
open Go.IntKind renaming i64 → zb, wrap → zg
open Go.Vi.D renaming tup → Av, agg → AQ, fn → Ap, grd → CE, any → C6, innL → CJ
open Go.Vi.Dp renaming sl → AW
open Go.Fn renaming func → zB
open Bool renaming or_eq_false_iff → A4, not_eq_false' → CU, not_eq_true' → Ag, and_eq_true → zd, and_false → zU, false_and → zT, true_and → Ad, and_self → zX
open Go.Vi.CW renaming cast → zt, symX → zu
open Go.LoopState renaming ready → zM, busy → AE, exhausted → zY
open Go.Exit renaming normal → zr, exit → zQ
open Option renaming some → AK
open Go.Operand renaming const → C7
open Go.Vi.Blk renaming inn → zE
open Go.Value renaming tuple → Ah
open Go Go.Proofs
namespace Go.Vi
set_option maxRecDepth 100000
set_option maxHeartbeats 4000000
structure CourseT where
 name : ByteArray
 number : Int
 credits : Int
 rep : Int
 need : RuleT
 bar : RuleT
def CourseT.row (c : CourseT) : List Dp := [vs c.name, vi c.number, vi c.credits, vi c.rep,
 vi c.need.fl.op, vi c.need.fl.c, vs c.need.fl.nm, vi c.need.fl.n, vi c.need.fl.d, .sl c.need.fl.ks, vi c.bar.fl.op, vi c.bar.fl.c, vs c.bar.fl.nm, vi c.bar.fl.n, vi c.bar.fl.d, .sl c.bar.fl.ks]
def CourseT.ok (c : CourseT) : Prop := c.need.ok ∧ c.bar.ok
def bJ (c : CourseT) : Bool := inB c.number 0 4095 && inB c.credits 1 60 && inB c.rep 0 2 && (bf c.need.bad == 0) && (bf c.bar.bad == 0)
noncomputable abbrev b4 (c : CourseT) : List Blk := [.var [ai c.name, int c.number, int c.credits, int c.rep, int (y7 c.need).op, int (y7 c.need).c, ai (y7 c.need).nm, int (y7 c.need).n, int (y7 c.need).d, aa (y7 c.need).ks, int (y7 c.bar).op, int (y7 c.bar).c, ai (y7 c.bar).nm, int (y7 c.bar).n, int (y7 c.bar).d, aa (y7 c.bar).ks]]
theorem rg {c : CourseT} (hc : c.ok) (h : List Blk) : (Ev y6 Γk 198 [ag c.row] h (bool (bJ c)) h) := by
 refine zk (zm (d := bool (decide (c.number ≥ 0) && decide (c.number ≤ 4095) && (decide (c.credits ≥ 1) && decide (c.credits ≤ 60)) && (decide (c.rep ≥ 0) && decide (c.rep ≤ 2)) && bf (Bm c.need) == 0 && bf (Bm c.bar) == 0)) pok [.val (bool (decide (c.number ≥ 0) && decide (c.number ≤ 4095))), .val (bool (decide (c.credits ≥ 1) && decide (c.credits ≤ 60))), .val (bool (decide (c.rep ≥ 0) && decide (c.rep ≤ 2))), .val (int (bf (Bm c.need))), .val (int (bf (Bm c.bar)))] (by kernel_rfl) (.c (zV (Γ' := Γk) (@kV (c.number) 0 4095 (b4 c))) (.c (gd (decide (c.number ≥ 0) && decide (c.number ≤ 4095)) (zV (Γ' := Γk) (@kV (c.credits) 1 60 (b4 c)))) (.c (gd (decide (c.number ≥ 0) && decide (c.number ≤ 4095) && (decide (c.credits ≥ 1) && decide (c.credits ≤ 60))) (zV (Γ' := Γk) (@kV (c.rep) 0 2 (b4 c)))) (.c (gd (decide (c.number ≥ 0) && decide (c.number ≤ 4095) && (decide (c.credits ≥ 1) && decide (c.credits ≤ 60)) && (decide (c.rep ≥ 0) && decide (c.rep ≤ 2))) (@fZ (c.need) ?_ (b4 c))) (.c (gd (decide (c.number ≥ 0) && decide (c.number ≤ 4095) && (decide (c.credits ≥ 1) && decide (c.credits ≤ 60)) && (decide (c.rep ≥ 0) && decide (c.rep ≤ 2)) && bf (Bm c.need) == 0) (@fZ (c.bar) ?_ (b4 c))) .n))))) rfl rfl h) (by rfl) (by rfl) <;> (first | assumption | exact hc.1 | exact hc.2)
noncomputable abbrev oP (c : CourseT) (n : Int) : List Blk := [.var [int n], .var [ai c.name, int c.number, int c.credits, int c.rep, int (y7 c.need).op, int (y7 c.need).c, ai (y7 c.need).nm, int (y7 c.need).n, int (y7 c.need).d, aa (y7 c.need).ks, int (y7 c.bar).op, int (y7 c.bar).c, ai (y7 c.bar).nm, int (y7 c.bar).n, int (y7 c.bar).d, aa (y7 c.bar).ks]]
theorem qj {c : CourseT} (hc : c.ok) {n : Int} : (Ev y6 Γk 197 [ag c.row, .ref (.ptr 0 0)] [.var [int n]] (bool (c.number == n && bJ c)) [.var [int n]]) := by
 exact zk (Ev.symT (h' := [.var [int n]]) (d := bool (c.number == n && bJ c)) pok [.val (bool (bJ c))] (by kernel_rfl) (.c (gd (c.number == n) (@rg c hc (oP c n))) .n)) (by rfl) (by rfl)
structure WorldT where
 c : List CourseT
 p : List (List Dp)
 s : List SysT
 f : List FactT
def WorldT.l (w : WorldT) : List D := [aa (w.c.map CourseT.row), aa w.p, aa (w.s.map zZ), aa (w.f.map zo)]
abbrev atA (w : WorldT) (kk ks ko term known : Int) : List D := [aa (w.f.map zo), .agg [int kk, int ks, int ko], int term, int known]
abbrev oQ (kk ks ko a b : Int) : List (List Dp) := [[vi kk, vi ks, vi ko, vi a, vi b]]
theorem aK {α : Type} [Inhabited α] {row : α → List Dp} {l : List α} {v : Int} {sz : Nat} (hs : ∀ x, (row x).length = sz) (h0 : 0 ≤ v) (h1 : v < (l.length : Int)) : aj v (l.map row) (row (l.getD v.toNat default)) sz := by
 obtain ⟨n, rfl⟩ : ∃ n : Nat, v = n := ⟨v.toNat, by omega⟩
 have hn : n < l.length := by omega
 have hx : l[n]? = some l[n] := zp hn
 have : l.getD (zh (n : Int)) default = l[n] := by simp [zi, hx]
 rw [this]
 exact rowAt hx (hs _)
def d5 {α : Type} [Inhabited α] (l : List α) (valid : α → Bool) (p : Int × Bool) : Bool := !p.2 || decide (p.1 < 0) || decide (p.1 ≥ (l.length : Int)) || !valid (l.getD p.1.toNat default)
def fk {α : Type} [Inhabited α] (l : List α) (valid : α → Bool) (z : α) (p : Int × Bool) : α × Bool := match d5 l valid p with
 | true => (z, false)
 | false => (l.getD p.1.toNat default, true)
structure WorldT.ok (w : WorldT) : Prop where
 c : ∀ x ∈ w.c, x.ok
 s : ∀ x ∈ w.s, x.ok
 lf : w.f.length ≤ 69000
 lc : ak w.c
 ls : ak w.s
 i : ∀ f ∈ w.f, f.ok
theorem WorldT.ok.sf {w : WorldT} (h : w.ok) : ak w.f := by have := h.lf; unfold ak; omega
def outB (term : Int) : Bool := !(decide (term ≥ 0) && decide (term ≤ 1023))
def f4 (kk ks ko term : Int) : List (List Dp) := match outB term with
 | true => []
 | false => oQ kk ks ko term (zb.wrap (term + 1))
def RuleT.zero : RuleT := .mk 0 0 ⟨#[]⟩ 0 0 []
def CourseT.zero : CourseT := ⟨⟨#[]⟩, 0, 0, 0, RuleT.zero, RuleT.zero⟩
instance : Inhabited CourseT := ⟨CourseT.zero⟩
theorem CourseT.zero_ok : CourseT.zero.ok := by
 have : RuleT.zero.ok := ⟨by unfold I64 ak; simp, trivial⟩
 exact ⟨this, this⟩
theorem gO {l : List CourseT} (h : ∀ x ∈ l, x.ok) (n : Nat) : (l.getD n default).ok := by
 rcases Nat.lt_or_ge n l.length with hn | hn
 ·rw [zi, zp hn]; exact h _ (List.getElem_mem hn)
 ·rw [zi, List.getElem?_eq_none hn]; exact CourseT.zero_ok
abbrev crsZ : D := ag CourseT.zero.row
def aV (n : Int) (c : CourseT) : Bool := c.number == n && bJ c
noncomputable abbrev lc0_x0 (w : WorldT) (n : Int) : List Blk := [.var [int n], .var [aa (y9 CourseT.row w.c), aa w.p, aa (y9 zZ w.s), aa (y9 zo w.f)], .var [int 1, int n, int 0], .var [ai { data := #[] }, int 0, int 0, int 0, int 0, int 0, ai { data := #[] }, int 0, int 0, nq, int 0, int 0, ai { data := #[] }, int 0, int 0, nq]]
theorem lc0 {w : WorldT} {n term known : Int} (ht : (!(decide (term ≥ 0) && decide (term ≤ 1023))) = true) : (Ev y6 Γk 199 [.agg w.l, aa (w.c.map CourseT.row), .agg [int 1, int n, int 0], int term, int known, .fn (.func 197) [] [.ref (.ptr 0 0)]] [.var [int n]] (.tup [crsZ, aa [], bool false]) [.var [int n]]) := by
 exact zk (Bi (Ev.symT (h' := [.var [int n]]) (d := Av [AQ [ai { data := #[] }, int 0, int 0, int 0, int 0, int 0, ai { data := #[] }, int 0, int 0, nq, int 0, int 0, ai { data := #[] }, int 0, int 0, nq], nq, bool false]) pok [.val (bool (decide (term ≥ 0) && decide (term ≤ 1023))), .b true] (by kernel_rfl) (.c (zV (Γ' := Γk) (@kV term 0 1023 (lc0_x0 w n))) (.c ht .n)))) (by rfl) (by rfl)
noncomputable abbrev qk (w : WorldT) (v : Int) : List D := [AQ [ai (zi w.c (zh v) default).name, int (zi w.c (zh v) default).number, int (zi w.c (zh v) default).credits, int (zi w.c (zh v) default).rep, int (y7 (zi w.c (zh v) default).need).op, int (y7 (zi w.c (zh v) default).need).c, ai (y7 (zi w.c (zh v) default).need).nm, int (y7 (zi w.c (zh v) default).need).n, int (y7 (zi w.c (zh v) default).need).d, aa (y7 (zi w.c (zh v) default).need).ks, int (y7 (zi w.c (zh v) default).bar).op, int (y7 (zi w.c (zh v) default).bar).c, ai (y7 (zi w.c (zh v) default).bar).nm, int (y7 (zi w.c (zh v) default).bar).n, int (y7 (zi w.c (zh v) default).bar).d, aa (y7 (zi w.c (zh v) default).bar).ks], .ref (.ptr 0 0)]
noncomputable abbrev hZ (w : WorldT) (n : Int) : List Blk := [.var [int n], .var [aa (y9 CourseT.row w.c), aa w.p, aa (y9 zZ w.s), aa (y9 zo w.f)], .var [int 1, int n, int 0], .var [ai { data := #[] }, int 0, int 0, int 0, int 0, int 0, ai { data := #[] }, int 0, int 0, nq, int 0, int 0, ai { data := #[] }, int 0, int 0, nq], .gone]
noncomputable abbrev wK (w : WorldT) (n : Int) : List Blk := [.var [int n], .var [aa (y9 CourseT.row w.c), aa w.p, aa (y9 zZ w.s), aa (y9 zo w.f)], .var [int 1, int n, int 0], .var [ai { data := #[] }, int 0, int 0, int 0, int 0, int 0, ai { data := #[] }, int 0, int 0, nq, int 0, int 0, ai { data := #[] }, int 0, int 0, nq]]
theorem lc1 {w : WorldT} {n term known v : Int} {b : Bool} (ht : (!(decide (term ≥ 0) && decide (term ≤ 1023))) = false) (hat : ∀ h, Ev y6 Γk 86 (atA w 1 n 0 term known) h (.tup [int v, bool b]) h) (hs : ∀ x ∈ w.c, x.ok) : (Ev y6 Γk 199 [.agg w.l, aa (w.c.map CourseT.row), .agg [int 1, int n, int 0], int term, int known, .fn (.func 197) [] [.ref (.ptr 0 0)]] [.var [int n]] (.tup [ag (fk w.c (aV n) CourseT.zero (v, b)).1.row, aa (oQ 1 n 0 term (zb.wrap (term + 1))), bool (fk w.c (aV n) CourseT.zero (v, b)).2]) [.var [int n]]) := by
 cases hc0 : !b || decide (v < 0) || decide (v ≥ (↑(zf (y9 CourseT.row w.c)) : Int)) || !((zi w.c (zh v) default).number == n && bJ (zi w.c (zh v) default))
 ·let v0 := zi w.c (zh v) default
  let v1 := y9 CourseT.row w.c
  let v2 : List D := [int 1, int n, int 0, int term, int (zg zb (term + 1))]
  refine zk (Bi (Ev.symT (h' := [.var [int n]]) (d := Av [AQ [ai v0.name, int v0.number, int v0.credits, int v0.rep, int (y7 v0.need).op, int (y7 v0.need).c, ai (y7 v0.need).nm, int (y7 v0.need).n, int (y7 v0.need).d, aa (y7 v0.need).ks, int (y7 v0.bar).op, int (y7 v0.bar).c, ai (y7 v0.bar).nm, int (y7 v0.bar).n, int (y7 v0.bar).d, aa (y7 v0.bar).ks], aa [[vi 1, vi n, vi 0, vi term, vi (zg zb (term + 1))]], bool true]) pok [.val (bool (decide (term ≥ 0) && decide (term ≤ 1023))), .b false, .nx 1, .st (.frz 4 (oQ 1 n 0 term (zg zb (term + 1)))), .val (Av [int v, bool b]), .row [vs v0.name, vi v0.number, vi v0.credits, vi v0.rep, vi (y7 v0.need).op, vi (y7 v0.need).c, vs (y7 v0.need).nm, vi (y7 v0.need).n, vi (y7 v0.need).d, AW (y7 v0.need).ks, vi (y7 v0.bar).op, vi (y7 v0.bar).c, vs (y7 v0.bar).nm, vi (y7 v0.bar).n, vi (y7 v0.bar).d, AW (y7 v0.bar).ks], .val (bool (v0.number == n && bJ v0)), .b false, .row [vs v0.name, vi v0.number, vi v0.credits, vi v0.rep, vi (y7 v0.need).op, vi (y7 v0.need).c, vs (y7 v0.need).nm, vi (y7 v0.need).n, vi (y7 v0.need).d, AW (y7 v0.need).ks, vi (y7 v0.bar).op, vi (y7 v0.bar).c, vs (y7 v0.bar).nm, vi (y7 v0.bar).n, vi (y7 v0.bar).d, AW (y7 v0.bar).ks]] (by kernel_rfl) (.c (zV (Γ' := Γk) (@kV term 0 1023 (wK w n))) (.c ht (.c (show [v2] = [v2] from rfl) (.c (@hat (hZ w n)) (.c (show (!(!b || decide (v < 0) || decide (v ≥ (↑(zf v1) : Int)))) = true → aj v v1 [vs v0.name, vi v0.number, vi v0.credits, vi v0.rep, vi (y7 v0.need).op, vi (y7 v0.need).c, vs (y7 v0.need).nm, vi (y7 v0.need).n, vi (y7 v0.need).d, AW (y7 v0.need).ks, vi (y7 v0.bar).op, vi (y7 v0.bar).c, vs (y7 v0.bar).nm, vi (y7 v0.bar).n, vi (y7 v0.bar).d, AW (y7 v0.bar).ks] 16 from (fun hg => ?_)) (.c (show (!(!b || decide (v < 0) || decide (v ≥ (↑(zf v1) : Int)))) = true → Ev y6 Γk 197 (qk w v) (hZ w n) (bool (v0.number == n && bJ v0)) (hZ w n) from (fun hg => (zk (DN (args := (qk w v)) (H := (hZ w n)) [0] (@qj v0 ?_ n) (by kernel_rfl) (by kernel_rfl) (by kernel_rfl) trivial trivial) (by kernel_rfl) (by kernel_rfl)))) (.c hc0 (.c (show aj v v1 [vs v0.name, vi v0.number, vi v0.credits, vi v0.rep, vi (y7 v0.need).op, vi (y7 v0.need).c, vs (y7 v0.need).nm, vi (y7 v0.need).n, vi (y7 v0.need).d, AW (y7 v0.need).ks, vi (y7 v0.bar).op, vi (y7 v0.bar).c, vs (y7 v0.bar).nm, vi (y7 v0.bar).n, vi (y7 v0.bar).d, AW (y7 v0.bar).ks] 16 from ?_) .n)))))))))) (by subst v0 v1 v2; first | (have hb : d5 w.c (aV n) (v, b) = true := by rw [← hc0]; simp [d5, aV]); simp only [fk, hb]; rfl | (have hb : d5 w.c (aV n) (v, b) = false := by rw [← hc0]; simp [d5, aV]); simp only [fk, hb]; rfl | rfl) (by subst v0 v1 v2; first | (have hb : d5 w.c (aV n) (v, b) = true := by rw [← hc0]; simp [d5, aV]); simp only [fk, hb]; rfl | (have hb : d5 w.c (aV n) (v, b) = false := by rw [← hc0]; simp [d5, aV]); simp only []; rfl | rfl) <;> subst v0 v1 v2 <;> (first | assumption | exact gO hs _ | (refine aK (fun _ => rfl) ?_ ?_ <;> simp_all; done) | (simp_all; done))
 ·let v0 := zi w.c (zh v) default
  let v1 : List D := [int 1, int n, int 0, int term, int (zg zb (term + 1))]
  refine zk (Bi (Ev.symT (h' := [.var [int n]]) (d := Av [AQ [ai { data := #[] }, int 0, int 0, int 0, int 0, int 0, ai { data := #[] }, int 0, int 0, nq, int 0, int 0, ai { data := #[] }, int 0, int 0, nq], aa [[vi 1, vi n, vi 0, vi term, vi (zg zb (term + 1))]], bool false]) pok [.val (bool (decide (term ≥ 0) && decide (term ≤ 1023))), .b false, .nx 1, .st (.frz 4 (oQ 1 n 0 term (zg zb (term + 1)))), .val (Av [int v, bool b]), .row [vs v0.name, vi v0.number, vi v0.credits, vi v0.rep, vi (y7 v0.need).op, vi (y7 v0.need).c, vs (y7 v0.need).nm, vi (y7 v0.need).n, vi (y7 v0.need).d, AW (y7 v0.need).ks, vi (y7 v0.bar).op, vi (y7 v0.bar).c, vs (y7 v0.bar).nm, vi (y7 v0.bar).n, vi (y7 v0.bar).d, AW (y7 v0.bar).ks], .val (bool (v0.number == n && bJ v0)), .b true] (by kernel_rfl) (.c (zV (Γ' := Γk) (@kV term 0 1023 (wK w n))) (.c ht (.c (show [v1] = [v1] from rfl) (.c (@hat (hZ w n)) (.c (show (!(!b || decide (v < 0) || decide (v ≥ (↑(zf (y9 CourseT.row w.c)) : Int)))) = true → aj v (y9 CourseT.row w.c) [vs v0.name, vi v0.number, vi v0.credits, vi v0.rep, vi (y7 v0.need).op, vi (y7 v0.need).c, vs (y7 v0.need).nm, vi (y7 v0.need).n, vi (y7 v0.need).d, AW (y7 v0.need).ks, vi (y7 v0.bar).op, vi (y7 v0.bar).c, vs (y7 v0.bar).nm, vi (y7 v0.bar).n, vi (y7 v0.bar).d, AW (y7 v0.bar).ks] 16 from (fun hg => (by subst v0 v1; first | assumption | exact gO hs _ | (refine aK (fun _ => rfl) ?_ ?_ <;> simp_all; done) | (simp_all; done)))) (.c (show (!(!b || decide (v < 0) || decide (v ≥ (↑(zf (y9 CourseT.row w.c)) : Int)))) = true → Ev y6 Γk 197 (qk w v) (hZ w n) (bool (v0.number == n && bJ v0)) (hZ w n) from (fun hg => (zk (DN (args := (qk w v)) (H := (hZ w n)) [0] (@qj v0 (by subst v0 v1; first | assumption | exact gO hs _ | (refine aK (fun _ => rfl) ?_ ?_ <;> simp_all; done) | (simp_all; done)) n) (by kernel_rfl) (by kernel_rfl) (by kernel_rfl) trivial trivial) (by kernel_rfl) (by kernel_rfl)))) (.c hc0 .n))))))))) ?_ ?_ <;> subst v0 v1 <;> (first | (have hb : d5 w.c (aV n) (v, b) = true := by rw [← hc0]; simp [d5, aV]); simp only [fk, hb]; rfl | (have hb : d5 w.c (aV n) (v, b) = false := by rw [← hc0]; simp [d5, aV]); simp only [fk, hb]; rfl | rfl)
def ab (w : WorldT) (n term known : Int) : CourseT × Bool := match outB term with
 | true => (CourseT.zero, false)
 | false => fk w.c (aV n) CourseT.zero (atR 1 n 0 term known w.f)
theorem rj {w : WorldT} (hw : w.ok) {n term known : Int} : Ev y6 Γk 199 [.agg w.l, aa (w.c.map CourseT.row), .agg [int 1, int n, int 0], int term, int known, .fn (.func 197) [] [.ref (.ptr 0 0)]] [.var [int n]] (.tup [ag (ab w n term known).1.row, aa (f4 1 n 0 term), bool (ab w n term known).2]) [.var [int n]] := by
 unfold ab f4
 cases ht : outB term with
 | true => exact lc0 ht
 | false => exact lc1 ht (fun h => zV (at_ev hw.sf h)) hw.c
noncomputable abbrev eA (w : WorldT) (n : Int) : List Blk := [.var [aa (y9 CourseT.row w.c), aa w.p, aa (y9 zZ w.s), aa (y9 zo w.f)], .var [int n], .var [ai { data := #[] }, int 0, int 0, int 0, int 0, int 0, ai { data := #[] }, int 0, int 0, nq, int 0, int 0, ai { data := #[] }, int 0, int 0, nq]]
theorem rn {w : WorldT} (hw : w.ok) {n term known : Int} (h : List Blk) : (Ev y6 Γk 161 [.agg w.l, int n, int term, int known] h (.tup [ag (ab w n term known).1.row, aa (f4 1 n 0 term), bool (ab w n term known).2]) h) := by
 let v0 := Av [AQ [ai (ab w n term known).fst.name, int (ab w n term known).fst.number, int (ab w n term known).fst.credits, int (ab w n term known).fst.rep, int (y7 (ab w n term known).fst.need).op, int (y7 (ab w n term known).fst.need).c, ai (y7 (ab w n term known).fst.need).nm, int (y7 (ab w n term known).fst.need).n, int (y7 (ab w n term known).fst.need).d, aa (y7 (ab w n term known).fst.need).ks, int (y7 (ab w n term known).fst.bar).op, int (y7 (ab w n term known).fst.bar).c, ai (y7 (ab w n term known).fst.bar).nm, int (y7 (ab w n term known).fst.bar).n, int (y7 (ab w n term known).fst.bar).d, aa (y7 (ab w n term known).fst.bar).ks], aa (f4 1 n 0 term), bool (ab w n term known).snd]
 exact zk (zm (d := Av [AQ [ai (ab w n term known).fst.name, int (ab w n term known).fst.number, int (ab w n term known).fst.credits, int (ab w n term known).fst.rep, int (y7 (ab w n term known).fst.need).op, int (y7 (ab w n term known).fst.need).c, ai (y7 (ab w n term known).fst.need).nm, int (y7 (ab w n term known).fst.need).n, int (y7 (ab w n term known).fst.need).d, aa (y7 (ab w n term known).fst.need).ks, int (y7 (ab w n term known).fst.bar).op, int (y7 (ab w n term known).fst.bar).c, ai (y7 (ab w n term known).fst.bar).nm, int (y7 (ab w n term known).fst.bar).n, int (y7 (ab w n term known).fst.bar).d, aa (y7 (ab w n term known).fst.bar).ks], aa (f4 1 n 0 term), bool (ab w n term known).snd]) pok [.val v0] (by kernel_rfl) (.c (show Ev y6 Γk 199 [AQ (WorldT.l w), aa (y9 CourseT.row w.c), AQ [int 1, int n, int 0], int term, int known, Ap (zB 197) [] [.ref (.ptr 1 0)]] (eA w n) v0 (eA w n) from (zk (DN (args := [AQ (WorldT.l w), aa (y9 CourseT.row w.c), AQ [int 1, int n, int 0], int term, int known, Ap (zB 197) [] [.ref (.ptr 1 0)]]) (H := (eA w n)) [1] (@rj w hw n term known) (by kernel_rfl) (by kernel_rfl) (by kernel_rfl) trivial trivial) (by kernel_rfl) (by kernel_rfl))) .n) rfl rfl h) (by rfl) (by rfl)
end Go.Vi
open Go Go.Proofs
namespace Go.Vi
set_option maxRecDepth 100000
set_option maxHeartbeats 4000000
theorem nM {kk ks ko term : Int} (h : List Blk) : (Ev y6 Γ0 128 [.agg [int kk, int ks, int ko], int term] h (.agg [int kk, int ks, int ko, int term, int (zb.wrap (term + 1))]) h) := by
 exact zk (zm (d := AQ [int kk, int ks, int ko, int term, int (zg zb (term + 1))]) pok [] (by kernel_rfl) .n rfl rfl h) (by rfl) (by rfl)
def CourseT.small (c : CourseT) : Prop := c.need.size ≤ 1048576 ∧ c.bar.size ≤ 1048576
noncomputable abbrev ba (c : CourseT) : List Blk := [.var [ai c.name, int c.number, int c.credits, int c.rep, int (y7 c.need).op, int (y7 c.need).c, ai (y7 c.need).nm, int (y7 c.need).n, int (y7 c.need).d, aa (y7 c.need).ks, int (y7 c.bar).op, int (y7 c.bar).c, ai (y7 c.bar).nm, int (y7 c.bar).n, int (y7 c.bar).d, aa (y7 c.bar).ks]]
theorem f5 {c : CourseT} (hc : c.ok) (hs : c.small) (h : List Blk) : (Ev y6 Γ0 133 [ag c.row] h (bool (bJ c)) h) := by
 refine zk (zm (d := bool (decide (c.number ≥ 0) && decide (c.number ≤ 4095) && (decide (c.credits ≥ 1) && decide (c.credits ≤ 60)) && (decide (c.rep ≥ 0) && decide (c.rep ≤ 2)) && bf (Bm c.need) == 0 && bf (Bm c.bar) == 0)) pok [.val (bool (decide (c.number ≥ 0) && decide (c.number ≤ 4095))), .val (bool (decide (c.credits ≥ 1) && decide (c.credits ≤ 60))), .val (bool (decide (c.rep ≥ 0) && decide (c.rep ≤ 2))), .val (int (bf (Bm c.need))), .val (int (bf (Bm c.bar)))] (by kernel_rfl) (.c (@ez (c.number) 0 4095 (ba c)) (.c (gd (decide (c.number ≥ 0) && decide (c.number ≤ 4095)) (@ez (c.credits) 1 60 (ba c))) (.c (gd (decide (c.number ≥ 0) && decide (c.number ≤ 4095) && (decide (c.credits ≥ 1) && decide (c.credits ≤ 60))) (@ez (c.rep) 0 2 (ba c))) (.c (gd (decide (c.number ≥ 0) && decide (c.number ≤ 4095) && (decide (c.credits ≥ 1) && decide (c.credits ≤ 60)) && (decide (c.rep ≥ 0) && decide (c.rep ≤ 2))) (@lg (c.need) ?_ ?_ (ba c))) (.c (gd (decide (c.number ≥ 0) && decide (c.number ≤ 4095) && (decide (c.credits ≥ 1) && decide (c.credits ≤ 60)) && (decide (c.rep ≥ 0) && decide (c.rep ≤ 2)) && bf (Bm c.need) == 0) (@lg (c.bar) ?_ ?_ (ba c))) .n))))) rfl rfl h) (by rfl) (by rfl) <;> (first | assumption | exact hc.1 | exact hc.2 | exact hs.1 | exact hs.2)
theorem ql {l : List CourseT} {v n : Int} {b : Bool} (hw1 : zb.wrap (((l.map CourseT.row).length : Int) - 1) = (l.length : Int) - 1) :
  (!b || !(decide (v ≥ 0) && decide (v ≤ zb.wrap (((l.map CourseT.row).length : Int) - 1))) || (!((l.getD v.toNat default).number == n)) || !bJ (l.getD v.toNat default)) = d5 l (aV n) (v, b) := by
 unfold d5 aV
 rw [hw1]
 have e1 : decide (v < 0) = !decide (v ≥ 0) := by by_cases h : v ≥ 0 <;> simp [h] <;> omega
 have e2 : decide (v ≥ (l.length : Int)) = !decide (v ≤ (l.length : Int) - 1) := by by_cases h : v ≤ (l.length : Int) - 1 <;> simp [h] <;> omega
 simp only [e1, e2]
 cases b <;> cases decide (v ≥ 0) <;> cases decide (v ≤ (l.length : Int) - 1) <;> simp
noncomputable abbrev ro (w : WorldT) : List Blk := [.var [aa (y9 CourseT.row w.c), aa w.p, aa (y9 zZ w.s), aa (y9 zo w.f)], .var [ai { data := #[] }, int 0, int 0, int 0, int 0, int 0, ai { data := #[] }, int 0, int 0, nq, int 0, int 0, ai { data := #[] }, int 0, int 0, nq]]
theorem yk {w : WorldT} {n term known : Int} (ht : (!(decide (term ≥ 0) && decide (term ≤ 1023))) = true) (h : List Blk) : (Ev y6 Γ0 76 [.agg w.l, int n, int term, int known] h (.tup [ag CourseT.zero.row, aa [], bool false]) h) := by
 exact zk (Bi (zm (d := Av [AQ [ai { data := #[] }, int 0, int 0, int 0, int 0, int 0, ai { data := #[] }, int 0, int 0, nq, int 0, int 0, ai { data := #[] }, int 0, int 0, nq], nq, bool false]) pok [.val (bool (decide (term ≥ 0) && decide (term ≤ 1023))), .b true] (by kernel_rfl) (.c (@ez term 0 1023 (ro w)) (.c ht .n)) rfl rfl h)) (by rfl) (by rfl)
noncomputable abbrev cO (w : WorldT) (n : Int) : List Blk := [.var [aa (y9 CourseT.row w.c), aa w.p, aa (y9 zZ w.s), aa (y9 zo w.f)], .var [ai { data := #[] }, int 0, int 0, int 0, int 0, int 0, ai { data := #[] }, int 0, int 0, nq, int 0, int 0, ai { data := #[] }, int 0, int 0, nq], .var [int 1, int n, int 0], .gone]
noncomputable abbrev li (w : WorldT) (n : Int) : List Blk := [.var [aa (y9 CourseT.row w.c), aa w.p, aa (y9 zZ w.s), aa (y9 zo w.f)], .var [ai { data := #[] }, int 0, int 0, int 0, int 0, int 0, ai { data := #[] }, int 0, int 0, nq, int 0, int 0, ai { data := #[] }, int 0, int 0, nq], .var [int 1, int n, int 0]]
noncomputable abbrev lj (w : WorldT) : List Blk := [.var [aa (y9 CourseT.row w.c), aa w.p, aa (y9 zZ w.s), aa (y9 zo w.f)], .var [ai { data := #[] }, int 0, int 0, int 0, int 0, int 0, ai { data := #[] }, int 0, int 0, nq, int 0, int 0, ai { data := #[] }, int 0, int 0, nq]]
theorem ym {w : WorldT} {n term known v : Int} {b : Bool} (ht : (!(decide (term ≥ 0) && decide (term ≤ 1023))) = false) (hat : ∀ h, Ev y6 Γ0 124 [aa (w.f.map zo), .agg [int 1, int n, int 0], int term, int known] h (.tup [int v, bool b]) h) (hs : ∀ x ∈ w.c, x.ok) (hs2 : ∀ x ∈ w.c, x.small) (hw1 : zb.wrap (((w.c.map CourseT.row).length : Int) - 1) = (w.c.length : Int) - 1)
  (hd1 : (w.c.getD v.toNat default).ok) (hd2 : (w.c.getD v.toNat default).small) (h : List Blk) : (Ev y6 Γ0 76 [.agg w.l, int n, int term, int known] h (.tup [ag (fk w.c (aV n) CourseT.zero (v, b)).1.row, aa (oQ 1 n 0 term (zb.wrap (term + 1))), bool (fk w.c (aV n) CourseT.zero (v, b)).2]) h) := by
 cases hc0 : !b || !(decide (v ≥ 0) && decide (v ≤ zg zb ((↑(zf (y9 CourseT.row w.c)) : Int) - 1))) || (zi w.c (zh v) default).number != n || !bJ (zi w.c (zh v) default)
 ·let v0 := zi w.c (zh v) default
  let v1 := y9 CourseT.row w.c
  let v2 : List D := [int 1, int n, int 0, int term, int (zg zb (term + 1))]
  refine zk (Bi (zm (d := Av [AQ [ai v0.name, int v0.number, int v0.credits, int v0.rep, int (y7 v0.need).op, int (y7 v0.need).c, ai (y7 v0.need).nm, int (y7 v0.need).n, int (y7 v0.need).d, aa (y7 v0.need).ks, int (y7 v0.bar).op, int (y7 v0.bar).c, ai (y7 v0.bar).nm, int (y7 v0.bar).n, int (y7 v0.bar).d, aa (y7 v0.bar).ks], aa [[vi 1, vi n, vi 0, vi term, vi (zg zb (term + 1))]], bool true]) pok [.val (bool (decide (term ≥ 0) && decide (term ≤ 1023))), .b false, .val (AQ v2), .st (.frz 3 (oQ 1 n 0 term (zg zb (term + 1)))), .val (Av [int v, bool b]), .val (bool (decide (v ≥ 0) && decide (v ≤ zg zb ((↑(zf v1) : Int) - 1)))), .row [vs v0.name, vi v0.number, vi v0.credits, vi v0.rep, vi (y7 v0.need).op, vi (y7 v0.need).c, vs (y7 v0.need).nm, vi (y7 v0.need).n, vi (y7 v0.need).d, AW (y7 v0.need).ks, vi (y7 v0.bar).op, vi (y7 v0.bar).c, vs (y7 v0.bar).nm, vi (y7 v0.bar).n, vi (y7 v0.bar).d, AW (y7 v0.bar).ks], .row [vs v0.name, vi v0.number, vi v0.credits, vi v0.rep, vi (y7 v0.need).op, vi (y7 v0.need).c, vs (y7 v0.need).nm, vi (y7 v0.need).n, vi (y7 v0.need).d, AW (y7 v0.need).ks, vi (y7 v0.bar).op, vi (y7 v0.bar).c, vs (y7 v0.bar).nm, vi (y7 v0.bar).n, vi (y7 v0.bar).d, AW (y7 v0.bar).ks], .val (bool (bJ v0)), .b false, .row [vs v0.name, vi v0.number, vi v0.credits, vi v0.rep, vi (y7 v0.need).op, vi (y7 v0.need).c, vs (y7 v0.need).nm, vi (y7 v0.need).n, vi (y7 v0.need).d, AW (y7 v0.need).ks, vi (y7 v0.bar).op, vi (y7 v0.bar).c, vs (y7 v0.bar).nm, vi (y7 v0.bar).n, vi (y7 v0.bar).d, AW (y7 v0.bar).ks]] (by kernel_rfl) (.c (@ez term 0 1023 (lj w)) (.c ht (.c (@nM 1 n 0 term (li w n)) (.c (show [v2] = [v2] from rfl) (.c (@hat (cO w n)) (.c (gd (!!b) (@ez v 0 (zg zb ((↑(zf v1) : Int) - 1)) (cO w n))) (.c (show (!(!b || !(decide (v ≥ 0) && decide (v ≤ zg zb ((↑(zf v1) : Int) - 1))))) = true → aj v v1 [vs v0.name, vi v0.number, vi v0.credits, vi v0.rep, vi (y7 v0.need).op, vi (y7 v0.need).c, vs (y7 v0.need).nm, vi (y7 v0.need).n, vi (y7 v0.need).d, AW (y7 v0.need).ks, vi (y7 v0.bar).op, vi (y7 v0.bar).c, vs (y7 v0.bar).nm, vi (y7 v0.bar).n, vi (y7 v0.bar).d, AW (y7 v0.bar).ks] 16 from (fun hg => ?_)) (.c (show (!(!b || !(decide (v ≥ 0) && decide (v ≤ zg zb ((↑(zf v1) : Int) - 1))) || v0.number != n)) = true → aj v v1 [vs v0.name, vi v0.number, vi v0.credits, vi v0.rep, vi (y7 v0.need).op, vi (y7 v0.need).c, vs (y7 v0.need).nm, vi (y7 v0.need).n, vi (y7 v0.need).d, AW (y7 v0.need).ks, vi (y7 v0.bar).op, vi (y7 v0.bar).c, vs (y7 v0.bar).nm, vi (y7 v0.bar).n, vi (y7 v0.bar).d, AW (y7 v0.bar).ks] 16 from (fun hg => ?_)) (.c (gd (!(!b || !(decide (v ≥ 0) && decide (v ≤ zg zb ((↑(zf v1) : Int) - 1))) || v0.number != n)) (@f5 v0 hd1 hd2 (cO w n))) (.c hc0 (.c (show aj v v1 [vs v0.name, vi v0.number, vi v0.credits, vi v0.rep, vi (y7 v0.need).op, vi (y7 v0.need).c, vs (y7 v0.need).nm, vi (y7 v0.need).n, vi (y7 v0.need).d, AW (y7 v0.need).ks, vi (y7 v0.bar).op, vi (y7 v0.bar).c, vs (y7 v0.bar).nm, vi (y7 v0.bar).n, vi (y7 v0.bar).d, AW (y7 v0.bar).ks] 16 from ?_) .n))))))))))) rfl rfl h)) (by subst v0 v1 v2; first | (have hb : d5 w.c (aV n) (v, b) = true := (ql hw1).symm.trans hc0; simp only [fk, hb]; rfl) | (have hb : d5 w.c (aV n) (v, b) = false := (ql hw1).symm.trans hc0; simp only [fk, hb]; rfl) | rfl) (by rfl) <;> subst v0 v1 v2 <;> (first | assumption | (refine aK (fun _ => rfl) ?_ ?_ <;> simp only [hw1, A4, CU, Ag, zd, decide_eq_true_eq] at * <;> omega) | (refine aK (fun _ => rfl) ?_ ?_ <;> simp_all <;> omega))
 ·let v0 := zi w.c (zh v) default
  let v1 := zf (y9 CourseT.row w.c)
  let v2 : List D := [int 1, int n, int 0, int term, int (zg zb (term + 1))]
  refine zk (Bi (zm (d := Av [AQ [ai { data := #[] }, int 0, int 0, int 0, int 0, int 0, ai { data := #[] }, int 0, int 0, nq, int 0, int 0, ai { data := #[] }, int 0, int 0, nq], aa [[vi 1, vi n, vi 0, vi term, vi (zg zb (term + 1))]], bool false]) pok [.val (bool (decide (term ≥ 0) && decide (term ≤ 1023))), .b false, .val (AQ v2), .st (.frz 3 (oQ 1 n 0 term (zg zb (term + 1)))), .val (Av [int v, bool b]), .val (bool (decide (v ≥ 0) && decide (v ≤ zg zb ((↑v1 : Int) - 1)))), .row [vs v0.name, vi v0.number, vi v0.credits, vi v0.rep, vi (y7 v0.need).op, vi (y7 v0.need).c, vs (y7 v0.need).nm, vi (y7 v0.need).n, vi (y7 v0.need).d, AW (y7 v0.need).ks, vi (y7 v0.bar).op, vi (y7 v0.bar).c, vs (y7 v0.bar).nm, vi (y7 v0.bar).n, vi (y7 v0.bar).d, AW (y7 v0.bar).ks], .row [vs v0.name, vi v0.number, vi v0.credits, vi v0.rep, vi (y7 v0.need).op, vi (y7 v0.need).c, vs (y7 v0.need).nm, vi (y7 v0.need).n, vi (y7 v0.need).d, AW (y7 v0.need).ks, vi (y7 v0.bar).op, vi (y7 v0.bar).c, vs (y7 v0.bar).nm, vi (y7 v0.bar).n, vi (y7 v0.bar).d, AW (y7 v0.bar).ks], .val (bool (bJ v0)), .b true] (by kernel_rfl) (.c (@ez term 0 1023 (lj w)) (.c ht (.c (@nM 1 n 0 term (li w n)) (.c (show [v2] = [v2] from rfl) (.c (@hat (cO w n)) (.c (gd (!!b) (@ez v 0 (zg zb ((↑v1 : Int) - 1)) (cO w n))) (.c (show (!(!b || !(decide (v ≥ 0) && decide (v ≤ zg zb ((↑v1 : Int) - 1))))) = true → aj v (y9 CourseT.row w.c) [vs v0.name, vi v0.number, vi v0.credits, vi v0.rep, vi (y7 v0.need).op, vi (y7 v0.need).c, vs (y7 v0.need).nm, vi (y7 v0.need).n, vi (y7 v0.need).d, AW (y7 v0.need).ks, vi (y7 v0.bar).op, vi (y7 v0.bar).c, vs (y7 v0.bar).nm, vi (y7 v0.bar).n, vi (y7 v0.bar).d, AW (y7 v0.bar).ks] 16 from (fun hg => ?_)) (.c (show (!(!b || !(decide (v ≥ 0) && decide (v ≤ zg zb ((↑v1 : Int) - 1))) || v0.number != n)) = true → aj v (y9 CourseT.row w.c) [vs v0.name, vi v0.number, vi v0.credits, vi v0.rep, vi (y7 v0.need).op, vi (y7 v0.need).c, vs (y7 v0.need).nm, vi (y7 v0.need).n, vi (y7 v0.need).d, AW (y7 v0.need).ks, vi (y7 v0.bar).op, vi (y7 v0.bar).c, vs (y7 v0.bar).nm, vi (y7 v0.bar).n, vi (y7 v0.bar).d, AW (y7 v0.bar).ks] 16 from (fun hg => ?_)) (.c (gd (!(!b || !(decide (v ≥ 0) && decide (v ≤ zg zb ((↑v1 : Int) - 1))) || v0.number != n)) (@f5 v0 hd1 hd2 (cO w n))) (.c hc0 .n)))))))))) rfl rfl h)) (by subst v0 v1 v2; first | (have hb : d5 w.c (aV n) (v, b) = true := (ql hw1).symm.trans hc0; simp only [fk, hb]; rfl) | (have hb : d5 w.c (aV n) (v, b) = false := (ql hw1).symm.trans hc0; simp only [fk, hb]; rfl) | rfl) (by rfl) <;> subst v0 v1 v2 <;> (first | assumption | (refine aK (fun _ => rfl) ?_ ?_ <;> simp only [hw1, A4, CU, Ag, zd, decide_eq_true_eq, Bool.or_eq_true] at * <;> omega) | (refine aK (fun _ => rfl) ?_ ?_ <;> simp_all <;> omega))
end Go.Vi
open Go Go.Proofs
namespace Go.Vi
set_option maxRecDepth 100000
set_option maxHeartbeats 1000000
theorem yn (f g : FactT) : decide (orI (aF f.known g.known) (aF f.no g.no) ≥ 0) = !befB f g := by
 have h : orI (aF f.known g.known) (aF f.no g.no) ≥ 0 ↔ ¬ (f.known < g.known ∨ (f.known = g.known ∧ f.no < g.no)) := by
  unfold orI aF
  repeat' split
  all_goals simp_all
  all_goals omega
 rw [Bool.eq_iff_iff]
 simp only [decide_eq_true_eq, h, befB, Ag, A4, Bool.and_eq_false_iff, decide_eq_false_iff_not, beq_eq_false_iff_ne, ne_eq]
 omega
def a7Rel (s : Option (Nat × FactT)) (r : FactT × Bool) : Prop := match s with
 | none => r.2 = false
 | some p => r.2 = true ∧ r.1 = p.2
theorem yp {kk ks ko term known : Int} {i : Nat} {s : Option (Nat × FactT)} {r : FactT × Bool} {f : FactT} (h : a7Rel s r) :
  ∃ s', a7F kk ks ko term known f (i, s) = .inl (i + 1, s') ∧ a7Rel s' (nZ kk ks ko term known r f) := by
 refine ⟨_, rfl, ?_⟩
 obtain ⟨g, b⟩ := r
 unfold nZ ofIs br q8 eU
 cases s with
 | none =>
  simp only [a7Rel] at h
  subst h
  simp only
  cases keyIs kk ks ko f <;> cases decide (f.frm ≤ term) <;> cases decide (term < f.til) <;> cases decide (f.known ≤ known) <;> simp [a7Rel]
 | some p =>
  obtain ⟨j, q⟩ := p
  simp only [a7Rel] at h
  obtain ⟨rfl, rfl⟩ := h
  simp only [yn]
  cases keyIs kk ks ko f <;> cases decide (f.frm ≤ term) <;> cases decide (term < f.til) <;> cases decide (f.known ≤ known) <;> cases befB f g <;> simp [a7Rel]
theorem tu {kk ks ko term known : Int} : ∀ (l : List FactT) (i : Nat) (s : Option (Nat × FactT)) (r : FactT × Bool), a7Rel s r →
  ∃ s', bp (a7F kk ks ko term known) l (i, s) = .inl (i + l.length, s') ∧ a7Rel s' (l.foldl (nZ kk ks ko term known) r)
 | [], i, s, r, h => ⟨s, rfl, h⟩
 | f :: l, i, s, r, h => by
  obtain ⟨s1, e1, h1⟩ := yp (kk := kk) (ks := ks) (ko := ko) (term := term) (known := known) (i := i) (f := f) h
  obtain ⟨s2, e2, h2⟩ := tu l (i + 1) s1 _ h1
  refine ⟨s2, ?_, h2⟩
  simp only [bp, e1, e2, List.length_cons]
  congr 2
  omega
theorem at7_eq {kk ks ko term known : Int} {l : List FactT} : uA kk ks ko term known l = atR kk ks ko term known l := by
 obtain ⟨s, e, h⟩ := tu (kk := kk) (ks := ks) (ko := ko) (term := term) (known := known) l 0 none (fz, false) rfl
 have hb : a7B kk ks ko term known l = s := by unfold a7B; rw [e]
 unfold uA atR
 rw [hb]
 cases s with
 | none =>
  simp only [a7Rel] at h
  simp only [h]; rfl
 | some p =>
  simp only [a7Rel] at h
  have hp := wJ hb
  have hg : l.getD p.1 default = p.2 := by simp [zi, hp]
  simp only [Int.toNat_natCast, hg, h.1, h.2]
  cases decide (p.2.value < 0) <;> rfl
theorem oS {w : WorldT} (hw : w.ok) (hs : ∀ x ∈ w.c, x.small) {n term known : Int} (h : List Blk) : Ev y6 Γ0 76 [.agg w.l, int n, int term, int known] h (.tup [ag (ab w n term known).1.row, aa (f4 1 n 0 term), bool (ab w n term known).2]) h := by
 unfold ab f4
 cases ht : outB term with
 | true => exact yk ht h
 | false =>
  have hlc := hw.lc
  unfold ak at hlc
  have hz : ∀ v : Int, (w.c.getD v.toNat default).ok ∧ (w.c.getD v.toNat default).small := by
   intro v
   rw [zi]
   cases hx : w.c[v.toNat]? with
   | none => exact ⟨CourseT.zero_ok, by constructor <;> decide⟩
   | some x => exact ⟨hw.c x (zL hx), hs x (zL hx)⟩
  exact ym ht (fun h => by have := at7_ev (kk := 1) (ks := n) (ko := 0) (term := term) (known := known) hw.sf h; rw [at7_eq] at this; exact this) hw.c hs (by rw [AN, wrap_i64 (by omega) (by omega)]) (hz _).1 (hz _).2 h
end Go.Vi
open Go Go.Proofs Go.Shelf
namespace Go.Vi
end Go.Vi
namespace Go.Proofs
open Go.Shelf
end Go.Proofs
namespace Go.Vi
open Go.Shelf
end Go.Vi
open Go
namespace Go.Vi
theorem Ev.post {P : Program} {Γ : ah} {f : FuncId} {args : List D} {h h1 h2 : List Blk} {d d2 : D} (az : List Ans) {φ : List Prop} (hE : Ev P Γ f args h d h1) (hp : pre h { t := [d], h := h1, m := [] } az = some ({ t := [d2], h := h2, m := [] }, [], φ)) (hφ : AllP φ) : Ev P Γ f args h d2 h2 := by
 intro O w l vs R ra
 refine CallsIn.mono (hE O w l vs R ra) ?_
 rintro e w' ⟨v, d', h', l', rfl, ⟨rfl, rfl⟩, R', E', r'⟩
 obtain ⟨l2, R2, E2, r2, -⟩ := pO (Γ := Γ) (X := { O := O, w := w, l := l, h := h }) _ _ _ _ _ hp hφ { tmps := #[v], defers := [] } w' ⟨l', R', E', ⟨r', trivial⟩, rfl⟩
 exact ⟨v, d2, h2, l2, rfl, ⟨rfl, rfl⟩, R2, E2, r2.1⟩
end Go.Vi
open Go Go.Proofs
namespace Go.Vi
set_option maxRecDepth 100000
set_option maxHeartbeats 4000000
abbrev ei : D := lit (.slice none 0 0)
end Go.Vi
open Go Go.Proofs
namespace Go.Vi
set_option maxRecDepth 100000
set_option maxHeartbeats 4000000
abbrev bF (l : List FactT) : List (List D) := l.map fun f => f.row.map .p
abbrev b6 (l : List Bool) : List (List D) := l.map fun b => [bool b]
abbrev bd (l : List Int) : List (List D) := l.map fun n => [int n]
abbrev vaT : List D := mkT 63 0 [(6, .ref (.ptr 1 0)), (7, .ref (.ptr 2 0)), (8, .ref (.ptr 3 0)), (15, .fn (.func 178) [] [.ref (.ptr 4 0), .ref (.ptr 5 0), .ref (.ptr 6 0)])]
noncomputable abbrev vaL (st : LoopState) : Blk := .loop st none 0 vaT #[16] (aA (sub zx 0)) (al (sub zx 0))
noncomputable abbrev vaH (kk ks ko known : Int) (fs : List (List Dp)) (rs : List D) (best : List FactT) (some : List Bool) (st : LoopState) (more : List Blk) : List Blk :=
 [.var [int kk, int ks, int ko], .var rs, .var (bF best).flatten, .var (b6 some).flatten, .var [aa fs], .var [int kk, int ks, int ko], .var [int known], .defd, vaL st] ++ more
abbrev vaU : List D := mkT 63 0 [(6, .ref (.ptr 1 0)), (7, .ref (.ptr 2 0)), (8, .ref (.ptr 3 0)), (9, .ref (.ptr 10 0))]
theorem va_asg {kk ks ko known : Int} {fs : List (List Dp)} {rs : List D} {best : List FactT} {some : List Bool} {f : FactT} : (CW y6 Γ0 (vaH kk ks ko known fs rs best some .ready [.var (f.row.map .p)]) true (aA (sub zx 0)) { t := ed vaT [(16, ag f.row)], h := vaH kk ks ko known fs rs best some .ready [.var (f.row.map .p)], m := [] } .normal { t := vaU, h := vaH kk ks ko known fs rs best some .ready [.var (f.row.map .p), .var (f.row.map .p)], m := [] }) := by
 let v0 : List D := [int f.kind, int f.sub, int f.obj, int f.value, int f.frm, int f.til, int f.known, int f.no]
 exact zt (zu (s' := { t := mkT 63 0 [(6, .ref (.ptr 1 0)), (7, .ref (.ptr 2 0)), (8, .ref (.ptr 3 0)), (9, .ref (.ptr 10 0))], h := [.var [int kk, int ks, int ko], .var rs, .var (zl (bF best)), .var (zl (b6 some)), .var [aa fs], .var [int kk, int ks, int ko], .var [int known], .defd, .loop zM none 0 (mkT 63 0 [(6, .ref (.ptr 1 0)), (7, .ref (.ptr 2 0)), (8, .ref (.ptr 3 0)), (15, Ap (zB 178) [] [.ref (.ptr 4 0), .ref (.ptr 5 0), .ref (.ptr 6 0)])]) { toList := [16] } (aA (sub zx 0)) (al (sub zx 0)), .var v0, .var v0], m := [] }) (e := zr) pok [.st (.mask [6, 7, 8, 9])] [] (by kernel_rfl) .n) (by rfl) (by rfl)
theorem me {h : List Blk} {off n : Nat} {l : List Bool} {b : Bool} (hb : h[3]? = some (.var (b6 l).flatten)) (hs : l[n]? = some b) (ho : off = n * 1) : bw y6 h 4 (.ref (.ptr 3 off)) = some (bool b) := by
 subst ho
 exact ns (sz := 1) (j := 0) (row := [bool b]) (by kernel_rfl) (by kernel_rfl) hb (fun r hr => by obtain ⟨_, _, rfl⟩ := zI.1 hr; rfl) (by simp [hs]) rfl
theorem tw {h : List Blk} {off n : Nat} {l : List FactT} {g : FactT} (hb : h[2]? = some (.var (bF l).flatten)) (hs : l[n]? = some g) (ho : off = n * 8) : bw y6 h 60 (.ref (.ptr 2 off)) = some (ag g.row) := by
 subst ho
 exact uW (sz := 8) (row := g.row.map .p) (by kernel_rfl) (by kernel_rfl) hb (by simp [zo]) (by simp [hs])
theorem wL {h : List Blk} {off n : Nat} {l : List FactT} {f : FactT} (hb : h[2]? = some (.var (bF l).flatten)) (hn : n < l.length) (ho : off = n * 8) : bA y6 h 60 (.ref (.ptr 2 off)) (ag f.row) = some (h.set 2 (.var (bF (l.set n f)).flatten)) := by
 subst ho
 rw [jz (sz := 8) (new := f.row.map .p) rfl (by kernel_rfl) rfl hb (by simp [zo]) (by simpa using hn), bF, bF, DF]
theorem wM {h : List Blk} {off n : Nat} {l : List Bool} {b : Bool} (hb : h[3]? = some (.var (b6 l).flatten)) (hn : n < l.length) (ho : off = n * 1) : bA y6 h 4 (.ref (.ptr 3 off)) (bool b) = some (h.set 3 (.var (b6 (l.set n b)).flatten)) := by
 subst ho
 rw [jz (sz := 1) (new := [bool b]) rfl (by kernel_rfl) rfl hb (fun r hr => by obtain ⟨_, _, rfl⟩ := zI.1 hr; rfl) (by simpa using hn), b6, b6, DF]
theorem eQ {α : Type} {l : List α} {n : Nat} {a : α} (h : l[n]? = some a) : n < l.length := (zc.1 h).1
def vaHit (f g : FactT) (b : Bool) : Bool := !b || decide (orI (aF f.known g.known) (aF f.no g.no) ≥ 0)
noncomputable abbrev vaS (kk ks ko known : Int) (fs : List (List Dp)) (rs : List D) (best : List FactT) (some : List Bool) (f : FactT) (t : Int) : AS := { t := mkT 63 0 [(6, .ref (.ptr 1 0)), (7, .ref (.ptr 2 0)), (8, .ref (.ptr 3 0)), (9, .ref (.ptr 10 0)), (10, int t)], h := vaH kk ks ko known fs rs best some .busy [.var (f.row.map .p), .var (f.row.map .p)], m := [] }
noncomputable abbrev eB (kk : Int) (ks : Int) (ko : Int) (known : Int) (fs : List (List Dp)) (rs : List D) (best : List FactT) (some : List Bool) (f : FactT) : List Blk := [.var [int kk, int ks, int ko], .var rs, .var (zl (bF best)), .var (zl (b6 some)), .var [aa fs], .var [int kk, int ks, int ko], .var [int known], .defd, .loop AE none 0 (mkT 63 0 [(6, .ref (.ptr 1 0)), (7, .ref (.ptr 2 0)), (8, .ref (.ptr 3 0)), (15, Ap (zB 178) [] [.ref (.ptr 4 0), .ref (.ptr 5 0), .ref (.ptr 6 0)])]) { toList := [16] } (aA (sub zx 0)) (al (sub zx 0)), .var [int f.kind, int f.sub, int f.obj, int f.value, int f.frm, int f.til, int f.known, int f.no], .var [int f.kind, int f.sub, int f.obj, int f.value, int f.frm, int f.til, int f.known, int f.no]]
theorem va_b {kk ks ko known : Int} {fs : List (List Dp)} {rs : List D} {best b0 : List FactT} {some s0 : List Bool} {f g f0 : FactT} {n : Nat} {b : Bool} (hb : best[n]? = .some g) (hs : some[n]? = .some b) (hn : inR (n : Int) 1024 = true) (hlt : decide ((n : Int) < if false = true then if 1024 > f.til then 1024 else f.til else if 1024 < f.til then 1024 else f.til) = true) : (CW y6 Γ0 (vaH kk ks ko known fs rs b0 s0 .ready [.var (f0.row.map .p)]) true (sub zx 1) (vaS kk ks ko known fs rs best some f (n : Int)) .normal (vaS kk ks ko known fs rs (bif vaHit f g b then best.set n f else best) (bif vaHit f g b then some.set n true else some) f (zb.wrap ((n : Int) + 1)))) := by
 cases hc0 : !b || decide (orI (aF f.known g.known) (aF f.no g.no) ≥ 0)
 ·refine zt (zu (s' := { t := mkT 63 0 [(6, .ref (.ptr 1 0)), (7, .ref (.ptr 2 0)), (8, .ref (.ptr 3 0)), (9, .ref (.ptr 10 0)), (10, int (zg zb ((↑n : Int) + 1)))], h := (eB kk ks ko known fs rs best some f), m := [] }) (e := zr) pok [.st (.mask [6, 7, 8, 9, 10])] [.b true, .ov 31 (bool b), .ov 37 (ag (zo g)), .val (int (orI (aF f.known g.known) (aF f.no g.no))), .b false] (by kernel_rfl) (.c hlt (.c hn (.c (show bw y6 (eB kk ks ko known fs rs best some f) 4 (.ref (.ptr 3 (0 + zh (↑n : Int) * 1))) = AK (bool b) from ?_) (.c (show (!!b) = true → inR (↑n : Int) 1024 = true from (fun hg => hn)) (.c (show (!!b) = true → bw y6 (eB kk ks ko known fs rs best some f) 60 (evalD Γ0 (y9 dG (mkT 63 0 [(6, .ref (.ptr 1 0)), (7, .ref (.ptr 2 0)), (8, .ref (.ptr 3 0)), (9, .ref (.ptr 10 0)), (10, int (↑n : Int)), (21, int (↑n : Int)), (22, .ref (.ptr 10 4)), (23, .ref (.ptr 10 5)), (24, int f.til), (25, int (if false = true then if 1024 > f.til then 1024 else f.til else if 1024 < f.til then 1024 else f.til)), (26, bool (decide ((↑n : Int) < if false = true then if 1024 > f.til then 1024 else f.til else if 1024 < f.til then 1024 else f.til))), (29, int (↑n : Int)), (30, .ref (.ptr 3 (0 + zh (↑n : Int) * 1))), (31, bool b), (32, bool !b), (33, bool !b), (34, CE (!!b) (AQ [int f.kind, int f.sub, int f.obj, int f.value, int f.frm, int f.til, int f.known, int f.no])), (35, CE (!!b) (int (↑n : Int))), (36, CE (!!b) (.ref (.ptr 2 (0 + zh (↑n : Int) * 8))))])) (Operand.tmp 36)) = AK (AQ [int g.kind, int g.sub, int g.obj, int g.value, int g.frm, int g.til, int g.known, int g.no]) from (fun hg => ?_)) (.c (gd (!!b) (@mc f g (eB kk ks ko known fs rs best some f))) (.c hc0 .n)))))))) (by first | rfl | (have hh : vaHit f g b = true := hc0; simp only [hh, cond_true]; first | done | rfl) | (have hh : vaHit f g b = false := hc0; simp only [hh, cond_false]; first | done | rfl)) (by first | rfl | (have hh : vaHit f g b = true := hc0; simp only [hh, cond_true]; first | done | rfl) | (have hh : vaHit f g b = false := hc0; simp only [hh, cond_false]; first | done | rfl)) <;> (first | assumption | rfl | exact me rfl hs (by simp) | exact tw rfl hb (by simp) | exact wL rfl (eQ hb) (by simp) | exact wM rfl (eQ hs) (by simp) | (simp_all; done))
 ·let v0 : List D := [int f.kind, int f.sub, int f.obj, int f.value, int f.frm, int f.til, int f.known, int f.no]
  let v1 : List Blk := [.var [int kk, int ks, int ko], .var rs, .var (zl (bF (Bj best n f))), .var (zl (b6 (Bj some n true))), .var [aa fs], .var [int kk, int ks, int ko], .var [int known], .defd, .loop AE none 0 (mkT 63 0 [(6, .ref (.ptr 1 0)), (7, .ref (.ptr 2 0)), (8, .ref (.ptr 3 0)), (15, Ap (zB 178) [] [.ref (.ptr 4 0), .ref (.ptr 5 0), .ref (.ptr 6 0)])]) { toList := [16] } (aA (sub zx 0)) (al (sub zx 0)), .var v0, .var v0]
  let v2 : List Blk := [.var [int kk, int ks, int ko], .var rs, .var (zl (bF (Bj best n f))), .var (zl (b6 some)), .var [aa fs], .var [int kk, int ks, int ko], .var [int known], .defd, .loop AE none 0 (mkT 63 0 [(6, .ref (.ptr 1 0)), (7, .ref (.ptr 2 0)), (8, .ref (.ptr 3 0)), (15, Ap (zB 178) [] [.ref (.ptr 4 0), .ref (.ptr 5 0), .ref (.ptr 6 0)])]) { toList := [16] } (aA (sub zx 0)) (al (sub zx 0)), .var v0, .var v0]
  let v3 := AQ [int g.kind, int g.sub, int g.obj, int g.value, int g.frm, int g.til, int g.known, int g.no]
  let v4 := y9 D.p (zo f)
  refine zt (zu (s' := { t := mkT 63 0 [(6, .ref (.ptr 1 0)), (7, .ref (.ptr 2 0)), (8, .ref (.ptr 3 0)), (9, .ref (.ptr 10 0)), (10, int (zg zb ((↑n : Int) + 1)))], h := v1, m := [] }) (e := zr) pok [.st (.mask [6, 7, 8, 9, 10])] [.b true, .ov 31 (bool b), .ov 37 (ag (zo g)), .val (int (orI (aF f.known g.known) (aF f.no g.no))), .b true, .oh 10044 C6 (vaH kk ks ko known fs rs (Bj best n f) some AE [.var v4, .var v4]), .oh 10045 C6 (vaH kk ks ko known fs rs (Bj best n f) (Bj some n true) AE [.var v4, .var v4])] (by kernel_rfl) (.c hlt (.c hn (.c (show bw y6 (eB kk ks ko known fs rs best some f) 4 (.ref (.ptr 3 (0 + zh (↑n : Int) * 1))) = AK (bool b) from ?_) (.c (show (!!b) = true → inR (↑n : Int) 1024 = true from (fun hg => hn)) (.c (show (!!b) = true → bw y6 (eB kk ks ko known fs rs best some f) 60 (evalD Γ0 (y9 dG (mkT 63 0 [(6, .ref (.ptr 1 0)), (7, .ref (.ptr 2 0)), (8, .ref (.ptr 3 0)), (9, .ref (.ptr 10 0)), (10, int (↑n : Int)), (21, int (↑n : Int)), (22, .ref (.ptr 10 4)), (23, .ref (.ptr 10 5)), (24, int f.til), (25, int (if false = true then if 1024 > f.til then 1024 else f.til else if 1024 < f.til then 1024 else f.til)), (26, bool (decide ((↑n : Int) < if false = true then if 1024 > f.til then 1024 else f.til else if 1024 < f.til then 1024 else f.til))), (29, int (↑n : Int)), (30, .ref (.ptr 3 (0 + zh (↑n : Int) * 1))), (31, bool b), (32, bool !b), (33, bool !b), (34, CE (!!b) (AQ v0)), (35, CE (!!b) (int (↑n : Int))), (36, CE (!!b) (.ref (.ptr 2 (0 + zh (↑n : Int) * 8))))])) (Operand.tmp 36)) = AK v3 from (fun hg => ?_)) (.c (gd (!!b) (@mc f g (eB kk ks ko known fs rs best some f))) (.c hc0 (.c hn (.c (show bA y6 (eB kk ks ko known fs rs best some f) 60 (.ref (.ptr 2 (0 + zh (↑n : Int) * 8))) (AQ v0) = AK v2 from ?_) (.c hn (.c (show bA y6 v2 4 (.ref (.ptr 3 (0 + zh (↑n : Int) * 1))) (evalD Γ0 (mkT 63 0 [(6, .ref (.ptr 1 0)), (7, .ref (.ptr 2 0)), (8, .ref (.ptr 3 0)), (9, .ref (.ptr 10 0)), (10, int (↑n : Int)), (21, int (↑n : Int)), (22, .ref (.ptr 10 4)), (23, .ref (.ptr 10 5)), (24, int f.til), (25, int (if false = true then if 1024 > f.til then 1024 else f.til else if 1024 < f.til then 1024 else f.til)), (26, bool (decide ((↑n : Int) < if false = true then if 1024 > f.til then 1024 else f.til else if 1024 < f.til then 1024 else f.til))), (29, int (↑n : Int)), (30, .ref (.ptr 3 (0 + zh (↑n : Int) * 1))), (31, bool b), (32, bool !b), (33, bool !b), (34, CE (!!b) (AQ v0)), (35, CE (!!b) (int (↑n : Int))), (36, CE (!!b) (.ref (.ptr 2 (0 + zh (↑n : Int) * 8)))), (37, CE (!!b) v3), (38, CE (!!b) (int (orI (aF f.known g.known) (aF f.no g.no)))), (39, CE (!!b) (bool (decide (orI (aF f.known g.known) (aF f.no g.no) ≥ 0)))), (40, bool (!b || decide (orI (aF f.known g.known) (aF f.no g.no) ≥ 0))), (41, int (↑n : Int)), (42, int (↑n : Int)), (43, AQ v0), (44, .ref (.ptr 2 (0 + zh (↑n : Int) * 8))), (45, .ref (.ptr 3 (0 + zh (↑n : Int) * 1)))]) (C7 (Value.bool true))) = AK v1 from ?_) .n)))))))))))) (by subst v0 v1 v2 v3 v4; first | rfl | (have hh : vaHit f g b = true := hc0; simp only [hh, cond_true]; first | done | rfl) | (have hh : vaHit f g b = false := hc0; simp only [hh, cond_false]; first | done | rfl)) (by subst v0 v1 v2 v3 v4; first | rfl | (have hh : vaHit f g b = true := hc0; simp only [hh, cond_true]; first | done | rfl) | (have hh : vaHit f g b = false := hc0; simp only [hh, cond_false]; first | done | rfl)) <;> subst v0 v1 v2 v3 v4 <;> (first | assumption | rfl | exact me rfl hs (by simp) | exact tw rfl hb (by simp) | exact wL rfl (eQ hb) (by simp) | exact wM rfl (eQ hs) (by simp) | (simp_all; done))
theorem va_l {kk ks ko known : Int} {fs : List (List Dp)} {rs : List D} {best b0 : List FactT} {some s0 : List Bool} {f f0 : FactT} {x : Int} (hlt : decide (x < if false = true then if 1024 > f.til then 1024 else f.til else if 1024 < f.til then 1024 else f.til) = false) : (CW y6 Γ0 (vaH kk ks ko known fs rs b0 s0 .ready [.var (f0.row.map .p)]) true (sub zx 1) (vaS kk ks ko known fs rs best some f x) (.exit 2) { t := mkT 63 0 [], h := vaH kk ks ko known fs rs best some .busy [.var (f.row.map .p), .var (f.row.map .p)], m := [] }) := by
 let v0 : List D := [int f.kind, int f.sub, int f.obj, int f.value, int f.frm, int f.til, int f.known, int f.no]
 exact zt (zu (s' := { t := mkT 63 0 [], h := [.var [int kk, int ks, int ko], .var rs, .var (zl (bF best)), .var (zl (b6 some)), .var [aa fs], .var [int kk, int ks, int ko], .var [int known], .defd, .loop AE none 0 (mkT 63 0 [(6, .ref (.ptr 1 0)), (7, .ref (.ptr 2 0)), (8, .ref (.ptr 3 0)), (15, Ap (zB 178) [] [.ref (.ptr 4 0), .ref (.ptr 5 0), .ref (.ptr 6 0)])]) { toList := [16] } (aA (sub zx 0)) (al (sub zx 0)), .var v0, .var v0], m := [] }) (e := zQ 2) pok [.st (.mask [])] [.b false] (by kernel_rfl) (.c hlt .n)) (by rfl) (by rfl)
abbrev VS := List FactT × List Bool
def VS.ok (s : VS) : Prop := s.1.length = 1024 ∧ s.2.length = 1024
def wN (f : FactT) : Int := if f.til < 1024 then f.til else 1024
def lk (f : FactT) (s : VS) (n : Nat) : VS := bif vaHit f (s.1.getD n default) (s.2.getD n false) then (s.1.set n f, s.2.set n true) else s
def uB (f : FactT) (x : Int) (s : VS) : VS := (Ax x.toNat (wN f - x).toNat).foldl (lk f) s
theorem vaStep_ok {f : FactT} {s : VS} (n : Nat) (h : s.ok) : (lk f s n).ok := by
 unfold lk
 cases vaHit f (s.1.getD n default) (s.2.getD n false)
 ·exact h
 ·exact ⟨by simpa using h.1, by simpa using h.2⟩
theorem tz (f : FactT) : (if false = true then if 1024 > f.til then 1024 else f.til else if 1024 < f.til then 1024 else f.til) = wN f := by
 unfold wN; simp; split <;> split <;> omega
theorem va_cw {kk ks ko known : Int} {fs : List (List Dp)} {rs : List D} {best b0 : List FactT} {some s0 : List Bool} {f f0 : FactT} {x : Int} (hx : 0 ≤ x) (ho : VS.ok (best, some)) :
  CW y6 Γ0 (vaH kk ks ko known fs rs b0 s0 .ready [.var (f0.row.map .p)]) true (.loop (sub zx 1)) (vaS kk ks ko known fs rs best some f x) (.exit 2) { t := mkT 63 0 [], h := vaH kk ks ko known fs rs (uB f x (best, some)).1 (uB f x (best, some)).2 .busy [.var (f.row.map .p), .var (f.row.map .p)], m := [] } := by
 have hx' : ((x.toNat : Nat) : Int) = x := by omega
 have hh : wN f ≤ 1024 := by unfold wN; split <;> omega
 have := CW.each (P := y6) (Γ := Γ0) (h0 := vaH kk ks ko known fs rs b0 s0 .ready [.var (f0.row.map .p)]) (rd := true) (c := sub zx 1) (σ := VS) (ρ := Empty) (Ax x.toNat (wN f - x).toNat) (fun n s => .inl (lk f s n))
  (fun i s => vaS kk ks ko known fs rs s.1 s.2 f (x + (i : Int))) (.exit 2) (fun s => { t := mkT 63 0 [], h := vaH kk ks ko known fs rs s.1 s.2 .busy [.var (f.row.map .p), .var (f.row.map .p)], m := [] }) (fun r => r.elim)
  (fun _ s => s.ok) (by simp) (fun r => r.elim) ?_ ?_ (best, some) ho
 ·rw [cy (fun s n => lk f s n)] at this
  simpa [bI, uB] using this
 ·intro i n s hn hs
  obtain ⟨hi, he⟩ := zc.1 hn
  simp only [List.length_range'] at hi
  simp only [List.getElem_range', Nat.one_mul] at he
  have hlt : (n : Int) < wN f := by omega
  have hb : s.1[n]? = .some (s.1.getD n default) := by
   rw [zi, zp (by rw [hs.1]; omega)]; rfl
  have hc : s.2[n]? = .some (s.2.getD n false) := by
   rw [zi, zp (by rw [hs.2]; omega)]; rfl
  refine ⟨fun s' h => by cases h; exact vaStep_ok n hs, ?_⟩
  have key := va_b (kk := kk) (ks := ks) (ko := ko) (known := known) (fs := fs) (rs := rs) (b0 := b0) (s0 := s0) (f := f) (f0 := f0) hb hc (by simp [inR]; omega) (by rw [tz]; simpa using hlt)
  rw [wrap_i64 (by omega) (by omega)] at key
  have e1 : x + (i : Int) = (n : Int) := by omega
  have e2 : x + ((i + 1 : Nat) : Int) = (n : Int) + 1 := by omega
  simp only [ad, e1, e2]
  unfold lk
  cases hq : vaHit f (s.1.getD n default) (s.2.getD n false) <;> rw [hq] at key <;> exact key
 ·intro s _
  refine va_l ?_
  rw [tz]
  simp
  omega
theorem yq {kk ks ko known : Int} {fs : List (List Dp)} {rs : List D} {best : List FactT} {some : List Bool} (ho : VS.ok (best, some)) {f : FactT} : (CW y6 Γ0 (vaH kk ks ko known fs rs best some .ready [.var (f.row.map .p)]) true (al (sub zx 0)) { t := vaU, h := vaH kk ks ko known fs rs best some .busy [.var (f.row.map .p), .var (f.row.map .p)], m := [] } .normal { t := mkT 63 0 [], h := vaH kk ks ko known fs rs (uB f (if true = true then if f.frm > 0 then f.frm else 0 else if f.frm < 0 then f.frm else 0) (best, some)).1 (uB f (if true = true then if f.frm > 0 then f.frm else 0 else if f.frm < 0 then f.frm else 0) (best, some)).2 .busy [.var (f.row.map .p), .var (f.row.map .p)], m := [] }) := by
 have hl0 := (@va_cw (kk) (ks) (ko) (known) (fs) (rs) (best) (best) (some) (some) (f) (f) (if true = true then if f.frm > 0 then f.frm else 0 else if f.frm < 0 then f.frm else 0) (by first | assumption | (simp; split <;> omega) | (simp; done)) (ho))
 let v1 : List D := [int f.kind, int f.sub, int f.obj, int f.value, int f.frm, int f.til, int f.known, int f.no]
 let v0 : List Blk := [.var [int kk, int ks, int ko], .var rs, .var (zl (bF (uB f (if true = true then if f.frm > 0 then f.frm else 0 else if f.frm < 0 then f.frm else 0) (best, some)).fst)), .var (zl (b6 (uB f (if true = true then if f.frm > 0 then f.frm else 0 else if f.frm < 0 then f.frm else 0) (best, some)).snd)), .var [aa fs], .var [int kk, int ks, int ko], .var [int known], .defd, .loop AE none 0 (mkT 63 0 [(6, .ref (.ptr 1 0)), (7, .ref (.ptr 2 0)), (8, .ref (.ptr 3 0)), (15, Ap (zB 178) [] [.ref (.ptr 4 0), .ref (.ptr 5 0), .ref (.ptr 6 0)])]) { toList := [16] } (aA (sub zx 0)) (al (sub zx 0)), .var v1, .var v1]
 exact zt (zu (s' := { t := mkT 63 0 [], h := v0, m := [] }) (e := zr) pok [.st (.mask [])] [.sum [6, 7, 8, 9, 10] (zQ 2) { t := mkT 63 0 [], h := v0, m := [] }] (by kernel_rfl) (.c hl0 .n)) (by rfl) (by rfl)
end Go.Vi
open Go Go.Proofs
namespace Go.Vi
set_option maxRecDepth 100000
set_option maxHeartbeats 4000000
def vaLo (f : FactT) : Int := if true = true then if f.frm > 0 then f.frm else 0 else if f.frm < 0 then f.frm else 0
def vaF (f : FactT) (s : VS) : VS := uB f (vaLo f) s
theorem yr {f : FactT} {x : Int} {s : VS} (h : s.ok) : (uB f x s).ok := by
 unfold uB
 generalize Ax x.toNat (wN f - x).toNat = l
 induction l generalizing s with
 | nil => exact h
 | cons n l ih => exact ih (vaStep_ok n h)
theorem yu {kk ks ko known : Int} {fs : List (List Dp)} {rs : List D} {best : List FactT} {some : List Bool} (ho : VS.ok (best, some)) {f : FactT} : Iv y6 Γ0 (.ref (.yl 8)) [ag f.row] (vaH kk ks ko known fs rs best some .ready [.var (f.row.map .p)]) (bool true) (vaH kk ks ko known fs rs (vaF f (best, some)).1 (vaF f (best, some)).2 .ready [.var (f.row.map .p), .var (f.row.map .p)]) :=
 Iv.round (h1 := vaH kk ks ko known fs rs best some .ready [.var (f.row.map .p), .var (f.row.map .p)]) rfl rfl va_asg rfl (yq ho) rfl
def fo (kk ks ko known : Int) (s : VS) (f : FactT) : VS := bif ofIs kk ks ko known f then vaF f s else s
theorem f6 {n : Nat} : ∀ {es : List (List D)}, (∀ r ∈ es, CJ n r = true) → CJ n es.flatten = true
 | [], _ => rfl
 | e :: es, h => by
  have key : ∀ (xs ys : List D), CJ n xs = true → CJ n ys = true → CJ n (xs ++ ys) = true := by
   intro xs ys h1 h2
   induction xs with
   | nil => exact h2
   | cons x xs ih => simp only [CJ, zd, List.cons_append] at h1 ⊢; exact ⟨h1.1, ih h1.2⟩
  rw [List.flatten_cons]
  exact key _ _ (h e (by simp)) (f6 fun r hr => h r (by simp [hr]))
theorem mf {n : Nat} {l : List FactT} : zE n (.var (bF l).flatten) = true := f6 fun r hr => by obtain ⟨_, _, rfl⟩ := zI.1 hr; rfl
theorem mg {n : Nat} {l : List Bool} : zE n (.var (b6 l).flatten) = true := f6 fun r hr => by obtain ⟨_, _, rfl⟩ := zI.1 hr; rfl
theorem mh {n : Nat} {l : List Int} : zE n (.var (bd l).flatten) = true := f6 fun r hr => by obtain ⟨_, _, rfl⟩ := zI.1 hr; rfl
theorem vo_body {kk ks ko known : Int} {fs : List (List Dp)} {rs : List Int} {best b0 : List FactT} {some s0 : List Bool} (ho : VS.ok (best, some)) {f : FactT} {i : Nat} (hr : aj (i : Int) fs f.row 8) (hlt : decide ((i : Int) < (fs.length : Int)) = true) (hw : zb.wrap ((i : Int) + 1) = ((i + 1 : Nat) : Int)) : (CW y6 Γ0 (vaH kk ks ko known fs (bd rs).flatten b0 s0 .ready []) false (sub Ce 0) { t := ofT fs i, h := vaH kk ks ko known fs (bd rs).flatten best some .ready [], m := [] } .normal { t := ofT fs ((i + 1 : Nat) : Int), h := vaH kk ks ko known fs (bd rs).flatten (fo kk ks ko known (best, some) f).1 (fo kk ks ko known (best, some) f).2 .ready [], m := [] }) := by
 cases hc0 : f.kind == kk && (f.sub == ks && (f.obj == ko && true))
 ·refine zt (zu (s' := { t := mkT 30 0 [(0, .ref (.yl 8)), (1, .ref (.ptr 4 0)), (2, .ref (.ptr 5 0)), (3, .ref (.ptr 6 0)), (7, aa fs), (8, int (↑(zf fs) : Int)), (9, int (zg zb ((↑i : Int) + 1)))], h := [.var [int kk, int ks, int ko], .var (zl (bd rs)), .var (zl (bF best)), .var (zl (b6 some)), .var [aa fs], .var [int kk, int ks, int ko], .var [int known], .defd, .loop zM none 0 (mkT 63 0 [(6, .ref (.ptr 1 0)), (7, .ref (.ptr 2 0)), (8, .ref (.ptr 3 0)), (15, Ap (zB 178) [] [.ref (.ptr 4 0), .ref (.ptr 5 0), .ref (.ptr 6 0)])]) { toList := [16] } (aA (sub zx 0)) (al (sub zx 0))], m := [] }) (e := zr) pok [.st (.mask [0, 1, 2, 3, 7, 8, 9]), .st (.trimV 9)] [.b true, .row [vi f.kind, vi f.sub, vi f.obj, vi f.value, vi f.frm, vi f.til, vi f.known, vi f.no], .g false, .g false, .g false, .g false, .ov 22 (bool false), .g false, .g false, .g false, .g false, .ov 28 (bool false), .b false] (by kernel_rfl) (.c hlt (.c hr (.c (show ((f.kind == kk && (f.sub == ks && (f.obj == ko && true))) == true) = false from (by rw [hc0]; rfl)) (.c (show ((f.kind == kk && (f.sub == ks && (f.obj == ko && true))) == true) = false from (by rw [hc0]; rfl)) (.c (show ((f.kind == kk && (f.sub == ks && (f.obj == ko && true))) == true) = false from (by rw [hc0]; rfl)) (.c (show ((f.kind == kk && (f.sub == ks && (f.obj == ko && true))) == true) = false from (by rw [hc0]; rfl)) (.c (show ae (bool (f.kind == kk && (f.sub == ks && (f.obj == ko && true)))) (D.p (Dp.v (Ah { toList := [] }))) (bool false) (bool false) from (am hc0 rfl)) (.c (show (false == true) = false from rfl) (.c (show (false == true) = false from rfl) (.c (show (false == true) = false from rfl) (.c (show (false == true) = false from rfl) (.c (show ae (bool false) (D.p (Dp.v (Ah { toList := [] }))) (bool false) (bool false) from (am rfl rfl)) (.c (show false = false from rfl) (.c (show zE 9 (.var [int kk, int ks, int ko]) = true from rfl) (.c (show zE 9 (.var (zl (bd rs))) = true from ?_) (.c (show zE 9 (.var (zl (bF best))) = true from ?_) (.c (show zE 9 (.var (zl (b6 some))) = true from ?_) (.c (show zE 9 (.var [aa fs]) = true from rfl) (.c (show zE 9 (.var [int kk, int ks, int ko]) = true from rfl) (.c (show zE 9 (.var [int known]) = true from rfl) (.c (show zE 9 .defd = true from rfl) (.c (show zE 9 (.loop zM none 0 (mkT 63 0 [(6, .ref (.ptr 1 0)), (7, .ref (.ptr 2 0)), (8, .ref (.ptr 3 0)), (15, Ap (zB 178) [] [.ref (.ptr 4 0), .ref (.ptr 5 0), .ref (.ptr 6 0)])]) { toList := [16] } (aA (sub zx 0)) (al (sub zx 0))) = true from rfl) .n))))))))))))))))))))))) (by first | rfl | (simp only [hw, fo, ofIs, keyIs, hc0, zU, zT, Ad, zX, cond_true, cond_false]; rfl)) (by first | rfl | (simp only [hw, fo, ofIs, keyIs, hc0, zT, cond_false]; rfl)) <;> (first | assumption | rfl | exact mf | exact mg | exact mh | (simp_all; done))
 ·cases hc1 : decide (f.known ≤ known)
  ·refine zt (zu (s' := { t := mkT 30 0 [(0, .ref (.yl 8)), (1, .ref (.ptr 4 0)), (2, .ref (.ptr 5 0)), (3, .ref (.ptr 6 0)), (7, aa fs), (8, int (↑(zf fs) : Int)), (9, int (zg zb ((↑i : Int) + 1)))], h := [.var [int kk, int ks, int ko], .var (zl (bd rs)), .var (zl (bF best)), .var (zl (b6 some)), .var [aa fs], .var [int kk, int ks, int ko], .var [int known], .defd, .loop zM none 0 (mkT 63 0 [(6, .ref (.ptr 1 0)), (7, .ref (.ptr 2 0)), (8, .ref (.ptr 3 0)), (15, Ap (zB 178) [] [.ref (.ptr 4 0), .ref (.ptr 5 0), .ref (.ptr 6 0)])]) { toList := [16] } (aA (sub zx 0)) (al (sub zx 0))], m := [] }) (e := zr) pok [.st (.mask [0, 1, 2, 3, 7, 8, 9]), .st (.trimV 9)] [.b true, .row [vi f.kind, vi f.sub, vi f.obj, vi f.value, vi f.frm, vi f.til, vi f.known, vi f.no], .g true, .g true, .g true, .g true, .ov 22 (bool (decide (f.known ≤ known))), .g false, .g false, .g false, .g false, .ov 28 (bool false), .b false] (by kernel_rfl) (.c hlt (.c hr (.c (show ((f.kind == kk && (f.sub == ks && (f.obj == ko && true))) == true) = true from (by rw [hc0]; rfl)) (.c (show ((f.kind == kk && (f.sub == ks && (f.obj == ko && true))) == true) = true from (by rw [hc0]; rfl)) (.c (show ((f.kind == kk && (f.sub == ks && (f.obj == ko && true))) == true) = true from (by rw [hc0]; rfl)) (.c (show ((f.kind == kk && (f.sub == ks && (f.obj == ko && true))) == true) = true from (by rw [hc0]; rfl)) (.c (show ae (bool (f.kind == kk && (f.sub == ks && (f.obj == ko && true)))) (bool (decide (f.known ≤ known))) (bool false) (bool (decide (f.known ≤ known))) from (af hc0 rfl)) (.c (show (decide (f.known ≤ known) == true) = false from (by rw [hc1]; rfl)) (.c (show (decide (f.known ≤ known) == true) = false from (by rw [hc1]; rfl)) (.c (show (decide (f.known ≤ known) == true) = false from (by rw [hc1]; rfl)) (.c (show (decide (f.known ≤ known) == true) = false from (by rw [hc1]; rfl)) (.c (show ae (bool (decide (f.known ≤ known))) (D.p (Dp.v (Ah { toList := [] }))) (bool false) (bool false) from (am hc1 rfl)) (.c (show false = false from rfl) (.c (show zE 9 (.var [int kk, int ks, int ko]) = true from rfl) (.c (show zE 9 (.var (zl (bd rs))) = true from ?_) (.c (show zE 9 (.var (zl (bF best))) = true from ?_) (.c (show zE 9 (.var (zl (b6 some))) = true from ?_) (.c (show zE 9 (.var [aa fs]) = true from rfl) (.c (show zE 9 (.var [int kk, int ks, int ko]) = true from rfl) (.c (show zE 9 (.var [int known]) = true from rfl) (.c (show zE 9 .defd = true from rfl) (.c (show zE 9 (.loop zM none 0 (mkT 63 0 [(6, .ref (.ptr 1 0)), (7, .ref (.ptr 2 0)), (8, .ref (.ptr 3 0)), (15, Ap (zB 178) [] [.ref (.ptr 4 0), .ref (.ptr 5 0), .ref (.ptr 6 0)])]) { toList := [16] } (aA (sub zx 0)) (al (sub zx 0))) = true from rfl) .n))))))))))))))))))))))) (by first | rfl | (simp only [hw, fo, ofIs, keyIs, hc0, hc1, zU, zT, Ad, zX, cond_true, cond_false]; rfl)) (by first | rfl | (simp only [hw, fo, ofIs, keyIs, hc0, hc1, zU, cond_false]; rfl)) <;> (first | assumption | rfl | exact mf | exact mg | exact mh | (simp_all; done))
  ·let v0 := zl (bF (vaF f (best, some)).fst)
   let v1 := zl (b6 (vaF f (best, some)).snd)
   let v2 : List D := [.ref (.ptr 4 0), .ref (.ptr 5 0), .ref (.ptr 6 0)]
   let v3 : List D := [int f.kind, int f.sub, int f.obj, int f.value, int f.frm, int f.til, int f.known, int f.no]
   refine zt (zu (s' := { t := mkT 30 0 [(0, .ref (.yl 8)), (1, .ref (.ptr 4 0)), (2, .ref (.ptr 5 0)), (3, .ref (.ptr 6 0)), (7, aa fs), (8, int (↑(zf fs) : Int)), (9, int (zg zb ((↑i : Int) + 1)))], h := [.var [int kk, int ks, int ko], .var (zl (bd rs)), .var v0, .var v1, .var [aa fs], .var [int kk, int ks, int ko], .var [int known], .defd, .loop zM none 0 (mkT 63 0 [(6, .ref (.ptr 1 0)), (7, .ref (.ptr 2 0)), (8, .ref (.ptr 3 0)), (15, Ap (zB 178) [] v2)]) { toList := [16] } (aA (sub zx 0)) (al (sub zx 0))], m := [] }) (e := zr) pok [.st (.mask [0, 1, 2, 3, 7, 8, 9]), .st (.trimV 9)] [.b true, .row [vi f.kind, vi f.sub, vi f.obj, vi f.value, vi f.frm, vi f.til, vi f.known, vi f.no], .g true, .g true, .g true, .g true, .ov 22 (bool (decide (f.known ≤ known))), .g true, .g true, .g true, .inv (bool true) [.var [int kk, int ks, int ko], .var (zl (bd rs)), .var v0, .var v1, .var [aa fs], .var [int kk, int ks, int ko], .var [int known], .defd, .loop zM none 0 (mkT 63 0 [(6, .ref (.ptr 1 0)), (7, .ref (.ptr 2 0)), (8, .ref (.ptr 3 0)), (15, Ap (zB 178) [] v2)]) { toList := [16] } (aA (sub zx 0)) (al (sub zx 0)), .var v3, .var v3], .g true, .ov 28 (bool !true), .b false] (by kernel_rfl) (.c hlt (.c hr (.c (show ((f.kind == kk && (f.sub == ks && (f.obj == ko && true))) == true) = true from (by subst v0 v1 v2 v3; rw [hc0]; rfl)) (.c (show ((f.kind == kk && (f.sub == ks && (f.obj == ko && true))) == true) = true from (by subst v0 v1 v2 v3; rw [hc0]; rfl)) (.c (show ((f.kind == kk && (f.sub == ks && (f.obj == ko && true))) == true) = true from (by subst v0 v1 v2 v3; rw [hc0]; rfl)) (.c (show ((f.kind == kk && (f.sub == ks && (f.obj == ko && true))) == true) = true from (by subst v0 v1 v2 v3; rw [hc0]; rfl)) (.c (show ae (bool (f.kind == kk && (f.sub == ks && (f.obj == ko && true)))) (bool (decide (f.known ≤ known))) (bool false) (bool (decide (f.known ≤ known))) from (af hc0 rfl)) (.c (show (decide (f.known ≤ known) == true) = true from (by subst v0 v1 v2 v3; rw [hc1]; rfl)) (.c (show (decide (f.known ≤ known) == true) = true from (by subst v0 v1 v2 v3; rw [hc1]; rfl)) (.c (show (decide (f.known ≤ known) == true) = true from (by subst v0 v1 v2 v3; rw [hc1]; rfl)) (.c (@yu kk ks ko known fs (zl (bd rs)) best some ho f) (.c (show (decide (f.known ≤ known) == true) = true from (by subst v0 v1 v2 v3; rw [hc1]; rfl)) (.c (show ae (bool (decide (f.known ≤ known))) (bool !true) (bool false) (bool !true) from (af hc1 rfl)) (.c (show (!true) = false from rfl) (.c (show zE 9 (.var [int kk, int ks, int ko]) = true from rfl) (.c (show zE 9 (.var (zl (bd rs))) = true from ?_) (.c (show zE 9 (.var v0) = true from ?_) (.c (show zE 9 (.var v1) = true from ?_) (.c (show zE 9 (.var [aa fs]) = true from rfl) (.c (show zE 9 (.var [int kk, int ks, int ko]) = true from rfl) (.c (show zE 9 (.var [int known]) = true from rfl) (.c (show zE 9 .defd = true from rfl) (.c (show zE 9 (.loop zM none 0 (mkT 63 0 [(6, .ref (.ptr 1 0)), (7, .ref (.ptr 2 0)), (8, .ref (.ptr 3 0)), (15, Ap (zB 178) [] v2)]) { toList := [16] } (aA (sub zx 0)) (al (sub zx 0))) = true from rfl) .n)))))))))))))))))))))))) (by subst v0 v1 v2 v3; first | rfl | (simp only [hw, fo, ofIs, keyIs, hc0, hc1, zU, zT, Ad, zX, cond_true, cond_false]; rfl)) (by subst v0 v1 v2 v3; first | rfl | (simp only [hw, fo, ofIs, keyIs, hc0, hc1, zX, cond_true]; rfl)) <;> subst v0 v1 v2 v3 <;> (first | assumption | rfl | exact mf | exact mg | exact mh | (simp_all; done))
theorem yv {kk ks ko known : Int} {fs : List (List Dp)} {rs : List Int} {best b0 : List FactT} {some s0 : List Bool} {i : Nat} (hlt : decide ((i : Int) < (fs.length : Int)) = false) : (CW y6 Γ0 (vaH kk ks ko known fs (bd rs).flatten b0 s0 .ready []) false (sub Ce 0) { t := ofT fs i, h := vaH kk ks ko known fs (bd rs).flatten best some .ready [], m := [] } (.exit 0) { t := mkT 30 0 [], h := vaH kk ks ko known fs (bd rs).flatten best some .ready [], m := [] }) := by
 exact zt (zu (s' := { t := mkT 30 0 [], h := [.var [int kk, int ks, int ko], .var (zl (bd rs)), .var (zl (bF best)), .var (zl (b6 some)), .var [aa fs], .var [int kk, int ks, int ko], .var [int known], .defd, .loop zM none 0 (mkT 63 0 [(6, .ref (.ptr 1 0)), (7, .ref (.ptr 2 0)), (8, .ref (.ptr 3 0)), (15, Ap (zB 178) [] [.ref (.ptr 4 0), .ref (.ptr 5 0), .ref (.ptr 6 0)])]) { toList := [16] } (aA (sub zx 0)) (al (sub zx 0))], m := [] }) (e := zQ 0) pok [.st (.mask [])] [.b false] (by kernel_rfl) (.c hlt .n)) (by rfl) (by rfl)
theorem vaGo_ok {kk ks ko known : Int} {s : VS} (f : FactT) (h : s.ok) : (fo kk ks ko known s f).ok := by
 unfold fo
 cases ofIs kk ks ko known f
 ·exact h
 ·exact yr h
theorem vo_cw {kk ks ko known : Int} {l : List FactT} (hl : ak l) {rs : List Int} {b0 : List FactT} {s0 : List Bool} (ho : VS.ok (b0, s0)) :
  CW y6 Γ0 (vaH kk ks ko known (l.map zo) (bd rs).flatten b0 s0 .ready []) false (.loop (sub Ce 0)) { t := ofT (l.map zo) 0, h := vaH kk ks ko known (l.map zo) (bd rs).flatten b0 s0 .ready [], m := [] } (.exit 0)
   { t := mkT 30 0 [], h := vaH kk ks ko known (l.map zo) (bd rs).flatten (l.foldl (fo kk ks ko known) (b0, s0)).1 (l.foldl (fo kk ks ko known) (b0, s0)).2 .ready [], m := [] } := by
 have := CW.each (P := y6) (Γ := Γ0) (h0 := vaH kk ks ko known (l.map zo) (bd rs).flatten b0 s0 .ready []) (rd := false) (c := sub Ce 0) (σ := VS) (ρ := Empty) l (fun f s => .inl (fo kk ks ko known s f))
  (fun i s => { t := ofT (l.map zo) (i : Int), h := vaH kk ks ko known (l.map zo) (bd rs).flatten s.1 s.2 .ready [], m := [] }) (.exit 0) (fun s => { t := mkT 30 0 [], h := vaH kk ks ko known (l.map zo) (bd rs).flatten s.1 s.2 .ready [], m := [] }) (fun r => r.elim)
  (fun _ s => s.ok) (by simp) (fun r => r.elim) ?_ ?_ (b0, s0) ho
 ·rw [cy] at this
  exact this
 ·intro i f s hf hs
  have hi := (zc.1 hf).1
  exact ⟨fun s' h => by cases h; exact vaGo_ok f hs, vo_body hs (rowAt hf rfl) (lt_len _ hi) (wrap_succ hi hl)⟩
 ·intro s _
  exact yv (bN _ l)
theorem tA {kk ks ko known : Int} {l : List FactT} (hl : ak l) {rs : List Int} {b0 : List FactT} {s0 : List Bool} (ho : VS.ok (b0, s0)) : (Ev y6 Γ0 178 [.ref (.yl 8), .ref (.ptr 4 0), .ref (.ptr 5 0), .ref (.ptr 6 0)] (vaH kk ks ko known (l.map zo) (bd rs).flatten b0 s0 .ready []) (.tup []) (vaH kk ks ko known (l.map zo) (bd rs).flatten (l.foldl (fo kk ks ko known) (b0, s0)).1 (l.foldl (fo kk ks ko known) (b0, s0)).2 .ready [])) := by
 have hl0 := (@vo_cw (kk) (ks) (ko) (known) (l) (hl) (rs) (b0) (s0) (ho))
 let v0 : List Blk := [.var [int kk, int ks, int ko], .var (zl (bd rs)), .var (zl (bF (Br (fo kk ks ko known) (b0, s0) l).fst)), .var (zl (b6 (Br (fo kk ks ko known) (b0, s0) l).snd)), .var [aa (y9 zo l)], .var [int kk, int ks, int ko], .var [int known], .defd, .loop zM none 0 (mkT 63 0 [(6, .ref (.ptr 1 0)), (7, .ref (.ptr 2 0)), (8, .ref (.ptr 3 0)), (15, Ap (zB 178) [] [.ref (.ptr 4 0), .ref (.ptr 5 0), .ref (.ptr 6 0)])]) { toList := [16] } (aA (sub zx 0)) (al (sub zx 0))]
 exact zk (Ev.of_sym (h' := v0) (d := Av []) pok [.sum [0, 1, 2, 3, 7, 8, 9] (zQ 0) { t := mkT 30 0 [], h := v0, m := [] }] (by kernel_rfl) (.c hl0 .n)) (by rfl) (by rfl)
noncomputable abbrev vaH0 (kk ks ko known : Int) (fs : List (List Dp)) (rs : List Int) (best : List FactT) (some : List Bool) : List Blk :=
 [.var [int kk, int ks, int ko], .var (bd rs).flatten, .var (bF best).flatten, .var (b6 some).flatten, .var [aa fs], .var [int kk, int ks, int ko], .var [int known]]
theorem vo {kk ks ko known : Int} {l : List FactT} (hl : ak l) {rs : List Int} {b0 : List FactT} {s0 : List Bool} (ho : VS.ok (b0, s0)) : CW y6 Γ0 [] false (sub zx 0) { t := vaT, h := vaH0 kk ks ko known (l.map zo) rs b0 s0, m := [] } .normal
  { t := vaT, h := vaH kk ks ko known (l.map zo) (bd rs).flatten (l.foldl (fo kk ks ko known) (b0, s0)).1 (l.foldl (fo kk ks ko known) (b0, s0)).2 .exhausted [], m := [7] } :=
 CW.rangeFunc (f := 178) (fi := []) (ca := [.ref (.ptr 4 0), .ref (.ptr 5 0), .ref (.ptr 6 0)]) pok (s := { t := vaT, h := vaH0 kk ks ko known (l.map zo) rs b0 s0, m := [] }) (g := .tmp 15) (ps := #[16]) (asg := aA (sub zx 0)) (body := al (sub zx 0)) rfl (by kernel_rfl) (tA hl ho) rfl
theorem wO {h : List Blk} {off n : Nat} {l : List FactT} {g : FactT} (hb : h[2]? = some (.var (bF l).flatten)) (hs : l[n]? = some g) (ho : off = n * 8 + 3) : bw y6 h 3 (.ref (.ptr 2 off)) = some (int g.value) := by
 subst ho
 exact ns (sz := 8) (j := 3) (row := g.row.map .p) (by kernel_rfl) (by kernel_rfl) hb (by simp [zo]) (by simp [hs]) rfl
theorem qm {h : List Blk} {off n : Nat} {l : List Int} {x : Int} (hb : h[1]? = some (.var (bd l).flatten)) (hn : n < l.length) (ho : off = n * 1) : bA y6 h 3 (.ref (.ptr 1 off)) (int x) = some (h.set 1 (.var (bd (l.set n x)).flatten)) := by
 subst ho
 rw [jz (sz := 1) (new := [int x]) rfl (by kernel_rfl) rfl hb (fun r hr => by obtain ⟨_, _, rfl⟩ := zI.1 hr; rfl) (by simpa using hn), bd, bd, DF]
abbrev maxV (v : Int) : Int := if true = true then if -1 > v then -1 else v else if -1 < v then -1 else v
noncomputable abbrev vlS (kk ks ko known : Int) (fs : List (List Dp)) (rs : List Int) (best : List FactT) (some : List Bool) (i : Int) : AS := { t := mkT 63 0 [(6, .ref (.ptr 1 0)), (7, .ref (.ptr 2 0)), (8, .ref (.ptr 3 0)), (46, int i)], h := vaH kk ks ko known fs (bd rs).flatten best some .exhausted [], m := [7] }
theorem vl_b {kk ks ko known : Int} {fs : List (List Dp)} {rs : List Int} {best : List FactT} {some : List Bool} {g : FactT} {n : Nat} {b : Bool} (hb : best[n]? = .some g) (hs : some[n]? = .some b) (hn : inR (n : Int) 1024 = true) (hr : n < rs.length) (hlt : decide ((n : Int) < 1024) = true) : (CW y6 Γ0 [] false (sub zx 2) (vlS kk ks ko known fs rs best some (n : Int)) .normal (vlS kk ks ko known fs (bif b then (rs.set n (-1)).set n (maxV g.value) else rs.set n (-1)) best some (zb.wrap ((n : Int) + 1)))) := by
 cases hc0 : b
 ·let v0 : List Blk := [.var [int kk, int ks, int ko], .var (zl (bd (Bj rs n (-1)))), .var (zl (bF best)), .var (zl (b6 some)), .var [aa fs], .var [int kk, int ks, int ko], .var [int known], .defd, .loop zY none 0 (mkT 63 0 [(6, .ref (.ptr 1 0)), (7, .ref (.ptr 2 0)), (8, .ref (.ptr 3 0)), (15, Ap (zB 178) [] [.ref (.ptr 4 0), .ref (.ptr 5 0), .ref (.ptr 6 0)])]) { toList := [16] } (aA (sub zx 0)) (al (sub zx 0))]
  refine zt (zu (s' := { t := mkT 63 0 [(6, .ref (.ptr 1 0)), (7, .ref (.ptr 2 0)), (8, .ref (.ptr 3 0)), (46, int (zg zb ((↑n : Int) + 1)))], h := v0, m := [7] }) (e := zr) pok [.st (.mask [6, 7, 8, 46])] [.b true, .oh 10050 C6 (vaH kk ks ko known fs (zl (bd (Bj rs n (-1)))) best some zY []), .ov 53 (bool b), .b false] (by kernel_rfl) (.c hlt (.c hn (.c (show bA y6 [.var [int kk, int ks, int ko], .var (zl (bd rs)), .var (zl (bF best)), .var (zl (b6 some)), .var [aa fs], .var [int kk, int ks, int ko], .var [int known], .defd, .loop zY none 0 (mkT 63 0 [(6, .ref (.ptr 1 0)), (7, .ref (.ptr 2 0)), (8, .ref (.ptr 3 0)), (15, Ap (zB 178) [] [.ref (.ptr 4 0), .ref (.ptr 5 0), .ref (.ptr 6 0)])]) { toList := [16] } (aA (sub zx 0)) (al (sub zx 0))] 3 (.ref (.ptr 1 (0 + zh (↑n : Int) * 1))) (evalD Γ0 (mkT 63 0 [(6, .ref (.ptr 1 0)), (7, .ref (.ptr 2 0)), (8, .ref (.ptr 3 0)), (11, int (↑n : Int)), (46, int (↑n : Int)), (47, bool (decide ((↑n : Int) < 1024))), (48, int (↑n : Int)), (49, int (↑n : Int)), (50, .ref (.ptr 1 (0 + zh (↑n : Int) * 1)))]) (C7 (Value.int zb (-1)))) = AK v0 from ?_) (.c hn (.c (show bw y6 v0 4 (.ref (.ptr 3 (0 + zh (↑n : Int) * 1))) = AK (bool b) from ?_) (.c hc0 .n))))))) (by subst v0; first | rfl | (simp only [hc0, cond_true, cond_false]; first | done | rfl)) (by subst v0; first | rfl | (simp only [hc0, cond_true, cond_false]; first | done | rfl)) <;> subst v0 <;> (first | assumption | rfl | exact me rfl hs (by simp) | exact wO rfl hb (by simp) | exact qm rfl hr (by simp) | exact qm rfl (by simpa using hr) (by simp) | (simp_all; done))
 ·let v2 : List D := [.ref (.ptr 4 0), .ref (.ptr 5 0), .ref (.ptr 6 0)]
  let v3 := zl (bd (Bj (Bj rs n (-1)) n (maxV g.value)))
  let v4 := zl (bF best)
  let v5 := zl (b6 some)
  let v0 : List Blk := [.var [int kk, int ks, int ko], .var (zl (bd (Bj rs n (-1)))), .var v4, .var v5, .var [aa fs], .var [int kk, int ks, int ko], .var [int known], .defd, .loop zY none 0 (mkT 63 0 [(6, .ref (.ptr 1 0)), (7, .ref (.ptr 2 0)), (8, .ref (.ptr 3 0)), (15, Ap (zB 178) [] v2)]) { toList := [16] } (aA (sub zx 0)) (al (sub zx 0))]
  let v1 : List Blk := [.var [int kk, int ks, int ko], .var v3, .var v4, .var v5, .var [aa fs], .var [int kk, int ks, int ko], .var [int known], .defd, .loop zY none 0 (mkT 63 0 [(6, .ref (.ptr 1 0)), (7, .ref (.ptr 2 0)), (8, .ref (.ptr 3 0)), (15, Ap (zB 178) [] v2)]) { toList := [16] } (aA (sub zx 0)) (al (sub zx 0))]
  refine zt (zu (s' := { t := mkT 63 0 [(6, .ref (.ptr 1 0)), (7, .ref (.ptr 2 0)), (8, .ref (.ptr 3 0)), (46, int (zg zb ((↑n : Int) + 1)))], h := v1, m := [7] }) (e := zr) pok [.st (.mask [6, 7, 8, 46])] [.b true, .oh 10050 C6 (vaH kk ks ko known fs (zl (bd (Bj rs n (-1)))) best some zY []), .ov 53 (bool b), .b true, .ov 58 (int g.value), .oh 10060 C6 (vaH kk ks ko known fs v3 best some zY [])] (by kernel_rfl) (.c hlt (.c hn (.c (show bA y6 [.var [int kk, int ks, int ko], .var (zl (bd rs)), .var v4, .var v5, .var [aa fs], .var [int kk, int ks, int ko], .var [int known], .defd, .loop zY none 0 (mkT 63 0 [(6, .ref (.ptr 1 0)), (7, .ref (.ptr 2 0)), (8, .ref (.ptr 3 0)), (15, Ap (zB 178) [] v2)]) { toList := [16] } (aA (sub zx 0)) (al (sub zx 0))] 3 (.ref (.ptr 1 (0 + zh (↑n : Int) * 1))) (evalD Γ0 (mkT 63 0 [(6, .ref (.ptr 1 0)), (7, .ref (.ptr 2 0)), (8, .ref (.ptr 3 0)), (11, int (↑n : Int)), (46, int (↑n : Int)), (47, bool (decide ((↑n : Int) < 1024))), (48, int (↑n : Int)), (49, int (↑n : Int)), (50, .ref (.ptr 1 (0 + zh (↑n : Int) * 1)))]) (C7 (Value.int zb (-1)))) = AK v0 from ?_) (.c hn (.c (show bw y6 v0 4 (.ref (.ptr 3 (0 + zh (↑n : Int) * 1))) = AK (bool b) from ?_) (.c hc0 (.c hn (.c (show bw y6 v0 3 (.ref (.ptr 2 (0 + zh (↑n : Int) * 8 + 3))) = AK (int g.value) from ?_) (.c hn (.c (show bA y6 v0 3 (.ref (.ptr 1 (0 + zh (↑n : Int) * 1))) (int (if true = true then if -1 > g.value then -1 else g.value else if -1 < g.value then -1 else g.value)) = AK v1 from ?_) .n))))))))))) (by subst v2 v3 v4 v5 v0 v1; first | rfl | (simp only [hc0, cond_true, cond_false]; first | done | rfl)) (by subst v2 v3 v4 v5 v0 v1; first | rfl | (simp only [hc0, cond_true, cond_false]; first | done | rfl)) <;> subst v2 v3 v4 v5 v0 v1 <;> (first | assumption | rfl | exact me rfl hs (by simp) | exact wO rfl hb (by simp) | exact qm rfl hr (by simp) | exact qm rfl (by simpa using hr) (by simp) | (simp_all; done))
theorem yw {kk ks ko known : Int} {fs : List (List Dp)} {rs : List Int} {best : List FactT} {some : List Bool} : (CW y6 Γ0 [] false (sub zx 2) (vlS kk ks ko known fs rs best some 1024) (.exit 4) { t := mkT 63 0 [(6, .ref (.ptr 1 0))], h := vaH kk ks ko known fs (bd rs).flatten best some .exhausted [], m := [7] }) := by
 exact zt (zu (s' := { t := mkT 63 0 [(6, .ref (.ptr 1 0))], h := [.var [int kk, int ks, int ko], .var (zl (bd rs)), .var (zl (bF best)), .var (zl (b6 some)), .var [aa fs], .var [int kk, int ks, int ko], .var [int known], .defd, .loop zY none 0 (mkT 63 0 [(6, .ref (.ptr 1 0)), (7, .ref (.ptr 2 0)), (8, .ref (.ptr 3 0)), (15, Ap (zB 178) [] [.ref (.ptr 4 0), .ref (.ptr 5 0), .ref (.ptr 6 0)])]) { toList := [16] } (aA (sub zx 0)) (al (sub zx 0))], m := [7] }) (e := zQ 4) pok [.st (.mask [6])] [.b false] (by kernel_rfl) (.c (show decide (1024 < 1024) = false from rfl) .n)) (by rfl) (by rfl)
def vlStep (s : VS) (rs : List Int) (n : Nat) : List Int := bif s.2.getD n false then (rs.set n (-1)).set n (maxV (s.1.getD n default).value) else rs.set n (-1)
def nN (s : VS) (rs : List Int) : List Int := (Ab 1024).foldl (vlStep s) rs
theorem vl_cw {kk ks ko known : Int} {fs : List (List Dp)} {rs : List Int} {best : List FactT} {some : List Bool} (ho : VS.ok (best, some)) (hr : rs.length = 1024) :
  CW y6 Γ0 [] false (.loop (sub zx 2)) (vlS kk ks ko known fs rs best some 0) (.exit 4) { t := mkT 63 0 [(6, .ref (.ptr 1 0))], h := vaH kk ks ko known fs (bd (nN (best, some) rs)).flatten best some .exhausted [], m := [7] } := by
 have := CW.each (P := y6) (Γ := Γ0) (h0 := []) (rd := false) (c := sub zx 2) (σ := List Int) (ρ := Empty) (Ab 1024) (fun n rs => .inl (vlStep (best, some) rs n))
  (fun i rs => vlS kk ks ko known fs rs best some (i : Int)) (.exit 4) (fun rs => { t := mkT 63 0 [(6, .ref (.ptr 1 0))], h := vaH kk ks ko known fs (bd rs).flatten best some .exhausted [], m := [7] }) (fun r => r.elim)
  (fun _ rs => rs.length = 1024) (by simp) (fun r => r.elim) ?_ ?_ rs hr
 ·rw [cy (fun rs n => vlStep (best, some) rs n)] at this
  exact this
 ·intro i n rs hn hs
  obtain ⟨hi, he⟩ := zc.1 hn
  simp only [List.length_range] at hi
  simp only [List.getElem_range] at he
  subst he
  have hb : best[i]? = .some (best.getD i default) := by
   rw [zi, zp (by rw [ho.1]; omega)]; rfl
  have hc : some[i]? = .some (some.getD i false) := by
   rw [zi, zp (by rw [ho.2]; omega)]; rfl
  refine ⟨fun s' h => by cases h; unfold vlStep; cases some.getD i false <;> simp [hs], ?_⟩
  have key := vl_b (kk := kk) (ks := ks) (ko := ko) (known := known) (fs := fs) (rs := rs) hb hc (by simp [inR]; omega) (by omega) (by simp; omega)
  rw [wrap_i64 (by omega) (by omega)] at key
  simp only [ad]
  unfold vlStep
  cases hq : some.getD i false <;> rw [hq] at key <;> exact key
 ·intro rs _
  simp only [List.length_range]
  exact yw
end Go.Vi
open Go Go.Proofs
namespace Go.Vi
set_option maxRecDepth 100000
set_option maxHeartbeats 4000000
theorem tB {h : List Blk} {l : List Int} (hb : h[1]? = some (.var (bd l).flatten)) (hl : l.length = 1024) : bw y6 h 215 (.ref (.ptr 1 0)) = some (.agg (bd l).flatten) :=
 uX (by kernel_rfl) (by rw [iD (sz := 1) (bd l) (fun r hr => by obtain ⟨_, _, rfl⟩ := zI.1 hr; rfl)]; simp only [bd, AN, hl]; kernel_rfl) hb
theorem tC {l : List Int} : (AQ (bd l).flatten).cells = some (bd l).flatten := by
 have : (bd l).flatten.all D.one = true := by
  rw [zJ]
  intro d hd
  obtain ⟨r, hr, hd⟩ := List.mem_flatten.1 hd
  obtain ⟨n, _, rfl⟩ := zI.1 hr
  simp only [List.mem_singleton] at hd
  subst hd; rfl
 simp only [D.cells, this, if_true]
theorem st_int {h : List Blk} {l : List Int} (hb : h[1]? = some (.var (bd l).flatten)) (hl : l.length = 1024) : bA y6 h 215 (.ref (.ptr 1 0)) (.agg (bd l).flatten) = some (h.set 1 (.var (bd l).flatten)) :=
 sO tC (by rw [iD (sz := 1) (bd l) (fun r hr => by obtain ⟨_, _, rfl⟩ := zI.1 hr; rfl)]; simp only [bd, AN, hl]; kernel_rfl) rfl hb
theorem jI {s : VS} {rs : List Int} (h : rs.length = 1024) : (nN s rs).length = 1024 := by
 unfold nN
 generalize Ab 1024 = l
 induction l generalizing rs with
 | nil => exact h
 | cons n l ih => exact ih (by unfold vlStep; cases s.2.getD n false <;> simp [h])
noncomputable abbrev vaE (kk ks ko known : Int) (l : List FactT) (rs : List Int) (s : VS) : List Blk := vaH kk ks ko known (l.map zo) (bd (nN (l.foldl (fo kk ks ko known) s) rs)).flatten (l.foldl (fo kk ks ko known) s).1 (l.foldl (fo kk ks ko known) s).2 .exhausted []
theorem vq {kk ks ko known : Int} {l : List FactT} (hl : ak l) {rs : List Int} {b0 : List FactT} {s0 : List Bool} (ho : VS.ok (b0, s0)) (hf : VS.ok (l.foldl (fo kk ks ko known) (b0, s0))) (hr : rs.length = 1024) (e1 : dt y6 [.var [int kk, int ks, int ko]] 215 (.ref (.ptr 1 0)) [.var [int kk, int ks, int ko], .var (bd rs).flatten])
  (e2 : dt y6 [.var [int kk, int ks, int ko], .var (bd rs).flatten] 243 (.ref (.ptr 2 0)) [.var [int kk, int ks, int ko], .var (bd rs).flatten, .var (bF b0).flatten])
  (e3 : dt y6 [.var [int kk, int ks, int ko], .var (bd rs).flatten, .var (bF b0).flatten] 244 (.ref (.ptr 3 0)) [.var [int kk, int ks, int ko], .var (bd rs).flatten, .var (bF b0).flatten, .var (b6 s0).flatten]) : (CW y6 Γ0 [] false (xD zx) { t := mkT 63 0 [(0, aa (l.map zo)), (1, .agg [int kk, int ks, int ko]), (2, int known)], h := [], m := [] } .ret { t := mkT 63 0 [(6, .ref (.ptr 1 0))], h := vaE kk ks ko known l rs (b0, s0), m := [7] }) := by
 have hl0 := (@vo (kk) (ks) (ko) (known) (l) (hl) (rs) (b0) (s0) (ho))
 have hl1 := (@vl_cw (kk) (ks) (ko) (known) (y9 zo l) (rs) ((Br (fo kk ks ko known) (b0, s0) l).fst) ((Br (fo kk ks ko known) (b0, s0) l).snd) (hf) (hr))
 let v2 := Br (fo kk ks ko known) (b0, s0) l
 let v3 : List Blk := [.var [int kk, int ks, int ko], .var (zl (bd rs)), .var (zl (bF b0))]
 let v4 : List D := [.ref (.ptr 4 0), .ref (.ptr 5 0), .ref (.ptr 6 0)]
 let v5 : List Blk := [.var [int kk, int ks, int ko], .var (zl (bd rs)), .var (zl (bF b0)), .var (zl (b6 s0))]
 let v6 : List Blk := [.var [int kk, int ks, int ko], .var (zl (bd rs))]
 let v7 := zl (bd (nN v2 rs))
 let v8 := zl (bF v2.fst)
 let v9 := zl (b6 v2.snd)
 let v10 : List D := [aa (y9 zo l)]
 let v0 : List Blk := [.var [int kk, int ks, int ko], .var (zl (bd (nN (v2.fst, v2.snd) rs))), .var v8, .var v9, .var v10, .var [int kk, int ks, int ko], .var [int known], .defd, .loop zY none 0 (mkT 63 0 [(6, .ref (.ptr 1 0)), (7, .ref (.ptr 2 0)), (8, .ref (.ptr 3 0)), (15, Ap (zB 178) [] v4)]) { toList := [16] } (aA (sub zx 0)) (al (sub zx 0))]
 let v1 : List Blk := [.var [int kk, int ks, int ko], .var v7, .var v8, .var v9, .var v10, .var [int kk, int ks, int ko], .var [int known], .defd, .loop zY none 0 (mkT 63 0 [(6, .ref (.ptr 1 0)), (7, .ref (.ptr 2 0)), (8, .ref (.ptr 3 0)), (15, Ap (zB 178) [] v4)]) { toList := [16] } (aA (sub zx 0)) (al (sub zx 0))]
 refine zt (zu (s' := { t := mkT 63 0 [(6, .ref (.ptr 1 0))], h := v1, m := [7] }) (e := Exit.ret) pok [.st (.mask [6])] [.oh 6 (.ref (.ptr 1 0)) v6, .oh 7 (.ref (.ptr 2 0)) v3, .oh 8 (.ref (.ptr 3 0)) v5, .inl, .sum [6, 7, 8, 15] (zr) { t := mkT 63 0 [(6, .ref (.ptr 1 0)), (7, .ref (.ptr 2 0)), (8, .ref (.ptr 3 0)), (15, Ap (zB 178) [] v4)], h := [.var [int kk, int ks, int ko], .var (zl (bd rs)), .var v8, .var v9, .var v10, .var [int kk, int ks, int ko], .var [int known], .defd, .loop zY none 0 (mkT 63 0 [(6, .ref (.ptr 1 0)), (7, .ref (.ptr 2 0)), (8, .ref (.ptr 3 0)), (15, Ap (zB 178) [] v4)]) { toList := [16] } (aA (sub zx 0)) (al (sub zx 0))], m := [7] }, .sum [6, 7, 8, 46] (zQ 4) { t := mkT 63 0 [(6, .ref (.ptr 1 0))], h := v0, m := [7] }, .ov 62 (AQ v7), .oh 10006 C6 (vaE kk ks ko known l rs (b0, s0))] (by kernel_rfl) (.c (show dt y6 [.var [int kk, int ks, int ko]] 215 (.ref (.ptr 1 0)) v6 from ?_) (.c (show dt y6 v6 243 (.ref (.ptr 2 0)) v3 from ?_) (.c (show dt y6 v3 244 (.ref (.ptr 3 0)) v5 from ?_) (.c hl0 (.c hl1 (.c (show bw y6 v0 215 (.ref (.ptr 1 0)) = some (AQ v7) from ?_) (.c (show bA y6 v0 215 (.ref (.ptr 1 0)) (AQ v7) = some v1 from ?_) .n)))))))) (by rfl) (by rfl) <;> subst v2 v3 v4 v5 v6 v7 v8 v9 v10 v0 v1 <;> (first | assumption | exact tB rfl (jI hr) | exact st_int rfl (jI hr) | (simp_all; done))
theorem yy {n : Nat} {l : List Int} : D.inn n (.agg (bd l).flatten) = true := mh (n := n) (l := l)
def vZ : VS := (zz 1024 fz, zz 1024 false)
theorem vZ_ok : vZ.ok := ⟨by simp [vZ], by simp [vZ]⟩
theorem tD {kk ks ko known : Int} {l : List FactT} {s : VS} (h : s.ok) : (l.foldl (fo kk ks ko known) s).ok := by
 induction l generalizing s with
 | nil => exact h
 | cons f l ih => exact ih (vaGo_ok f h)
def dv (kk ks ko known : Int) (l : List FactT) : List Int := nN (l.foldl (fo kk ks ko known) vZ) (zz 1024 0)
theorem oT {kk ks ko known : Int} {l : List FactT} : (dv kk ks ko known l).length = 1024 := jI (by simp)
theorem vr {kk ks ko known : Int} {l : List FactT} (hl : ak l) : Ev y6 Γ0 159 [aa (l.map zo), .agg [int kk, int ks, int ko], int known] [] (.agg (bd (dv kk ks ko known l)).flatten) (mq [7] (vaE kk ks ko known l (zz 1024 0) vZ)) := by
 have hw := vq (kk := kk) (ks := ks) (ko := ko) (known := known) hl (rs := zz 1024 0) (b0 := vZ.1) (s0 := vZ.2) vZ_ok (tD vZ_ok) (by simp) (by unfold dt; kernel_rfl) (by unfold dt vZ; kernel_rfl) (by unfold dt vZ; kernel_rfl)
 refine Ev.of_cw (fn := zx) (by kernel_rfl) (by kernel_rfl) hw ?_
 have hc : bw y6 (mq [7] (vaE kk ks ko known l (zz 1024 0) vZ)) 215 (.ref (.ptr 1 0)) = some (.agg (bd (dv kk ks ko known l)).flatten) := tB rfl oT
 have hr : aX y6 (mkT 63 0 [(6, .ref (.ptr 1 0))]) (mq [7] (vaE kk ks ko known l (zz 1024 0) vZ)) zx.results.toList = some [.agg (bd (dv kk ks ko known l)).flatten] := by
  show (match go y6 (mkT 63 0 [(6, .ref (.ptr 1 0))]) (mq [7] (vaE kk ks ko known l (zz 1024 0) vZ)) (.cell 6 215), some [] with
   | some d, some ds => some (d :: ds)
   | _, _ => none) = _
  have : go y6 (mkT 63 0 [(6, .ref (.ptr 1 0))]) (mq [7] (vaE kk ks ko known l (zz 1024 0) vZ)) (.cell 6 215) = some (.agg (bd (dv kk ks ko known l)).flatten) := hc
  rw [this]
 simp only [finF, pre]
 rw [hr]
 rfl
theorem tE {kk ks ko known : Int} {l : List FactT} (hl : ak l) (h : List Blk) : Ev y6 Γ0 159 [aa (l.map zo), .agg [int kk, int ks, int ko], int known] h (.agg (bd (dv kk ks ko known l)).flatten) h :=
 Ev.frame0 rfl (by have := Ev.trim (h := []) (d := .agg (bd (dv kk ks ko known l)).flatten) yy rfl (vr (kk := kk) (ks := ks) (ko := ko) (known := known) hl); simpa using this) h
end Go.Vi
open Go Go.Proofs
namespace Go.Vi
set_option maxRecDepth 100000
set_option maxHeartbeats 4000000
abbrev aC (rs : List (List Dp)) : List (List D) := rs.map (y9 D.p)
theorem ay (rs : List (List Dp)) (f : Ref → D) : (aC rs).map (D.mapRL f) = aC rs := bM f rs
theorem wP (k : Nat) : ∀ r : List Dp, CJ k (r.map .p) = true
 | [] => rfl
 | _ :: r => by simp [CJ, D.inn, wP k r]
theorem iG (rs : List (List Dp)) (k : Nat) : (aC rs).all (CJ k) = true := by
 rw [zJ]
 intro r hr
 obtain ⟨x, _, rfl⟩ := zI.1 hr
 exact wP k x
structure PtT where
 term : Int
 value : Int
 deriving Inhabited, DecidableEq
def PtT.row (p : PtT) : List Dp := [vi p.term, vi p.value]
theorem ax {n : Nat} {rs : List (List Dp)} {e sz : Nat} : zE n (.vec (aC rs) e sz) = true := iG rs n
def ptF (v : Int) (n : Nat) (l : List PtT) : List PtT := bif decide (v ≥ 0) then l ++ [⟨(n : Int), v⟩] else l
def ptHi (to : Int) : Int := if to < 1024 then to else 1024
def ptIn (rs : List Int) (x to : Int) : List PtT := (Ax x.toNat (ptHi to - x).toNat).foldl (fun l n => ptF (rs.getD n 0) n l) []
def ptLo (frm : Int) : Int := if true = true then if frm > 0 then frm else 0 else if frm < 0 then frm else 0
def yz (kk ks ko frm to known : Int) (l : List FactT) : List PtT := ptIn (dv kk ks ko known l) (ptLo frm) to
end Go.Vi
open Go Go.Proofs Go.Shelf Go.RowKit Go.Sort
namespace Go.Vi
end Go.Vi
open Go Go.Proofs Go.Shelf
namespace Go.Proofs
end Go.Proofs
namespace Go.Vi
open Go.Sort
def yA (a b : AttT) : Int := orI (aF a.term b.term) (aF a.course b.course)
theorem yB (a b : AttT) : (ltOf yA) a b = true ↔ a.term < b.term ∨ (a.term = b.term ∧ a.course < b.course) := by
 unfold ltOf yA orI aF
 simp only [decide_eq_true_eq]
 repeat' split
 all_goals simp_all
 all_goals omega
theorem yC (a b : AttT) : (ltOf yA) a b = false ↔ ¬ (a.term < b.term ∨ (a.term = b.term ∧ a.course < b.course)) := by
 rw [← yB, Bool.not_eq_true]
end Go.Vi
