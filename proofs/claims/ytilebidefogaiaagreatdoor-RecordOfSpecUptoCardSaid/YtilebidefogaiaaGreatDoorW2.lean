/- RecordOfSpecUpto: part of the proof: contracts of the functions that the law reaches, and the law. No conditions beyond the given statement's own. -/
import Derived.Test.YtilebidefogaiaaGreatDoorW1
open Go.Proofs.Tryz renaming prog → B7, f215 → GR, f216 → GS, f217 → Gc, f78 → F2, f124 → Gd
open Go.Vi.Ev renaming castH → Cj, sym0 → Cn
open Go.IntKind renaming wrap → Cc, i64 → B8
open List renaming length → Cb, getElem?_eq_some_iff → Ce, mem_of_getElem? → CS, getElem?_eq_getElem → Cv, map → B6, all → Cx, any → Hq
open Go.Vi.RuF renaming formed → DI
open Bool renaming and_assoc → DF, or_eq_false_iff → D2, not_eq_false' → Fw, false_and → Cs, and_false → Cw, true_and → CN, and_true → C3, and_self → CO
open Go.Vi.CW renaming cast → Ct, symX → Cu, each → Eo
open Go.Exit renaming normal → Cq, exit → CE, ret → Dv
open Go.Vi.RuleT renaming row → EL, mk → Hc
open Nat renaming le_refl → Cy
open Go.Vi.FactT renaming row → Ch
open Int renaming toNat → Cf
open Go.Vi.Dp renaming v → Hr
open Go.Value renaming tuple → Dd
open Go Go.Proofs
namespace Go.Vi
set_option maxRecDepth 100000
set_option maxHeartbeats 4000000
def c8 (n : Int) : Bool := decide (n ≥ 5) && decide (n ≤ 9)
theorem bO {n : Int} (h : List Blk) : (Ev B7 Γ0 236 [int n] h (bool (c8 n)) h) := by
 exact Cj (Cn (d := bool (decide (n ≥ 5) && decide (n ≤ 9))) pok [] (by kernel_rfl) .n rfl rfl h) (by rfl) (by rfl)
def yj (n : Int) : Bool := decide (n ≥ 0) && decide (n < 4096)
theorem f4 {n : Int} (h : List Blk) : (Ev B7 Γ0 237 [int n] h (bool (yj n)) h) := by
 exact Cj (Cn (d := bool (decide (n ≥ 0) && decide (n < 4096))) pok [] (by kernel_rfl) .n rfl rfl h) (by rfl) (by rfl)
theorem vN {n d : Int} (hn : I64 n) (hd : I64 d) (h : List Blk) : (Ev B7 Γ0 238 [.agg [int n, int d]] h (bool (qB n d)) h) := by
 exact Cj (Cn (d := bool (sC n d == 0 && decide (n ≥ 0) && decide (n ≤ Cc B8 (12 * d)))) pok [.val (int (sC n d))] (by kernel_rfl) (.c (@qz n d hn hd ([.var [int n, int d]])) .n) rfl rfl h) (by rfl) (by rfl)
theorem qD (c : Int) : yj c = inB c 0 4095 := by
 unfold yj inB
 congr 1
 exact decide_eq_decide.2 (by omega)
noncomputable abbrev aB (x : RuF) : List Blk := [.var [int x.op, int x.c, al x.nm, int x.n, int x.d, ab x.ks]]
theorem f7 {x : RuF} (hx : x.ok) (h : List Blk) : (Ev B7 Γ0 231 [.agg x.l] h (bool x.formed) h) := by
 cases hc0 : !(x.op == 5 || x.op == 6 || x.op == 9) && x.c != 0 || !(x.op == 3 || x.op == 5 || x.op == 6 || x.op == 7 || x.op == 8) && x.n != 0 || x.op != 8 && x.d != 0 || c8 x.op && decide ((↑(Cb x.ks) : Int) > 0)
 ·cases hc1 : x.op == 1
  ·cases hc2 : x.op == 2
   ·cases hc3 : x.op == 3
    ·cases hc4 : x.op == 4
     ·cases hc5 : x.op == 5
      ·cases hc6 : x.op == 6
       ·cases hc7 : x.op == 7
        ·cases hc8 : x.op == 8
         ·cases hc9 : x.op == 9
          ·exact Cj (Cn (d := bool false) pok [.val (bool (c8 x.op)), .b false, .b false, .b false, .b false, .b false, .b false, .b false, .b false, .b false, .b false] (by kernel_rfl) (.c (gd (!(!(x.op == 5 || x.op == 6 || x.op == 9) && x.c != 0 || !(x.op == 3 || x.op == 5 || x.op == 6 || x.op == 7 || x.op == 8) && x.n != 0 || x.op != 8 && x.d != 0)) (@bO (x.op) (aB x))) (.c hc0 (.c hc1 (.c hc2 (.c hc3 (.c hc4 (.c hc5 (.c hc6 (.c hc7 (.c hc8 (.c hc9 .n))))))))))) rfl rfl h) (by (simp_all [DI, ah, c8, DF])) (by rfl)
          ·exact Cj (Cn (d := bool (yj x.c)) pok [.val (bool (c8 x.op)), .b false, .b false, .b false, .b false, .b false, .b false, .b false, .b false, .b false, .b true, .val (bool (yj x.c))] (by kernel_rfl) (.c (gd (!(!(x.op == 5 || x.op == 6 || x.op == 9) && x.c != 0 || !(x.op == 3 || x.op == 5 || x.op == 6 || x.op == 7 || x.op == 8) && x.n != 0 || x.op != 8 && x.d != 0)) (@bO (x.op) (aB x))) (.c hc0 (.c hc1 (.c hc2 (.c hc3 (.c hc4 (.c hc5 (.c hc6 (.c hc7 (.c hc8 (.c hc9 (.c (@f4 (x.c) (aB x)) .n)))))))))))) rfl rfl h) (by (simp_all [DI, ah, qD, c8, inB, DF])) (by rfl)
         ·refine Cj (Cn (d := bool (qB x.n x.d)) pok [.val (bool (c8 x.op)), .b false, .b false, .b false, .b false, .b false, .b false, .b false, .b false, .b true, .val (bool (qB x.n x.d))] (by kernel_rfl) (.c (gd (!(!(x.op == 5 || x.op == 6 || x.op == 9) && x.c != 0 || !(x.op == 3 || x.op == 5 || x.op == 6 || x.op == 7 || x.op == 8) && x.n != 0 || x.op != 8 && x.d != 0)) (@bO (x.op) (aB x))) (.c hc0 (.c hc1 (.c hc2 (.c hc3 (.c hc4 (.c hc5 (.c hc6 (.c hc7 (.c hc8 (.c (@vN (x.n) (x.d) ?_ ?_ (aB x)) .n))))))))))) rfl rfl h) (by (simp_all [DI, ah, c8, DF])) (by rfl) <;> (first | assumption | exact hx.1 | exact hx.2 | rfl)
        ·exact Cj (Cn (d := bool (decide (x.n ≥ 0) && decide (x.n ≤ 10000))) pok [.val (bool (c8 x.op)), .b false, .b false, .b false, .b false, .b false, .b false, .b false, .b true] (by kernel_rfl) (.c (gd (!(!(x.op == 5 || x.op == 6 || x.op == 9) && x.c != 0 || !(x.op == 3 || x.op == 5 || x.op == 6 || x.op == 7 || x.op == 8) && x.n != 0 || x.op != 8 && x.d != 0)) (@bO (x.op) (aB x))) (.c hc0 (.c hc1 (.c hc2 (.c hc3 (.c hc4 (.c hc5 (.c hc6 (.c hc7 .n))))))))) rfl rfl h) (by (simp_all [DI, ah, c8, inB, DF])) (by rfl)
       ·exact Cj (Cn (d := bool (yj x.c && decide (x.n ≥ 1) && decide (x.n ≤ 100))) pok [.val (bool (c8 x.op)), .b false, .b false, .b false, .b false, .b false, .b false, .b true, .val (bool (yj x.c))] (by kernel_rfl) (.c (gd (!(!(x.op == 5 || x.op == 6 || x.op == 9) && x.c != 0 || !(x.op == 3 || x.op == 5 || x.op == 6 || x.op == 7 || x.op == 8) && x.n != 0 || x.op != 8 && x.d != 0)) (@bO (x.op) (aB x))) (.c hc0 (.c hc1 (.c hc2 (.c hc3 (.c hc4 (.c hc5 (.c hc6 (.c (@f4 (x.c) (aB x)) .n))))))))) rfl rfl h) (by (simp_all [DI, ah, qD, c8, inB, DF])) (by rfl)
      ·exact Cj (Cn (d := bool (yj x.c && decide (x.n ≥ 0) && decide (x.n ≤ 12))) pok [.val (bool (c8 x.op)), .b false, .b false, .b false, .b false, .b false, .b true, .val (bool (yj x.c))] (by kernel_rfl) (.c (gd (!(!(x.op == 5 || x.op == 6 || x.op == 9) && x.c != 0 || !(x.op == 3 || x.op == 5 || x.op == 6 || x.op == 7 || x.op == 8) && x.n != 0 || x.op != 8 && x.d != 0)) (@bO (x.op) (aB x))) (.c hc0 (.c hc1 (.c hc2 (.c hc3 (.c hc4 (.c hc5 (.c (@f4 (x.c) (aB x)) .n)))))))) rfl rfl h) (by (simp_all [DI, ah, qD, c8, inB, DF])) (by rfl)
     ·exact Cj (Cn (d := bool ((↑(Cb x.ks) : Int) == 1)) pok [.val (bool (c8 x.op)), .b false, .b false, .b false, .b false, .b true] (by kernel_rfl) (.c (gd (!(!(x.op == 5 || x.op == 6 || x.op == 9) && x.c != 0 || !(x.op == 3 || x.op == 5 || x.op == 6 || x.op == 7 || x.op == 8) && x.n != 0 || x.op != 8 && x.d != 0)) (@bO (x.op) (aB x))) (.c hc0 (.c hc1 (.c hc2 (.c hc3 (.c hc4 .n)))))) rfl rfl h) (by (simp_all [DI, ah, c8, DF])) (by rfl)
    ·exact Cj (Cn (d := bool (decide (x.n ≥ 0) && decide (x.n ≤ 200))) pok [.val (bool (c8 x.op)), .b false, .b false, .b false, .b true] (by kernel_rfl) (.c (gd (!(!(x.op == 5 || x.op == 6 || x.op == 9) && x.c != 0 || !(x.op == 3 || x.op == 5 || x.op == 6 || x.op == 7 || x.op == 8) && x.n != 0 || x.op != 8 && x.d != 0)) (@bO (x.op) (aB x))) (.c hc0 (.c hc1 (.c hc2 (.c hc3 .n))))) rfl rfl h) (by (simp_all [DI, ah, c8, inB, DF])) (by rfl)
   ·exact Cj (Cn (d := bool true) pok [.val (bool (c8 x.op)), .b false, .b false, .b true] (by kernel_rfl) (.c (gd (!(!(x.op == 5 || x.op == 6 || x.op == 9) && x.c != 0 || !(x.op == 3 || x.op == 5 || x.op == 6 || x.op == 7 || x.op == 8) && x.n != 0 || x.op != 8 && x.d != 0)) (@bO (x.op) (aB x))) (.c hc0 (.c hc1 (.c hc2 .n)))) rfl rfl h) (by (simp_all [DI, ah, c8, DF])) (by rfl)
  ·exact Cj (Cn (d := bool true) pok [.val (bool (c8 x.op)), .b false, .b true, .b true] (by kernel_rfl) (.c (gd (!(!(x.op == 5 || x.op == 6 || x.op == 9) && x.c != 0 || !(x.op == 3 || x.op == 5 || x.op == 6 || x.op == 7 || x.op == 8) && x.n != 0 || x.op != 8 && x.d != 0)) (@bO (x.op) (aB x))) (.c hc0 (.c hc1 (.c hc1 .n)))) rfl rfl h) (by (simp_all [DI, ah, c8, DF])) (by rfl)
 ·exact Cj (Cn (d := bool false) pok [.val (bool (c8 x.op)), .b true] (by kernel_rfl) (.c (gd (!(!(x.op == 5 || x.op == 6 || x.op == 9) && x.c != 0 || !(x.op == 3 || x.op == 5 || x.op == 6 || x.op == 7 || x.op == 8) && x.n != 0 || x.op != 8 && x.d != 0)) (@bO (x.op) (aB x))) (.c hc0 .n)) rfl rfl h) (by (simp_all [DI, ah, c8, DF])) (by rfl)
end Go.Vi
open Go Go.Proofs
namespace Go.Vi
set_option maxRecDepth 100000
set_option maxHeartbeats 4000000
mutual
def RuleT.size : RuleT → Nat
 | .mk _ _ _ _ _ ks => 1 + sizeL ks
def sizeL : List RuleT → Nat
 | [] => 0
 | k :: ks => k.size + sizeL ks
end
mutual
def RuleT.dep : RuleT → Nat
 | .mk _ _ _ _ _ ks => depL ks + 1
def depL : List RuleT → Nat
 | [] => 0
 | k :: ks => max k.dep (depL ks)
end
mutual
def RuleT.allF : RuleT → Bool
 | .mk op c _ n d ks => bif ah op c n d ks.length then ui ks else false
def ui : List RuleT → Bool
 | [] => true
 | k :: ks => bif k.allF then ui ks else false
end
mutual
theorem RuleT.dep_size : ∀ r : RuleT, r.dep ≤ r.size
 | .mk _ _ _ _ _ ks => by simp only [RuleT.dep, RuleT.size]; have := kB ks; omega
theorem kB : ∀ ks : List RuleT, depL ks ≤ sizeL ks
 | [] => by simp [depL, sizeL]
 | k :: ks => by simp only [depL, sizeL]; have := RuleT.dep_size k; have := kB ks; omega
end
theorem fD : ∀ {ks : List RuleT}, ∀ k ∈ ks, k.size ≤ sizeL ks
 | a :: ks, k, hk => by
  simp only [sizeL]
  rcases List.mem_cons.1 hk with rfl | hk
  ·omega
  ·have := fD k hk; omega
abbrev paS (x : RuF) (acc i : Int) : AS := { t := mkT 21 0 [(1, .ref (.ptr 0 0)), (3, int acc), (4, int i)], h := [.var x.l], m := [] }
abbrev paE (x : RuF) (acc : Int) : AS := { t := mkT 21 0 [(3, int acc)], h := [.var x.l], m := [] }
noncomputable abbrev l9 (x : RuF) : List Blk := [.var [int x.op, int x.c, al x.nm, int x.n, int x.d, ab x.ks]]
theorem AX {x : RuF} {acc p : Int} {i : Nat} {y : RuF} (hr : aH (i : Int) x.ks y.row 6) (hlt : decide ((i : Int) < (x.ks.length : Int)) = true) (hw : B8.wrap ((i : Int) + 1) = ((i + 1 : Nat) : Int))
  (hk : ∀ h, Ev B7 Γ0 215 [.agg y.l] h (int p) h) : (CW B7 Γ0 [] false (sub GR 0) (paS x acc i) .normal (paS x (B8.wrap (acc + p)) ((i + 1 : Nat) : Int))) := by
 refine Ct (Cu (s' := { t := mkT 21 0 [(1, .ref (.ptr 0 0)), (3, int (Cc B8 (acc + p))), (4, int (Cc B8 ((↑i : Int) + 1)))], h := (l9 x), m := [] }) (e := Cq) pok [.st (.mask [1, 3, 4])] [.b true, .row [vi y.op, vi y.c, vs y.nm, vi y.n, vi y.d, Dp.sl y.ks], .val (int p)] (by kernel_rfl) (.c hlt (.c hr (.c (@hk (l9 x)) .n)))) ?_ ?_ <;> (first | rfl | (rw [hw]; rfl))
theorem AY {x : RuF} {acc : Int} {i : Nat} (hlt : decide ((i : Int) < (x.ks.length : Int)) = false) : (CW B7 Γ0 [] false (sub GR 0) (paS x acc i) (.exit 0) (paE x acc)) := by
 exact Ct (Cu (s' := { t := mkT 21 0 [(3, int acc)], h := [.var [int x.op, int x.c, al x.nm, int x.n, int x.d, ab x.ks]], m := [] }) (e := CE 0) pok [.st (.mask [3])] [.b false] (by kernel_rfl) (.c hlt .n)) (by rfl) (by rfl)
abbrev paF (k : RuleT) (a : Int) : Int ⊕ Empty := .inl (B8.wrap (a + (k.size : Int)))
theorem vO : ∀ (ks : List RuleT) (a : Nat), a + sizeL ks ≤ 1048576 → forL paF ks (a : Int) = .inl ((a + sizeL ks : Nat) : Int)
 | [], a, _ => by simp [forL, sizeL]
 | k :: ks, a, h => by
  simp only [sizeL] at h
  simp only [forL]
  have hw : B8.wrap ((a : Int) + (k.size : Int)) = ((a + k.size : Nat) : Int) := by rw [wrap_i64 (by omega) (by omega)]; omega
  rw [hw, vO ks (a + k.size) (by omega)]
  simp only [sizeL, Nat.add_assoc]
theorem pa_cw {x : RuF} {ks : List RuleT} (hx : x.ks = ks.map EL) (hl : am ks) (hs : 1 + sizeL ks ≤ 1048576) (hk : ∀ k ∈ ks, ∀ h, Ev B7 Γ0 215 [.agg k.fl.l] h (int k.size) h) :
  CW B7 Γ0 [] false (.loop (sub GR 0)) (paS x 1 0) (.exit 0) (paE x ((1 + sizeL ks : Nat) : Int)) := by
 have key := Eo (P := B7) (Γ := Γ0) (h0 := []) (rd := false) (c := sub GR 0) ks paF (fun i (a : Int) => paS x a (i : Int)) (.exit 0) (fun a => paE x a) (fun e : Empty => e.elim) (fun _ _ => True) (by simp) (fun e => e.elim) ?_ ?_ 1 trivial
 ·rw [show (1 : Int) = ((1 : Nat) : Int) from rfl, vO ks 1 hs] at key
  exact key
 ·intro i k a hki _
  have hi := (Ce.1 hki).1
  have hr : aH (i : Int) x.ks k.fl.row 6 := by rw [hx, k.fl_row]; exact rowAt hki (by cases k; rfl)
  have hlt : decide ((i : Int) < (x.ks.length : Int)) = true := by rw [hx]; exact lt_len _ hi
  exact ⟨fun _ _ => trivial, AX hr hlt (wrap_succ hi hl) (hk k (CS hki))⟩
 ·intro a _
  exact AY (by rw [hx]; exact bM _ ks)
theorem AZ {x : RuF} {ks : List RuleT} (hx : x.ks = ks.map EL) (hl : am ks) (hs : 1 + sizeL ks ≤ 1048576) (hk : ∀ k ∈ ks, ∀ h, Ev B7 Γ0 215 [.agg k.fl.l] h (int k.size) h) (h : List Blk) : (Ev B7 Γ0 215 [.agg x.l] h (int ((1 + sizeL ks : Nat) : Int)) h) := by
 have hl0 := (@pa_cw (x) (ks) (hx) (hl) (hs) (hk))
 exact Cj (Cn (d := int (↑(1 + sizeL ks) : Int)) pok [.sum [1, 3, 4] (CE 0) { t := mkT 21 0 [(3, int (↑(1 + sizeL ks) : Int))], h := [.var [int x.op, int x.c, al x.nm, int x.n, int x.d, ab x.ks]], m := [] }] (by kernel_rfl) (.c hl0 .n) rfl rfl h) (by rfl) (by rfl)
abbrev deS (x : RuF) (acc i : Int) : AS := { t := mkT 22 0 [(1, .ref (.ptr 0 0)), (3, int acc), (4, int i)], h := [.var x.l], m := [] }
abbrev deE (x : RuF) (acc : Int) : AS := { t := mkT 22 0 [(3, int acc)], h := [.var x.l], m := [] }
noncomputable abbrev ma (x : RuF) : List Blk := [.var [int x.op, int x.c, al x.nm, int x.n, int x.d, ab x.ks]]
theorem A0 {x : RuF} {acc p : Int} {i : Nat} {y : RuF} (hr : aH (i : Int) x.ks y.row 6) (hlt : decide ((i : Int) < (x.ks.length : Int)) = true) (hw : B8.wrap ((i : Int) + 1) = ((i + 1 : Nat) : Int))
  (hk : ∀ h, Ev B7 Γ0 216 [.agg y.l] h (int p) h) : (CW B7 Γ0 [] false (sub GS 0) (deS x acc i) .normal (deS x (if p > acc then p else acc) ((i + 1 : Nat) : Int))) := by
 refine Ct (Cu (s' := { t := mkT 22 0 [(1, .ref (.ptr 0 0)), (3, int (if true = true then if p > acc then p else acc else if p < acc then p else acc)), (4, int (Cc B8 ((↑i : Int) + 1)))], h := (ma x), m := [] }) (e := Cq) pok [.st (.mask [1, 3, 4])] [.b true, .row [vi y.op, vi y.c, vs y.nm, vi y.n, vi y.d, Dp.sl y.ks], .val (int p)] (by kernel_rfl) (.c hlt (.c hr (.c (@hk (ma x)) .n)))) ?_ ?_ <;> (first | rfl | (rw [hw]; rfl) | (simp only [hw, if_true]; rfl))
theorem A1 {x : RuF} {acc : Int} {i : Nat} (hlt : decide ((i : Int) < (x.ks.length : Int)) = false) : (CW B7 Γ0 [] false (sub GS 0) (deS x acc i) (.exit 0) (deE x acc)) := by
 exact Ct (Cu (s' := { t := mkT 22 0 [(3, int acc)], h := [.var [int x.op, int x.c, al x.nm, int x.n, int x.d, ab x.ks]], m := [] }) (e := CE 0) pok [.st (.mask [3])] [.b false] (by kernel_rfl) (.c hlt .n)) (by rfl) (by rfl)
abbrev deF (k : RuleT) (a : Int) : Int ⊕ Empty := .inl (if (k.dep : Int) > a then (k.dep : Int) else a)
theorem vP : ∀ (ks : List RuleT) (a : Nat), forL deF ks (a : Int) = .inl ((max a (depL ks) : Nat) : Int)
 | [], a => by simp [forL, depL]
 | k :: ks, a => by
  simp only [forL]
  have hw : (if (k.dep : Int) > (a : Int) then (k.dep : Int) else (a : Int)) = ((max a k.dep : Nat) : Int) := by split <;> omega
  rw [hw, vP ks (max a k.dep)]
  simp only [depL]
  congr 2
  omega
theorem de_cw {x : RuF} {ks : List RuleT} (hx : x.ks = ks.map EL) (hl : am ks) (hk : ∀ k ∈ ks, ∀ h, Ev B7 Γ0 216 [.agg k.fl.l] h (int k.dep) h) :
  CW B7 Γ0 [] false (.loop (sub GS 0)) (deS x 0 0) (.exit 0) (deE x ((depL ks : Nat) : Int)) := by
 have key := Eo (P := B7) (Γ := Γ0) (h0 := []) (rd := false) (c := sub GS 0) ks deF (fun i (a : Int) => deS x a (i : Int)) (.exit 0) (fun a => deE x a) (fun e : Empty => e.elim) (fun _ _ => True) (by simp) (fun e => e.elim) ?_ ?_ 0 trivial
 ·rw [show (0 : Int) = ((0 : Nat) : Int) from rfl, vP ks 0, Nat.zero_max] at key
  exact key
 ·intro i k a hki _
  have hi := (Ce.1 hki).1
  have hr : aH (i : Int) x.ks k.fl.row 6 := by rw [hx, k.fl_row]; exact rowAt hki (by cases k; rfl)
  have hlt : decide ((i : Int) < (x.ks.length : Int)) = true := by rw [hx]; exact lt_len _ hi
  exact ⟨fun _ _ => trivial, A0 hr hlt (wrap_succ hi hl) (hk k (CS hki))⟩
 ·intro a _
  exact A1 (by rw [hx]; exact bM _ ks)
theorem A2 {x : RuF} {ks : List RuleT} (hx : x.ks = ks.map EL) (hl : am ks) (hw : B8.wrap (((depL ks : Nat) : Int) + 1) = ((depL ks + 1 : Nat) : Int)) (hk : ∀ k ∈ ks, ∀ h, Ev B7 Γ0 216 [.agg k.fl.l] h (int k.dep) h) (h : List Blk) : (Ev B7 Γ0 216 [.agg x.l] h (int ((depL ks + 1 : Nat) : Int)) h) := by
 have hl0 := (@de_cw (x) (ks) (hx) (hl) (hk))
 exact Cj (Cn (d := int (Cc B8 ((↑(depL ks) : Int) + 1))) pok [.sum [1, 3, 4] (CE 0) { t := mkT 22 0 [(3, int (↑(depL ks) : Int))], h := [.var [int x.op, int x.c, al x.nm, int x.n, int x.d, ab x.ks]], m := [] }] (by kernel_rfl) (.c hl0 .n) rfl rfl h) (by first | rfl | (rw [hw])) (by rfl)
abbrev afS (x : RuF) (i : Int) : AS := { t := mkT 21 0 [(1, .ref (.ptr 0 0)), (2, bool false), (3, int i)], h := [.var x.l], m := [] }
abbrev afE : AS := { t := mkT 21 0 [(2, bool false)], h := [], m := [] }
abbrev afX : Unit → Exit × AS := fun _ => (.ret, afE)
def afF (k : RuleT) (_ : Unit) : Unit ⊕ Unit := bif k.allF then .inl () else .inr ()
noncomputable abbrev mc (x : RuF) : List Blk := [.var [int x.op, int x.c, al x.nm, int x.n, int x.d, ab x.ks]]
theorem A3 {x : RuF} {b : Bool} {i : Nat} {y : RuF} (hr : aH (i : Int) x.ks y.row 6) (hlt : decide ((i : Int) < (x.ks.length : Int)) = true) (hw : B8.wrap ((i : Int) + 1) = ((i + 1 : Nat) : Int))
  (hb : (!b) = false) (hk : ∀ h, Ev B7 Γ0 217 [.agg y.l] h (bool b) h) : (CW B7 Γ0 [] false (sub Gc 0) (afS x i) .normal (afS x ((i + 1 : Nat) : Int))) := by
 refine Ct (Cu (s' := { t := mkT 21 0 [(1, .ref (.ptr 0 0)), (2, bool false), (3, int (Cc B8 ((↑i : Int) + 1)))], h := (mc x), m := [] }) (e := Cq) pok [.st (.mask [1, 2, 3])] [.b true, .row [vi y.op, vi y.c, vs y.nm, vi y.n, vi y.d, Dp.sl y.ks], .val (bool b), .b false] (by kernel_rfl) (.c hlt (.c hr (.c (@hk (mc x)) (.c hb .n))))) ?_ ?_ <;> (first | rfl | (rw [hw]; rfl))
noncomputable abbrev qE (x : RuF) : List Blk := [.var [int x.op, int x.c, al x.nm, int x.n, int x.d, ab x.ks]]
theorem yk {x : RuF} {b : Bool} {i : Nat} {y : RuF} (hr : aH (i : Int) x.ks y.row 6) (hlt : decide ((i : Int) < (x.ks.length : Int)) = true)
  (hb : (!b) = true) (hk : ∀ h, Ev B7 Γ0 217 [.agg y.l] h (bool b) h) : (CW B7 Γ0 [] false (sub Gc 0) (afS x i) .ret afE) := by
 exact Ct (Cu (s' := { t := mkT 21 0 [(2, bool false)], h := [], m := [] }) (e := Dv) pok [.st (.mask [2]), .st (.trim 0)] [.b true, .row [vi y.op, vi y.c, vs y.nm, vi y.n, vi y.d, Dp.sl y.ks], .val (bool b), .b true] (by kernel_rfl) (.c hlt (.c hr (.c (@hk (qE x)) (.c hb .n))))) (by rfl) (by rfl)
theorem A4 {x : RuF} {i : Nat} (hlt : decide ((i : Int) < (x.ks.length : Int)) = false) : (CW B7 Γ0 [] false (sub Gc 0) (afS x i) (.exit 0) afE) := by
 exact Ct (Cu (s' := { t := mkT 21 0 [(2, bool false)], h := [], m := [] }) (e := CE 0) pok [.st (.mask [2]), .st (.trim 0)] [.b false] (by kernel_rfl) (.c hlt .n)) (by rfl) (by rfl)
theorem qF : ∀ ks : List RuleT, forL afF ks () = bif ui ks then .inl () else .inr ()
 | [] => rfl
 | k :: ks => by
  simp only [forL, afF, ui]
  cases k.allF
  ·rfl
  ·simp only [cond_true]; exact qF ks
def A5 (ks : List RuleT) : Exit × AS := bn (.exit 0) (fun _ : Unit => afE) afX (forL afF ks ())
theorem vQ {ks : List RuleT} {u : Unit} (h : forL afF ks () = .inl u) : ui ks = true := by
 rw [qF] at h; cases hb : ui ks <;> rw [hb] at h <;> simp at h ⊢
theorem vR {ks : List RuleT} {u : Unit} (h : forL afF ks () = .inr u) : ui ks = false := by
 rw [qF] at h; cases hb : ui ks <;> rw [hb] at h <;> simp at h ⊢
theorem af_cw {x : RuF} {ks : List RuleT} (hx : x.ks = ks.map EL) (hl : am ks) (hk : ∀ k ∈ ks, ∀ h, Ev B7 Γ0 217 [.agg k.fl.l] h (bool k.allF) h) :
  CW B7 Γ0 [] false (.loop (sub Gc 0)) (afS x 0) (A5 ks).1 (A5 ks).2 := by
 have key := Eo (P := B7) (Γ := Γ0) (h0 := []) (rd := false) (c := sub Gc 0) ks afF (fun i (_ : Unit) => afS x (i : Int)) (.exit 0) (fun _ => afE) afX (fun _ _ => True) (by simp) (fun _ => by simp []) ?_ ?_ () trivial
 ·exact key
 ·intro i k _ hki _
  have hi := (Ce.1 hki).1
  have hr : aH (i : Int) x.ks k.fl.row 6 := by rw [hx, k.fl_row]; exact rowAt hki (by cases k; rfl)
  have hlt : decide ((i : Int) < (x.ks.length : Int)) = true := by rw [hx]; exact lt_len _ hi
  refine ⟨fun _ _ => trivial, ?_⟩
  have hk' := hk k (CS hki)
  unfold afF
  cases hb : k.allF
  ·rw [hb] at hk'
   exact yk hr hlt rfl hk'
  ·rw [hb] at hk'
   exact A3 hr hlt (wrap_succ hi hl) rfl hk'
 ·intro _ _
  exact A4 (by rw [hx]; exact bM _ ks)
noncomputable abbrev allF_a_x0 (x : RuF) : List D := [D.agg [int x.op, int x.c, al x.nm, int x.n, int x.d, ab x.ks]]
noncomputable abbrev kC (x : RuF) : List Blk := [.var [int x.op, int x.c, al x.nm, int x.n, int x.d, ab x.ks]]
theorem allF_a {x : RuF} (hok : x.ok) {ks : List RuleT} (hx : x.ks = ks.map EL) (hl : am ks) (hk : ∀ k ∈ ks, ∀ h, Ev B7 Γ0 217 [.agg k.fl.l] h (bool k.allF) h) (h : List Blk) : (Ev B7 Γ0 217 [.agg x.l] h (bool (bif x.formed then ui ks else false)) h) := by
 cases hc0 : !DI x
 ·have hl1 := (@af_cw (x) (ks) (hx) (hl) (hk))
  unfold A5 at hl1
  revert hl1
  cases ho2 : forL afF ks () with
  | inl o2_0_0 =>
   intro hl1
   exact Cj (Cn (d := bool true) pok [.val (bool (DI x)), .b false, .sum [1, 2, 3] (CE 0) { t := mkT 21 0 [(2, bool false)], h := [], m := [] }] (by kernel_rfl) (.c (@f7 x hok (kC x)) (.c hc0 (.c hl1 .n))) rfl rfl h) (by first | (have e := vQ (by assumption); simp_all; done) | (have e := vR (by assumption); simp_all; done) | (simp_all; done)) (by rfl)
  | inr o2_1_0 =>
   intro hl1
   exact Cj (Cn (d := bool false) pok [.val (bool (DI x)), .b false, .sum [1, 2, 3] (Dv) { t := mkT 21 0 [(2, bool false)], h := [], m := [] }] (by kernel_rfl) (.c (@f7 x hok (kC x)) (.c hc0 (.c hl1 .n))) rfl rfl h) (by first | (have e := vQ (by assumption); simp_all; done) | (have e := vR (by assumption); simp_all; done) | (simp_all; done)) (by rfl)
 ·exact Cj (Cn (d := bool false) pok [.val (bool (DI x)), .b true] (by kernel_rfl) (.c (@f7 x hok (kC x)) (.c hc0 .n)) rfl rfl h) (by first | (have e := vQ (by assumption); simp_all; done) | (have e := vR (by assumption); simp_all; done) | (simp_all; done)) (by rfl)
end Go.Vi
open Go Go.Proofs
namespace Go.Vi
set_option maxRecDepth 100000
set_option maxHeartbeats 4000000
theorem cU : ∀ ks : List RuleT, cN ks = ks.map EL
 | [] => rfl
 | k :: ks => by simp only [cN, List.map_cons, cU ks]
theorem nC (r : RuleT) : 1 ≤ r.size := by cases r; simp only [RuleT.size]; omega
theorem vS : ∀ (n : Nat) (r : RuleT), r.size ≤ n → r.ok → r.size ≤ 1048576 → ∀ h, Ev B7 Γ0 215 [.agg r.fl.l] h (int (r.size : Nat)) h
 | 0, r, hn, _, _ => by have := nC r; omega
 | n + 1, .mk op c nm a d ks, hn, hok, hs => fun h => by
  simp only [RuleT.ok] at hok
  simp only [RuleT.size] at hn hs ⊢
  exact AZ (x := (Hc op c nm a d ks).fl) (ks := ks) (cU ks) hok.1.2.2.2.2 hs (fun k hk => vS n k (by have := fD k hk; omega) (dF hok.2 k hk) (by have := fD k hk; omega)) h
theorem vT : ∀ (n : Nat) (r : RuleT), r.size ≤ n → r.ok → r.size ≤ 1048576 → ∀ h, Ev B7 Γ0 216 [.agg r.fl.l] h (int (r.dep : Nat)) h
 | 0, r, hn, _, _ => by have := nC r; omega
 | n + 1, .mk op c nm a d ks, hn, hok, hs => fun h => by
  simp only [RuleT.ok] at hok
  simp only [RuleT.size] at hn hs
  simp only [RuleT.dep]
  have := kB ks
  exact A2 (x := (Hc op c nm a d ks).fl) (ks := ks) (cU ks) hok.1.2.2.2.2 (by rw [wrap_i64 (by omega) (by omega)]; omega) (fun k hk => vT n k (by have := fD k hk; omega) (dF hok.2 k hk) (by have := fD k hk; omega)) h
theorem ym (ks : List RuleT) : (cN ks).length = ks.length := by rw [cU, List.length_map]
theorem zz : ∀ (n : Nat) (r : RuleT), r.size ≤ n → r.ok → ∀ h, Ev B7 Γ0 217 [.agg r.fl.l] h (bool r.allF) h
 | 0, r, hn, _ => by have := nC r; omega
 | n + 1, .mk op c nm a d ks, hn, hok => fun h => by
  have hfl := RuleT.fl_ok hok
  simp only [RuleT.ok] at hok
  simp only [RuleT.size] at hn
  have := allF_a (x := (Hc op c nm a d ks).fl) hfl (ks := ks) (cU ks) hok.1.2.2.2.2 (fun k hk => zz n k (by have := fD k hk; omega) (dF hok.2 k hk)) h
  have e : (Hc op c nm a d ks).fl.formed = ah op c a d ks.length := by
   simp only [RuleT.fl, DI, ym]
  rw [e] at this
  exact this
def A6 (p d : Int) (a : Bool) : Bool := decide (p > 200) || decide (d > 16) || !a
noncomputable abbrev zA (x : RuF) : List D := [D.agg [int x.op, int x.c, al x.nm, int x.n, int x.d, ab x.ks]]
noncomputable abbrev cg (x : RuF) : List Blk := [.var [int x.op, int x.c, al x.nm, int x.n, int x.d, ab x.ks]]
theorem vU {x : RuF} {p d : Int} {a : Bool} (hp : ∀ h, Ev B7 Γ0 215 [.agg x.l] h (int p) h) (hd : ∀ h, Ev B7 Γ0 216 [.agg x.l] h (int d) h) (ha : ∀ h, Ev B7 Γ0 217 [.agg x.l] h (bool a) h) (h : List Blk) : (Ev B7 Γ0 177 [.agg x.l] h (int (bF (A6 p d a))) h) := by
 cases hc0 : decide (p > 200) || decide (d > 16) || !a
 ·exact Cj (Cn (d := int 0) pok [.val (int p), .val (int d), .val (bool a), .b false] (by kernel_rfl) (.c (@hp (cg x)) (.c (gd (!decide (p > 200)) (@hd (cg x))) (.c (gd (!(decide (p > 200) || decide (d > 16))) (@ha (cg x))) (.c hc0 .n)))) rfl rfl h) (by first | (have hh : A6 p d a = true := hc0; rw [hh]; rfl) | (have hh : A6 p d a = false := hc0; rw [hh]; rfl)) (by rfl)
 ·exact Cj (Cn (d := int 120) pok [.val (int p), .val (int d), .val (bool a), .b true] (by kernel_rfl) (.c (@hp (cg x)) (.c (gd (!decide (p > 200)) (@hd (cg x))) (.c (gd (!(decide (p > 200) || decide (d > 16))) (@ha (cg x))) (.c hc0 .n)))) rfl rfl h) (by first | (have hh : A6 p d a = true := hc0; rw [hh]; rfl) | (have hh : A6 p d a = false := hc0; rw [hh]; rfl)) (by rfl)
def vV (m dep : Int) (r : RuleT) : Prop := m + (r.size : Int) ≤ 200 ∧ dep + (r.dep : Int) ≤ 17 ∧ r.allF = true
def tG (m dep : Int) (ks : List RuleT) : Prop := m + (sizeL ks : Int) ≤ 200 ∧ dep + (depL ks : Int) ≤ 17 ∧ ui ks = true
mutual
theorem po : ∀ (r : RuleT) (dep m : Int), 0 ≤ m → m + (r.size : Int) ≤ 10000000 → 0 ≤ dep → dep + (r.dep : Int) ≤ 10000001 → (vV m dep r → r.walk dep m = (m + (r.size : Int), false)) ∧ (¬ vV m dep r → (r.walk dep m).2 = true)
 | .mk op c nm a d ks, dep, m, h1, h2, h3, h4 => by
  have e1 : B8.wrap (m + 1) = m + 1 := wrap_i64 (by omega) (by omega)
  have e2 : B8.wrap (dep + 1) = dep + 1 := wrap_i64 (by omega) (by omega)
  simp only [RuleT.size, RuleT.dep] at h2 h4
  have ih := md ks (dep + 1) (m + 1) (by omega) (by omega) (by omega) (by omega)
  simp only [RuleT.walk, e1, e2]
  unfold vV
  simp only [RuleT.size, RuleT.dep, RuleT.allF]
  cases hst : gO (m + 1) dep (ah op c a d ks.length) with
  | true =>
   simp only
   refine ⟨fun hg => ?_, fun _ => trivial⟩
   obtain ⟨g1, g2, g3⟩ := hg
   unfold gO at hst
   cases hf : ah op c a d ks.length
   ·rw [hf] at g3; simp at g3
   ·rw [hf] at hst
    simp at hst
    omega
  | false =>
   simp only
   unfold gO at hst
   simp only [D2, decide_eq_false_iff_not, Fw] at hst
   obtain ⟨⟨s1, s2⟩, s3⟩ := hst
   rw [s3]
   simp only [cond_true]
   obtain ⟨i1, i2⟩ := ih (by omega) (by omega)
   unfold tG at i1 i2
   refine ⟨fun hg => ?_, fun hg => ?_⟩
   ·rw [i1 ⟨by omega, by omega, hg.2.2⟩]
    have : m + 1 + (sizeL ks : Int) = m + ((1 + sizeL ks : Nat) : Int) := by omega
    rw [this]
   ·exact i2 fun hl => hg ⟨by omega, by omega, hl.2.2⟩
theorem md : ∀ (ks : List RuleT) (dep m : Int), 0 ≤ m → m + (sizeL ks : Int) ≤ 10000000 → 0 ≤ dep → dep + (depL ks : Int) ≤ 10000001 → m ≤ 200 → dep ≤ 17 → (tG m dep ks → walkL ks dep m = (m + (sizeL ks : Int), false)) ∧ (¬ tG m dep ks → (walkL ks dep m).2 = true)
 | [], dep, m, h1, h2, h3, h4, h5, h6 => by
  unfold tG
  simp only [sizeL, depL, ui, walkL]
  refine ⟨fun _ => by simp, fun hg => (hg ⟨by simp; omega, by simp; omega, by trivial⟩).elim⟩
 | k :: ks, dep, m, h1, h2, h3, h4, h5, h6 => by
  simp only [sizeL, depL] at h2 h4
  obtain ⟨a1, a2⟩ := po k dep m h1 (by omega) h3 (by omega)
  unfold tG
  simp only [sizeL, depL, ui, walkL]
  by_cases hg : vV m dep k
  ·rw [a1 hg]
   simp only
   obtain ⟨g1, g2, g3⟩ := hg
   obtain ⟨b1, b2⟩ := md ks dep (m + (k.size : Int)) (by omega) (by omega) h3 (by omega) (by omega) h6
   unfold tG at b1 b2
   rw [g3]
   simp only [cond_true]
   refine ⟨fun hh => ?_, fun hh => ?_⟩
   ·rw [b1 ⟨by omega, by omega, hh.2.2⟩]
    have : m + (k.size : Int) + (sizeL ks : Int) = m + ((k.size + sizeL ks : Nat) : Int) := by omega
    rw [this]
   ·exact b2 fun hl => hh ⟨by omega, by omega, hl.2.2⟩
  ·have ha := a2 hg
   cases hw : k.walk dep m with
   | mk m' b =>
    rw [hw] at ha
    simp only at ha
    subst ha
    simp only
    refine ⟨fun hh => (hg ?_).elim, fun _ => trivial⟩
    obtain ⟨g1, g2, g3⟩ := hh
    cases hk : k.allF
    ·rw [hk] at g3; simp at g3
    ·exact ⟨by omega, by omega, hk⟩
end
theorem yn {r : RuleT} (hs : r.size ≤ 1048576) : r.bad = A6 (r.size : Nat) (r.dep : Nat) r.allF := by
 have hd := RuleT.dep_size r
 obtain ⟨h1, h2⟩ := po r 1 0 (by omega) (by omega) (by omega) (by omega)
 unfold RuleT.bad A6
 by_cases hg : vV 0 1 r
 ·rw [h1 hg]
  obtain ⟨g1, g2, g3⟩ := hg
  rw [g3]
  have e1 : decide (((r.size : Nat) : Int) > 200) = false := decide_eq_false (by omega)
  have e2 : decide (((r.dep : Nat) : Int) > 16) = false := decide_eq_false (by omega)
  rw [e1, e2]; rfl
 ·rw [h2 hg]
  cases hb : (decide (((r.size : Nat) : Int) > 200) || decide (((r.dep : Nat) : Int) > 16) || !r.allF)
  ·simp only [D2, decide_eq_false_iff_not, Fw] at hb
   exact (hg ⟨by omega, by omega, hb.2⟩).elim
  ·rfl
theorem me {r : RuleT} (hr : r.ok) (hs : r.size ≤ 1048576) (h : List Blk) : Ev B7 Γ0 177 [.agg r.fl.l] h (int (bF r.bad)) h := by
 rw [yn hs]
 exact vU (vS _ r (Cy _) hr hs) (vT _ r (Cy _) hr hs) (zz _ r (Cy _) hr) h
end Go.Vi
open Go Go.Proofs
namespace Go.Vi
set_option maxRecDepth 100000
set_option maxHeartbeats 4000000
noncomputable abbrev qG (f : FactT) : List Blk := [.var [int f.kind, int f.sub, int f.obj, int f.value, int f.frm, int f.til, int f.known, int f.no]]
theorem sG {f : FactT} (h : List Blk) : (Ev B7 Γ0 82 [ag f.row] h (bool (!fitsB f)) h) := by
 exact Cj (Cn (d := bool !fitsB f) pok [.val (bool (fitsB f))] (by kernel_rfl) (.c (@AC f (qG f)) .n) rfl rfl h) (by rfl) (by rfl)
def ixF (f : FactT) (s : Nat) : Nat ⊕ Nat := if (!fitsB f) = true then .inr s else .inl (s + 1)
abbrev ixS (fs : List (List Dp)) (i : Int) : AS :=
 { t := mkT 19 0 [(0, ab fs), (1, .p (.v (.func (.func 82) #[] #[]))), (4, int 0), (7, int fs.length), (8, int i)], h := [], m := [] }
abbrev ixX : Nat → Exit × AS := fun k => (.ret, { t := mkT 19 0 [(4, int (k : Int))], h := [], m := [] })
theorem A7 {fs : List (List Dp)} {i : Nat} {f : FactT} (hr : aH (i : Int) fs f.row 8) (hlt : decide ((i : Int) < (fs.length : Int)) = true) (hw : B8.wrap ((i : Int) + 1) = ((i + 1 : Nat) : Int)) : (CW B7 Γ0 [] false (sub Tryz.f137 0) (ixS fs i) (ad (fun _ => ixS fs ((i + 1 : Nat) : Int)) ixX (ixF f i)).1 (ad (fun _ => ixS fs ((i + 1 : Nat) : Int)) ixX (ixF f i)).2) := by
 cases hc0 : !fitsB f
 ·exact Ct (Cu (s' := { t := mkT 19 0 [(0, ab fs), (1, fq 82), (4, int 0), (7, int (↑(Cb fs) : Int)), (8, int (Cc B8 ((↑i : Int) + 1)))], h := [], m := [] }) (e := Cq) pok [.st (.mask [0, 1, 4, 7, 8])] [.b true, .row [vi f.kind, vi f.sub, vi f.obj, vi f.value, vi f.frm, vi f.til, vi f.known, vi f.no], .val (bool !fitsB f), .b false] (by kernel_rfl) (.c hlt (.c hr (.c (@sG f ([])) (.c hc0 .n))))) (by simp [ixF, ad, *]) (by simp [ixF, ad, *])
 ·exact Ct (Cu (s' := { t := mkT 19 0 [(4, int (↑i : Int))], h := [], m := [] }) (e := Dv) pok [.st (.mask [4])] [.b true, .row [vi f.kind, vi f.sub, vi f.obj, vi f.value, vi f.frm, vi f.til, vi f.known, vi f.no], .val (bool !fitsB f), .b true] (by kernel_rfl) (.c hlt (.c hr (.c (@sG f ([])) (.c hc0 .n))))) (by simp [ixF, ad, *]) (by simp [ixF, ad, *])
theorem A8 {fs : List (List Dp)} {i : Nat} (hlt : decide ((i : Int) < (fs.length : Int)) = false) : (CW B7 Γ0 [] false (sub Tryz.f137 0) (ixS fs i) (.exit 0) { t := mkT 19 0 [(4, int 0)], h := [], m := [] }) := by
 exact Ct (Cu (s' := { t := mkT 19 0 [(4, int 0)], h := [], m := [] }) (e := CE 0) pok [.st (.mask [4])] [.b false] (by kernel_rfl) (.c hlt .n)) (by rfl) (by rfl)
abbrev ixE : AS := { t := mkT 19 0 [(4, int 0)], h := [], m := [] }
def ixR (l : List FactT) : Int := match forL ixF l 0 with | .inl _ => -1 | .inr k => (k : Int)
theorem ix_cw {l : List FactT} (hl : am l) :
  CW B7 Γ0 [] false (.loop (sub Tryz.f137 0)) (ixS (l.map Ch) 0) (bn (.exit 0) (fun _ : Nat => ixE) ixX (forL ixF l 0)).1 (bn (.exit 0) (fun _ : Nat => ixE) ixX (forL ixF l 0)).2 := by
 refine Eo l ixF (fun i _ => ixS (l.map Ch) (i : Int)) (.exit 0) (fun _ => ixE) ixX (fun i s => s = i) (by simp) (fun _ => by simp []) ?_ ?_ 0 rfl
 ·intro i f s hf hs
  subst hs
  have hi := (Ce.1 hf).1
  refine ⟨fun s' h => ?_, A7 (rowAt hf rfl) (lt_len _ hi) (wrap_succ hi hl)⟩
  unfold ixF at h
  split at h <;> simp at h
  exact h.symm
 ·intro s hs
  exact A8 (bM _ l)
theorem yp {l : List FactT} (hl : am l) (h : List Blk) : (Ev B7 Γ0 137 [ab (l.map Ch), .p (.v (.func (.func 82) #[] #[]))] h (int (ixR l)) h) := by
 have hl0 := (@ix_cw (l) (hl))
 revert hl0
 cases ho1 : forL ixF l 0 with
 | inl o1_0_0 =>
  intro hl0
  exact Cj (Cn (d := int (-1)) pok [.sum [0, 1, 4, 7, 8] (CE 0) { t := mkT 19 0 [(4, int 0)], h := [], m := [] }] (by kernel_rfl) (.c hl0 .n) rfl rfl h) (by simp [ixR, ho1]) (by rfl)
 | inr o1_1_0 =>
  intro hl0
  exact Cj (Cn (d := int (↑o1_1_0 : Int)) pok [.sum [0, 1, 4, 7, 8] (Dv) { t := mkT 19 0 [(4, int (↑o1_1_0 : Int))], h := [], m := [] }] (by kernel_rfl) (.c hl0 .n) rfl rfl h) (by simp [ixR, ho1]) (by rfl)
theorem ix_any (l : List FactT) : ∀ k : Nat, (match forL ixF l k with | .inl _ => false | .inr _ => true) = l.any (fun f => !fitsB f) := by
 induction l with
 | nil => intro k; rfl
 | cons f l ih =>
  intro k
  rw [List.any_cons]
  cases hf : fitsB f
  ·simp [forL, ixF, hf]
  ·simp only [forL, ixF, hf, Bool.not_true, Bool.false_eq_true, if_false, Bool.false_or]
   exact ih (k + 1)
theorem ixR_ge (l : List FactT) : decide (ixR l ≥ 0) = l.any (fun f => !fitsB f) := by
 rw [← ix_any l 0, ixR]
 split <;> simp
theorem f8 {l : List FactT} (hl : am l) (h : List Blk) : (Ev B7 Γ0 81 [ab (l.map Ch), .p (.v (.func (.func 82) #[] #[]))] h (bool (l.any (fun f => !fitsB f))) h) := by
 exact Cj (Cn (d := bool (decide (ixR l ≥ 0))) pok [.val (int (ixR l))] (by kernel_rfl) (.c (@yp l hl ([])) .n) rfl rfl h) (by rw [← ixR_ge]) (by rfl)
def zB (p : FactT × FactT) (_ : Unit) : Unit ⊕ Unit := if decide (orI (aK p.1.known p.2.known) (aK p.1.no p.2.no) ≥ 0) = true then .inr () else .inl ()
abbrev nb5S (fs : List (List Dp)) (n : Int) (i : Int) : AS :=
 { t := mkT 27 0 [(0, ab fs), (2, int 0), (11, int n), (12, int i)], h := [], m := [] }
abbrev nbX : Unit → Exit × AS := fun _ => (.ret, { t := mkT 27 0 [(2, int 71)], h := [], m := [] })
theorem yq {fs : List (List Dp)} {n : Int} {i : Nat} {a b : FactT} (hr : aH (i : Int) fs a.row 8) (hr' : aH (B8.wrap ((i : Int) + 1)) fs b.row 8) (hlt : decide ((i : Int) < n) = true) (hw : B8.wrap ((i : Int) + 1) = ((i + 1 : Nat) : Int)) : (CW B7 Γ0 [] false (sub Tryz.f32 0) (nb5S fs n i) (ad (fun _ => nb5S fs n ((i + 1 : Nat) : Int)) nbX (zB (a, b) ())).1 (ad (fun _ => nb5S fs n ((i + 1 : Nat) : Int)) nbX (zB (a, b) ())).2) := by
 cases hc0 : decide (orI (aK a.known b.known) (aK a.no b.no) ≥ 0)
 ·exact Ct (Cu (s' := { t := mkT 27 0 [(0, ab fs), (2, int 0), (11, int n), (12, int (Cc B8 ((↑i : Int) + 1)))], h := [], m := [] }) (e := Cq) pok [.st (.mask [0, 2, 11, 12])] [.b true, .row [vi a.kind, vi a.sub, vi a.obj, vi a.value, vi a.frm, vi a.til, vi a.known, vi a.no], .row [vi b.kind, vi b.sub, vi b.obj, vi b.value, vi b.frm, vi b.til, vi b.known, vi b.no], .val (int (orI (aK a.known b.known) (aK a.no b.no))), .b false] (by kernel_rfl) (.c hlt (.c hr (.c hr' (.c (@iG a b ([])) (.c hc0 .n)))))) (by simp [zB, ad, *]) (by simp [zB, ad, *])
 ·exact Ct (Cu (s' := { t := mkT 27 0 [(2, int 71)], h := [], m := [] }) (e := Dv) pok [.st (.mask [2])] [.b true, .row [vi a.kind, vi a.sub, vi a.obj, vi a.value, vi a.frm, vi a.til, vi a.known, vi a.no], .row [vi b.kind, vi b.sub, vi b.obj, vi b.value, vi b.frm, vi b.til, vi b.known, vi b.no], .val (int (orI (aK a.known b.known) (aK a.no b.no))), .b true] (by kernel_rfl) (.c hlt (.c hr (.c hr' (.c (@iG a b ([])) (.c hc0 .n)))))) (by simp [zB, ad, *]) (by simp [zB, ad, *])
theorem yr {fs : List (List Dp)} {n : Int} {i : Nat} (hlt : decide ((i : Int) < n) = false) : (CW B7 Γ0 [] false (sub Tryz.f32 0) (nb5S fs n i) (.exit 0) { t := mkT 27 0 [(2, int 0)], h := [], m := [] }) := by
 exact Ct (Cu (s' := { t := mkT 27 0 [(2, int 0)], h := [], m := [] }) (e := CE 0) pok [.st (.mask [2])] [.b false] (by kernel_rfl) (.c hlt .n)) (by rfl) (by rfl)
def nbs (l : List FactT) : List (FactT × FactT) := l.zip (l.drop 1)
def nbR (l : List FactT) : Unit ⊕ Unit := forL zB (nbs l) ()
theorem nb5_cw {l : List FactT} (hl : am l) {n : Int} (hn : n = (nbs l).length) :
  CW B7 Γ0 [] false (.loop (sub Tryz.f32 0)) (nb5S (l.map Ch) n 0) (bn (.exit 0) (fun _ : Unit => { t := mkT 27 0 [(2, int 0)], h := [], m := [] }) nbX (nbR l)).1 (bn (.exit 0) (fun _ : Unit => { t := mkT 27 0 [(2, int 0)], h := [], m := [] }) nbX (nbR l)).2 := by
 subst hn
 have hlen : (nbs l).length = l.length - 1 := by simp [nbs]; try omega
 refine Eo (nbs l) zB (fun i _ => nb5S (l.map Ch) ((nbs l).length : Int) (i : Int)) (.exit 0) (fun _ => { t := mkT 27 0 [(2, int 0)], h := [], m := [] }) nbX (fun _ _ => True) (by simp) (fun _ => by simp []) ?_ ?_ () trivial
 ·intro i p u hp _
  obtain ⟨hi, he⟩ := Ce.1 hp
  have hi2 : i + 1 < l.length := by omega
  have h1 : l[i]? = some p.1 := by
   subst he; simp [nbs, Cv (show i < l.length by omega)]
  have h2 : l[i + 1]? = some p.2 := by
   subst he; simp [nbs, Cv hi2]
  have hw := wrap_succ (show i < l.length by omega) hl
  refine ⟨fun _ _ => trivial, yq (a := p.1) (b := p.2) (rowAt h1 rfl) ?_ ?_ hw⟩
  ·rw [hw]; exact rowAt h2 rfl
  ·simp; omega
 ·intro u _
  exact yr (by simp)
def bq (l : List FactT) : Int := bif l.any (fun f => !fitsB f) then 70 else match nbR l with | .inl _ => 0 | .inr _ => 71
abbrev min1 (l : List FactT) : Int := if false = true then if (↑(Cb (B6 Ch l)) : Int) > 1 then (↑(Cb (B6 Ch l)) : Int) else 1 else if (↑(Cb (B6 Ch l)) : Int) < 1 then (↑(Cb (B6 Ch l)) : Int) else 1
theorem vW (l : List FactT) : min1 l = ((min 1 l.length : Nat) : Int) := by
 unfold min1; simp; split <;> omega
theorem nD (l : List FactT) : ((Cb (List.take (Cf ((Cb (B6 Ch l) : Nat) : Int) - Cf (min1 l)) (List.drop (Cf (min1 l)) (B6 Ch l))) : Nat) : Int) = (nbs l).length := by
 rw [vW]; simp [nbs]; omega
theorem qH (l : List FactT) : (kX (min1 l) (↑(Cb (B6 Ch l)) : Int) (Cb (B6 Ch l)) && true && (true || false) && Cx (B6 Ch l) fun r => decide (Cb r = 8)) = true := by
 rw [vW]; simp [kX]; refine ⟨?_, fun f _ => rfl⟩; omega
noncomputable abbrev zC (l : List FactT) : List D := [ab (B6 Ch l), fq 82]
theorem vX {l : List FactT} (hl : am l) (h : List Blk) : (Ev B7 Γ0 32 [ab (l.map Ch)] h (int (bq l)) h) := by
 cases hc0 : Hq l fun f => !fitsB f
 ·have hl1 := (@nb5_cw (l) (hl) ((↑(Cb (List.take (Cf (↑(Cb (B6 Ch l)) : Int) - Cf (if false = true then if (↑(Cb (B6 Ch l)) : Int) > 1 then (↑(Cb (B6 Ch l)) : Int) else 1 else if (↑(Cb (B6 Ch l)) : Int) < 1 then (↑(Cb (B6 Ch l)) : Int) else 1)) (List.drop (Cf (if false = true then if (↑(Cb (B6 Ch l)) : Int) > 1 then (↑(Cb (B6 Ch l)) : Int) else 1 else if (↑(Cb (B6 Ch l)) : Int) < 1 then (↑(Cb (B6 Ch l)) : Int) else 1)) (B6 Ch l)))) : Int)) (by first | assumption | exact qH l | exact nD l))
  revert hl1
  cases ho2 : nbR l with
  | inl o2_0_0 =>
   intro hl1
   let v0 := Cb (B6 Ch l)
   exact Cj (Cn (d := int 0) pok [.val (bool (Hq l fun f => !fitsB f)), .b false, .sum [0, 2, 11, 12] (CE 0) { t := mkT 27 0 [(2, int 0)], h := [], m := [] }] (by kernel_rfl) (.c (@f8 l hl ([])) (.c hc0 (.c (show (kX (if false = true then if (↑v0 : Int) > 1 then (↑v0 : Int) else 1 else if (↑v0 : Int) < 1 then (↑v0 : Int) else 1) (↑v0 : Int) v0 && true && (true || false) && Cx (B6 Ch l) fun r => decide (Cb r = 8)) = true from (by subst v0; first | assumption | exact qH l | exact nD l)) (.c hl1 .n)))) rfl rfl h) (by subst v0; simp [bq, hc0, ho2]) (by rfl)
  | inr o2_1_0 =>
   intro hl1
   let v0 := Cb (B6 Ch l)
   exact Cj (Cn (d := int 71) pok [.val (bool (Hq l fun f => !fitsB f)), .b false, .sum [0, 2, 11, 12] (Dv) { t := mkT 27 0 [(2, int 71)], h := [], m := [] }] (by kernel_rfl) (.c (@f8 l hl ([])) (.c hc0 (.c (show (kX (if false = true then if (↑v0 : Int) > 1 then (↑v0 : Int) else 1 else if (↑v0 : Int) < 1 then (↑v0 : Int) else 1) (↑v0 : Int) v0 && true && (true || false) && Cx (B6 Ch l) fun r => decide (Cb r = 8)) = true from (by subst v0; first | assumption | exact qH l | exact nD l)) (.c hl1 .n)))) rfl rfl h) (by subst v0; simp [bq, hc0, ho2]) (by rfl)
 ·exact Cj (Cn (d := int 70) pok [.val (bool (Hq l fun f => !fitsB f)), .b true] (by kernel_rfl) (.c (@f8 l hl ([])) (.c hc0 .n)) rfl rfl h) (by simp [bq, hc0]) (by rfl)
end Go.Vi
open Go Go.Proofs
namespace Go.Vi
set_option maxRecDepth 100000
set_option maxHeartbeats 4000000
def befB (a b : FactT) : Bool := decide (a.known < b.known) || (a.known == b.known && decide (a.no < b.no))
theorem gS {a b : FactT} (h : List Blk) : (Ev B7 Γ0 135 [ag a.row, ag b.row] h (bool (befB a b)) h) := by
 exact Cj (Cn (d := bool (decide (a.known < b.known) || a.known == b.known && decide (a.no < b.no))) pok [] (by kernel_rfl) .n rfl rfl h) (by rfl) (by rfl)
def kD (f : FactT) : Bool := decide (f.kind ≥ 1) && decide (f.kind ≤ 12) && decide (f.sub ≥ 0) && decide (f.sub ≤ 20000) && decide (f.obj ≥ 0) && decide (f.obj ≤ 20000) && decide (f.value ≥ -1) && decide (f.value ≤ 1099511627776) && decide (f.frm ≥ 0) && decide (f.frm < f.til) && decide (f.til ≤ 1024) && decide (f.known ≥ 1) && decide (f.known ≤ 16777216) && decide (f.no ≥ 0) && decide (f.no ≤ 65535)
theorem pp {f : FactT} (h : List Blk) : (Ev B7 Γ0 134 [ag f.row] h (bool (kD f)) h) := by
 exact Cj (Cn (d := bool (decide (f.kind ≥ 1) && decide (f.kind ≤ 12) && decide (f.sub ≥ 0) && decide (f.sub ≤ 20000) && decide (f.obj ≥ 0) && decide (f.obj ≤ 20000) && decide (f.value ≥ -1) && decide (f.value ≤ 1099511627776) && decide (f.frm ≥ 0) && decide (f.frm < f.til) && decide (f.til ≤ 1024) && decide (f.known ≥ 1) && decide (f.known ≤ 16777216) && decide (f.no ≥ 0) && decide (f.no ≤ 65535))) pok [] (by kernel_rfl) .n rfl rfl h) (by rfl) (by rfl)
abbrev r8X (e : Int) : Unit → Exit × AS := fun _ => (.ret, { t := mkT 34 0 [(2, int e)], h := [], m := [] })
def rcF (f : FactT) (_ : Unit) : Unit ⊕ Unit := if (!kD f) = true then .inr () else .inl ()
abbrev rcS (fs : List (List Dp)) (i : Int) : AS := { t := mkT 34 0 [(0, ab fs), (2, int 0), (3, int i)], h := [], m := [] }
abbrev rcE (fs : List (List Dp)) : AS := { t := mkT 34 0 [(0, ab fs), (2, int 0)], h := [], m := [] }
theorem A9 {fs : List (List Dp)} {i : Nat} {f : FactT} (hr : aH (i : Int) fs f.row 8) (hlt : decide ((i : Int) < (fs.length : Int)) = true) (hw : B8.wrap ((i : Int) + 1) = ((i + 1 : Nat) : Int)) : (CW B7 Γ0 [] false (sub F2 0) (rcS fs i) (ad (fun _ => rcS fs ((i + 1 : Nat) : Int)) (r8X 70) (rcF f ())).1 (ad (fun _ => rcS fs ((i + 1 : Nat) : Int)) (r8X 70) (rcF f ())).2) := by
 cases hc0 : !kD f
 ·exact Ct (Cu (s' := { t := mkT 34 0 [(0, ab fs), (2, int 0), (3, int (Cc B8 ((↑i : Int) + 1)))], h := [], m := [] }) (e := Cq) pok [.st (.mask [0, 2, 3])] [.b true, .row [vi f.kind, vi f.sub, vi f.obj, vi f.value, vi f.frm, vi f.til, vi f.known, vi f.no], .val (bool (kD f)), .b false] (by kernel_rfl) (.c hlt (.c hr (.c (@pp f ([])) (.c hc0 .n))))) (by simp [rcF, ad, *]) (by simp [rcF, ad, *])
 ·exact Ct (Cu (s' := { t := mkT 34 0 [(2, int 70)], h := [], m := [] }) (e := Dv) pok [.st (.mask [2])] [.b true, .row [vi f.kind, vi f.sub, vi f.obj, vi f.value, vi f.frm, vi f.til, vi f.known, vi f.no], .val (bool (kD f)), .b true] (by kernel_rfl) (.c hlt (.c hr (.c (@pp f ([])) (.c hc0 .n))))) (by simp [rcF, ad, *]) (by simp [rcF, ad, *])
theorem Ba {fs : List (List Dp)} {i : Nat} (hlt : decide ((i : Int) < (fs.length : Int)) = false) : (CW B7 Γ0 [] false (sub F2 0) (rcS fs i) (.exit 0) (rcE fs)) := by
 exact Ct (Cu (s' := { t := mkT 34 0 [(0, ab fs), (2, int 0)], h := [], m := [] }) (e := CE 0) pok [.st (.mask [0, 2])] [.b false] (by kernel_rfl) (.c hlt .n)) (by rfl) (by rfl)
def rcR (l : List FactT) : Unit ⊕ Unit := forL rcF l ()
theorem rc_cw {l : List FactT} (hl : am l) :
  CW B7 Γ0 [] false (.loop (sub F2 0)) (rcS (l.map Ch) 0) (bn (.exit 0) (fun _ : Unit => rcE (l.map Ch)) (r8X 70) (rcR l)).1 (bn (.exit 0) (fun _ : Unit => rcE (l.map Ch)) (r8X 70) (rcR l)).2 := by
 refine Eo l rcF (fun i _ => rcS (l.map Ch) (i : Int)) (.exit 0) (fun _ => rcE (l.map Ch)) (r8X 70) (fun _ _ => True) (by simp) (fun _ => by simp []) ?_ ?_ () trivial
 ·intro i f s hf _
  have hi := (Ce.1 hf).1
  exact ⟨fun _ _ => trivial, A9 (rowAt hf rfl) (lt_len _ hi) (wrap_succ hi hl)⟩
 ·intro s _
  exact Ba (bM _ l)
def rnF (p : FactT × FactT) (_ : Unit) : Unit ⊕ Unit := if (!befB p.1 p.2) = true then .inr () else .inl ()
abbrev rnS (fs : List (List Dp)) (i : Int) : AS := { t := mkT 34 0 [(0, ab fs), (2, int 0), (4, int i)], h := [], m := [] }
abbrev rnE : AS := { t := mkT 34 0 [(2, int 0)], h := [], m := [] }
theorem Bb {fs : List (List Dp)} {i : Nat} {a b : FactT} (hr : aH (B8.wrap (((i + 1 : Nat) : Int) - 1)) fs a.row 8) (hr' : aH ((i + 1 : Nat) : Int) fs b.row 8) (hlt : decide (((i + 1 : Nat) : Int) < (fs.length : Int)) = true) (hw : B8.wrap (((i + 1 : Nat) : Int) + 1) = ((i + 1 + 1 : Nat) : Int)) : (CW B7 Γ0 [] false (sub F2 1) (rnS fs ((i + 1 : Nat) : Int)) (ad (fun _ => rnS fs ((i + 1 + 1 : Nat) : Int)) (r8X 71) (rnF (a, b) ())).1 (ad (fun _ => rnS fs ((i + 1 + 1 : Nat) : Int)) (r8X 71) (rnF (a, b) ())).2) := by
 cases hc0 : !befB a b
 ·exact Ct (Cu (s' := { t := mkT 34 0 [(0, ab fs), (2, int 0), (4, int (Cc B8 ((↑(i + 1) : Int) + 1)))], h := [], m := [] }) (e := Cq) pok [.st (.mask [0, 2, 4])] [.b true, .row [vi a.kind, vi a.sub, vi a.obj, vi a.value, vi a.frm, vi a.til, vi a.known, vi a.no], .row [vi b.kind, vi b.sub, vi b.obj, vi b.value, vi b.frm, vi b.til, vi b.known, vi b.no], .val (bool (befB a b)), .b false] (by kernel_rfl) (.c hlt (.c hr (.c hr' (.c (@gS a b ([])) (.c hc0 .n)))))) (by (have hw2 : B8.wrap ((i : Int) + 1 + 1) = (i : Int) + 1 + 1 := by simpa using hw); simp [rnF, ad, *]) (by (have hw2 : B8.wrap ((i : Int) + 1 + 1) = (i : Int) + 1 + 1 := by simpa using hw); simp [rnF, ad, *])
 ·exact Ct (Cu (s' := { t := mkT 34 0 [(2, int 71)], h := [], m := [] }) (e := Dv) pok [.st (.mask [2])] [.b true, .row [vi a.kind, vi a.sub, vi a.obj, vi a.value, vi a.frm, vi a.til, vi a.known, vi a.no], .row [vi b.kind, vi b.sub, vi b.obj, vi b.value, vi b.frm, vi b.til, vi b.known, vi b.no], .val (bool (befB a b)), .b true] (by kernel_rfl) (.c hlt (.c hr (.c hr' (.c (@gS a b ([])) (.c hc0 .n)))))) (by (have hw2 : B8.wrap ((i : Int) + 1 + 1) = (i : Int) + 1 + 1 := by simpa using hw); simp [rnF, ad, *]) (by (have hw2 : B8.wrap ((i : Int) + 1 + 1) = (i : Int) + 1 + 1 := by simpa using hw); simp [rnF, ad, *])
theorem Bc {fs : List (List Dp)} {i : Nat} (hlt : decide (((i + 1 : Nat) : Int) < (fs.length : Int)) = false) : (CW B7 Γ0 [] false (sub F2 1) (rnS fs ((i + 1 : Nat) : Int)) (.exit 2) rnE) := by
 exact Ct (Cu (s' := { t := mkT 34 0 [(2, int 0)], h := [], m := [] }) (e := CE 2) pok [.st (.mask [2])] [.b false] (by kernel_rfl) (.c hlt .n)) (by rfl) (by rfl)
def rnR (l : List FactT) : Unit ⊕ Unit := forL rnF (nbs l) ()
theorem rn_cw {l : List FactT} (hl : am l) :
  CW B7 Γ0 [] false (.loop (sub F2 1)) (rnS (l.map Ch) 1) (bn (.exit 2) (fun _ : Unit => rnE) (r8X 71) (rnR l)).1 (bn (.exit 2) (fun _ : Unit => rnE) (r8X 71) (rnR l)).2 := by
 have hlen : (nbs l).length = l.length - 1 := by simp [nbs]
 refine Eo (nbs l) rnF (fun i _ => rnS (l.map Ch) ((i + 1 : Nat) : Int)) (.exit 2) (fun _ => rnE) (r8X 71) (fun _ _ => True) (by simp) (fun _ => by simp []) ?_ ?_ () trivial
 ·intro i p u hp _
  obtain ⟨hi, he⟩ := Ce.1 hp
  have hi2 : i + 1 < l.length := by omega
  have h1 : l[i]? = some p.1 := by
   subst he; simp [nbs, Cv (show i < l.length by omega)]
  have h2 : l[i + 1]? = some p.2 := by
   subst he; simp [nbs, Cv hi2]
  refine ⟨fun _ _ => trivial, Bb (a := p.1) (b := p.2) ?_ (rowAt h2 rfl) (lt_len _ hi2) (wrap_succ hi2 hl)⟩
  have : B8.wrap (((i + 1 : Nat) : Int) - 1) = (i : Int) := by
   unfold am at hl
   rw [wrap_i64 (by omega) (by omega)]; omega
  rw [this]; exact rowAt h1 rfl
 ·intro u _
  exact Bc (by simp; omega)
def iJ (l : List FactT) : Int := match rcR l with | .inr _ => 70 | .inl _ => match rnR l with | .inr _ => 71 | .inl _ => 0
theorem vY {l : List FactT} (hl : am l) (h : List Blk) : (Ev B7 Γ0 78 [ab (l.map Ch)] h (int (iJ l)) h) := by
 have hl0 := (@rc_cw (l) (hl))
 revert hl0
 cases ho1 : rcR l with
 | inl o1_0_0 =>
  intro hl0
  have hl2 := (@rn_cw (l) (hl))
  revert hl2
  cases ho3 : rnR l with
  | inl o3_0_0 =>
   intro hl2
   exact Cj (Cn (d := int 0) pok [.sum [0, 2, 3] (CE 0) { t := mkT 34 0 [(0, ab (B6 Ch l)), (2, int 0)], h := [], m := [] }, .sum [0, 2, 4] (CE 2) { t := mkT 34 0 [(2, int 0)], h := [], m := [] }] (by kernel_rfl) (.c hl0 (.c hl2 .n)) rfl rfl h) (by simp [iJ, ho1, ho3]) (by rfl)
  | inr o3_1_0 =>
   intro hl2
   exact Cj (Cn (d := int 71) pok [.sum [0, 2, 3] (CE 0) { t := mkT 34 0 [(0, ab (B6 Ch l)), (2, int 0)], h := [], m := [] }, .sum [0, 2, 4] (Dv) { t := mkT 34 0 [(2, int 71)], h := [], m := [] }] (by kernel_rfl) (.c hl0 (.c hl2 .n)) rfl rfl h) (by simp [iJ, ho1, ho3]) (by rfl)
 | inr o1_1_0 =>
  intro hl0
  exact Cj (Cn (d := int 70) pok [.sum [0, 2, 3] (Dv) { t := mkT 34 0 [(2, int 70)], h := [], m := [] }] (by kernel_rfl) (.c hl0 .n) rfl rfl h) (by simp [iJ, ho1]) (by rfl)
end Go.Vi
open Go Go.Proofs
namespace Go.Vi
set_option maxRecDepth 100000
set_option maxHeartbeats 4000000
def fK (kk ks ko term known : Int) (f : FactT) : Bool := keyIs kk ks ko f && decide (f.frm ≤ term) && decide (term < f.til) && decide (f.known ≤ known)
abbrev a7S (kk ks ko term known : Int) (fs : List (List Dp)) (best i : Int) : AS := { t := mkT 76 0 [(0, ab fs), (2, int term), (3, int known), (5, .ref (.ptr 0 0)), (8, int 0), (9, bool false), (10, int best), (11, int i)], h := [.var [int kk, int ks, int ko]], m := [] }
theorem a7_b0 {kk ks ko term known : Int} {fs : List (List Dp)} {i : Nat} {f : FactT} (hr : aH (i : Int) fs f.row 8) (hlt : decide ((i : Int) < (fs.length : Int)) = true) (hw : B8.wrap ((i : Int) + 1) = ((i + 1 : Nat) : Int)) : (CW B7 Γ0 [] false (sub Gd 0) (a7S kk ks ko term known fs (-1) i) .normal (a7S kk ks ko term known fs (bif fK kk ks ko term known f then (i : Int) else -1) ((i + 1 : Nat) : Int))) := by
 cases hc0 : f.kind == kk && (f.sub == ks && (f.obj == ko && true))
 ·let v0 := D.p (Hr (Dd { toList := [] }))
  refine Ct (Cu (s' := { t := mkT 76 0 [(0, ab fs), (2, int term), (3, int known), (5, .ref (.ptr 0 0)), (8, int 0), (9, bool false), (10, int (-1)), (11, int (Cc B8 ((↑i : Int) + 1)))], h := [.var [int kk, int ks, int ko]], m := [] }) (e := Cq) pok [.st (.mask [0, 2, 3, 5, 8, 9, 10, 11]), .st (.trim 1)] [.b true, .row [vi f.kind, vi f.sub, vi f.obj, vi f.value, vi f.frm, vi f.til, vi f.known, vi f.no], .g false, .g false, .g false, .g false, .g false, .ov 33 (bool false), .g false, .g false, .g false, .g false, .g false, .ov 40 (bool false), .g false, .g false, .g false, .g false, .ov 46 (bool false), .g false, .g false, .g false, .g false, .g false, .g false, .g false, .g false, .g false, .g false, .g false, .ov 59 (bool false), .b false] (by kernel_rfl) (.c hlt (.c hr (.c (show ((f.kind == kk && (f.sub == ks && (f.obj == ko && true))) == true) = false from (by subst v0; rw [hc0]; rfl)) (.c (show ((f.kind == kk && (f.sub == ks && (f.obj == ko && true))) == true) = false from (by subst v0; rw [hc0]; rfl)) (.c (show ((f.kind == kk && (f.sub == ks && (f.obj == ko && true))) == true) = false from (by subst v0; rw [hc0]; rfl)) (.c (show ((f.kind == kk && (f.sub == ks && (f.obj == ko && true))) == true) = false from (by subst v0; rw [hc0]; rfl)) (.c (show ((f.kind == kk && (f.sub == ks && (f.obj == ko && true))) == true) = false from (by subst v0; rw [hc0]; rfl)) (.c (show ae (bool (f.kind == kk && (f.sub == ks && (f.obj == ko && true)))) v0 (bool false) (bool false) from (ai hc0 rfl)) (.c (show (false == true) = false from rfl) (.c (show (false == true) = false from rfl) (.c (show (false == true) = false from rfl) (.c (show (false == true) = false from rfl) (.c (show (false == true) = false from rfl) (.c (show ae (bool false) v0 (bool false) (bool false) from (ai rfl rfl)) (.c (show (false == true) = false from rfl) (.c (show (false == true) = false from rfl) (.c (show (false == true) = false from rfl) (.c (show (false == true) = false from rfl) (.c (show ae (bool false) v0 (bool false) (bool false) from (ai rfl rfl)) (.c (show (false == true) = false from rfl) (.c (show (false == true) = false from rfl) (.c (show (false == true) = false from rfl) (.c (show false = false from rfl) (.c (show false = false from rfl) (.c (show false = false from rfl) (.c (show false = false from rfl) (.c (show false = false from rfl) (.c (show false = false from rfl) (.c (show false = false from rfl) (.c (show (false == true) = false from rfl) (.c (show ae (bool false) v0 (bool false) (bool false) from (ai rfl rfl)) (.c (show false = false from rfl) .n))))))))))))))))))))))))))))))))) ?_ ?_ <;> subst v0 <;> (first | rfl | (have hk : keyIs kk ks ko f = _ := hc0; simp only [fK, hk, hw, Cs, cond_false]; done) | (have hk : keyIs kk ks ko f = _ := hc0; simp only [fK, hk, hw, hc0, Cw, Cs, CN, C3, CO, cond_true, cond_false]; rfl))
 ·cases hc1 : decide (f.frm ≤ term)
  ·let v0 := D.p (Hr (Dd { toList := [] }))
   refine Ct (Cu (s' := { t := mkT 76 0 [(0, ab fs), (2, int term), (3, int known), (5, .ref (.ptr 0 0)), (8, int 0), (9, bool false), (10, int (-1)), (11, int (Cc B8 ((↑i : Int) + 1)))], h := [.var [int kk, int ks, int ko]], m := [] }) (e := Cq) pok [.st (.mask [0, 2, 3, 5, 8, 9, 10, 11]), .st (.trim 1)] [.b true, .row [vi f.kind, vi f.sub, vi f.obj, vi f.value, vi f.frm, vi f.til, vi f.known, vi f.no], .g true, .g true, .g true, .g true, .g true, .ov 33 (bool (decide (f.frm ≤ term))), .g false, .g false, .g false, .g false, .g false, .ov 40 (bool false), .g false, .g false, .g false, .g false, .ov 46 (bool false), .g false, .g false, .g false, .g false, .g false, .g false, .g false, .g false, .g false, .g false, .g false, .ov 59 (bool false), .b false] (by kernel_rfl) (.c hlt (.c hr (.c (show ((f.kind == kk && (f.sub == ks && (f.obj == ko && true))) == true) = true from (by subst v0; rw [hc0]; rfl)) (.c (show ((f.kind == kk && (f.sub == ks && (f.obj == ko && true))) == true) = true from (by subst v0; rw [hc0]; rfl)) (.c (show ((f.kind == kk && (f.sub == ks && (f.obj == ko && true))) == true) = true from (by subst v0; rw [hc0]; rfl)) (.c (show ((f.kind == kk && (f.sub == ks && (f.obj == ko && true))) == true) = true from (by subst v0; rw [hc0]; rfl)) (.c (show ((f.kind == kk && (f.sub == ks && (f.obj == ko && true))) == true) = true from (by subst v0; rw [hc0]; rfl)) (.c (show ae (bool (f.kind == kk && (f.sub == ks && (f.obj == ko && true)))) (bool (decide (f.frm ≤ term))) (bool false) (bool (decide (f.frm ≤ term))) from (af hc0 rfl)) (.c (show (decide (f.frm ≤ term) == true) = false from (by subst v0; rw [hc1]; rfl)) (.c (show (decide (f.frm ≤ term) == true) = false from (by subst v0; rw [hc1]; rfl)) (.c (show (decide (f.frm ≤ term) == true) = false from (by subst v0; rw [hc1]; rfl)) (.c (show (decide (f.frm ≤ term) == true) = false from (by subst v0; rw [hc1]; rfl)) (.c (show (decide (f.frm ≤ term) == true) = false from (by subst v0; rw [hc1]; rfl)) (.c (show ae (bool (decide (f.frm ≤ term))) v0 (bool false) (bool false) from (ai hc1 rfl)) (.c (show (false == true) = false from rfl) (.c (show (false == true) = false from rfl) (.c (show (false == true) = false from rfl) (.c (show (false == true) = false from rfl) (.c (show ae (bool false) v0 (bool false) (bool false) from (ai rfl rfl)) (.c (show (false == true) = false from rfl) (.c (show (false == true) = false from rfl) (.c (show (false == true) = false from rfl) (.c (show false = false from rfl) (.c (show false = false from rfl) (.c (show false = false from rfl) (.c (show false = false from rfl) (.c (show false = false from rfl) (.c (show false = false from rfl) (.c (show false = false from rfl) (.c (show (false == true) = false from rfl) (.c (show ae (bool false) v0 (bool false) (bool false) from (ai rfl rfl)) (.c (show false = false from rfl) .n))))))))))))))))))))))))))))))))) ?_ ?_ <;> subst v0 <;> (first | rfl | (have hk : keyIs kk ks ko f = _ := hc0; simp only [fK, hk, hw, hc1, Cw, Cs, cond_false]; done) | (have hk : keyIs kk ks ko f = _ := hc0; simp only [fK, hk, hw, hc0, hc1, Cw, Cs, CN, C3, CO, cond_true, cond_false]; rfl))
  ·cases hc2 : decide (term < f.til)
   ·refine Ct (Cu (s' := { t := mkT 76 0 [(0, ab fs), (2, int term), (3, int known), (5, .ref (.ptr 0 0)), (8, int 0), (9, bool false), (10, int (-1)), (11, int (Cc B8 ((↑i : Int) + 1)))], h := [.var [int kk, int ks, int ko]], m := [] }) (e := Cq) pok [.st (.mask [0, 2, 3, 5, 8, 9, 10, 11]), .st (.trim 1)] [.b true, .row [vi f.kind, vi f.sub, vi f.obj, vi f.value, vi f.frm, vi f.til, vi f.known, vi f.no], .g true, .g true, .g true, .g true, .g true, .ov 33 (bool (decide (f.frm ≤ term))), .g true, .g true, .g true, .g true, .g true, .ov 40 (bool (decide (term < f.til))), .g false, .g false, .g false, .g false, .ov 46 (bool false), .g false, .g false, .g false, .g false, .g false, .g false, .g false, .g false, .g false, .g false, .g false, .ov 59 (bool false), .b false] (by kernel_rfl) (.c hlt (.c hr (.c (show ((f.kind == kk && (f.sub == ks && (f.obj == ko && true))) == true) = true from (by rw [hc0]; rfl)) (.c (show ((f.kind == kk && (f.sub == ks && (f.obj == ko && true))) == true) = true from (by rw [hc0]; rfl)) (.c (show ((f.kind == kk && (f.sub == ks && (f.obj == ko && true))) == true) = true from (by rw [hc0]; rfl)) (.c (show ((f.kind == kk && (f.sub == ks && (f.obj == ko && true))) == true) = true from (by rw [hc0]; rfl)) (.c (show ((f.kind == kk && (f.sub == ks && (f.obj == ko && true))) == true) = true from (by rw [hc0]; rfl)) (.c (show ae (bool (f.kind == kk && (f.sub == ks && (f.obj == ko && true)))) (bool (decide (f.frm ≤ term))) (bool false) (bool (decide (f.frm ≤ term))) from (af hc0 rfl)) (.c (show (decide (f.frm ≤ term) == true) = true from (by rw [hc1]; rfl)) (.c (show (decide (f.frm ≤ term) == true) = true from (by rw [hc1]; rfl)) (.c (show (decide (f.frm ≤ term) == true) = true from (by rw [hc1]; rfl)) (.c (show (decide (f.frm ≤ term) == true) = true from (by rw [hc1]; rfl)) (.c (show (decide (f.frm ≤ term) == true) = true from (by rw [hc1]; rfl)) (.c (show ae (bool (decide (f.frm ≤ term))) (bool (decide (term < f.til))) (bool false) (bool (decide (term < f.til))) from (af hc1 rfl)) (.c (show (decide (term < f.til) == true) = false from (by rw [hc2]; rfl)) (.c (show (decide (term < f.til) == true) = false from (by rw [hc2]; rfl)) (.c (show (decide (term < f.til) == true) = false from (by rw [hc2]; rfl)) (.c (show (decide (term < f.til) == true) = false from (by rw [hc2]; rfl)) (.c (show ae (bool (decide (term < f.til))) (D.p (Hr (Dd { toList := [] }))) (bool false) (bool false) from (ai hc2 rfl)) (.c (show (false == true) = false from rfl) (.c (show (false == true) = false from rfl) (.c (show (false == true) = false from rfl) (.c (show false = false from rfl) (.c (show false = false from rfl) (.c (show false = false from rfl) (.c (show false = false from rfl) (.c (show false = false from rfl) (.c (show false = false from rfl) (.c (show false = false from rfl) (.c (show (false == true) = false from rfl) (.c (show ae (bool false) (D.p (Hr (Dd { toList := [] }))) (bool false) (bool false) from (ai rfl rfl)) (.c (show false = false from rfl) .n))))))))))))))))))))))))))))))))) ?_ ?_ <;> (first | rfl | (have hk : keyIs kk ks ko f = _ := hc0; simp only [fK, hk, hw, hc1, hc2, Cw, Cs, CO, cond_false]; done) | (have hk : keyIs kk ks ko f = _ := hc0; simp only [fK, hk, hw, hc0, hc1, hc2, Cw, Cs, CN, C3, CO, cond_true, cond_false]; rfl))
   ·cases hc3 : decide (f.known ≤ known)
    ·refine Ct (Cu (s' := { t := mkT 76 0 [(0, ab fs), (2, int term), (3, int known), (5, .ref (.ptr 0 0)), (8, int 0), (9, bool false), (10, int (-1)), (11, int (Cc B8 ((↑i : Int) + 1)))], h := [.var [int kk, int ks, int ko]], m := [] }) (e := Cq) pok [.st (.mask [0, 2, 3, 5, 8, 9, 10, 11]), .st (.trim 1)] [.b true, .row [vi f.kind, vi f.sub, vi f.obj, vi f.value, vi f.frm, vi f.til, vi f.known, vi f.no], .g true, .g true, .g true, .g true, .g true, .ov 33 (bool (decide (f.frm ≤ term))), .g true, .g true, .g true, .g true, .g true, .ov 40 (bool (decide (term < f.til))), .g true, .g true, .g true, .g true, .ov 46 (bool (decide (f.known ≤ known))), .g false, .g false, .g false, .g false, .g false, .g false, .g false, .g false, .g false, .g false, .g false, .ov 59 (bool false), .b false] (by kernel_rfl) (.c hlt (.c hr (.c (show ((f.kind == kk && (f.sub == ks && (f.obj == ko && true))) == true) = true from (by rw [hc0]; rfl)) (.c (show ((f.kind == kk && (f.sub == ks && (f.obj == ko && true))) == true) = true from (by rw [hc0]; rfl)) (.c (show ((f.kind == kk && (f.sub == ks && (f.obj == ko && true))) == true) = true from (by rw [hc0]; rfl)) (.c (show ((f.kind == kk && (f.sub == ks && (f.obj == ko && true))) == true) = true from (by rw [hc0]; rfl)) (.c (show ((f.kind == kk && (f.sub == ks && (f.obj == ko && true))) == true) = true from (by rw [hc0]; rfl)) (.c (show ae (bool (f.kind == kk && (f.sub == ks && (f.obj == ko && true)))) (bool (decide (f.frm ≤ term))) (bool false) (bool (decide (f.frm ≤ term))) from (af hc0 rfl)) (.c (show (decide (f.frm ≤ term) == true) = true from (by rw [hc1]; rfl)) (.c (show (decide (f.frm ≤ term) == true) = true from (by rw [hc1]; rfl)) (.c (show (decide (f.frm ≤ term) == true) = true from (by rw [hc1]; rfl)) (.c (show (decide (f.frm ≤ term) == true) = true from (by rw [hc1]; rfl)) (.c (show (decide (f.frm ≤ term) == true) = true from (by rw [hc1]; rfl)) (.c (show ae (bool (decide (f.frm ≤ term))) (bool (decide (term < f.til))) (bool false) (bool (decide (term < f.til))) from (af hc1 rfl)) (.c (show (decide (term < f.til) == true) = true from (by rw [hc2]; rfl)) (.c (show (decide (term < f.til) == true) = true from (by rw [hc2]; rfl)) (.c (show (decide (term < f.til) == true) = true from (by rw [hc2]; rfl)) (.c (show (decide (term < f.til) == true) = true from (by rw [hc2]; rfl)) (.c (show ae (bool (decide (term < f.til))) (bool (decide (f.known ≤ known))) (bool false) (bool (decide (f.known ≤ known))) from (af hc2 rfl)) (.c (show (decide (f.known ≤ known) == true) = false from (by rw [hc3]; rfl)) (.c (show (decide (f.known ≤ known) == true) = false from (by rw [hc3]; rfl)) (.c (show (decide (f.known ≤ known) == true) = false from (by rw [hc3]; rfl)) (.c (show false = false from rfl) (.c (show false = false from rfl) (.c (show false = false from rfl) (.c (show false = false from rfl) (.c (show false = false from rfl) (.c (show false = false from rfl) (.c (show false = false from rfl) (.c (show (decide (f.known ≤ known) == true) = false from (by rw [hc3]; rfl)) (.c (show ae (bool (decide (f.known ≤ known))) (D.p (Hr (Dd { toList := [] }))) (bool false) (bool false) from (ai hc3 rfl)) (.c (show false = false from rfl) .n))))))))))))))))))))))))))))))))) ?_ ?_ <;> (first | rfl | (have hk : keyIs kk ks ko f = _ := hc0; simp only [fK, hk, hw, hc1, hc2, hc3, Cw, CO, cond_false]; done) | (have hk : keyIs kk ks ko f = _ := hc0; simp only [fK, hk, hw, hc0, hc1, hc2, hc3, Cw, Cs, CN, C3, CO, cond_true, cond_false]; rfl))
    ·refine Ct (Cu (s' := { t := mkT 76 0 [(0, ab fs), (2, int term), (3, int known), (5, .ref (.ptr 0 0)), (8, int 0), (9, bool false), (10, int (↑i : Int)), (11, int (Cc B8 ((↑i : Int) + 1)))], h := [.var [int kk, int ks, int ko]], m := [] }) (e := Cq) pok [.st (.mask [0, 2, 3, 5, 8, 9, 10, 11]), .st (.trim 1)] [.b true, .row [vi f.kind, vi f.sub, vi f.obj, vi f.value, vi f.frm, vi f.til, vi f.known, vi f.no], .g true, .g true, .g true, .g true, .g true, .ov 33 (bool (decide (f.frm ≤ term))), .g true, .g true, .g true, .g true, .g true, .ov 40 (bool (decide (term < f.til))), .g true, .g true, .g true, .g true, .ov 46 (bool (decide (f.known ≤ known))), .g true, .g true, .g true, .g false, .g false, .g false, .g false, .g false, .g false, .g false, .g true, .ov 58 (bool true), .ov 59 (bool true), .b true] (by kernel_rfl) (.c hlt (.c hr (.c (show ((f.kind == kk && (f.sub == ks && (f.obj == ko && true))) == true) = true from (by rw [hc0]; rfl)) (.c (show ((f.kind == kk && (f.sub == ks && (f.obj == ko && true))) == true) = true from (by rw [hc0]; rfl)) (.c (show ((f.kind == kk && (f.sub == ks && (f.obj == ko && true))) == true) = true from (by rw [hc0]; rfl)) (.c (show ((f.kind == kk && (f.sub == ks && (f.obj == ko && true))) == true) = true from (by rw [hc0]; rfl)) (.c (show ((f.kind == kk && (f.sub == ks && (f.obj == ko && true))) == true) = true from (by rw [hc0]; rfl)) (.c (show ae (bool (f.kind == kk && (f.sub == ks && (f.obj == ko && true)))) (bool (decide (f.frm ≤ term))) (bool false) (bool (decide (f.frm ≤ term))) from (af hc0 rfl)) (.c (show (decide (f.frm ≤ term) == true) = true from (by rw [hc1]; rfl)) (.c (show (decide (f.frm ≤ term) == true) = true from (by rw [hc1]; rfl)) (.c (show (decide (f.frm ≤ term) == true) = true from (by rw [hc1]; rfl)) (.c (show (decide (f.frm ≤ term) == true) = true from (by rw [hc1]; rfl)) (.c (show (decide (f.frm ≤ term) == true) = true from (by rw [hc1]; rfl)) (.c (show ae (bool (decide (f.frm ≤ term))) (bool (decide (term < f.til))) (bool false) (bool (decide (term < f.til))) from (af hc1 rfl)) (.c (show (decide (term < f.til) == true) = true from (by rw [hc2]; rfl)) (.c (show (decide (term < f.til) == true) = true from (by rw [hc2]; rfl)) (.c (show (decide (term < f.til) == true) = true from (by rw [hc2]; rfl)) (.c (show (decide (term < f.til) == true) = true from (by rw [hc2]; rfl)) (.c (show ae (bool (decide (term < f.til))) (bool (decide (f.known ≤ known))) (bool false) (bool (decide (f.known ≤ known))) from (af hc2 rfl)) (.c (show (decide (f.known ≤ known) == true) = true from (by rw [hc3]; rfl)) (.c (show (decide (f.known ≤ known) == true) = true from (by rw [hc3]; rfl)) (.c (show (decide (f.known ≤ known) == true) = true from (by rw [hc3]; rfl)) (.c (show (decide (-1 < 0) == false) = false from rfl) (.c (show (decide (-1 < 0) == false) = false from rfl) (.c (show (decide (-1 < 0) == false) = false from rfl) (.c (show (decide (-1 < 0) == false) = false from rfl) (.c (show (decide (-1 < 0) == false) = false from rfl) (.c (show (decide (-1 < 0) == false) = false from rfl) (.c (show (decide (-1 < 0) == false) = false from rfl) (.c (show (decide (f.known ≤ known) == true) = true from (by rw [hc3]; rfl)) (.c (show ae (bool (decide (-1 < 0))) (bool true) (D.p (Hr (Dd { toList := [] }))) (bool true) from (by first | assumption | rfl | decide | omega | simp_all)) (.c (show ae (bool (decide (f.known ≤ known))) (bool true) (bool false) (bool true) from (af hc3 rfl)) (.c (show true = true from rfl) .n)))))))))))))))))))))))))))))))))) ?_ ?_ <;> (first | rfl | (have hk : keyIs kk ks ko f = _ := hc0; simp only [fK, hk, hw, hc1, hc2, hc3, CO, cond_true]; done) | (have hk : keyIs kk ks ko f = _ := hc0; simp only [fK, hk, hw, hc0, hc1, hc2, hc3, Cw, Cs, CN, C3, CO, cond_true, cond_false]; rfl))
noncomputable abbrev sH (kk : Int) (ks : Int) (ko : Int) (f : FactT) : List Blk := [.var [int kk, int ks, int ko], .var [int f.kind, int f.sub, int f.obj, int f.value, int f.frm, int f.til, int f.known, int f.no]]
theorem a7_b1 {kk ks ko term known : Int} {fs : List (List Dp)} {i j : Nat} {f g : FactT} (hr : aH (i : Int) fs f.row 8) (hg : aH (j : Int) fs g.row 8) (hj : decide ((j : Int) < 0) = false) (hlt : decide ((i : Int) < (fs.length : Int)) = true) (hw : B8.wrap ((i : Int) + 1) = ((i + 1 : Nat) : Int)) : (CW B7 Γ0 [] false (sub Gd 0) (a7S kk ks ko term known fs (j : Int) i) .normal (a7S kk ks ko term known fs (bif fK kk ks ko term known f && !befB f g then (i : Int) else (j : Int)) ((i + 1 : Nat) : Int))) := by
 cases hc0 : f.kind == kk && (f.sub == ks && (f.obj == ko && true))
 ·let v0 := D.p (Hr (Dd { toList := [] }))
  refine Ct (Cu (s' := { t := mkT 76 0 [(0, ab fs), (2, int term), (3, int known), (5, .ref (.ptr 0 0)), (8, int 0), (9, bool false), (10, int (↑j : Int)), (11, int (Cc B8 ((↑i : Int) + 1)))], h := [.var [int kk, int ks, int ko]], m := [] }) (e := Cq) pok [.st (.mask [0, 2, 3, 5, 8, 9, 10, 11]), .st (.trim 1)] [.b true, .row [vi f.kind, vi f.sub, vi f.obj, vi f.value, vi f.frm, vi f.til, vi f.known, vi f.no], .g false, .g false, .g false, .g false, .g false, .ov 33 (bool false), .g false, .g false, .g false, .g false, .g false, .ov 40 (bool false), .g false, .g false, .g false, .g false, .ov 46 (bool false), .g false, .g false, .g false, .g false, .g false, .g false, .g false, .g false, .g false, .g false, .g false, .ov 59 (bool false), .b false] (by kernel_rfl) (.c hlt (.c hr (.c (show ((f.kind == kk && (f.sub == ks && (f.obj == ko && true))) == true) = false from (by subst v0; rw [hc0]; rfl)) (.c (show ((f.kind == kk && (f.sub == ks && (f.obj == ko && true))) == true) = false from (by subst v0; rw [hc0]; rfl)) (.c (show ((f.kind == kk && (f.sub == ks && (f.obj == ko && true))) == true) = false from (by subst v0; rw [hc0]; rfl)) (.c (show ((f.kind == kk && (f.sub == ks && (f.obj == ko && true))) == true) = false from (by subst v0; rw [hc0]; rfl)) (.c (show ((f.kind == kk && (f.sub == ks && (f.obj == ko && true))) == true) = false from (by subst v0; rw [hc0]; rfl)) (.c (show ae (bool (f.kind == kk && (f.sub == ks && (f.obj == ko && true)))) v0 (bool false) (bool false) from (ai hc0 rfl)) (.c (show (false == true) = false from rfl) (.c (show (false == true) = false from rfl) (.c (show (false == true) = false from rfl) (.c (show (false == true) = false from rfl) (.c (show (false == true) = false from rfl) (.c (show ae (bool false) v0 (bool false) (bool false) from (ai rfl rfl)) (.c (show (false == true) = false from rfl) (.c (show (false == true) = false from rfl) (.c (show (false == true) = false from rfl) (.c (show (false == true) = false from rfl) (.c (show ae (bool false) v0 (bool false) (bool false) from (ai rfl rfl)) (.c (show (false == true) = false from rfl) (.c (show (false == true) = false from rfl) (.c (show (false == true) = false from rfl) (.c (show false = false from rfl) (.c (show false = false from rfl) (.c (show false = false from rfl) (.c (show false = false from rfl) (.c (show false = false from rfl) (.c (show false = false from rfl) (.c (show false = false from rfl) (.c (show (false == true) = false from rfl) (.c (show ae (bool false) v0 (bool false) (bool false) from (ai rfl rfl)) (.c (show false = false from rfl) .n))))))))))))))))))))))))))))))))) ?_ ?_ <;> subst v0 <;> (first | rfl | (have hk : keyIs kk ks ko f = _ := hc0; simp only [fK, hk, hw, Cs, cond_false]; done) | (have hk : keyIs kk ks ko f = _ := hc0; simp only [fK, hk, hw, hc0, Cw, Cs, CN, C3, CO, cond_true, cond_false]; rfl))
 ·cases hc1 : decide (f.frm ≤ term)
  ·let v0 := D.p (Hr (Dd { toList := [] }))
   refine Ct (Cu (s' := { t := mkT 76 0 [(0, ab fs), (2, int term), (3, int known), (5, .ref (.ptr 0 0)), (8, int 0), (9, bool false), (10, int (↑j : Int)), (11, int (Cc B8 ((↑i : Int) + 1)))], h := [.var [int kk, int ks, int ko]], m := [] }) (e := Cq) pok [.st (.mask [0, 2, 3, 5, 8, 9, 10, 11]), .st (.trim 1)] [.b true, .row [vi f.kind, vi f.sub, vi f.obj, vi f.value, vi f.frm, vi f.til, vi f.known, vi f.no], .g true, .g true, .g true, .g true, .g true, .ov 33 (bool (decide (f.frm ≤ term))), .g false, .g false, .g false, .g false, .g false, .ov 40 (bool false), .g false, .g false, .g false, .g false, .ov 46 (bool false), .g false, .g false, .g false, .g false, .g false, .g false, .g false, .g false, .g false, .g false, .g false, .ov 59 (bool false), .b false] (by kernel_rfl) (.c hlt (.c hr (.c (show ((f.kind == kk && (f.sub == ks && (f.obj == ko && true))) == true) = true from (by subst v0; rw [hc0]; rfl)) (.c (show ((f.kind == kk && (f.sub == ks && (f.obj == ko && true))) == true) = true from (by subst v0; rw [hc0]; rfl)) (.c (show ((f.kind == kk && (f.sub == ks && (f.obj == ko && true))) == true) = true from (by subst v0; rw [hc0]; rfl)) (.c (show ((f.kind == kk && (f.sub == ks && (f.obj == ko && true))) == true) = true from (by subst v0; rw [hc0]; rfl)) (.c (show ((f.kind == kk && (f.sub == ks && (f.obj == ko && true))) == true) = true from (by subst v0; rw [hc0]; rfl)) (.c (show ae (bool (f.kind == kk && (f.sub == ks && (f.obj == ko && true)))) (bool (decide (f.frm ≤ term))) (bool false) (bool (decide (f.frm ≤ term))) from (af hc0 rfl)) (.c (show (decide (f.frm ≤ term) == true) = false from (by subst v0; rw [hc1]; rfl)) (.c (show (decide (f.frm ≤ term) == true) = false from (by subst v0; rw [hc1]; rfl)) (.c (show (decide (f.frm ≤ term) == true) = false from (by subst v0; rw [hc1]; rfl)) (.c (show (decide (f.frm ≤ term) == true) = false from (by subst v0; rw [hc1]; rfl)) (.c (show (decide (f.frm ≤ term) == true) = false from (by subst v0; rw [hc1]; rfl)) (.c (show ae (bool (decide (f.frm ≤ term))) v0 (bool false) (bool false) from (ai hc1 rfl)) (.c (show (false == true) = false from rfl) (.c (show (false == true) = false from rfl) (.c (show (false == true) = false from rfl) (.c (show (false == true) = false from rfl) (.c (show ae (bool false) v0 (bool false) (bool false) from (ai rfl rfl)) (.c (show (false == true) = false from rfl) (.c (show (false == true) = false from rfl) (.c (show (false == true) = false from rfl) (.c (show false = false from rfl) (.c (show false = false from rfl) (.c (show false = false from rfl) (.c (show false = false from rfl) (.c (show false = false from rfl) (.c (show false = false from rfl) (.c (show false = false from rfl) (.c (show (false == true) = false from rfl) (.c (show ae (bool false) v0 (bool false) (bool false) from (ai rfl rfl)) (.c (show false = false from rfl) .n))))))))))))))))))))))))))))))))) ?_ ?_ <;> subst v0 <;> (first | rfl | (have hk : keyIs kk ks ko f = _ := hc0; simp only [fK, hk, hw, hc1, Cw, Cs, cond_false]; done) | (have hk : keyIs kk ks ko f = _ := hc0; simp only [fK, hk, hw, hc0, hc1, Cw, Cs, CN, C3, CO, cond_true, cond_false]; rfl))
  ·cases hc2 : decide (term < f.til)
   ·refine Ct (Cu (s' := { t := mkT 76 0 [(0, ab fs), (2, int term), (3, int known), (5, .ref (.ptr 0 0)), (8, int 0), (9, bool false), (10, int (↑j : Int)), (11, int (Cc B8 ((↑i : Int) + 1)))], h := [.var [int kk, int ks, int ko]], m := [] }) (e := Cq) pok [.st (.mask [0, 2, 3, 5, 8, 9, 10, 11]), .st (.trim 1)] [.b true, .row [vi f.kind, vi f.sub, vi f.obj, vi f.value, vi f.frm, vi f.til, vi f.known, vi f.no], .g true, .g true, .g true, .g true, .g true, .ov 33 (bool (decide (f.frm ≤ term))), .g true, .g true, .g true, .g true, .g true, .ov 40 (bool (decide (term < f.til))), .g false, .g false, .g false, .g false, .ov 46 (bool false), .g false, .g false, .g false, .g false, .g false, .g false, .g false, .g false, .g false, .g false, .g false, .ov 59 (bool false), .b false] (by kernel_rfl) (.c hlt (.c hr (.c (show ((f.kind == kk && (f.sub == ks && (f.obj == ko && true))) == true) = true from (by rw [hc0]; rfl)) (.c (show ((f.kind == kk && (f.sub == ks && (f.obj == ko && true))) == true) = true from (by rw [hc0]; rfl)) (.c (show ((f.kind == kk && (f.sub == ks && (f.obj == ko && true))) == true) = true from (by rw [hc0]; rfl)) (.c (show ((f.kind == kk && (f.sub == ks && (f.obj == ko && true))) == true) = true from (by rw [hc0]; rfl)) (.c (show ((f.kind == kk && (f.sub == ks && (f.obj == ko && true))) == true) = true from (by rw [hc0]; rfl)) (.c (show ae (bool (f.kind == kk && (f.sub == ks && (f.obj == ko && true)))) (bool (decide (f.frm ≤ term))) (bool false) (bool (decide (f.frm ≤ term))) from (af hc0 rfl)) (.c (show (decide (f.frm ≤ term) == true) = true from (by rw [hc1]; rfl)) (.c (show (decide (f.frm ≤ term) == true) = true from (by rw [hc1]; rfl)) (.c (show (decide (f.frm ≤ term) == true) = true from (by rw [hc1]; rfl)) (.c (show (decide (f.frm ≤ term) == true) = true from (by rw [hc1]; rfl)) (.c (show (decide (f.frm ≤ term) == true) = true from (by rw [hc1]; rfl)) (.c (show ae (bool (decide (f.frm ≤ term))) (bool (decide (term < f.til))) (bool false) (bool (decide (term < f.til))) from (af hc1 rfl)) (.c (show (decide (term < f.til) == true) = false from (by rw [hc2]; rfl)) (.c (show (decide (term < f.til) == true) = false from (by rw [hc2]; rfl)) (.c (show (decide (term < f.til) == true) = false from (by rw [hc2]; rfl)) (.c (show (decide (term < f.til) == true) = false from (by rw [hc2]; rfl)) (.c (show ae (bool (decide (term < f.til))) (D.p (Hr (Dd { toList := [] }))) (bool false) (bool false) from (ai hc2 rfl)) (.c (show (false == true) = false from rfl) (.c (show (false == true) = false from rfl) (.c (show (false == true) = false from rfl) (.c (show false = false from rfl) (.c (show false = false from rfl) (.c (show false = false from rfl) (.c (show false = false from rfl) (.c (show false = false from rfl) (.c (show false = false from rfl) (.c (show false = false from rfl) (.c (show (false == true) = false from rfl) (.c (show ae (bool false) (D.p (Hr (Dd { toList := [] }))) (bool false) (bool false) from (ai rfl rfl)) (.c (show false = false from rfl) .n))))))))))))))))))))))))))))))))) ?_ ?_ <;> (first | rfl | (have hk : keyIs kk ks ko f = _ := hc0; simp only [fK, hk, hw, hc1, hc2, Cw, Cs, CO, cond_false]; done) | (have hk : keyIs kk ks ko f = _ := hc0; simp only [fK, hk, hw, hc0, hc1, hc2, Cw, Cs, CN, C3, CO, cond_true, cond_false]; rfl))
   ·cases hc3 : decide (f.known ≤ known)
    ·refine Ct (Cu (s' := { t := mkT 76 0 [(0, ab fs), (2, int term), (3, int known), (5, .ref (.ptr 0 0)), (8, int 0), (9, bool false), (10, int (↑j : Int)), (11, int (Cc B8 ((↑i : Int) + 1)))], h := [.var [int kk, int ks, int ko]], m := [] }) (e := Cq) pok [.st (.mask [0, 2, 3, 5, 8, 9, 10, 11]), .st (.trim 1)] [.b true, .row [vi f.kind, vi f.sub, vi f.obj, vi f.value, vi f.frm, vi f.til, vi f.known, vi f.no], .g true, .g true, .g true, .g true, .g true, .ov 33 (bool (decide (f.frm ≤ term))), .g true, .g true, .g true, .g true, .g true, .ov 40 (bool (decide (term < f.til))), .g true, .g true, .g true, .g true, .ov 46 (bool (decide (f.known ≤ known))), .g false, .g false, .g false, .g false, .g false, .g false, .g false, .g false, .g false, .g false, .g false, .ov 59 (bool false), .b false] (by kernel_rfl) (.c hlt (.c hr (.c (show ((f.kind == kk && (f.sub == ks && (f.obj == ko && true))) == true) = true from (by rw [hc0]; rfl)) (.c (show ((f.kind == kk && (f.sub == ks && (f.obj == ko && true))) == true) = true from (by rw [hc0]; rfl)) (.c (show ((f.kind == kk && (f.sub == ks && (f.obj == ko && true))) == true) = true from (by rw [hc0]; rfl)) (.c (show ((f.kind == kk && (f.sub == ks && (f.obj == ko && true))) == true) = true from (by rw [hc0]; rfl)) (.c (show ((f.kind == kk && (f.sub == ks && (f.obj == ko && true))) == true) = true from (by rw [hc0]; rfl)) (.c (show ae (bool (f.kind == kk && (f.sub == ks && (f.obj == ko && true)))) (bool (decide (f.frm ≤ term))) (bool false) (bool (decide (f.frm ≤ term))) from (af hc0 rfl)) (.c (show (decide (f.frm ≤ term) == true) = true from (by rw [hc1]; rfl)) (.c (show (decide (f.frm ≤ term) == true) = true from (by rw [hc1]; rfl)) (.c (show (decide (f.frm ≤ term) == true) = true from (by rw [hc1]; rfl)) (.c (show (decide (f.frm ≤ term) == true) = true from (by rw [hc1]; rfl)) (.c (show (decide (f.frm ≤ term) == true) = true from (by rw [hc1]; rfl)) (.c (show ae (bool (decide (f.frm ≤ term))) (bool (decide (term < f.til))) (bool false) (bool (decide (term < f.til))) from (af hc1 rfl)) (.c (show (decide (term < f.til) == true) = true from (by rw [hc2]; rfl)) (.c (show (decide (term < f.til) == true) = true from (by rw [hc2]; rfl)) (.c (show (decide (term < f.til) == true) = true from (by rw [hc2]; rfl)) (.c (show (decide (term < f.til) == true) = true from (by rw [hc2]; rfl)) (.c (show ae (bool (decide (term < f.til))) (bool (decide (f.known ≤ known))) (bool false) (bool (decide (f.known ≤ known))) from (af hc2 rfl)) (.c (show (decide (f.known ≤ known) == true) = false from (by rw [hc3]; rfl)) (.c (show (decide (f.known ≤ known) == true) = false from (by rw [hc3]; rfl)) (.c (show (decide (f.known ≤ known) == true) = false from (by rw [hc3]; rfl)) (.c (show false = false from rfl) (.c (show false = false from rfl) (.c (show false = false from rfl) (.c (show false = false from rfl) (.c (show false = false from rfl) (.c (show false = false from rfl) (.c (show false = false from rfl) (.c (show (decide (f.known ≤ known) == true) = false from (by rw [hc3]; rfl)) (.c (show ae (bool (decide (f.known ≤ known))) (D.p (Hr (Dd { toList := [] }))) (bool false) (bool false) from (ai hc3 rfl)) (.c (show false = false from rfl) .n))))))))))))))))))))))))))))))))) ?_ ?_ <;> (first | rfl | (have hk : keyIs kk ks ko f = _ := hc0; simp only [fK, hk, hw, hc1, hc2, hc3, Cw, Cs, CO, cond_false]; done) | (have hk : keyIs kk ks ko f = _ := hc0; simp only [fK, hk, hw, hc0, hc1, hc2, hc3, Cw, Cs, CN, C3, CO, cond_true, cond_false]; rfl))
    ·cases hc4 : !befB f g
     ·refine Ct (Cu (s' := { t := mkT 76 0 [(0, ab fs), (2, int term), (3, int known), (5, .ref (.ptr 0 0)), (8, int 0), (9, bool false), (10, int (↑j : Int)), (11, int (Cc B8 ((↑i : Int) + 1)))], h := [.var [int kk, int ks, int ko]], m := [] }) (e := Cq) pok [.st (.mask [0, 2, 3, 5, 8, 9, 10, 11]), .st (.trim 1)] [.b true, .row [vi f.kind, vi f.sub, vi f.obj, vi f.value, vi f.frm, vi f.til, vi f.known, vi f.no], .g true, .g true, .g true, .g true, .g true, .ov 33 (bool (decide (f.frm ≤ term))), .g true, .g true, .g true, .g true, .g true, .ov 40 (bool (decide (term < f.til))), .g true, .g true, .g true, .g true, .ov 46 (bool (decide (f.known ≤ known))), .g true, .g true, .g true, .g true, .g true, .g true, .g true, .row [vi g.kind, vi g.sub, vi g.obj, vi g.value, vi g.frm, vi g.til, vi g.known, vi g.no], .g true, .g true, .val (bool (befB f g)), .g true, .g true, .ov 58 (bool !befB f g), .ov 59 (bool !befB f g), .b false] (by kernel_rfl) (.c hlt (.c hr (.c (show ((f.kind == kk && (f.sub == ks && (f.obj == ko && true))) == true) = true from (by rw [hc0]; rfl)) (.c (show ((f.kind == kk && (f.sub == ks && (f.obj == ko && true))) == true) = true from (by rw [hc0]; rfl)) (.c (show ((f.kind == kk && (f.sub == ks && (f.obj == ko && true))) == true) = true from (by rw [hc0]; rfl)) (.c (show ((f.kind == kk && (f.sub == ks && (f.obj == ko && true))) == true) = true from (by rw [hc0]; rfl)) (.c (show ((f.kind == kk && (f.sub == ks && (f.obj == ko && true))) == true) = true from (by rw [hc0]; rfl)) (.c (show ae (bool (f.kind == kk && (f.sub == ks && (f.obj == ko && true)))) (bool (decide (f.frm ≤ term))) (bool false) (bool (decide (f.frm ≤ term))) from (af hc0 rfl)) (.c (show (decide (f.frm ≤ term) == true) = true from (by rw [hc1]; rfl)) (.c (show (decide (f.frm ≤ term) == true) = true from (by rw [hc1]; rfl)) (.c (show (decide (f.frm ≤ term) == true) = true from (by rw [hc1]; rfl)) (.c (show (decide (f.frm ≤ term) == true) = true from (by rw [hc1]; rfl)) (.c (show (decide (f.frm ≤ term) == true) = true from (by rw [hc1]; rfl)) (.c (show ae (bool (decide (f.frm ≤ term))) (bool (decide (term < f.til))) (bool false) (bool (decide (term < f.til))) from (af hc1 rfl)) (.c (show (decide (term < f.til) == true) = true from (by rw [hc2]; rfl)) (.c (show (decide (term < f.til) == true) = true from (by rw [hc2]; rfl)) (.c (show (decide (term < f.til) == true) = true from (by rw [hc2]; rfl)) (.c (show (decide (term < f.til) == true) = true from (by rw [hc2]; rfl)) (.c (show ae (bool (decide (term < f.til))) (bool (decide (f.known ≤ known))) (bool false) (bool (decide (f.known ≤ known))) from (af hc2 rfl)) (.c (show (decide (f.known ≤ known) == true) = true from (by rw [hc3]; rfl)) (.c (show (decide (f.known ≤ known) == true) = true from (by rw [hc3]; rfl)) (.c (show (decide (f.known ≤ known) == true) = true from (by rw [hc3]; rfl)) (.c (show (decide ((↑j : Int) < 0) == false) = true from rfl) (.c (show (decide ((↑j : Int) < 0) == false) = true from rfl) (.c (show (decide ((↑j : Int) < 0) == false) = true from rfl) (.c (show (decide ((↑j : Int) < 0) == false) = true from rfl) (.c hg (.c (show (decide ((↑j : Int) < 0) == false) = true from rfl) (.c (show (decide ((↑j : Int) < 0) == false) = true from rfl) (.c (@gS f g (sH kk ks ko f)) (.c (show (decide ((↑j : Int) < 0) == false) = true from rfl) (.c (show (decide (f.known ≤ known) == true) = true from (by rw [hc3]; rfl)) (.c (show ae (bool (decide ((↑j : Int) < 0))) (bool true) (bool !befB f g) (bool !befB f g) from (ai hj rfl)) (.c (show ae (bool (decide (f.known ≤ known))) (bool !befB f g) (bool false) (bool !befB f g) from (af hc3 rfl)) (.c hc4 .n)))))))))))))))))))))))))))))))))))) ?_ ?_ <;> (first | rfl | (have hk : keyIs kk ks ko f = _ := hc0; simp only [fK, hk, hw, hc1, hc2, hc3, Cw, CO, cond_false]; done) | (have hk : keyIs kk ks ko f = _ := hc0; simp only [fK, hk, hw, hc0, hc1, hc2, hc3, hc4, Cw, Cs, CN, C3, CO, cond_true, cond_false]; rfl))
     ·refine Ct (Cu (s' := { t := mkT 76 0 [(0, ab fs), (2, int term), (3, int known), (5, .ref (.ptr 0 0)), (8, int 0), (9, bool false), (10, int (↑i : Int)), (11, int (Cc B8 ((↑i : Int) + 1)))], h := [.var [int kk, int ks, int ko]], m := [] }) (e := Cq) pok [.st (.mask [0, 2, 3, 5, 8, 9, 10, 11]), .st (.trim 1)] [.b true, .row [vi f.kind, vi f.sub, vi f.obj, vi f.value, vi f.frm, vi f.til, vi f.known, vi f.no], .g true, .g true, .g true, .g true, .g true, .ov 33 (bool (decide (f.frm ≤ term))), .g true, .g true, .g true, .g true, .g true, .ov 40 (bool (decide (term < f.til))), .g true, .g true, .g true, .g true, .ov 46 (bool (decide (f.known ≤ known))), .g true, .g true, .g true, .g true, .g true, .g true, .g true, .row [vi g.kind, vi g.sub, vi g.obj, vi g.value, vi g.frm, vi g.til, vi g.known, vi g.no], .g true, .g true, .val (bool (befB f g)), .g true, .g true, .ov 58 (bool !befB f g), .ov 59 (bool !befB f g), .b true] (by kernel_rfl) (.c hlt (.c hr (.c (show ((f.kind == kk && (f.sub == ks && (f.obj == ko && true))) == true) = true from (by rw [hc0]; rfl)) (.c (show ((f.kind == kk && (f.sub == ks && (f.obj == ko && true))) == true) = true from (by rw [hc0]; rfl)) (.c (show ((f.kind == kk && (f.sub == ks && (f.obj == ko && true))) == true) = true from (by rw [hc0]; rfl)) (.c (show ((f.kind == kk && (f.sub == ks && (f.obj == ko && true))) == true) = true from (by rw [hc0]; rfl)) (.c (show ((f.kind == kk && (f.sub == ks && (f.obj == ko && true))) == true) = true from (by rw [hc0]; rfl)) (.c (show ae (bool (f.kind == kk && (f.sub == ks && (f.obj == ko && true)))) (bool (decide (f.frm ≤ term))) (bool false) (bool (decide (f.frm ≤ term))) from (af hc0 rfl)) (.c (show (decide (f.frm ≤ term) == true) = true from (by rw [hc1]; rfl)) (.c (show (decide (f.frm ≤ term) == true) = true from (by rw [hc1]; rfl)) (.c (show (decide (f.frm ≤ term) == true) = true from (by rw [hc1]; rfl)) (.c (show (decide (f.frm ≤ term) == true) = true from (by rw [hc1]; rfl)) (.c (show (decide (f.frm ≤ term) == true) = true from (by rw [hc1]; rfl)) (.c (show ae (bool (decide (f.frm ≤ term))) (bool (decide (term < f.til))) (bool false) (bool (decide (term < f.til))) from (af hc1 rfl)) (.c (show (decide (term < f.til) == true) = true from (by rw [hc2]; rfl)) (.c (show (decide (term < f.til) == true) = true from (by rw [hc2]; rfl)) (.c (show (decide (term < f.til) == true) = true from (by rw [hc2]; rfl)) (.c (show (decide (term < f.til) == true) = true from (by rw [hc2]; rfl)) (.c (show ae (bool (decide (term < f.til))) (bool (decide (f.known ≤ known))) (bool false) (bool (decide (f.known ≤ known))) from (af hc2 rfl)) (.c (show (decide (f.known ≤ known) == true) = true from (by rw [hc3]; rfl)) (.c (show (decide (f.known ≤ known) == true) = true from (by rw [hc3]; rfl)) (.c (show (decide (f.known ≤ known) == true) = true from (by rw [hc3]; rfl)) (.c (show (decide ((↑j : Int) < 0) == false) = true from rfl) (.c (show (decide ((↑j : Int) < 0) == false) = true from rfl) (.c (show (decide ((↑j : Int) < 0) == false) = true from rfl) (.c (show (decide ((↑j : Int) < 0) == false) = true from rfl) (.c hg (.c (show (decide ((↑j : Int) < 0) == false) = true from rfl) (.c (show (decide ((↑j : Int) < 0) == false) = true from rfl) (.c (@gS f g (sH kk ks ko f)) (.c (show (decide ((↑j : Int) < 0) == false) = true from rfl) (.c (show (decide (f.known ≤ known) == true) = true from (by rw [hc3]; rfl)) (.c (show ae (bool (decide ((↑j : Int) < 0))) (bool true) (bool !befB f g) (bool !befB f g) from (ai hj rfl)) (.c (show ae (bool (decide (f.known ≤ known))) (bool !befB f g) (bool false) (bool !befB f g) from (af hc3 rfl)) (.c hc4 .n)))))))))))))))))))))))))))))))))))) ?_ ?_ <;> (first | rfl | (have hk : keyIs kk ks ko f = _ := hc0; simp only [fK, hk, hw, hc1, hc2, hc3, CO, cond_true]; done) | (have hk : keyIs kk ks ko f = _ := hc0; simp only [fK, hk, hw, hc0, hc1, hc2, hc3, hc4, Cw, Cs, CN, C3, CO, cond_true, cond_false]; rfl))
theorem Bd {kk ks ko term known best : Int} {fs : List (List Dp)} {i : Nat} (hlt : decide ((i : Int) < (fs.length : Int)) = false) : (CW B7 Γ0 [] false (sub Gd 0) (a7S kk ks ko term known fs best i) (.exit 0) { t := mkT 76 0 [(0, ab fs), (8, int 0), (9, bool false), (10, int best)], h := [.var [int kk, int ks, int ko]], m := [] }) := by
 exact Ct (Cu (s' := { t := mkT 76 0 [(0, ab fs), (8, int 0), (9, bool false), (10, int best)], h := [.var [int kk, int ks, int ko]], m := [] }) (e := CE 0) pok [.st (.mask [0, 8, 9, 10])] [.b false] (by kernel_rfl) (.c hlt .n)) (by rfl) (by rfl)
def wa (s : Option (Nat × FactT)) : Int := match s with | none => -1 | some (j, _) => (j : Int)
def a7F (kk ks ko term known : Int) (f : FactT) (s : Nat × Option (Nat × FactT)) : (Nat × Option (Nat × FactT)) ⊕ Empty :=
 .inl (s.1 + 1, match s.2 with
  | none => bif fK kk ks ko term known f then some (s.1, f) else none
  | some (j, g) => bif fK kk ks ko term known f && !befB f g then some (s.1, f) else some (j, g))
def a7B (kk ks ko term known : Int) (l : List FactT) : Option (Nat × FactT) := match forL (a7F kk ks ko term known) l (0, none) with | .inl s => s.2 | .inr _ => none
theorem a7_cwl {kk ks ko term known : Int} {l : List FactT} (hl : am l) :
  CW B7 Γ0 [] false (.loop (sub Gd 0)) (a7S kk ks ko term known (l.map Ch) (-1) 0) (.exit 0) { t := mkT 76 0 [(0, ab (l.map Ch)), (8, int 0), (9, bool false), (10, int (wa (a7B kk ks ko term known l)))], h := [.var [int kk, int ks, int ko]], m := [] } := by
 have := Eo (P := B7) (Γ := Γ0) (h0 := []) (rd := false) (c := sub Gd 0) l (a7F kk ks ko term known) (fun i s => a7S kk ks ko term known (l.map Ch) (wa s.2) (i : Int)) (.exit 0) (fun s => { t := mkT 76 0 [(0, ab (l.map Ch)), (8, int 0), (9, bool false), (10, int (wa s.2))], h := [.var [int kk, int ks, int ko]], m := [] }) (fun r => r.elim)
  (fun i s => s.1 = i ∧ ∀ j g, s.2 = some (j, g) → l[j]? = some g) (by simp) (fun r => r.elim) ?_ ?_ (0, none) ⟨rfl, by simp⟩
 ·unfold a7B
  cases h : forL (a7F kk ks ko term known) l (0, none) with
  | inl s => rw [h] at this; exact this
  | inr r => exact r.elim
 ·rintro i f ⟨n, s⟩ hf ⟨rfl, hs⟩
  have hi := (Ce.1 hf).1
  refine ⟨fun s' h => ?_, ?_⟩
  ·simp only [a7F, Sum.inl.injEq] at h
   subst h
   refine ⟨rfl, fun j g hj => ?_⟩
   cases s with
   | none =>
    simp only at hj
    cases hh : fK kk ks ko term known f <;> rw [hh] at hj <;> simp at hj
    obtain ⟨rfl, rfl⟩ := hj; exact hf
   | some p =>
    obtain ⟨j0, g0⟩ := p
    simp only at hj
    cases hh : fK kk ks ko term known f && !befB f g0 <;> rw [hh] at hj <;> simp at hj
    ·obtain ⟨rfl, rfl⟩ := hj; exact hs _ _ rfl
    ·obtain ⟨rfl, rfl⟩ := hj; exact hf
  ·cases s with
   | none =>
    have := a7_b0 (kk := kk) (ks := ks) (ko := ko) (term := term) (known := known) (rowAt hf rfl) (lt_len Ch hi) (wrap_succ hi hl)
    simp only [a7F, ad, wa]
    cases hh : fK kk ks ko term known f <;> rw [hh] at this <;> exact this
   | some p =>
    obtain ⟨j0, g0⟩ := p
    have := a7_b1 (kk := kk) (ks := ks) (ko := ko) (term := term) (known := known) (j := j0) (g := g0) (rowAt hf rfl) (rowAt (hs _ _ rfl) rfl) (by simp) (lt_len Ch hi) (wrap_succ hi hl)
    simp only [a7F, ad, wa]
    cases hh : fK kk ks ko term known f && !befB f g0 <;> rw [hh] at this <;> exact this
 ·rintro ⟨n, s⟩ _
  exact Bd (bM Ch l)
end Go.Vi
