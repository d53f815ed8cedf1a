/- RecordOfSpecUpto: part of the proof: contracts of the functions that the law reaches, and the law. No conditions beyond the given statement's own. -/
import Derived.Test.YtilebidefogaiaaGreatDoorW5
import Derived.Ground.SlsfProg
open Go.IntKind renaming i64 → B8, wrap → Cc
open Go.Proofs.Tryz renaming prog → B7, f127 → FG, f77 → Hu, f24 → Hv, f74 → Hw
open List renaming drop → DU, length → Cb, all → Cx, map → B6, take → CY, getElem?_eq_some_iff → Ce, length_map → DR, mem_map → CC, length_cons → Di, getElem?_eq_getElem → Cv, range → C1, getD → Cl, replicate → C0, foldl_cons → DG, pairwise_mergeSort → GU, mergeSort_perm → F8, takeWhile_cons → FS, dropWhile_cons → HI, takeWhile_append_dropWhile → F9, append_assoc → F5, pairwise_append → F0, mem_cons → CP, pairwise_cons → Ff, singleton_append → Hg
open Int renaming toNat → Cf
open Go.Vi.CW renaming cast → Ct, symX → Cu, each → Eo
open Go.Exit renaming normal → Cq, exit → CE
open Go.Operand renaming tmp → Hf
open Go.Vi.D renaming p → Ei, innL → CT
open Go.Value renaming oneCell' → CX, tuple → Dd
open Go.Vi.Ev renaming castH → Cj, sym0 → Cn
open Go.Vi.AttT renaming row → Ci
open Bool renaming false_or → DQ, false_and → Cs, and_false → Cw, and_true → C3
open Go.Vi.FactT renaming row → Ch
open Go.Vi.CourseT renaming row → Cp
open Go.Vi.PtT renaming row → Dn
open Option.some renaming injEq → B5
open Go.Vi.Memo renaming okW_of → E8
open List.Perm renaming eq_of_pairwise → Gi
open List.Pairwise renaming nil → Gw
open Go.Vi.Blk renaming inn → Cz
open Go Go.Proofs
namespace Go.Vi
set_option maxRecDepth 100000
set_option maxHeartbeats 4000000
theorem yK {ls out : List Int} (hl : am out) (hb : out.length ≤ 1000000) {x : Int} {i : Nat} (hp : s7P out x ≤ (bA out).length) (hx : ls[i]? = some x) (hr : aH (i : Int) (bA ls) [vi x] 1) (hlt : decide ((i : Int) < ((bA ls).length : Int)) = true) (hw : B8.wrap ((i : Int) + 1) = ((i + 1 : Nat) : Int)) : (CW B7 Γ0 [] false (sub FG 0) (s7O (bA ls) (bA out) i) .normal (s7O (bA ls) (bA (ul out x)) ((i + 1 : Nat) : Int))) := by
 have hl0 := (@s7_cw (ls) (out) (hl) (i) (x) (hx))
 let v0 := DU (Cf 0) (bA out)
 refine Ct (Cu (s' := { t := mkT 46 0 [(0, ab (bA ls)), (3, ab (bA (ul out x))), (4, int (Cc B8 ((↑i : Int) + 1)))], h := [], m := [] }) (e := Cq) pok [.st (.mask [0, 3, 4]), .st (.frz 0 (bA (ul out x))), .st (.trim 0)] [.b true, .sum [0, 3, 4, 5] (CE 2) { t := mkT 46 0 [(0, ab (bA ls)), (3, ab (bA out)), (4, int (↑i : Int)), (5, int (↑(s7P out x) : Int))], h := [], m := [] }, .lateO, .row [vi x]] (by kernel_rfl) (.c hlt (.c hl0 (.c (show (kX 0 (↑(s7P out x) : Int) (Cb (bA out)) && true && (true || Option.isSome (Option.map (evalD Γ0 (mkT 46 0 [(0, ab (bA ls)), (3, ab (bA out)), (4, int (↑i : Int)), (5, int (↑(s7P out x) : Int)), (31, ab (bA out)), (32, int (↑(s7P out x) : Int))])) (some (Hf 32)))) && Cx (bA out) fun r => decide (Cb r = 1)) = true from ?_) (.c (show (Cx (B6 (fun x => B6 Ei x) (CY (Cf (↑(s7P out x) : Int) - Cf 0) v0)) (aO 1) && roomOk (Cb ([] : List (List D)) + Cb (B6 (fun x => B6 Ei x) (CY (Cf (↑(s7P out x) : Int) - Cf 0) v0))) 8) = true from ?_) (.c hr (.c (show (Cx [[int x]] (aO 1) && roomOk (Cb (B6 (fun x => B6 Ei x) (CY (Cf (↑(s7P out x) : Int) - Cf 0) v0)) + Cb [[int x]]) 8) = true from ?_) (.c (show (kX (↑(s7P out x) : Int) (↑(Cb (bA out)) : Int) (Cb (bA out)) && true && (true || false) && Cx (bA out) fun r => decide (Cb r = 1)) = true from ?_) (.c (show (Cx (B6 (fun x => B6 Ei x) (CY (Cf (↑(Cb (bA out)) : Int) - Cf (↑(s7P out x) : Int)) (DU (Cf (↑(s7P out x) : Int)) (bA out)))) (aO 1) && roomOk (Cb (B6 (fun x => B6 Ei x) (CY (Cf (↑(s7P out x) : Int) - Cf 0) v0) ++ [[int x]]) + Cb (B6 (fun x => B6 Ei x) (CY (Cf (↑(Cb (bA out)) : Int) - Cf (↑(s7P out x) : Int)) (DU (Cf (↑(s7P out x) : Int)) (bA out))))) 8) = true from ?_) (.c (show Cx [] (CT 0) = true from rfl) (.c (show Cx [] (CT 1) = true from rfl) (.c (show Cx [] (CT 1) = true from rfl) (.c (show Cx (B6 (fun x => B6 Ei x) (CY (Cf (↑(s7P out x) : Int) - Cf 0) v0)) (CT 1) = true from ?_) (.c (show Cx [] (CT 1) = true from rfl) (.c (show Cx (B6 (fun x => B6 Ei x) (CY (Cf (↑(s7P out x) : Int) - Cf 0) v0)) (CT 2) = true from ?_) (.c (show Cx [[int x]] (CT 2) = true from rfl) (.c (show Cx [] (CT 2) = true from rfl) (.c (show Cx (B6 (fun x => B6 Ei x) (CY (Cf (↑(s7P out x) : Int) - Cf 0) v0) ++ [[int x]]) (CT 2) = true from ?_) (.c (show Cx [[int x]] (CT 2) = true from rfl) (.c (show Cx [] (CT 2) = true from rfl) (.c (show Cx (B6 (fun x => B6 Ei x) (CY (Cf (↑(s7P out x) : Int) - Cf 0) v0) ++ [[int x]] ++ B6 (fun x => B6 Ei x) (CY (Cf (↑(Cb (bA out)) : Int) - Cf (↑(s7P out x) : Int)) (DU (Cf (↑(s7P out x) : Int)) (bA out)))) (CT 2) = true from ?_) (.c (show Cx [[int x]] (CT 2) = true from rfl) (.c (show Cx [] (CT 2) = true from rfl) (.c (show Cx [[int x]] (CT 0) = true from rfl) (.c (show Cx [] (CT 1) = true from rfl) (.c (show Cx [[int x]] (CT 1) = true from rfl) (.c (show Cx (B6 (fun x => B6 Ei x) (CY (Cf (↑(s7P out x) : Int) - Cf 0) v0)) (CT 1) = true from ?_) (.c (show Cx [[int x]] (CT 1) = true from rfl) (.c (show Cx (B6 (fun x => B6 Ei x) (CY (Cf (↑(s7P out x) : Int) - Cf 0) v0)) (CT 2) = true from ?_) (.c (show Cx [[int x]] (CT 2) = true from rfl) (.c (show Cx [[int x]] (CT 2) = true from rfl) (.c (show Cx (B6 (fun x => B6 Ei x) (CY (Cf (↑(s7P out x) : Int) - Cf 0) v0) ++ [[int x]]) (CT 2) = true from ?_) (.c (show Cx [[int x]] (CT 2) = true from rfl) (.c (show Cx [[int x]] (CT 2) = true from rfl) (.c (show Cx (B6 (fun x => B6 Ei x) (CY (Cf (↑(s7P out x) : Int) - Cf 0) v0) ++ [[int x]] ++ B6 (fun x => B6 Ei x) (CY (Cf (↑(Cb (bA out)) : Int) - Cf (↑(s7P out x) : Int)) (DU (Cf (↑(s7P out x) : Int)) (bA out)))) (CT 2) = true from ?_) (.c (show Cx [[int x]] (CT 2) = true from rfl) (.c (show Cx [[int x]] (CT 2) = true from rfl) (.c (show B6 (fun x => B6 Ei x) (CY (Cf (↑(s7P out x) : Int) - Cf 0) v0) ++ [[int x]] ++ B6 (fun x => B6 Ei x) (CY (Cf (↑(Cb (bA out)) : Int) - Cf (↑(s7P out x) : Int)) (DU (Cf (↑(s7P out x) : Int)) (bA out))) = B6 (fun x => B6 Ei x) (bA (ul out x)) from ?_) (.c (show [[int x]] = [[int x]] from rfl) .n))))))))))))))))))))))))))))))))))))))) (by subst v0; first | rfl | (rw [hw])) (by subst v0; first | rfl | (rw [hw])) <;> subst v0 <;> (first | assumption | rfl | exact aR _ _ | exact re rfl | exact wM rfl | exact wJ hp (sR _) | exact wK hp (sR _) | (refine zO (BM _) ?_ ?_ <;> simp <;> omega) | (rw [wN]; exact wL rfl) | (simp [aO, D.one, CX, roomOk]; omega))
theorem yL {ls out : List (List Dp)} {i : Nat} (hlt : decide ((i : Int) < (ls.length : Int)) = false) : (CW B7 Γ0 [] false (sub FG 0) (s7O ls out i) (.exit 0) { t := mkT 46 0 [(3, ab out)], h := [], m := [] }) := by
 exact Ct (Cu (s' := { t := mkT 46 0 [(3, ab out)], h := [], m := [] }) (e := CE 0) pok [.st (.mask [3])] [.b false] (by kernel_rfl) (.c hlt .n)) (by rfl) (by rfl)
def gX (l : List Int) : List Int := l.foldl ul []
theorem insI_len (out : List Int) (x : Int) : (ul out x).length = out.length + 1 := by
 have := zP out x
 simp [ul]; omega
theorem s7o_cw {ls : List Int} (hl : ls.length ≤ 100000) : CW B7 Γ0 [] false (.loop (sub FG 0)) (s7O (bA ls) [] 0) (.exit 0) { t := mkT 46 0 [(3, ab (bA (gX ls)))], h := [], m := [] } := by
 have hs : am ls := by unfold am; omega
 have key := Eo (P := B7) (Γ := Γ0) (h0 := []) (rd := false) (c := sub FG 0) (σ := List Int) (ρ := Empty) ls (fun x out => .inl (ul out x))
  (fun i out => s7O (bA ls) (bA out) (i : Int)) (.exit 0) (fun out => { t := mkT 46 0 [(3, ab (bA out))], h := [], m := [] }) (fun r => r.elim) (fun i out => out.length = i) (by simp) (fun r => r.elim) ?_ ?_ [] (by simp)
 ·rw [bw] at key
  exact key
 ·intro i x out hx ho
  have hi := (Ce.1 hx).1
  refine ⟨fun s h => ?_, ?_⟩
  ·cases h; rw [insI_len, ho]
  ·exact yK (by unfold am; omega) (by omega) (by rw [DR]; exact zP out x) hx (rowAt (row := fun n => [vi n]) hx rfl) (lt_len _ hi) (wrap_succ hi hs)
 ·intro out _
  exact yL (bM _ ls)
theorem rf {ls : List Int} (hl : ls.length ≤ 100000) (h : List Blk) : (Ev B7 Γ0 127 [ab (bA ls)] h (ab (bA (gX ls))) h) := by
 have hl0 := (@s7o_cw (ls) (hl))
 exact Cj (Ev.nilW (Cn (d := ab (bA (gX ls))) pok [.nx 3, .st (.frz 0 []), .st (.trim 0), .sum [0, 3, 4] (CE 0) { t := mkT 46 0 [(3, ab (bA (gX ls)))], h := [], m := [] }] (by kernel_rfl) (.c (show ([] : List (List D)) = [] from rfl) (.c hl0 .n)) rfl rfl h)) (by rfl) (by rfl)
end Go.Vi
open Go Go.Proofs
namespace Go.Vi
set_option maxRecDepth 100000
set_option maxHeartbeats 4000000
abbrev puS (ls : List (List Dp)) (a : AttT) (n : Int) : AS := { t := mkT 54 0 [(0, ab ls), (3, .ref (.ptr 0 0)), (5, int n)], h := [.var (a.row.map .p)], m := [] }
def befA (y a : AttT) : Bool := decide (y.term < a.term) || (y.term == a.term && decide (y.course < a.course))
def puF (a y : AttT) (n : Nat) : Nat ⊕ Nat := bif befA y a then .inl (n + 1) else .inr n
theorem BN {ls : List (List Dp)} {a y : AttT} {n : Nat} (ho : aH (n : Int) ls y.row 5) (hlt : decide ((n : Int) < (ls.length : Int)) = true) (hw : B8.wrap ((n : Int) + 1) = ((n + 1 : Nat) : Int)) : (CW B7 Γ0 [] false (sub Hu 0) (puS ls a n) (ad (fun m : Nat => puS ls a m) (fun m : Nat => (.exit 0, puS ls a m)) (puF a y n)).1 (ad (fun m : Nat => puS ls a m) (fun m : Nat => (.exit 0, puS ls a m)) (puF a y n)).2) := by
 cases hc0 : decide (y.term < a.term)
 ·cases hc1 : y.term == a.term
  ·exact Ct (Cu (s' := { t := mkT 54 0 [(0, ab ls), (3, .ref (.ptr 0 0)), (5, int (↑n : Int))], h := [.var [int a.course, int a.term, int a.grade, int a.campus, int a.credits]], m := [] }) (e := CE 0) pok [.st (.mask [0, 3, 5])] [.g true, .g true, .g true, .row (Ci y), .g true, .g true, .g true, .g true, .g true, .g true, .g true, .g true, .g true, .row (Ci y), .g true, .g true, .g true, .g true, .g true, .g true, .g false, .g false, .g false, .g false, .g false, .g false, .g false, .g false, .g true, .ov 37 (bool false), .g true, .ov 38 (bool false), .ov 39 (bool false), .b false] (by kernel_rfl) (.c (show (decide ((↑n : Int) < (↑(Cb ls) : Int)) == true) = true from (by rw [hlt]; rfl)) (.c (show (decide ((↑n : Int) < (↑(Cb ls) : Int)) == true) = true from (by rw [hlt]; rfl)) (.c (show (decide ((↑n : Int) < (↑(Cb ls) : Int)) == true) = true from (by rw [hlt]; rfl)) (.c ho (.c (show (decide ((↑n : Int) < (↑(Cb ls) : Int)) == true) = true from (by rw [hlt]; rfl)) (.c (show (decide ((↑n : Int) < (↑(Cb ls) : Int)) == true) = true from (by rw [hlt]; rfl)) (.c (show (decide ((↑n : Int) < (↑(Cb ls) : Int)) == true) = true from (by rw [hlt]; rfl)) (.c (show (decide ((↑n : Int) < (↑(Cb ls) : Int)) == true) = true from (by rw [hlt]; rfl)) (.c (show (decide ((↑n : Int) < (↑(Cb ls) : Int)) == true) = true from (by rw [hlt]; rfl)) (.c (show (decide ((↑n : Int) < (↑(Cb ls) : Int)) == true) = true from (by rw [hlt]; rfl)) (.c (show (decide (y.term < a.term) == false) = true from (by rw [hc0]; rfl)) (.c (show (decide (y.term < a.term) == false) = true from (by rw [hc0]; rfl)) (.c (show (decide (y.term < a.term) == false) = true from (by rw [hc0]; rfl)) (.c ho (.c (show (decide (y.term < a.term) == false) = true from (by rw [hc0]; rfl)) (.c (show (decide (y.term < a.term) == false) = true from (by rw [hc0]; rfl)) (.c (show (decide (y.term < a.term) == false) = true from (by rw [hc0]; rfl)) (.c (show (decide (y.term < a.term) == false) = true from (by rw [hc0]; rfl)) (.c (show (decide (y.term < a.term) == false) = true from (by rw [hc0]; rfl)) (.c (show (decide (y.term < a.term) == false) = true from (by rw [hc0]; rfl)) (.c (show ((y.term == a.term) == true) = false from (by rw [hc1]; rfl)) (.c (show ((y.term == a.term) == true) = false from (by rw [hc1]; rfl)) (.c (show ((y.term == a.term) == true) = false from (by rw [hc1]; rfl)) (.c (show ((y.term == a.term) == true) = false from (by rw [hc1]; rfl)) (.c (show ((y.term == a.term) == true) = false from (by rw [hc1]; rfl)) (.c (show ((y.term == a.term) == true) = false from (by rw [hc1]; rfl)) (.c (show ((y.term == a.term) == true) = false from (by rw [hc1]; rfl)) (.c (show ((y.term == a.term) == true) = false from (by rw [hc1]; rfl)) (.c (show (decide (y.term < a.term) == false) = true from (by rw [hc0]; rfl)) (.c (show ae (bool (y.term == a.term)) (Ei (Dp.v (Dd { toList := [] }))) (bool false) (bool false) from (ai hc1 rfl)) (.c (show (decide ((↑n : Int) < (↑(Cb ls) : Int)) == true) = true from (by rw [hlt]; rfl)) (.c (show ae (bool (decide (y.term < a.term))) (bool true) (bool false) (bool false) from (ai hc0 rfl)) (.c (show ae (bool (decide ((↑n : Int) < (↑(Cb ls) : Int)))) (bool false) (bool false) (bool false) from (af hlt rfl)) (.c (show false = false from rfl) .n))))))))))))))))))))))))))))))))))) (by simp only [puF, befA, hc0, hc1, DQ, Cs, cond_false]; first | done | rfl | (rw [hw]; rfl)) (by simp only [puF, befA, hc0, hc1, DQ, Cs, cond_false]; first | done | rfl | (rw [hw]; rfl))
  ·cases hc2 : decide (y.course < a.course)
   ·exact Ct (Cu (s' := { t := mkT 54 0 [(0, ab ls), (3, .ref (.ptr 0 0)), (5, int (↑n : Int))], h := [.var [int a.course, int a.term, int a.grade, int a.campus, int a.credits]], m := [] }) (e := CE 0) pok [.st (.mask [0, 3, 5])] [.g true, .g true, .g true, .row (Ci y), .g true, .g true, .g true, .g true, .g true, .g true, .g true, .g true, .g true, .row (Ci y), .g true, .g true, .g true, .g true, .g true, .g true, .g true, .g true, .g true, .row (Ci y), .g true, .g true, .g true, .g true, .g true, .g true, .ov 37 (bool (decide (y.course < a.course))), .g true, .ov 38 (bool (decide (y.course < a.course))), .ov 39 (bool (decide (y.course < a.course))), .b false] (by kernel_rfl) (.c (show (decide ((↑n : Int) < (↑(Cb ls) : Int)) == true) = true from (by rw [hlt]; rfl)) (.c (show (decide ((↑n : Int) < (↑(Cb ls) : Int)) == true) = true from (by rw [hlt]; rfl)) (.c (show (decide ((↑n : Int) < (↑(Cb ls) : Int)) == true) = true from (by rw [hlt]; rfl)) (.c ho (.c (show (decide ((↑n : Int) < (↑(Cb ls) : Int)) == true) = true from (by rw [hlt]; rfl)) (.c (show (decide ((↑n : Int) < (↑(Cb ls) : Int)) == true) = true from (by rw [hlt]; rfl)) (.c (show (decide ((↑n : Int) < (↑(Cb ls) : Int)) == true) = true from (by rw [hlt]; rfl)) (.c (show (decide ((↑n : Int) < (↑(Cb ls) : Int)) == true) = true from (by rw [hlt]; rfl)) (.c (show (decide ((↑n : Int) < (↑(Cb ls) : Int)) == true) = true from (by rw [hlt]; rfl)) (.c (show (decide ((↑n : Int) < (↑(Cb ls) : Int)) == true) = true from (by rw [hlt]; rfl)) (.c (show (decide (y.term < a.term) == false) = true from (by rw [hc0]; rfl)) (.c (show (decide (y.term < a.term) == false) = true from (by rw [hc0]; rfl)) (.c (show (decide (y.term < a.term) == false) = true from (by rw [hc0]; rfl)) (.c ho (.c (show (decide (y.term < a.term) == false) = true from (by rw [hc0]; rfl)) (.c (show (decide (y.term < a.term) == false) = true from (by rw [hc0]; rfl)) (.c (show (decide (y.term < a.term) == false) = true from (by rw [hc0]; rfl)) (.c (show (decide (y.term < a.term) == false) = true from (by rw [hc0]; rfl)) (.c (show (decide (y.term < a.term) == false) = true from (by rw [hc0]; rfl)) (.c (show (decide (y.term < a.term) == false) = true from (by rw [hc0]; rfl)) (.c (show ((y.term == a.term) == true) = true from (by rw [hc1]; rfl)) (.c (show ((y.term == a.term) == true) = true from (by rw [hc1]; rfl)) (.c (show ((y.term == a.term) == true) = true from (by rw [hc1]; rfl)) (.c ho (.c (show ((y.term == a.term) == true) = true from (by rw [hc1]; rfl)) (.c (show ((y.term == a.term) == true) = true from (by rw [hc1]; rfl)) (.c (show ((y.term == a.term) == true) = true from (by rw [hc1]; rfl)) (.c (show ((y.term == a.term) == true) = true from (by rw [hc1]; rfl)) (.c (show ((y.term == a.term) == true) = true from (by rw [hc1]; rfl)) (.c (show (decide (y.term < a.term) == false) = true from (by rw [hc0]; rfl)) (.c (show ae (bool (y.term == a.term)) (bool (decide (y.course < a.course))) (bool false) (bool (decide (y.course < a.course))) from (af hc1 rfl)) (.c (show (decide ((↑n : Int) < (↑(Cb ls) : Int)) == true) = true from (by rw [hlt]; rfl)) (.c (show ae (bool (decide (y.term < a.term))) (bool true) (bool (decide (y.course < a.course))) (bool (decide (y.course < a.course))) from (ai hc0 rfl)) (.c (show ae (bool (decide ((↑n : Int) < (↑(Cb ls) : Int)))) (bool (decide (y.course < a.course))) (bool false) (bool (decide (y.course < a.course))) from (af hlt rfl)) (.c hc2 .n)))))))))))))))))))))))))))))))))))) (by simp only [puF, befA, hc0, hc1, hc2, DQ, Cw, cond_false]; first | done | rfl | (rw [hw]; rfl)) (by simp only [puF, befA, hc0, hc1, hc2, DQ, Cw, cond_false]; first | done | rfl | (rw [hw]; rfl))
   ·exact Ct (Cu (s' := { t := mkT 54 0 [(0, ab ls), (3, .ref (.ptr 0 0)), (5, int (Cc B8 ((↑n : Int) + 1)))], h := [.var [int a.course, int a.term, int a.grade, int a.campus, int a.credits]], m := [] }) (e := Cq) pok [.st (.mask [0, 3, 5])] [.g true, .g true, .g true, .row (Ci y), .g true, .g true, .g true, .g true, .g true, .g true, .g true, .g true, .g true, .row (Ci y), .g true, .g true, .g true, .g true, .g true, .g true, .g true, .g true, .g true, .row (Ci y), .g true, .g true, .g true, .g true, .g true, .g true, .ov 37 (bool (decide (y.course < a.course))), .g true, .ov 38 (bool (decide (y.course < a.course))), .ov 39 (bool (decide (y.course < a.course))), .b true] (by kernel_rfl) (.c (show (decide ((↑n : Int) < (↑(Cb ls) : Int)) == true) = true from (by rw [hlt]; rfl)) (.c (show (decide ((↑n : Int) < (↑(Cb ls) : Int)) == true) = true from (by rw [hlt]; rfl)) (.c (show (decide ((↑n : Int) < (↑(Cb ls) : Int)) == true) = true from (by rw [hlt]; rfl)) (.c ho (.c (show (decide ((↑n : Int) < (↑(Cb ls) : Int)) == true) = true from (by rw [hlt]; rfl)) (.c (show (decide ((↑n : Int) < (↑(Cb ls) : Int)) == true) = true from (by rw [hlt]; rfl)) (.c (show (decide ((↑n : Int) < (↑(Cb ls) : Int)) == true) = true from (by rw [hlt]; rfl)) (.c (show (decide ((↑n : Int) < (↑(Cb ls) : Int)) == true) = true from (by rw [hlt]; rfl)) (.c (show (decide ((↑n : Int) < (↑(Cb ls) : Int)) == true) = true from (by rw [hlt]; rfl)) (.c (show (decide ((↑n : Int) < (↑(Cb ls) : Int)) == true) = true from (by rw [hlt]; rfl)) (.c (show (decide (y.term < a.term) == false) = true from (by rw [hc0]; rfl)) (.c (show (decide (y.term < a.term) == false) = true from (by rw [hc0]; rfl)) (.c (show (decide (y.term < a.term) == false) = true from (by rw [hc0]; rfl)) (.c ho (.c (show (decide (y.term < a.term) == false) = true from (by rw [hc0]; rfl)) (.c (show (decide (y.term < a.term) == false) = true from (by rw [hc0]; rfl)) (.c (show (decide (y.term < a.term) == false) = true from (by rw [hc0]; rfl)) (.c (show (decide (y.term < a.term) == false) = true from (by rw [hc0]; rfl)) (.c (show (decide (y.term < a.term) == false) = true from (by rw [hc0]; rfl)) (.c (show (decide (y.term < a.term) == false) = true from (by rw [hc0]; rfl)) (.c (show ((y.term == a.term) == true) = true from (by rw [hc1]; rfl)) (.c (show ((y.term == a.term) == true) = true from (by rw [hc1]; rfl)) (.c (show ((y.term == a.term) == true) = true from (by rw [hc1]; rfl)) (.c ho (.c (show ((y.term == a.term) == true) = true from (by rw [hc1]; rfl)) (.c (show ((y.term == a.term) == true) = true from (by rw [hc1]; rfl)) (.c (show ((y.term == a.term) == true) = true from (by rw [hc1]; rfl)) (.c (show ((y.term == a.term) == true) = true from (by rw [hc1]; rfl)) (.c (show ((y.term == a.term) == true) = true from (by rw [hc1]; rfl)) (.c (show (decide (y.term < a.term) == false) = true from (by rw [hc0]; rfl)) (.c (show ae (bool (y.term == a.term)) (bool (decide (y.course < a.course))) (bool false) (bool (decide (y.course < a.course))) from (af hc1 rfl)) (.c (show (decide ((↑n : Int) < (↑(Cb ls) : Int)) == true) = true from (by rw [hlt]; rfl)) (.c (show ae (bool (decide (y.term < a.term))) (bool true) (bool (decide (y.course < a.course))) (bool (decide (y.course < a.course))) from (ai hc0 rfl)) (.c (show ae (bool (decide ((↑n : Int) < (↑(Cb ls) : Int)))) (bool (decide (y.course < a.course))) (bool false) (bool (decide (y.course < a.course))) from (af hlt rfl)) (.c hc2 .n)))))))))))))))))))))))))))))))))))) (by simp only [puF, befA, hc0, hc1, hc2, DQ, C3, cond_true]; first | done | rfl | (rw [hw]; rfl)) (by simp only [puF, befA, hc0, hc1, hc2, DQ, C3, cond_true]; first | done | rfl | (rw [hw]; rfl))
 ·exact Ct (Cu (s' := { t := mkT 54 0 [(0, ab ls), (3, .ref (.ptr 0 0)), (5, int (Cc B8 ((↑n : Int) + 1)))], h := [.var [int a.course, int a.term, int a.grade, int a.campus, int a.credits]], m := [] }) (e := Cq) pok [.st (.mask [0, 3, 5])] [.g true, .g true, .g true, .row (Ci y), .g true, .g true, .g true, .g true, .g true, .g true, .g false, .g false, .g false, .g false, .g false, .g false, .g false, .g false, .g false, .g false, .g false, .g false, .g false, .g false, .g false, .g false, .g false, .g false, .g true, .ov 38 (bool true), .ov 39 (bool true), .b true] (by kernel_rfl) (.c (show (decide ((↑n : Int) < (↑(Cb ls) : Int)) == true) = true from (by rw [hlt]; rfl)) (.c (show (decide ((↑n : Int) < (↑(Cb ls) : Int)) == true) = true from (by rw [hlt]; rfl)) (.c (show (decide ((↑n : Int) < (↑(Cb ls) : Int)) == true) = true from (by rw [hlt]; rfl)) (.c ho (.c (show (decide ((↑n : Int) < (↑(Cb ls) : Int)) == true) = true from (by rw [hlt]; rfl)) (.c (show (decide ((↑n : Int) < (↑(Cb ls) : Int)) == true) = true from (by rw [hlt]; rfl)) (.c (show (decide ((↑n : Int) < (↑(Cb ls) : Int)) == true) = true from (by rw [hlt]; rfl)) (.c (show (decide ((↑n : Int) < (↑(Cb ls) : Int)) == true) = true from (by rw [hlt]; rfl)) (.c (show (decide ((↑n : Int) < (↑(Cb ls) : Int)) == true) = true from (by rw [hlt]; rfl)) (.c (show (decide ((↑n : Int) < (↑(Cb ls) : Int)) == true) = true from (by rw [hlt]; rfl)) (.c (show (decide (y.term < a.term) == false) = false from (by rw [hc0]; rfl)) (.c (show (decide (y.term < a.term) == false) = false from (by rw [hc0]; rfl)) (.c (show (decide (y.term < a.term) == false) = false from (by rw [hc0]; rfl)) (.c (show (decide (y.term < a.term) == false) = false from (by rw [hc0]; rfl)) (.c (show (decide (y.term < a.term) == false) = false from (by rw [hc0]; rfl)) (.c (show (decide (y.term < a.term) == false) = false from (by rw [hc0]; rfl)) (.c (show (decide (y.term < a.term) == false) = false from (by rw [hc0]; rfl)) (.c (show (decide (y.term < a.term) == false) = false from (by rw [hc0]; rfl)) (.c (show (decide (y.term < a.term) == false) = false from (by rw [hc0]; rfl)) (.c (show false = false from rfl) (.c (show false = false from rfl) (.c (show false = false from rfl) (.c (show false = false from rfl) (.c (show false = false from rfl) (.c (show false = false from rfl) (.c (show false = false from rfl) (.c (show false = false from rfl) (.c (show (decide (y.term < a.term) == false) = false from (by rw [hc0]; rfl)) (.c (show (decide ((↑n : Int) < (↑(Cb ls) : Int)) == true) = true from (by rw [hlt]; rfl)) (.c (show ae (bool (decide (y.term < a.term))) (bool true) (Ei (Dp.v (Dd { toList := [] }))) (bool true) from (af hc0 rfl)) (.c (show ae (bool (decide ((↑n : Int) < (↑(Cb ls) : Int)))) (bool true) (bool false) (bool true) from (af hlt rfl)) (.c (show true = true from rfl) .n))))))))))))))))))))))))))))))))) (by simp only [puF, befA, hc0, Bool.true_or, cond_true]; first | done | rfl | (rw [hw]; rfl)) (by simp only [puF, befA, hc0, Bool.true_or, cond_true]; first | done | rfl | (rw [hw]; rfl))
theorem BO {ls : List (List Dp)} {a : AttT} {n : Nat} (hlt : decide ((n : Int) < (ls.length : Int)) = false) : (CW B7 Γ0 [] false (sub Hu 0) (puS ls a n) (.exit 0) (puS ls a n)) := by
 exact Ct (Cu (s' := { t := mkT 54 0 [(0, ab ls), (3, .ref (.ptr 0 0)), (5, int (↑n : Int))], h := [.var [int a.course, int a.term, int a.grade, int a.campus, int a.credits]], m := [] }) (e := CE 0) pok [.st (.mask [0, 3, 5])] [.g false, .g false, .g false, .g false, .g false, .g false, .g false, .g false, .g false, .g false, .g false, .g false, .g false, .g false, .g false, .g false, .g false, .g false, .g false, .g false, .g false, .g false, .g false, .g false, .g false, .g false, .g false, .g false, .ov 39 (bool false), .b false] (by kernel_rfl) (.c (show (decide ((↑n : Int) < (↑(Cb ls) : Int)) == true) = false from (by rw [hlt]; rfl)) (.c (show (decide ((↑n : Int) < (↑(Cb ls) : Int)) == true) = false from (by rw [hlt]; rfl)) (.c (show (decide ((↑n : Int) < (↑(Cb ls) : Int)) == true) = false from (by rw [hlt]; rfl)) (.c (show (decide ((↑n : Int) < (↑(Cb ls) : Int)) == true) = false from (by rw [hlt]; rfl)) (.c (show (decide ((↑n : Int) < (↑(Cb ls) : Int)) == true) = false from (by rw [hlt]; rfl)) (.c (show (decide ((↑n : Int) < (↑(Cb ls) : Int)) == true) = false from (by rw [hlt]; rfl)) (.c (show (decide ((↑n : Int) < (↑(Cb ls) : Int)) == true) = false from (by rw [hlt]; rfl)) (.c (show (decide ((↑n : Int) < (↑(Cb ls) : Int)) == true) = false from (by rw [hlt]; rfl)) (.c (show (decide ((↑n : Int) < (↑(Cb ls) : Int)) == true) = false from (by rw [hlt]; rfl)) (.c (show false = false from rfl) (.c (show false = false from rfl) (.c (show false = false from rfl) (.c (show false = false from rfl) (.c (show false = false from rfl) (.c (show false = false from rfl) (.c (show false = false from rfl) (.c (show false = false from rfl) (.c (show false = false from rfl) (.c (show false = false from rfl) (.c (show false = false from rfl) (.c (show false = false from rfl) (.c (show false = false from rfl) (.c (show false = false from rfl) (.c (show false = false from rfl) (.c (show false = false from rfl) (.c (show false = false from rfl) (.c (show false = false from rfl) (.c (show (decide ((↑n : Int) < (↑(Cb ls) : Int)) == true) = false from (by rw [hlt]; rfl)) (.c (show ae (bool (decide ((↑n : Int) < (↑(Cb ls) : Int)))) (Ei (Dp.v (Dd { toList := [] }))) (bool false) (bool false) from (ai hlt rfl)) (.c (show false = false from rfl) .n))))))))))))))))))))))))))))))) (by rfl) (by rfl)
def puP (out : List AttT) (a : AttT) : Nat := match forL (puF a) out 0 with | .inl n => n | .inr n => n
theorem pu_cw {out : List AttT} (hl : am out) {a : AttT} : CW B7 Γ0 [] false (.loop (sub Hu 0)) (puS (out.map Ci) a 0) (.exit 0) (puS (out.map Ci) a (puP out a)) := by
 have := Eo (P := B7) (Γ := Γ0) (h0 := []) (rd := false) (c := sub Hu 0) out (puF a) (fun _ n => puS (out.map Ci) a (n : Int)) (.exit 0) (fun n => puS (out.map Ci) a (n : Int)) (fun n : Nat => (.exit 0, puS (out.map Ci) a (n : Int)))
  (fun k n => n = k) (by simp) (by simp) ?_ ?_ 0 rfl
 ·unfold puP
  cases h : forL (puF a) out 0 <;> rw [h] at this <;> exact this
 ·intro k y n hy hn
  subst hn
  have hi := (Ce.1 hy).1
  refine ⟨fun m h => ?_, BN (rowAt hy rfl) (lt_len _ hi) (wrap_succ hi hl)⟩
  unfold puF at h
  cases hc : befA y a <;> rw [hc] at h <;> simp at h
  exact h.symm
 ·intro n hn
  subst hn
  exact BO (bM _ out)
def pP (out : List AttT) (a : AttT) : List AttT := out.take (puP out a) ++ [a] ++ out.drop (puP out a)
theorem wO (l : List AttT) : ∀ r ∈ l.map Ci, r.length = 5 := by intro r hr; obtain ⟨x, _, rfl⟩ := CC.1 hr; rfl
theorem BP (l : List AttT) : ∀ r ∈ l.map Ci, aO 5 (r.map Ei) = true := by intro r hr; obtain ⟨x, _, rfl⟩ := CC.1 hr; rfl
theorem wP (out : List AttT) (a : AttT) : (pP out a).map Ci = (out.map Ci).take (puP out a) ++ [a.row] ++ (out.map Ci).drop (puP out a) := by simp [pP, List.map_take, List.map_drop]
theorem zQ (out : List AttT) (a : AttT) : puP out a ≤ out.length := by
 have key : ∀ (l : List AttT) (n : Nat), (match forL (puF a) l n with | .inl n => n | .inr n => n) ≤ n + l.length := by
  intro l
  induction l with
  | nil => intro n; simp [forL]
  | cons y l ih =>
   intro n
   simp only [forL, puF, Di]
   cases befA y a
   ·simp
   ·have := ih (n + 1); simp only [cond_true]; omega
 have := key out 0
 unfold puP
 omega
theorem put_f {out : List AttT} (hl : am out) (hb : out.length ≤ 1000000) {a : AttT} (hp : puP out a ≤ (out.map Ci).length) : (Ev B7 Γ0 77 [ab (out.map Ci), ag a.row] [] (ab ((pP out a).map Ci)) []) := by
 have hl0 := (@pu_cw (out) (hl) (a))
 let v0 : List D := [int a.course, int a.term, int a.grade, int a.campus, int a.credits]
 let v1 := DU (Cf 0) (B6 Ci out)
 let v2 := Cb (B6 Ci out)
 let v3 := B6 Ci (pP out a)
 refine Cj (Ev.post (d2 := ab v3) (h2 := []) (φ := [B6 (fun x => B6 Ei x) (CY (Cf (↑(puP out a) : Int) - Cf 0) v1) ++ [v0] ++ B6 (fun x => B6 Ei x) (CY (Cf (↑v2 : Int) - Cf (↑(puP out a) : Int)) (DU (Cf (↑(puP out a) : Int)) (B6 Ci out))) = B6 (fun x => B6 Ei x) v3, [v0] = [v0]]) [.st (.frz 1 v3), .st (.trim 0)] (Ev.of_sym (h' := [.var v0, .vec (B6 (fun x => B6 Ei x) (CY (Cf (↑(puP out a) : Int) - Cf 0) v1) ++ [v0] ++ B6 (fun x => B6 Ei x) (CY (Cf (↑v2 : Int) - Cf (↑(puP out a) : Int)) (DU (Cf (↑(puP out a) : Int)) (B6 Ci out)))) 3 5, .vec [v0] 0 5]) (d := .ref (.vec 1 3)) pok [.sum [0, 3, 5] (CE 0) { t := mkT 54 0 [(0, ab (B6 Ci out)), (3, .ref (.ptr 0 0)), (5, int (↑(puP out a) : Int))], h := [.var v0], m := [] }, .lateO] (by kernel_rfl) (.c hl0 (.c (show (kX 0 (↑(puP out a) : Int) v2 && true && (true || Option.isSome (Option.map (evalD Γ0 (mkT 54 0 [(0, ab (B6 Ci out)), (3, .ref (.ptr 0 0)), (5, int (↑(puP out a) : Int)), (43, ab (B6 Ci out)), (44, int (↑(puP out a) : Int))])) (some (Hf 44)))) && Cx (B6 Ci out) fun r => decide (Cb r = 5)) = true from ?_) (.c (show (Cx (B6 (fun x => B6 Ei x) (CY (Cf (↑(puP out a) : Int) - Cf 0) v1)) (aO 5) && roomOk (Cb ([] : List (List D)) + Cb (B6 (fun x => B6 Ei x) (CY (Cf (↑(puP out a) : Int) - Cf 0) v1))) 40) = true from ?_) (.c (show (Cx [v0] (aO 5) && roomOk (Cb (B6 (fun x => B6 Ei x) (CY (Cf (↑(puP out a) : Int) - Cf 0) v1)) + Cb [v0]) 40) = true from ?_) (.c (show (kX (↑(puP out a) : Int) (↑v2 : Int) v2 && true && (true || false) && Cx (B6 Ci out) fun r => decide (Cb r = 5)) = true from ?_) (.c (show (Cx (B6 (fun x => B6 Ei x) (CY (Cf (↑v2 : Int) - Cf (↑(puP out a) : Int)) (DU (Cf (↑(puP out a) : Int)) (B6 Ci out)))) (aO 5) && roomOk (Cb (B6 (fun x => B6 Ei x) (CY (Cf (↑(puP out a) : Int) - Cf 0) v1) ++ [v0]) + Cb (B6 (fun x => B6 Ei x) (CY (Cf (↑v2 : Int) - Cf (↑(puP out a) : Int)) (DU (Cf (↑(puP out a) : Int)) (B6 Ci out))))) 40) = true from ?_) (.c (show Cx [] (CT 1) = true from rfl) (.c (show Cx [] (CT 2) = true from rfl) (.c (show Cx [] (CT 2) = true from rfl) (.c (show Cx (B6 (fun x => B6 Ei x) (CY (Cf (↑(puP out a) : Int) - Cf 0) v1)) (CT 2) = true from ?_) (.c (show Cx [] (CT 2) = true from rfl) (.c (show Cx (B6 (fun x => B6 Ei x) (CY (Cf (↑(puP out a) : Int) - Cf 0) v1)) (CT 3) = true from ?_) (.c (show Cx [v0] (CT 3) = true from rfl) (.c (show Cx [] (CT 3) = true from rfl) (.c (show Cx (B6 (fun x => B6 Ei x) (CY (Cf (↑(puP out a) : Int) - Cf 0) v1) ++ [v0]) (CT 3) = true from ?_) (.c (show Cx [v0] (CT 3) = true from rfl) (.c (show Cx [] (CT 3) = true from rfl) (.c (show Cx (B6 (fun x => B6 Ei x) (CY (Cf (↑(puP out a) : Int) - Cf 0) v1) ++ [v0] ++ B6 (fun x => B6 Ei x) (CY (Cf (↑v2 : Int) - Cf (↑(puP out a) : Int)) (DU (Cf (↑(puP out a) : Int)) (B6 Ci out)))) (CT 3) = true from ?_) (.c (show Cx [v0] (CT 3) = true from rfl) (.c (show Cx [] (CT 3) = true from rfl) (.c (show Cx [v0] (CT 1) = true from rfl) (.c (show Cx [] (CT 2) = true from rfl) (.c (show Cx [v0] (CT 2) = true from rfl) (.c (show Cx (B6 (fun x => B6 Ei x) (CY (Cf (↑(puP out a) : Int) - Cf 0) v1)) (CT 2) = true from ?_) (.c (show Cx [v0] (CT 2) = true from rfl) (.c (show Cx (B6 (fun x => B6 Ei x) (CY (Cf (↑(puP out a) : Int) - Cf 0) v1)) (CT 3) = true from ?_) (.c (show Cx [v0] (CT 3) = true from rfl) (.c (show Cx [v0] (CT 3) = true from rfl) (.c (show Cx (B6 (fun x => B6 Ei x) (CY (Cf (↑(puP out a) : Int) - Cf 0) v1) ++ [v0]) (CT 3) = true from ?_) (.c (show Cx [v0] (CT 3) = true from rfl) (.c (show Cx [v0] (CT 3) = true from rfl) (.c (show Cx (B6 (fun x => B6 Ei x) (CY (Cf (↑(puP out a) : Int) - Cf 0) v1) ++ [v0] ++ B6 (fun x => B6 Ei x) (CY (Cf (↑v2 : Int) - Cf (↑(puP out a) : Int)) (DU (Cf (↑(puP out a) : Int)) (B6 Ci out)))) (CT 3) = true from ?_) (.c (show Cx [v0] (CT 3) = true from rfl) (.c (show Cx [v0] (CT 3) = true from rfl) (.e (ag (Ci a)) (.e (ag (Ci a)) (.e (ag (Ci a)) .n)))))))))))))))))))))))))))))))))))))) (by kernel_rfl) ⟨?_, rfl, trivial⟩) (by rfl) (by rfl) <;> subst v0 v1 v2 v3 <;> (first | assumption | rfl | exact aR _ _ | exact re rfl | exact wM rfl | exact wJ hp (wO _) | exact wK hp (wO _) | (refine zO (BP _) ?_ ?_ <;> simp <;> omega) | (rw [wP]; exact wL rfl) | (simp [aO, D.one, CX, roomOk]; omega) | (simp; done))
theorem zR {out : List AttT} (hb : out.length ≤ 1000000) {a : AttT} (h : List Blk) : Ev B7 Γ0 77 [ab (out.map Ci), ag a.row] h (ab ((pP out a).map Ci)) h :=
 Ev.frame0 rfl (put_f (by unfold am; omega) hb (by rw [DR]; exact zQ out a)) h
end Go.Vi
open Go Go.Proofs
namespace Go.Vi
set_option maxRecDepth 100000
set_option maxHeartbeats 4000000
end Go.Vi
open Go Go.Proofs
namespace Go.Vi
set_option maxRecDepth 100000
set_option maxHeartbeats 4000000
end Go.Vi
open Go Go.Proofs
namespace Go.Vi
set_option maxRecDepth 100000
set_option maxHeartbeats 4000000
end Go.Vi
open Go Go.Proofs Go.Shelf
namespace Go.Proofs
end Go.Proofs
namespace Go.Vi
open Go.Sort
set_option maxRecDepth 100000
set_option maxHeartbeats 4000000
end Go.Vi
open Go Go.Proofs
namespace Go.Vi
end Go.Vi
open Go Go.Proofs
namespace Go.Vi
set_option maxRecDepth 100000
set_option maxHeartbeats 4000000
end Go.Vi
open Go Go.Proofs
namespace Go.Vi
set_option maxRecDepth 100000
set_option maxHeartbeats 4000000
end Go.Vi
open Go Go.Proofs
namespace Go.Vi
set_option maxRecDepth 100000
set_option maxHeartbeats 4000000
end Go.Vi
open Go Go.Proofs
namespace Go.Vi
set_option maxRecDepth 100000
set_option maxHeartbeats 4000000
end Go.Vi
open Go Go.Proofs
namespace Go.Vi
set_option maxRecDepth 100000
set_option maxHeartbeats 4000000
end Go.Vi
open Go Go.Proofs
namespace Go.Vi
set_option maxRecDepth 100000
set_option maxHeartbeats 4000000
end Go.Vi
open Go Go.Proofs
namespace Go.Vi
set_option maxRecDepth 100000
set_option maxHeartbeats 4000000
end Go.Vi
open Go Go.Proofs
namespace Go.Vi
set_option maxRecDepth 100000
set_option maxHeartbeats 4000000
end Go.Vi
open Go Go.Proofs
namespace Go.Vi
set_option maxRecDepth 100000
set_option maxHeartbeats 4000000
theorem yM {w : WorldT} (hw : w.ok) {known st term : Int} : (wC w known st term).length ≤ 70656000 := by
 have := mq hw (known := known) (st := st) (term := term)
 unfold wC
 simpa using this
end Go.Vi
open Go Go.Proofs
namespace Go.Vi
set_option maxRecDepth 100000
set_option maxHeartbeats 4000000
end Go.Vi
open Go Go.Proofs
namespace Go.Vi
set_option maxRecDepth 100000
set_option maxHeartbeats 4000000
end Go.Vi
open Go Go.Proofs
namespace Go.Vi
set_option maxRecDepth 100000
set_option maxHeartbeats 4000000
def kK (w : WorldT) : Bool := decide ((w.f.map Ch).length ≤ (30 : Int)) && decide ((w.c.map Cp).length ≤ (20 : Int)) && decide (w.p.length ≤ (8 : Int)) && decide ((w.s.map SysT.row).length ≤ (6 : Int))
theorem sS {w : WorldT} (h : List Blk) : (Ev B7 Γ0 18 [.agg w.l] h (bool (kK w)) h) := by
 exact Cj (Cn (d := bool (decide ((↑(Cb (B6 Ch w.f)) : Int) ≤ 30) && decide ((↑(Cb (B6 Cp w.c)) : Int) ≤ 20) && decide ((↑(Cb w.p) : Int) ≤ 8) && decide ((↑(Cb (B6 SysT.row w.s)) : Int) ≤ 6))) pok [] (by kernel_rfl) .n rfl rfl h) (by rfl) (by rfl)
def rg (a b : AttT) : Bool := !(a.course == b.course && (a.term == b.term && (a.grade == b.grade && (a.campus == b.campus && (a.credits == b.credits && true)))))
abbrev smS (l l2 : List (List Dp)) (i : Int) : AS := { t := mkT 26 0 [(0, ab l), (1, ab l2), (4, bool false), (5, int i)], h := [], m := [] }
abbrev smX : Unit → Exit × AS := fun _ => (.ret, { t := mkT 26 0 [(4, bool false)], h := [], m := [] })
def smF (p : AttT × AttT) (_ : Unit) : Unit ⊕ Unit := bif rg p.1 p.2 then .inr () else .inl ()
theorem BQ {l l2 : List (List Dp)} {a b : AttT} {i : Nat} (hr : aH (i : Int) l a.row 5) (hr2 : aH (i : Int) l2 b.row 5) (hlt : decide ((i : Int) < (l.length : Int)) = true) (hw : B8.wrap ((i : Int) + 1) = ((i + 1 : Nat) : Int)) : (CW B7 Γ0 [] false (sub Hv 0) (smS l l2 i) (ad (fun _ => smS l l2 ((i + 1 : Nat) : Int)) smX (smF (a, b) ())).1 (ad (fun _ => smS l l2 ((i + 1 : Nat) : Int)) smX (smF (a, b) ())).2) := by
 cases hc0 : !(a.course == b.course && (a.term == b.term && (a.grade == b.grade && (a.campus == b.campus && (a.credits == b.credits && true)))))
 ·refine Ct (Cu (s' := { t := mkT 26 0 [(0, ab l), (1, ab l2), (4, bool false), (5, int (Cc B8 ((↑i : Int) + 1)))], h := [], m := [] }) (e := Cq) pok [.st (.mask [0, 1, 4, 5])] [.b true, .row (Ci a), .row (Ci b), .b false] (by kernel_rfl) (.c hlt (.c hr (.c hr2 (.c hc0 .n))))) ?_ ?_ <;> (first | (have hh : rg a b = true := hc0; simp only [smF, hh, cond_true, ad]; first | done | rfl) | (have hh : rg a b = false := hc0; simp only [smF, hh, cond_false, ad, hw]; first | done | rfl))
 ·refine Ct (Cu (s' := { t := mkT 26 0 [(4, bool false)], h := [], m := [] }) (e := Exit.ret) pok [.st (.mask [4])] [.b true, .row (Ci a), .row (Ci b), .b true] (by kernel_rfl) (.c hlt (.c hr (.c hr2 (.c hc0 .n))))) ?_ ?_ <;> (first | (have hh : rg a b = true := hc0; simp only [smF, hh, cond_true, ad]; first | done | rfl) | (have hh : rg a b = false := hc0; simp only [smF, hh, cond_false, ad, hw]; first | done | rfl))
theorem BR {l l2 : List (List Dp)} {i : Nat} (hlt : decide ((i : Int) < (l.length : Int)) = false) : (CW B7 Γ0 [] false (sub Hv 0) (smS l l2 i) (.exit 0) { t := mkT 26 0 [], h := [], m := [] }) := by
 exact Ct (Cu (s' := { t := mkT 26 0 [], h := [], m := [] }) (e := CE 0) pok [.st (.mask [])] [.b false] (by kernel_rfl) (.c hlt .n)) (by rfl) (by rfl)
def BS (l l2 : List AttT) : Exit × AS := bn (.exit 0) (fun _ : Unit => { t := mkT 26 0 [], h := [], m := [] }) smX (forL smF (l.zip l2) ())
theorem sm_cw {l l2 : List AttT} (he : l.length = l2.length) (hl : am l) :
  CW B7 Γ0 [] false (.loop (sub Hv 0)) (smS (l.map Ci) (l2.map Ci) 0) (BS l l2).1 (BS l l2).2 := by
 have hlen : (l.zip l2).length = l.length := by simp [he]
 have := Eo (P := B7) (Γ := Γ0) (h0 := []) (rd := false) (c := sub Hv 0) (l.zip l2) smF (fun i _ => smS (l.map Ci) (l2.map Ci) (i : Int)) (.exit 0) (fun _ : Unit => { t := mkT 26 0 [], h := [], m := [] }) smX (fun _ _ => True) (by simp) (fun _ => by simp) ?_ ?_ () trivial
 ·exact this
 ·intro i p u hp _
  obtain ⟨hi, hpe⟩ := Ce.1 hp
  rw [hlen] at hi
  have h1 : l[i]? = some p.1 := by subst hpe; simp [Cv hi]
  have h2 : l2[i]? = some p.2 := by subst hpe; simp [Cv (he ▸ hi)]
  exact ⟨fun _ _ => trivial, BQ (rowAt h1 rfl) (rowAt h2 rfl) (lt_len Ci hi) (wrap_succ hi hl)⟩
 ·intro u _
  rw [hlen]
  exact BR (bM Ci l)
def pD (l l2 : List AttT) : Bool := match forL smF (l.zip l2) () with
 | .inl _ => true
 | .inr _ => false
theorem BT {l l2 : List AttT} (he : l.length = l2.length) (hl : am l) (hn : (((l.map Ci).length : Int) != ((l2.map Ci).length : Int)) = false) (h : List Blk) : (Ev B7 Γ0 24 [ab (l.map Ci), ab (l2.map Ci)] h (bool (pD l l2)) h) := by
 have hl0 := (@sm_cw (l) (l2) (he) (hl))
 unfold BS at hl0
 revert hl0
 cases ho1 : forL smF (List.zip l l2) () with
 | inl o1_0_0 =>
  intro hl0
  exact Cj (Cn (d := bool true) pok [.b false, .sum [0, 1, 4, 5] (CE 0) { t := mkT 26 0 [], h := [], m := [] }] (by kernel_rfl) (.c hn (.c hl0 .n)) rfl rfl h) (by simp only [pD, ho1]; first | done | rfl) (by rfl)
 | inr o1_1_0 =>
  intro hl0
  exact Cj (Cn (d := bool false) pok [.b false, .sum [0, 1, 4, 5] (Exit.ret) { t := mkT 26 0 [(4, bool false)], h := [], m := [] }] (by kernel_rfl) (.c hn (.c hl0 .n)) rfl rfl h) (by simp only [pD, ho1]; first | done | rfl) (by rfl)
theorem rj (l : List AttT) : pD l l = true := by
 have key : ∀ l : List AttT, forL smF (l.zip l) () = .inl () := by
  intro l
  induction l with
  | nil => rfl
  | cons a l ih =>
   have : rg a a = false := by simp [rg]
   simp only [List.zip_cons_cons, forL, smF, this, cond_false]
   exact ih
 simp [pD, key]
theorem wQ {l l2 : List AttT} (he : l = l2) (hl : am l) (h : List Blk) : Ev B7 Γ0 24 [ab (l.map Ci), ab (l2.map Ci)] h (bool true) h := by
 subst he
 have := BT (l := l) (l2 := l) rfl hl (by simp) h
 rwa [rj] at this
end Go.Vi
open Go Go.Proofs
namespace Go.Vi
set_option maxRecDepth 100000
set_option maxHeartbeats 4000000
end Go.Vi
open Go Go.Proofs
namespace Go.Vi
set_option maxRecDepth 100000
set_option maxHeartbeats 40000
def few (s : Vi.Sys) : Bool := decide (B8.wrap (B8.wrap (B8.wrap (((s.classes.map Cls.row).length : Int) + ((s.fees.map FeeT.row).length : Int)) + ((s.honours.map Cls.row).length : Int)) + (s.clauses.length : Int)) ≤ 40)
end Go.Vi
open Go Go.Proofs
namespace Go.Vi
set_option maxRecDepth 100000
set_option maxHeartbeats 0
end Go.Vi
open Go Go.Proofs
namespace Go.Vi
set_option maxRecDepth 100000
set_option maxHeartbeats 4000000
attribute [local irreducible] few
end Go.Vi
open Go Go.Proofs
namespace Go.Vi
set_option maxRecDepth 100000
end Go.Vi
open Go Go.Proofs
namespace Go.Vi
set_option maxRecDepth 100000
structure WorldT.ok0 (w : WorldT) : Prop where
 c : ∀ x ∈ w.c, x.ok
 s : ∀ x ∈ w.s, x.ok
 lc : am w.c
 ls : am w.s
 i : ∀ f ∈ w.f, f.ok
end Go.Vi
open Go Go.Proofs
namespace Go.Vi
set_option maxRecDepth 100000
set_option maxHeartbeats 4000000
def ptEq (a b : PtT) : Bool := a.term == b.term && (a.value == b.value && true)
def epF (p : PtT × PtT) (_ : Unit) : Unit ⊕ Unit := if (!ptEq p.1 p.2) = true then .inr () else .inl ()
def epR (xs ys : List PtT) : Unit ⊕ Unit := forL epF (xs.zip ys) ()
def eqPts (xs ys : List PtT) : Bool := if (((xs.map Dn).length : Int) != ((ys.map Dn).length : Int)) = true then false else match epR xs ys with | .inl _ => true | .inr _ => false
def ptsAt (l : List FactT) (r : ReadT) (known : Int) : List PtT := bg r.kind r.sub r.obj r.frm r.til known l
attribute [local irreducible] ptsAt eqPts
end Go.Vi
open Go Go.Proofs
namespace Go.Vi
set_option maxRecDepth 100000
set_option maxHeartbeats 4000000
abbrev srS (l : List (List Dp)) (i : Int) : AS := { t := mkT 26 0 [(0, ab l), (1, ab l), (4, bool false), (5, int i)], h := [], m := [] }
theorem rdself (r : ReadT) : (!(r.kind == r.kind && (r.sub == r.sub && (r.obj == r.obj && true)) && (r.frm == r.frm && (r.til == r.til && true)))) = false := by simp
theorem yN {l : List (List Dp)} {r : ReadT} {i : Nat} (hr : aH (i : Int) l r.row 5) (hz : (!(r.kind == r.kind && (r.sub == r.sub && (r.obj == r.obj && true)) && (r.frm == r.frm && (r.til == r.til && true)))) = false) (hlt : decide ((i : Int) < (l.length : Int)) = true) (hw : B8.wrap ((i : Int) + 1) = ((i + 1 : Nat) : Int)) : (CW B7 Γ0 [] false (sub Tryz.f22 0) (srS l i) .normal (srS l ((i + 1 : Nat) : Int))) := by
 refine Ct (Cu (s' := { t := mkT 26 0 [(0, ab l), (1, ab l), (4, bool false), (5, int (Cc B8 ((↑i : Int) + 1)))], h := [], m := [] }) (e := Cq) pok [.st (.mask [0, 1, 4, 5])] [.b true, .row [vi r.kind, vi r.sub, vi r.obj, vi r.frm, vi r.til], .row [vi r.kind, vi r.sub, vi r.obj, vi r.frm, vi r.til], .b false] (by kernel_rfl) (.c hlt (.c hr (.c hr (.c hz .n))))) ?_ ?_ <;> (first | rfl | (rw [hw]))
theorem yO {l : List (List Dp)} {i : Nat} (hlt : decide ((i : Int) < (l.length : Int)) = false) : (CW B7 Γ0 [] false (sub Tryz.f22 0) (srS l i) (.exit 0) { t := mkT 26 0 [], h := [], m := [] }) := by
 exact Ct (Cu (s' := { t := mkT 26 0 [], h := [], m := [] }) (e := CE 0) pok [.st (.mask [])] [.b false] (by kernel_rfl) (.c hlt .n)) (by rfl) (by rfl)
theorem srr_cw {l : List ReadT} (hl : am l) : CW B7 Γ0 [] false (.loop (sub Tryz.f22 0)) (srS (rdR l) 0) (.exit 0) { t := mkT 26 0 [], h := [], m := [] } := by
 refine CW.loopN l.length (fun i => srS (rdR l) (i : Int)) (by simp) (fun i hi => ?_) ?_
 ·exact yN (rowAt (Cv hi) rfl) (rdself _) (lt_len ReadT.row hi) (wrap_succ hi hl)
 ·exact yO (bM ReadT.row l)
theorem rn {l : List ReadT} (hl : am l) (hn : (((rdR l).length : Int) != ((rdR l).length : Int)) = false) (h : List Blk) : (Ev B7 Γ0 22 [ab (rdR l), ab (rdR l)] h (bool true) h) := by
 have hl0 := (@srr_cw (l) (hl))
 exact Cj (Cn (d := bool true) pok [.b false, .sum [0, 1, 4, 5] (CE 0) { t := mkT 26 0 [], h := [], m := [] }] (by kernel_rfl) (.c hn (.c hl0 .n)) rfl rfl h) (by rfl) (by rfl)
noncomputable abbrev pE (r : RecT) : List Blk := [.var [int r.st, ab (B6 Ci r.a)], .var [int r.st, ab (B6 Ci r.a)]]
theorem wR {r : RecT} (hs : ∀ h, Ev B7 Γ0 24 [ab (r.a.map Ci), ab (r.a.map Ci)] h (bool true) h) (h : List Blk) : (Ev B7 Γ0 29 [.agg [int r.st, ab (r.a.map Ci)], .agg [int r.st, ab (r.a.map Ci)]] h (bool true) h) := by
 exact Cj (Cn (d := bool (r.st == r.st && true)) pok [.val (bool true)] (by kernel_rfl) (.c (gd (r.st == r.st) (@hs (pE r))) .n) rfl rfl h) (by first | rfl | simp) (by rfl)
theorem tZ {st : Int} {l : List AttT} (hl : am l) (h : List Blk) : Ev B7 Γ0 29 [.agg [int st, ab (l.map Ci)], .agg [int st, ab (l.map Ci)]] h (bool true) h := wR (r := ⟨st, l⟩) (fun h => wQ rfl hl h) h
theorem rdne (l : List ReadT) : (((rdR l).length : Int) != ((rdR l).length : Int)) = false := by simp
end Go.Vi
open Go Go.Proofs
namespace Go.Vi
set_option maxRecDepth 100000
def wS : List Dp → Option FactT
 | [.v (.int .i64 a), .v (.int .i64 b), .v (.int .i64 c), .v (.int .i64 d), .v (.int .i64 e), .v (.int .i64 f), .v (.int .i64 g), .v (.int .i64 i)] => some ⟨a, b, c, d, e, f, g, i⟩
 | _ => none
def kL : List (List Dp) → Option (List FactT)
 | [] => some []
 | r :: rs => match wS r, kL rs with
  | some x, some xs => some (x :: xs)
  | _, _ => none
theorem wT {r : List Dp} {f : FactT} (h : wS r = some f) : r = f.row := by
 unfold wS at h
 split at h
 ·cases h; rfl
 ·simp at h
theorem mt : ∀ {rs : List (List Dp)} {fs : List FactT}, kL rs = some fs → rs = fs.map Ch
 | [], fs, h => by simp only [kL, B5] at h; subst h; rfl
 | r :: rs, fs, h => by
  simp only [kL] at h
  split at h
  ·rename_i x xs h1 h2
   simp only [B5] at h
   subst h
   rw [wT h1, mt h2]; rfl
  ·simp at h
def vlAt (s : VS) (n : Nat) : Int := bif s.2.getD n false then maxV (s.1.getD n default).value else -1
def nK (kk ks ko known : Int) (l : List FactT) : List Int := (C1 1024).map (vlAt (l.foldl (vaGo kk ks ko known) vZ))
theorem t6 (s : VS) (rs : List Int) (h : rs.length = 1024) (n i : Nat) : (vlStep s rs n).getD i 0 = if i = n ∧ n < 1024 then vlAt s n else rs.getD i 0 := by
 unfold vlAt vlStep
 by_cases hn : n < 1024
 ·by_cases hi : i = n
  ·subst hi
   cases s.2.getD i false <;> simp [Cl, h, hn]
  ·have hi' : n ≠ i := fun e => hi e.symm
   cases s.2.getD n false <;> simp [Cl, hi, hi']
 ·cases s.2.getD n false <;> simp [Cl, hn, List.set_eq_of_length_le (show rs.length ≤ n by omega)]
theorem t7 (s : VS) (rs : List Int) (n : Nat) : (vlStep s rs n).length = rs.length := by
 unfold vlStep; cases s.2.getD n false <;> simp
theorem mu (kk ks ko known : Int) (l : List FactT) : bh kk ks ko known l = nK kk ks ko known l := by
 unfold bh nK pv
 generalize l.foldl (vaGo kk ks ko known) vZ = s
 have hz : (C0 1024 (0 : Int)).length = 1024 := List.length_replicate ..
 have hz2 : ∀ i, (C0 1024 (0 : Int)).getD i 0 = 0 := fun i => by
  rw [Cl, List.getElem?_replicate]; split <;> rfl
 revert hz hz2
 generalize C0 1024 (0 : Int) = z
 intro hz hz2
 have key : ∀ m, m ≤ 1024 → ((C1 m).foldl (vlStep s) z).length = 1024 ∧ ∀ i, ((C1 m).foldl (vlStep s) z).getD i 0 = if i < m then vlAt s i else 0 := by
  intro m
  induction m with
  | zero => intro _; exact ⟨hz, fun i => by rw [if_neg (Nat.not_lt_zero i)]; exact hz2 i⟩
  | succ m ih =>
   intro hm
   obtain ⟨h1, h2⟩ := ih (by omega)
   rw [List.range_succ, List.foldl_append]
   simp only [DG, List.foldl_nil]
   refine ⟨by rw [t7]; exact h1, fun i => ?_⟩
   rw [t6 s _ h1, h2]
   by_cases hi : i = m
   ·subst hi
    rw [if_pos ⟨rfl, by omega⟩, if_pos (by omega)]
   ·rw [if_neg (fun h => hi h.1)]
    by_cases hlt : i < m
    ·rw [if_pos hlt, if_pos (by omega)]
    ·rw [if_neg hlt, if_neg (by omega)]
 obtain ⟨h1, h2⟩ := key 1024 (Nat.le_refl _)
 refine List.ext_getElem (by rw [h1]; simp) fun i hi1 hi2 => ?_
 have := h2 i
 rw [Cl, Cv hi1] at this
 rw [h1] at hi1
 rw [if_pos hi1] at this
 simpa using this
def zS (n : Nat) : Bool := Nat.blt n 1000000
def wvGo (args : List D) (h : List Blk) : List D → Option CR
 | [.p (.sl rows), .agg [.p (.v (.int .i64 kk)), .p (.v (.int .i64 ks)), .p (.v (.int .i64 ko))], .p (.v (.int .i64 known))] => match kL rows with
  | some l => match zS l.length with
   | true => some (.ret (.agg ((nK kk ks ko known l).map int)) h)
   | false => none
  | none => none
 | _ => none
def wv : FnF := fun f args h => match Nat.beq f 159 with
 | true => wvGo args h (tA h args)
 | false => none
theorem pF : ∀ l : List Int, qx (l.map int) = true
 | [] => rfl
 | _ :: l => by simp [qx, iE, pF l]
theorem wU (l : List Int) : (ba l).flatten = l.map int := by
 unfold ba
 induction l with
 | nil => rfl
 | cons a l ih => simp only [List.map_cons, List.flatten_cons, ih]; rfl
theorem t8 {Γ : ak} : xz B7 Γ wv := by
 intro f args h r hw
 unfold wv at hw
 split at hw
 ·rename_i hf
  have hf := Nat.eq_of_beq_eq_true hf
  subst hf
  refine ⟨by kernel_rfl, ?_⟩
  unfold wvGo at hw
  split at hw
  ·rename_i rows kk ks ko known hfr
   split at hw
   ·rename_i l hl
    split at hw
    ·rename_i hs
     cases hw
     refine VRes.of_ev (Ev.frzArgs (by rw [hfr]; rfl) (pF _) ?_)
     rw [hfr, mt hl]
     have hsh : am l := by
      unfold zS at hs
      have : l.length < 1000000 := by simpa [Nat.blt_eq] using hs
      unfold am; omega
     have := py (kk := kk) (ks := ks) (ko := ko) (known := known) hsh []
     rw [wU, mu] at this
     exact Ev.glob0 this
    ·simp at hw
   ·simp at hw
  ·simp at hw
 ·simp at hw
end Go.Vi
open Go Go.Proofs
namespace Go.Vi
theorem nL {α : Type} {l : List α} {n t : Nat} {x z : α} (hn : n < l.length) : (l.set n x).getD t z = if t = n then x else l.getD t z := by
 by_cases h : t = n
 ·subst h; simp [Cl, hn]
 ·have : n ≠ t := fun e => h e.symm
  simp [Cl, h, this]
theorem wV {f : FactT} {s : VS} (hs : s.ok) {n t : Nat} (hn : n < 1024) : ((eS f s n).1.getD t default, (eS f s n).2.getD t false) = if t = n ∧ vaHit f (s.1.getD t default) (s.2.getD t false) = true then (f, true) else (s.1.getD t default, s.2.getD t false) := by
 unfold eS
 by_cases ht : t = n
 ·subst ht
  cases h : vaHit f (s.1.getD t default) (s.2.getD t false)
  ·simp
  ·simp only [cond_true, and_self, if_true]
   rw [nL (by rw [hs.1]; exact hn), nL (by rw [hs.2]; exact hn)]
   simp
 ·cases h : vaHit f (s.1.getD n default) (s.2.getD n false)
  ·simp [ht]
  ·simp only [cond_true, ht, false_and, if_false]
   rw [nL (by rw [hs.1]; exact hn), nL (by rw [hs.2]; exact hn)]
   simp [ht]
theorem mw {f : FactT} {t : Nat} : ∀ (ns : List Nat) (s : VS), s.ok → ns.Nodup → (∀ n ∈ ns, n < 1024) → ((ns.foldl (eS f) s).1.getD t default, (ns.foldl (eS f) s).2.getD t false) = if t ∈ ns ∧ vaHit f (s.1.getD t default) (s.2.getD t false) = true then (f, true) else (s.1.getD t default, s.2.getD t false)
 | [], s, _, _, _ => by simp
 | n :: ns, s, hs, hd, hb => by
  rw [List.nodup_cons] at hd
  have hn := hb n (by simp)
  have h1 := wV (f := f) hs (t := t) hn
  have h2 := mw (f := f) (t := t) ns (eS f s n) (vaStep_ok n hs) hd.2 (fun m hm => hb m (by simp [hm]))
  rw [DG, h2]
  have e1 := congrArg Prod.fst h1
  have e2 := congrArg Prod.snd h1
  simp only at e1 e2
  by_cases ht : t = n
  ·subst ht
   rw [if_neg (fun h => hd.1 h.1), h1]
   simp
  ·simp only [ht, false_and, if_false] at e1 e2
   rw [e1, e2]
   simp [ht]
theorem BU {kk ks ko known : Int} {t : Nat} (ht : t < 1024) (f : FactT) {s : VS} (hs : s.ok) : ((vaGo kk ks ko known s f).1.getD t default, (vaGo kk ks ko known s f).2.getD t false) = nB kk ks ko (t : Int) known (s.1.getD t default, s.2.getD t false) f := by
 unfold vaGo nB
 cases ofIs kk ks ko known f
 ·rfl
 ·simp only [cond_true]
  unfold vaF wl
  have hlo : 0 ≤ Bl f ∧ (Bl f = f.frm ∨ (Bl f = 0 ∧ f.frm ≤ 0)) := by unfold Bl; simp; split <;> omega
  have hhi : tP f ≤ 1024 ∧ (tP f = f.til ∨ (tP f = 1024 ∧ 1024 ≤ f.til)) := by unfold tP; split <;> omega
  rw [mw _ _ hs (List.nodup_range' ..) (by intro n hn; rw [List.mem_range'_1] at hn; omega)]
  unfold bN qC
  have hm : (t ∈ List.range' (Bl f).toNat (tP f - Bl f).toNat) ↔ f.frm ≤ (t : Int) ∧ (t : Int) < f.til := by
   rw [List.mem_range'_1]; omega
  have hv : (!s.2.getD t false || decide (orI (aK f.known (s.1.getD t default).known) (aK f.no (s.1.getD t default).no) ≥ 0)) = vaHit f (s.1.getD t default) (s.2.getD t false) := rfl
  rw [hv]
  by_cases h1 : f.frm ≤ (t : Int) ∧ (t : Int) < f.til
  ·cases h2 : vaHit f (s.1.getD t default) (s.2.getD t false)
   ·simp
   ·simp [hm.2 h1, h1.1, h1.2]
  ·rw [if_neg (fun h => h1 (hm.1 h.1))]
   have : (decide (f.frm ≤ (t : Int)) && decide ((t : Int) < f.til)) = false := by
    cases hq : (decide (f.frm ≤ (t : Int)) && decide ((t : Int) < f.til))
    ·rfl
    ·simp at hq; exact absurd hq h1
   simp [this]
theorem wW {kk ks ko known : Int} {t : Nat} (ht : t < 1024) : ∀ (l : List FactT) (s : VS), s.ok → ((l.foldl (vaGo kk ks ko known) s).1.getD t default, (l.foldl (vaGo kk ks ko known) s).2.getD t false) = l.foldl (nB kk ks ko (t : Int) known) (s.1.getD t default, s.2.getD t false)
 | [], _, _ => rfl
 | f :: l, s, hs => by
  rw [DG, DG, wW ht l _ (vaGo_ok f hs), BU ht f hs]
theorem ro {kk ks ko known : Int} {l : List FactT} {t : Nat} (ht : t < 1024) : (bh kk ks ko known l).getD t 0 = vlAt (l.foldl (vaGo kk ks ko known) vZ) t := by
 rw [mu]
 unfold nK
 simp [Cl, ht]
theorem wX {α : Type} {n t : Nat} {x z : α} (h : t < n) : (C0 n x).getD t z = x := by simp [Cl, h]
def atV (v : Int) : Int × Bool := bif decide (v < 0) then (0, false) else (v, true)
theorem wY {kk ks ko known : Int} {l : List FactT} {t : Nat} (ht : t < 1024) : atR kk ks ko (t : Int) known l = atV ((bh kk ks ko known l).getD t 0) := by
 have h := wW (kk := kk) (ks := ks) (ko := ko) (known := known) ht l vZ Br
 have hz : (vZ.1.getD t default, vZ.2.getD t false) = (fz, false) := by unfold vZ; rw [wX ht, wX ht]
 rw [hz] at h
 rw [ro ht]
 unfold atR vlAt
 rw [← h]
 simp only
 cases (l.foldl (vaGo kk ks ko known) vZ).2.getD t false
 ·rfl
 ·simp only [Bool.not_true, DQ, cond_true, maxV, if_true, atV]
  generalize ((l.foldl (vaGo kk ks ko known) vZ).1.getD t default).value = v
  by_cases hv : v < 0
  ·simp only [hv, decide_true, cond_true]
   split
   ·rfl
   ·simp [hv]
  ·have : ¬ -1 > v := by omega
   simp [hv, this]
end Go.Vi
open Go Go.Proofs
namespace Go.Vi
set_option maxRecDepth 100000
set_option maxHeartbeats 4000000
end Go.Vi
open Go Go.Proofs
namespace Go.Vi
theorem nM (a b : AttT) : leA a b = true ↔ (a.term < b.term ∨ (a.term = b.term ∧ a.course ≤ b.course)) := by
 have h1 : leA a b = true ↔ (ltOf uj) b a = false := by unfold leA; simp
 rw [h1, kH]
 omega
theorem wZ (a b c : AttT) (h1 : leA a b = true) (h2 : leA b c = true) : leA a c = true := by
 rw [nM] at *; omega
theorem w6 (a b : AttT) : (leA a b || leA b a) = true := by
 rw [Bool.or_eq_true, nM, nM]; omega
theorem rp {w : WorldT} {known st term : Int} : (wC w known st term).Pairwise fun a b => leA a b = true := GU wZ w6 _
theorem recA_perm {w : WorldT} {known st term : Int} : (wC w known st term).Perm (dR w known st term) := F8 _ _
end Go.Vi
open Go Go.Proofs
namespace Go.Vi
set_option maxRecDepth 100000
set_option maxHeartbeats 4000000
end Go.Vi
open Go Go.Proofs
namespace Go.Vi
set_option maxRecDepth 1000000
set_option maxHeartbeats 0
def s16w0 : Memo := ⟨60, [.ref (.ptr 76 0), int 3, int 3], [.gone, .gone, .gone, .gone, .gone, .gone, .gone, .gone, .vec [[int 12, int 0, int 0, int 0, int 1]] 0 5, .var [int 3, nq], .var [int 0, nq], .var [nq, int 0, int 0, int 0], .vec [[int 7], [int 7]] 0 1, .var [nq, int 0, int 0, int 0], .gone, .gone, .gone, .gone, .gone, .gone, .gone, .gone, .gone, .vec [[int 12, int 0, int 0, int 0, int 1], [int 12, int 0, int 0, int 0, int 1]] 1 5, .gone, .gone, .gone, .gone, .var [nq, int 0, int 0, int 1], .var [int 5, int 3, int 7, int (-1), int 5, int 6, int 8, int 0], .var [int 5, int 3, int 7, int 25, int 2, int 3, int 9, int 0], .vec [[al ⟨#[65]⟩, int 7, int 4, int 0, int 1, int 0, al ⟨#[]⟩, int 0, int 0, nq, int 2, int 0, al ⟨#[]⟩, int 0, int 0, nq]] 0 16, .var [.ref (.vec 31 0), nq, nq, .ref (.vec 34 0)], .var [int 0, int 1024], .vec [[int 1, int 7, int 0, int 0, int 0, int 1024, int 8, int 0], [int 12, int 0, int 0, int 1, int 0, int 1024, int 8, int 1], [int 5, int 3, int 7, int 25, int 2, int 3, int 9, int 0]] 0 8, .gone, .gone, .gone, .gone, .gone, .gone, .gone, .gone, .gone, .gone, .gone, .gone, .vec [[int 12, int 0, int 0, int 0, int 1], [int 5, int 3, int 7, int 0, int 3], [int 1, int 7, int 0, int 2, int 3]] 2 5, .gone, .gone, .gone, .gone, .gone, .gone, .gone, .gone, .vec [[int 7, int 2, int 9, int 1, int 4]] 0 5, .var [int 3, .ref (.vec 56 0)], .gone, .gone, .gone, .gone, .gone, .gone, .gone, .gone, .gone, .gone, .gone, .gone, .vec [[int 12, int 0, int 0, int 0, int 1], [int 5, int 3, int 7, int 0, int 2]] 1 5, .var [int 3, nq], .vec [[int 7]] 0 1, .var [.ref (.vec 31 0), nq, nq, .ref (.vec 34 0)], .var [nq, int 0, int 0, int 0], .map [(int 7, .agg [int 7, int 0, int (-1), bool true], 0)] 1, .var [nq, .ref (.vec 31 0), nq, nq, .ref (.vec 34 0), int 9]], .ret (.agg [int 3, .ref (.vec 95 0)]) [.gone, .gone, .gone, .gone, .gone, .gone, .gone, .gone, .vec [[int 12, int 0, int 0, int 0, int 1]] 0 5, .var [int 3, nq], .var [int 0, nq], .var [nq, int 0, int 0, int 0], .vec [[int 7], [int 7]] 0 1, .var [nq, int 0, int 0, int 0], .gone, .gone, .gone, .gone, .gone, .gone, .gone, .gone, .gone, .vec [[int 12, int 0, int 0, int 0, int 1], [int 12, int 0, int 0, int 0, int 1]] 1 5, .gone, .gone, .gone, .gone, .var [nq, int 0, int 0, int 1], .var [int 5, int 3, int 7, int (-1), int 5, int 6, int 8, int 0], .var [int 5, int 3, int 7, int 25, int 2, int 3, int 9, int 0], .vec [[al ⟨#[65]⟩, int 7, int 4, int 0, int 1, int 0, al ⟨#[]⟩, int 0, int 0, nq, int 2, int 0, al ⟨#[]⟩, int 0, int 0, nq]] 0 16, .var [.ref (.vec 31 0), nq, nq, .ref (.vec 34 0)], .var [int 0, int 1024], .vec [[int 1, int 7, int 0, int 0, int 0, int 1024, int 8, int 0], [int 12, int 0, int 0, int 1, int 0, int 1024, int 8, int 1], [int 5, int 3, int 7, int 25, int 2, int 3, int 9, int 0]] 0 8, .gone, .gone, .gone, .gone, .gone, .gone, .gone, .gone, .gone, .gone, .gone, .gone, .vec [[int 12, int 0, int 0, int 0, int 1], [int 5, int 3, int 7, int 0, int 3], [int 1, int 7, int 0, int 2, int 3]] 2 5, .gone, .gone, .gone, .gone, .gone, .gone, .gone, .gone, .vec [[int 7, int 2, int 9, int 1, int 4]] 0 5, .var [int 3, .ref (.vec 56 0)], .gone, .gone, .gone, .gone, .gone, .gone, .gone, .gone, .gone, .gone, .gone, .gone, .vec [[int 12, int 0, int 0, int 0, int 1], [int 5, int 3, int 7, int 0, int 2]] 1 5, .var [int 3, nq], .vec [[int 7]] 0 1, .var [.ref (.vec 31 0), nq, nq, .ref (.vec 34 0)], .var [nq, int 0, int 0, int 0], .map [(int 7, .agg [int 7, int 0, int (-1), bool true], 0)] 1, .var [.ref (.vec 86 2), .ref (.vec 31 0), nq, nq, .ref (.vec 34 0), int 9], .gone, .gone, .gone, .gone, .gone, .gone, .gone, .gone, .gone, .vec [[int 12, int 0, int 0, int 0, int 1], [int 5, int 3, int 7, int 0, int 3], [int 1, int 7, int 0, int 2, int 3]] 2 5, .gone, .gone, .gone, .gone, .gone, .gone, .gone, .gone, .vec [[int 7, int 2, int 9, int 1, int 4]] 0 5]⟩
theorem yP : s16w0.Ok B7 Γk := E8 pok t8 (ms := []) (by kernel_rfl) trivial
def s16w1 : Memo := ⟨61, [.ref (.ptr 76 0), .ref (.vec 95 0), int 3], [.gone, .gone, .gone, .gone, .gone, .gone, .gone, .gone, .vec [[int 12, int 0, int 0, int 0, int 1]] 0 5, .var [int 3, nq], .var [int 0, nq], .var [nq, int 0, int 0, int 0], .vec [[int 7], [int 7]] 0 1, .var [nq, int 0, int 0, int 0], .gone, .gone, .gone, .gone, .gone, .gone, .gone, .gone, .gone, .vec [[int 12, int 0, int 0, int 0, int 1], [int 12, int 0, int 0, int 0, int 1]] 1 5, .gone, .gone, .gone, .gone, .var [nq, int 0, int 0, int 1], .var [int 5, int 3, int 7, int (-1), int 5, int 6, int 8, int 0], .var [int 5, int 3, int 7, int 25, int 2, int 3, int 9, int 0], .vec [[al ⟨#[65]⟩, int 7, int 4, int 0, int 1, int 0, al ⟨#[]⟩, int 0, int 0, nq, int 2, int 0, al ⟨#[]⟩, int 0, int 0, nq]] 0 16, .var [.ref (.vec 31 0), nq, nq, .ref (.vec 34 0)], .var [int 0, int 1024], .vec [[int 1, int 7, int 0, int 0, int 0, int 1024, int 8, int 0], [int 12, int 0, int 0, int 1, int 0, int 1024, int 8, int 1], [int 5, int 3, int 7, int 25, int 2, int 3, int 9, int 0]] 0 8, .gone, .gone, .gone, .gone, .gone, .gone, .gone, .gone, .gone, .gone, .gone, .gone, .vec [[int 12, int 0, int 0, int 0, int 1], [int 5, int 3, int 7, int 0, int 3], [int 1, int 7, int 0, int 2, int 3]] 2 5, .gone, .gone, .gone, .gone, .gone, .gone, .gone, .gone, .vec [[int 7, int 2, int 9, int 1, int 4]] 0 5, .var [int 3, .ref (.vec 56 0)], .gone, .gone, .gone, .gone, .gone, .gone, .gone, .gone, .gone, .gone, .gone, .gone, .vec [[int 12, int 0, int 0, int 0, int 1], [int 5, int 3, int 7, int 0, int 2]] 1 5, .var [int 3, nq], .vec [[int 7]] 0 1, .var [.ref (.vec 31 0), nq, nq, .ref (.vec 34 0)], .var [nq, int 0, int 0, int 0], .map [(int 7, .agg [int 7, int 0, int (-1), bool true], 0)] 1, .var [.ref (.vec 86 2), .ref (.vec 31 0), nq, nq, .ref (.vec 34 0), int 9], .gone, .gone, .gone, .gone, .gone, .gone, .gone, .gone, .gone, .vec [[int 12, int 0, int 0, int 0, int 1], [int 5, int 3, int 7, int 0, int 3], [int 1, int 7, int 0, int 2, int 3]] 2 5, .gone, .gone, .gone, .gone, .gone, .gone, .gone, .gone, .vec [[int 7, int 2, int 9, int 1, int 4]] 0 5, .var [int 3, .ref (.vec 95 0)]], .ret (.tup [.ref (.vec 105 0), int 0]) [.gone, .gone, .gone, .gone, .gone, .gone, .gone, .gone, .vec [[int 12, int 0, int 0, int 0, int 1]] 0 5, .var [int 3, nq], .var [int 0, nq], .var [nq, int 0, int 0, int 0], .vec [[int 7], [int 7]] 0 1, .var [nq, int 0, int 0, int 0], .gone, .gone, .gone, .gone, .gone, .gone, .gone, .gone, .gone, .vec [[int 12, int 0, int 0, int 0, int 1], [int 12, int 0, int 0, int 0, int 1]] 1 5, .gone, .gone, .gone, .gone, .var [nq, int 0, int 0, int 1], .var [int 5, int 3, int 7, int (-1), int 5, int 6, int 8, int 0], .var [int 5, int 3, int 7, int 25, int 2, int 3, int 9, int 0], .vec [[al ⟨#[65]⟩, int 7, int 4, int 0, int 1, int 0, al ⟨#[]⟩, int 0, int 0, nq, int 2, int 0, al ⟨#[]⟩, int 0, int 0, nq]] 0 16, .var [.ref (.vec 31 0), nq, nq, .ref (.vec 34 0)], .var [int 0, int 1024], .vec [[int 1, int 7, int 0, int 0, int 0, int 1024, int 8, int 0], [int 12, int 0, int 0, int 1, int 0, int 1024, int 8, int 1], [int 5, int 3, int 7, int 25, int 2, int 3, int 9, int 0]] 0 8, .gone, .gone, .gone, .gone, .gone, .gone, .gone, .gone, .gone, .gone, .gone, .gone, .vec [[int 12, int 0, int 0, int 0, int 1], [int 5, int 3, int 7, int 0, int 3], [int 1, int 7, int 0, int 2, int 3]] 2 5, .gone, .gone, .gone, .gone, .gone, .gone, .gone, .gone, .vec [[int 7, int 2, int 9, int 1, int 4]] 0 5, .var [int 3, .ref (.vec 56 0)], .gone, .gone, .gone, .gone, .gone, .gone, .gone, .gone, .gone, .gone, .gone, .gone, .vec [[int 12, int 0, int 0, int 0, int 1], [int 5, int 3, int 7, int 0, int 2]] 1 5, .var [int 3, nq], .vec [[int 7]] 0 1, .var [.ref (.vec 31 0), nq, nq, .ref (.vec 34 0)], .var [nq, int 0, int 0, int 0], .map [(int 7, .agg [int 7, int 0, int (-1), bool true], 0)] 1, .var [.ref (.vec 86 3), .ref (.vec 31 0), nq, nq, .ref (.vec 34 0), int 9], .gone, .gone, .gone, .gone, .gone, .gone, .gone, .gone, .gone, .vec [[int 12, int 0, int 0, int 0, int 1], [int 5, int 3, int 7, int 0, int 3], [int 1, int 7, int 0, int 2, int 3], [int 1, int 7, int 0, int 3, int 4]] 3 5, .gone, .gone, .gone, .gone, .gone, .gone, .gone, .gone, .vec [[int 7, int 2, int 9, int 1, int 4]] 0 5, .var [int 3, .ref (.vec 95 0)], .gone, .gone, .gone, .gone, .gone, .gone, .gone, .gone, .vec [[int 7, int 2, int 9, int 1, int 4]] 0 5]⟩
theorem yQ : s16w1.Ok B7 Γk := E8 pok t8 (ms := []) (by kernel_rfl) trivial
def s16w2 : Memo := ⟨23, [.agg [.ref (.vec 31 0), nq, nq, .ref (.vec 34 0)], int 3, int 3, int 9], [.gone, .gone, .gone, .gone, .gone, .gone, .gone, .gone, .vec [[int 12, int 0, int 0, int 0, int 1]] 0 5, .var [int 3, nq], .var [int 0, nq], .var [nq, int 0, int 0, int 0], .vec [[int 7], [int 7]] 0 1, .var [nq, int 0, int 0, int 0], .gone, .gone, .gone, .gone, .gone, .gone, .gone, .gone, .gone, .vec [[int 12, int 0, int 0, int 0, int 1], [int 12, int 0, int 0, int 0, int 1]] 1 5, .gone, .gone, .gone, .gone, .var [nq, int 0, int 0, int 1], .var [int 5, int 3, int 7, int (-1), int 5, int 6, int 8, int 0], .var [int 5, int 3, int 7, int 25, int 2, int 3, int 9, int 0], .vec [[al ⟨#[65]⟩, int 7, int 4, int 0, int 1, int 0, al ⟨#[]⟩, int 0, int 0, nq, int 2, int 0, al ⟨#[]⟩, int 0, int 0, nq]] 0 16, .var [.ref (.vec 31 0), nq, nq, .ref (.vec 34 0)], .var [int 0, int 1024], .vec [[int 1, int 7, int 0, int 0, int 0, int 1024, int 8, int 0], [int 12, int 0, int 0, int 1, int 0, int 1024, int 8, int 1], [int 5, int 3, int 7, int 25, int 2, int 3, int 9, int 0]] 0 8], .ret (.tup [.agg [int 3, .ref (.vec 56 0)], .ref (.vec 47 2), int 0]) [.gone, .gone, .gone, .gone, .gone, .gone, .gone, .gone, .vec [[int 12, int 0, int 0, int 0, int 1]] 0 5, .var [int 3, nq], .var [int 0, nq], .var [nq, int 0, int 0, int 0], .vec [[int 7], [int 7]] 0 1, .var [nq, int 0, int 0, int 0], .gone, .gone, .gone, .gone, .gone, .gone, .gone, .gone, .gone, .vec [[int 12, int 0, int 0, int 0, int 1], [int 12, int 0, int 0, int 0, int 1]] 1 5, .gone, .gone, .gone, .gone, .var [nq, int 0, int 0, int 1], .var [int 5, int 3, int 7, int (-1), int 5, int 6, int 8, int 0], .var [int 5, int 3, int 7, int 25, int 2, int 3, int 9, int 0], .vec [[al ⟨#[65]⟩, int 7, int 4, int 0, int 1, int 0, al ⟨#[]⟩, int 0, int 0, nq, int 2, int 0, al ⟨#[]⟩, int 0, int 0, nq]] 0 16, .var [.ref (.vec 31 0), nq, nq, .ref (.vec 34 0)], .var [int 0, int 1024], .vec [[int 1, int 7, int 0, int 0, int 0, int 1024, int 8, int 0], [int 12, int 0, int 0, int 1, int 0, int 1024, int 8, int 1], [int 5, int 3, int 7, int 25, int 2, int 3, int 9, int 0]] 0 8, .gone, .gone, .gone, .gone, .gone, .gone, .gone, .gone, .gone, .gone, .gone, .gone, .vec [[int 12, int 0, int 0, int 0, int 1], [int 5, int 3, int 7, int 0, int 3], [int 1, int 7, int 0, int 2, int 3]] 2 5, .gone, .gone, .gone, .gone, .gone, .gone, .gone, .gone, .vec [[int 7, int 2, int 9, int 1, int 4]] 0 5]⟩
theorem yR : s16w2.Ok B7 Γk := E8 pok t8 (ms := []) (by kernel_rfl) trivial
def s16w3 : Memo := ⟨19, [.agg [.ref (.vec 31 0), nq, nq, .ref (.vec 34 0)], int 3, int 3, int 9, .ref (.vec 72 0)], [.gone, .gone, .gone, .gone, .gone, .gone, .gone, .gone, .vec [[int 12, int 0, int 0, int 0, int 1]] 0 5, .var [int 3, nq], .var [int 0, nq], .var [nq, int 0, int 0, int 0], .vec [[int 7], [int 7]] 0 1, .var [nq, int 0, int 0, int 0], .gone, .gone, .gone, .gone, .gone, .gone, .gone, .gone, .gone, .vec [[int 12, int 0, int 0, int 0, int 1], [int 12, int 0, int 0, int 0, int 1]] 1 5, .gone, .gone, .gone, .gone, .var [nq, int 0, int 0, int 1], .var [int 5, int 3, int 7, int (-1), int 5, int 6, int 8, int 0], .var [int 5, int 3, int 7, int 25, int 2, int 3, int 9, int 0], .vec [[al ⟨#[65]⟩, int 7, int 4, int 0, int 1, int 0, al ⟨#[]⟩, int 0, int 0, nq, int 2, int 0, al ⟨#[]⟩, int 0, int 0, nq]] 0 16, .var [.ref (.vec 31 0), nq, nq, .ref (.vec 34 0)], .var [int 0, int 1024], .vec [[int 1, int 7, int 0, int 0, int 0, int 1024, int 8, int 0], [int 12, int 0, int 0, int 1, int 0, int 1024, int 8, int 1], [int 5, int 3, int 7, int 25, int 2, int 3, int 9, int 0]] 0 8, .gone, .gone, .gone, .gone, .gone, .gone, .gone, .gone, .gone, .gone, .gone, .gone, .vec [[int 12, int 0, int 0, int 0, int 1], [int 5, int 3, int 7, int 0, int 3], [int 1, int 7, int 0, int 2, int 3]] 2 5, .gone, .gone, .gone, .gone, .gone, .gone, .gone, .gone, .vec [[int 7, int 2, int 9, int 1, int 4]] 0 5, .var [int 3, .ref (.vec 56 0)], .gone, .gone, .gone, .gone, .gone, .gone, .gone, .gone, .gone, .gone, .gone, .gone, .vec [[int 12, int 0, int 0, int 0, int 1], [int 5, int 3, int 7, int 0, int 2]] 1 5, .var [int 3, nq], .vec [[int 7]] 0 1], .ret (.tup [.agg [.ref (.vec 132 0), int 4, int 9, int 1], .ref (.vec 86 5), int 0]) [.gone, .gone, .gone, .gone, .gone, .gone, .gone, .gone, .vec [[int 12, int 0, int 0, int 0, int 1]] 0 5, .var [int 3, nq], .var [int 0, nq], .var [nq, int 0, int 0, int 0], .vec [[int 7], [int 7]] 0 1, .var [nq, int 0, int 0, int 0], .gone, .gone, .gone, .gone, .gone, .gone, .gone, .gone, .gone, .vec [[int 12, int 0, int 0, int 0, int 1], [int 12, int 0, int 0, int 0, int 1]] 1 5, .gone, .gone, .gone, .gone, .var [nq, int 0, int 0, int 1], .var [int 5, int 3, int 7, int (-1), int 5, int 6, int 8, int 0], .var [int 5, int 3, int 7, int 25, int 2, int 3, int 9, int 0], .vec [[al ⟨#[65]⟩, int 7, int 4, int 0, int 1, int 0, al ⟨#[]⟩, int 0, int 0, nq, int 2, int 0, al ⟨#[]⟩, int 0, int 0, nq]] 0 16, .var [.ref (.vec 31 0), nq, nq, .ref (.vec 34 0)], .var [int 0, int 1024], .vec [[int 1, int 7, int 0, int 0, int 0, int 1024, int 8, int 0], [int 12, int 0, int 0, int 1, int 0, int 1024, int 8, int 1], [int 5, int 3, int 7, int 25, int 2, int 3, int 9, int 0]] 0 8, .gone, .gone, .gone, .gone, .gone, .gone, .gone, .gone, .gone, .gone, .gone, .gone, .vec [[int 12, int 0, int 0, int 0, int 1], [int 5, int 3, int 7, int 0, int 3], [int 1, int 7, int 0, int 2, int 3]] 2 5, .gone, .gone, .gone, .gone, .gone, .gone, .gone, .gone, .vec [[int 7, int 2, int 9, int 1, int 4]] 0 5, .var [int 3, .ref (.vec 56 0)], .gone, .gone, .gone, .gone, .gone, .gone, .gone, .gone, .gone, .gone, .gone, .gone, .vec [[int 12, int 0, int 0, int 0, int 1], [int 5, int 3, int 7, int 0, int 2]] 1 5, .var [int 3, nq], .vec [[int 7]] 0 1, .gone, .gone, .gone, .gone, .gone, .gone, .gone, .gone, .gone, .gone, .gone, .gone, .gone, .vec [[int 12, int 0, int 0, int 0, int 1], [int 5, int 3, int 7, int 0, int 3], [int 1, int 7, int 0, int 2, int 3], [int 1, int 7, int 0, int 3, int 4], [int 12, int 0, int 0, int 0, int 1], [int 12, int 0, int 0, int 0, int 1]] 5 5, .gone, .gone, .gone, .gone, .gone, .gone, .gone, .gone, .gone, .gone, .gone, .gone, .gone, .gone, .gone, .gone, .gone, .gone, .gone, .gone, .gone, .gone, .gone, .gone, .gone, .gone, .gone, .gone, .gone, .gone, .gone, .gone, .gone, .gone, .gone, .gone, .gone, .gone, .gone, .gone, .gone, .gone, .gone, .gone, .gone, .vec [[int 7, int 1, int 9, bool true]] 0 4]⟩
theorem yS : s16w3.Ok B7 Γk := E8 pok t8 (ms := [s16w0, s16w1]) (by kernel_rfl) ⟨yP, yQ, trivial⟩
def s16w4 : Memo := ⟨23, [.agg [.ref (.vec 31 0), nq, nq, .ref (.vec 34 0)], int 3, int 2, int 9], [.gone, .gone, .gone, .gone, .gone, .gone, .gone, .gone, .vec [[int 12, int 0, int 0, int 0, int 1]] 0 5, .var [int 3, nq], .var [int 0, nq], .var [nq, int 0, int 0, int 0], .vec [[int 7], [int 7]] 0 1, .var [nq, int 0, int 0, int 0], .gone, .gone, .gone, .gone, .gone, .gone, .gone, .gone, .gone, .vec [[int 12, int 0, int 0, int 0, int 1], [int 12, int 0, int 0, int 0, int 1]] 1 5, .gone, .gone, .gone, .gone, .var [nq, int 0, int 0, int 1], .var [int 5, int 3, int 7, int (-1), int 5, int 6, int 8, int 0], .var [int 5, int 3, int 7, int 25, int 2, int 3, int 9, int 0], .vec [[al ⟨#[65]⟩, int 7, int 4, int 0, int 1, int 0, al ⟨#[]⟩, int 0, int 0, nq, int 2, int 0, al ⟨#[]⟩, int 0, int 0, nq]] 0 16, .var [.ref (.vec 31 0), nq, nq, .ref (.vec 34 0)], .var [int 0, int 1024], .vec [[int 1, int 7, int 0, int 0, int 0, int 1024, int 8, int 0], [int 12, int 0, int 0, int 1, int 0, int 1024, int 8, int 1], [int 5, int 3, int 7, int 25, int 2, int 3, int 9, int 0]] 0 8, .gone, .gone, .gone, .gone, .gone, .gone, .gone, .gone, .gone, .gone, .gone, .gone, .vec [[int 12, int 0, int 0, int 0, int 1], [int 5, int 3, int 7, int 0, int 3], [int 1, int 7, int 0, int 2, int 3]] 2 5, .gone, .gone, .gone, .gone, .gone, .gone, .gone, .gone, .vec [[int 7, int 2, int 9, int 1, int 4]] 0 5, .var [int 3, .ref (.vec 56 0)]], .ret (.tup [.agg [int 3, nq], .ref (.vec 70 1), int 0]) [.gone, .gone, .gone, .gone, .gone, .gone, .gone, .gone, .vec [[int 12, int 0, int 0, int 0, int 1]] 0 5, .var [int 3, nq], .var [int 0, nq], .var [nq, int 0, int 0, int 0], .vec [[int 7], [int 7]] 0 1, .var [nq, int 0, int 0, int 0], .gone, .gone, .gone, .gone, .gone, .gone, .gone, .gone, .gone, .vec [[int 12, int 0, int 0, int 0, int 1], [int 12, int 0, int 0, int 0, int 1]] 1 5, .gone, .gone, .gone, .gone, .var [nq, int 0, int 0, int 1], .var [int 5, int 3, int 7, int (-1), int 5, int 6, int 8, int 0], .var [int 5, int 3, int 7, int 25, int 2, int 3, int 9, int 0], .vec [[al ⟨#[65]⟩, int 7, int 4, int 0, int 1, int 0, al ⟨#[]⟩, int 0, int 0, nq, int 2, int 0, al ⟨#[]⟩, int 0, int 0, nq]] 0 16, .var [.ref (.vec 31 0), nq, nq, .ref (.vec 34 0)], .var [int 0, int 1024], .vec [[int 1, int 7, int 0, int 0, int 0, int 1024, int 8, int 0], [int 12, int 0, int 0, int 1, int 0, int 1024, int 8, int 1], [int 5, int 3, int 7, int 25, int 2, int 3, int 9, int 0]] 0 8, .gone, .gone, .gone, .gone, .gone, .gone, .gone, .gone, .gone, .gone, .gone, .gone, .vec [[int 12, int 0, int 0, int 0, int 1], [int 5, int 3, int 7, int 0, int 3], [int 1, int 7, int 0, int 2, int 3]] 2 5, .gone, .gone, .gone, .gone, .gone, .gone, .gone, .gone, .vec [[int 7, int 2, int 9, int 1, int 4]] 0 5, .var [int 3, .ref (.vec 56 0)], .gone, .gone, .gone, .gone, .gone, .gone, .gone, .gone, .gone, .gone, .gone, .gone, .vec [[int 12, int 0, int 0, int 0, int 1], [int 5, int 3, int 7, int 0, int 2]] 1 5]⟩
theorem yT : s16w4.Ok B7 Γk := E8 pok t8 (ms := []) (by kernel_rfl) trivial
def s16wR : Memo := ⟨17, [], [], .ret (bool true) []⟩
theorem yU : s16wR.Ok B7 Γk := E8 pok t8 (ms := [s16w2, s16w3, s16w4]) (by kernel_rfl) ⟨yR, yS, yT, trivial⟩
theorem pG (h : List Blk) : Ev B7 Γk 17 [] h (bool true) h := Ev.frame0 rfl (Memo.call yU rfl) h
end Go.Vi
open Go Go.Proofs
namespace Go.Vi
set_option maxRecDepth 100000
theorem pH {w : WorldT} (h : kK w = true) : w.f.length ≤ 30 := by
 simp only [kK, Bool.and_eq_true, decide_eq_true_eq, DR] at h
 omega
theorem WorldT.ok0.few {w : WorldT} (hw : w.ok0) (h : kK w = true) : w.ok := by
 have := pH h
 exact ⟨hw.c, hw.s, by omega, hw.lc, hw.ls, hw.i⟩
end Go.Vi
open Go Go.Proofs
namespace Go.Vi
set_option maxRecDepth 100000
end Go.Vi
open Go Go.Proofs
namespace Go.Vi
set_option maxRecDepth 100000
set_option maxHeartbeats 1000000
end Go.Vi
open Go Go.Proofs
namespace Go.Vi
set_option maxRecDepth 100000
set_option maxHeartbeats 4000000
end Go.Vi
open Go Go.Proofs
namespace Go.Vi
end Go.Vi
open Go Go.Proofs
namespace Go.Vi
set_option maxRecDepth 100000
set_option maxHeartbeats 1000000
theorem w7 {w : WorldT} {known st term : Int} : (dR w known st term).Pairwise fun a b => ¬ (a.term = b.term ∧ a.course = b.course) := by
 unfold dR
 rw [List.pairwise_flatMap]
 refine ⟨fun n _ => ?_, ?_⟩
 ·unfold fh
  refine List.Pairwise.filterMap (R := fun p q : PtT => p.term < q.term) (zM w known n) ?_ mn
  intro p q hpq a ha b hb e
  unfold zM at ha hb
  cases h1 : attBad p <;> rw [h1] at ha <;> simp at ha
  cases h2 : attBad q <;> rw [h2] at hb <;> simp at hb
  subst ha; subst hb
  have := e.1
  simp only [ww] at this
  omega
 ·refine List.Pairwise.imp ?_ lq
  intro n m hne x hx y hy e
  rw [(c9 hx).1, (c9 hy).1] at e
  exact hne e.2
theorem rq {w : WorldT} {known st term : Int} : (wC w known st term).Pairwise fun a b => uj a b < 0 := by
 have h1 := rp (w := w) (known := known) (st := st) (term := term)
 have h2 : (wC w known st term).Pairwise fun a b => ¬ (a.term = b.term ∧ a.course = b.course) := (recA_perm.pairwise_iff (fun {a b} h e => h ⟨e.1.symm, e.2.symm⟩)).2 w7
 refine (h1.and h2).imp ?_
 intro a b ⟨ha, hb⟩
 rw [nM] at ha
 have := (nJ a b).2 (by omega)
 unfold ltOf at this
 simpa using this
end Go.Vi
open Go Go.Proofs
namespace Go.Vi
set_option maxRecDepth 100000
set_option maxHeartbeats 1000000
section
variable {α : Type} (lt : α → α → Bool)
def posG (x : α) (y : α) (n : Nat) : Nat ⊕ Nat := bif lt y x then .inl (n + 1) else .inr n
def xE (out : List α) (x : α) : List α := out.takeWhile (fun y => lt y x) ++ [x] ++ out.dropWhile fun y => lt y x
theorem w8 (x : α) : ∀ (out : List α) (n : Nat), (match forL (posG lt x) out n with | .inl n => n | .inr n => n) = n + (out.takeWhile fun y => lt y x).length
 | [], n => by simp [forL]
 | y :: out, n => by
  simp only [forL, posG, FS]
  cases h : lt y x
  ·simp
  ·have := w8 x out (n + 1)
   simp only [cond_true, if_true, Di]; omega
theorem iQ (p : α → Bool) : ∀ l : List α, l.take (l.takeWhile p).length = l.takeWhile p ∧ l.drop (l.takeWhile p).length = l.dropWhile p
 | [] => by simp
 | a :: l => by
  have := iQ p l
  simp only [FS, HI]
  cases p a <;> simp [this]
theorem w9 (out : List α) (x : α) : (xE lt out x).Perm (out ++ [x]) := by
 unfold xE
 have e : out = out.takeWhile (fun y => lt y x) ++ out.dropWhile fun y => lt y x := (F9).symm
 conv => rhs; rw [e]
 rw [F5, F5]
 exact List.Perm.append_left _ List.perm_append_comm
theorem fG : ∀ (l out : List α), (l.foldl (xE lt) out).Perm (out ++ l)
 | [], out => by simp
 | x :: l, out => by
  rw [DG]
  refine (fG l _).trans ?_
  rw [show out ++ x :: l = (out ++ [x]) ++ l by simp]
  exact (w9 lt out x).append_right l
theorem my (p : α → Bool) : ∀ (l : List α) z0 zs, l.dropWhile p = z0 :: zs → p z0 = false
 | [], _, _, h => by simp at h
 | a :: l, z0, zs, h => by
  rw [HI] at h
  cases hp : p a <;> rw [hp] at h <;> simp at h
  ·rw [← h.1]; exact hp
  ·exact my p l z0 zs h
theorem pI (p : α → Bool) : ∀ (l : List α) a, a ∈ l.takeWhile p → p a = true
 | [], _, h => by simp at h
 | b :: l, a, h => by
  rw [FS] at h
  cases hp : p b <;> rw [hp] at h <;> simp at h
  rcases h with rfl | h
  ·exact hp
  ·exact pI p l a h
theorem ru (h1 : ∀ a b, lt a b = true → lt b a = false) (h2 : ∀ a b c, lt b a = false → lt c b = false → lt c a = false) {out : List α} {x : α} (ho : out.Pairwise fun a b => lt b a = false) : (xE lt out x).Pairwise fun a b => lt b a = false := by
 unfold xE
 have e : out = out.takeWhile (fun y => lt y x) ++ out.dropWhile fun y => lt y x := (F9).symm
 rw [e, F0] at ho
 obtain ⟨o1, o2, o3⟩ := ho
 have hx : ∀ z ∈ out.dropWhile fun y => lt y x, lt z x = false := by
  intro z hz
  cases hd : out.dropWhile fun y => lt y x with
  | nil => rw [hd] at hz; simp at hz
  | cons z0 zs =>
   rw [hd] at hz o2
   have h0 := my _ _ _ _ hd
   rcases CP.1 hz with rfl | hz
   ·exact h0
   ·exact h2 _ _ _ h0 ((Ff.1 o2).1 z hz)
 rw [F5, F0]
 refine ⟨o1, ?_, ?_⟩
 ·rw [Hg, Ff]
  exact ⟨hx, o2⟩
 ·intro a ha b hb
  have hax : lt a x = true := pI (fun y => lt y x) out a ha
  rw [Hg] at hb
  rcases CP.1 hb with rfl | hb
  ·exact h1 _ _ hax
  ·exact o3 a ha b hb
theorem fj (h1 : ∀ a b, lt a b = true → lt b a = false) (h2 : ∀ a b c, lt b a = false → lt c b = false → lt c a = false) : ∀ (l out : List α), (out.Pairwise fun a b => lt b a = false) → (l.foldl (xE lt) out).Pairwise fun a b => lt b a = false
 | [], _, h => h
 | x :: l, out, h => fj h1 h2 l _ (ru lt h1 h2 h)
end
theorem insI_G : ul = xE fun y x : Int => decide (y < x) := by
 funext out x
 have h1 : s7P out x = (out.takeWhile fun y => decide (y < x)).length := by
  have := w8 (fun y x : Int => decide (y < x)) x out 0
  rw [Nat.zero_add] at this
  exact this
 have h2 := iQ (fun y => decide (y < x)) out
 unfold ul xE
 rw [h1, h2.1, h2.2]
theorem xa (l : List Int) : gX l = l.mergeSort fun x y => decide (x ≤ y) := by
 unfold gX
 rw [insI_G]
 refine Gi (le := fun a b : Int => a ≤ b) ?_ ?_ ?_ ?_
 ·intro a b _ _ h1 h2; omega
 ·have := fj (fun y x : Int => decide (y < x)) (by intro a b h; simp at h ⊢; omega) (by intro a b c h1 h2; simp at h1 h2 ⊢; omega) l [] Gw
  exact this.imp fun h => by simpa using h
 ·have := GU (le := fun x y : Int => decide (x ≤ y)) (by intro a b c h1 h2; simp at h1 h2 ⊢; omega) (by intro a b; simp; omega) l
  exact this.imp fun h => by simpa using h
 ·exact ((fG _ l []).trans (by simp)).trans (F8 _ _).symm
theorem insA_G : pP = xE befA := by
 funext out x
 have h1 : puP out x = (out.takeWhile fun y => befA y x).length := by
  have := w8 befA x out 0
  rw [Nat.zero_add] at this
  exact this
 have h2 := iQ (fun y => befA y x) out
 unfold pP xE
 rw [h1, h2.1, h2.2]
theorem befA_iff (a b : AttT) : befA a b = true ↔ a.term < b.term ∨ (a.term = b.term ∧ a.course < b.course) := by simp [befA]
theorem befA_fls (a b : AttT) : befA a b = false ↔ ¬ (a.term < b.term ∨ (a.term = b.term ∧ a.course < b.course)) := by rw [← Bool.not_eq_true, befA_iff]
theorem yV {w : WorldT} {known st term : Int} : (dR w known st term).foldl pP [] = wC w known st term := by
 rw [insA_G]
 have hs := rq (w := w) (known := known) (st := st) (term := term)
 refine Gi (le := fun a b : AttT => befA b a = false) ?_ ?_ ?_ ?_
 ·intro a b ha hb h1 h2
  rw [befA_fls] at h1 h2
  have hm : a ∈ dR w known st term := by have := (fG befA (dR w known st term) []).mem_iff.1 ha; simpa using this
  have hm2 : b ∈ dR w known st term := recA_perm.mem_iff.1 hb
  exact sP a hm b hm2 (by omega) (by omega)
 ·exact fj befA (by intro a b h; rw [befA_iff] at h; rw [befA_fls]; omega) (by intro a b c h1 h2; rw [befA_fls] at h1 h2 ⊢; omega) _ [] Gw
 ·refine hs.imp ?_
  intro a b h
  have := (nJ a b).1 (by unfold ltOf; simpa using h)
  rw [befA_fls]; omega
 ·exact ((fG _ _ []).trans (by simp)).trans recA_perm.symm
end Go.Vi
open Go Go.Proofs
namespace Go.Vi
set_option maxRecDepth 100000
set_option maxHeartbeats 4000000
abbrev pt7S (kk ks ko to known : Int) (fs : List (List Dp)) (l : List PtT) (x : Int) : AS := { t := mkT 40 0 [(0, ab fs), (3, int to), (4, int known), (6, .ref (.ptr 0 0)), (11, .ref (.vec 1 0)), (12, int x)], h := [.var [int kk, int ks, int ko], .vec (ao (l.map Dn)) 0 2], m := [] }
noncomputable abbrev nN (kk : Int) (ks : Int) (ko : Int) (l : List PtT) : List Blk := [.var [int kk, int ks, int ko], .vec (ao (B6 Dn l)) 0 2]
theorem pt7_b {kk ks ko to known u : Int} {b : Bool} {fs : List (List Dp)} {l : List PtT} {n : Nat} (hl : l.length ≤ 2000) (hlt : decide ((n : Int) < if false = true then if 1024 > to then 1024 else to else if 1024 < to then 1024 else to) = true) (hw : B8.wrap ((n : Int) + 1) = ((n + 1 : Nat) : Int))
 (hat : ∀ h, Ev B7 Γ0 124 [ab fs, .agg [int kk, int ks, int ko], int n, int known] h (.tup [int u, bool b]) h) : (CW B7 Γ0 [] false (sub Hw 0) (pt7S kk ks ko to known fs l (n : Int)) .normal (pt7S kk ks ko to known fs (bif b then l ++ [⟨(n : Int), u⟩] else l) ((n + 1 : Nat) : Int))) := by
 cases hc0 : b
 ·refine Ct (Cu (s' := { t := mkT 40 0 [(0, ab fs), (3, int to), (4, int known), (6, .ref (.ptr 0 0)), (11, .ref (.vec 1 0)), (12, int (Cc B8 ((↑n : Int) + 1)))], h := (nN kk ks ko l), m := [] }) (e := Cq) pok [.st (.mask [0, 3, 4, 6, 11, 12]), .st (.ren 1 0), .st (.trimV 2)] [.b true, .val (D.tup [int u, bool b]), .b false] (by kernel_rfl) (.c hlt (.c (@hat (nN kk ks ko l)) (.c hc0 (.c (show B6 (D.mapRL (aS 1 0 0)) (ao (B6 Dn l)) = ao (B6 Dn l) from ?_) (.c (show Cz 2 (match 0 == 1 with | true => .vec (ao (B6 Dn l)) 0 2 | false => keepX (aS 1 0 0) (.var [int kk, int ks, int ko])) = true from rfl) (.c (show Cz 2 (match 0 + 1 == 1 with | true => .vec (ao (B6 Dn l)) 0 2 | false => keepX (aS 1 0 0) (.vec (ao (B6 Dn l)) 0 2)) = true from ?_) .n))))))) (by first | (simp only []; done) | (simp only [hw, hc0, cond_true, cond_false, bp]; first | done | rfl)) (by first | (simp only [hw, cond_false]; done) | (simp only [hw, hc0, cond_true, cond_false, bp]; first | done | rfl)) <;> (first | assumption | rfl | exact au _ _ | (rw [bp]; exact au _ _) | exact aq | (rw [bp]; exact aq) | exact aR _ _ | (rw [bp]; exact aR _ _) | (simp [aO, D.one, CX, roomOk]; omega))
 ·refine Ct (Cu (s' := { t := mkT 40 0 [(0, ab fs), (3, int to), (4, int known), (6, .ref (.ptr 0 0)), (11, .ref (.vec 1 0)), (12, int (Cc B8 ((↑n : Int) + 1)))], h := [.var [int kk, int ks, int ko], .vec (ao (B6 Dn l) ++ [[int (↑n : Int), int u]]) 0 2], m := [] }) (e := Cq) pok [.st (.mask [0, 3, 4, 6, 11, 12]), .st (.ren 1 0), .st (.trimV 2)] [.b true, .val (D.tup [int u, bool b]), .b true] (by kernel_rfl) (.c hlt (.c (@hat (nN kk ks ko l)) (.c hc0 (.c (show (Cx [[int (↑n : Int), int u]] (aO 2) && roomOk (Cb (ao (B6 Dn l)) + Cb [[int (↑n : Int), int u]]) 16) = true from ?_) (.c (show B6 (D.mapRL (aS 1 1 0)) (ao (B6 Dn l) ++ [[int (↑n : Int), int u]]) = ao (B6 Dn l) ++ [[int (↑n : Int), int u]] from ?_) (.c (show [[int (↑n : Int), int u]] = [[int (↑n : Int), int u]] from rfl) (.c (show Cz 2 (match 0 == 1 with | true => .vec (ao (B6 Dn l) ++ [[int (↑n : Int), int u]]) 0 2 | false => keepX (aS 1 1 0) (.var [int kk, int ks, int ko])) = true from rfl) (.c (show Cz 2 (match 0 + 1 == 1 with | true => .vec (ao (B6 Dn l) ++ [[int (↑n : Int), int u]]) 0 2 | false => keepX (aS 1 1 0) (.vec (ao (B6 Dn l) ++ [[int (↑n : Int), int u]]) 1 2)) = true from ?_) .n))))))))) (by first | (simp only []; done) | (simp only [hw, hc0, cond_true, cond_false, bp]; first | done | rfl)) (by first | (simp only [hw, cond_true]; done) | (simp only [hw, cond_true, bp]; first | done | rfl)) <;> (first | assumption | rfl | exact au _ _ | (rw [bp]; exact au _ _) | exact aq | (rw [bp]; exact aq) | exact aR _ _ | (rw [bp]; exact aR _ _) | (simp [aO, D.one, CX, roomOk]; omega))
theorem yW {kk ks ko to known : Int} {fs : List (List Dp)} {l : List PtT} {x : Int} (hlt : decide (x < if false = true then if 1024 > to then 1024 else to else if 1024 < to then 1024 else to) = false) : (CW B7 Γ0 [] false (sub Hw 0) (pt7S kk ks ko to known fs l x) (.exit 0) { t := mkT 40 0 [(11, .ref (.vec 1 0))], h := [.var [int kk, int ks, int ko], .vec (ao (l.map Dn)) 0 2], m := [] }) := by
 exact Ct (Cu (s' := { t := mkT 40 0 [(11, .ref (.vec 1 0))], h := [.var [int kk, int ks, int ko], .vec (ao (B6 Dn l)) 0 2], m := [] }) (e := CE 0) pok [.st (.mask [11])] [.b false] (by kernel_rfl) (.c hlt .n)) (by rfl) (by rfl)
theorem ptF_at {v : Int} {n : Nat} {l : List PtT} : (bif (atV v).2 then l ++ [⟨(n : Int), (atV v).1⟩] else l) = ptF v n l := by
 unfold ptF atV
 have e : decide (v ≥ 0) = !decide (v < 0) := by rw [Bool.eq_iff_iff]; simp
 rw [e]
 cases decide (v < 0) <;> rfl
theorem pt7_cw {kk ks ko to known : Int} {fs : List FactT} (hl : am fs) {x : Int} (hx : 0 ≤ x) :
  CW B7 Γ0 [] false (.loop (sub Hw 0)) (pt7S kk ks ko to known (fs.map Ch) [] x) (.exit 0) { t := mkT 40 0 [(11, .ref (.vec 1 0))], h := [.var [int kk, int ks, int ko], .vec (ao ((wr (bh kk ks ko known fs) x to).map Dn)) 0 2], m := [] } := by
 have hh : sN to ≤ 1024 := by unfold sN; split <;> omega
 have := Eo (P := B7) (Γ := Γ0) (h0 := []) (rd := false) (c := sub Hw 0) (σ := List PtT) (ρ := Empty) (List.range' x.toNat (sN to - x).toNat) (fun n l => .inl (ptF ((bh kk ks ko known fs).getD n 0) n l))
  (fun i l => pt7S kk ks ko to known (fs.map Ch) l (x + (i : Int))) (.exit 0) (fun l => { t := mkT 40 0 [(11, .ref (.vec 1 0))], h := [.var [int kk, int ks, int ko], .vec (ao (l.map Dn)) 0 2], m := [] }) (fun r => r.elim)
  (fun i l => l.length ≤ i) (by simp) (fun r => r.elim) ?_ ?_ [] (by simp)
 ·rw [bw (fun l n => ptF ((bh kk ks ko known fs).getD n 0) n l)] at this
  simpa [bn, wr] using this
 ·intro i n l hn hs
  obtain ⟨hi, he⟩ := Ce.1 hn
  simp only [List.length_range'] at hi
  simp only [List.getElem_range', Nat.one_mul] at he
  have hlt : (n : Int) < sN to := by omega
  refine ⟨fun s' h => by cases h; have := qS ((bh kk ks ko known fs).getD n 0) n l; omega, ?_⟩
  have key := pt7_b (kk := kk) (ks := ks) (ko := ko) (to := to) (known := known) (fs := fs.map Ch) (l := l) (n := n) (u := (atV ((bh kk ks ko known fs).getD n 0)).1) (b := (atV ((bh kk ks ko known fs).getD n 0)).2) (by omega) (by rw [nI]; simpa using hlt) (by rw [wrap_i64 (by omega) (by omega)]; omega)
   (fun h => by have := wb (kk := kk) (ks := ks) (ko := ko) (term := (n : Int)) (known := known) hl h; rw [we, wY (by omega)] at this; exact this)
  have e1 : x + (i : Int) = (n : Int) := by omega
  have e2 : x + ((i + 1 : Nat) : Int) = ((n + 1 : Nat) : Int) := by omega
  rw [ptF_at] at key
  simp only [ad, e1, e2]
  exact key
 ·intro l _
  refine yW ?_
  rw [nI]
  simp
  omega
theorem ua {kk ks ko frm to known : Int} {l : List FactT} (hl : am l) (h : List Blk) : (Ev B7 Γ0 74 [ab (l.map Ch), .agg [int kk, int ks, int ko], int frm, int to, int known] h (ab ((bg kk ks ko frm to known l).map Dn)) h) := by
 have hl0 := (@pt7_cw (kk) (ks) (ko) (to) (known) (l) (hl) (if true = true then if frm > 0 then frm else 0 else if frm < 0 then frm else 0) (by first | assumption | rfl | exact iM _ | (simp; done)))
 let v0 := B6 Dn (wr (bh kk ks ko known l) (if true = true then if frm > 0 then frm else 0 else if frm < 0 then frm else 0) to)
 let v1 := B6 Dn (bg kk ks ko frm to known l)
 exact Cj (Cn (d := ab v1) pok [.sum [0, 3, 4, 6, 11, 12] (CE 0) { t := mkT 40 0 [(11, .ref (.vec 1 0))], h := [.var [int kk, int ks, int ko], .vec (ao v0) 0 2], m := [] }, .st (.frz 1 v1)] (by kernel_rfl) (.c hl0 (.c (show ao v0 = B6 (fun x => B6 Ei x) v1 from (by subst v0 v1; first | assumption | rfl | exact iM _ | (simp; done))) .n)) rfl rfl h) (by rfl) (by rfl)
end Go.Vi
