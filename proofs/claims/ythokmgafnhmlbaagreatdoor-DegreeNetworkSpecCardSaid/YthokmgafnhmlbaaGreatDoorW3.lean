/- DegreeNetworkSpec: part of the proof: contracts of the functions that the law reaches, and the law. No conditions beyond the given statement's own. -/
import Derived.Test.YthokmgafnhmlbaaGreatDoorW2
import Derived.Test.YthokmgafnhmlbaaGreatDoorCards
import Derived.Test.YthokmgafnhmlbaaGreatDoorTie
import Derived.WalkKit
import Derived.ProofKit
import Derived.OpenShut
import Derived.Deep.DeepHandedRow
import Derived.Lib.LaidTab
open Go Go.Proofs
namespace Go.Vi
set_option maxRecDepth 100000
set_option maxHeartbeats 4000000
abbrev m1H (p : ProgT) (es : List EdgT) : List Blk := [.var p.l, .vec (vecE es) 0 3]
abbrev m1S (p : ProgT) (l : List AttT) (es : List EdgT) (i : Int) : AS := { t := mkT 118 0 [(1, rowsD' (l.map AttT.row)), (2, .ref (.ptr 0 0)), (8, int ((l.map AttT.row).length : Int)), (9, int ((p.reqs.map ReqT.row).length : Int)), (10, .ref (.vec 1 0)), (11, int i)], h := m1H p es, m := [] }
abbrev m1E (p : ProgT) (l : List AttT) (es : List EdgT) : AS := { t := mkT 118 0 [(1, rowsD' (l.map AttT.row)), (2, .ref (.ptr 0 0)), (8, int ((l.map AttT.row).length : Int)), (9, int ((p.reqs.map ReqT.row).length : Int)), (10, .ref (.vec 1 0))], h := m1H p es, m := [] }
theorem m1_body {p : ProgT} {l : List AttT} {a : AttT} {es : List EdgT} {i : Nat} (hr : RowAt (i : Int) (l.map AttT.row) a.row 5) (hlt : decide ((i : Int) < ((l.map AttT.row).length : Int)) = true) (hw : IntKind.i64.wrap ((i : Int) + 1) = ((i + 1 : Nat) : Int)) (hl : es.length ≤ 1000000) : (CW Tryz.prog Γ0 [] false (sub Tryz.f17 0) (m1S p l es i) .normal (m1S p l (n1F p (es, (i : Int)) a).1 ((i + 1 : Nat) : Int))) := by
 exact CW.cast (CW.symX (s := { t := mkT 118 0 [(1, rowsD' (List.map AttT.row l)), (2, .ref (.ptr 0 0)), (8, int (↑(List.length (List.map AttT.row l)) : Int)), (9, int (↑(List.length (List.map ReqT.row p.reqs)) : Int)), (10, .ref (.vec 1 0)), (11, int (↑i : Int))], h := [.var [strD p.nm, int p.number, int p.uses, int p.earn, int p.num, int p.den, rowsD' (List.map ReqT.row p.reqs)], .vec (vecE es) 0 3], m := [] }) (s' := { t := mkT 118 0 [(1, rowsD' (List.map AttT.row l)), (2, .ref (.ptr 0 0)), (8, int (↑(List.length (List.map AttT.row l)) : Int)), (9, int (↑(List.length (List.map ReqT.row p.reqs)) : Int)), (10, .ref (.vec 1 0)), (11, int (IntKind.wrap IntKind.i64 ((↑i : Int) + 1)))], h := [.var [strD p.nm, int p.number, int p.uses, int p.earn, int p.num, int p.den, rowsD' (List.map ReqT.row p.reqs)], .vec (vecE es ++ [[int 0, int (IntKind.wrap IntKind.i64 (1 + (↑i : Int))), int (IntKind.wrap IntKind.i64 (a.credits * p.uses))]]) 0 3], m := [] }) (e := Exit.normal) pok (φ := [decide ((↑i : Int) < (↑(List.length (List.map AttT.row l)) : Int)) = true, RowAt (↑i : Int) (List.map AttT.row l) [vi a.course, vi a.term, vi a.grade, vi a.campus, vi a.credits] 5, (List.all [[int 0, int (IntKind.wrap IntKind.i64 (1 + (↑i : Int))), int (IntKind.wrap IntKind.i64 (a.credits * p.uses))]] (rowOk 3) && roomOk (List.length (vecE es) + List.length [[int 0, int (IntKind.wrap IntKind.i64 (1 + (↑i : Int))), int (IntKind.wrap IntKind.i64 (a.credits * p.uses))]]) 24) = true, (.ref (.ptr 0 2) : D) = .ref (.ptr 0 2), (int p.uses : D) = int p.uses, List.map (D.mapRL (renR 1 1 0)) (vecE es ++ [[int 0, int (IntKind.wrap IntKind.i64 (1 + (↑i : Int))), int (IntKind.wrap IntKind.i64 (a.credits * p.uses))]]) = vecE es ++ [[int 0, int (IntKind.wrap IntKind.i64 (1 + (↑i : Int))), int (IntKind.wrap IntKind.i64 (a.credits * p.uses))]], [[int 0, int (IntKind.wrap IntKind.i64 (1 + (↑i : Int))), int (IntKind.wrap IntKind.i64 (a.credits * p.uses))]] = [[int 0, int (IntKind.wrap IntKind.i64 (1 + (↑i : Int))), int (IntKind.wrap IntKind.i64 (a.credits * p.uses))]], Blk.inn 2 (match 0 == 1 with | true => .vec (vecE es ++ [[int 0, int (IntKind.wrap IntKind.i64 (1 + (↑i : Int))), int (IntKind.wrap IntKind.i64 (a.credits * p.uses))]]) 0 3 | false => keepX (renR 1 1 0) (.var [strD p.nm, int p.number, int p.uses, int p.earn, int p.num, int p.den, rowsD' (List.map ReqT.row p.reqs)])) = true, Blk.inn 2 (match 0 + 1 == 1 with | true => .vec (vecE es ++ [[int 0, int (IntKind.wrap IntKind.i64 (1 + (↑i : Int))), int (IntKind.wrap IntKind.i64 (a.credits * p.uses))]]) 0 3 | false => keepX (renR 1 1 0) (.vec (vecE es ++ [[int 0, int (IntKind.wrap IntKind.i64 (1 + (↑i : Int))), int (IntKind.wrap IntKind.i64 (a.credits * p.uses))]]) 1 3)) = true]) [.st (.mask [1, 2, 8, 9, 10, 11]), .st (.ren 1 0), .st (.trimV 2)] [.b true, .row [vi a.course, vi a.term, vi a.grade, vi a.campus, vi a.credits]] (by kernel_rfl) ⟨hlt, hr, (by first | assumption | rfl | exact vecE_map _ _ | exact vecE_inn _ _ | (rw [vecE_app]; exact vecE_map _ _) | (rw [vecE_app]; exact vecE_inn _ _) | (simp [rowOk, D.one, Value.oneCell', roomOk, vecE_len]; omega)), rfl, rfl, (by first | assumption | rfl | exact vecE_map _ _ | exact vecE_inn _ _ | (rw [vecE_app]; exact vecE_map _ _) | (rw [vecE_app]; exact vecE_inn _ _) | (simp [rowOk, D.one, Value.oneCell', roomOk, vecE_len]; omega)), rfl, rfl, (by first | assumption | rfl | exact vecE_map _ _ | exact vecE_inn _ _ | (rw [vecE_app]; exact vecE_map _ _) | (rw [vecE_app]; exact vecE_inn _ _) | (simp [rowOk, D.one, Value.oneCell', roomOk, vecE_len]; omega)), trivial⟩) (by simp only []; first | done | rfl) (by simp only [n1F, hw, vecE_app]; first | done | rfl)
theorem m1_last {p : ProgT} {l : List AttT} {es : List EdgT} {i : Nat} (hlt : decide ((i : Int) < ((l.map AttT.row).length : Int)) = false) : (CW Tryz.prog Γ0 [] false (sub Tryz.f17 0) (m1S p l es i) (.exit 0) (m1E p l es)) := by
 exact CW.cast (CW.symX (s := { t := mkT 118 0 [(1, rowsD' (List.map AttT.row l)), (2, .ref (.ptr 0 0)), (8, int (↑(List.length (List.map AttT.row l)) : Int)), (9, int (↑(List.length (List.map ReqT.row p.reqs)) : Int)), (10, .ref (.vec 1 0)), (11, int (↑i : Int))], h := [.var [strD p.nm, int p.number, int p.uses, int p.earn, int p.num, int p.den, rowsD' (List.map ReqT.row p.reqs)], .vec (vecE es) 0 3], m := [] }) (s' := { t := mkT 118 0 [(1, rowsD' (List.map AttT.row l)), (2, .ref (.ptr 0 0)), (8, int (↑(List.length (List.map AttT.row l)) : Int)), (9, int (↑(List.length (List.map ReqT.row p.reqs)) : Int)), (10, .ref (.vec 1 0))], h := [.var [strD p.nm, int p.number, int p.uses, int p.earn, int p.num, int p.den, rowsD' (List.map ReqT.row p.reqs)], .vec (vecE es) 0 3], m := [] }) (e := Exit.exit 0) pok (φ := [decide ((↑i : Int) < (↑(List.length (List.map AttT.row l)) : Int)) = false]) [.st (.mask [1, 2, 8, 9, 10])] [.b false] (by kernel_rfl) ⟨hlt, trivial⟩) (by rfl) (by rfl)
theorem m1_cw {p : ProgT} {l : List AttT} (hl : l.length ≤ 1000) : CW Tryz.prog Γ0 [] false (.loop (sub Tryz.f17 0)) (m1S p l [] 0) (.exit 0) (m1E p l (net1 p l)) := by
 have := CW.each (P := Tryz.prog) (Γ := Γ0) (h0 := []) (rd := false) (c := sub Tryz.f17 0) (σ := List EdgT × Int) (ρ := Empty) l (fun a s => .inl (n1F p s a))
  (fun i s => m1S p l s.1 (i : Int)) (.exit 0) (fun s => m1E p l s.1) (fun r => r.elim) (fun i s => s.2 = i ∧ s.1.length ≤ i) (by simp) (fun r => r.elim) ?_ ?_ ([], 0) (by simp)
 ·rw [forL_fold] at this
  exact this
 ·rintro i a ⟨es, k⟩ hc ⟨hk, he⟩
  simp only at hk he
  subst hk
  have hi := (List.getElem?_eq_some_iff.1 hc).1
  refine ⟨fun s' h => ?_, m1_body (rowAt hc rfl) (lt_len AttT.row hi) (wrap_succ hi (by omega)) (show es.length ≤ 1000000 by omega)⟩
  cases h
  simp [n1F]; omega
 ·intro s _
  exact m1_last (ge_len AttT.row l)
abbrev m2S (p : ProgT) (l : List AttT) (ks : List Int) (es : List EdgT) (i j : Int) : AS := { t := mkT 118 0 [(1, rowsD' (l.map AttT.row)), (2, .ref (.ptr 0 0)), (8, int ((l.map AttT.row).length : Int)), (9, int ((p.reqs.map ReqT.row).length : Int)), (10, .ref (.vec 1 0)), (12, int i), (13, rowsD' (inR1 ks)), (14, int j)], h := m1H p es, m := [] }
abbrev m2E (p : ProgT) (l : List AttT) (es : List EdgT) (i : Int) : AS := { t := mkT 118 0 [(1, rowsD' (l.map AttT.row)), (2, .ref (.ptr 0 0)), (8, int ((l.map AttT.row).length : Int)), (9, int ((p.reqs.map ReqT.row).length : Int)), (10, .ref (.vec 1 0)), (12, int i)], h := m1H p es, m := [] }
theorem m2_body {p : ProgT} {l : List AttT} {a : AttT} {ks : List Int} {es : List EdgT} {i k : Int} {j : Nat} (hr : RowAt i (l.map AttT.row) a.row 5) (hk : RowAt (j : Int) (inR1 ks) [vi k] 1) (hlt : decide ((j : Int) < ((inR1 ks).length : Int)) = true) (hw : IntKind.i64.wrap ((j : Int) + 1) = ((j + 1 : Nat) : Int)) (hl : es.length ≤ 1000000) : (CW Tryz.prog Γ0 [] false (sub Tryz.f17 2) (m2S p l ks es i j) .normal (m2S p l ks (n2F (midR l) i a.credits es k) i ((j + 1 : Nat) : Int))) := by
 exact CW.cast (CW.symX (s := { t := mkT 118 0 [(1, rowsD' (List.map AttT.row l)), (2, .ref (.ptr 0 0)), (8, int (↑(List.length (List.map AttT.row l)) : Int)), (9, int (↑(List.length (List.map ReqT.row p.reqs)) : Int)), (10, .ref (.vec 1 0)), (12, int i), (13, rowsD' (inR1 ks)), (14, int (↑j : Int))], h := [.var [strD p.nm, int p.number, int p.uses, int p.earn, int p.num, int p.den, rowsD' (List.map ReqT.row p.reqs)], .vec (vecE es) 0 3], m := [] }) (s' := { t := mkT 118 0 [(1, rowsD' (List.map AttT.row l)), (2, .ref (.ptr 0 0)), (8, int (↑(List.length (List.map AttT.row l)) : Int)), (9, int (↑(List.length (List.map ReqT.row p.reqs)) : Int)), (10, .ref (.vec 1 0)), (12, int i), (13, rowsD' (inR1 ks)), (14, int (IntKind.wrap IntKind.i64 ((↑j : Int) + 1)))], h := [.var [strD p.nm, int p.number, int p.uses, int p.earn, int p.num, int p.den, rowsD' (List.map ReqT.row p.reqs)], .vec (vecE es ++ [[int (IntKind.wrap IntKind.i64 (1 + i)), int (IntKind.wrap IntKind.i64 (IntKind.wrap IntKind.i64 (1 + (↑(List.length (List.map AttT.row l)) : Int)) + k)), int a.credits]]) 0 3], m := [] }) (e := Exit.normal) pok (φ := [decide ((↑j : Int) < (↑(List.length (inR1 ks)) : Int)) = true, RowAt (↑j : Int) (inR1 ks) [vi k] 1, RowAt i (List.map AttT.row l) [vi a.course, vi a.term, vi a.grade, vi a.campus, vi a.credits] 5, (List.all [[int (IntKind.wrap IntKind.i64 (1 + i)), int (IntKind.wrap IntKind.i64 (IntKind.wrap IntKind.i64 (1 + (↑(List.length (List.map AttT.row l)) : Int)) + k)), int a.credits]] (rowOk 3) && roomOk (List.length (vecE es) + List.length [[int (IntKind.wrap IntKind.i64 (1 + i)), int (IntKind.wrap IntKind.i64 (IntKind.wrap IntKind.i64 (1 + (↑(List.length (List.map AttT.row l)) : Int)) + k)), int a.credits]]) 24) = true, List.map (D.mapRL (renR 1 1 0)) (vecE es ++ [[int (IntKind.wrap IntKind.i64 (1 + i)), int (IntKind.wrap IntKind.i64 (IntKind.wrap IntKind.i64 (1 + (↑(List.length (List.map AttT.row l)) : Int)) + k)), int a.credits]]) = vecE es ++ [[int (IntKind.wrap IntKind.i64 (1 + i)), int (IntKind.wrap IntKind.i64 (IntKind.wrap IntKind.i64 (1 + (↑(List.length (List.map AttT.row l)) : Int)) + k)), int a.credits]], [[int (IntKind.wrap IntKind.i64 (1 + i)), int (IntKind.wrap IntKind.i64 (IntKind.wrap IntKind.i64 (1 + (↑(List.length (List.map AttT.row l)) : Int)) + k)), int a.credits]] = [[int (IntKind.wrap IntKind.i64 (1 + i)), int (IntKind.wrap IntKind.i64 (IntKind.wrap IntKind.i64 (1 + (↑(List.length (List.map AttT.row l)) : Int)) + k)), int a.credits]], Blk.inn 2 (match 0 == 1 with | true => .vec (vecE es ++ [[int (IntKind.wrap IntKind.i64 (1 + i)), int (IntKind.wrap IntKind.i64 (IntKind.wrap IntKind.i64 (1 + (↑(List.length (List.map AttT.row l)) : Int)) + k)), int a.credits]]) 0 3 | false => keepX (renR 1 1 0) (.var [strD p.nm, int p.number, int p.uses, int p.earn, int p.num, int p.den, rowsD' (List.map ReqT.row p.reqs)])) = true, Blk.inn 2 (match 0 + 1 == 1 with | true => .vec (vecE es ++ [[int (IntKind.wrap IntKind.i64 (1 + i)), int (IntKind.wrap IntKind.i64 (IntKind.wrap IntKind.i64 (1 + (↑(List.length (List.map AttT.row l)) : Int)) + k)), int a.credits]]) 0 3 | false => keepX (renR 1 1 0) (.vec (vecE es ++ [[int (IntKind.wrap IntKind.i64 (1 + i)), int (IntKind.wrap IntKind.i64 (IntKind.wrap IntKind.i64 (1 + (↑(List.length (List.map AttT.row l)) : Int)) + k)), int a.credits]]) 1 3)) = true]) [.st (.mask [1, 2, 8, 9, 10, 12, 13, 14]), .st (.ren 1 0), .st (.trimV 2)] [.b true, .row [vi k], .row [vi a.course, vi a.term, vi a.grade, vi a.campus, vi a.credits]] (by kernel_rfl) ⟨hlt, hk, hr, (by first | assumption | rfl | exact vecE_map _ _ | exact vecE_inn _ _ | (rw [vecE_app]; exact vecE_map _ _) | (rw [vecE_app]; exact vecE_inn _ _) | (simp [rowOk, D.one, Value.oneCell', roomOk, vecE_len]; omega)), (by first | assumption | rfl | exact vecE_map _ _ | exact vecE_inn _ _ | (rw [vecE_app]; exact vecE_map _ _) | (rw [vecE_app]; exact vecE_inn _ _) | (simp [rowOk, D.one, Value.oneCell', roomOk, vecE_len]; omega)), rfl, rfl, (by first | assumption | rfl | exact vecE_map _ _ | exact vecE_inn _ _ | (rw [vecE_app]; exact vecE_map _ _) | (rw [vecE_app]; exact vecE_inn _ _) | (simp [rowOk, D.one, Value.oneCell', roomOk, vecE_len]; omega)), trivial⟩) (by simp only []; first | done | rfl) (by simp only [n2F, hw, vecE_app]; first | done | rfl)
theorem m2_last {p : ProgT} {l : List AttT} {ks : List Int} {es : List EdgT} {i : Int} {j : Nat} (hlt : decide ((j : Int) < ((inR1 ks).length : Int)) = false) : (CW Tryz.prog Γ0 [] false (sub Tryz.f17 2) (m2S p l ks es i j) (.exit 4) (m2E p l es i)) := by
 exact CW.cast (CW.symX (s := { t := mkT 118 0 [(1, rowsD' (List.map AttT.row l)), (2, .ref (.ptr 0 0)), (8, int (↑(List.length (List.map AttT.row l)) : Int)), (9, int (↑(List.length (List.map ReqT.row p.reqs)) : Int)), (10, .ref (.vec 1 0)), (12, int i), (13, rowsD' (inR1 ks)), (14, int (↑j : Int))], h := [.var [strD p.nm, int p.number, int p.uses, int p.earn, int p.num, int p.den, rowsD' (List.map ReqT.row p.reqs)], .vec (vecE es) 0 3], m := [] }) (s' := { t := mkT 118 0 [(1, rowsD' (List.map AttT.row l)), (2, .ref (.ptr 0 0)), (8, int (↑(List.length (List.map AttT.row l)) : Int)), (9, int (↑(List.length (List.map ReqT.row p.reqs)) : Int)), (10, .ref (.vec 1 0)), (12, int i)], h := [.var [strD p.nm, int p.number, int p.uses, int p.earn, int p.num, int p.den, rowsD' (List.map ReqT.row p.reqs)], .vec (vecE es) 0 3], m := [] }) (e := Exit.exit 4) pok (φ := [decide ((↑j : Int) < (↑(List.length (inR1 ks)) : Int)) = false]) [.st (.mask [1, 2, 8, 9, 10, 12])] [.b false] (by kernel_rfl) ⟨hlt, trivial⟩) (by rfl) (by rfl)
theorem m2_cw {p : ProgT} {l : List AttT} {a : AttT} {ks : List Int} {es : List EdgT} {i : Int} (hr : RowAt i (l.map AttT.row) a.row 5) (hks : ks.length ≤ 1000) (hes : es.length ≤ 900000) : CW Tryz.prog Γ0 [] false (.loop (sub Tryz.f17 2)) (m2S p l ks es i 0) (.exit 4) (m2E p l (ks.foldl (n2F (midR l) i a.credits) es) i) := by
 have := CW.each (P := Tryz.prog) (Γ := Γ0) (h0 := []) (rd := false) (c := sub Tryz.f17 2) (σ := List EdgT) (ρ := Empty) ks (fun k s => .inl (n2F (midR l) i a.credits s k))
  (fun j s => m2S p l ks s i (j : Int)) (.exit 4) (fun s => m2E p l s i) (fun r => r.elim) (fun j s => s.length ≤ es.length + j) (by simp) (fun r => r.elim) ?_ ?_ es (by simp)
 ·rw [forL_fold] at this
  exact this
 ·intro j k s hc he
  have hi := (List.getElem?_eq_some_iff.1 hc).1
  refine ⟨fun s' h => ?_, m2_body hr (rowAt (row := fun n : Int => [vi n]) hc rfl) (lt_len (fun n : Int => [vi n]) hi) (wrap_succ hi (by omega)) (by omega)⟩
  cases h
  simp [n2F]; omega
 ·intro s _
  exact m2_last (ge_len (fun n : Int => [vi n]) ks)
abbrev m3S (p : ProgT) (l : List AttT) (es : List EdgT) (i : Int) : AS := { t := mkT 118 0 [(1, rowsD' (l.map AttT.row)), (2, .ref (.ptr 0 0)), (8, int ((l.map AttT.row).length : Int)), (9, int ((p.reqs.map ReqT.row).length : Int)), (10, .ref (.vec 1 0)), (12, int i)], h := m1H p es, m := [] }
abbrev m3E (p : ProgT) (l : List AttT) (es : List EdgT) : AS := { t := mkT 118 0 [(2, .ref (.ptr 0 0)), (8, int ((l.map AttT.row).length : Int)), (9, int ((p.reqs.map ReqT.row).length : Int)), (10, .ref (.vec 1 0))], h := m1H p es, m := [] }
noncomputable abbrev m3_body_x0 (p : ProgT) (es : List EdgT) : List Blk := [.var [strD p.nm, int p.number, int p.uses, int p.earn, int p.num, int p.den, rowsD' (List.map ReqT.row p.reqs)], .vec (vecE es) 0 3]
theorem m3_body {p : ProgT} {l : List AttT} {a : AttT} {es : List EdgT} {i : Nat} (hp : p.ok) (hn : p.reqs.length ≤ 1000) (hr : RowAt (i : Int) (l.map AttT.row) a.row 5) (hks : (elR p a).length ≤ 1000) (hlt : decide ((i : Int) < ((l.map AttT.row).length : Int)) = true) (hw : IntKind.i64.wrap ((i : Int) + 1) = ((i + 1 : Nat) : Int)) (hes : es.length ≤ 900000) : (CW Tryz.prog Γ0 [] false (sub Tryz.f17 1) (m3S p l es i) .normal (m3S p l (n3F p (midR l) (es, (i : Int)) a).1 ((i + 1 : Nat) : Int))) := by
 have hl0 := (@m2_cw (p) (l) (a) (elR p a) (es) ((↑i : Int)) (hr) (hks) (hes))
 exact CW.cast (CW.symX (s := { t := mkT 118 0 [(1, rowsD' (List.map AttT.row l)), (2, .ref (.ptr 0 0)), (8, int (↑(List.length (List.map AttT.row l)) : Int)), (9, int (↑(List.length (List.map ReqT.row p.reqs)) : Int)), (10, .ref (.vec 1 0)), (12, int (↑i : Int))], h := (m3_body_x0 p es), m := [] }) (s' := { t := mkT 118 0 [(1, rowsD' (List.map AttT.row l)), (2, .ref (.ptr 0 0)), (8, int (↑(List.length (List.map AttT.row l)) : Int)), (9, int (↑(List.length (List.map ReqT.row p.reqs)) : Int)), (10, .ref (.vec 1 0)), (12, int (IntKind.wrap IntKind.i64 ((↑i : Int) + 1)))], h := [.var [strD p.nm, int p.number, int p.uses, int p.earn, int p.num, int p.den, rowsD' (List.map ReqT.row p.reqs)], .vec (vecE (List.foldl (n2F (midR l) (↑i : Int) a.credits) es (elR p a))) 0 3], m := [] }) (e := Exit.normal) pok (φ := [decide ((↑i : Int) < (↑(List.length (List.map AttT.row l)) : Int)) = true, RowAt (↑i : Int) (List.map AttT.row l) [vi a.course, vi a.term, vi a.grade, vi a.campus, vi a.credits] 5, Ev Tryz.prog Γ0 15 [D.agg [strD p.nm, int p.number, int p.uses, int p.earn, int p.num, int p.den, rowsD' (List.map ReqT.row p.reqs)], D.agg [int a.course, int a.term, int a.grade, int a.campus, int a.credits]] (m3_body_x0 p es) (rowsD' (inR1 (elR p a))) (m3_body_x0 p es), CW Tryz.prog Γ0 [] false (.loop (sub Tryz.f17 2)) { t := mkT 118 0 [(1, rowsD' (List.map AttT.row l)), (2, .ref (.ptr 0 0)), (8, int (↑(List.length (List.map AttT.row l)) : Int)), (9, int (↑(List.length (List.map ReqT.row p.reqs)) : Int)), (10, .ref (.vec 1 0)), (12, int (↑i : Int)), (13, rowsD' (inR1 (elR p a))), (14, int 0)], h := (m3_body_x0 p es), m := [] } (Exit.exit 4) { t := mkT 118 0 [(1, rowsD' (List.map AttT.row l)), (2, .ref (.ptr 0 0)), (8, int (↑(List.length (List.map AttT.row l)) : Int)), (9, int (↑(List.length (List.map ReqT.row p.reqs)) : Int)), (10, .ref (.vec 1 0)), (12, int (↑i : Int))], h := [.var [strD p.nm, int p.number, int p.uses, int p.earn, int p.num, int p.den, rowsD' (List.map ReqT.row p.reqs)], .vec (vecE (List.foldl (n2F (midR l) (↑i : Int) a.credits) es (elR p a))) 0 3], m := [] }]) [.st (.mask [1, 2, 8, 9, 10, 12])] [.b true, .row [vi a.course, vi a.term, vi a.grade, vi a.campus, vi a.credits], .val (rowsD' (inR1 (elR p a))), .sum [1, 2, 8, 9, 10, 12, 13, 14] (Exit.exit 4) { t := mkT 118 0 [(1, rowsD' (List.map AttT.row l)), (2, .ref (.ptr 0 0)), (8, int (↑(List.length (List.map AttT.row l)) : Int)), (9, int (↑(List.length (List.map ReqT.row p.reqs)) : Int)), (10, .ref (.vec 1 0)), (12, int (↑i : Int))], h := [.var [strD p.nm, int p.number, int p.uses, int p.earn, int p.num, int p.den, rowsD' (List.map ReqT.row p.reqs)], .vec (vecE (List.foldl (n2F (midR l) (↑i : Int) a.credits) es (elR p a))) 0 3], m := [] }] (by kernel_rfl) ⟨hlt, hr, (@releg_ev (p) (hp) (hn) (a) ((m3_body_x0 p es))), hl0, trivial⟩) (by first | rfl | (simp only [n3F, hw]; first | done | rfl)) (by first | rfl | (simp only [n3F, hw]; first | done | rfl))
theorem m3_last {p : ProgT} {l : List AttT} {es : List EdgT} {i : Nat} (hlt : decide ((i : Int) < ((l.map AttT.row).length : Int)) = false) : (CW Tryz.prog Γ0 [] false (sub Tryz.f17 1) (m3S p l es i) (.exit 2) (m3E p l es)) := by
 exact CW.cast (CW.symX (s := { t := mkT 118 0 [(1, rowsD' (List.map AttT.row l)), (2, .ref (.ptr 0 0)), (8, int (↑(List.length (List.map AttT.row l)) : Int)), (9, int (↑(List.length (List.map ReqT.row p.reqs)) : Int)), (10, .ref (.vec 1 0)), (12, int (↑i : Int))], h := [.var [strD p.nm, int p.number, int p.uses, int p.earn, int p.num, int p.den, rowsD' (List.map ReqT.row p.reqs)], .vec (vecE es) 0 3], m := [] }) (s' := { t := mkT 118 0 [(2, .ref (.ptr 0 0)), (8, int (↑(List.length (List.map AttT.row l)) : Int)), (9, int (↑(List.length (List.map ReqT.row p.reqs)) : Int)), (10, .ref (.vec 1 0))], h := [.var [strD p.nm, int p.number, int p.uses, int p.earn, int p.num, int p.den, rowsD' (List.map ReqT.row p.reqs)], .vec (vecE es) 0 3], m := [] }) (e := Exit.exit 2) pok (φ := [decide ((↑i : Int) < (↑(List.length (List.map AttT.row l)) : Int)) = false]) [.st (.mask [2, 8, 9, 10])] [.b false] (by kernel_rfl) ⟨hlt, trivial⟩) (by rfl) (by rfl)
theorem m3_cw {p : ProgT} (hp : p.ok) {l : List AttT} {e0 : List EdgT} (hn : p.reqs.length ≤ 100) (hl : l.length ≤ 100) (he0 : e0.length ≤ 1000) : CW Tryz.prog Γ0 [] false (.loop (sub Tryz.f17 1)) (m3S p l e0 0) (.exit 2) (m3E p l (l.foldl (n3F p (midR l)) (e0, 0)).1) := by
 have := CW.each (P := Tryz.prog) (Γ := Γ0) (h0 := []) (rd := false) (c := sub Tryz.f17 1) (σ := List EdgT × Int) (ρ := Empty) l (fun a s => .inl (n3F p (midR l) s a))
  (fun i s => m3S p l s.1 (i : Int)) (.exit 2) (fun s => m3E p l s.1) (fun r => r.elim) (fun i s => s.2 = i ∧ s.1.length ≤ 1000 + 100 * i) (by simp) (fun r => r.elim) ?_ ?_ (e0, 0) (by simp; omega)
 ·rw [forL_fold] at this
  exact this
 ·rintro i a ⟨es, k⟩ hc ⟨hk, he⟩
  simp only at hk he
  subst hk
  have hi := (List.getElem?_eq_some_iff.1 hc).1
  have h1 := elR_len p a
  refine ⟨fun s' h => ?_, m3_body hp (by omega) (rowAt hc rfl) (by omega) (lt_len AttT.row hi) (wrap_succ hi (by omega)) (show es.length ≤ 900000 by omega)⟩
  cases h
  simp only [n3F, n2_len]
  refine ⟨by simp, ?_⟩
  omega
 ·intro s _
  exact m3_last (ge_len AttT.row l)
abbrev m4S (p : ProgT) (l : List AttT) (es : List EdgT) (i : Int) : AS := { t := mkT 118 0 [(2, .ref (.ptr 0 0)), (8, int ((l.map AttT.row).length : Int)), (9, int ((p.reqs.map ReqT.row).length : Int)), (10, .ref (.vec 1 0)), (15, int i)], h := m1H p es, m := [] }
abbrev m4E (p : ProgT) (l : List AttT) (es : List EdgT) : AS := { t := mkT 118 0 [(8, int ((l.map AttT.row).length : Int)), (9, int ((p.reqs.map ReqT.row).length : Int)), (10, .ref (.vec 1 0))], h := m1H p es, m := [] }
theorem m4_body {p : ProgT} {l : List AttT} {q : ReqT} {es : List EdgT} {i : Nat} (hr : RowAt (i : Int) (p.reqs.map ReqT.row) q.row 6) (hlt : decide ((i : Int) < ((p.reqs.map ReqT.row).length : Int)) = true) (hw : IntKind.i64.wrap ((i : Int) + 1) = ((i + 1 : Nat) : Int)) (hl : es.length ≤ 1000000) : (CW Tryz.prog Γ0 [] false (sub Tryz.f17 3) (m4S p l es i) .normal (m4S p l (n4F (midR l) (sinkR p l) (es, (i : Int)) q).1 ((i + 1 : Nat) : Int))) := by
 exact CW.cast (CW.symX (s := { t := mkT 118 0 [(2, .ref (.ptr 0 0)), (8, int (↑(List.length (List.map AttT.row l)) : Int)), (9, int (↑(List.length (List.map ReqT.row p.reqs)) : Int)), (10, .ref (.vec 1 0)), (15, int (↑i : Int))], h := [.var [strD p.nm, int p.number, int p.uses, int p.earn, int p.num, int p.den, rowsD' (List.map ReqT.row p.reqs)], .vec (vecE es) 0 3], m := [] }) (s' := { t := mkT 118 0 [(2, .ref (.ptr 0 0)), (8, int (↑(List.length (List.map AttT.row l)) : Int)), (9, int (↑(List.length (List.map ReqT.row p.reqs)) : Int)), (10, .ref (.vec 1 0)), (15, int (IntKind.wrap IntKind.i64 ((↑i : Int) + 1)))], h := [.var [strD p.nm, int p.number, int p.uses, int p.earn, int p.num, int p.den, rowsD' (List.map ReqT.row p.reqs)], .vec (vecE es ++ [[int (IntKind.wrap IntKind.i64 (IntKind.wrap IntKind.i64 (1 + (↑(List.length (List.map AttT.row l)) : Int)) + (↑i : Int))), int (IntKind.wrap IntKind.i64 (IntKind.wrap IntKind.i64 (1 + (↑(List.length (List.map AttT.row l)) : Int)) + (↑(List.length (List.map ReqT.row p.reqs)) : Int))), int q.credits]]) 0 3], m := [] }) (e := Exit.normal) pok (φ := [decide ((↑i : Int) < (↑(List.length (List.map ReqT.row p.reqs)) : Int)) = true, RowAt (↑i : Int) (List.map ReqT.row p.reqs) [vs q.nm, vi q.credits, vi q.grade, Dp.v (Value.bool q.home), Dp.sl q.names, Dp.sl (inR1 q.frm)] 6, (List.all [[int (IntKind.wrap IntKind.i64 (IntKind.wrap IntKind.i64 (1 + (↑(List.length (List.map AttT.row l)) : Int)) + (↑i : Int))), int (IntKind.wrap IntKind.i64 (IntKind.wrap IntKind.i64 (1 + (↑(List.length (List.map AttT.row l)) : Int)) + (↑(List.length (List.map ReqT.row p.reqs)) : Int))), int q.credits]] (rowOk 3) && roomOk (List.length (vecE es) + List.length [[int (IntKind.wrap IntKind.i64 (IntKind.wrap IntKind.i64 (1 + (↑(List.length (List.map AttT.row l)) : Int)) + (↑i : Int))), int (IntKind.wrap IntKind.i64 (IntKind.wrap IntKind.i64 (1 + (↑(List.length (List.map AttT.row l)) : Int)) + (↑(List.length (List.map ReqT.row p.reqs)) : Int))), int q.credits]]) 24) = true, List.map (D.mapRL (renR 1 1 0)) (vecE es ++ [[int (IntKind.wrap IntKind.i64 (IntKind.wrap IntKind.i64 (1 + (↑(List.length (List.map AttT.row l)) : Int)) + (↑i : Int))), int (IntKind.wrap IntKind.i64 (IntKind.wrap IntKind.i64 (1 + (↑(List.length (List.map AttT.row l)) : Int)) + (↑(List.length (List.map ReqT.row p.reqs)) : Int))), int q.credits]]) = vecE es ++ [[int (IntKind.wrap IntKind.i64 (IntKind.wrap IntKind.i64 (1 + (↑(List.length (List.map AttT.row l)) : Int)) + (↑i : Int))), int (IntKind.wrap IntKind.i64 (IntKind.wrap IntKind.i64 (1 + (↑(List.length (List.map AttT.row l)) : Int)) + (↑(List.length (List.map ReqT.row p.reqs)) : Int))), int q.credits]], [[int (IntKind.wrap IntKind.i64 (IntKind.wrap IntKind.i64 (1 + (↑(List.length (List.map AttT.row l)) : Int)) + (↑i : Int))), int (IntKind.wrap IntKind.i64 (IntKind.wrap IntKind.i64 (1 + (↑(List.length (List.map AttT.row l)) : Int)) + (↑(List.length (List.map ReqT.row p.reqs)) : Int))), int q.credits]] = [[int (IntKind.wrap IntKind.i64 (IntKind.wrap IntKind.i64 (1 + (↑(List.length (List.map AttT.row l)) : Int)) + (↑i : Int))), int (IntKind.wrap IntKind.i64 (IntKind.wrap IntKind.i64 (1 + (↑(List.length (List.map AttT.row l)) : Int)) + (↑(List.length (List.map ReqT.row p.reqs)) : Int))), int q.credits]], Blk.inn 2 (match 0 == 1 with | true => .vec (vecE es ++ [[int (IntKind.wrap IntKind.i64 (IntKind.wrap IntKind.i64 (1 + (↑(List.length (List.map AttT.row l)) : Int)) + (↑i : Int))), int (IntKind.wrap IntKind.i64 (IntKind.wrap IntKind.i64 (1 + (↑(List.length (List.map AttT.row l)) : Int)) + (↑(List.length (List.map ReqT.row p.reqs)) : Int))), int q.credits]]) 0 3 | false => keepX (renR 1 1 0) (.var [strD p.nm, int p.number, int p.uses, int p.earn, int p.num, int p.den, rowsD' (List.map ReqT.row p.reqs)])) = true, Blk.inn 2 (match 0 + 1 == 1 with | true => .vec (vecE es ++ [[int (IntKind.wrap IntKind.i64 (IntKind.wrap IntKind.i64 (1 + (↑(List.length (List.map AttT.row l)) : Int)) + (↑i : Int))), int (IntKind.wrap IntKind.i64 (IntKind.wrap IntKind.i64 (1 + (↑(List.length (List.map AttT.row l)) : Int)) + (↑(List.length (List.map ReqT.row p.reqs)) : Int))), int q.credits]]) 0 3 | false => keepX (renR 1 1 0) (.vec (vecE es ++ [[int (IntKind.wrap IntKind.i64 (IntKind.wrap IntKind.i64 (1 + (↑(List.length (List.map AttT.row l)) : Int)) + (↑i : Int))), int (IntKind.wrap IntKind.i64 (IntKind.wrap IntKind.i64 (1 + (↑(List.length (List.map AttT.row l)) : Int)) + (↑(List.length (List.map ReqT.row p.reqs)) : Int))), int q.credits]]) 1 3)) = true]) [.st (.mask [2, 8, 9, 10, 15]), .st (.ren 1 0), .st (.trimV 2)] [.b true, .row [vs q.nm, vi q.credits, vi q.grade, Dp.v (Value.bool q.home), Dp.sl q.names, Dp.sl (inR1 q.frm)]] (by kernel_rfl) ⟨hlt, hr, (by first | assumption | rfl | exact vecE_map _ _ | exact vecE_inn _ _ | (rw [vecE_app]; exact vecE_map _ _) | (rw [vecE_app]; exact vecE_inn _ _) | (simp [rowOk, D.one, Value.oneCell', roomOk, vecE_len]; omega)), (by first | assumption | rfl | exact vecE_map _ _ | exact vecE_inn _ _ | (rw [vecE_app]; exact vecE_map _ _) | (rw [vecE_app]; exact vecE_inn _ _) | (simp [rowOk, D.one, Value.oneCell', roomOk, vecE_len]; omega)), rfl, rfl, (by first | assumption | rfl | exact vecE_map _ _ | exact vecE_inn _ _ | (rw [vecE_app]; exact vecE_map _ _) | (rw [vecE_app]; exact vecE_inn _ _) | (simp [rowOk, D.one, Value.oneCell', roomOk, vecE_len]; omega)), trivial⟩) (by simp only []; first | done | rfl) (by simp only [n4F, hw, vecE_app]; first | done | rfl)
theorem m4_last {p : ProgT} {l : List AttT} {es : List EdgT} {i : Nat} (hlt : decide ((i : Int) < ((p.reqs.map ReqT.row).length : Int)) = false) : (CW Tryz.prog Γ0 [] false (sub Tryz.f17 3) (m4S p l es i) (.exit 6) (m4E p l es)) := by
 exact CW.cast (CW.symX (s := { t := mkT 118 0 [(2, .ref (.ptr 0 0)), (8, int (↑(List.length (List.map AttT.row l)) : Int)), (9, int (↑(List.length (List.map ReqT.row p.reqs)) : Int)), (10, .ref (.vec 1 0)), (15, int (↑i : Int))], h := [.var [strD p.nm, int p.number, int p.uses, int p.earn, int p.num, int p.den, rowsD' (List.map ReqT.row p.reqs)], .vec (vecE es) 0 3], m := [] }) (s' := { t := mkT 118 0 [(8, int (↑(List.length (List.map AttT.row l)) : Int)), (9, int (↑(List.length (List.map ReqT.row p.reqs)) : Int)), (10, .ref (.vec 1 0))], h := [.var [strD p.nm, int p.number, int p.uses, int p.earn, int p.num, int p.den, rowsD' (List.map ReqT.row p.reqs)], .vec (vecE es) 0 3], m := [] }) (e := Exit.exit 6) pok (φ := [decide ((↑i : Int) < (↑(List.length (List.map ReqT.row p.reqs)) : Int)) = false]) [.st (.mask [8, 9, 10])] [.b false] (by kernel_rfl) ⟨hlt, trivial⟩) (by rfl) (by rfl)
theorem m4_cw {p : ProgT} {l : List AttT} {e0 : List EdgT} (hn : p.reqs.length ≤ 100) (he : e0.length ≤ 100000) : CW Tryz.prog Γ0 [] false (.loop (sub Tryz.f17 3)) (m4S p l e0 0) (.exit 6) (m4E p l (p.reqs.foldl (n4F (midR l) (sinkR p l)) (e0, 0)).1) := by
 have := CW.each (P := Tryz.prog) (Γ := Γ0) (h0 := []) (rd := false) (c := sub Tryz.f17 3) (σ := List EdgT × Int) (ρ := Empty) p.reqs (fun a s => .inl (n4F (midR l) (sinkR p l) s a))
  (fun i s => m4S p l s.1 (i : Int)) (.exit 6) (fun s => m4E p l s.1) (fun r => r.elim) (fun i s => s.2 = i ∧ s.1.length ≤ e0.length + i) (by simp) (fun r => r.elim) ?_ ?_ (e0, 0) (by simp)
 ·rw [forL_fold] at this
  exact this
 ·rintro i a ⟨es, k⟩ hc ⟨hk, he⟩
  simp only at hk he
  subst hk
  have hi := (List.getElem?_eq_some_iff.1 hc).1
  refine ⟨fun s' h => ?_, m4_body (rowAt hc rfl) (lt_len ReqT.row hi) (wrap_succ hi (by omega)) (show es.length ≤ 1000000 by omega)⟩
  cases h
  simp [n4F]; omega
 ·intro s _
  exact m4_last (ge_len ReqT.row p.reqs)
def nodR (p : ProgT) (l : List AttT) : Int := IntKind.i64.wrap (IntKind.i64.wrap (2 + ((l.map AttT.row).length : Int)) + ((p.reqs.map ReqT.row).length : Int))
theorem nodR_eq (p : ProgT) (l : List AttT) (hn : p.reqs.length ≤ 100) (hl : l.length ≤ 100) : nodR p l = IntKind.i64.wrap (sinkR p l + 1) := by
 simp only [nodR, sinkR, midR, List.length_map]
 rw [wrap_i64 (n := 2 + (l.length : Int)) (by omega) (by omega), wrap_i64 (n := 1 + (l.length : Int)) (by omega) (by omega), wrap_i64 (n := 1 + (l.length : Int) + (p.reqs.length : Int)) (by omega) (by omega)]
 congr 1
 omega
def rnetX (p : ProgT) (l : List AttT) (e : Int) : Int × List EdgT × Int := match pErr p != 0 with
 | true => (0, [], pErr p)
 | false => match e != 0 with
  | true => (0, [], e)
  | false => (nodR p l, net3 p l, 0)
theorem rnetX_eq {p : ProgT} {l : List AttT} (hn : p.reqs.length ≤ 100) (hl : l.length ≤ 100) (e : Int) : rnetX p l e = netX p l e := by unfold rnetX netX; rw [nodR_eq p l hn hl] <;> rfl
noncomputable abbrev rnet_a_x0 (p : ProgT) : List D := [D.agg [strD p.nm, int p.number, int p.uses, int p.earn, int p.num, int p.den, rowsD' (List.map ReqT.row p.reqs)]]
noncomputable abbrev rnet_a_x1 (p : ProgT) : List Blk := [.var [strD p.nm, int p.number, int p.uses, int p.earn, int p.num, int p.den, rowsD' (List.map ReqT.row p.reqs)]]
theorem rnet_a {p : ProgT} (hp : p.ok) {l : List AttT} (hn : p.reqs.length ≤ 100) (hl : l.length ≤ 100) (h1 : (net1 p l).length ≤ 1000) (h2 : (net2 p l).length ≤ 100000) {a b c : Int} (hs : ∀ h, Ev Tryz.prog Γ0 38 [rowsD' (l.map AttT.row)] h (.tup [int a, int b, int c]) h) (h : List Blk) : (Ev Tryz.prog Γ0 17 [.agg p.l, rowsD' (l.map AttT.row)] h (.tup [int (rnetX p l c).1, rowsD' ((rnetX p l c).2.1.map EdgT.row), int (rnetX p l c).2.2]) h) := by
 cases hc0 : pErr p != 0
 ·cases hc1 : c != 0
  ·have hl2 := (@m1_cw (p) (l) (by first | assumption | rfl | exact vecE_frz _ | omega))
   have hl3 := (@m3_cw (p) (hp) (l) (net1 p l) (hn) (hl) (h1))
   have hl4 := (@m4_cw (p) (l) ((List.foldl (n3F p (midR l)) (net1 p l, 0) l).fst) (hn) (h2))
   exact Ev.castH (Ev.nilW (Ev.sym0 (P := Tryz.prog) (Γ := Γ0) (f := 17) (args := [D.agg (ProgT.l p), rowsD' (List.map AttT.row l)]) (d := D.tup [int (IntKind.wrap IntKind.i64 (IntKind.wrap IntKind.i64 (2 + (↑(List.length (List.map AttT.row l)) : Int)) + (↑(List.length (List.map ReqT.row p.reqs)) : Int))), rowsD' (List.map EdgT.row (net3 p l)), int 0]) pok (φ := [Ev Tryz.prog Γ0 12 (rnet_a_x0 p) (rnet_a_x1 p) (int (pErr p)) (rnet_a_x1 p), (pErr p != 0) = false, Ev Tryz.prog Γ0 38 [rowsD' (List.map AttT.row l)] (rnet_a_x1 p) (D.tup [int a, int b, int c]) (rnet_a_x1 p), (c != 0) = false, CW Tryz.prog Γ0 [] false (.loop (sub Tryz.f17 0)) { t := mkT 118 0 [(1, rowsD' (List.map AttT.row l)), (2, .ref (.ptr 0 0)), (8, int (↑(List.length (List.map AttT.row l)) : Int)), (9, int (↑(List.length (List.map ReqT.row p.reqs)) : Int)), (10, .ref (.vec 1 0)), (11, int 0)], h := [.var [strD p.nm, int p.number, int p.uses, int p.earn, int p.num, int p.den, rowsD' (List.map ReqT.row p.reqs)], .vec [] 0 3], m := [] } (Exit.exit 0) { t := mkT 118 0 [(1, rowsD' (List.map AttT.row l)), (2, .ref (.ptr 0 0)), (8, int (↑(List.length (List.map AttT.row l)) : Int)), (9, int (↑(List.length (List.map ReqT.row p.reqs)) : Int)), (10, .ref (.vec 1 0))], h := [.var [strD p.nm, int p.number, int p.uses, int p.earn, int p.num, int p.den, rowsD' (List.map ReqT.row p.reqs)], .vec (vecE (net1 p l)) 0 3], m := [] }, CW Tryz.prog Γ0 [] false (.loop (sub Tryz.f17 1)) { t := mkT 118 0 [(1, rowsD' (List.map AttT.row l)), (2, .ref (.ptr 0 0)), (8, int (↑(List.length (List.map AttT.row l)) : Int)), (9, int (↑(List.length (List.map ReqT.row p.reqs)) : Int)), (10, .ref (.vec 1 0)), (12, int 0)], h := [.var [strD p.nm, int p.number, int p.uses, int p.earn, int p.num, int p.den, rowsD' (List.map ReqT.row p.reqs)], .vec (vecE (net1 p l)) 0 3], m := [] } (Exit.exit 2) { t := mkT 118 0 [(2, .ref (.ptr 0 0)), (8, int (↑(List.length (List.map AttT.row l)) : Int)), (9, int (↑(List.length (List.map ReqT.row p.reqs)) : Int)), (10, .ref (.vec 1 0))], h := [.var [strD p.nm, int p.number, int p.uses, int p.earn, int p.num, int p.den, rowsD' (List.map ReqT.row p.reqs)], .vec (vecE (List.foldl (n3F p (midR l)) (net1 p l, 0) l).fst) 0 3], m := [] }, CW Tryz.prog Γ0 [] false (.loop (sub Tryz.f17 3)) { t := mkT 118 0 [(2, .ref (.ptr 0 0)), (8, int (↑(List.length (List.map AttT.row l)) : Int)), (9, int (↑(List.length (List.map ReqT.row p.reqs)) : Int)), (10, .ref (.vec 1 0)), (15, int 0)], h := [.var [strD p.nm, int p.number, int p.uses, int p.earn, int p.num, int p.den, rowsD' (List.map ReqT.row p.reqs)], .vec (vecE (List.foldl (n3F p (midR l)) (net1 p l, 0) l).fst) 0 3], m := [] } (Exit.exit 6) { t := mkT 118 0 [(8, int (↑(List.length (List.map AttT.row l)) : Int)), (9, int (↑(List.length (List.map ReqT.row p.reqs)) : Int)), (10, .ref (.vec 1 0))], h := [.var [strD p.nm, int p.number, int p.uses, int p.earn, int p.num, int p.den, rowsD' (List.map ReqT.row p.reqs)], .vec (vecE (List.foldl (n4F (midR l) (sinkR p l)) ((List.foldl (n3F p (midR l)) (net1 p l, 0) l).fst, 0) p.reqs).fst) 0 3], m := [] }, vecE (List.foldl (n4F (midR l) (sinkR p l)) ((List.foldl (n3F p (midR l)) (net1 p l, 0) l).fst, 0) p.reqs).fst = List.map (fun x => List.map D.p x) (List.map EdgT.row (net3 p l))]) [.val (int (pErr p)), .b false, .val (D.tup [int a, int b, int c]), .b false, .sum [1, 2, 8, 9, 10, 11] (Exit.exit 0) { t := mkT 118 0 [(1, rowsD' (List.map AttT.row l)), (2, .ref (.ptr 0 0)), (8, int (↑(List.length (List.map AttT.row l)) : Int)), (9, int (↑(List.length (List.map ReqT.row p.reqs)) : Int)), (10, .ref (.vec 1 0))], h := [.var [strD p.nm, int p.number, int p.uses, int p.earn, int p.num, int p.den, rowsD' (List.map ReqT.row p.reqs)], .vec (vecE (net1 p l)) 0 3], m := [] }, .sum [1, 2, 8, 9, 10, 12] (Exit.exit 2) { t := mkT 118 0 [(2, .ref (.ptr 0 0)), (8, int (↑(List.length (List.map AttT.row l)) : Int)), (9, int (↑(List.length (List.map ReqT.row p.reqs)) : Int)), (10, .ref (.vec 1 0))], h := [.var [strD p.nm, int p.number, int p.uses, int p.earn, int p.num, int p.den, rowsD' (List.map ReqT.row p.reqs)], .vec (vecE (List.foldl (n3F p (midR l)) (net1 p l, 0) l).fst) 0 3], m := [] }, .sum [2, 8, 9, 10, 15] (Exit.exit 6) { t := mkT 118 0 [(8, int (↑(List.length (List.map AttT.row l)) : Int)), (9, int (↑(List.length (List.map ReqT.row p.reqs)) : Int)), (10, .ref (.vec 1 0))], h := [.var [strD p.nm, int p.number, int p.uses, int p.earn, int p.num, int p.den, rowsD' (List.map ReqT.row p.reqs)], .vec (vecE (List.foldl (n4F (midR l) (sinkR p l)) ((List.foldl (n3F p (midR l)) (net1 p l, 0) l).fst, 0) p.reqs).fst) 0 3], m := [] }, .st (.frz 1 (List.map EdgT.row (net3 p l)))] (by kernel_rfl) ⟨(@rcheck_ev (p) (hp) ((rnet_a_x1 p))), hc0, (@hs ((rnet_a_x1 p))), hc1, hl2, hl3, hl4, (by first | assumption | rfl | exact vecE_frz _ | omega), trivial⟩ rfl rfl h)) (by simp only [rnetX, hc0, hc1]; first | done | rfl) (by rfl)
  ·exact Ev.castH (Ev.nilW (Ev.sym0 (P := Tryz.prog) (Γ := Γ0) (f := 17) (args := [D.agg (ProgT.l p), rowsD' (List.map AttT.row l)]) (d := D.tup [int 0, D.p (Dp.v (Value.slice none 0 0)), int c]) pok (φ := [Ev Tryz.prog Γ0 12 (rnet_a_x0 p) (rnet_a_x1 p) (int (pErr p)) (rnet_a_x1 p), (pErr p != 0) = false, Ev Tryz.prog Γ0 38 [rowsD' (List.map AttT.row l)] (rnet_a_x1 p) (D.tup [int a, int b, int c]) (rnet_a_x1 p), (c != 0) = true]) [.val (int (pErr p)), .b false, .val (D.tup [int a, int b, int c]), .b true] (by kernel_rfl) ⟨(@rcheck_ev (p) (hp) ((rnet_a_x1 p))), hc0, (@hs ((rnet_a_x1 p))), hc1, trivial⟩ rfl rfl h)) (by simp only [rnetX, hc0, hc1]; first | done | rfl) (by rfl)
 ·exact Ev.castH (Ev.nilW (Ev.sym0 (P := Tryz.prog) (Γ := Γ0) (f := 17) (args := [D.agg (ProgT.l p), rowsD' (List.map AttT.row l)]) (d := D.tup [int 0, D.p (Dp.v (Value.slice none 0 0)), int (pErr p)]) pok (φ := [Ev Tryz.prog Γ0 12 (rnet_a_x0 p) (rnet_a_x1 p) (int (pErr p)) (rnet_a_x1 p), (pErr p != 0) = true]) [.val (int (pErr p)), .b true] (by kernel_rfl) ⟨(@rcheck_ev (p) (hp) ((rnet_a_x1 p))), hc0, trivial⟩ rfl rfl h)) (by simp only [rnetX, hc0]; first | done | rfl) (by rfl)
theorem rnet_ev {p : ProgT} (hp : p.ok) {l : List AttT} (hn : p.reqs.length ≤ 100) (hl : l.length ≤ 100) (h : List Blk) : Ev Tryz.prog Γ0 17 [.agg p.l, rowsD' (l.map AttT.row)] h (.tup [int (netR p l).1, rowsD' ((netR p l).2.1.map EdgT.row), int (netR p l).2.2]) h := by
 unfold netR
 rw [← rnetX_eq hn hl]
 exact rnet_a hp hn hl (by have := net1_len p l; omega) (by have := net2_len p l hn hl; omega) (fun h => sums5_ev (by unfold Short; omega) h) h
end Go.Vi

open Go Go.Proofs
namespace Go.Vi
set_option maxRecDepth 100000
set_option maxHeartbeats 4000000
abbrev fwS (p : ProgT) (i : Int) : AS := { t := mkT 30 0 [(2, .ref (.ptr 0 0)), (4, bool false), (5, int i)], h := [.var p.l], m := [] }
abbrev fwE (p : ProgT) : AS := { t := mkT 30 0 [], h := [.var p.l], m := [] }
abbrev fwX (p : ProgT) : Unit → Exit × AS := fun _ => (.ret, { t := mkT 30 0 [(4, bool false)], h := [.var p.l], m := [] })
def fwF (q : ReqT) (_ : Unit) : Unit ⊕ Unit := bif decide (((inR1 q.frm).length : Int) > 10) then .inr () else .inl ()
theorem fw_body {p : ProgT} {q : ReqT} {i : Nat} (hr : RowAt (i : Int) (p.reqs.map ReqT.row) q.row 6) (hlt : decide ((i : Int) < ((p.reqs.map ReqT.row).length : Int)) = true) (hw : IntKind.i64.wrap ((i : Int) + 1) = ((i + 1 : Nat) : Int)) : (CW Tryz.prog Γ0 [] false (sub Tryz.f10 0) (fwS p i) (bodyFin (fun _ : Unit => fwS p ((i + 1 : Nat) : Int)) (fwX p) (fwF q ())).1 (bodyFin (fun _ : Unit => fwS p ((i + 1 : Nat) : Int)) (fwX p) (fwF q ())).2) := by
 cases hc0 : decide ((↑(List.length (inR1 q.frm)) : Int) > 10)
 ·exact CW.cast (CW.symX (s := { t := mkT 30 0 [(2, .ref (.ptr 0 0)), (4, bool false), (5, int (↑i : Int))], h := [.var [strD p.nm, int p.number, int p.uses, int p.earn, int p.num, int p.den, rowsD' (List.map ReqT.row p.reqs)]], m := [] }) (s' := { t := mkT 30 0 [(2, .ref (.ptr 0 0)), (4, bool false), (5, int (IntKind.wrap IntKind.i64 ((↑i : Int) + 1)))], h := [.var [strD p.nm, int p.number, int p.uses, int p.earn, int p.num, int p.den, rowsD' (List.map ReqT.row p.reqs)]], m := [] }) (e := Exit.normal) pok (φ := [decide ((↑i : Int) < (↑(List.length (List.map ReqT.row p.reqs)) : Int)) = true, RowAt (↑i : Int) (List.map ReqT.row p.reqs) [vs q.nm, vi q.credits, vi q.grade, Dp.v (Value.bool q.home), Dp.sl q.names, Dp.sl (inR1 q.frm)] 6, decide ((↑(List.length (inR1 q.frm)) : Int) > 10) = false]) [.st (.mask [2, 4, 5])] [.b true, .row [vs q.nm, vi q.credits, vi q.grade, Dp.v (Value.bool q.home), Dp.sl q.names, Dp.sl (inR1 q.frm)], .b false] (by kernel_rfl) ⟨hlt, hr, hc0, trivial⟩) (by simp only [fwF, hc0, cond_false, bodyFin]; first | done | rfl) (by simp only [fwF, hc0, cond_false, bodyFin, hw]; first | done | rfl)
 ·exact CW.cast (CW.symX (s := { t := mkT 30 0 [(2, .ref (.ptr 0 0)), (4, bool false), (5, int (↑i : Int))], h := [.var [strD p.nm, int p.number, int p.uses, int p.earn, int p.num, int p.den, rowsD' (List.map ReqT.row p.reqs)]], m := [] }) (s' := { t := mkT 30 0 [(4, bool false)], h := [.var [strD p.nm, int p.number, int p.uses, int p.earn, int p.num, int p.den, rowsD' (List.map ReqT.row p.reqs)]], m := [] }) (e := Exit.ret) pok (φ := [decide ((↑i : Int) < (↑(List.length (List.map ReqT.row p.reqs)) : Int)) = true, RowAt (↑i : Int) (List.map ReqT.row p.reqs) [vs q.nm, vi q.credits, vi q.grade, Dp.v (Value.bool q.home), Dp.sl q.names, Dp.sl (inR1 q.frm)] 6, decide ((↑(List.length (inR1 q.frm)) : Int) > 10) = true]) [.st (.mask [4])] [.b true, .row [vs q.nm, vi q.credits, vi q.grade, Dp.v (Value.bool q.home), Dp.sl q.names, Dp.sl (inR1 q.frm)], .b true] (by kernel_rfl) ⟨hlt, hr, hc0, trivial⟩) (by simp only [fwF, hc0, cond_true, bodyFin]; first | done | rfl) (by simp only [fwF, hc0, cond_true, bodyFin]; first | done | rfl)
theorem fw_last {p : ProgT} {i : Nat} (hlt : decide ((i : Int) < ((p.reqs.map ReqT.row).length : Int)) = false) : (CW Tryz.prog Γ0 [] false (sub Tryz.f10 0) (fwS p i) (.exit 0) (fwE p)) := by
 exact CW.cast (CW.symX (s := { t := mkT 30 0 [(2, .ref (.ptr 0 0)), (4, bool false), (5, int (↑i : Int))], h := [.var [strD p.nm, int p.number, int p.uses, int p.earn, int p.num, int p.den, rowsD' (List.map ReqT.row p.reqs)]], m := [] }) (s' := { t := mkT 30 0 [], h := [.var [strD p.nm, int p.number, int p.uses, int p.earn, int p.num, int p.den, rowsD' (List.map ReqT.row p.reqs)]], m := [] }) (e := Exit.exit 0) pok (φ := [decide ((↑i : Int) < (↑(List.length (List.map ReqT.row p.reqs)) : Int)) = false]) [.st (.mask [])] [.b false] (by kernel_rfl) ⟨hlt, trivial⟩) (by rfl) (by rfl)
def fwFin (p : ProgT) : Exit × AS := eachFin (.exit 0) (fun _ : Unit => fwE p) (fwX p) (forL fwF p.reqs ())
theorem fw_cw {p : ProgT} (hs : Short p.reqs) : CW Tryz.prog Γ0 [] false (.loop (sub Tryz.f10 0)) (fwS p 0) (fwFin p).1 (fwFin p).2 := by
 refine CW.each p.reqs fwF (fun i _ => fwS p (i : Int)) (.exit 0) (fun _ => fwE p) (fwX p) (fun _ _ => True) (by simp) (fun _ => by simp []) ?_ ?_ () trivial
 ·intro i q _ hc _
  have hi := (List.getElem?_eq_some_iff.1 hc).1
  exact ⟨fun _ _ => trivial, fw_body (rowAt hc rfl) (lt_len ReqT.row hi) (wrap_succ hi hs)⟩
 ·intro _ _
  exact fw_last (ge_len ReqT.row p.reqs)
def fwB (p : ProgT) : Bool := match forL fwF p.reqs () with | .inl _ => true | .inr _ => false
def fewB (p : ProgT) (n : Int) : Bool := bif decide (((p.reqs.map ReqT.row).length : Int) > 6) || decide (n > 8) then false else fwB p
theorem few_ev {p : ProgT} (hs : Short p.reqs) {l : List AttT} (h : List Blk) : (Ev Tryz.prog Γ0 10 [.agg p.l, rowsD' (l.map AttT.row)] h (bool (fewB p ((l.map AttT.row).length : Int))) h) := by
 cases hc0 : decide ((↑(List.length (List.map ReqT.row p.reqs)) : Int) > 6) || decide ((↑(List.length (List.map AttT.row l)) : Int) > 8)
 ·have hl1 := (@fw_cw (p) (hs))
  unfold fwFin at hl1
  revert hl1
  cases ho2 : forL fwF p.reqs () with
  | inl o2_0_0 =>
   intro hl1
   exact Ev.castH (Ev.sym0 (P := Tryz.prog) (Γ := Γ0) (f := 10) (args := [D.agg (ProgT.l p), rowsD' (List.map AttT.row l)]) (d := bool true) pok (φ := [(decide ((↑(List.length (List.map ReqT.row p.reqs)) : Int) > 6) || decide ((↑(List.length (List.map AttT.row l)) : Int) > 8)) = false, CW Tryz.prog Γ0 [] false (.loop (sub Tryz.f10 0)) { t := mkT 30 0 [(2, .ref (.ptr 0 0)), (4, bool false), (5, int 0)], h := [.var [strD p.nm, int p.number, int p.uses, int p.earn, int p.num, int p.den, rowsD' (List.map ReqT.row p.reqs)]], m := [] } (Exit.exit 0) { t := mkT 30 0 [], h := [.var [strD p.nm, int p.number, int p.uses, int p.earn, int p.num, int p.den, rowsD' (List.map ReqT.row p.reqs)]], m := [] }]) [.b false, .sum [2, 4, 5] (Exit.exit 0) { t := mkT 30 0 [], h := [.var [strD p.nm, int p.number, int p.uses, int p.earn, int p.num, int p.den, rowsD' (List.map ReqT.row p.reqs)]], m := [] }] (by kernel_rfl) ⟨hc0, hl1, trivial⟩ rfl rfl h) (by simp only [fewB, fwB, hc0, ho2, cond_false]; first | done | rfl) (by rfl)
  | inr o2_1_0 =>
   intro hl1
   exact Ev.castH (Ev.sym0 (P := Tryz.prog) (Γ := Γ0) (f := 10) (args := [D.agg (ProgT.l p), rowsD' (List.map AttT.row l)]) (d := bool false) pok (φ := [(decide ((↑(List.length (List.map ReqT.row p.reqs)) : Int) > 6) || decide ((↑(List.length (List.map AttT.row l)) : Int) > 8)) = false, CW Tryz.prog Γ0 [] false (.loop (sub Tryz.f10 0)) { t := mkT 30 0 [(2, .ref (.ptr 0 0)), (4, bool false), (5, int 0)], h := [.var [strD p.nm, int p.number, int p.uses, int p.earn, int p.num, int p.den, rowsD' (List.map ReqT.row p.reqs)]], m := [] } (Exit.ret) { t := mkT 30 0 [(4, bool false)], h := [.var [strD p.nm, int p.number, int p.uses, int p.earn, int p.num, int p.den, rowsD' (List.map ReqT.row p.reqs)]], m := [] }]) [.b false, .sum [2, 4, 5] (Exit.ret) { t := mkT 30 0 [(4, bool false)], h := [.var [strD p.nm, int p.number, int p.uses, int p.earn, int p.num, int p.den, rowsD' (List.map ReqT.row p.reqs)]], m := [] }] (by kernel_rfl) ⟨hc0, hl1, trivial⟩ rfl rfl h) (by simp only [fewB, fwB, hc0, ho2, cond_false]; first | done | rfl) (by rfl)
 ·exact Ev.castH (Ev.sym0 (P := Tryz.prog) (Γ := Γ0) (f := 10) (args := [D.agg (ProgT.l p), rowsD' (List.map AttT.row l)]) (d := bool false) pok (φ := [(decide ((↑(List.length (List.map ReqT.row p.reqs)) : Int) > 6) || decide ((↑(List.length (List.map AttT.row l)) : Int) > 8)) = true]) [.b true] (by kernel_rfl) ⟨hc0, trivial⟩ rfl rfl h) (by simp only [fewB, fwB, hc0, cond_true]; first | done | rfl) (by rfl)
end Go.Vi
open Go Go.Proofs
namespace Go.Vi
set_option maxRecDepth 100000
set_option maxHeartbeats 4000000
abbrev seS (l : List (List Dp)) (i : Int) : AS := { t := mkT 26 0 [(0, rowsD' l), (1, rowsD' l), (4, bool false), (5, int i)], h := [], m := [] }
theorem edself (x : EdgT) : (!(x.frm == x.frm && (x.to == x.to && (x.most == x.most && true)))) = false := by simp
theorem se_body {l : List (List Dp)} {x : EdgT} {i : Nat} (hr : RowAt (i : Int) l x.row 3) (hz : (!(x.frm == x.frm && (x.to == x.to && (x.most == x.most && true)))) = false) (hlt : decide ((i : Int) < (l.length : Int)) = true) (hw : IntKind.i64.wrap ((i : Int) + 1) = ((i + 1 : Nat) : Int)) : (CW Tryz.prog Γ0 [] false (sub Tryz.f18 0) (seS l i) .normal (seS l ((i + 1 : Nat) : Int))) := by
 exact CW.cast (CW.symX (s := { t := mkT 26 0 [(0, rowsD' l), (1, rowsD' l), (4, bool false), (5, int (↑i : Int))], h := [], m := [] }) (s' := { t := mkT 26 0 [(0, rowsD' l), (1, rowsD' l), (4, bool false), (5, int (IntKind.wrap IntKind.i64 ((↑i : Int) + 1)))], h := [], m := [] }) (e := Exit.normal) pok (φ := [decide ((↑i : Int) < (↑(List.length l) : Int)) = true, RowAt (↑i : Int) l [vi x.frm, vi x.to, vi x.most] 3, RowAt (↑i : Int) l [vi x.frm, vi x.to, vi x.most] 3, (!(x.frm == x.frm && (x.to == x.to && (x.most == x.most && true)))) = false]) [.st (.mask [0, 1, 4, 5])] [.b true, .row [vi x.frm, vi x.to, vi x.most], .row [vi x.frm, vi x.to, vi x.most], .b false] (by kernel_rfl) ⟨hlt, hr, hr, hz, trivial⟩) (by first | rfl | (rw [hw])) (by first | rfl | (rw [hw]))
theorem se_last {l : List (List Dp)} {i : Nat} (hlt : decide ((i : Int) < (l.length : Int)) = false) : (CW Tryz.prog Γ0 [] false (sub Tryz.f18 0) (seS l i) (.exit 0) { t := mkT 26 0 [], h := [], m := [] }) := by
 exact CW.cast (CW.symX (s := { t := mkT 26 0 [(0, rowsD' l), (1, rowsD' l), (4, bool false), (5, int (↑i : Int))], h := [], m := [] }) (s' := { t := mkT 26 0 [], h := [], m := [] }) (e := Exit.exit 0) pok (φ := [decide ((↑i : Int) < (↑(List.length l) : Int)) = false]) [.st (.mask [])] [.b false] (by kernel_rfl) ⟨hlt, trivial⟩) (by rfl) (by rfl)
theorem se_cw {l : List EdgT} (hl : Short l) : CW Tryz.prog Γ0 [] false (.loop (sub Tryz.f18 0)) (seS (l.map EdgT.row) 0) (.exit 0) { t := mkT 26 0 [], h := [], m := [] } := by
 refine CW.loopN l.length (fun i => seS (l.map EdgT.row) (i : Int)) (by simp) (fun i hi => ?_) ?_
 ·exact se_body (rowAt (List.getElem?_eq_getElem hi) rfl) (edself _) (lt_len EdgT.row hi) (wrap_succ hi hl)
 ·exact se_last (ge_len EdgT.row l)
theorem sameE_ev {l : List EdgT} (hl : Short l) (hn : (((l.map EdgT.row).length : Int) != ((l.map EdgT.row).length : Int)) = false) (h : List Blk) : (Ev Tryz.prog Γ0 18 [rowsD' (l.map EdgT.row), rowsD' (l.map EdgT.row)] h (bool true) h) := by
 have hl0 := (@se_cw (l) (hl))
 exact Ev.castH (Ev.sym0 (P := Tryz.prog) (Γ := Γ0) (f := 18) (args := [rowsD' (List.map EdgT.row l), rowsD' (List.map EdgT.row l)]) (d := bool true) pok (φ := [((↑(List.length (List.map EdgT.row l)) : Int) != (↑(List.length (List.map EdgT.row l)) : Int)) = false, CW Tryz.prog Γ0 [] false (.loop (sub Tryz.f18 0)) { t := mkT 26 0 [(0, rowsD' (List.map EdgT.row l)), (1, rowsD' (List.map EdgT.row l)), (4, bool false), (5, int 0)], h := [], m := [] } (Exit.exit 0) { t := mkT 26 0 [], h := [], m := [] }]) [.b false, .sum [0, 1, 4, 5] (Exit.exit 0) { t := mkT 26 0 [], h := [], m := [] }] (by kernel_rfl) ⟨hn, hl0, trivial⟩ rfl rfl h) (by rfl) (by rfl)
noncomputable abbrev nw_out_x0 (p : ProgT) : List Blk := [.var [strD p.nm, int p.number, int p.uses, int p.earn, int p.num, int p.den, rowsD' (List.map ReqT.row p.reqs)]]
theorem nw_out {p : ProgT} {l : List AttT} (hp : p.ok) (hs : Short p.reqs) (hsane : ∀ h, Ev Tryz.prog Γ0 9 [] h (bool true) h) (ho : (!fewB p ((l.map AttT.row).length : Int)) = true) (h : List Blk) : (Ev Tryz.prog Γ0 4 [.agg p.l, rowsD' (l.map AttT.row)] h (bool true) h) := by
 exact Ev.castH (Ev.sym0 (P := Tryz.prog) (Γ := Γ0) (f := 4) (args := [D.agg (ProgT.l p), rowsD' (List.map AttT.row l)]) (d := bool true) pok (φ := [Ev Tryz.prog Γ0 9 [] (nw_out_x0 p) (bool true) (nw_out_x0 p), (!true) = false, Ev Tryz.prog Γ0 10 [D.agg [strD p.nm, int p.number, int p.uses, int p.earn, int p.num, int p.den, rowsD' (List.map ReqT.row p.reqs)], rowsD' (List.map AttT.row l)] (nw_out_x0 p) (bool (fewB p (↑(List.length (List.map AttT.row l)) : Int))) (nw_out_x0 p), (!fewB p (↑(List.length (List.map AttT.row l)) : Int)) = true]) [.val (bool true), .b false, .val (bool (fewB p (↑(List.length (List.map AttT.row l)) : Int))), .b true] (by kernel_rfl) ⟨(@hsane ((nw_out_x0 p))), rfl, (@few_ev (p) (hs) (l) ((nw_out_x0 p))), ho, trivial⟩ rfl rfl h) (by rfl) (by rfl)
noncomputable abbrev nw_in_x0 (p : ProgT) (l : List AttT) : List D := [D.agg [strD p.nm, int p.number, int p.uses, int p.earn, int p.num, int p.den, rowsD' (List.map ReqT.row p.reqs)], rowsD' (List.map AttT.row l)]
noncomputable abbrev nw_in_x1 (p : ProgT) : List Blk := [.var [strD p.nm, int p.number, int p.uses, int p.earn, int p.num, int p.den, rowsD' (List.map ReqT.row p.reqs)]]
theorem nw_in {p : ProgT} {l : List AttT} (hp : p.ok) (hs : Short p.reqs) {n e : Int} {es : List EdgT} (hes : Short es) (hx : (((es.map EdgT.row).length : Int) != ((es.map EdgT.row).length : Int)) = false) (hsane : ∀ h, Ev Tryz.prog Γ0 9 [] h (bool true) h) (ho : (!fewB p ((l.map AttT.row).length : Int)) = false)
  (hN : ∀ h, Ev Tryz.prog Γ0 16 [.agg p.l, rowsD' (l.map AttT.row)] h (.tup [int n, rowsD' (es.map EdgT.row), int e]) h) (hM : ∀ h, Ev Tryz.prog Γ0 17 [.agg p.l, rowsD' (l.map AttT.row)] h (.tup [int n, rowsD' (es.map EdgT.row), int e]) h) (h : List Blk) : (Ev Tryz.prog Γ0 4 [.agg p.l, rowsD' (l.map AttT.row)] h (bool true) h) := by
 exact Ev.castH (Ev.sym0 (P := Tryz.prog) (Γ := Γ0) (f := 4) (args := [D.agg (ProgT.l p), rowsD' (List.map AttT.row l)]) (d := bool (n == n && true && e == e)) pok (φ := [Ev Tryz.prog Γ0 9 [] (nw_in_x1 p) (bool true) (nw_in_x1 p), (!true) = false, Ev Tryz.prog Γ0 10 (nw_in_x0 p l) (nw_in_x1 p) (bool (fewB p (↑(List.length (List.map AttT.row l)) : Int))) (nw_in_x1 p), (!fewB p (↑(List.length (List.map AttT.row l)) : Int)) = false, Ev Tryz.prog Γ0 16 (nw_in_x0 p l) (nw_in_x1 p) (D.tup [int n, rowsD' (List.map EdgT.row es), int e]) (nw_in_x1 p), Ev Tryz.prog Γ0 17 (nw_in_x0 p l) (nw_in_x1 p) (D.tup [int n, rowsD' (List.map EdgT.row es), int e]) (nw_in_x1 p), (n == n) = true → Ev Tryz.prog Γ0 18 [rowsD' (List.map EdgT.row es), rowsD' (List.map EdgT.row es)] (nw_in_x1 p) (bool true) (nw_in_x1 p)]) [.val (bool true), .b false, .val (bool (fewB p (↑(List.length (List.map AttT.row l)) : Int))), .b false, .val (D.tup [int n, rowsD' (List.map EdgT.row es), int e]), .val (D.tup [int n, rowsD' (List.map EdgT.row es), int e]), .val (bool true)] (by kernel_rfl) ⟨(@hsane ((nw_in_x1 p))), rfl, (@few_ev (p) (hs) (l) ((nw_in_x1 p))), ho, (@hN ((nw_in_x1 p))), (@hM ((nw_in_x1 p))), (fun hg => (@sameE_ev (es) (hes) (hx) ((nw_in_x1 p)))), trivial⟩ rfl rfl h) (by first | rfl | simp) (by rfl)
end Go.Vi
open Go Go.Proofs
namespace Go.Vi
set_option maxRecDepth 1000000
set_option maxHeartbeats 0
def s19m0 : Memo := ⟨69, [.ref (.ptr 31 0), int 0, int 5], [.gone, .vec [[int 7], [int 8]] 0 1, .vec [[int 8], [int 7]] 0 1, .vec [[strD ⟨#[97]⟩, int 6, int 1, bool false, nq, .ref (.vec 1 0)], [strD ⟨#[98]⟩, int 4, int 1, bool false, nq, .ref (.vec 2 0)]] 0 6, .gone, .vec [[int 7, int 0, int 5, int 0, int 6], [int 8, int 0, int 5, int 0, int 3]] 0 5, .var [strD ⟨#[]⟩, int 1, int 1, int 0, int 0, int 1, .ref (.vec 3 0)], .var [strD ⟨#[]⟩, int 1, int 1, int 0, int 0, int 1, .ref (.vec 3 0)], .var [nq, int 0, nq], .var [int 0], .gone, .gone, .gone, .gone, .gone, .gone, .vec [[int 0, int 1, int 6], [int 0, int 2, int 3], [int 1, int 3, int 6], [int 1, int 4, int 6], [int 2, int 3, int 3], [int 2, int 4, int 3], [int 3, int 5, int 6], [int 4, int 5, int 4]] 7 3, .gone, .gone, .gone, .gone, .gone, .gone, .gone, .gone, .gone, .gone, .var [int 0], .var [int 5], .vec [[int 0], [int 0], [int 0], [int 0], [int 0], [int 0], [int 0], [int 0]] 0 1, .vec [[.ref (.vec 34 1)], [.ref (.vec 36 2)], [.ref (.vec 40 2)], [.ref (.vec 44 2)], [.ref (.vec 48 2)], [.ref (.vec 58 1)]] 0 1, .var [.ref (.vec 16 7), .ref (.vec 29 0), .ref (.vec 30 0)], .gone, .gone, .vec [[int 0], [int 2]] 1 1, .gone, .vec [[int 1], [int 4], [int 6]] 2 1, .gone, .gone, .gone, .vec [[int 3], [int 8], [int 10]] 2 1, .gone, .gone, .gone, .vec [[int 5], [int 9], [int 12]] 2 1, .gone, .gone, .gone, .vec [[int 7], [int 11], [int 14]] 2 1, .gone, .gone, .gone, .gone, .gone, .gone, .gone, .gone, .gone, .vec [[int 13], [int 15]] 1 1, .gone, .gone, .gone, .var [.ref (.ptr 31 0)]], .ret (.ref (.vec 66 0)) [.gone, .vec [[int 7], [int 8]] 0 1, .vec [[int 8], [int 7]] 0 1, .vec [[strD ⟨#[97]⟩, int 6, int 1, bool false, nq, .ref (.vec 1 0)], [strD ⟨#[98]⟩, int 4, int 1, bool false, nq, .ref (.vec 2 0)]] 0 6, .gone, .vec [[int 7, int 0, int 5, int 0, int 6], [int 8, int 0, int 5, int 0, int 3]] 0 5, .var [strD ⟨#[]⟩, int 1, int 1, int 0, int 0, int 1, .ref (.vec 3 0)], .var [strD ⟨#[]⟩, int 1, int 1, int 0, int 0, int 1, .ref (.vec 3 0)], .var [nq, int 0, nq], .var [int 0], .gone, .gone, .gone, .gone, .gone, .gone, .vec [[int 0, int 1, int 6], [int 0, int 2, int 3], [int 1, int 3, int 6], [int 1, int 4, int 6], [int 2, int 3, int 3], [int 2, int 4, int 3], [int 3, int 5, int 6], [int 4, int 5, int 4]] 7 3, .gone, .gone, .gone, .gone, .gone, .gone, .gone, .gone, .gone, .gone, .var [int 0], .var [int 5], .vec [[int 0], [int 0], [int 0], [int 0], [int 0], [int 0], [int 0], [int 0]] 0 1, .vec [[.ref (.vec 34 1)], [.ref (.vec 36 2)], [.ref (.vec 40 2)], [.ref (.vec 44 2)], [.ref (.vec 48 2)], [.ref (.vec 58 1)]] 0 1, .var [.ref (.vec 16 7), .ref (.vec 29 0), .ref (.vec 30 0)], .gone, .gone, .vec [[int 0], [int 2]] 1 1, .gone, .vec [[int 1], [int 4], [int 6]] 2 1, .gone, .gone, .gone, .vec [[int 3], [int 8], [int 10]] 2 1, .gone, .gone, .gone, .vec [[int 5], [int 9], [int 12]] 2 1, .gone, .gone, .gone, .vec [[int 7], [int 11], [int 14]] 2 1, .gone, .gone, .gone, .gone, .gone, .gone, .gone, .gone, .gone, .vec [[int 13], [int 15]] 1 1, .gone, .gone, .gone, .var [.ref (.ptr 31 0)], .gone, .gone, .gone, .vec [[int 16], [int 0], [int 2], [int 4], [int 6], [int 12]] 0 1, .gone, .gone, .gone, .gone, .gone, .gone, .gone, .gone, .gone, .gone, .gone, .gone, .gone, .gone, .gone, .gone, .gone, .gone]⟩
theorem s19m0_ok : s19m0.Ok Tryz.prog Γ0 := Memo.ok_of pok (ms := []) (by kernel_rfl) trivial
def s19m1 : Memo := ⟨68, [int 6, .ref (.vec 16 7)], [.gone, .vec [[int 7], [int 8]] 0 1, .vec [[int 8], [int 7]] 0 1, .vec [[strD ⟨#[97]⟩, int 6, int 1, bool false, nq, .ref (.vec 1 0)], [strD ⟨#[98]⟩, int 4, int 1, bool false, nq, .ref (.vec 2 0)]] 0 6, .gone, .vec [[int 7, int 0, int 5, int 0, int 6], [int 8, int 0, int 5, int 0, int 3]] 0 5, .var [strD ⟨#[]⟩, int 1, int 1, int 0, int 0, int 1, .ref (.vec 3 0)], .var [strD ⟨#[]⟩, int 1, int 1, int 0, int 0, int 1, .ref (.vec 3 0)], .var [nq, int 0, nq], .var [int 0], .gone, .gone, .gone, .gone, .gone, .gone, .vec [[int 0, int 1, int 6], [int 0, int 2, int 3], [int 1, int 3, int 6], [int 1, int 4, int 6], [int 2, int 3, int 3], [int 2, int 4, int 3], [int 3, int 5, int 6], [int 4, int 5, int 4]] 7 3, .gone, .gone, .gone, .gone, .gone, .gone, .gone, .gone, .gone, .gone, .var [int 0], .var [int 5]], .ret (.ref (.ptr 31 0)) [.gone, .vec [[int 7], [int 8]] 0 1, .vec [[int 8], [int 7]] 0 1, .vec [[strD ⟨#[97]⟩, int 6, int 1, bool false, nq, .ref (.vec 1 0)], [strD ⟨#[98]⟩, int 4, int 1, bool false, nq, .ref (.vec 2 0)]] 0 6, .gone, .vec [[int 7, int 0, int 5, int 0, int 6], [int 8, int 0, int 5, int 0, int 3]] 0 5, .var [strD ⟨#[]⟩, int 1, int 1, int 0, int 0, int 1, .ref (.vec 3 0)], .var [strD ⟨#[]⟩, int 1, int 1, int 0, int 0, int 1, .ref (.vec 3 0)], .var [nq, int 0, nq], .var [int 0], .gone, .gone, .gone, .gone, .gone, .gone, .vec [[int 0, int 1, int 6], [int 0, int 2, int 3], [int 1, int 3, int 6], [int 1, int 4, int 6], [int 2, int 3, int 3], [int 2, int 4, int 3], [int 3, int 5, int 6], [int 4, int 5, int 4]] 7 3, .gone, .gone, .gone, .gone, .gone, .gone, .gone, .gone, .gone, .gone, .var [int 0], .var [int 5], .vec [[int 0], [int 0], [int 0], [int 0], [int 0], [int 0], [int 0], [int 0]] 0 1, .vec [[.ref (.vec 34 1)], [.ref (.vec 36 2)], [.ref (.vec 40 2)], [.ref (.vec 44 2)], [.ref (.vec 48 2)], [.ref (.vec 58 1)]] 0 1, .var [.ref (.vec 16 7), .ref (.vec 29 0), .ref (.vec 30 0)], .gone, .gone, .vec [[int 0], [int 2]] 1 1, .gone, .vec [[int 1], [int 4], [int 6]] 2 1, .gone, .gone, .gone, .vec [[int 3], [int 8], [int 10]] 2 1, .gone, .gone, .gone, .vec [[int 5], [int 9], [int 12]] 2 1, .gone, .gone, .gone, .vec [[int 7], [int 11], [int 14]] 2 1, .gone, .gone, .gone, .gone, .gone, .gone, .gone, .gone, .gone, .vec [[int 13], [int 15]] 1 1, .gone, .gone, .gone]⟩
theorem s19m1_ok : s19m1.Ok Tryz.prog Γ0 := Memo.ok_of pok (ms := []) (by kernel_rfl) trivial
def s19m2 : Memo := ⟨69, [.ref (.ptr 31 0), int 0, int 5], [.gone, .vec [[int 7], [int 8]] 0 1, .vec [[int 8], [int 7]] 0 1, .vec [[strD ⟨#[97]⟩, int 6, int 1, bool false, nq, .ref (.vec 1 0)], [strD ⟨#[98]⟩, int 4, int 1, bool false, nq, .ref (.vec 2 0)]] 0 6, .gone, .vec [[int 7, int 0, int 5, int 0, int 6], [int 8, int 0, int 5, int 0, int 3]] 0 5, .var [strD ⟨#[]⟩, int 1, int 1, int 0, int 0, int 1, .ref (.vec 3 0)], .var [strD ⟨#[]⟩, int 1, int 1, int 0, int 0, int 1, .ref (.vec 3 0)], .var [nq, int 0, nq], .var [int 0], .gone, .gone, .gone, .gone, .gone, .gone, .vec [[int 0, int 1, int 6], [int 0, int 2, int 3], [int 1, int 3, int 6], [int 1, int 4, int 6], [int 2, int 3, int 3], [int 2, int 4, int 3], [int 3, int 5, int 6], [int 4, int 5, int 4]] 7 3, .gone, .gone, .gone, .gone, .gone, .gone, .gone, .gone, .gone, .gone, .var [int 0], .var [int 5], .vec [[int 6], [int 0], [int 6], [int 0], [int 0], [int 0], [int 6], [int 0]] 0 1, .vec [[.ref (.vec 34 1)], [.ref (.vec 36 2)], [.ref (.vec 40 2)], [.ref (.vec 44 2)], [.ref (.vec 48 2)], [.ref (.vec 58 1)]] 0 1, .var [.ref (.vec 16 7), .ref (.vec 29 0), .ref (.vec 30 0)], .gone, .gone, .vec [[int 0], [int 2]] 1 1, .gone, .vec [[int 1], [int 4], [int 6]] 2 1, .gone, .gone, .gone, .vec [[int 3], [int 8], [int 10]] 2 1, .gone, .gone, .gone, .vec [[int 5], [int 9], [int 12]] 2 1, .gone, .gone, .gone, .vec [[int 7], [int 11], [int 14]] 2 1, .gone, .gone, .gone, .gone, .gone, .gone, .gone, .gone, .gone, .vec [[int 13], [int 15]] 1 1, .gone, .gone, .gone, .var [.ref (.ptr 31 0)], .gone, .gone, .gone, .vec [[int 16], [int 0], [int 2], [int 4], [int 6], [int 12]] 0 1, .gone, .gone, .gone, .gone, .gone, .gone, .gone, .gone, .gone, .gone, .gone, .gone, .gone, .gone, .gone, .gone, .gone, .gone, .var [.ref (.vec 66 0)], .var [int 6]], .ret (.ref (.vec 90 0)) [.gone, .vec [[int 7], [int 8]] 0 1, .vec [[int 8], [int 7]] 0 1, .vec [[strD ⟨#[97]⟩, int 6, int 1, bool false, nq, .ref (.vec 1 0)], [strD ⟨#[98]⟩, int 4, int 1, bool false, nq, .ref (.vec 2 0)]] 0 6, .gone, .vec [[int 7, int 0, int 5, int 0, int 6], [int 8, int 0, int 5, int 0, int 3]] 0 5, .var [strD ⟨#[]⟩, int 1, int 1, int 0, int 0, int 1, .ref (.vec 3 0)], .var [strD ⟨#[]⟩, int 1, int 1, int 0, int 0, int 1, .ref (.vec 3 0)], .var [nq, int 0, nq], .var [int 0], .gone, .gone, .gone, .gone, .gone, .gone, .vec [[int 0, int 1, int 6], [int 0, int 2, int 3], [int 1, int 3, int 6], [int 1, int 4, int 6], [int 2, int 3, int 3], [int 2, int 4, int 3], [int 3, int 5, int 6], [int 4, int 5, int 4]] 7 3, .gone, .gone, .gone, .gone, .gone, .gone, .gone, .gone, .gone, .gone, .var [int 0], .var [int 5], .vec [[int 6], [int 0], [int 6], [int 0], [int 0], [int 0], [int 6], [int 0]] 0 1, .vec [[.ref (.vec 34 1)], [.ref (.vec 36 2)], [.ref (.vec 40 2)], [.ref (.vec 44 2)], [.ref (.vec 48 2)], [.ref (.vec 58 1)]] 0 1, .var [.ref (.vec 16 7), .ref (.vec 29 0), .ref (.vec 30 0)], .gone, .gone, .vec [[int 0], [int 2]] 1 1, .gone, .vec [[int 1], [int 4], [int 6]] 2 1, .gone, .gone, .gone, .vec [[int 3], [int 8], [int 10]] 2 1, .gone, .gone, .gone, .vec [[int 5], [int 9], [int 12]] 2 1, .gone, .gone, .gone, .vec [[int 7], [int 11], [int 14]] 2 1, .gone, .gone, .gone, .gone, .gone, .gone, .gone, .gone, .gone, .vec [[int 13], [int 15]] 1 1, .gone, .gone, .gone, .var [.ref (.ptr 31 0)], .gone, .gone, .gone, .vec [[int 16], [int 0], [int 2], [int 4], [int 6], [int 12]] 0 1, .gone, .gone, .gone, .gone, .gone, .gone, .gone, .gone, .gone, .gone, .gone, .gone, .gone, .gone, .gone, .gone, .gone, .gone, .var [.ref (.vec 66 0)], .var [int 6], .gone, .gone, .gone, .vec [[int 16], [int 5], [int 2], [int 8], [int 10], [int 14]] 0 1, .gone, .gone, .gone, .gone, .gone, .gone, .gone, .gone, .gone, .gone, .gone, .gone, .gone, .gone, .gone, .gone, .gone, .gone]⟩
theorem s19m2_ok : s19m2.Ok Tryz.prog Γ0 := Memo.ok_of pok (ms := []) (by kernel_rfl) trivial
def s19m3 : Memo := ⟨42, [int 6, .ref (.vec 16 7), int 0, int 5], [.gone, .vec [[int 7], [int 8]] 0 1, .vec [[int 8], [int 7]] 0 1, .vec [[strD ⟨#[97]⟩, int 6, int 1, bool false, nq, .ref (.vec 1 0)], [strD ⟨#[98]⟩, int 4, int 1, bool false, nq, .ref (.vec 2 0)]] 0 6, .gone, .vec [[int 7, int 0, int 5, int 0, int 6], [int 8, int 0, int 5, int 0, int 3]] 0 5, .var [strD ⟨#[]⟩, int 1, int 1, int 0, int 0, int 1, .ref (.vec 3 0)], .var [strD ⟨#[]⟩, int 1, int 1, int 0, int 0, int 1, .ref (.vec 3 0)], .var [nq, int 0, nq], .var [int 0], .gone, .gone, .gone, .gone, .gone, .gone, .vec [[int 0, int 1, int 6], [int 0, int 2, int 3], [int 1, int 3, int 6], [int 1, int 4, int 6], [int 2, int 3, int 3], [int 2, int 4, int 3], [int 3, int 5, int 6], [int 4, int 5, int 4]] 7 3, .gone, .gone, .gone, .gone, .gone, .gone, .gone, .gone, .gone, .gone], .ret (.tup [.ref (.vec 29 0), .ref (.vec 122 0), int 0]) [.gone, .vec [[int 7], [int 8]] 0 1, .vec [[int 8], [int 7]] 0 1, .vec [[strD ⟨#[97]⟩, int 6, int 1, bool false, nq, .ref (.vec 1 0)], [strD ⟨#[98]⟩, int 4, int 1, bool false, nq, .ref (.vec 2 0)]] 0 6, .gone, .vec [[int 7, int 0, int 5, int 0, int 6], [int 8, int 0, int 5, int 0, int 3]] 0 5, .var [strD ⟨#[]⟩, int 1, int 1, int 0, int 0, int 1, .ref (.vec 3 0)], .var [strD ⟨#[]⟩, int 1, int 1, int 0, int 0, int 1, .ref (.vec 3 0)], .var [nq, int 0, nq], .var [int 0], .gone, .gone, .gone, .gone, .gone, .gone, .vec [[int 0, int 1, int 6], [int 0, int 2, int 3], [int 1, int 3, int 6], [int 1, int 4, int 6], [int 2, int 3, int 3], [int 2, int 4, int 3], [int 3, int 5, int 6], [int 4, int 5, int 4]] 7 3, .gone, .gone, .gone, .gone, .gone, .gone, .gone, .gone, .gone, .gone, .gone, .gone, .vec [[int 6], [int 3], [int 6], [int 0], [int 0], [int 3], [int 6], [int 3]] 0 1, .gone, .gone, .gone, .gone, .gone, .gone, .gone, .gone, .gone, .gone, .gone, .gone, .gone, .gone, .gone, .gone, .gone, .gone, .gone, .gone, .gone, .gone, .gone, .gone, .gone, .gone, .gone, .gone, .gone, .gone, .gone, .gone, .gone, .gone, .gone, .gone, .gone, .gone, .gone, .gone, .gone, .gone, .gone, .gone, .gone, .gone, .gone, .gone, .gone, .gone, .gone, .gone, .gone, .gone, .gone, .gone, .gone, .gone, .gone, .gone, .gone, .gone, .gone, .gone, .gone, .gone, .gone, .gone, .gone, .gone, .gone, .gone, .gone, .gone, .gone, .gone, .gone, .gone, .gone, .gone, .gone, .gone, .gone, .gone, .gone, .gone, .gone, .gone, .gone, .gone, .gone, .gone, .vec [[bool true], [bool false], [bool false], [bool false], [bool false], [bool false]] 0 1]⟩
theorem s19m3_ok : s19m3.Ok Tryz.prog Γ0 := Memo.ok_of pok (ms := [s19m0, s19m1, s19m2]) (by kernel_rfl) ⟨s19m0_ok, s19m1_ok, s19m2_ok, trivial⟩
end Go.Vi
open Go Go.Proofs
namespace Go.Vi
set_option maxRecDepth 1000000
set_option maxHeartbeats 0
def s19m4 : Memo := ⟨19, [.agg [strD ⟨#[]⟩, int 1, int 1, int 0, int 0, int 1, .ref (.vec 3 0)], .ref (.vec 5 0)], [.gone, .vec [[int 7], [int 8]] 0 1, .vec [[int 8], [int 7]] 0 1, .vec [[strD ⟨#[97]⟩, int 6, int 1, bool false, nq, .ref (.vec 1 0)], [strD ⟨#[98]⟩, int 4, int 1, bool false, nq, .ref (.vec 2 0)]] 0 6, .gone, .vec [[int 7, int 0, int 5, int 0, int 6], [int 8, int 0, int 5, int 0, int 3]] 0 5, .var [strD ⟨#[]⟩, int 1, int 1, int 0, int 0, int 1, .ref (.vec 3 0)]], .ret (.tup [.agg [.ref (.vec 141 1), int 1, .ref (.vec 122 0)], int 0]) [.gone, .vec [[int 7], [int 8]] 0 1, .vec [[int 8], [int 7]] 0 1, .vec [[strD ⟨#[97]⟩, int 6, int 1, bool false, nq, .ref (.vec 1 0)], [strD ⟨#[98]⟩, int 4, int 1, bool false, nq, .ref (.vec 2 0)]] 0 6, .gone, .vec [[int 7, int 0, int 5, int 0, int 6], [int 8, int 0, int 5, int 0, int 3]] 0 5, .var [strD ⟨#[]⟩, int 1, int 1, int 0, int 0, int 1, .ref (.vec 3 0)], .gone, .gone, .gone, .gone, .gone, .gone, .gone, .gone, .gone, .gone, .gone, .gone, .gone, .gone, .gone, .gone, .gone, .gone, .gone, .gone, .gone, .gone, .gone, .gone, .gone, .gone, .gone, .gone, .gone, .gone, .gone, .gone, .gone, .gone, .gone, .gone, .gone, .gone, .gone, .gone, .gone, .gone, .gone, .gone, .gone, .gone, .gone, .gone, .gone, .gone, .gone, .gone, .gone, .gone, .gone, .gone, .gone, .gone, .gone, .gone, .gone, .gone, .gone, .gone, .gone, .gone, .gone, .gone, .gone, .gone, .gone, .gone, .gone, .gone, .gone, .gone, .gone, .gone, .gone, .gone, .gone, .gone, .gone, .gone, .gone, .gone, .gone, .gone, .gone, .gone, .gone, .gone, .gone, .gone, .gone, .gone, .gone, .gone, .gone, .gone, .gone, .gone, .gone, .gone, .gone, .gone, .gone, .gone, .gone, .gone, .gone, .gone, .gone, .gone, .gone, .vec [[bool true], [bool false], [bool false], [bool false], [bool false], [bool false]] 0 1, .gone, .gone, .gone, .gone, .gone, .gone, .gone, .gone, .gone, .gone, .gone, .gone, .gone, .gone, .gone, .gone, .gone, .gone, .vec [[int 0, int 0, int 6], [int 1, int 1, int 3]] 1 3, .gone, .gone, .gone, .gone, .gone, .gone, .gone, .gone, .gone]⟩
theorem s19m4_ok : s19m4.Ok Tryz.prog Γ0 := Memo.ok_of pok (ms := [s19m3]) (by kernel_rfl) ⟨s19m3_ok, trivial⟩
def s19m5 : Memo := ⟨16, [.agg [strD ⟨#[]⟩, int 1, int 1, int 0, int 0, int 1, .ref (.vec 3 0)], .ref (.vec 5 0)], [.gone, .vec [[int 7], [int 8]] 0 1, .vec [[int 8], [int 7]] 0 1, .vec [[strD ⟨#[97]⟩, int 6, int 1, bool false, nq, .ref (.vec 1 0)], [strD ⟨#[98]⟩, int 4, int 1, bool false, nq, .ref (.vec 2 0)]] 0 6, .gone, .vec [[int 7, int 0, int 5, int 0, int 6], [int 8, int 0, int 5, int 0, int 3]] 0 5, .var [strD ⟨#[]⟩, int 1, int 1, int 0, int 0, int 1, .ref (.vec 3 0)], .gone, .gone, .gone, .gone, .gone, .gone, .gone, .gone, .gone, .gone, .gone, .gone, .gone, .gone, .gone, .gone, .gone, .gone, .gone, .gone, .gone, .gone, .gone, .gone, .gone, .gone, .gone, .gone, .gone, .gone, .gone, .gone, .gone, .gone, .gone, .gone, .gone, .gone, .gone, .gone, .gone, .gone, .gone, .gone, .gone, .gone, .gone, .gone, .gone, .gone, .gone, .gone, .gone, .gone, .gone, .gone, .gone, .gone, .gone, .gone, .gone, .gone, .gone, .gone, .gone, .gone, .gone, .gone, .gone, .gone, .gone, .gone, .gone, .gone, .gone, .gone, .gone, .gone, .gone, .gone, .gone, .gone, .gone, .gone, .gone, .gone, .gone, .gone, .gone, .gone, .gone, .gone, .gone, .gone, .gone, .gone, .gone, .gone, .gone, .gone, .gone, .gone, .gone, .gone, .gone, .gone, .gone, .gone, .gone, .gone, .gone, .gone, .gone, .gone, .gone, .vec [[bool true], [bool false], [bool false], [bool false], [bool false], [bool false]] 0 1, .gone, .gone, .gone, .gone, .gone, .gone, .gone, .gone, .gone, .gone, .gone, .gone, .gone, .gone, .gone, .gone, .gone, .gone, .vec [[int 0, int 0, int 6], [int 1, int 1, int 3]] 1 3, .gone, .gone, .gone, .gone, .gone, .gone, .gone, .gone, .gone, .var [.ref (.vec 141 1), int 1, .ref (.vec 122 0)], .gone, .gone, .gone, .gone, .gone, .gone, .gone, .gone, .gone, .gone, .gone, .gone, .gone, .gone, .gone, .gone, .gone, .gone, .gone, .gone, .vec [[bool true], [bool false]] 0 1, .gone, .gone, .gone, .gone, .gone, .gone, .gone, .var [nq, int 0, .ref (.vec 172 0)], .var [strD ⟨#[]⟩, int 1, int 1, int 0, int 0, int 1, .ref (.vec 183 0)], .vec [[int 7]] 0 1, .vec [[strD ⟨#[]⟩, int 6, int 0, bool true, nq, .ref (.vec 182 0)]] 0 6, .gone, .gone, .gone, .gone, .gone, .gone, .gone, .gone, .gone, .gone, .gone, .gone, .gone, .vec [[int 3, int 0, int 0, int 0, int 1]] 0 5, .var [nq, int 0, nq]], .ret (.tup [int 6, .ref (.vec 205 7), int 0]) [.gone, .vec [[int 7], [int 8]] 0 1, .vec [[int 8], [int 7]] 0 1, .vec [[strD ⟨#[97]⟩, int 6, int 1, bool false, nq, .ref (.vec 1 0)], [strD ⟨#[98]⟩, int 4, int 1, bool false, nq, .ref (.vec 2 0)]] 0 6, .gone, .vec [[int 7, int 0, int 5, int 0, int 6], [int 8, int 0, int 5, int 0, int 3]] 0 5, .var [strD ⟨#[]⟩, int 1, int 1, int 0, int 0, int 1, .ref (.vec 3 0)], .gone, .gone, .gone, .gone, .gone, .gone, .gone, .gone, .gone, .gone, .gone, .gone, .gone, .gone, .gone, .gone, .gone, .gone, .gone, .gone, .gone, .gone, .gone, .gone, .gone, .gone, .gone, .gone, .gone, .gone, .gone, .gone, .gone, .gone, .gone, .gone, .gone, .gone, .gone, .gone, .gone, .gone, .gone, .gone, .gone, .gone, .gone, .gone, .gone, .gone, .gone, .gone, .gone, .gone, .gone, .gone, .gone, .gone, .gone, .gone, .gone, .gone, .gone, .gone, .gone, .gone, .gone, .gone, .gone, .gone, .gone, .gone, .gone, .gone, .gone, .gone, .gone, .gone, .gone, .gone, .gone, .gone, .gone, .gone, .gone, .gone, .gone, .gone, .gone, .gone, .gone, .gone, .gone, .gone, .gone, .gone, .gone, .gone, .gone, .gone, .gone, .gone, .gone, .gone, .gone, .gone, .gone, .gone, .gone, .gone, .gone, .gone, .gone, .gone, .gone, .vec [[bool true], [bool false], [bool false], [bool false], [bool false], [bool false]] 0 1, .gone, .gone, .gone, .gone, .gone, .gone, .gone, .gone, .gone, .gone, .gone, .gone, .gone, .gone, .gone, .gone, .gone, .gone, .vec [[int 0, int 0, int 6], [int 1, int 1, int 3]] 1 3, .gone, .gone, .gone, .gone, .gone, .gone, .gone, .gone, .gone, .var [.ref (.vec 141 1), int 1, .ref (.vec 122 0)], .gone, .gone, .gone, .gone, .gone, .gone, .gone, .gone, .gone, .gone, .gone, .gone, .gone, .gone, .gone, .gone, .gone, .gone, .gone, .gone, .vec [[bool true], [bool false]] 0 1, .gone, .gone, .gone, .gone, .gone, .gone, .gone, .var [nq, int 0, .ref (.vec 172 0)], .var [strD ⟨#[]⟩, int 1, int 1, int 0, int 0, int 1, .ref (.vec 183 0)], .vec [[int 7]] 0 1, .vec [[strD ⟨#[]⟩, int 6, int 0, bool true, nq, .ref (.vec 182 0)]] 0 6, .gone, .gone, .gone, .gone, .gone, .gone, .gone, .gone, .gone, .gone, .gone, .gone, .gone, .vec [[int 3, int 0, int 0, int 0, int 1]] 0 5, .var [nq, int 0, nq], .gone, .gone, .gone, .gone, .gone, .gone, .vec [[int 0, int 1, int 6], [int 0, int 2, int 3], [int 1, int 3, int 6], [int 1, int 4, int 6], [int 2, int 3, int 3], [int 2, int 4, int 3], [int 3, int 5, int 6], [int 4, int 5, int 4]] 7 3, .gone, .gone, .gone, .gone, .gone, .gone, .gone, .gone, .gone, .gone]⟩
theorem s19m5_ok : s19m5.Ok Tryz.prog Γ0 := Memo.ok_of pok (ms := []) (by kernel_rfl) trivial
def s19m6 : Memo := ⟨22, [.agg [strD ⟨#[]⟩, int 1, int 1, int 0, int 0, int 1, .ref (.vec 3 0)], .ref (.vec 5 0), .ref (.vec 141 1)], [.gone, .vec [[int 7], [int 8]] 0 1, .vec [[int 8], [int 7]] 0 1, .vec [[strD ⟨#[97]⟩, int 6, int 1, bool false, nq, .ref (.vec 1 0)], [strD ⟨#[98]⟩, int 4, int 1, bool false, nq, .ref (.vec 2 0)]] 0 6, .gone, .vec [[int 7, int 0, int 5, int 0, int 6], [int 8, int 0, int 5, int 0, int 3]] 0 5, .var [strD ⟨#[]⟩, int 1, int 1, int 0, int 0, int 1, .ref (.vec 3 0)], .gone, .gone, .gone, .gone, .gone, .gone, .gone, .gone, .gone, .gone, .gone, .gone, .gone, .gone, .gone, .gone, .gone, .gone, .gone, .gone, .gone, .gone, .gone, .gone, .gone, .gone, .gone, .gone, .gone, .gone, .gone, .gone, .gone, .gone, .gone, .gone, .gone, .gone, .gone, .gone, .gone, .gone, .gone, .gone, .gone, .gone, .gone, .gone, .gone, .gone, .gone, .gone, .gone, .gone, .gone, .gone, .gone, .gone, .gone, .gone, .gone, .gone, .gone, .gone, .gone, .gone, .gone, .gone, .gone, .gone, .gone, .gone, .gone, .gone, .gone, .gone, .gone, .gone, .gone, .gone, .gone, .gone, .gone, .gone, .gone, .gone, .gone, .gone, .gone, .gone, .gone, .gone, .gone, .gone, .gone, .gone, .gone, .gone, .gone, .gone, .gone, .gone, .gone, .gone, .gone, .gone, .gone, .gone, .gone, .gone, .gone, .gone, .gone, .gone, .gone, .vec [[bool true], [bool false], [bool false], [bool false], [bool false], [bool false]] 0 1, .gone, .gone, .gone, .gone, .gone, .gone, .gone, .gone, .gone, .gone, .gone, .gone, .gone, .gone, .gone, .gone, .gone, .gone, .vec [[int 0, int 0, int 6], [int 1, int 1, int 3]] 1 3, .gone, .gone, .gone, .gone, .gone, .gone, .gone, .gone, .gone, .var [.ref (.vec 141 1), int 1, .ref (.vec 122 0)], .gone, .gone, .gone, .gone, .gone, .gone, .gone, .gone, .gone, .gone, .gone, .gone, .gone, .gone, .gone, .gone, .gone, .gone, .gone, .gone, .vec [[bool true], [bool false]] 0 1, .gone, .gone, .gone, .gone, .gone, .gone, .gone, .var [nq, int 0, .ref (.vec 172 0)], .var [strD ⟨#[]⟩, int 1, int 1, int 0, int 0, int 1, .ref (.vec 183 0)], .vec [[int 7]] 0 1, .vec [[strD ⟨#[]⟩, int 6, int 0, bool true, nq, .ref (.vec 182 0)]] 0 6, .gone, .gone, .gone, .gone, .gone, .gone, .gone, .gone, .gone, .gone, .gone, .gone, .gone, .vec [[int 3, int 0, int 0, int 0, int 1]] 0 5, .var [nq, int 0, nq], .gone, .gone, .gone, .gone, .gone, .gone, .vec [[int 0, int 1, int 6], [int 0, int 2, int 3], [int 1, int 3, int 6], [int 1, int 4, int 6], [int 2, int 3, int 3], [int 2, int 4, int 3], [int 3, int 5, int 6], [int 4, int 5, int 4]] 7 3, .gone, .gone, .gone, .gone, .gone, .gone, .gone, .gone, .gone, .gone], .ret (bool true) [.gone, .vec [[int 7], [int 8]] 0 1, .vec [[int 8], [int 7]] 0 1, .vec [[strD ⟨#[97]⟩, int 6, int 1, bool false, nq, .ref (.vec 1 0)], [strD ⟨#[98]⟩, int 4, int 1, bool false, nq, .ref (.vec 2 0)]] 0 6, .gone, .vec [[int 7, int 0, int 5, int 0, int 6], [int 8, int 0, int 5, int 0, int 3]] 0 5, .var [strD ⟨#[]⟩, int 1, int 1, int 0, int 0, int 1, .ref (.vec 3 0)], .gone, .gone, .gone, .gone, .gone, .gone, .gone, .gone, .gone, .gone, .gone, .gone, .gone, .gone, .gone, .gone, .gone, .gone, .gone, .gone, .gone, .gone, .gone, .gone, .gone, .gone, .gone, .gone, .gone, .gone, .gone, .gone, .gone, .gone, .gone, .gone, .gone, .gone, .gone, .gone, .gone, .gone, .gone, .gone, .gone, .gone, .gone, .gone, .gone, .gone, .gone, .gone, .gone, .gone, .gone, .gone, .gone, .gone, .gone, .gone, .gone, .gone, .gone, .gone, .gone, .gone, .gone, .gone, .gone, .gone, .gone, .gone, .gone, .gone, .gone, .gone, .gone, .gone, .gone, .gone, .gone, .gone, .gone, .gone, .gone, .gone, .gone, .gone, .gone, .gone, .gone, .gone, .gone, .gone, .gone, .gone, .gone, .gone, .gone, .gone, .gone, .gone, .gone, .gone, .gone, .gone, .gone, .gone, .gone, .gone, .gone, .gone, .gone, .gone, .gone, .vec [[bool true], [bool false], [bool false], [bool false], [bool false], [bool false]] 0 1, .gone, .gone, .gone, .gone, .gone, .gone, .gone, .gone, .gone, .gone, .gone, .gone, .gone, .gone, .gone, .gone, .gone, .gone, .vec [[int 0, int 0, int 6], [int 1, int 1, int 3]] 1 3, .gone, .gone, .gone, .gone, .gone, .gone, .gone, .gone, .gone, .var [.ref (.vec 141 1), int 1, .ref (.vec 122 0)], .gone, .gone, .gone, .gone, .gone, .gone, .gone, .gone, .gone, .gone, .gone, .gone, .gone, .gone, .gone, .gone, .gone, .gone, .gone, .gone, .vec [[bool true], [bool false]] 0 1, .gone, .gone, .gone, .gone, .gone, .gone, .gone, .var [nq, int 0, .ref (.vec 172 0)], .var [strD ⟨#[]⟩, int 1, int 1, int 0, int 0, int 1, .ref (.vec 183 0)], .vec [[int 7]] 0 1, .vec [[strD ⟨#[]⟩, int 6, int 0, bool true, nq, .ref (.vec 182 0)]] 0 6, .gone, .gone, .gone, .gone, .gone, .gone, .gone, .gone, .gone, .gone, .gone, .gone, .gone, .vec [[int 3, int 0, int 0, int 0, int 1]] 0 5, .var [nq, int 0, nq], .gone, .gone, .gone, .gone, .gone, .gone, .vec [[int 0, int 1, int 6], [int 0, int 2, int 3], [int 1, int 3, int 6], [int 1, int 4, int 6], [int 2, int 3, int 3], [int 2, int 4, int 3], [int 3, int 5, int 6], [int 4, int 5, int 4]] 7 3, .gone, .gone, .gone, .gone, .gone, .gone, .gone, .gone, .gone, .gone]⟩
theorem s19m6_ok : s19m6.Ok Tryz.prog Γ0 := Memo.ok_of pok (ms := []) (by kernel_rfl) trivial
def s19mR : Memo := ⟨9, [], [], .ret (bool true) []⟩
theorem s19mR_ok : s19mR.Ok Tryz.prog Γ0 := Memo.ok_of pok (ms := [s19m4, s19m5, s19m6]) (by kernel_rfl) ⟨s19m4_ok, s19m5_ok, s19m6_ok, trivial⟩
theorem sane19_ev (h : List Blk) : Ev Tryz.prog Γ0 9 [] h (bool true) h := Ev.frame0 rfl (Memo.call s19mR_ok rfl) h
end Go.Vi
open Go Go.Proofs
namespace Go.Vi
set_option maxRecDepth 100000
theorem few_le {p : ProgT} {l : List AttT} (h : (!fewB p ((l.map AttT.row).length : Int)) = false) : p.reqs.length ≤ 6 ∧ l.length ≤ 8 := by
 unfold fewB at h
 cases hc : (decide (((p.reqs.map ReqT.row).length : Int) > 6) || decide (((l.map AttT.row).length : Int) > 8))
 ·simp only [Bool.or_eq_false_iff, decide_eq_false_iff_not, List.length_map] at hc
  omega
 ·rw [hc] at h; simp at h
theorem n4_len {mid sink : Int} : ∀ (l : List ReqT) (s : List EdgT × Int), (l.foldl (n4F mid sink) s).1.length = s.1.length + l.length
 | [], _ => rfl
 | q :: l, s => by rw [List.foldl_cons, n4_len l]; simp [n4F]; omega
theorem net3_len (p : ProgT) (l : List AttT) (hn : p.reqs.length ≤ 100) (hl : l.length ≤ 100) : (net3 p l).length ≤ 10200 := by
 have := net2_len p l hn hl
 unfold net3
 rw [n4_len]
 simp only
 omega
theorem netR_short {p : ProgT} {l : List AttT} (hn : p.reqs.length ≤ 100) (hl : l.length ≤ 100) : (netR p l).2.1.length ≤ 10200 := by
 unfold netR netX
 split
 ·simp
 ·split
  ·simp
  ·exact net3_len p l hn hl
theorem degreeNetworkSpec_ev {p : ProgT} (hp : p.ok) {l : List AttT} (h : List Blk) : Ev Tryz.prog Γ0 4 [.agg p.l, rowsD' (l.map AttT.row)] h (bool true) h := by
 cases ho : (!fewB p ((l.map AttT.row).length : Int))
 ·obtain ⟨h1, h2⟩ := few_le ho
  have h3 := netR_short (p := p) (l := l) (by omega) (by omega)
  exact nw_in hp hp.sr (by unfold Short; omega) (by simp) sane19_ev ho (fun h => net_ev hp (by omega) (by omega) h) (fun h => rnet_ev hp (by omega) (by omega) h) h
 ·exact nw_out hp hp.sr sane19_ev ho h
end Go.Vi
open Go Go.Proofs
namespace Go.Vi
set_option maxRecDepth 100000
set_option maxHeartbeats 4000000
end Go.Vi
open Go Go.Proofs
namespace Go.Vi
set_option maxRecDepth 100000
end Go.Vi
open Go Go.Proofs
namespace Go.Vi
open Go.ChangeShapes Go.WideShapes Go.ChangeAt Go.RowKit Go.Proofs.YthokmgafnhmlbaaGreatDoor
set_option maxRecDepth 100000
theorem cells3 : Tryz.prog.cellsOf 3 = 1 := by kernel_rfl
theorem cells4 : Tryz.prog.cellsOf 4 = 1 := by kernel_rfl
theorem cells9 : Tryz.prog.cellsOf 9 = 1 := by kernel_rfl
theorem cells23 : Tryz.prog.cellsOf 23 = 2 := by kernel_rfl
theorem cells24 : Tryz.prog.cellsOf 24 = 1 := by kernel_rfl
theorem cells26 : Tryz.prog.cellsOf 26 = 7 := by kernel_rfl
theorem cells28 : Tryz.prog.cellsOf 28 = 5 := by kernel_rfl
theorem cells34 : Tryz.prog.cellsOf 34 = 1 := by kernel_rfl
theorem cells57 : Tryz.prog.cellsOf 57 = 1 := by kernel_rfl
theorem cells59 : Tryz.prog.cellsOf 59 = 6 := by kernel_rfl
theorem bytes3 : Tryz.prog.bytesOf 3 = 8 := by kernel_rfl
theorem bytes28 : Tryz.prog.bytesOf 28 = 40 := by kernel_rfl
theorem bytes59 : Tryz.prog.bytesOf 59 = 88 := by kernel_rfl
theorem plain26 : plainB Tryz.prog [3, 4, 9, 23, 24, 26, 28, 34, 37, 57, 59] = true := by kernel_rfl
theorem shp_int {n : Nat} {ds : List Dp} (h : Shp Tryz.prog n 3 ds) : ∃ x, ds = [vi x] ∧ I64 x := by
 cases n with
 | zero => exact h.elim
 | succ n =>
  simp only [Shp, Tryz.underlying3] at h
  obtain ⟨x, rfl, hw⟩ := h
  refine ⟨x, rfl, ?_⟩
  have := bounds_i64 hw
  exact this
theorem shp_str {n : Nat} {ds : List Dp} (h : Shp Tryz.prog n 9 ds) : ∃ s, ds = [vs s] := by
 cases n with
 | zero => exact h.elim
 | succ n =>
  simp only [Shp, Tryz.underlying9] at h
  obtain ⟨s, rfl, _⟩ := h
  exact ⟨s, rfl⟩
theorem shp_ratio {n : Nat} {ds : List Dp} (h : Shp Tryz.prog n 23 ds) : ∃ a b, ds = [vi a, vi b] ∧ I64 a ∧ I64 b := by
 cases n with
 | zero => exact h.elim
 | succ n =>
  simp only [Shp, Tryz.underlying23, List.forall_mem_cons, cells3, cells23] at h
  obtain ⟨hl, h1, h2, _⟩ := h
  obtain ⟨a, e1, ha⟩ := shp_int h1
  obtain ⟨b, e2, hb⟩ := shp_int h2
  match ds, hl with
  | [x, y], _ =>
   simp at e1 e2
   subst e1; subst e2
   exact ⟨a, b, rfl, ha, hb⟩
theorem map_of {α : Type} {row : α → List Dp} {ok : α → Prop} : ∀ {es : List (List Dp)}, (∀ r ∈ es, ∃ a, r = row a ∧ ok a) → ∃ l : List α, es = l.map row ∧ ∀ a ∈ l, ok a
 | [], _ => ⟨[], rfl, by simp⟩
 | r :: es, h => by
  obtain ⟨a, rfl, ha⟩ := h r (List.mem_cons_self ..)
  obtain ⟨l, rfl, hl⟩ := map_of (fun r hr => h r (List.mem_cons_of_mem _ hr))
  exact ⟨a :: l, rfl, fun b hb => (List.mem_cons.1 hb).elim (fun e => e ▸ ha) (hl b)⟩
theorem short_of {n k : Nat} (h : n * k ≤ reachBytes) (hk : 1 ≤ k) : n ≤ 140737488355328 := by
 have : n ≤ n * k := Nat.le_mul_of_pos_right n hk
 unfold reachBytes at h
 omega
theorem shp_bool {n : Nat} {ds : List Dp} (h : Shp Tryz.prog n 4 ds) : ∃ b, ds = [.v (.bool b)] := by
 cases n with
 | zero => exact h.elim
 | succ n =>
  simp only [Shp, Tryz.underlying4] at h
  obtain ⟨b, rfl⟩ := h
  exact ⟨b, rfl⟩
theorem shp_strs {n : Nat} {ds : List Dp} (h : Shp Tryz.prog n 57 ds) : ∃ l, ds = [.sl l] := by
 cases n with
 | zero => exact h.elim
 | succ n =>
  simp only [Shp, Tryz.underlying57] at h
  obtain ⟨es, rfl, _⟩ := h
  exact ⟨es, rfl⟩
theorem shp_ints {n : Nat} {ds : List Dp} (h : Shp Tryz.prog n 34 ds) : ∃ l : List Int, ds = [.sl (inR1 l)] ∧ Short l := by
 cases n with
 | zero => exact h.elim
 | succ n =>
  simp only [Shp, Tryz.underlying34, bytes3] at h
  obtain ⟨es, rfl, hb, he⟩ := h
  obtain ⟨l, rfl, _⟩ := map_of (row := fun n : Int => [vi n]) (ok := fun _ => True) (fun r hr => by obtain ⟨x, e, _⟩ := shp_int (he r hr); exact ⟨x, e, trivial⟩)
  exact ⟨l, rfl, by have := short_of hb (by omega); simpa [Short] using this⟩
theorem shp_req {n : Nat} {ds : List Dp} (h : Shp Tryz.prog n 59 ds) : ∃ q : ReqT, ds = q.row ∧ q.ok := by
 cases n with
 | zero => exact h.elim
 | succ n =>
  simp only [Shp, Tryz.underlying59, List.forall_mem_cons, cells3, cells4, cells9, cells34, cells57, cells59] at h
  obtain ⟨hl, h1, h2, h3, h4, h5, h6, _⟩ := h
  obtain ⟨s, e1⟩ := shp_str h1
  obtain ⟨a, e2, _⟩ := shp_int h2
  obtain ⟨b, e3, _⟩ := shp_int h3
  obtain ⟨c, e4⟩ := shp_bool h4
  obtain ⟨d, e5⟩ := shp_strs h5
  obtain ⟨f, e6, hf⟩ := shp_ints h6
  match ds, hl with
  | [p1, p2, p3, p4, p5, p6], _ =>
   simp at e1 e2 e3 e4 e5 e6
   subst e1; subst e2; subst e3; subst e4; subst e5; subst e6
   exact ⟨⟨s, a, b, c, d, f⟩, rfl, ⟨hf⟩⟩
theorem shp_prog {n : Nat} {ds : List Dp} (h : Shp Tryz.prog n 26 ds) : ∃ p : ProgT, ds.map .p = p.l ∧ p.ok := by
 cases n with
 | zero => exact h.elim
 | succ n =>
  rw [Shp, Tryz.underlying26] at h
  simp only [List.forall_mem_cons, cells3, cells9, cells23, cells24, cells26] at h
  obtain ⟨hl, h1, h2, h3, h4, h5, h6, _⟩ := h
  obtain ⟨s, e1⟩ := shp_str h1
  obtain ⟨a, e2, _⟩ := shp_int h2
  obtain ⟨b, e3, _⟩ := shp_int h3
  obtain ⟨c, e4, _⟩ := shp_int h4
  obtain ⟨x, y, e5, hx, hy⟩ := shp_ratio h5
  cases n with
  | zero => exact h6.elim
  | succ n =>
   simp only [Shp, Tryz.underlying24, bytes59] at h6
   obtain ⟨es, e6, hb, he⟩ := h6
   obtain ⟨l, rfl, hk⟩ := map_of (row := ReqT.row) (ok := ReqT.ok) (fun r hr => shp_req (he r hr))
   match ds, hl with
   | [p1, p2, p3, p4, p5, p6, p7], _ =>
    simp at e1 e2 e3 e4 e5 e6
    obtain ⟨rfl, rfl⟩ := e5
    subst e1; subst e2; subst e3; subst e4; subst e6
    exact ⟨⟨s, a, b, c, x, y, l⟩, rfl, ⟨by have := short_of hb (by omega); simpa [Short] using this, hk, hx, hy⟩⟩
theorem shp_att {n : Nat} {ds : List Dp} (h : Shp Tryz.prog n 28 ds) : ∃ a : AttT, ds = a.row ∧ True := by
 cases n with
 | zero => exact h.elim
 | succ n =>
  simp only [Shp, Tryz.underlying28, List.forall_mem_cons, cells3, cells28] at h
  obtain ⟨hl, h1, h2, h3, h4, h5, _⟩ := h
  obtain ⟨a, e1, _⟩ := shp_int h1
  obtain ⟨b, e2, _⟩ := shp_int h2
  obtain ⟨c, e3, _⟩ := shp_int h3
  obtain ⟨d, e4, _⟩ := shp_int h4
  obtain ⟨e, e5, _⟩ := shp_int h5
  match ds, hl with
  | [p, q, r, t, u], _ =>
   simp at e1 e2 e3 e4 e5
   subst e1; subst e2; subst e3; subst e4; subst e5
   exact ⟨⟨a, b, c, d, e⟩, rfl, trivial⟩
theorem shp_atts {n : Nat} {ds : List Dp} (h : Shp Tryz.prog n 37 ds) : ∃ l : List AttT, ds = [.sl (l.map AttT.row)] ∧ Short l := by
 cases n with
 | zero => exact h.elim
 | succ n =>
  simp only [Shp, Tryz.underlying37, bytes28] at h
  obtain ⟨es, rfl, hb, he⟩ := h
  obtain ⟨l, rfl, _⟩ := map_of (row := AttT.row) (ok := fun _ => True) (fun r hr => shp_att (he r hr))
  exact ⟨l, rfl, by have := short_of hb (by omega); simpa [Short] using this⟩
theorem arg_prog {H : Type} {enc : TypeId × Value → H} {W : World} {base : Nat} {v : Value} {d : DataW H} {p : List MemPlace}
  (hok : Value.okWide Tryz.prog W .any base 26 v) (h : DataW.Trod enc Tryz.prog W 0 (fun _ => true) true 26 v d p) (hw : (d.weights Tryz.prog 26).all (· ≤ reachBytes) = true) :
  ∃ r : ProgT, r.ok ∧ Rel W (avs (fun _ => False) (fun _ => none) []) (fun _ => none) [] (.agg r.l) v := by
 unfold Value.okWide at hok
 rw [Tryz.underlying26] at hok
 obtain ⟨cs, rfl, _, _⟩ := hok
 obtain ⟨fuel, hf⟩ := h
 obtain ⟨ds, h1, h2⟩ := open_plain plain26 av_start fuel 26 _ d p (by decide) hf hw
 obtain ⟨r, e, hr⟩ := shp_prog h1
 refine ⟨r, hr, ?_⟩
 rw [← e]
 simp only [Rel]
 exact ⟨cs, rfl, h2.relL⟩
theorem arg_atts {H : Type} {enc : TypeId × Value → H} {W : World} {base : Nat} {v : Value} {d : DataW H} {p : List MemPlace}
  (hok : Value.okWide Tryz.prog W .any base 37 v) (h : DataW.Trod enc Tryz.prog W 0 (fun _ => true) true 37 v d p) (hw : (d.weights Tryz.prog 37).all (· ≤ reachBytes) = true) :
  ∃ l : List AttT, Short l ∧ Rel W (avs (fun _ => False) (fun _ => none) []) (fun _ => none) [] (rowsD' (l.map AttT.row)) v := by
 obtain ⟨fuel, hf⟩ := h
 unfold Value.okWide at hok
 rw [Tryz.underlying37] at hok
 have hc : v.cells.toList = [v] := by
  cases v <;> first | rfl | skip
  unfold Cell.okWide at hok
  rw [Tryz.underlying37] at hok
  exact hok.elim
 rw [hc] at hf
 obtain ⟨ds, h1, h2⟩ := open_plain plain26 av_start fuel 37 _ d p (by decide) hf hw
 obtain ⟨l, rfl, hl⟩ := shp_atts h1
 refine ⟨l, hl, ?_⟩
 simp only [RelPL, and_true] at h2
 simpa [rowsD', Rel] using h2
end Go.Vi
open Go Go.Proofs
namespace Go.Vi
open Go.ChangeShapes Go.WideShapes Go.ChangeAt Go.RowKit Go.Proofs.YthokmgafnhmlbaaGreatDoor
set_option maxRecDepth 100000
theorem ownK : ownKnob Tryz.prog.godebug = none := by kernel_rfl
theorem laidOut : laidOutB Tryz.prog = true := by kernel_rfl
def kd (a b c d : Bool) (f g : Value) : List Value := [.bool a, .bool b, .bool c, .bool d, f, g]
def kf (k : Nat) : Value := .func (.func k) #[] #[]
def kindsCells : List Value :=
 kd false false false false .nilFunc .nilFunc ++ kd false false false true (kf 212) (kf 213) ++ kd false false false true (kf 214) (kf 215) ++ kd false true false true (kf 216) (kf 217) ++
 kd false false false true (kf 218) (kf 219) ++ kd true true false false (kf 220) (kf 222) ++ kd true true false false (kf 224) (kf 225) ++ kd false true false false (kf 226) (kf 227) ++
 kd false true true false (kf 228) (kf 230) ++ kd true false false false (kf 221) (kf 231)
noncomputable def laidWorld (os : Os) : World :=
 { World.holding Tryz.prog os ⟨#[], #[], []⟩ with heap := (World.holding Tryz.prog os ⟨#[], #[], []⟩).heap.modify 0 fun
   | .cells _ t frozen => .cells kindsCells.toArray t frozen
   | o => o }
theorem laid_met (os : Os) (args : Array Value) : laidMetH Tryz.prog [("sizar/rules.kinds", Rows.laid_sizar_rules_kinds)] ((laidWorld os).forCall (fun _ _ => 0) ⟨#[], args, []⟩).memory :=
 laidMetH_of_parts3 (fuel := 8) (laidMet_nil _ _) (by kernel_rfl) (by kernel_rfl)
end Go.Vi
