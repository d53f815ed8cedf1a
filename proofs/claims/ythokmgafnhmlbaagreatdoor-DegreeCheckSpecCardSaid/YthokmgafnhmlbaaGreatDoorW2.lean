/- DegreeCheckSpec: part of the proof: contracts of the functions that the law reaches, and the law. No conditions beyond the given statement's own. -/
import Derived.Test.YthokmgafnhmlbaaGreatDoorW1
import Derived.Test.YthokmgafnhmlbaaGreatDoorCards
import Derived.Test.YthokmgafnhmlbaaGreatDoorTie
import Derived.WalkKit
import Derived.ProofKit
import Derived.OpenShut
import Derived.Deep.DeepHandedRow
import Derived.Lib.LaidTab
open Go Go.Proofs
namespace Go.Vi
set_option maxRecDepth 100000
set_option maxHeartbeats 4000000
theorem tk6 (rs : List ReqT) (b : Bool) : some (slOk 0 (if false = true then if ((rs.map ReqT.row).length : Int) > 6 then ((rs.map ReqT.row).length : Int) else 6 else if ((rs.map ReqT.row).length : Int) < 6 then ((rs.map ReqT.row).length : Int) else 6) (rs.map ReqT.row).length && true && (true || b) && (rs.map ReqT.row).all (fun r => decide (r.length = 6)), rowsD' (((rs.map ReqT.row).drop (Int.toNat 0)).take (Int.toNat (if false = true then if ((rs.map ReqT.row).length : Int) > 6 then ((rs.map ReqT.row).length : Int) else 6 else if ((rs.map ReqT.row).length : Int) < 6 then ((rs.map ReqT.row).length : Int) else 6) - Int.toNat 0))) = some (true, rowsD' ((rs.take 6).map ReqT.row)) := by
 have e1 : (rs.map ReqT.row).all (fun r => decide (r.length = 6)) = true := by
  rw [List.all_eq_true]
  intro r hr
  obtain ⟨q, _, rfl⟩ := List.mem_map.1 hr
  simp [ReqT.row]
 rw [e1]
 simp only [Bool.false_eq_true, if_false, Bool.true_or, Bool.and_true, Int.toNat_zero, List.drop_zero, Nat.sub_zero]
 by_cases h : ((rs.map ReqT.row).length : Int) < 6
 ·rw [if_pos h]
  have e2 : slOk 0 ((rs.map ReqT.row).length : Int) (rs.map ReqT.row).length = true := by simp [slOk]
  rw [e2, Int.toNat_natCast, List.take_length, List.take_of_length_le (by simp at h; omega)]
 ·rw [if_neg h]
  have e2 : slOk 0 6 (rs.map ReqT.row).length = true := by simp at h; simp [slOk]; omega
  rw [e2, List.map_take]
  rfl
noncomputable abbrev dc_out_x0 (p : ProgT) (a : AttT) : List Blk := [.var [strD p.nm, int p.number, int p.uses, int p.earn, int p.num, int p.den, rowsD' (List.map ReqT.row p.reqs)], .var [int a.course, int a.term, int a.grade, int a.campus, int a.credits]]
theorem dc_out {p : ProgT} {a : AttT} {b : Bool} (hsane : ∀ h, Ev Tryz.prog Γ0 9 [] h (bool true) h) (hfew : ∀ h, Ev Tryz.prog Γ0 10 [.agg [strD ⟨#[]⟩, int 0, int 0, int 0, int 0, int 0, rowsD' ((p.reqs.take 6).map ReqT.row)], nilD0] h (bool b) h) (ho : (decide (((p.reqs.map ReqT.row).length : Int) > 100) || !b) = true) (h : List Blk) : (Ev Tryz.prog Γ0 3 [.agg p.l, ag a.row] h (bool true) h) := by
 exact Ev.castH (Ev.sym0 (P := Tryz.prog) (Γ := Γ0) (f := 3) (args := [D.agg (ProgT.l p), ag (AttT.row a)]) (d := bool true) pok (φ := [Ev Tryz.prog Γ0 9 [] (dc_out_x0 p a) (bool true) (dc_out_x0 p a), (!true) = false, (!decide ((↑(List.length (List.map ReqT.row p.reqs)) : Int) > 100)) = true → some (slOk 0 (if false = true then if (↑(List.length (List.map ReqT.row p.reqs)) : Int) > 6 then (↑(List.length (List.map ReqT.row p.reqs)) : Int) else 6 else if (↑(List.length (List.map ReqT.row p.reqs)) : Int) < 6 then (↑(List.length (List.map ReqT.row p.reqs)) : Int) else 6) (List.length (List.map ReqT.row p.reqs)) && true && (true || Option.isSome (Option.map (evalD Γ0 (List.map stripD (mkT 37 0 [(0, D.agg [strD p.nm, int p.number, int p.uses, int p.earn, int p.num, int p.den, rowsD' (List.map ReqT.row p.reqs)]), (1, D.agg [int a.course, int a.term, int a.grade, int a.campus, int a.credits]), (2, .ref (.ptr 0 0)), (3, .ref (.ptr 1 0)), (4, bool false), (5, bool true), (6, bool !true), (7, .ref (.ptr 0 6)), (8, rowsD' (List.map ReqT.row p.reqs)), (9, int (↑(List.length (List.map ReqT.row p.reqs)) : Int)), (10, bool (decide ((↑(List.length (List.map ReqT.row p.reqs)) : Int) > 100))), (11, bool (decide ((↑(List.length (List.map ReqT.row p.reqs)) : Int) > 100))), (12, D.grd (!decide ((↑(List.length (List.map ReqT.row p.reqs)) : Int) > 100)) (.ref (.ptr 0 6))), (13, D.grd (!decide ((↑(List.length (List.map ReqT.row p.reqs)) : Int) > 100)) (rowsD' (List.map ReqT.row p.reqs))), (14, D.grd (!decide ((↑(List.length (List.map ReqT.row p.reqs)) : Int) > 100)) (.ref (.ptr 0 6))), (15, D.grd (!decide ((↑(List.length (List.map ReqT.row p.reqs)) : Int) > 100)) (rowsD' (List.map ReqT.row p.reqs))), (16, D.grd (!decide ((↑(List.length (List.map ReqT.row p.reqs)) : Int) > 100)) (int (↑(List.length (List.map ReqT.row p.reqs)) : Int))), (17, D.grd (!decide ((↑(List.length (List.map ReqT.row p.reqs)) : Int) > 100)) (int (if false = true then if (↑(List.length (List.map ReqT.row p.reqs)) : Int) > 6 then (↑(List.length (List.map ReqT.row p.reqs)) : Int) else 6 else if (↑(List.length (List.map ReqT.row p.reqs)) : Int) < 6 then (↑(List.length (List.map ReqT.row p.reqs)) : Int) else 6)))]))) (some (Operand.tmp 17)))) && List.all (List.map ReqT.row p.reqs) fun r => decide (List.length r = 6), rowsD' (List.take (Int.toNat (if false = true then if (↑(List.length (List.map ReqT.row p.reqs)) : Int) > 6 then (↑(List.length (List.map ReqT.row p.reqs)) : Int) else 6 else if (↑(List.length (List.map ReqT.row p.reqs)) : Int) < 6 then (↑(List.length (List.map ReqT.row p.reqs)) : Int) else 6) - Int.toNat 0) (List.drop (Int.toNat 0) (List.map ReqT.row p.reqs)))) = some (true, rowsD' (List.map ReqT.row (List.take 6 p.reqs))), (!decide ((↑(List.length (List.map ReqT.row p.reqs)) : Int) > 100)) = true → Ev Tryz.prog Γ0 10 [D.agg [strD { data := #[] }, int 0, int 0, int 0, int 0, int 0, rowsD' (List.map ReqT.row (List.take 6 p.reqs))], D.p (Dp.v (Value.slice none 0 0))] (dc_out_x0 p a) (bool b) (dc_out_x0 p a), (decide ((↑(List.length (List.map ReqT.row p.reqs)) : Int) > 100) || !b) = true]) [.val (bool true), .b false, .ov 18 (rowsD' (List.map ReqT.row (List.take 6 p.reqs))), .val (bool b), .b true] (by kernel_rfl) ⟨(@hsane ((dc_out_x0 p a))), rfl, (fun hg => (by first | (simp only [ho, cond_true, cond_false]; done) | first | assumption | rfl | exact tk6 _ _)), (fun hg => (@hfew ((dc_out_x0 p a)))), ho, trivial⟩ rfl rfl h) (by rfl) (by rfl)
noncomputable abbrev dc_in_x0 (p : ProgT) (a : AttT) : List Blk := [.var [strD p.nm, int p.number, int p.uses, int p.earn, int p.num, int p.den, rowsD' (List.map ReqT.row p.reqs)], .var [int a.course, int a.term, int a.grade, int a.campus, int a.credits]]
theorem dc_in {p : ProgT} {a : AttT} {b : Bool} (hp : p.ok) (hnm : I64 p.num) (hdn : I64 p.den) (hn : p.reqs.length ≤ 1000) (hl : Short (elR p a)) (hx : (((inR1 (elR p a)).length : Int) != ((inR1 (elR p a)).length : Int)) = false) (hsane : ∀ h, Ev Tryz.prog Γ0 9 [] h (bool true) h) (hfew : ∀ h, Ev Tryz.prog Γ0 10 [.agg [strD ⟨#[]⟩, int 0, int 0, int 0, int 0, int 0, rowsD' ((p.reqs.take 6).map ReqT.row)], nilD0] h (bool b) h) (ho : (decide (((p.reqs.map ReqT.row).length : Int) > 100) || !b) = false) (h : List Blk) : (Ev Tryz.prog Γ0 3 [.agg p.l, ag a.row] h (bool true) h) := by
 exact Ev.castH (Ev.sym0 (P := Tryz.prog) (Γ := Γ0) (f := 3) (args := [D.agg (ProgT.l p), ag (AttT.row a)]) (d := bool (pErr p == pErr p && true)) pok (φ := [Ev Tryz.prog Γ0 9 [] (dc_in_x0 p a) (bool true) (dc_in_x0 p a), (!true) = false, (!decide ((↑(List.length (List.map ReqT.row p.reqs)) : Int) > 100)) = true → some (slOk 0 (if false = true then if (↑(List.length (List.map ReqT.row p.reqs)) : Int) > 6 then (↑(List.length (List.map ReqT.row p.reqs)) : Int) else 6 else if (↑(List.length (List.map ReqT.row p.reqs)) : Int) < 6 then (↑(List.length (List.map ReqT.row p.reqs)) : Int) else 6) (List.length (List.map ReqT.row p.reqs)) && true && (true || Option.isSome (Option.map (evalD Γ0 (List.map stripD (mkT 37 0 [(0, D.agg [strD p.nm, int p.number, int p.uses, int p.earn, int p.num, int p.den, rowsD' (List.map ReqT.row p.reqs)]), (1, D.agg [int a.course, int a.term, int a.grade, int a.campus, int a.credits]), (2, .ref (.ptr 0 0)), (3, .ref (.ptr 1 0)), (4, bool false), (5, bool true), (6, bool !true), (7, .ref (.ptr 0 6)), (8, rowsD' (List.map ReqT.row p.reqs)), (9, int (↑(List.length (List.map ReqT.row p.reqs)) : Int)), (10, bool (decide ((↑(List.length (List.map ReqT.row p.reqs)) : Int) > 100))), (11, bool (decide ((↑(List.length (List.map ReqT.row p.reqs)) : Int) > 100))), (12, D.grd (!decide ((↑(List.length (List.map ReqT.row p.reqs)) : Int) > 100)) (.ref (.ptr 0 6))), (13, D.grd (!decide ((↑(List.length (List.map ReqT.row p.reqs)) : Int) > 100)) (rowsD' (List.map ReqT.row p.reqs))), (14, D.grd (!decide ((↑(List.length (List.map ReqT.row p.reqs)) : Int) > 100)) (.ref (.ptr 0 6))), (15, D.grd (!decide ((↑(List.length (List.map ReqT.row p.reqs)) : Int) > 100)) (rowsD' (List.map ReqT.row p.reqs))), (16, D.grd (!decide ((↑(List.length (List.map ReqT.row p.reqs)) : Int) > 100)) (int (↑(List.length (List.map ReqT.row p.reqs)) : Int))), (17, D.grd (!decide ((↑(List.length (List.map ReqT.row p.reqs)) : Int) > 100)) (int (if false = true then if (↑(List.length (List.map ReqT.row p.reqs)) : Int) > 6 then (↑(List.length (List.map ReqT.row p.reqs)) : Int) else 6 else if (↑(List.length (List.map ReqT.row p.reqs)) : Int) < 6 then (↑(List.length (List.map ReqT.row p.reqs)) : Int) else 6)))]))) (some (Operand.tmp 17)))) && List.all (List.map ReqT.row p.reqs) fun r => decide (List.length r = 6), rowsD' (List.take (Int.toNat (if false = true then if (↑(List.length (List.map ReqT.row p.reqs)) : Int) > 6 then (↑(List.length (List.map ReqT.row p.reqs)) : Int) else 6 else if (↑(List.length (List.map ReqT.row p.reqs)) : Int) < 6 then (↑(List.length (List.map ReqT.row p.reqs)) : Int) else 6) - Int.toNat 0) (List.drop (Int.toNat 0) (List.map ReqT.row p.reqs)))) = some (true, rowsD' (List.map ReqT.row (List.take 6 p.reqs))), (!decide ((↑(List.length (List.map ReqT.row p.reqs)) : Int) > 100)) = true → Ev Tryz.prog Γ0 10 [D.agg [strD { data := #[] }, int 0, int 0, int 0, int 0, int 0, rowsD' (List.map ReqT.row (List.take 6 p.reqs))], D.p (Dp.v (Value.slice none 0 0))] (dc_in_x0 p a) (bool b) (dc_in_x0 p a), (decide ((↑(List.length (List.map ReqT.row p.reqs)) : Int) > 100) || !b) = false, Ev Tryz.prog Γ0 11 [D.agg [strD p.nm, int p.number, int p.uses, int p.earn, int p.num, int p.den, rowsD' (List.map ReqT.row p.reqs)]] (dc_in_x0 p a) (int (pErr p)) (dc_in_x0 p a), Ev Tryz.prog Γ0 12 [D.agg [strD p.nm, int p.number, int p.uses, int p.earn, int p.num, int p.den, rowsD' (List.map ReqT.row p.reqs)]] (dc_in_x0 p a) (int (pErr p)) (dc_in_x0 p a), (pErr p == pErr p) = true → Ev Tryz.prog Γ0 14 [D.agg [strD p.nm, int p.number, int p.uses, int p.earn, int p.num, int p.den, rowsD' (List.map ReqT.row p.reqs)], D.agg [int a.course, int a.term, int a.grade, int a.campus, int a.credits]] (dc_in_x0 p a) (rowsD' (inR1 (elR p a))) (dc_in_x0 p a), (pErr p == pErr p) = true → Ev Tryz.prog Γ0 15 [D.agg [strD p.nm, int p.number, int p.uses, int p.earn, int p.num, int p.den, rowsD' (List.map ReqT.row p.reqs)], D.agg [int a.course, int a.term, int a.grade, int a.campus, int a.credits]] (dc_in_x0 p a) (rowsD' (inR1 (elR p a))) (dc_in_x0 p a), (pErr p == pErr p) = true → Ev Tryz.prog Γ0 13 [rowsD' (inR1 (elR p a)), rowsD' (inR1 (elR p a))] (dc_in_x0 p a) (bool true) (dc_in_x0 p a)]) [.val (bool true), .b false, .ov 18 (rowsD' (List.map ReqT.row (List.take 6 p.reqs))), .val (bool b), .b false, .val (int (pErr p)), .val (int (pErr p)), .val (rowsD' (inR1 (elR p a))), .val (rowsD' (inR1 (elR p a))), .val (bool true)] (by kernel_rfl) ⟨(@hsane ((dc_in_x0 p a))), rfl, (fun hg => (by first | (simp only [hx, ho, cond_true, cond_false]; done) | first | assumption | rfl | exact tk6 _ _)), (fun hg => (@hfew ((dc_in_x0 p a)))), ho, (@dcheck_ev (p) (hp) (hnm) (hdn) ((dc_in_x0 p a))), (@rcheck_ev (p) (hp) ((dc_in_x0 p a))), (fun hg => (@eligible_ev (p) (hp) (hn) (a) ((dc_in_x0 p a)))), (fun hg => (@releg_ev (p) (hp) (hn) (a) ((dc_in_x0 p a)))), (fun hg => (@same_ev (elR p a) (hl) (hx) ((dc_in_x0 p a)))), trivial⟩ rfl rfl h) (by first | rfl | simp) (by rfl)
end Go.Vi
open Go Go.Proofs
namespace Go.Vi
set_option maxRecDepth 1000000
set_option maxHeartbeats 0
def s19m0 : Memo := ⟨69, [.ref (.ptr 31 0), int 0, int 5], [.gone, .vec [[int 7], [int 8]] 0 1, .vec [[int 8], [int 7]] 0 1, .vec [[strD ⟨#[97]⟩, int 6, int 1, bool false, nq, .ref (.vec 1 0)], [strD ⟨#[98]⟩, int 4, int 1, bool false, nq, .ref (.vec 2 0)]] 0 6, .gone, .vec [[int 7, int 0, int 5, int 0, int 6], [int 8, int 0, int 5, int 0, int 3]] 0 5, .var [strD ⟨#[]⟩, int 1, int 1, int 0, int 0, int 1, .ref (.vec 3 0)], .var [strD ⟨#[]⟩, int 1, int 1, int 0, int 0, int 1, .ref (.vec 3 0)], .var [nq, int 0, nq], .var [int 0], .gone, .gone, .gone, .gone, .gone, .gone, .vec [[int 0, int 1, int 6], [int 0, int 2, int 3], [int 1, int 3, int 6], [int 1, int 4, int 6], [int 2, int 3, int 3], [int 2, int 4, int 3], [int 3, int 5, int 6], [int 4, int 5, int 4]] 7 3, .gone, .gone, .gone, .gone, .gone, .gone, .gone, .gone, .gone, .gone, .var [int 0], .var [int 5], .vec [[int 0], [int 0], [int 0], [int 0], [int 0], [int 0], [int 0], [int 0]] 0 1, .vec [[.ref (.vec 34 1)], [.ref (.vec 36 2)], [.ref (.vec 40 2)], [.ref (.vec 44 2)], [.ref (.vec 48 2)], [.ref (.vec 58 1)]] 0 1, .var [.ref (.vec 16 7), .ref (.vec 29 0), .ref (.vec 30 0)], .gone, .gone, .vec [[int 0], [int 2]] 1 1, .gone, .vec [[int 1], [int 4], [int 6]] 2 1, .gone, .gone, .gone, .vec [[int 3], [int 8], [int 10]] 2 1, .gone, .gone, .gone, .vec [[int 5], [int 9], [int 12]] 2 1, .gone, .gone, .gone, .vec [[int 7], [int 11], [int 14]] 2 1, .gone, .gone, .gone, .gone, .gone, .gone, .gone, .gone, .gone, .vec [[int 13], [int 15]] 1 1, .gone, .gone, .gone, .var [.ref (.ptr 31 0)]], .ret (.ref (.vec 66 0)) [.gone, .vec [[int 7], [int 8]] 0 1, .vec [[int 8], [int 7]] 0 1, .vec [[strD ⟨#[97]⟩, int 6, int 1, bool false, nq, .ref (.vec 1 0)], [strD ⟨#[98]⟩, int 4, int 1, bool false, nq, .ref (.vec 2 0)]] 0 6, .gone, .vec [[int 7, int 0, int 5, int 0, int 6], [int 8, int 0, int 5, int 0, int 3]] 0 5, .var [strD ⟨#[]⟩, int 1, int 1, int 0, int 0, int 1, .ref (.vec 3 0)], .var [strD ⟨#[]⟩, int 1, int 1, int 0, int 0, int 1, .ref (.vec 3 0)], .var [nq, int 0, nq], .var [int 0], .gone, .gone, .gone, .gone, .gone, .gone, .vec [[int 0, int 1, int 6], [int 0, int 2, int 3], [int 1, int 3, int 6], [int 1, int 4, int 6], [int 2, int 3, int 3], [int 2, int 4, int 3], [int 3, int 5, int 6], [int 4, int 5, int 4]] 7 3, .gone, .gone, .gone, .gone, .gone, .gone, .gone, .gone, .gone, .gone, .var [int 0], .var [int 5], .vec [[int 0], [int 0], [int 0], [int 0], [int 0], [int 0], [int 0], [int 0]] 0 1, .vec [[.ref (.vec 34 1)], [.ref (.vec 36 2)], [.ref (.vec 40 2)], [.ref (.vec 44 2)], [.ref (.vec 48 2)], [.ref (.vec 58 1)]] 0 1, .var [.ref (.vec 16 7), .ref (.vec 29 0), .ref (.vec 30 0)], .gone, .gone, .vec [[int 0], [int 2]] 1 1, .gone, .vec [[int 1], [int 4], [int 6]] 2 1, .gone, .gone, .gone, .vec [[int 3], [int 8], [int 10]] 2 1, .gone, .gone, .gone, .vec [[int 5], [int 9], [int 12]] 2 1, .gone, .gone, .gone, .vec [[int 7], [int 11], [int 14]] 2 1, .gone, .gone, .gone, .gone, .gone, .gone, .gone, .gone, .gone, .vec [[int 13], [int 15]] 1 1, .gone, .gone, .gone, .var [.ref (.ptr 31 0)], .gone, .gone, .gone, .vec [[int 16], [int 0], [int 2], [int 4], [int 6], [int 12]] 0 1, .gone, .gone, .gone, .gone, .gone, .gone, .gone, .gone, .gone, .gone, .gone, .gone, .gone, .gone, .gone, .gone, .gone, .gone]⟩
theorem s19m0_ok : s19m0.Ok Tryz.prog Γ0 := Memo.ok_of pok (ms := []) (by kernel_rfl) trivial
def s19m1 : Memo := ⟨68, [int 6, .ref (.vec 16 7)], [.gone, .vec [[int 7], [int 8]] 0 1, .vec [[int 8], [int 7]] 0 1, .vec [[strD ⟨#[97]⟩, int 6, int 1, bool false, nq, .ref (.vec 1 0)], [strD ⟨#[98]⟩, int 4, int 1, bool false, nq, .ref (.vec 2 0)]] 0 6, .gone, .vec [[int 7, int 0, int 5, int 0, int 6], [int 8, int 0, int 5, int 0, int 3]] 0 5, .var [strD ⟨#[]⟩, int 1, int 1, int 0, int 0, int 1, .ref (.vec 3 0)], .var [strD ⟨#[]⟩, int 1, int 1, int 0, int 0, int 1, .ref (.vec 3 0)], .var [nq, int 0, nq], .var [int 0], .gone, .gone, .gone, .gone, .gone, .gone, .vec [[int 0, int 1, int 6], [int 0, int 2, int 3], [int 1, int 3, int 6], [int 1, int 4, int 6], [int 2, int 3, int 3], [int 2, int 4, int 3], [int 3, int 5, int 6], [int 4, int 5, int 4]] 7 3, .gone, .gone, .gone, .gone, .gone, .gone, .gone, .gone, .gone, .gone, .var [int 0], .var [int 5]], .ret (.ref (.ptr 31 0)) [.gone, .vec [[int 7], [int 8]] 0 1, .vec [[int 8], [int 7]] 0 1, .vec [[strD ⟨#[97]⟩, int 6, int 1, bool false, nq, .ref (.vec 1 0)], [strD ⟨#[98]⟩, int 4, int 1, bool false, nq, .ref (.vec 2 0)]] 0 6, .gone, .vec [[int 7, int 0, int 5, int 0, int 6], [int 8, int 0, int 5, int 0, int 3]] 0 5, .var [strD ⟨#[]⟩, int 1, int 1, int 0, int 0, int 1, .ref (.vec 3 0)], .var [strD ⟨#[]⟩, int 1, int 1, int 0, int 0, int 1, .ref (.vec 3 0)], .var [nq, int 0, nq], .var [int 0], .gone, .gone, .gone, .gone, .gone, .gone, .vec [[int 0, int 1, int 6], [int 0, int 2, int 3], [int 1, int 3, int 6], [int 1, int 4, int 6], [int 2, int 3, int 3], [int 2, int 4, int 3], [int 3, int 5, int 6], [int 4, int 5, int 4]] 7 3, .gone, .gone, .gone, .gone, .gone, .gone, .gone, .gone, .gone, .gone, .var [int 0], .var [int 5], .vec [[int 0], [int 0], [int 0], [int 0], [int 0], [int 0], [int 0], [int 0]] 0 1, .vec [[.ref (.vec 34 1)], [.ref (.vec 36 2)], [.ref (.vec 40 2)], [.ref (.vec 44 2)], [.ref (.vec 48 2)], [.ref (.vec 58 1)]] 0 1, .var [.ref (.vec 16 7), .ref (.vec 29 0), .ref (.vec 30 0)], .gone, .gone, .vec [[int 0], [int 2]] 1 1, .gone, .vec [[int 1], [int 4], [int 6]] 2 1, .gone, .gone, .gone, .vec [[int 3], [int 8], [int 10]] 2 1, .gone, .gone, .gone, .vec [[int 5], [int 9], [int 12]] 2 1, .gone, .gone, .gone, .vec [[int 7], [int 11], [int 14]] 2 1, .gone, .gone, .gone, .gone, .gone, .gone, .gone, .gone, .gone, .vec [[int 13], [int 15]] 1 1, .gone, .gone, .gone]⟩
theorem s19m1_ok : s19m1.Ok Tryz.prog Γ0 := Memo.ok_of pok (ms := []) (by kernel_rfl) trivial
def s19m2 : Memo := ⟨69, [.ref (.ptr 31 0), int 0, int 5], [.gone, .vec [[int 7], [int 8]] 0 1, .vec [[int 8], [int 7]] 0 1, .vec [[strD ⟨#[97]⟩, int 6, int 1, bool false, nq, .ref (.vec 1 0)], [strD ⟨#[98]⟩, int 4, int 1, bool false, nq, .ref (.vec 2 0)]] 0 6, .gone, .vec [[int 7, int 0, int 5, int 0, int 6], [int 8, int 0, int 5, int 0, int 3]] 0 5, .var [strD ⟨#[]⟩, int 1, int 1, int 0, int 0, int 1, .ref (.vec 3 0)], .var [strD ⟨#[]⟩, int 1, int 1, int 0, int 0, int 1, .ref (.vec 3 0)], .var [nq, int 0, nq], .var [int 0], .gone, .gone, .gone, .gone, .gone, .gone, .vec [[int 0, int 1, int 6], [int 0, int 2, int 3], [int 1, int 3, int 6], [int 1, int 4, int 6], [int 2, int 3, int 3], [int 2, int 4, int 3], [int 3, int 5, int 6], [int 4, int 5, int 4]] 7 3, .gone, .gone, .gone, .gone, .gone, .gone, .gone, .gone, .gone, .gone, .var [int 0], .var [int 5], .vec [[int 6], [int 0], [int 6], [int 0], [int 0], [int 0], [int 6], [int 0]] 0 1, .vec [[.ref (.vec 34 1)], [.ref (.vec 36 2)], [.ref (.vec 40 2)], [.ref (.vec 44 2)], [.ref (.vec 48 2)], [.ref (.vec 58 1)]] 0 1, .var [.ref (.vec 16 7), .ref (.vec 29 0), .ref (.vec 30 0)], .gone, .gone, .vec [[int 0], [int 2]] 1 1, .gone, .vec [[int 1], [int 4], [int 6]] 2 1, .gone, .gone, .gone, .vec [[int 3], [int 8], [int 10]] 2 1, .gone, .gone, .gone, .vec [[int 5], [int 9], [int 12]] 2 1, .gone, .gone, .gone, .vec [[int 7], [int 11], [int 14]] 2 1, .gone, .gone, .gone, .gone, .gone, .gone, .gone, .gone, .gone, .vec [[int 13], [int 15]] 1 1, .gone, .gone, .gone, .var [.ref (.ptr 31 0)], .gone, .gone, .gone, .vec [[int 16], [int 0], [int 2], [int 4], [int 6], [int 12]] 0 1, .gone, .gone, .gone, .gone, .gone, .gone, .gone, .gone, .gone, .gone, .gone, .gone, .gone, .gone, .gone, .gone, .gone, .gone, .var [.ref (.vec 66 0)], .var [int 6]], .ret (.ref (.vec 90 0)) [.gone, .vec [[int 7], [int 8]] 0 1, .vec [[int 8], [int 7]] 0 1, .vec [[strD ⟨#[97]⟩, int 6, int 1, bool false, nq, .ref (.vec 1 0)], [strD ⟨#[98]⟩, int 4, int 1, bool false, nq, .ref (.vec 2 0)]] 0 6, .gone, .vec [[int 7, int 0, int 5, int 0, int 6], [int 8, int 0, int 5, int 0, int 3]] 0 5, .var [strD ⟨#[]⟩, int 1, int 1, int 0, int 0, int 1, .ref (.vec 3 0)], .var [strD ⟨#[]⟩, int 1, int 1, int 0, int 0, int 1, .ref (.vec 3 0)], .var [nq, int 0, nq], .var [int 0], .gone, .gone, .gone, .gone, .gone, .gone, .vec [[int 0, int 1, int 6], [int 0, int 2, int 3], [int 1, int 3, int 6], [int 1, int 4, int 6], [int 2, int 3, int 3], [int 2, int 4, int 3], [int 3, int 5, int 6], [int 4, int 5, int 4]] 7 3, .gone, .gone, .gone, .gone, .gone, .gone, .gone, .gone, .gone, .gone, .var [int 0], .var [int 5], .vec [[int 6], [int 0], [int 6], [int 0], [int 0], [int 0], [int 6], [int 0]] 0 1, .vec [[.ref (.vec 34 1)], [.ref (.vec 36 2)], [.ref (.vec 40 2)], [.ref (.vec 44 2)], [.ref (.vec 48 2)], [.ref (.vec 58 1)]] 0 1, .var [.ref (.vec 16 7), .ref (.vec 29 0), .ref (.vec 30 0)], .gone, .gone, .vec [[int 0], [int 2]] 1 1, .gone, .vec [[int 1], [int 4], [int 6]] 2 1, .gone, .gone, .gone, .vec [[int 3], [int 8], [int 10]] 2 1, .gone, .gone, .gone, .vec [[int 5], [int 9], [int 12]] 2 1, .gone, .gone, .gone, .vec [[int 7], [int 11], [int 14]] 2 1, .gone, .gone, .gone, .gone, .gone, .gone, .gone, .gone, .gone, .vec [[int 13], [int 15]] 1 1, .gone, .gone, .gone, .var [.ref (.ptr 31 0)], .gone, .gone, .gone, .vec [[int 16], [int 0], [int 2], [int 4], [int 6], [int 12]] 0 1, .gone, .gone, .gone, .gone, .gone, .gone, .gone, .gone, .gone, .gone, .gone, .gone, .gone, .gone, .gone, .gone, .gone, .gone, .var [.ref (.vec 66 0)], .var [int 6], .gone, .gone, .gone, .vec [[int 16], [int 5], [int 2], [int 8], [int 10], [int 14]] 0 1, .gone, .gone, .gone, .gone, .gone, .gone, .gone, .gone, .gone, .gone, .gone, .gone, .gone, .gone, .gone, .gone, .gone, .gone]⟩
theorem s19m2_ok : s19m2.Ok Tryz.prog Γ0 := Memo.ok_of pok (ms := []) (by kernel_rfl) trivial
def s19m3 : Memo := ⟨42, [int 6, .ref (.vec 16 7), int 0, int 5], [.gone, .vec [[int 7], [int 8]] 0 1, .vec [[int 8], [int 7]] 0 1, .vec [[strD ⟨#[97]⟩, int 6, int 1, bool false, nq, .ref (.vec 1 0)], [strD ⟨#[98]⟩, int 4, int 1, bool false, nq, .ref (.vec 2 0)]] 0 6, .gone, .vec [[int 7, int 0, int 5, int 0, int 6], [int 8, int 0, int 5, int 0, int 3]] 0 5, .var [strD ⟨#[]⟩, int 1, int 1, int 0, int 0, int 1, .ref (.vec 3 0)], .var [strD ⟨#[]⟩, int 1, int 1, int 0, int 0, int 1, .ref (.vec 3 0)], .var [nq, int 0, nq], .var [int 0], .gone, .gone, .gone, .gone, .gone, .gone, .vec [[int 0, int 1, int 6], [int 0, int 2, int 3], [int 1, int 3, int 6], [int 1, int 4, int 6], [int 2, int 3, int 3], [int 2, int 4, int 3], [int 3, int 5, int 6], [int 4, int 5, int 4]] 7 3, .gone, .gone, .gone, .gone, .gone, .gone, .gone, .gone, .gone, .gone], .ret (.tup [.ref (.vec 29 0), .ref (.vec 122 0), int 0]) [.gone, .vec [[int 7], [int 8]] 0 1, .vec [[int 8], [int 7]] 0 1, .vec [[strD ⟨#[97]⟩, int 6, int 1, bool false, nq, .ref (.vec 1 0)], [strD ⟨#[98]⟩, int 4, int 1, bool false, nq, .ref (.vec 2 0)]] 0 6, .gone, .vec [[int 7, int 0, int 5, int 0, int 6], [int 8, int 0, int 5, int 0, int 3]] 0 5, .var [strD ⟨#[]⟩, int 1, int 1, int 0, int 0, int 1, .ref (.vec 3 0)], .var [strD ⟨#[]⟩, int 1, int 1, int 0, int 0, int 1, .ref (.vec 3 0)], .var [nq, int 0, nq], .var [int 0], .gone, .gone, .gone, .gone, .gone, .gone, .vec [[int 0, int 1, int 6], [int 0, int 2, int 3], [int 1, int 3, int 6], [int 1, int 4, int 6], [int 2, int 3, int 3], [int 2, int 4, int 3], [int 3, int 5, int 6], [int 4, int 5, int 4]] 7 3, .gone, .gone, .gone, .gone, .gone, .gone, .gone, .gone, .gone, .gone, .gone, .gone, .vec [[int 6], [int 3], [int 6], [int 0], [int 0], [int 3], [int 6], [int 3]] 0 1, .gone, .gone, .gone, .gone, .gone, .gone, .gone, .gone, .gone, .gone, .gone, .gone, .gone, .gone, .gone, .gone, .gone, .gone, .gone, .gone, .gone, .gone, .gone, .gone, .gone, .gone, .gone, .gone, .gone, .gone, .gone, .gone, .gone, .gone, .gone, .gone, .gone, .gone, .gone, .gone, .gone, .gone, .gone, .gone, .gone, .gone, .gone, .gone, .gone, .gone, .gone, .gone, .gone, .gone, .gone, .gone, .gone, .gone, .gone, .gone, .gone, .gone, .gone, .gone, .gone, .gone, .gone, .gone, .gone, .gone, .gone, .gone, .gone, .gone, .gone, .gone, .gone, .gone, .gone, .gone, .gone, .gone, .gone, .gone, .gone, .gone, .gone, .gone, .gone, .gone, .gone, .gone, .vec [[bool true], [bool false], [bool false], [bool false], [bool false], [bool false]] 0 1]⟩
theorem s19m3_ok : s19m3.Ok Tryz.prog Γ0 := Memo.ok_of pok (ms := [s19m0, s19m1, s19m2]) (by kernel_rfl) ⟨s19m0_ok, s19m1_ok, s19m2_ok, trivial⟩
end Go.Vi
open Go Go.Proofs
namespace Go.Vi
set_option maxRecDepth 1000000
set_option maxHeartbeats 0
def s19m4 : Memo := ⟨19, [.agg [strD ⟨#[]⟩, int 1, int 1, int 0, int 0, int 1, .ref (.vec 3 0)], .ref (.vec 5 0)], [.gone, .vec [[int 7], [int 8]] 0 1, .vec [[int 8], [int 7]] 0 1, .vec [[strD ⟨#[97]⟩, int 6, int 1, bool false, nq, .ref (.vec 1 0)], [strD ⟨#[98]⟩, int 4, int 1, bool false, nq, .ref (.vec 2 0)]] 0 6, .gone, .vec [[int 7, int 0, int 5, int 0, int 6], [int 8, int 0, int 5, int 0, int 3]] 0 5, .var [strD ⟨#[]⟩, int 1, int 1, int 0, int 0, int 1, .ref (.vec 3 0)]], .ret (.tup [.agg [.ref (.vec 141 1), int 1, .ref (.vec 122 0)], int 0]) [.gone, .vec [[int 7], [int 8]] 0 1, .vec [[int 8], [int 7]] 0 1, .vec [[strD ⟨#[97]⟩, int 6, int 1, bool false, nq, .ref (.vec 1 0)], [strD ⟨#[98]⟩, int 4, int 1, bool false, nq, .ref (.vec 2 0)]] 0 6, .gone, .vec [[int 7, int 0, int 5, int 0, int 6], [int 8, int 0, int 5, int 0, int 3]] 0 5, .var [strD ⟨#[]⟩, int 1, int 1, int 0, int 0, int 1, .ref (.vec 3 0)], .gone, .gone, .gone, .gone, .gone, .gone, .gone, .gone, .gone, .gone, .gone, .gone, .gone, .gone, .gone, .gone, .gone, .gone, .gone, .gone, .gone, .gone, .gone, .gone, .gone, .gone, .gone, .gone, .gone, .gone, .gone, .gone, .gone, .gone, .gone, .gone, .gone, .gone, .gone, .gone, .gone, .gone, .gone, .gone, .gone, .gone, .gone, .gone, .gone, .gone, .gone, .gone, .gone, .gone, .gone, .gone, .gone, .gone, .gone, .gone, .gone, .gone, .gone, .gone, .gone, .gone, .gone, .gone, .gone, .gone, .gone, .gone, .gone, .gone, .gone, .gone, .gone, .gone, .gone, .gone, .gone, .gone, .gone, .gone, .gone, .gone, .gone, .gone, .gone, .gone, .gone, .gone, .gone, .gone, .gone, .gone, .gone, .gone, .gone, .gone, .gone, .gone, .gone, .gone, .gone, .gone, .gone, .gone, .gone, .gone, .gone, .gone, .gone, .gone, .gone, .vec [[bool true], [bool false], [bool false], [bool false], [bool false], [bool false]] 0 1, .gone, .gone, .gone, .gone, .gone, .gone, .gone, .gone, .gone, .gone, .gone, .gone, .gone, .gone, .gone, .gone, .gone, .gone, .vec [[int 0, int 0, int 6], [int 1, int 1, int 3]] 1 3, .gone, .gone, .gone, .gone, .gone, .gone, .gone, .gone, .gone]⟩
theorem s19m4_ok : s19m4.Ok Tryz.prog Γ0 := Memo.ok_of pok (ms := [s19m3]) (by kernel_rfl) ⟨s19m3_ok, trivial⟩
def s19m5 : Memo := ⟨16, [.agg [strD ⟨#[]⟩, int 1, int 1, int 0, int 0, int 1, .ref (.vec 3 0)], .ref (.vec 5 0)], [.gone, .vec [[int 7], [int 8]] 0 1, .vec [[int 8], [int 7]] 0 1, .vec [[strD ⟨#[97]⟩, int 6, int 1, bool false, nq, .ref (.vec 1 0)], [strD ⟨#[98]⟩, int 4, int 1, bool false, nq, .ref (.vec 2 0)]] 0 6, .gone, .vec [[int 7, int 0, int 5, int 0, int 6], [int 8, int 0, int 5, int 0, int 3]] 0 5, .var [strD ⟨#[]⟩, int 1, int 1, int 0, int 0, int 1, .ref (.vec 3 0)], .gone, .gone, .gone, .gone, .gone, .gone, .gone, .gone, .gone, .gone, .gone, .gone, .gone, .gone, .gone, .gone, .gone, .gone, .gone, .gone, .gone, .gone, .gone, .gone, .gone, .gone, .gone, .gone, .gone, .gone, .gone, .gone, .gone, .gone, .gone, .gone, .gone, .gone, .gone, .gone, .gone, .gone, .gone, .gone, .gone, .gone, .gone, .gone, .gone, .gone, .gone, .gone, .gone, .gone, .gone, .gone, .gone, .gone, .gone, .gone, .gone, .gone, .gone, .gone, .gone, .gone, .gone, .gone, .gone, .gone, .gone, .gone, .gone, .gone, .gone, .gone, .gone, .gone, .gone, .gone, .gone, .gone, .gone, .gone, .gone, .gone, .gone, .gone, .gone, .gone, .gone, .gone, .gone, .gone, .gone, .gone, .gone, .gone, .gone, .gone, .gone, .gone, .gone, .gone, .gone, .gone, .gone, .gone, .gone, .gone, .gone, .gone, .gone, .gone, .gone, .vec [[bool true], [bool false], [bool false], [bool false], [bool false], [bool false]] 0 1, .gone, .gone, .gone, .gone, .gone, .gone, .gone, .gone, .gone, .gone, .gone, .gone, .gone, .gone, .gone, .gone, .gone, .gone, .vec [[int 0, int 0, int 6], [int 1, int 1, int 3]] 1 3, .gone, .gone, .gone, .gone, .gone, .gone, .gone, .gone, .gone, .var [.ref (.vec 141 1), int 1, .ref (.vec 122 0)], .gone, .gone, .gone, .gone, .gone, .gone, .gone, .gone, .gone, .gone, .gone, .gone, .gone, .gone, .gone, .gone, .gone, .gone, .gone, .gone, .vec [[bool true], [bool false]] 0 1, .gone, .gone, .gone, .gone, .gone, .gone, .gone, .var [nq, int 0, .ref (.vec 172 0)], .var [strD ⟨#[]⟩, int 1, int 1, int 0, int 0, int 1, .ref (.vec 183 0)], .vec [[int 7]] 0 1, .vec [[strD ⟨#[]⟩, int 6, int 0, bool true, nq, .ref (.vec 182 0)]] 0 6, .gone, .gone, .gone, .gone, .gone, .gone, .gone, .gone, .gone, .gone, .gone, .gone, .gone, .vec [[int 3, int 0, int 0, int 0, int 1]] 0 5, .var [nq, int 0, nq]], .ret (.tup [int 6, .ref (.vec 205 7), int 0]) [.gone, .vec [[int 7], [int 8]] 0 1, .vec [[int 8], [int 7]] 0 1, .vec [[strD ⟨#[97]⟩, int 6, int 1, bool false, nq, .ref (.vec 1 0)], [strD ⟨#[98]⟩, int 4, int 1, bool false, nq, .ref (.vec 2 0)]] 0 6, .gone, .vec [[int 7, int 0, int 5, int 0, int 6], [int 8, int 0, int 5, int 0, int 3]] 0 5, .var [strD ⟨#[]⟩, int 1, int 1, int 0, int 0, int 1, .ref (.vec 3 0)], .gone, .gone, .gone, .gone, .gone, .gone, .gone, .gone, .gone, .gone, .gone, .gone, .gone, .gone, .gone, .gone, .gone, .gone, .gone, .gone, .gone, .gone, .gone, .gone, .gone, .gone, .gone, .gone, .gone, .gone, .gone, .gone, .gone, .gone, .gone, .gone, .gone, .gone, .gone, .gone, .gone, .gone, .gone, .gone, .gone, .gone, .gone, .gone, .gone, .gone, .gone, .gone, .gone, .gone, .gone, .gone, .gone, .gone, .gone, .gone, .gone, .gone, .gone, .gone, .gone, .gone, .gone, .gone, .gone, .gone, .gone, .gone, .gone, .gone, .gone, .gone, .gone, .gone, .gone, .gone, .gone, .gone, .gone, .gone, .gone, .gone, .gone, .gone, .gone, .gone, .gone, .gone, .gone, .gone, .gone, .gone, .gone, .gone, .gone, .gone, .gone, .gone, .gone, .gone, .gone, .gone, .gone, .gone, .gone, .gone, .gone, .gone, .gone, .gone, .gone, .vec [[bool true], [bool false], [bool false], [bool false], [bool false], [bool false]] 0 1, .gone, .gone, .gone, .gone, .gone, .gone, .gone, .gone, .gone, .gone, .gone, .gone, .gone, .gone, .gone, .gone, .gone, .gone, .vec [[int 0, int 0, int 6], [int 1, int 1, int 3]] 1 3, .gone, .gone, .gone, .gone, .gone, .gone, .gone, .gone, .gone, .var [.ref (.vec 141 1), int 1, .ref (.vec 122 0)], .gone, .gone, .gone, .gone, .gone, .gone, .gone, .gone, .gone, .gone, .gone, .gone, .gone, .gone, .gone, .gone, .gone, .gone, .gone, .gone, .vec [[bool true], [bool false]] 0 1, .gone, .gone, .gone, .gone, .gone, .gone, .gone, .var [nq, int 0, .ref (.vec 172 0)], .var [strD ⟨#[]⟩, int 1, int 1, int 0, int 0, int 1, .ref (.vec 183 0)], .vec [[int 7]] 0 1, .vec [[strD ⟨#[]⟩, int 6, int 0, bool true, nq, .ref (.vec 182 0)]] 0 6, .gone, .gone, .gone, .gone, .gone, .gone, .gone, .gone, .gone, .gone, .gone, .gone, .gone, .vec [[int 3, int 0, int 0, int 0, int 1]] 0 5, .var [nq, int 0, nq], .gone, .gone, .gone, .gone, .gone, .gone, .vec [[int 0, int 1, int 6], [int 0, int 2, int 3], [int 1, int 3, int 6], [int 1, int 4, int 6], [int 2, int 3, int 3], [int 2, int 4, int 3], [int 3, int 5, int 6], [int 4, int 5, int 4]] 7 3, .gone, .gone, .gone, .gone, .gone, .gone, .gone, .gone, .gone, .gone]⟩
theorem s19m5_ok : s19m5.Ok Tryz.prog Γ0 := Memo.ok_of pok (ms := []) (by kernel_rfl) trivial
def s19m6 : Memo := ⟨22, [.agg [strD ⟨#[]⟩, int 1, int 1, int 0, int 0, int 1, .ref (.vec 3 0)], .ref (.vec 5 0), .ref (.vec 141 1)], [.gone, .vec [[int 7], [int 8]] 0 1, .vec [[int 8], [int 7]] 0 1, .vec [[strD ⟨#[97]⟩, int 6, int 1, bool false, nq, .ref (.vec 1 0)], [strD ⟨#[98]⟩, int 4, int 1, bool false, nq, .ref (.vec 2 0)]] 0 6, .gone, .vec [[int 7, int 0, int 5, int 0, int 6], [int 8, int 0, int 5, int 0, int 3]] 0 5, .var [strD ⟨#[]⟩, int 1, int 1, int 0, int 0, int 1, .ref (.vec 3 0)], .gone, .gone, .gone, .gone, .gone, .gone, .gone, .gone, .gone, .gone, .gone, .gone, .gone, .gone, .gone, .gone, .gone, .gone, .gone, .gone, .gone, .gone, .gone, .gone, .gone, .gone, .gone, .gone, .gone, .gone, .gone, .gone, .gone, .gone, .gone, .gone, .gone, .gone, .gone, .gone, .gone, .gone, .gone, .gone, .gone, .gone, .gone, .gone, .gone, .gone, .gone, .gone, .gone, .gone, .gone, .gone, .gone, .gone, .gone, .gone, .gone, .gone, .gone, .gone, .gone, .gone, .gone, .gone, .gone, .gone, .gone, .gone, .gone, .gone, .gone, .gone, .gone, .gone, .gone, .gone, .gone, .gone, .gone, .gone, .gone, .gone, .gone, .gone, .gone, .gone, .gone, .gone, .gone, .gone, .gone, .gone, .gone, .gone, .gone, .gone, .gone, .gone, .gone, .gone, .gone, .gone, .gone, .gone, .gone, .gone, .gone, .gone, .gone, .gone, .gone, .vec [[bool true], [bool false], [bool false], [bool false], [bool false], [bool false]] 0 1, .gone, .gone, .gone, .gone, .gone, .gone, .gone, .gone, .gone, .gone, .gone, .gone, .gone, .gone, .gone, .gone, .gone, .gone, .vec [[int 0, int 0, int 6], [int 1, int 1, int 3]] 1 3, .gone, .gone, .gone, .gone, .gone, .gone, .gone, .gone, .gone, .var [.ref (.vec 141 1), int 1, .ref (.vec 122 0)], .gone, .gone, .gone, .gone, .gone, .gone, .gone, .gone, .gone, .gone, .gone, .gone, .gone, .gone, .gone, .gone, .gone, .gone, .gone, .gone, .vec [[bool true], [bool false]] 0 1, .gone, .gone, .gone, .gone, .gone, .gone, .gone, .var [nq, int 0, .ref (.vec 172 0)], .var [strD ⟨#[]⟩, int 1, int 1, int 0, int 0, int 1, .ref (.vec 183 0)], .vec [[int 7]] 0 1, .vec [[strD ⟨#[]⟩, int 6, int 0, bool true, nq, .ref (.vec 182 0)]] 0 6, .gone, .gone, .gone, .gone, .gone, .gone, .gone, .gone, .gone, .gone, .gone, .gone, .gone, .vec [[int 3, int 0, int 0, int 0, int 1]] 0 5, .var [nq, int 0, nq], .gone, .gone, .gone, .gone, .gone, .gone, .vec [[int 0, int 1, int 6], [int 0, int 2, int 3], [int 1, int 3, int 6], [int 1, int 4, int 6], [int 2, int 3, int 3], [int 2, int 4, int 3], [int 3, int 5, int 6], [int 4, int 5, int 4]] 7 3, .gone, .gone, .gone, .gone, .gone, .gone, .gone, .gone, .gone, .gone], .ret (bool true) [.gone, .vec [[int 7], [int 8]] 0 1, .vec [[int 8], [int 7]] 0 1, .vec [[strD ⟨#[97]⟩, int 6, int 1, bool false, nq, .ref (.vec 1 0)], [strD ⟨#[98]⟩, int 4, int 1, bool false, nq, .ref (.vec 2 0)]] 0 6, .gone, .vec [[int 7, int 0, int 5, int 0, int 6], [int 8, int 0, int 5, int 0, int 3]] 0 5, .var [strD ⟨#[]⟩, int 1, int 1, int 0, int 0, int 1, .ref (.vec 3 0)], .gone, .gone, .gone, .gone, .gone, .gone, .gone, .gone, .gone, .gone, .gone, .gone, .gone, .gone, .gone, .gone, .gone, .gone, .gone, .gone, .gone, .gone, .gone, .gone, .gone, .gone, .gone, .gone, .gone, .gone, .gone, .gone, .gone, .gone, .gone, .gone, .gone, .gone, .gone, .gone, .gone, .gone, .gone, .gone, .gone, .gone, .gone, .gone, .gone, .gone, .gone, .gone, .gone, .gone, .gone, .gone, .gone, .gone, .gone, .gone, .gone, .gone, .gone, .gone, .gone, .gone, .gone, .gone, .gone, .gone, .gone, .gone, .gone, .gone, .gone, .gone, .gone, .gone, .gone, .gone, .gone, .gone, .gone, .gone, .gone, .gone, .gone, .gone, .gone, .gone, .gone, .gone, .gone, .gone, .gone, .gone, .gone, .gone, .gone, .gone, .gone, .gone, .gone, .gone, .gone, .gone, .gone, .gone, .gone, .gone, .gone, .gone, .gone, .gone, .gone, .vec [[bool true], [bool false], [bool false], [bool false], [bool false], [bool false]] 0 1, .gone, .gone, .gone, .gone, .gone, .gone, .gone, .gone, .gone, .gone, .gone, .gone, .gone, .gone, .gone, .gone, .gone, .gone, .vec [[int 0, int 0, int 6], [int 1, int 1, int 3]] 1 3, .gone, .gone, .gone, .gone, .gone, .gone, .gone, .gone, .gone, .var [.ref (.vec 141 1), int 1, .ref (.vec 122 0)], .gone, .gone, .gone, .gone, .gone, .gone, .gone, .gone, .gone, .gone, .gone, .gone, .gone, .gone, .gone, .gone, .gone, .gone, .gone, .gone, .vec [[bool true], [bool false]] 0 1, .gone, .gone, .gone, .gone, .gone, .gone, .gone, .var [nq, int 0, .ref (.vec 172 0)], .var [strD ⟨#[]⟩, int 1, int 1, int 0, int 0, int 1, .ref (.vec 183 0)], .vec [[int 7]] 0 1, .vec [[strD ⟨#[]⟩, int 6, int 0, bool true, nq, .ref (.vec 182 0)]] 0 6, .gone, .gone, .gone, .gone, .gone, .gone, .gone, .gone, .gone, .gone, .gone, .gone, .gone, .vec [[int 3, int 0, int 0, int 0, int 1]] 0 5, .var [nq, int 0, nq], .gone, .gone, .gone, .gone, .gone, .gone, .vec [[int 0, int 1, int 6], [int 0, int 2, int 3], [int 1, int 3, int 6], [int 1, int 4, int 6], [int 2, int 3, int 3], [int 2, int 4, int 3], [int 3, int 5, int 6], [int 4, int 5, int 4]] 7 3, .gone, .gone, .gone, .gone, .gone, .gone, .gone, .gone, .gone, .gone]⟩
theorem s19m6_ok : s19m6.Ok Tryz.prog Γ0 := Memo.ok_of pok (ms := []) (by kernel_rfl) trivial
def s19mR : Memo := ⟨9, [], [], .ret (bool true) []⟩
theorem s19mR_ok : s19mR.Ok Tryz.prog Γ0 := Memo.ok_of pok (ms := [s19m4, s19m5, s19m6]) (by kernel_rfl) ⟨s19m4_ok, s19m5_ok, s19m6_ok, trivial⟩
theorem sane19_ev (h : List Blk) : Ev Tryz.prog Γ0 9 [] h (bool true) h := Ev.frame0 rfl (Memo.call s19mR_ok rfl) h
end Go.Vi
open Go Go.Proofs
namespace Go.Vi
set_option maxRecDepth 100000
theorem degreeCheckSpec_ev {p : ProgT} (hp : p.ok) {a : AttT} (h : List Blk) : Ev Tryz.prog Γ0 3 [.agg p.l, ag a.row] h (bool true) h := by
 have hf := fun h => few0_ev (p := ⟨⟨#[]⟩, 0, 0, 0, 0, 0, p.reqs.take 6⟩) (by have := hp.sr; unfold Short at this ⊢; simp only [List.length_take]; omega) h
 generalize hb : fewB ⟨⟨#[]⟩, 0, 0, 0, 0, 0, p.reqs.take 6⟩ 0 = b at hf
 cases ho : (decide (((p.reqs.map ReqT.row).length : Int) > 100) || !b)
 ·have hr := ho
  simp only [Bool.or_eq_false_iff, decide_eq_false_iff_not, List.length_map] at hr
  have he := elF_fold (a := a) p.reqs ([], 0)
  simp only [List.length_nil] at he
  exact dc_in hp hp.nm hp.dn (by omega) (by unfold Short elR; omega) (by simp) sane19_ev hf ho h
 ·exact dc_out sane19_ev hf ho h
end Go.Vi
open Go Go.Proofs
namespace Go.Vi
open Go.ChangeShapes Go.WideShapes Go.ChangeAt Go.RowKit Go.Proofs.YthokmgafnhmlbaaGreatDoor
set_option maxRecDepth 100000
theorem cells3 : Tryz.prog.cellsOf 3 = 1 := by kernel_rfl
theorem cells4 : Tryz.prog.cellsOf 4 = 1 := by kernel_rfl
theorem cells9 : Tryz.prog.cellsOf 9 = 1 := by kernel_rfl
theorem cells23 : Tryz.prog.cellsOf 23 = 2 := by kernel_rfl
theorem cells24 : Tryz.prog.cellsOf 24 = 1 := by kernel_rfl
theorem cells26 : Tryz.prog.cellsOf 26 = 7 := by kernel_rfl
theorem cells28 : Tryz.prog.cellsOf 28 = 5 := by kernel_rfl
theorem cells34 : Tryz.prog.cellsOf 34 = 1 := by kernel_rfl
theorem cells57 : Tryz.prog.cellsOf 57 = 1 := by kernel_rfl
theorem cells59 : Tryz.prog.cellsOf 59 = 6 := by kernel_rfl
theorem bytes3 : Tryz.prog.bytesOf 3 = 8 := by kernel_rfl
theorem bytes59 : Tryz.prog.bytesOf 59 = 88 := by kernel_rfl
theorem plain26 : plainB Tryz.prog [3, 4, 9, 23, 24, 26, 28, 34, 37, 57, 59] = true := by kernel_rfl
theorem shp_int {n : Nat} {ds : List Dp} (h : Shp Tryz.prog n 3 ds) : ∃ x, ds = [vi x] ∧ I64 x := by
 cases n with
 | zero => exact h.elim
 | succ n =>
  simp only [Shp, Tryz.underlying3] at h
  obtain ⟨x, rfl, hw⟩ := h
  refine ⟨x, rfl, ?_⟩
  have := bounds_i64 hw
  exact this
theorem shp_str {n : Nat} {ds : List Dp} (h : Shp Tryz.prog n 9 ds) : ∃ s, ds = [vs s] := by
 cases n with
 | zero => exact h.elim
 | succ n =>
  simp only [Shp, Tryz.underlying9] at h
  obtain ⟨s, rfl, _⟩ := h
  exact ⟨s, rfl⟩
theorem shp_ratio {n : Nat} {ds : List Dp} (h : Shp Tryz.prog n 23 ds) : ∃ a b, ds = [vi a, vi b] ∧ I64 a ∧ I64 b := by
 cases n with
 | zero => exact h.elim
 | succ n =>
  simp only [Shp, Tryz.underlying23, List.forall_mem_cons, cells3, cells23] at h
  obtain ⟨hl, h1, h2, _⟩ := h
  obtain ⟨a, e1, ha⟩ := shp_int h1
  obtain ⟨b, e2, hb⟩ := shp_int h2
  match ds, hl with
  | [x, y], _ =>
   simp at e1 e2
   subst e1; subst e2
   exact ⟨a, b, rfl, ha, hb⟩
theorem map_of {α : Type} {row : α → List Dp} {ok : α → Prop} : ∀ {es : List (List Dp)}, (∀ r ∈ es, ∃ a, r = row a ∧ ok a) → ∃ l : List α, es = l.map row ∧ ∀ a ∈ l, ok a
 | [], _ => ⟨[], rfl, by simp⟩
 | r :: es, h => by
  obtain ⟨a, rfl, ha⟩ := h r (List.mem_cons_self ..)
  obtain ⟨l, rfl, hl⟩ := map_of (fun r hr => h r (List.mem_cons_of_mem _ hr))
  exact ⟨a :: l, rfl, fun b hb => (List.mem_cons.1 hb).elim (fun e => e ▸ ha) (hl b)⟩
theorem short_of {n k : Nat} (h : n * k ≤ reachBytes) (hk : 1 ≤ k) : n ≤ 140737488355328 := by
 have : n ≤ n * k := Nat.le_mul_of_pos_right n hk
 unfold reachBytes at h
 omega
theorem shp_bool {n : Nat} {ds : List Dp} (h : Shp Tryz.prog n 4 ds) : ∃ b, ds = [.v (.bool b)] := by
 cases n with
 | zero => exact h.elim
 | succ n =>
  simp only [Shp, Tryz.underlying4] at h
  obtain ⟨b, rfl⟩ := h
  exact ⟨b, rfl⟩
theorem shp_strs {n : Nat} {ds : List Dp} (h : Shp Tryz.prog n 57 ds) : ∃ l, ds = [.sl l] := by
 cases n with
 | zero => exact h.elim
 | succ n =>
  simp only [Shp, Tryz.underlying57] at h
  obtain ⟨es, rfl, _⟩ := h
  exact ⟨es, rfl⟩
theorem shp_ints {n : Nat} {ds : List Dp} (h : Shp Tryz.prog n 34 ds) : ∃ l : List Int, ds = [.sl (inR1 l)] ∧ Short l := by
 cases n with
 | zero => exact h.elim
 | succ n =>
  simp only [Shp, Tryz.underlying34, bytes3] at h
  obtain ⟨es, rfl, hb, he⟩ := h
  obtain ⟨l, rfl, _⟩ := map_of (row := fun n : Int => [vi n]) (ok := fun _ => True) (fun r hr => by obtain ⟨x, e, _⟩ := shp_int (he r hr); exact ⟨x, e, trivial⟩)
  exact ⟨l, rfl, by have := short_of hb (by omega); simpa [Short] using this⟩
theorem shp_req {n : Nat} {ds : List Dp} (h : Shp Tryz.prog n 59 ds) : ∃ q : ReqT, ds = q.row ∧ q.ok := by
 cases n with
 | zero => exact h.elim
 | succ n =>
  simp only [Shp, Tryz.underlying59, List.forall_mem_cons, cells3, cells4, cells9, cells34, cells57, cells59] at h
  obtain ⟨hl, h1, h2, h3, h4, h5, h6, _⟩ := h
  obtain ⟨s, e1⟩ := shp_str h1
  obtain ⟨a, e2, _⟩ := shp_int h2
  obtain ⟨b, e3, _⟩ := shp_int h3
  obtain ⟨c, e4⟩ := shp_bool h4
  obtain ⟨d, e5⟩ := shp_strs h5
  obtain ⟨f, e6, hf⟩ := shp_ints h6
  match ds, hl with
  | [p1, p2, p3, p4, p5, p6], _ =>
   simp at e1 e2 e3 e4 e5 e6
   subst e1; subst e2; subst e3; subst e4; subst e5; subst e6
   exact ⟨⟨s, a, b, c, d, f⟩, rfl, ⟨hf⟩⟩
theorem shp_prog {n : Nat} {ds : List Dp} (h : Shp Tryz.prog n 26 ds) : ∃ p : ProgT, ds.map .p = p.l ∧ p.ok := by
 cases n with
 | zero => exact h.elim
 | succ n =>
  rw [Shp, Tryz.underlying26] at h
  simp only [List.forall_mem_cons, cells3, cells9, cells23, cells24, cells26] at h
  obtain ⟨hl, h1, h2, h3, h4, h5, h6, _⟩ := h
  obtain ⟨s, e1⟩ := shp_str h1
  obtain ⟨a, e2, _⟩ := shp_int h2
  obtain ⟨b, e3, _⟩ := shp_int h3
  obtain ⟨c, e4, _⟩ := shp_int h4
  obtain ⟨x, y, e5, hx, hy⟩ := shp_ratio h5
  cases n with
  | zero => exact h6.elim
  | succ n =>
   simp only [Shp, Tryz.underlying24, bytes59] at h6
   obtain ⟨es, e6, hb, he⟩ := h6
   obtain ⟨l, rfl, hk⟩ := map_of (row := ReqT.row) (ok := ReqT.ok) (fun r hr => shp_req (he r hr))
   match ds, hl with
   | [p1, p2, p3, p4, p5, p6, p7], _ =>
    simp at e1 e2 e3 e4 e5 e6
    obtain ⟨rfl, rfl⟩ := e5
    subst e1; subst e2; subst e3; subst e4; subst e6
    exact ⟨⟨s, a, b, c, x, y, l⟩, rfl, ⟨by have := short_of hb (by omega); simpa [Short] using this, hk, hx, hy⟩⟩
theorem shp_att {n : Nat} {ds : List Dp} (h : Shp Tryz.prog n 28 ds) : ∃ a : AttT, ds = a.row ∧ True := by
 cases n with
 | zero => exact h.elim
 | succ n =>
  simp only [Shp, Tryz.underlying28, List.forall_mem_cons, cells3, cells28] at h
  obtain ⟨hl, h1, h2, h3, h4, h5, _⟩ := h
  obtain ⟨a, e1, _⟩ := shp_int h1
  obtain ⟨b, e2, _⟩ := shp_int h2
  obtain ⟨c, e3, _⟩ := shp_int h3
  obtain ⟨d, e4, _⟩ := shp_int h4
  obtain ⟨e, e5, _⟩ := shp_int h5
  match ds, hl with
  | [p, q, r, t, u], _ =>
   simp at e1 e2 e3 e4 e5
   subst e1; subst e2; subst e3; subst e4; subst e5
   exact ⟨⟨a, b, c, d, e⟩, rfl, trivial⟩
theorem arg_prog {H : Type} {enc : TypeId × Value → H} {W : World} {base : Nat} {v : Value} {d : DataW H} {p : List MemPlace}
  (hok : Value.okWide Tryz.prog W .any base 26 v) (h : DataW.Trod enc Tryz.prog W 0 (fun _ => true) true 26 v d p) (hw : (d.weights Tryz.prog 26).all (· ≤ reachBytes) = true) :
  ∃ r : ProgT, r.ok ∧ Rel W (avs (fun _ => False) (fun _ => none) []) (fun _ => none) [] (.agg r.l) v := by
 unfold Value.okWide at hok
 rw [Tryz.underlying26] at hok
 obtain ⟨cs, rfl, _, _⟩ := hok
 obtain ⟨fuel, hf⟩ := h
 obtain ⟨ds, h1, h2⟩ := open_plain plain26 av_start fuel 26 _ d p (by decide) hf hw
 obtain ⟨r, e, hr⟩ := shp_prog h1
 refine ⟨r, hr, ?_⟩
 rw [← e]
 simp only [Rel]
 exact ⟨cs, rfl, h2.relL⟩
theorem arg_att {H : Type} {enc : TypeId × Value → H} {W : World} {base : Nat} {v : Value} {d : DataW H} {p : List MemPlace}
  (hok : Value.okWide Tryz.prog W .any base 28 v) (h : DataW.Trod enc Tryz.prog W 0 (fun _ => true) true 28 v d p) (hw : (d.weights Tryz.prog 28).all (· ≤ reachBytes) = true) :
  ∃ a : AttT, Rel W (avs (fun _ => False) (fun _ => none) []) (fun _ => none) [] (ag a.row) v := by
 unfold Value.okWide at hok
 rw [Tryz.underlying28] at hok
 obtain ⟨cs, rfl, _, _⟩ := hok
 obtain ⟨fuel, hf⟩ := h
 obtain ⟨ds, h1, h2⟩ := open_plain plain26 av_start fuel 28 _ d p (by decide) hf hw
 obtain ⟨a, rfl, _⟩ := shp_att h1
 refine ⟨a, ?_⟩
 simp only [Rel]
 exact ⟨cs, rfl, h2.relL⟩
end Go.Vi
open Go Go.Proofs
namespace Go.Vi
open Go.ChangeShapes Go.WideShapes Go.ChangeAt Go.RowKit Go.Proofs.YthokmgafnhmlbaaGreatDoor
set_option maxRecDepth 100000
theorem ownK : ownKnob Tryz.prog.godebug = none := by kernel_rfl
theorem laidOut : laidOutB Tryz.prog = true := by kernel_rfl
def kd (a b c d : Bool) (f g : Value) : List Value := [.bool a, .bool b, .bool c, .bool d, f, g]
def kf (k : Nat) : Value := .func (.func k) #[] #[]
def kindsCells : List Value :=
 kd false false false false .nilFunc .nilFunc ++ kd false false false true (kf 212) (kf 213) ++ kd false false false true (kf 214) (kf 215) ++ kd false true false true (kf 216) (kf 217) ++
 kd false false false true (kf 218) (kf 219) ++ kd true true false false (kf 220) (kf 222) ++ kd true true false false (kf 224) (kf 225) ++ kd false true false false (kf 226) (kf 227) ++
 kd false true true false (kf 228) (kf 230) ++ kd true false false false (kf 221) (kf 231)
noncomputable def laidWorld (os : Os) : World :=
 { World.holding Tryz.prog os ⟨#[], #[], []⟩ with heap := (World.holding Tryz.prog os ⟨#[], #[], []⟩).heap.modify 0 fun
   | .cells _ t frozen => .cells kindsCells.toArray t frozen
   | o => o }
theorem laid_met (os : Os) (args : Array Value) : laidMetH Tryz.prog [("sizar/rules.kinds", Rows.laid_sizar_rules_kinds)] ((laidWorld os).forCall (fun _ _ => 0) ⟨#[], args, []⟩).memory :=
 laidMetH_of_parts3 (fuel := 8) (laidMet_nil _ _) (by kernel_rfl) (by kernel_rfl)
end Go.Vi
