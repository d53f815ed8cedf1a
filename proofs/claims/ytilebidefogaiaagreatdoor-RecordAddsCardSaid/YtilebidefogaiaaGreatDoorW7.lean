/- RecordAdds: part of the proof: contracts of the functions that the law reaches, and the law. No conditions beyond the given statement's own. -/
import Derived.Test.YtilebidefogaiaaGreatDoorW6
open Go Go.Proofs
namespace Go.Vi
set_option maxRecDepth 100000
set_option maxHeartbeats 4000000
abbrev rpH (w : WorldT) (st : Int) (a b : List (List Dp)) : List Blk := [.var w.l, .var [int st, ab a], .var [int st, ab b]]
abbrev rpS (w : WorldT) (st term : Int) (a b : List (List Dp)) (n i : Int) : AS := { t := mkT 101 0 [(2, int term), (10, bool false), (11, .ref (.ptr 1 0)), (14, .ref (.ptr 2 0)), (17, int n), (18, int i)], h := rpH w st a b, m := [] }
abbrev rpE (w : WorldT) (st term : Int) (a b : List (List Dp)) (n : Int) : AS := { t := mkT 101 0 [(2, int term), (10, bool false), (14, .ref (.ptr 2 0)), (17, int n)], h := rpH w st a b, m := [] }
theorem rp0_body {w : WorldT} {st term : Int} {a b : List (List Dp)} {x : AttT} {n : Int} {i : Nat} (hr : bw (i : Int) a x.row 5) (hlt : decide ((i : Int) < n) = true) (hx : decide (x.term ≥ term) = false) (hw : IntKind.i64.wrap ((i : Int) + 1) = ((i + 1 : Nat) : Int)) : (CW Tryz.prog Γk [] false (sub Tryz.f4 0) (rpS w st term a b n i) .normal (rpS w st term a b n ((i + 1 : Nat) : Int))) := by
 refine CW.cast (CW.symX (s' := { t := mkT 101 0 [(2, int term), (10, bool false), (11, .ref (.ptr 1 0)), (14, .ref (.ptr 2 0)), (17, int n), (18, int (IntKind.wrap IntKind.i64 ((↑i : Int) + 1)))], h := [.var [ab (List.map CourseT.row w.c), ab w.p, ab (List.map SysT.row w.s), ab (List.map FactT.row w.f)], .var [int st, ab a], .var [int st, ab b]], m := [] }) (e := Exit.normal) pok [.st (.mask [2, 10, 11, 14, 17, 18])] [.b true, .row (AttT.row x), .b false] (by kernel_rfl) (.c hlt (.c hr (.c hx .n)))) ?_ ?_ <;> (first | rfl | (simp only [hw]; rfl))
theorem rp0_last {w : WorldT} {st term : Int} {a b : List (List Dp)} {n : Int} {i : Nat} (hlt : decide ((i : Int) < n) = false) : (CW Tryz.prog Γk [] false (sub Tryz.f4 0) (rpS w st term a b n i) (.exit 0) (rpE w st term a b n)) := by
 exact CW.cast (CW.symX (s' := { t := mkT 101 0 [(2, int term), (10, bool false), (14, .ref (.ptr 2 0)), (17, int n)], h := [.var [ab (List.map CourseT.row w.c), ab w.p, ab (List.map SysT.row w.s), ab (List.map FactT.row w.f)], .var [int st, ab a], .var [int st, ab b]], m := [] }) (e := Exit.exit 0) pok [.st (.mask [2, 10, 14, 17])] [.b false] (by kernel_rfl) (.c hlt .n)) (by rfl) (by rfl)
theorem rp0_cw {w : WorldT} {st term : Int} {a : List AttT} {b : List (List Dp)} (hl : ao a) (hx : ∀ x ∈ a, x.term < term) :
  CW Tryz.prog Γk [] false (.loop (sub Tryz.f4 0)) (rpS w st term (a.map AttT.row) b (a.map AttT.row).length 0) (.exit 0) (rpE w st term (a.map AttT.row) b (a.map AttT.row).length) := by
 have := CW.each (P := Tryz.prog) (Γ := Γk) (h0 := []) (rd := false) (c := sub Tryz.f4 0) (σ := Unit) (ρ := Empty) a (fun _ _ => .inl ()) (fun i _ => rpS w st term (a.map AttT.row) b (a.map AttT.row).length (i : Int)) (.exit 0) (fun _ => rpE w st term (a.map AttT.row) b (a.map AttT.row).length) (fun r => r.elim) (fun _ _ => True) (by simp) (fun r => r.elim) ?_ ?_ () trivial
 ·rw [br] at this
  exact this
 ·intro i x u hp _
  have hi := (List.getElem?_eq_some_iff.1 hp).1
  exact ⟨fun _ _ => trivial, rp0_body (rowAt hp rfl) (lt_len AttT.row hi) (decide_eq_false (by have := hx x (List.mem_of_getElem? hp); omega)) (wrap_succ hi hl)⟩
 ·intro u _
  exact rp0_last (fa AttT.row a)
abbrev rqS (w : WorldT) (st term : Int) (a b : List (List Dp)) (i : Int) : AS := { t := mkT 101 0 [(2, int term), (10, bool false), (14, .ref (.ptr 2 0)), (19, int i)], h := rpH w st a b, m := [] }
theorem rq_body {w : WorldT} {st term : Int} {a b : List (List Dp)} {x : AttT} {i i' : Int} (hr : bw i b x.row 5) (hlt : decide (i < (b.length : Int)) = true) (hx : decide (x.term < term) = false) (hw : IntKind.i64.wrap (i + 1) = i') : (CW Tryz.prog Γk [] false (sub Tryz.f4 1) (rqS w st term a b i) .normal (rqS w st term a b i')) := by
 refine CW.cast (CW.symX (s' := { t := mkT 101 0 [(2, int term), (10, bool false), (14, .ref (.ptr 2 0)), (19, int (IntKind.wrap IntKind.i64 (i + 1)))], h := [.var [ab (List.map CourseT.row w.c), ab w.p, ab (List.map SysT.row w.s), ab (List.map FactT.row w.f)], .var [int st, ab a], .var [int st, ab b]], m := [] }) (e := Exit.normal) pok [.st (.mask [2, 10, 14, 19])] [.b true, .row (AttT.row x), .b false] (by kernel_rfl) (.c hlt (.c hr (.c hx .n)))) ?_ ?_ <;> (first | rfl | (simp only [hw]; rfl))
theorem rq_last {w : WorldT} {st term : Int} {a b : List (List Dp)} {i : Int} (hlt : decide (i < (b.length : Int)) = false) : (CW Tryz.prog Γk [] false (sub Tryz.f4 1) (rqS w st term a b i) (.exit 2) { t := mkT 101 0 [], h := rpH w st a b, m := [] }) := by
 exact CW.cast (CW.symX (s' := { t := mkT 101 0 [], h := [.var [ab (List.map CourseT.row w.c), ab w.p, ab (List.map SysT.row w.s), ab (List.map FactT.row w.f)], .var [int st, ab a], .var [int st, ab b]], m := [] }) (e := Exit.exit 2) pok [.st (.mask [])] [.b false] (by kernel_rfl) (.c hlt .n)) (by rfl) (by rfl)
theorem rq_cw {w : WorldT} {st term : Int} {a b : List AttT} {rs : List (List Dp)} (hb : ao (a ++ b)) (hx : ∀ x ∈ b, term ≤ x.term) :
  CW Tryz.prog Γk [] false (.loop (sub Tryz.f4 1)) (rqS w st term rs ((a ++ b).map AttT.row) (a.map AttT.row).length) (.exit 2) { t := mkT 101 0 [], h := rpH w st rs ((a ++ b).map AttT.row), m := [] } := by
 have hlen : ((a ++ b).map AttT.row).length = a.length + b.length := by simp
 have hs : (a ++ b).length < 4611686018427387904 := by have := hb; unfold ao at this; omega
 have := CW.each (P := Tryz.prog) (Γ := Γk) (h0 := []) (rd := false) (c := sub Tryz.f4 1) (σ := Unit) (ρ := Empty) b (fun _ _ => .inl ()) (fun i _ => rqS w st term rs ((a ++ b).map AttT.row) (((a.length + i : Nat)) : Int)) (.exit 2) (fun _ => { t := mkT 101 0 [], h := rpH w st rs ((a ++ b).map AttT.row), m := [] }) (fun r => r.elim) (fun _ _ => True) (by simp) (fun r => r.elim) ?_ ?_ () trivial
 ·rw [br] at this
  rw [List.length_map]
  exact this
 ·intro i x u hp _
  obtain ⟨hi, hxe⟩ := List.getElem?_eq_some_iff.1 hp
  have h2 : (a ++ b)[a.length + i]? = some x := by rw [List.getElem?_append_right (by omega)]; simpa using hp
  refine ⟨fun _ _ => trivial, rq_body (rowAt h2 rfl) (decide_eq_true (by rw [hlen]; omega)) (decide_eq_false (by have := hx x (List.mem_of_getElem? hp); omega)) ?_⟩
  rw [wrap_i64 (by omega) (by simp at hs; omega)]
  omega
 ·intro u _
  exact rq_last (decide_eq_false (by rw [hlen]; omega))
end Go.Vi
open Go Go.Proofs
namespace Go.Vi
set_option maxRecDepth 100000
set_option maxHeartbeats 4000000
noncomputable abbrev rp_out_x0 (w : WorldT) : List Blk := [.var [ab (List.map CourseT.row w.c), ab w.p, ab (List.map SysT.row w.s), ab (List.map FactT.row w.f)]]
theorem rp_out {w : WorldT} {st term later known : Int} (hsane : ∀ h, Ev Tryz.prog Γk 17 [] h (bool true) h) (ho : (!aG w || decide (later < term)) = true) (h : List Blk) : (Ev Tryz.prog Γk 4 [.agg w.l, int st, int term, int later, int known] h (bool true) h) := by
 exact Ev.castH (Ev.sym0 (d := bool true) pok [.val (bool true), .b false, .val (bool (aG w)), .b true] (by kernel_rfl) (.c (@hsane ((rp_out_x0 w))) (.c (show (!true) = false from rfl) (.c (Ev.glob0 (Γ' := Γk) (@bl (w) ((rp_out_x0 w)))) (.c ho .n)))) rfl rfl h) (by rfl) (by rfl)
noncomputable abbrev rp_err_x0 (w : WorldT) (ra : RecT) : List Blk := [.var [ab (List.map CourseT.row w.c), ab w.p, ab (List.map SysT.row w.s), ab (List.map FactT.row w.f)], .var [int ra.st, ab (List.map AttT.row ra.a)]]
noncomputable abbrev rp_err_x1 (w : WorldT) : List Blk := [.var [ab (List.map CourseT.row w.c), ab w.p, ab (List.map SysT.row w.s), ab (List.map FactT.row w.f)]]
theorem rp_err {w : WorldT} {st term later known : Int} {ra rb : RecT} {qa qb : List ReadT} {ea eb : Int} (hsane : ∀ h, Ev Tryz.prog Γk 17 [] h (bool true) h) (ho : (!aG w || decide (later < term)) = false) (he : (ea != 0 || eb != 0) = true)
 (h1 : ∀ h, Ev Tryz.prog Γk 23 [.agg w.l, int st, int term, int known] h (.tup [.agg ra.l, ab (rdR qa), int ea]) h) (h2 : ∀ h, Ev Tryz.prog Γk 23 [.agg w.l, int st, int later, int known] h (.tup [.agg rb.l, ab (rdR qb), int eb]) h) (h : List Blk) : (Ev Tryz.prog Γk 4 [.agg w.l, int st, int term, int later, int known] h (bool true) h) := by
 exact Ev.castH (Ev.sym0 (d := bool true) pok [.val (bool true), .b false, .val (bool (aG w)), .b false, .val (D.tup [D.agg [int ra.st, ab (List.map AttT.row ra.a)], ab (rdR qa), int ea]), .val (D.tup [D.agg [int rb.st, ab (List.map AttT.row rb.a)], ab (rdR qb), int eb]), .b true] (by kernel_rfl) (.c (@hsane ((rp_err_x1 w))) (.c (show (!true) = false from rfl) (.c (Ev.glob0 (Γ' := Γk) (@bl (w) ((rp_err_x1 w)))) (.c ho (.c (@h1 ((rp_err_x1 w))) (.c (@h2 ((rp_err_x0 w ra))) (.c he .n))))))) rfl rfl h) (by rfl) (by rfl)
noncomputable abbrev rp_ok_x0 (w : WorldT) (s2 : Int) (a : List AttT) (rest : List AttT) : List Blk := [.var [ab (List.map CourseT.row w.c), ab w.p, ab (List.map SysT.row w.s), ab (List.map FactT.row w.f)], .var [int s2, ab (List.map AttT.row a)], .var [int s2, ab (List.map AttT.row (a ++ rest))]]
noncomputable abbrev rp_ok_x1 (w : WorldT) (s2 : Int) (a : List AttT) : List Blk := [.var [ab (List.map CourseT.row w.c), ab w.p, ab (List.map SysT.row w.s), ab (List.map FactT.row w.f)], .var [int s2, ab (List.map AttT.row a)]]
noncomputable abbrev rp_ok_x2 (w : WorldT) : List Blk := [.var [ab (List.map CourseT.row w.c), ab w.p, ab (List.map SysT.row w.s), ab (List.map FactT.row w.f)]]
theorem rp_ok {w : WorldT} {st s2 term later known : Int} {a rest : List AttT} {qa qb : List ReadT} (hsane : ∀ h, Ev Tryz.prog Γk 17 [] h (bool true) h) (ho : (!aG w || decide (later < term)) = false) (hl : ao a) (hs : ao (a ++ rest)) (hx : ∀ x ∈ a, x.term < term) (hy : ∀ x ∈ rest, term ≤ x.term)
 (hsame : ∀ h, Ev Tryz.prog Γk 24 [ab (a.map AttT.row), ab (List.take (Int.toNat ((a.map AttT.row).length : Int) - Int.toNat 0) (List.drop (Int.toNat 0) ((a ++ rest).map AttT.row)))] h (bool true) h)
 (hlen : (decide ((((a ++ rest).map AttT.row).length : Int) < ((a.map AttT.row).length : Int)) || !true) = false)
 (h1 : ∀ h, Ev Tryz.prog Γk 23 [.agg w.l, int st, int term, int known] h (.tup [.agg [int s2, ab (a.map AttT.row)], ab (rdR qa), int 0]) h) (h2 : ∀ h, Ev Tryz.prog Γk 23 [.agg w.l, int st, int later, int known] h (.tup [.agg [int s2, ab ((a ++ rest).map AttT.row)], ab (rdR qb), int 0]) h) (h : List Blk) : (Ev Tryz.prog Γk 4 [.agg w.l, int st, int term, int later, int known] h (bool true) h) := by
 have hl0 := (@rp0_cw (w) (s2) (term) (a) (List.map AttT.row (a ++ rest)) (hl) (hx))
 have hl1 := (@rq_cw (w) (s2) (term) (a) (rest) (List.map AttT.row a) (hs) (hy))
 exact Ev.castH (Ev.sym0 (d := bool true) pok [.val (bool true), .b false, .val (bool (aG w)), .b false, .val (D.tup [D.agg [int s2, ab (List.map AttT.row a)], ab (rdR qa), int 0]), .val (D.tup [D.agg [int s2, ab (List.map AttT.row (a ++ rest))], ab (rdR qb), int 0]), .b false, .val (bool true), .b false, .sum [2, 10, 11, 14, 17, 18] (Exit.exit 0) { t := mkT 101 0 [(2, int term), (10, bool false), (14, .ref (.ptr 2 0)), (17, int (↑(List.length (List.map AttT.row a)) : Int))], h := (rp_ok_x0 w s2 a rest), m := [] }, .sum [2, 10, 14, 19] (Exit.exit 2) { t := mkT 101 0 [], h := (rp_ok_x0 w s2 a rest), m := [] }] (by kernel_rfl) (.c (@hsane ((rp_ok_x2 w))) (.c (show (!true) = false from rfl) (.c (Ev.glob0 (Γ' := Γk) (@bl (w) ((rp_ok_x2 w)))) (.c ho (.c (@h1 ((rp_ok_x2 w))) (.c (@h2 ((rp_ok_x1 w s2 a))) (.c (show (0 != 0 || 0 != 0) = false from rfl) (.c (show (!decide ((↑(List.length (List.map AttT.row (a ++ rest))) : Int) < (↑(List.length (List.map AttT.row a)) : Int))) = true → (slOk 0 (↑(List.length (List.map AttT.row a)) : Int) (List.length (List.map AttT.row (a ++ rest))) && true && (true || Option.isSome (Option.map (evalD Γk (List.map dT (D.agg (WorldT.l w) :: int st :: int term :: int later :: int known :: .ref (.ptr 0 0) :: D.any :: D.any :: D.any :: D.any :: bool false :: .ref (.ptr 1 0) :: ab (rdR qa) :: int 0 :: .ref (.ptr 2 0) :: ab (rdR qb) :: int 0 :: int (↑(List.length (List.map AttT.row a)) : Int) :: D.any :: D.any :: bool true :: (bool !true) :: D.agg (WorldT.l w) :: bool (aG w) :: (bool !aG w) :: (bool !aG w) :: D.grd (!!aG w) (int later) :: D.grd (!!aG w) (int term) :: D.grd (!!aG w) (bool (decide (later < term))) :: bool (!aG w || decide (later < term)) :: D.tup [D.agg [int s2, ab (List.map AttT.row a)], ab (rdR qa), int 0] :: D.agg (WorldT.l w) :: int st :: int term :: int known :: mkT 66 0 [(0, D.tup [D.agg [int s2, ab (List.map AttT.row a)], ab (rdR qa), int 0]), (1, D.agg [int s2, ab (List.map AttT.row a)]), (2, ab (rdR qa)), (3, int 0), (4, D.tup [D.agg [int s2, ab (List.map AttT.row (a ++ rest))], ab (rdR qb), int 0]), (5, D.agg (WorldT.l w)), (6, int st), (7, int later), (8, int known), (9, D.tup [D.agg [int s2, ab (List.map AttT.row (a ++ rest))], ab (rdR qb), int 0]), (10, D.agg [int s2, ab (List.map AttT.row (a ++ rest))]), (11, ab (rdR qb)), (12, int 0), (13, int 0), (14, bool (0 != 0)), (15, bool (0 != 0)), (16, D.grd (!0 != 0) (int 0)), (17, D.grd (!0 != 0) (bool (0 != 0))), (18, bool (0 != 0 || 0 != 0)), (19, .ref (.ptr 1 1)), (20, ab (List.map AttT.row a)), (21, int (↑(List.length (List.map AttT.row a)) : Int)), (22, .ref (.ptr 2 1)), (23, ab (List.map AttT.row (a ++ rest))), (24, int (↑(List.length (List.map AttT.row (a ++ rest))) : Int)), (25, int (↑(List.length (List.map AttT.row a)) : Int)), (26, bool (decide ((↑(List.length (List.map AttT.row (a ++ rest))) : Int) < (↑(List.length (List.map AttT.row a)) : Int)))), (27, bool (decide ((↑(List.length (List.map AttT.row (a ++ rest))) : Int) < (↑(List.length (List.map AttT.row a)) : Int)))), (28, D.grd (!decide ((↑(List.length (List.map AttT.row (a ++ rest))) : Int) < (↑(List.length (List.map AttT.row a)) : Int))) (.ref (.ptr 1 1))), (29, D.grd (!decide ((↑(List.length (List.map AttT.row (a ++ rest))) : Int) < (↑(List.length (List.map AttT.row a)) : Int))) (ab (List.map AttT.row a))), (30, D.grd (!decide ((↑(List.length (List.map AttT.row (a ++ rest))) : Int) < (↑(List.length (List.map AttT.row a)) : Int))) (.ref (.ptr 2 1))), (31, D.grd (!decide ((↑(List.length (List.map AttT.row (a ++ rest))) : Int) < (↑(List.length (List.map AttT.row a)) : Int))) (ab (List.map AttT.row (a ++ rest)))), (32, D.grd (!decide ((↑(List.length (List.map AttT.row (a ++ rest))) : Int) < (↑(List.length (List.map AttT.row a)) : Int))) (int (↑(List.length (List.map AttT.row a)) : Int)))]))) (some (Operand.tmp 67)))) && List.all (List.map AttT.row (a ++ rest)) fun r => decide (List.length r = 5)) = true from (fun hg => (by first | assumption | rfl | (simp_all; done) | (simp [slOk, AttT.row]; done) | (simp [slOk, AttT.row]; omega)))) (.c (show (!decide ((↑(List.length (List.map AttT.row (a ++ rest))) : Int) < (↑(List.length (List.map AttT.row a)) : Int))) = true → Ev Tryz.prog Γk 24 [ab (List.map AttT.row a), ab (List.take (Int.toNat (↑(List.length (List.map AttT.row a)) : Int) - Int.toNat 0) (List.drop (Int.toNat 0) (List.map AttT.row (a ++ rest))))] (rp_ok_x0 w s2 a rest) (bool true) (rp_ok_x0 w s2 a rest) from (fun hg => (@hsame ((rp_ok_x0 w s2 a rest))))) (.c hlen (.c hl0 (.c hl1 .n)))))))))))) rfl rfl h) (by rfl) (by rfl)
end Go.Vi
open Go Go.Proofs
namespace Go.Vi
set_option maxRecDepth 1000000
set_option maxHeartbeats 0
def s16w0 : Memo := ⟨60, [.ref (.ptr 76 0), int 3, int 3], [.gone, .gone, .gone, .gone, .gone, .gone, .gone, .gone, .vec [[int 12, int 0, int 0, int 0, int 1]] 0 5, .var [int 3, nq], .var [int 0, nq], .var [nq, int 0, int 0, int 0], .vec [[int 7], [int 7]] 0 1, .var [nq, int 0, int 0, int 0], .gone, .gone, .gone, .gone, .gone, .gone, .gone, .gone, .gone, .vec [[int 12, int 0, int 0, int 0, int 1], [int 12, int 0, int 0, int 0, int 1]] 1 5, .gone, .gone, .gone, .gone, .var [nq, int 0, int 0, int 1], .var [int 5, int 3, int 7, int (-1), int 5, int 6, int 8, int 0], .var [int 5, int 3, int 7, int 25, int 2, int 3, int 9, int 0], .vec [[ai ⟨#[65]⟩, int 7, int 4, int 0, int 1, int 0, ai ⟨#[]⟩, int 0, int 0, nq, int 2, int 0, ai ⟨#[]⟩, int 0, int 0, nq]] 0 16, .var [.ref (.vec 31 0), nq, nq, .ref (.vec 34 0)], .var [int 0, int 1024], .vec [[int 1, int 7, int 0, int 0, int 0, int 1024, int 8, int 0], [int 12, int 0, int 0, int 1, int 0, int 1024, int 8, int 1], [int 5, int 3, int 7, int 25, int 2, int 3, int 9, int 0]] 0 8, .gone, .gone, .gone, .gone, .gone, .gone, .gone, .gone, .gone, .gone, .gone, .gone, .vec [[int 12, int 0, int 0, int 0, int 1], [int 5, int 3, int 7, int 0, int 3], [int 1, int 7, int 0, int 2, int 3]] 2 5, .gone, .gone, .gone, .gone, .gone, .gone, .gone, .gone, .vec [[int 7, int 2, int 9, int 1, int 4]] 0 5, .var [int 3, .ref (.vec 56 0)], .gone, .gone, .gone, .gone, .gone, .gone, .gone, .gone, .gone, .gone, .gone, .gone, .vec [[int 12, int 0, int 0, int 0, int 1], [int 5, int 3, int 7, int 0, int 2]] 1 5, .var [int 3, nq], .vec [[int 7]] 0 1, .var [.ref (.vec 31 0), nq, nq, .ref (.vec 34 0)], .var [nq, int 0, int 0, int 0], .map [(int 7, .agg [int 7, int 0, int (-1), bool true], 0)] 1, .var [nq, .ref (.vec 31 0), nq, nq, .ref (.vec 34 0), int 9]], .ret (.agg [int 3, .ref (.vec 95 0)]) [.gone, .gone, .gone, .gone, .gone, .gone, .gone, .gone, .vec [[int 12, int 0, int 0, int 0, int 1]] 0 5, .var [int 3, nq], .var [int 0, nq], .var [nq, int 0, int 0, int 0], .vec [[int 7], [int 7]] 0 1, .var [nq, int 0, int 0, int 0], .gone, .gone, .gone, .gone, .gone, .gone, .gone, .gone, .gone, .vec [[int 12, int 0, int 0, int 0, int 1], [int 12, int 0, int 0, int 0, int 1]] 1 5, .gone, .gone, .gone, .gone, .var [nq, int 0, int 0, int 1], .var [int 5, int 3, int 7, int (-1), int 5, int 6, int 8, int 0], .var [int 5, int 3, int 7, int 25, int 2, int 3, int 9, int 0], .vec [[ai ⟨#[65]⟩, int 7, int 4, int 0, int 1, int 0, ai ⟨#[]⟩, int 0, int 0, nq, int 2, int 0, ai ⟨#[]⟩, int 0, int 0, nq]] 0 16, .var [.ref (.vec 31 0), nq, nq, .ref (.vec 34 0)], .var [int 0, int 1024], .vec [[int 1, int 7, int 0, int 0, int 0, int 1024, int 8, int 0], [int 12, int 0, int 0, int 1, int 0, int 1024, int 8, int 1], [int 5, int 3, int 7, int 25, int 2, int 3, int 9, int 0]] 0 8, .gone, .gone, .gone, .gone, .gone, .gone, .gone, .gone, .gone, .gone, .gone, .gone, .vec [[int 12, int 0, int 0, int 0, int 1], [int 5, int 3, int 7, int 0, int 3], [int 1, int 7, int 0, int 2, int 3]] 2 5, .gone, .gone, .gone, .gone, .gone, .gone, .gone, .gone, .vec [[int 7, int 2, int 9, int 1, int 4]] 0 5, .var [int 3, .ref (.vec 56 0)], .gone, .gone, .gone, .gone, .gone, .gone, .gone, .gone, .gone, .gone, .gone, .gone, .vec [[int 12, int 0, int 0, int 0, int 1], [int 5, int 3, int 7, int 0, int 2]] 1 5, .var [int 3, nq], .vec [[int 7]] 0 1, .var [.ref (.vec 31 0), nq, nq, .ref (.vec 34 0)], .var [nq, int 0, int 0, int 0], .map [(int 7, .agg [int 7, int 0, int (-1), bool true], 0)] 1, .var [.ref (.vec 86 2), .ref (.vec 31 0), nq, nq, .ref (.vec 34 0), int 9], .gone, .gone, .gone, .gone, .gone, .gone, .gone, .gone, .gone, .vec [[int 12, int 0, int 0, int 0, int 1], [int 5, int 3, int 7, int 0, int 3], [int 1, int 7, int 0, int 2, int 3]] 2 5, .gone, .gone, .gone, .gone, .gone, .gone, .gone, .gone, .vec [[int 7, int 2, int 9, int 1, int 4]] 0 5]⟩
theorem s16w0_ok : s16w0.Ok Tryz.prog Γk := Memo.okW_of pok wv_ok (ms := []) (by kernel_rfl) trivial
def s16w1 : Memo := ⟨61, [.ref (.ptr 76 0), .ref (.vec 95 0), int 3], [.gone, .gone, .gone, .gone, .gone, .gone, .gone, .gone, .vec [[int 12, int 0, int 0, int 0, int 1]] 0 5, .var [int 3, nq], .var [int 0, nq], .var [nq, int 0, int 0, int 0], .vec [[int 7], [int 7]] 0 1, .var [nq, int 0, int 0, int 0], .gone, .gone, .gone, .gone, .gone, .gone, .gone, .gone, .gone, .vec [[int 12, int 0, int 0, int 0, int 1], [int 12, int 0, int 0, int 0, int 1]] 1 5, .gone, .gone, .gone, .gone, .var [nq, int 0, int 0, int 1], .var [int 5, int 3, int 7, int (-1), int 5, int 6, int 8, int 0], .var [int 5, int 3, int 7, int 25, int 2, int 3, int 9, int 0], .vec [[ai ⟨#[65]⟩, int 7, int 4, int 0, int 1, int 0, ai ⟨#[]⟩, int 0, int 0, nq, int 2, int 0, ai ⟨#[]⟩, int 0, int 0, nq]] 0 16, .var [.ref (.vec 31 0), nq, nq, .ref (.vec 34 0)], .var [int 0, int 1024], .vec [[int 1, int 7, int 0, int 0, int 0, int 1024, int 8, int 0], [int 12, int 0, int 0, int 1, int 0, int 1024, int 8, int 1], [int 5, int 3, int 7, int 25, int 2, int 3, int 9, int 0]] 0 8, .gone, .gone, .gone, .gone, .gone, .gone, .gone, .gone, .gone, .gone, .gone, .gone, .vec [[int 12, int 0, int 0, int 0, int 1], [int 5, int 3, int 7, int 0, int 3], [int 1, int 7, int 0, int 2, int 3]] 2 5, .gone, .gone, .gone, .gone, .gone, .gone, .gone, .gone, .vec [[int 7, int 2, int 9, int 1, int 4]] 0 5, .var [int 3, .ref (.vec 56 0)], .gone, .gone, .gone, .gone, .gone, .gone, .gone, .gone, .gone, .gone, .gone, .gone, .vec [[int 12, int 0, int 0, int 0, int 1], [int 5, int 3, int 7, int 0, int 2]] 1 5, .var [int 3, nq], .vec [[int 7]] 0 1, .var [.ref (.vec 31 0), nq, nq, .ref (.vec 34 0)], .var [nq, int 0, int 0, int 0], .map [(int 7, .agg [int 7, int 0, int (-1), bool true], 0)] 1, .var [.ref (.vec 86 2), .ref (.vec 31 0), nq, nq, .ref (.vec 34 0), int 9], .gone, .gone, .gone, .gone, .gone, .gone, .gone, .gone, .gone, .vec [[int 12, int 0, int 0, int 0, int 1], [int 5, int 3, int 7, int 0, int 3], [int 1, int 7, int 0, int 2, int 3]] 2 5, .gone, .gone, .gone, .gone, .gone, .gone, .gone, .gone, .vec [[int 7, int 2, int 9, int 1, int 4]] 0 5, .var [int 3, .ref (.vec 95 0)]], .ret (.tup [.ref (.vec 105 0), int 0]) [.gone, .gone, .gone, .gone, .gone, .gone, .gone, .gone, .vec [[int 12, int 0, int 0, int 0, int 1]] 0 5, .var [int 3, nq], .var [int 0, nq], .var [nq, int 0, int 0, int 0], .vec [[int 7], [int 7]] 0 1, .var [nq, int 0, int 0, int 0], .gone, .gone, .gone, .gone, .gone, .gone, .gone, .gone, .gone, .vec [[int 12, int 0, int 0, int 0, int 1], [int 12, int 0, int 0, int 0, int 1]] 1 5, .gone, .gone, .gone, .gone, .var [nq, int 0, int 0, int 1], .var [int 5, int 3, int 7, int (-1), int 5, int 6, int 8, int 0], .var [int 5, int 3, int 7, int 25, int 2, int 3, int 9, int 0], .vec [[ai ⟨#[65]⟩, int 7, int 4, int 0, int 1, int 0, ai ⟨#[]⟩, int 0, int 0, nq, int 2, int 0, ai ⟨#[]⟩, int 0, int 0, nq]] 0 16, .var [.ref (.vec 31 0), nq, nq, .ref (.vec 34 0)], .var [int 0, int 1024], .vec [[int 1, int 7, int 0, int 0, int 0, int 1024, int 8, int 0], [int 12, int 0, int 0, int 1, int 0, int 1024, int 8, int 1], [int 5, int 3, int 7, int 25, int 2, int 3, int 9, int 0]] 0 8, .gone, .gone, .gone, .gone, .gone, .gone, .gone, .gone, .gone, .gone, .gone, .gone, .vec [[int 12, int 0, int 0, int 0, int 1], [int 5, int 3, int 7, int 0, int 3], [int 1, int 7, int 0, int 2, int 3]] 2 5, .gone, .gone, .gone, .gone, .gone, .gone, .gone, .gone, .vec [[int 7, int 2, int 9, int 1, int 4]] 0 5, .var [int 3, .ref (.vec 56 0)], .gone, .gone, .gone, .gone, .gone, .gone, .gone, .gone, .gone, .gone, .gone, .gone, .vec [[int 12, int 0, int 0, int 0, int 1], [int 5, int 3, int 7, int 0, int 2]] 1 5, .var [int 3, nq], .vec [[int 7]] 0 1, .var [.ref (.vec 31 0), nq, nq, .ref (.vec 34 0)], .var [nq, int 0, int 0, int 0], .map [(int 7, .agg [int 7, int 0, int (-1), bool true], 0)] 1, .var [.ref (.vec 86 3), .ref (.vec 31 0), nq, nq, .ref (.vec 34 0), int 9], .gone, .gone, .gone, .gone, .gone, .gone, .gone, .gone, .gone, .vec [[int 12, int 0, int 0, int 0, int 1], [int 5, int 3, int 7, int 0, int 3], [int 1, int 7, int 0, int 2, int 3], [int 1, int 7, int 0, int 3, int 4]] 3 5, .gone, .gone, .gone, .gone, .gone, .gone, .gone, .gone, .vec [[int 7, int 2, int 9, int 1, int 4]] 0 5, .var [int 3, .ref (.vec 95 0)], .gone, .gone, .gone, .gone, .gone, .gone, .gone, .gone, .vec [[int 7, int 2, int 9, int 1, int 4]] 0 5]⟩
theorem s16w1_ok : s16w1.Ok Tryz.prog Γk := Memo.okW_of pok wv_ok (ms := []) (by kernel_rfl) trivial
def s16w2 : Memo := ⟨23, [.agg [.ref (.vec 31 0), nq, nq, .ref (.vec 34 0)], int 3, int 3, int 9], [.gone, .gone, .gone, .gone, .gone, .gone, .gone, .gone, .vec [[int 12, int 0, int 0, int 0, int 1]] 0 5, .var [int 3, nq], .var [int 0, nq], .var [nq, int 0, int 0, int 0], .vec [[int 7], [int 7]] 0 1, .var [nq, int 0, int 0, int 0], .gone, .gone, .gone, .gone, .gone, .gone, .gone, .gone, .gone, .vec [[int 12, int 0, int 0, int 0, int 1], [int 12, int 0, int 0, int 0, int 1]] 1 5, .gone, .gone, .gone, .gone, .var [nq, int 0, int 0, int 1], .var [int 5, int 3, int 7, int (-1), int 5, int 6, int 8, int 0], .var [int 5, int 3, int 7, int 25, int 2, int 3, int 9, int 0], .vec [[ai ⟨#[65]⟩, int 7, int 4, int 0, int 1, int 0, ai ⟨#[]⟩, int 0, int 0, nq, int 2, int 0, ai ⟨#[]⟩, int 0, int 0, nq]] 0 16, .var [.ref (.vec 31 0), nq, nq, .ref (.vec 34 0)], .var [int 0, int 1024], .vec [[int 1, int 7, int 0, int 0, int 0, int 1024, int 8, int 0], [int 12, int 0, int 0, int 1, int 0, int 1024, int 8, int 1], [int 5, int 3, int 7, int 25, int 2, int 3, int 9, int 0]] 0 8], .ret (.tup [.agg [int 3, .ref (.vec 56 0)], .ref (.vec 47 2), int 0]) [.gone, .gone, .gone, .gone, .gone, .gone, .gone, .gone, .vec [[int 12, int 0, int 0, int 0, int 1]] 0 5, .var [int 3, nq], .var [int 0, nq], .var [nq, int 0, int 0, int 0], .vec [[int 7], [int 7]] 0 1, .var [nq, int 0, int 0, int 0], .gone, .gone, .gone, .gone, .gone, .gone, .gone, .gone, .gone, .vec [[int 12, int 0, int 0, int 0, int 1], [int 12, int 0, int 0, int 0, int 1]] 1 5, .gone, .gone, .gone, .gone, .var [nq, int 0, int 0, int 1], .var [int 5, int 3, int 7, int (-1), int 5, int 6, int 8, int 0], .var [int 5, int 3, int 7, int 25, int 2, int 3, int 9, int 0], .vec [[ai ⟨#[65]⟩, int 7, int 4, int 0, int 1, int 0, ai ⟨#[]⟩, int 0, int 0, nq, int 2, int 0, ai ⟨#[]⟩, int 0, int 0, nq]] 0 16, .var [.ref (.vec 31 0), nq, nq, .ref (.vec 34 0)], .var [int 0, int 1024], .vec [[int 1, int 7, int 0, int 0, int 0, int 1024, int 8, int 0], [int 12, int 0, int 0, int 1, int 0, int 1024, int 8, int 1], [int 5, int 3, int 7, int 25, int 2, int 3, int 9, int 0]] 0 8, .gone, .gone, .gone, .gone, .gone, .gone, .gone, .gone, .gone, .gone, .gone, .gone, .vec [[int 12, int 0, int 0, int 0, int 1], [int 5, int 3, int 7, int 0, int 3], [int 1, int 7, int 0, int 2, int 3]] 2 5, .gone, .gone, .gone, .gone, .gone, .gone, .gone, .gone, .vec [[int 7, int 2, int 9, int 1, int 4]] 0 5]⟩
theorem s16w2_ok : s16w2.Ok Tryz.prog Γk := Memo.okW_of pok wv_ok (ms := []) (by kernel_rfl) trivial
def s16w3 : Memo := ⟨19, [.agg [.ref (.vec 31 0), nq, nq, .ref (.vec 34 0)], int 3, int 3, int 9, .ref (.vec 72 0)], [.gone, .gone, .gone, .gone, .gone, .gone, .gone, .gone, .vec [[int 12, int 0, int 0, int 0, int 1]] 0 5, .var [int 3, nq], .var [int 0, nq], .var [nq, int 0, int 0, int 0], .vec [[int 7], [int 7]] 0 1, .var [nq, int 0, int 0, int 0], .gone, .gone, .gone, .gone, .gone, .gone, .gone, .gone, .gone, .vec [[int 12, int 0, int 0, int 0, int 1], [int 12, int 0, int 0, int 0, int 1]] 1 5, .gone, .gone, .gone, .gone, .var [nq, int 0, int 0, int 1], .var [int 5, int 3, int 7, int (-1), int 5, int 6, int 8, int 0], .var [int 5, int 3, int 7, int 25, int 2, int 3, int 9, int 0], .vec [[ai ⟨#[65]⟩, int 7, int 4, int 0, int 1, int 0, ai ⟨#[]⟩, int 0, int 0, nq, int 2, int 0, ai ⟨#[]⟩, int 0, int 0, nq]] 0 16, .var [.ref (.vec 31 0), nq, nq, .ref (.vec 34 0)], .var [int 0, int 1024], .vec [[int 1, int 7, int 0, int 0, int 0, int 1024, int 8, int 0], [int 12, int 0, int 0, int 1, int 0, int 1024, int 8, int 1], [int 5, int 3, int 7, int 25, int 2, int 3, int 9, int 0]] 0 8, .gone, .gone, .gone, .gone, .gone, .gone, .gone, .gone, .gone, .gone, .gone, .gone, .vec [[int 12, int 0, int 0, int 0, int 1], [int 5, int 3, int 7, int 0, int 3], [int 1, int 7, int 0, int 2, int 3]] 2 5, .gone, .gone, .gone, .gone, .gone, .gone, .gone, .gone, .vec [[int 7, int 2, int 9, int 1, int 4]] 0 5, .var [int 3, .ref (.vec 56 0)], .gone, .gone, .gone, .gone, .gone, .gone, .gone, .gone, .gone, .gone, .gone, .gone, .vec [[int 12, int 0, int 0, int 0, int 1], [int 5, int 3, int 7, int 0, int 2]] 1 5, .var [int 3, nq], .vec [[int 7]] 0 1], .ret (.tup [.agg [.ref (.vec 132 0), int 4, int 9, int 1], .ref (.vec 86 5), int 0]) [.gone, .gone, .gone, .gone, .gone, .gone, .gone, .gone, .vec [[int 12, int 0, int 0, int 0, int 1]] 0 5, .var [int 3, nq], .var [int 0, nq], .var [nq, int 0, int 0, int 0], .vec [[int 7], [int 7]] 0 1, .var [nq, int 0, int 0, int 0], .gone, .gone, .gone, .gone, .gone, .gone, .gone, .gone, .gone, .vec [[int 12, int 0, int 0, int 0, int 1], [int 12, int 0, int 0, int 0, int 1]] 1 5, .gone, .gone, .gone, .gone, .var [nq, int 0, int 0, int 1], .var [int 5, int 3, int 7, int (-1), int 5, int 6, int 8, int 0], .var [int 5, int 3, int 7, int 25, int 2, int 3, int 9, int 0], .vec [[ai ⟨#[65]⟩, int 7, int 4, int 0, int 1, int 0, ai ⟨#[]⟩, int 0, int 0, nq, int 2, int 0, ai ⟨#[]⟩, int 0, int 0, nq]] 0 16, .var [.ref (.vec 31 0), nq, nq, .ref (.vec 34 0)], .var [int 0, int 1024], .vec [[int 1, int 7, int 0, int 0, int 0, int 1024, int 8, int 0], [int 12, int 0, int 0, int 1, int 0, int 1024, int 8, int 1], [int 5, int 3, int 7, int 25, int 2, int 3, int 9, int 0]] 0 8, .gone, .gone, .gone, .gone, .gone, .gone, .gone, .gone, .gone, .gone, .gone, .gone, .vec [[int 12, int 0, int 0, int 0, int 1], [int 5, int 3, int 7, int 0, int 3], [int 1, int 7, int 0, int 2, int 3]] 2 5, .gone, .gone, .gone, .gone, .gone, .gone, .gone, .gone, .vec [[int 7, int 2, int 9, int 1, int 4]] 0 5, .var [int 3, .ref (.vec 56 0)], .gone, .gone, .gone, .gone, .gone, .gone, .gone, .gone, .gone, .gone, .gone, .gone, .vec [[int 12, int 0, int 0, int 0, int 1], [int 5, int 3, int 7, int 0, int 2]] 1 5, .var [int 3, nq], .vec [[int 7]] 0 1, .gone, .gone, .gone, .gone, .gone, .gone, .gone, .gone, .gone, .gone, .gone, .gone, .gone, .vec [[int 12, int 0, int 0, int 0, int 1], [int 5, int 3, int 7, int 0, int 3], [int 1, int 7, int 0, int 2, int 3], [int 1, int 7, int 0, int 3, int 4], [int 12, int 0, int 0, int 0, int 1], [int 12, int 0, int 0, int 0, int 1]] 5 5, .gone, .gone, .gone, .gone, .gone, .gone, .gone, .gone, .gone, .gone, .gone, .gone, .gone, .gone, .gone, .gone, .gone, .gone, .gone, .gone, .gone, .gone, .gone, .gone, .gone, .gone, .gone, .gone, .gone, .gone, .gone, .gone, .gone, .gone, .gone, .gone, .gone, .gone, .gone, .gone, .gone, .gone, .gone, .gone, .gone, .vec [[int 7, int 1, int 9, bool true]] 0 4]⟩
theorem s16w3_ok : s16w3.Ok Tryz.prog Γk := Memo.okW_of pok wv_ok (ms := [s16w0, s16w1]) (by kernel_rfl) ⟨s16w0_ok, s16w1_ok, trivial⟩
def s16w4 : Memo := ⟨23, [.agg [.ref (.vec 31 0), nq, nq, .ref (.vec 34 0)], int 3, int 2, int 9], [.gone, .gone, .gone, .gone, .gone, .gone, .gone, .gone, .vec [[int 12, int 0, int 0, int 0, int 1]] 0 5, .var [int 3, nq], .var [int 0, nq], .var [nq, int 0, int 0, int 0], .vec [[int 7], [int 7]] 0 1, .var [nq, int 0, int 0, int 0], .gone, .gone, .gone, .gone, .gone, .gone, .gone, .gone, .gone, .vec [[int 12, int 0, int 0, int 0, int 1], [int 12, int 0, int 0, int 0, int 1]] 1 5, .gone, .gone, .gone, .gone, .var [nq, int 0, int 0, int 1], .var [int 5, int 3, int 7, int (-1), int 5, int 6, int 8, int 0], .var [int 5, int 3, int 7, int 25, int 2, int 3, int 9, int 0], .vec [[ai ⟨#[65]⟩, int 7, int 4, int 0, int 1, int 0, ai ⟨#[]⟩, int 0, int 0, nq, int 2, int 0, ai ⟨#[]⟩, int 0, int 0, nq]] 0 16, .var [.ref (.vec 31 0), nq, nq, .ref (.vec 34 0)], .var [int 0, int 1024], .vec [[int 1, int 7, int 0, int 0, int 0, int 1024, int 8, int 0], [int 12, int 0, int 0, int 1, int 0, int 1024, int 8, int 1], [int 5, int 3, int 7, int 25, int 2, int 3, int 9, int 0]] 0 8, .gone, .gone, .gone, .gone, .gone, .gone, .gone, .gone, .gone, .gone, .gone, .gone, .vec [[int 12, int 0, int 0, int 0, int 1], [int 5, int 3, int 7, int 0, int 3], [int 1, int 7, int 0, int 2, int 3]] 2 5, .gone, .gone, .gone, .gone, .gone, .gone, .gone, .gone, .vec [[int 7, int 2, int 9, int 1, int 4]] 0 5, .var [int 3, .ref (.vec 56 0)]], .ret (.tup [.agg [int 3, nq], .ref (.vec 70 1), int 0]) [.gone, .gone, .gone, .gone, .gone, .gone, .gone, .gone, .vec [[int 12, int 0, int 0, int 0, int 1]] 0 5, .var [int 3, nq], .var [int 0, nq], .var [nq, int 0, int 0, int 0], .vec [[int 7], [int 7]] 0 1, .var [nq, int 0, int 0, int 0], .gone, .gone, .gone, .gone, .gone, .gone, .gone, .gone, .gone, .vec [[int 12, int 0, int 0, int 0, int 1], [int 12, int 0, int 0, int 0, int 1]] 1 5, .gone, .gone, .gone, .gone, .var [nq, int 0, int 0, int 1], .var [int 5, int 3, int 7, int (-1), int 5, int 6, int 8, int 0], .var [int 5, int 3, int 7, int 25, int 2, int 3, int 9, int 0], .vec [[ai ⟨#[65]⟩, int 7, int 4, int 0, int 1, int 0, ai ⟨#[]⟩, int 0, int 0, nq, int 2, int 0, ai ⟨#[]⟩, int 0, int 0, nq]] 0 16, .var [.ref (.vec 31 0), nq, nq, .ref (.vec 34 0)], .var [int 0, int 1024], .vec [[int 1, int 7, int 0, int 0, int 0, int 1024, int 8, int 0], [int 12, int 0, int 0, int 1, int 0, int 1024, int 8, int 1], [int 5, int 3, int 7, int 25, int 2, int 3, int 9, int 0]] 0 8, .gone, .gone, .gone, .gone, .gone, .gone, .gone, .gone, .gone, .gone, .gone, .gone, .vec [[int 12, int 0, int 0, int 0, int 1], [int 5, int 3, int 7, int 0, int 3], [int 1, int 7, int 0, int 2, int 3]] 2 5, .gone, .gone, .gone, .gone, .gone, .gone, .gone, .gone, .vec [[int 7, int 2, int 9, int 1, int 4]] 0 5, .var [int 3, .ref (.vec 56 0)], .gone, .gone, .gone, .gone, .gone, .gone, .gone, .gone, .gone, .gone, .gone, .gone, .vec [[int 12, int 0, int 0, int 0, int 1], [int 5, int 3, int 7, int 0, int 2]] 1 5]⟩
theorem s16w4_ok : s16w4.Ok Tryz.prog Γk := Memo.okW_of pok wv_ok (ms := []) (by kernel_rfl) trivial
def s16wR : Memo := ⟨17, [], [], .ret (bool true) []⟩
theorem s16wR_ok : s16wR.Ok Tryz.prog Γk := Memo.okW_of pok wv_ok (ms := [s16w2, s16w3, s16w4]) (by kernel_rfl) ⟨s16w2_ok, s16w3_ok, s16w4_ok, trivial⟩
theorem bu (h : List Blk) : Ev Tryz.prog Γk 17 [] h (bool true) h := Ev.frame0 rfl (Memo.call s16wR_ok rfl) h
end Go.Vi
open Go Go.Proofs
namespace Go.Vi
set_option maxRecDepth 100000
theorem few16_len {w : WorldT} (h : aG w = true) : w.f.length ≤ 30 := by
 simp only [aG, Bool.and_eq_true, decide_eq_true_eq, List.length_map] at h
 omega
theorem WorldT.ok0.few {w : WorldT} (hw : w.ok0) (h : aG w = true) : w.ok := by
 have := few16_len h
 exact ⟨hw.c, hw.s, by omega, hw.lc, hw.ls, hw.i⟩
theorem rofR_good {w : WorldT} {st term known : Int} (h : (rofR w st term known).2.2 = 0) : rofR w st term known = (⟨st, eG w known st term⟩, recReads w known st term, 0) := by
 unfold rofR at h ⊢
 split
 ·rename_i hb; rw [hb] at h; simp at h
 ·rfl
theorem recordPast_ev {w : WorldT} (hw : w.ok0) {st term later known : Int} (h : List Blk) : Ev Tryz.prog Γk 4 [.agg w.l, int st, int term, int later, int known] h (bool true) h := by
 cases ho : (!aG w || decide (later < term))
 ·have hr := ho
  simp only [Bool.or_eq_false_iff, Bool.not_eq_false', decide_eq_false_iff_not] at hr
  have hk := hw.few hr.1
  have h1 := fun h => cD hk (st := st) (term := term) (known := known) h
  have h2 := fun h => cD hk (st := st) (term := later) (known := known) h
  cases he : ((rofR w st term known).2.2 != 0 || (rofR w st later known).2.2 != 0)
  ·simp only [Bool.or_eq_false_iff, bne_eq_false_iff_eq] at he
   rw [rofR_good he.1] at h1
   rw [rofR_good he.2] at h2
   obtain ⟨rest, e1, e2, e3⟩ := recA_begin (w := w) (known := known) (st := st) (term := term) (later := later) (by omega)
   simp only [RecT.l, e1] at h1 h2
   have hl := recA_len hk (known := known) (st := st) (term := later)
   rw [e1] at hl
   have hl2 := recA_len hk (known := known) (st := st) (term := term)
   have hs : ao (eG w known st term ++ rest) := by unfold ao; omega
   have hs1 : ao (eG w known st term) := by unfold ao; omega
   refine rp_ok bu ho hs1 hs e2 e3 ?_ ?_ h1 h2 h
   ·intro h
    refine Ev.glob0 (same_self_rows ?_ hs1 h)
    simp [List.map_take]
   ·simp only [List.length_map, List.length_append, Bool.not_true, Bool.or_false, decide_eq_false_iff_not]; omega
  ·exact rp_err bu ho he h1 h2 h
 ·exact rp_out bu ho h
end Go.Vi
open Go Go.Proofs
namespace Go.Vi
theorem nb_all : ∀ ps : List (FactT × FactT), (∃ u, forL nbF ps () = .inl u) → ∀ p ∈ ps, p.1.known ≤ p.2.known
 | [], _, p, hp => by simp at hp
 | q :: ps, h, p, hp => by
  obtain ⟨u, h⟩ := h
  have hq : q.1.known ≤ q.2.known ∧ forL nbF ps () = .inl u := by
   simp only [forL] at h
   unfold nbF at h
   by_cases hd : decide (orI (aD q.1.known q.2.known) (aD q.1.no q.2.no) ≥ 0) = true
   ·rw [if_pos hd] at h; simp at h
   ·rw [if_neg hd] at h
    refine ⟨?_, h⟩
    by_cases hc : q.1.known ≤ q.2.known
    ·exact hc
    ·exfalso; apply hd
     rw [cmpI_gt (by omega : q.2.known < q.1.known)]
     simp [orI]
  rcases List.mem_cons.1 hp with hp | hp
  ·rw [hp]; exact hq.1
  ·exact nb_all ps ⟨u, hq.2⟩ p hp
theorem last_most : ∀ l : List FactT, (∀ p ∈ nbs l, p.1.known ≤ p.2.known) → ∀ f ∈ l, f.known ≤ (l.getD (l.length - 1) default).known
 | [], _, f, hf => by simp at hf
 | [a], _, f, hf => by simp at hf; subst hf; simp
 | a :: b :: l, h, f, hf => by
  have ih := last_most (b :: l) fun p hp => h p (by
   simp only [nbs, List.drop_succ_cons, List.drop_zero, List.zip_cons_cons] at hp ⊢
   exact List.mem_cons_of_mem _ hp)
  have e : (a :: b :: l).getD ((a :: b :: l).length - 1) default = (b :: l).getD ((b :: l).length - 1) default := by simp
  rw [e]
  rcases List.mem_cons.1 hf with hf | hf
  ·have h1 : a.known ≤ b.known := h (a, b) (by simp [nbs])
   have h2 := ih b (by simp)
   rw [hf]; omega
  ·exact ih f hf
theorem checkR_ok {l : List FactT} (h : aq l = 0) : (∀ f ∈ l, cB f = true) ∧ ∀ p ∈ nbs l, p.1.known ≤ p.2.known := by
 unfold aq at h
 cases ha : l.any (fun f => !cB f)
 ·rw [ha] at h
  simp only [cond_false] at h
  refine ⟨fun f hf => ?_, ?_⟩
  ·have := List.any_eq_false.1 ha f hf
   simpa using this
  ·cases hn : nbR l with
   | inl u => exact nb_all _ ⟨u, hn⟩
   | inr u => rw [hn] at h; simp at h
 ·rw [ha] at h; simp at h
def lastK (l : List FactT) : Int := bif decide (((l.map FactT.row).length : Int) > 0) then (bJ l).known else 7
theorem lastG_eq {l : List FactT} (hl : l.length ≤ 1000000) (h : l ≠ []) : bJ l = l.getD (l.length - 1) default := by
 have : 0 < l.length := List.length_pos_iff.2 h
 unfold bJ
 rw [List.length_map, wrap_i64 (by omega) (by omega)]
 congr 1; omega
theorem fits_known {f : FactT} (h : cB f = true) : 1 ≤ f.known ∧ f.known ≤ 16777216 := by
 unfold cB at h
 simp only [Bool.and_eq_true, decide_eq_true_eq] at h
 exact h.1.2
theorem lastK_facts {l : List FactT} (hl : l.length ≤ 1000000) (h : aq l = 0) : (∀ f ∈ l, f.known ≤ lastK l) ∧ 1 ≤ lastK l ∧ lastK l ≤ 16777216 := by
 obtain ⟨h1, h2⟩ := checkR_ok h
 by_cases hn : l = []
 ·subst hn; simp [lastK]
 ·have hp : 0 < l.length := List.length_pos_iff.2 hn
  have e : lastK l = (l.getD (l.length - 1) default).known := by
   unfold lastK
   have : decide (((l.map FactT.row).length : Int) > 0) = true := by simp; omega
   rw [this, lastG_eq hl hn]; rfl
  have hm : l.getD (l.length - 1) default ∈ l := by
   rw [List.getD_eq_getElem?_getD, List.getElem?_eq_getElem (by omega)]
   exact List.getElem_mem _
  rw [e]
  exact ⟨last_most l h2, fits_known (h1 _ hm)⟩
structure NewF (w : WorldT) (st cr at' gr ca last no : Int) (g : FactT) : Prop where
 n : Newest w g st cr at' last (last + 1)
 wr : IntKind.i64.wrap (last + 1) = last + 1
 g1 : -1 ≤ gr
 g2 : gr ≤ 12
 c1 : 0 ≤ ca
 c2 : ca ≤ 6
 v : g.value = if gr < 0 then -1 else gr + 16 * ca
 fit : cB g = true
theorem newF_of {w : WorldT} {st cr at' gr ca last no : Int} (hl : ∀ f ∈ w.f, f.known ≤ last) (h1 : 1 ≤ last) (h2 : last ≤ 16777216) (h : (rfR st cr at' gr ca (IntKind.i64.wrap (last + 1)) no).2 = 0) : NewF w st cr at' gr ca last no (rfR st cr at' gr ca (IntKind.i64.wrap (last + 1)) no).1 := by
 have hwr : IntKind.i64.wrap (last + 1) = last + 1 := wrap_i64 (by omega) (by omega)
 unfold rfR rfX at h ⊢
 cases hb : rfBad st cr at' gr ca
 ·rw [hb] at h
  simp only at h ⊢
  cases hc : (aq [rfF st cr at' gr ca (IntKind.i64.wrap (last + 1)) no] != 0)
  ·simp only
   have hc' : aq [rfF st cr at' gr ca (IntKind.i64.wrap (last + 1)) no] = 0 := by simpa using hc
   have hf := (checkR_ok hc').1 _ (List.mem_singleton.2 rfl)
   unfold rfBad at hb
   simp only [Bool.or_eq_false_iff, Bool.not_eq_false', Bool.and_eq_true, decide_eq_true_eq] at hb
   obtain ⟨⟨⟨⟨b1, b2⟩, b3⟩, b4⟩, b5⟩ := hb
   have hv : rfV gr ca = if gr < 0 then -1 else gr + 16 * ca := by
    unfold rfV
    by_cases hg : gr < 0
    ·simp [hg]
    ·have e1 : IntKind.i64.wrap (16 * ca) = 16 * ca := wrap_i64 (by omega) (by omega)
     have e2 : IntKind.i64.wrap (gr + 16 * ca) = gr + 16 * ca := wrap_i64 (by omega) (by omega)
     rw [e1, e2]; simp [hg]
   refine ⟨⟨by omega, hl, rfl, rfl, rfl, hwr, b3.1, b3.2, rfl, wrap_i64 (by omega) (by omega)⟩, hwr, b4.1, b4.2, b5.1, b5.2, hv, hf⟩
  ·rw [hc] at h
   simp only at h
   simp at hc
   exact absurd h hc
 ·rw [hb] at h; simp at h
theorem NewF.add {w : WorldT} {st cr at' gr ca last no : Int} {g : FactT} (h : NewF w st cr at' gr ca last no g) (hc : aq w.f = 0) (hl : w.f.length ≤ 1000000) : (aq w.f != 0) = false ∧ (!cB g) = false ∧ (decide (((w.f.map FactT.row).length : Int) > 0) && decide (orI (aD (w.f.getD (IntKind.i64.wrap (((w.f.map FactT.row).length : Int) - 1)).toNat default).known g.known) (aD (w.f.getD (IntKind.i64.wrap (((w.f.map FactT.row).length : Int) - 1)).toNat default).no g.no) ≥ 0)) = false := by
 refine ⟨by simp [hc], by simp [h.fit], ?_⟩
 cases hd : decide (((w.f.map FactT.row).length : Int) > 0)
 ·rfl
 ·have hm : (w.f.getD (IntKind.i64.wrap (((w.f.map FactT.row).length : Int) - 1)).toNat default).known < g.known := by
   have hp : 0 < w.f.length := by simpa using hd
   have e0 : (IntKind.i64.wrap (((w.f.map FactT.row).length : Int) - 1)).toNat = w.f.length - 1 := by
    rw [List.length_map, wrap_i64 (by omega) (by omega)]; omega
   have hm : w.f.getD (w.f.length - 1) default ∈ w.f := by
    rw [List.getD_eq_getElem?_getD, List.getElem?_eq_getElem (by omega)]
    exact List.getElem_mem _
   have h1 := h.n.hl _ hm
   have h2 := h.n.kk
   have h3 := h.n.hn
   rw [e0]
   omega
  have e : aD (w.f.getD (IntKind.i64.wrap (((w.f.map FactT.row).length : Int) - 1)).toNat default).known g.known = -1 := by
   unfold aD; repeat (first | split | rfl | omega)
  rw [e]
  simp [orI]
theorem recRaw_mem {w : WorldT} {k st term : Int} {x : AttT} (h : x ∈ cb w k st term) : x.course ∈ numbersR w.f k ∧ x ∈ bE w k st term x.course := by
 obtain ⟨n, hn, hx⟩ := List.mem_flatMap.1 h
 have := (bD hx).1
 subst this
 exact ⟨hn, hx⟩
theorem away_term {cr at' : Int} {x : AttT} (h : x.course = cr) : away cr at' x = (x.term != at') := by
 unfold away; simp [h]
theorem NewF.grade {w : WorldT} {st cr at' gr ca last no : Int} {g : FactT} (h : NewF w st cr at' gr ca last no g) {term : Int} (hT : term ≤ 1024) : ∀ x ∈ eG (w.add g) (last + 1) st term, away cr at' x = false → (x.grade != gr || x.campus != ca) = false := by
 intro x hx ha
 obtain ⟨_, hm⟩ := recRaw_mem (recA_perm.mem_iff.1 hx)
 unfold away at ha
 simp only [Bool.or_eq_false_iff, bne_eq_false_iff_eq] at ha
 rw [ha.1] at hm
 obtain ⟨cd, he⟩ := h.n.att_at (term := term) hT h.g1 h.g2 h.c1 h.c2 h.v
 have : x ∈ (bE (w.add g) (last + 1) st term cr).filter (fun a => a.term == at') := List.mem_filter.2 ⟨hm, by simp [ha.2]⟩
 rw [he] at this
 cases hc : (decide (at' < term) && decide (gr ≥ 0)) <;> rw [hc] at this <;> simp at this
 subst this
 simp
theorem filter_course {l : List AttT} {cr at' : Int} (h : ∀ x ∈ l, x.course = cr) : l.filter (away cr at') = l.filter (fun a => a.term != at') := List.filter_congr fun x hx => away_term (h x hx)
theorem NewF.rest {w : WorldT} {st cr at' gr ca last no : Int} {g : FactT} (h : NewF w st cr at' gr ca last no g) {term : Int} : (eG (w.add g) (last + 1) st term).filter (away cr at') = (eG w last st term).filter (away cr at') := by
 have hraw : (cb (w.add g) (last + 1) st term).filter (away cr at') = (cb w last st term).filter (away cr at') := by
  unfold cb
  rw [List.filter_flatMap, List.filter_flatMap, numbers_add (Int.le_of_lt h.n.kk) h.n.hl h.n.kind]
  congr 1
  funext n
  by_cases hn : n = cr
  ·subst hn
   rw [filter_course fun x hx => (bD hx).1, filter_course fun x hx => (bD hx).1, h.n.att_rest]
  ·rw [atts_other (Int.le_of_lt h.n.kk) h.n.hl h.n.kind (by rw [h.n.key]; simp [hn])]
 refine List.Perm.eq_of_pairwise (le := fun a b => leA a b = true) ?_ ((dL).filter _) ((dL).filter _) ?_
 ·intro a b ha hb h1 h2
  rw [leA_iff] at h1 h2
  have ha' : a ∈ (cb (w.add g) (last + 1) st term).filter (away cr at') := List.mem_filter.2 ⟨recA_perm.mem_iff.1 (List.mem_filter.1 ha).1, (List.mem_filter.1 ha).2⟩
  rw [hraw] at ha'
  exact rec_diff a (List.mem_filter.1 ha').1 b (recA_perm.mem_iff.1 (List.mem_filter.1 hb).1) (by omega) (by omega)
 ·have h1 := (recA_perm (w := w.add g) (known := last + 1) (st := st) (term := term)).filter (away cr at')
  have h2 := (recA_perm (w := w) (known := last) (st := st) (term := term)).filter (away cr at')
  rw [hraw] at h1
  exact h1.trans h2.symm
theorem len_flat {α β : Type} [BEq α] [LawfulBEq α] (f : α → List β) (c : α) : ∀ l : List α, l.Nodup → (∀ n ∈ l, n ≠ c → f n = []) → (l.flatMap f).length = bif l.contains c then (f c).length else 0
 | [], _, _ => rfl
 | a :: l, hd, h => by
  rw [List.nodup_cons] at hd
  have ih := len_flat f c l hd.2 fun n hn => h n (by simp [hn])
  rw [List.flatMap_cons, List.length_append, ih]
  by_cases hc : a = c
  ·subst hc
   have : l.contains a = false := by
    cases hq : l.contains a
    ·rfl
    ·exact absurd (List.contains_iff_mem.1 hq) hd.1
   rw [this]; simp
  ·rw [h a (by simp) hc]
   have : (a :: l).contains c = l.contains c := by
    have e : (c == a) = false := by simp; exact fun e => hc e.symm
    simp [List.contains_cons, e]
   rw [this]; simp
theorem NewF.many {w : WorldT} {st cr at' gr ca last no : Int} {g : FactT} (h : NewF w st cr at' gr ca last no g) {term : Int} (hT : term ≤ 1024) : ((((eG (w.add g) (last + 1) st term).filter (fun x => !away cr at' x)).length : Int) == wantR cr at' gr term (numbersR (w.f ++ [g]) (last + 1))) = true := by
 have e1 : ((eG (w.add g) (last + 1) st term).filter (fun x => !away cr at' x)).length = ((cb (w.add g) (last + 1) st term).filter (fun x => !away cr at' x)).length := (recA_perm.filter _).length_eq
 have e2 : (cb (w.add g) (last + 1) st term).filter (fun x => !away cr at' x) = (numbersR (w.f ++ [g]) (last + 1)).flatMap (fun n => (bE (w.add g) (last + 1) st term n).filter (fun x => !away cr at' x)) := by
  unfold cb
  rw [List.filter_flatMap]
 have e3 := len_flat (fun n => (bE (w.add g) (last + 1) st term n).filter (fun x => !away cr at' x)) cr (numbersR (w.f ++ [g]) (last + 1)) numbersR_nodup (fun n _ hn => List.filter_eq_nil_iff.2 fun x hx => by
  have := (bD hx).1
  unfold away
  simp [this, hn])
 obtain ⟨cd, he⟩ := h.n.att_at (term := term) hT h.g1 h.g2 h.c1 h.c2 h.v
 have e4 : (bE (w.add g) (last + 1) st term cr).filter (fun x => !away cr at' x) = (bE (w.add g) (last + 1) st term cr).filter (fun a => a.term == at') := List.filter_congr fun x hx => by
  rw [away_term (bD hx).1]
  cases hq : (x.term == at') <;> simp_all
 rw [e1, e2, e3]
 simp only [e4, he]
 unfold wantR
 cases (numbersR (w.f ++ [g]) (last + 1)).contains cr
 ·simp
 ·by_cases ha : at' < term <;> by_cases hg : gr ≥ 0 <;> simp [ha, hg]
theorem NewF.other {w : WorldT} {st cr at' gr ca last no : Int} {g : FactT} (h : NewF w st cr at' gr ca last no g) {term o : Int} (ho : o ≠ st) : eG (w.add g) (last + 1) o term = eG w last o term := by
 unfold eG cb
 rw [numbers_add (Int.le_of_lt h.n.kk) h.n.hl h.n.kind]
 congr 2
 funext n
 exact atts_other (Int.le_of_lt h.n.kk) h.n.hl h.n.kind (by rw [h.n.key]; simp [ho])
theorem fits_ok {f : FactT} (h : cB f = true) : f.ok := by
 unfold cB at h
 simp only [Bool.and_eq_true, decide_eq_true_eq] at h
 unfold FactT.ok I64
 omega
theorem add_ok {w : WorldT} (hk : w.ok) (hl : w.f.length ≤ 30) {g : FactT} (hg : cB g = true) : (w.add g).ok := by
 refine ⟨hk.c, hk.s, by simp; omega, hk.lc, hk.ls, ?_⟩
 intro f hf
 rcases List.mem_append.1 hf with h | h
 ·exact hk.i f h
 ·rw [List.mem_singleton.1 h]; exact fits_ok hg
theorem rof_err {w : WorldT} {st term k : Int} (h : badOf st term = true) : rofR w st term k = (⟨0, []⟩, [], 150) := by unfold rofR; rw [h]
theorem rof_fine {w : WorldT} {st term k : Int} (h : badOf st term = false) : rofR w st term k = (⟨st, eG w k st term⟩, recReads w k st term, 0) := by unfold rofR; rw [h]
theorem NewF.orec {w : WorldT} {st cr at' gr ca last no : Int} {g : FactT} (h : NewF w st cr at' gr ca last no g) {term o : Int} (ho : o ≠ st) : (rofR (w.add g) o term (last + 1)).1 = (rofR w o term last).1 ∧ (rofR (w.add g) o term (last + 1)).2.2 = (rofR w o term last).2.2 := by
 cases hb : badOf o term
 ·rw [rof_fine hb, rof_fine hb, h.other ho]; exact ⟨rfl, rfl⟩
 ·rw [rof_err hb, rof_err hb]; exact ⟨rfl, rfl⟩
theorem da {w : WorldT} (hw : w.ok) {known st term : Int} : (eG w known st term).length ≤ 900000000 := by
 have h := recRaw_len hw (known := known) (st := st) (term := term)
 have := (recA_perm (w := w) (known := known) (st := st) (term := term)).length_eq
 omega
theorem rsame_ev {r : RecT} (hl : ao r.a) (h : List Blk) : Ev Tryz.prog Γ0 29 [.agg [int r.st, ab (r.a.map AttT.row)], .agg [int r.st, ab (r.a.map AttT.row)]] h (bool true) h := rsame_a (fun h => same_self rfl hl h) h
theorem adds_main0 {w : WorldT} (hk : w.ok) (h30 : w.f.length ≤ 30) (hc : aq w.f = 0) (ho : (!aG w || aq w.f != 0) = false) (hn : decide (((w.f.map FactT.row).length : Int) > 0) = false) (hl : ∀ f ∈ w.f, f.known ≤ (7 : Int)) (l1 : 1 ≤ (7 : Int)) (l2 : (7 : Int) ≤ 16777216) {st other cr at' gr ca term no : Int} (h : List Blk) : Ev Tryz.prog Γk 6 [.agg w.l, int st, int other, int cr, int at', int gr, int ca, int term, int no] h (bool true) h := by
 have hF := fun h => Ev.glob0 (Γ' := Γk) (rfact_ev (st := st) (cr := cr) (term := at') (gr := gr) (ca := ca) (known := IntKind.i64.wrap ((7 : Int) + 1)) (no := no) h)
 cases he : ((rfR st cr at' gr ca (IntKind.i64.wrap ((7 : Int) + 1)) no).2 != 0)
 ·have he' : (rfR st cr at' gr ca (IntKind.i64.wrap ((7 : Int) + 1)) no).2 = 0 := by simpa using he
  have n := newF_of (w := w) hl l1 l2 he'
  rw [he'] at hF
  generalize (rfR st cr at' gr ca (IntKind.i64.wrap ((7 : Int) + 1)) no).1 = g at n hF
  obtain ⟨a1, a2, a3⟩ := n.add hc (by omega)
  have hA := fun h => Ev.glob0 (Γ' := Γk) (Ev.castH ((fadd_a (l := w.f) (f := g) hk.sf (by omega) a1 a2 a3).frameN (by kernel_rfl) rfl h) (d2 := .tup [ab ((w.f ++ [g]).map FactT.row), int 0]) rfl (h2 := h) (by simp))
  have hk2 := add_ok hk h30 n.fit
  cases hb : badOf st term
  ·have hT : term ≤ 1024 := by
    unfold badOf at hb
    simp only [Bool.or_eq_false_iff, Bool.not_eq_false', Bool.and_eq_true, decide_eq_true_eq] at hb
    exact hb.2.2
   have h1 := fun h => cD hk (st := st) (term := term) (known := (7 : Int)) h
   have h2 := fun h => cD hk2 (st := st) (term := term) (known := (7 : Int) + 1) h
   have h3 := fun h => cD hk (st := other) (term := term) (known := (7 : Int)) h
   have h4 := fun h => cD hk2 (st := other) (term := term) (known := (7 : Int) + 1) h
   rw [rof_fine hb] at h1 h2
   have hg := n.grade hT
   have hS : ∀ h, Ev Tryz.prog Γk 24 [ab (((eG w (7 : Int) st term).filter (away cr at')).map AttT.row), ab (((eG (w.add g) ((7 : Int) + 1) st term).filter (away cr at')).map AttT.row)] h (bool true) h := fun h => by
    rw [n.rest]
    refine Ev.glob0 (same_self rfl ?_ h)
    have h1 := List.length_filter_le (away cr at') (eG w (7 : Int) st term)
    have h2 := da hk (known := (7 : Int)) (st := st) (term := term)
    unfold ao; omega
   have hm := n.many hT
   have hN : ao (numbersR (w.f ++ [g]) ((7 : Int) + 1)) := by
    have := dU (fs := w.f ++ [g]) (known := (7 : Int) + 1)
    simp only [List.length_append, List.length_cons, List.length_nil] at this
    unfold ao; omega
   cases hot : (other != st)
   ·rw [← n.wr] at h2 h4 hg hS hm hN
    exact ad_ok0s (ra := ⟨st, eG w (7 : Int) st term⟩) (rb := ⟨st, eG (w.add g) (IntKind.i64.wrap ((7 : Int) + 1)) st term⟩) (rc := (rofR w other term (7 : Int)).1) (rd := (rofR (w.add g) other term (IntKind.i64.wrap ((7 : Int) + 1))).1) hk.sf bu ho hn hF hA hot h1 h2 h3 h4 (da hk) (da hk2) hg hN (by simp; omega) (by unfold ao; simp; omega) hk2 hS hm h
   ·obtain ⟨e1, e2⟩ := n.orec (term := term) (o := other) (by simpa using hot)
    rw [e1, e2] at h4
    have hsm : ao (rofR w other term (7 : Int)).1.a := by
     unfold ao rofR
     split
     ·simp
     ·have := da hk (known := (7 : Int)) (st := other) (term := term)
      simp only; omega
    rw [← n.wr] at h2 h4 hg hS hm hN
    exact ad_ok0o (ra := ⟨st, eG w (7 : Int) st term⟩) (rb := ⟨st, eG (w.add g) (IntKind.i64.wrap ((7 : Int) + 1)) st term⟩) (rc := (rofR w other term (7 : Int)).1) hk.sf bu ho hn hF hA hot (by simp) (fun h => Ev.glob0 (rsame_ev hsm h)) h1 h2 h3 h4 (da hk) (da hk2) hg hN (by simp; omega) (by unfold ao; simp; omega) hk2 hS hm h
  ·have h1 := fun h => cD hk (st := st) (term := term) (known := (7 : Int)) h
   have h2 := fun h => cD hk2 (st := st) (term := term) (known := IntKind.i64.wrap ((7 : Int) + 1)) h
   rw [rof_err hb] at h1 h2
   exact ad_ge0 (ra := ⟨0, []⟩) (rb := ⟨0, []⟩) (ea := 150) (rc := (rofR w other term (7 : Int)).1) (rd := (rofR (w.add g) other term (IntKind.i64.wrap ((7 : Int) + 1))).1) hk.sf bu ho hn hF hA (by rfl) h1 h2 (fun h => cD hk h) (fun h => cD hk2 h) h
 ·exact ad_fe0 hk.sf bu ho hn he hF h
theorem adds_main1 {w : WorldT} (hk : w.ok) (h30 : w.f.length ≤ 30) (hc : aq w.f = 0) (ho : (!aG w || aq w.f != 0) = false) (hn : decide (((w.f.map FactT.row).length : Int) > 0) = true) (hr0 : bw (IntKind.i64.wrap (((w.f.map FactT.row).length : Int) - 1)) (w.f.map FactT.row) (bJ w.f).row 8) (hl : ∀ f ∈ w.f, f.known ≤ (bJ w.f).known) (l1 : 1 ≤ (bJ w.f).known) (l2 : (bJ w.f).known ≤ 16777216) {st other cr at' gr ca term no : Int} (h : List Blk) : Ev Tryz.prog Γk 6 [.agg w.l, int st, int other, int cr, int at', int gr, int ca, int term, int no] h (bool true) h := by
 have hF := fun h => Ev.glob0 (Γ' := Γk) (rfact_ev (st := st) (cr := cr) (term := at') (gr := gr) (ca := ca) (known := IntKind.i64.wrap ((bJ w.f).known + 1)) (no := no) h)
 cases he : ((rfR st cr at' gr ca (IntKind.i64.wrap ((bJ w.f).known + 1)) no).2 != 0)
 ·have he' : (rfR st cr at' gr ca (IntKind.i64.wrap ((bJ w.f).known + 1)) no).2 = 0 := by simpa using he
  have n := newF_of (w := w) hl l1 l2 he'
  rw [he'] at hF
  generalize (rfR st cr at' gr ca (IntKind.i64.wrap ((bJ w.f).known + 1)) no).1 = g at n hF
  obtain ⟨a1, a2, a3⟩ := n.add hc (by omega)
  have hA := fun h => Ev.glob0 (Γ' := Γk) (Ev.castH ((fadd_a (l := w.f) (f := g) hk.sf (by omega) a1 a2 a3).frameN (by kernel_rfl) rfl h) (d2 := .tup [ab ((w.f ++ [g]).map FactT.row), int 0]) rfl (h2 := h) (by simp))
  have hk2 := add_ok hk h30 n.fit
  cases hb : badOf st term
  ·have hT : term ≤ 1024 := by
    unfold badOf at hb
    simp only [Bool.or_eq_false_iff, Bool.not_eq_false', Bool.and_eq_true, decide_eq_true_eq] at hb
    exact hb.2.2
   have h1 := fun h => cD hk (st := st) (term := term) (known := (bJ w.f).known) h
   have h2 := fun h => cD hk2 (st := st) (term := term) (known := (bJ w.f).known + 1) h
   have h3 := fun h => cD hk (st := other) (term := term) (known := (bJ w.f).known) h
   have h4 := fun h => cD hk2 (st := other) (term := term) (known := (bJ w.f).known + 1) h
   rw [rof_fine hb] at h1 h2
   have hg := n.grade hT
   have hS : ∀ h, Ev Tryz.prog Γk 24 [ab (((eG w (bJ w.f).known st term).filter (away cr at')).map AttT.row), ab (((eG (w.add g) ((bJ w.f).known + 1) st term).filter (away cr at')).map AttT.row)] h (bool true) h := fun h => by
    rw [n.rest]
    refine Ev.glob0 (same_self rfl ?_ h)
    have h1 := List.length_filter_le (away cr at') (eG w (bJ w.f).known st term)
    have h2 := da hk (known := (bJ w.f).known) (st := st) (term := term)
    unfold ao; omega
   have hm := n.many hT
   have hN : ao (numbersR (w.f ++ [g]) ((bJ w.f).known + 1)) := by
    have := dU (fs := w.f ++ [g]) (known := (bJ w.f).known + 1)
    simp only [List.length_append, List.length_cons, List.length_nil] at this
    unfold ao; omega
   cases hot : (other != st)
   ·rw [← n.wr] at h2 h4 hg hS hm hN
    exact ad_ok1s (ra := ⟨st, eG w (bJ w.f).known st term⟩) (rb := ⟨st, eG (w.add g) (IntKind.i64.wrap ((bJ w.f).known + 1)) st term⟩) (rc := (rofR w other term (bJ w.f).known).1) (rd := (rofR (w.add g) other term (IntKind.i64.wrap ((bJ w.f).known + 1))).1) hk.sf hr0 bu ho hn hF hA hot h1 h2 h3 h4 (da hk) (da hk2) hg hN (by simp; omega) (by unfold ao; simp; omega) hk2 hS hm h
   ·obtain ⟨e1, e2⟩ := n.orec (term := term) (o := other) (by simpa using hot)
    rw [e1, e2] at h4
    have hsm : ao (rofR w other term (bJ w.f).known).1.a := by
     unfold ao rofR
     split
     ·simp
     ·have := da hk (known := (bJ w.f).known) (st := other) (term := term)
      simp only; omega
    rw [← n.wr] at h2 h4 hg hS hm hN
    exact ad_ok1o (ra := ⟨st, eG w (bJ w.f).known st term⟩) (rb := ⟨st, eG (w.add g) (IntKind.i64.wrap ((bJ w.f).known + 1)) st term⟩) (rc := (rofR w other term (bJ w.f).known).1) hk.sf hr0 bu ho hn hF hA hot (by simp) (fun h => Ev.glob0 (rsame_ev hsm h)) h1 h2 h3 h4 (da hk) (da hk2) hg hN (by simp; omega) (by unfold ao; simp; omega) hk2 hS hm h
  ·have h1 := fun h => cD hk (st := st) (term := term) (known := (bJ w.f).known) h
   have h2 := fun h => cD hk2 (st := st) (term := term) (known := IntKind.i64.wrap ((bJ w.f).known + 1)) h
   rw [rof_err hb] at h1 h2
   exact ad_ge1 (ra := ⟨0, []⟩) (rb := ⟨0, []⟩) (ea := 150) (rc := (rofR w other term (bJ w.f).known).1) (rd := (rofR (w.add g) other term (IntKind.i64.wrap ((bJ w.f).known + 1))).1) hk.sf hr0 bu ho hn hF hA (by rfl) h1 h2 (fun h => cD hk h) (fun h => cD hk2 h) h
 ·exact ad_fe1 hk.sf hr0 bu ho hn he hF h
theorem recordAdds_ev {w : WorldT} (hw : w.ok0) {st other cr at' gr ca term no : Int} (h : List Blk) : Ev Tryz.prog Γk 6 [.agg w.l, int st, int other, int cr, int at', int gr, int ca, int term, int no] h (bool true) h := by
 cases ho : (!aG w || aq w.f != 0)
 ·have hr := ho
  simp only [Bool.or_eq_false_iff, Bool.not_eq_false', bne_eq_false_iff_eq] at hr
  have hk := hw.few hr.1
  have h30 := few16_len hr.1
  obtain ⟨q1, q2, q3⟩ := lastK_facts (l := w.f) (by omega) hr.2
  cases hn : decide (((w.f.map FactT.row).length : Int) > 0)
  ·have e : lastK w.f = 7 := by unfold lastK; rw [hn]; rfl
   rw [e] at q1 q2 q3
   exact adds_main0 hk h30 hr.2 ho hn q1 q2 q3 h
  ·have e : lastK w.f = (bJ w.f).known := by unfold lastK; rw [hn]; rfl
   rw [e] at q1 q2 q3
   exact adds_main1 hk h30 hr.2 ho hn (last_row (by omega) hn) q1 q2 q3 h
 ·cases hf : aG w
  ·exact ad_out0 bu (by simp [hf]) h
  ·have := few16_len hf
   exact ad_out (by unfold ao; omega) bu ho h
end Go.Vi
