/- StandingAlike: part of the proof. -/
import Derived.Test.YtilebidefogaiaaGreatDoorW4
open Go Go.Proofs
namespace Go.Vi
set_option maxRecDepth 100000
set_option maxHeartbeats 4000000
theorem sortAttR_ev {h : List Blk} {b e : Nat} {l : List AttT} (hb : h[b]? = some (.vec (vecR (l.map AttT.row)) e 5)) (hl : l.length < 4611686018427387904) (hT : ∀ x ∈ l, ∀ y ∈ l, x.term = y.term → x.course = y.course → x = y) :
  Ev Tryz.prog Γ0 117 [.ref (.vec b e), .p (.v (.func (.func 79) #[] #[]))] h (.tup []) (h.set b (.vec (vecR ((l.mergeSort leA).map AttT.row)) e 5)) := by
 have e1 : ∀ l : List AttT, vecR (l.map AttT.row) = attsV l := fun l => by simp [vecR]
 rw [e1] at hb ⊢
 exact sortAtt_ev hb hl hT
abbrev ofH (w : WorldT) (known st : Int) (rs : List ReadT) (ats : List AttT) : List Blk := [.var [.ref (.vec 1 1), rD (w.c.map CourseT.row), rD w.p, rD (w.s.map SysT.row), rD (w.f.map FactT.row), int known], .vec (vecR (rdR rs)) 1 5, .var [int st, .ref (.vec 3 0)], .vec (vecR (ats.map AttT.row)) 0 5]
abbrev oiS (w : WorldT) (known st term : Int) (ns : List (List Dp)) (ni n : Int) (ps : List (List Dp)) (rs : List ReadT) (ats : List AttT) (j : Int) : AS :=
 { t := mkT 67 0 [(0, .ref (.ptr 0 0)), (1, int st), (2, int term), (6, .ref (.ptr 2 0)), (8, int n), (16, rD ns), (17, int ns.length), (18, int ni), (26, rD ps), (27, int ps.length), (28, int j)], h := ofH w known st rs ats, m := [] }
abbrev RA := List ReadT × List AttT
def attBad (p : PtT) : Bool := decide (Int.tmod p.value 16 > 12) || decide (IntKind.i64.wrap (Int.tdiv p.value 16) ≥ 7)
def attOf (w : WorldT) (known n : Int) (p : PtT) : AttT := ⟨n, p.term, Int.tmod p.value 16, IntKind.i64.wrap (Int.tdiv p.value 16), (courseR w n p.term known).1.credits⟩
def ofIn (w : WorldT) (known n : Int) (s : RA) (p : PtT) : RA := bif attBad p then s else (s.1 ++ rdT 1 n 0 p.term, s.2 ++ [attOf w known n p])
theorem att_row (l : List AttT) (a b c d e : Int) : vecR (l.map AttT.row) ++ [[int a, int b, int c, int d, int e]] = vecR ((l ++ [AttT.mk a b c d e]).map AttT.row) := by simp [AttT.row]
theorem oi_body {w : WorldT} (hw : w.ok) {known st term : Int} {ns : List (List Dp)} {ni n : Int} {ps : List (List Dp)} {rs0 rs : List ReadT} {ats : List AttT} {j : Nat} {p : PtT} (hr : RowAt (j : Int) ps p.row 2) (hlt : decide ((j : Int) < (ps.length : Int)) = true) (hwr : IntKind.i64.wrap ((j : Int) + 1) = ((j + 1 : Nat) : Int)) (hb : rs.length ≤ 999998000) (ha : ats.length ≤ 999998000) : (CW Tryz.prog Γk (lkH w known rs0 0) false (sub Tryz.f60 1) (oiS w known st term ns ni n ps rs ats j) .normal (oiS w known st term ns ni n ps (ofIn w known n (rs, ats) p).1 (ofIn w known n (rs, ats) p).2 ((j + 1 : Nat) : Int))) := by
 cases hc0 : decide (Int.tmod p.value 16 > 12) || decide (IntKind.wrap IntKind.i64 (Int.tdiv p.value 16) ≥ 7)
 ·refine CW.cast (CW.symX (s' := { t := mkT 67 0 [(0, .ref (.ptr 0 0)), (1, int st), (2, int term), (6, .ref (.ptr 2 0)), (8, int n), (16, rD ns), (17, int (↑(List.length ns) : Int)), (18, int ni), (26, rD ps), (27, int (↑(List.length ps) : Int)), (28, int (IntKind.wrap IntKind.i64 ((↑j : Int) + 1)))], h := [.var [.ref (.vec 1 1), rD (List.map CourseT.row w.c), rD w.p, rD (List.map SysT.row w.s), rD (List.map FactT.row w.f), int known], .vec (vecR (rdR (rs ++ rdT 1 n 0 p.term))) 1 5, .var [int st, .ref (.vec 3 0)], .vec (vecR (List.map AttT.row ats) ++ [[int n, int p.term, int (Int.tmod p.value 16), int (IntKind.wrap IntKind.i64 (Int.tdiv p.value 16)), int (courseR w n p.term known).fst.credits]]) 0 5], m := [] }) (e := Exit.normal) pok [.st (.mask [0, 1, 2, 6, 8, 16, 17, 18, 26, 27, 28]), .st (.ren 1 1), .st (.ren 3 0), .st (.trimV 4)] [.b true, .row [vi p.term, vi p.value], .b false, .call (D.agg [strD (courseR w n p.term known).fst.name, int (courseR w n p.term known).fst.number, int (courseR w n p.term known).fst.credits, int (courseR w n p.term known).fst.rep, int (RuleT.fl (courseR w n p.term known).fst.need).op, int (RuleT.fl (courseR w n p.term known).fst.need).c, strD (RuleT.fl (courseR w n p.term known).fst.need).nm, int (RuleT.fl (courseR w n p.term known).fst.need).n, int (RuleT.fl (courseR w n p.term known).fst.need).d, rD (RuleT.fl (courseR w n p.term known).fst.need).ks, int (RuleT.fl (courseR w n p.term known).fst.bar).op, int (RuleT.fl (courseR w n p.term known).fst.bar).c, strD (RuleT.fl (courseR w n p.term known).fst.bar).nm, int (RuleT.fl (courseR w n p.term known).fst.bar).n, int (RuleT.fl (courseR w n p.term known).fst.bar).d, rD (RuleT.fl (courseR w n p.term known).fst.bar).ks]) [.var [.ref (.vec 1 2), rD (List.map CourseT.row w.c), rD w.p, rD (List.map SysT.row w.s), rD (List.map FactT.row w.f), int known], .vec (vecR (rdR (rs ++ rdT 1 n 0 p.term))) 2 5, .var [int st, .ref (.vec 3 0)], .vec (vecR (List.map AttT.row ats)) 0 5, .var [int p.term, int p.value]]] (by kernel_rfl) (.c hlt (.c hr (.c (show (!decide (16 = 0)) = true from rfl) (.c (show (!decide (16 = 0)) = true from rfl) (.c hc0 (.c (show Ev Tryz.prog Γk 116 [.ref (.ptr 0 0), int n, int p.term] [.var [.ref (.vec 1 1), rD (List.map CourseT.row w.c), rD w.p, rD (List.map SysT.row w.s), rD (List.map FactT.row w.f), int known], .vec (vecR (rdR rs)) 1 5, .var [int st, .ref (.vec 3 0)], .vec (vecR (List.map AttT.row ats)) 0 5, .var [int p.term, int p.value]] (D.agg [strD (courseR w n p.term known).fst.name, int (courseR w n p.term known).fst.number, int (courseR w n p.term known).fst.credits, int (courseR w n p.term known).fst.rep, int (RuleT.fl (courseR w n p.term known).fst.need).op, int (RuleT.fl (courseR w n p.term known).fst.need).c, strD (RuleT.fl (courseR w n p.term known).fst.need).nm, int (RuleT.fl (courseR w n p.term known).fst.need).n, int (RuleT.fl (courseR w n p.term known).fst.need).d, rD (RuleT.fl (courseR w n p.term known).fst.need).ks, int (RuleT.fl (courseR w n p.term known).fst.bar).op, int (RuleT.fl (courseR w n p.term known).fst.bar).c, strD (RuleT.fl (courseR w n p.term known).fst.bar).nm, int (RuleT.fl (courseR w n p.term known).fst.bar).n, int (RuleT.fl (courseR w n p.term known).fst.bar).d, rD (RuleT.fl (courseR w n p.term known).fst.bar).ks]) [.var [.ref (.vec 1 2), rD (List.map CourseT.row w.c), rD w.p, rD (List.map SysT.row w.s), rD (List.map FactT.row w.f), int known], .vec (vecR (rdR (rs ++ rdT 1 n 0 p.term))) 2 5, .var [int st, .ref (.vec 3 0)], .vec (vecR (List.map AttT.row ats)) 0 5, .var [int p.term, int p.value]] from (Ev.castH (Ev.frameX (args := [.ref (.ptr 0 0), int n, int p.term]) (H := [.var [.ref (.vec 1 1), rD (List.map CourseT.row w.c), rD w.p, rD (List.map SysT.row w.s), rD (List.map FactT.row w.f), int known], .vec (vecR (rdR rs)) 1 5, .var [int st, .ref (.vec 3 0)], .vec (vecR (List.map AttT.row ats)) 0 5, .var [int p.term, int p.value]]) [0, 1] (Ev.upX [0, 1] (@lkcourse_ev (w) (hw) (known) (n) (p.term) (rs) ?_) (by kernel_rfl) ⟨(by first | rfl | exact mapRL_rows _ _ | first | assumption | rfl | omega | exact vecR_map _ _ | exact inn_vecR | (rw [att_row]; exact vecR_map _ _) | (rw [att_row]; exact inn_vecR) | (simp [rowOk, D.one, Value.oneCell', roomOk]; omega)), trivial⟩ ⟨(by first | rfl | exact mapRL_rows _ _ | first | assumption | rfl | omega | exact vecR_map _ _ | exact inn_vecR | (rw [att_row]; exact vecR_map _ _) | (rw [att_row]; exact inn_vecR) | (simp [rowOk, D.one, Value.oneCell', roomOk]; omega)), trivial⟩) (by kernel_rfl) (by kernel_rfl) (by kernel_rfl) ⟨(by first | rfl | exact mapRL_rows _ _ | first | assumption | rfl | omega | exact vecR_map _ _ | exact inn_vecR | (rw [att_row]; exact vecR_map _ _) | (rw [att_row]; exact inn_vecR) | (simp [rowOk, D.one, Value.oneCell', roomOk]; omega)), trivial⟩ ⟨(by first | rfl | exact mapRL_rows _ _ | first | assumption | rfl | omega | exact vecR_map _ _ | exact inn_vecR | (rw [att_row]; exact vecR_map _ _) | (rw [att_row]; exact inn_vecR) | (simp [rowOk, D.one, Value.oneCell', roomOk]; omega)), trivial⟩) (by kernel_rfl) (by kernel_rfl))) (.c (show (List.all [[int n, int p.term, int (Int.tmod p.value 16), int (IntKind.wrap IntKind.i64 (Int.tdiv p.value 16)), int (courseR w n p.term known).fst.credits]] (rowOk 5) && roomOk (List.length (vecR (List.map AttT.row ats)) + List.length [[int n, int p.term, int (Int.tmod p.value 16), int (IntKind.wrap IntKind.i64 (Int.tdiv p.value 16)), int (courseR w n p.term known).fst.credits]]) 40) = true from ?_) (.e (.ref (.ptr 2 1)) (.e (.ref (.ptr 2 1)) (.e (.ref (.ptr 2 1)) (.e (.ref (.vec 3 0)) (.e (.ref (.vec 3 0)) (.e (.ref (.vec 3 0)) (.e (.ref (.ptr 4 0)) (.e (.ref (.ptr 4 0)) (.e (int p.term) (.e (int p.term) (.e (.ref (.ptr 4 0)) (.e (int p.term) (.e (.ref (.ptr 2 1)) (.c (show List.map (D.mapRL (renR 1 2 1)) (vecR (rdR (rs ++ rdT 1 n 0 p.term))) = vecR (rdR (rs ++ rdT 1 n 0 p.term)) from ?_) (.c (show List.map (D.mapRL (renR 1 2 1)) (vecR (List.map AttT.row ats) ++ [[int n, int p.term, int (Int.tmod p.value 16), int (IntKind.wrap IntKind.i64 (Int.tdiv p.value 16)), int (courseR w n p.term known).fst.credits]]) = vecR (List.map AttT.row ats) ++ [[int n, int p.term, int (Int.tmod p.value 16), int (IntKind.wrap IntKind.i64 (Int.tdiv p.value 16)), int (courseR w n p.term known).fst.credits]] from ?_) (.c (show [[int n, int p.term, int (Int.tmod p.value 16), int (IntKind.wrap IntKind.i64 (Int.tdiv p.value 16)), int (courseR w n p.term known).fst.credits]] = [[int n, int p.term, int (Int.tmod p.value 16), int (IntKind.wrap IntKind.i64 (Int.tdiv p.value 16)), int (courseR w n p.term known).fst.credits]] from rfl) (.c (show List.map (D.mapRL (renR 3 1 0)) (vecR (List.map AttT.row ats) ++ [[int n, int p.term, int (Int.tmod p.value 16), int (IntKind.wrap IntKind.i64 (Int.tdiv p.value 16)), int (courseR w n p.term known).fst.credits]]) = vecR (List.map AttT.row ats) ++ [[int n, int p.term, int (Int.tmod p.value 16), int (IntKind.wrap IntKind.i64 (Int.tdiv p.value 16)), int (courseR w n p.term known).fst.credits]] from ?_) (.c (show List.map (D.mapRL (renR 3 1 0)) (vecR (rdR (rs ++ rdT 1 n 0 p.term))) = vecR (rdR (rs ++ rdT 1 n 0 p.term)) from ?_) (.c (show [[int n, int p.term, int (Int.tmod p.value 16), int (IntKind.wrap IntKind.i64 (Int.tdiv p.value 16)), int (courseR w n p.term known).fst.credits]] = [[int n, int p.term, int (Int.tmod p.value 16), int (IntKind.wrap IntKind.i64 (Int.tdiv p.value 16)), int (courseR w n p.term known).fst.credits]] from rfl) (.c (show Blk.inn 4 (match 0 == 3 with | true => .vec (vecR (List.map AttT.row ats) ++ [[int n, int p.term, int (Int.tmod p.value 16), int (IntKind.wrap IntKind.i64 (Int.tdiv p.value 16)), int (courseR w n p.term known).fst.credits]]) 0 5 | false => keepX (renR 3 1 0) (match 0 == 1 with | true => .vec (vecR (rdR (rs ++ rdT 1 n 0 p.term))) 1 5 | false => keepX (renR 1 2 1) (.var [.ref (.vec 1 2), rD (List.map CourseT.row w.c), rD w.p, rD (List.map SysT.row w.s), rD (List.map FactT.row w.f), int known]))) = true from rfl) (.c (show Blk.inn 4 (match 0 + 1 == 3 with | true => .vec (vecR (List.map AttT.row ats) ++ [[int n, int p.term, int (Int.tmod p.value 16), int (IntKind.wrap IntKind.i64 (Int.tdiv p.value 16)), int (courseR w n p.term known).fst.credits]]) 0 5 | false => keepX (renR 3 1 0) (match 0 + 1 == 1 with | true => .vec (vecR (rdR (rs ++ rdT 1 n 0 p.term))) 1 5 | false => keepX (renR 1 2 1) (.vec (vecR (rdR (rs ++ rdT 1 n 0 p.term))) 2 5))) = true from ?_) (.c (show Blk.inn 4 (match 0 + 1 + 1 == 3 with | true => .vec (vecR (List.map AttT.row ats) ++ [[int n, int p.term, int (Int.tmod p.value 16), int (IntKind.wrap IntKind.i64 (Int.tdiv p.value 16)), int (courseR w n p.term known).fst.credits]]) 0 5 | false => keepX (renR 3 1 0) (match 0 + 1 + 1 == 1 with | true => .vec (vecR (rdR (rs ++ rdT 1 n 0 p.term))) 1 5 | false => keepX (renR 1 2 1) (.var [int st, .ref (.vec 3 1)]))) = true from rfl) (.c (show Blk.inn 4 (match 0 + 1 + 1 + 1 == 3 with | true => .vec (vecR (List.map AttT.row ats) ++ [[int n, int p.term, int (Int.tmod p.value 16), int (IntKind.wrap IntKind.i64 (Int.tdiv p.value 16)), int (courseR w n p.term known).fst.credits]]) 0 5 | false => keepX (renR 3 1 0) (match 0 + 1 + 1 + 1 == 1 with | true => .vec (vecR (rdR (rs ++ rdT 1 n 0 p.term))) 1 5 | false => keepX (renR 1 2 1) (.vec (vecR (List.map AttT.row ats) ++ [[int n, int p.term, int (Int.tmod p.value 16), int (IntKind.wrap IntKind.i64 (Int.tdiv p.value 16)), int (courseR w n p.term known).fst.credits]]) 1 5))) = true from ?_) .n))))))))))))))))))))))))))))))) (by first | rfl | (have hh : attBad p = true := hc0; simp only [hwr, ofIn, hh, cond_true]; first | done | rfl) | (have hh : attBad p = false := hc0; simp only [hwr, ofIn, hh, cond_false, att_row]; first | done | rfl)) (by first | rfl | (have hh : attBad p = true := hc0; simp only [hwr, ofIn, hh, cond_true]; first | done | rfl) | (have hh : attBad p = false := hc0; simp only [hwr, ofIn, hh, cond_false, att_row]; first | done | rfl)) <;> (first | assumption | rfl | omega | exact vecR_map _ _ | exact inn_vecR | (rw [att_row]; exact vecR_map _ _) | (rw [att_row]; exact inn_vecR) | (simp [rowOk, D.one, Value.oneCell', roomOk]; omega))
 ·refine CW.cast (CW.symX (s' := { t := mkT 67 0 [(0, .ref (.ptr 0 0)), (1, int st), (2, int term), (6, .ref (.ptr 2 0)), (8, int n), (16, rD ns), (17, int (↑(List.length ns) : Int)), (18, int ni), (26, rD ps), (27, int (↑(List.length ps) : Int)), (28, int (IntKind.wrap IntKind.i64 ((↑j : Int) + 1)))], h := [.var [.ref (.vec 1 1), rD (List.map CourseT.row w.c), rD w.p, rD (List.map SysT.row w.s), rD (List.map FactT.row w.f), int known], .vec (vecR (rdR rs)) 1 5, .var [int st, .ref (.vec 3 0)], .vec (vecR (List.map AttT.row ats)) 0 5], m := [] }) (e := Exit.normal) pok [.st (.mask [0, 1, 2, 6, 8, 16, 17, 18, 26, 27, 28]), .st (.ren 1 1), .st (.ren 3 0), .st (.trimV 4)] [.b true, .row [vi p.term, vi p.value], .b true] (by kernel_rfl) (.c hlt (.c hr (.c (show (!decide (16 = 0)) = true from rfl) (.c (show (!decide (16 = 0)) = true from rfl) (.c hc0 (.c (show List.map (D.mapRL (renR 1 1 1)) (vecR (rdR rs)) = vecR (rdR rs) from ?_) (.c (show List.map (D.mapRL (renR 1 1 1)) (vecR (List.map AttT.row ats)) = vecR (List.map AttT.row ats) from ?_) (.c (show List.map (D.mapRL (renR 3 0 0)) (vecR (List.map AttT.row ats)) = vecR (List.map AttT.row ats) from ?_) (.c (show List.map (D.mapRL (renR 3 0 0)) (vecR (rdR rs)) = vecR (rdR rs) from ?_) (.c (show Blk.inn 4 (match 0 == 3 with | true => .vec (vecR (List.map AttT.row ats)) 0 5 | false => keepX (renR 3 0 0) (match 0 == 1 with | true => .vec (vecR (rdR rs)) 1 5 | false => keepX (renR 1 1 1) (.var [.ref (.vec 1 1), rD (List.map CourseT.row w.c), rD w.p, rD (List.map SysT.row w.s), rD (List.map FactT.row w.f), int known]))) = true from rfl) (.c (show Blk.inn 4 (match 0 + 1 == 3 with | true => .vec (vecR (List.map AttT.row ats)) 0 5 | false => keepX (renR 3 0 0) (match 0 + 1 == 1 with | true => .vec (vecR (rdR rs)) 1 5 | false => keepX (renR 1 1 1) (.vec (vecR (rdR rs)) 1 5))) = true from ?_) (.c (show Blk.inn 4 (match 0 + 1 + 1 == 3 with | true => .vec (vecR (List.map AttT.row ats)) 0 5 | false => keepX (renR 3 0 0) (match 0 + 1 + 1 == 1 with | true => .vec (vecR (rdR rs)) 1 5 | false => keepX (renR 1 1 1) (.var [int st, .ref (.vec 3 0)]))) = true from rfl) (.c (show Blk.inn 4 (match 0 + 1 + 1 + 1 == 3 with | true => .vec (vecR (List.map AttT.row ats)) 0 5 | false => keepX (renR 3 0 0) (match 0 + 1 + 1 + 1 == 1 with | true => .vec (vecR (rdR rs)) 1 5 | false => keepX (renR 1 1 1) (.vec (vecR (List.map AttT.row ats)) 0 5))) = true from ?_) .n)))))))))))))) (by first | rfl | (have hh : attBad p = true := hc0; simp only [hwr, ofIn, hh, cond_true]; first | done | rfl) | (have hh : attBad p = false := hc0; simp only [hwr, ofIn, hh, cond_false, att_row]; first | done | rfl)) (by first | rfl | (have hh : attBad p = true := hc0; simp only [hwr, ofIn, hh, cond_true]; first | done | rfl) | (have hh : attBad p = false := hc0; simp only [hwr, ofIn, hh, cond_false, att_row]; first | done | rfl)) <;> (first | assumption | rfl | omega | exact vecR_map _ _ | exact inn_vecR | (rw [att_row]; exact vecR_map _ _) | (rw [att_row]; exact inn_vecR) | (simp [rowOk, D.one, Value.oneCell', roomOk]; omega))
theorem oi_last {w : WorldT} {known st term : Int} {ns : List (List Dp)} {ni n : Int} {ps : List (List Dp)} {rs0 rs : List ReadT} {ats : List AttT} {j : Nat} (hlt : decide ((j : Int) < (ps.length : Int)) = false) : (CW Tryz.prog Γk (lkH w known rs0 0) false (sub Tryz.f60 1) (oiS w known st term ns ni n ps rs ats j) (.exit 2) { t := mkT 67 0 [(0, .ref (.ptr 0 0)), (1, int st), (2, int term), (6, .ref (.ptr 2 0)), (16, rD ns), (17, int ns.length), (18, int ni)], h := ofH w known st rs ats, m := [] }) := by
 exact CW.cast (CW.symX (s' := { t := mkT 67 0 [(0, .ref (.ptr 0 0)), (1, int st), (2, int term), (6, .ref (.ptr 2 0)), (16, rD ns), (17, int (↑(List.length ns) : Int)), (18, int ni)], h := [.var [.ref (.vec 1 1), rD (List.map CourseT.row w.c), rD w.p, rD (List.map SysT.row w.s), rD (List.map FactT.row w.f), int known], .vec (vecR (rdR rs)) 1 5, .var [int st, .ref (.vec 3 0)], .vec (vecR (List.map AttT.row ats)) 0 5], m := [] }) (e := Exit.exit 2) pok [.st (.mask [0, 1, 2, 6, 16, 17, 18])] [.b false] (by kernel_rfl) (.c hlt .n)) (by rfl) (by rfl)
theorem ofIn_len {w : WorldT} {known n : Int} {s : RA} (p : PtT) : (ofIn w known n s p).1.length ≤ s.1.length + 1 ∧ (ofIn w known n s p).2.length ≤ s.2.length + 1 := by
 unfold ofIn
 cases attBad p
 ·have := rdT_len 1 n 0 p.term
  simp; omega
 ·simp
theorem oi_cw {w : WorldT} (hw : w.ok) {known st term : Int} {ns : List (List Dp)} {ni n : Int} {ps : List PtT} (hp : ps.length ≤ 2000) {rs0 rs : List ReadT} {ats : List AttT} (hb : rs.length ≤ 999990000) (ha : ats.length ≤ 999990000) :
  CW Tryz.prog Γk (lkH w known rs0 0) false (.loop (sub Tryz.f60 1)) (oiS w known st term ns ni n (ps.map PtT.row) rs ats 0) (.exit 2) { t := mkT 67 0 [(0, .ref (.ptr 0 0)), (1, int st), (2, int term), (6, .ref (.ptr 2 0)), (16, rD ns), (17, int ns.length), (18, int ni)], h := ofH w known st (ps.foldl (ofIn w known n) (rs, ats)).1 (ps.foldl (ofIn w known n) (rs, ats)).2, m := [] } := by
 have hl : Short ps := by unfold Short; omega
 have := CW.each (P := Tryz.prog) (Γ := Γk) (h0 := lkH w known rs0 0) (rd := false) (c := sub Tryz.f60 1) (σ := RA) (ρ := Empty) ps (fun p s => .inl (ofIn w known n s p))
  (fun j s => oiS w known st term ns ni n (ps.map PtT.row) s.1 s.2 (j : Int)) (.exit 2) (fun s => { t := mkT 67 0 [(0, .ref (.ptr 0 0)), (1, int st), (2, int term), (6, .ref (.ptr 2 0)), (16, rD ns), (17, int ns.length), (18, int ni)], h := ofH w known st s.1 s.2, m := [] }) (fun r => r.elim)
  (fun j s => s.1.length ≤ rs.length + j ∧ s.2.length ≤ ats.length + j) (by simp) (fun r => r.elim) ?_ ?_ (rs, ats) (by simp)
 ·rw [forL_fold] at this
  exact this
 ·intro j p s hpj hs
  have hi := (List.getElem?_eq_some_iff.1 hpj).1
  refine ⟨fun s' h => by cases h; have := ofIn_len (w := w) (known := known) (n := n) (s := s) p; omega, oi_body hw (rowAt hpj rfl) (lt_len _ hi) (wrap_succ hi hl) (by omega) (by omega)⟩
 ·intro s _
  exact oi_last (ge_len _ ps)
theorem pointsR_len {kk ks ko frm to known : Int} {l : List FactT} : (pointsR kk ks ko frm to known l).length ≤ 1024 := by
 have key : ∀ (rs : List Int) (ns : List Nat) (l : List PtT), (ns.foldl (fun l n => ptF (rs.getD n 0) n l) l).length ≤ l.length + ns.length := by
  intro rs ns
  induction ns with
  | nil => intro l; simp
  | cons n ns ih => intro l; have := ih (ptF (rs.getD n 0) n l); have h2 := ptF_len (rs.getD n 0) n l; simp only [List.foldl_cons, List.length_cons]; omega
 unfold pointsR ptIn
 refine Nat.le_trans (key _ _ _) ?_
 have : ptHi to ≤ 1024 := by unfold ptHi; split <;> omega
 simp only [List.length_nil, List.length_range']
 have : 0 ≤ ptLo frm := ptLo_nn frm
 omega
abbrev ooS (w : WorldT) (known st term : Int) (ns : List (List Dp)) (rs : List ReadT) (ats : List AttT) (i : Int) : AS :=
 { t := mkT 67 0 [(0, .ref (.ptr 0 0)), (1, int st), (2, int term), (6, .ref (.ptr 2 0)), (16, rD ns), (17, int ns.length), (18, int i)], h := ofH w known st rs ats, m := [] }
def ofOut (w : WorldT) (known st term : Int) (s : RA) (n : Int) : RA := (pointsR 5 st n 0 term known w.f).foldl (ofIn w known n) (s.1 ++ [⟨5, st, n, 0, term⟩], s.2)
noncomputable abbrev oo_body_x0 (w : WorldT) (known : Int) (st : Int) (rs : List ReadT) (ats : List AttT) : List Blk := [.var [.ref (.vec 1 1), rD (List.map CourseT.row w.c), rD w.p, rD (List.map SysT.row w.s), rD (List.map FactT.row w.f), int known], .vec (vecR (rdR rs)) 1 5, .var [int st, .ref (.vec 3 0)], .vec (vecR (List.map AttT.row ats)) 0 5]
theorem oo_body {w : WorldT} (hw : w.ok) {known st term : Int} {ns : List (List Dp)} {n : Int} {rs0 rs : List ReadT} {ats : List AttT} {i : Nat} (hr : RowAt (i : Int) ns [vi n] 1) (hlt : decide ((i : Int) < (ns.length : Int)) = true) (hwr : IntKind.i64.wrap ((i : Int) + 1) = ((i + 1 : Nat) : Int)) (hb : rs.length ≤ 999980000) (ha : ats.length ≤ 999980000) : (CW Tryz.prog Γk (lkH w known rs0 0) false (sub Tryz.f60 0) (ooS w known st term ns rs ats i) .normal (ooS w known st term ns (ofOut w known st term (rs, ats) n).1 (ofOut w known st term (rs, ats) n).2 ((i + 1 : Nat) : Int))) := by
 have hl0 := (@oi_cw (w) (hw) (known) (st) (term) (ns) ((↑i : Int)) (n) (pointsR 5 st n 0 term known w.f) (by first | assumption | rfl | omega | exact vecR_map _ _ | exact Nat.le_trans pointsR_len (by omega) | (simp; omega)) (rs0) (rs ++ [{ kind := 5, sub := st, obj := n, frm := 0, til := term }]) (ats) (by first | assumption | rfl | omega | exact vecR_map _ _ | exact Nat.le_trans pointsR_len (by omega) | (simp; omega)) (by first | assumption | rfl | omega | exact vecR_map _ _ | exact Nat.le_trans pointsR_len (by omega) | (simp; omega)))
 refine CW.cast (CW.symX (s' := { t := mkT 67 0 [(0, .ref (.ptr 0 0)), (1, int st), (2, int term), (6, .ref (.ptr 2 0)), (16, rD ns), (17, int (↑(List.length ns) : Int)), (18, int (IntKind.wrap IntKind.i64 ((↑i : Int) + 1)))], h := [.var [.ref (.vec 1 1), rD (List.map CourseT.row w.c), rD w.p, rD (List.map SysT.row w.s), rD (List.map FactT.row w.f), int known], .vec (vecR (rdR (List.foldl (ofIn w known n) (rs ++ [{ kind := 5, sub := st, obj := n, frm := 0, til := term }], ats) (pointsR 5 st n 0 term known w.f)).fst)) 1 5, .var [int st, .ref (.vec 3 0)], .vec (vecR (List.map AttT.row (List.foldl (ofIn w known n) (rs ++ [{ kind := 5, sub := st, obj := n, frm := 0, til := term }], ats) (pointsR 5 st n 0 term known w.f)).snd)) 0 5], m := [] }) (e := Exit.normal) pok [.st (.mask [0, 1, 2, 6, 16, 17, 18])] [.b true, .row [vi n], .call (rD (List.map PtT.row (pointsR 5 st n 0 term known w.f))) [.var [.ref (.vec 1 2), rD (List.map CourseT.row w.c), rD w.p, rD (List.map SysT.row w.s), rD (List.map FactT.row w.f), int known], .vec (vecR (rdR (rs ++ [{ kind := 5, sub := st, obj := n, frm := 0, til := term }]))) 2 5, .var [int st, .ref (.vec 3 0)], .vec (vecR (List.map AttT.row ats)) 0 5], .st (.ren 1 1), .sum [0, 1, 2, 6, 8, 16, 17, 18, 26, 27, 28] (Exit.exit 2) { t := mkT 67 0 [(0, .ref (.ptr 0 0)), (1, int st), (2, int term), (6, .ref (.ptr 2 0)), (16, rD ns), (17, int (↑(List.length ns) : Int)), (18, int (↑i : Int))], h := [.var [.ref (.vec 1 1), rD (List.map CourseT.row w.c), rD w.p, rD (List.map SysT.row w.s), rD (List.map FactT.row w.f), int known], .vec (vecR (rdR (List.foldl (ofIn w known n) (rs ++ [{ kind := 5, sub := st, obj := n, frm := 0, til := term }], ats) (pointsR 5 st n 0 term known w.f)).fst)) 1 5, .var [int st, .ref (.vec 3 0)], .vec (vecR (List.map AttT.row (List.foldl (ofIn w known n) (rs ++ [{ kind := 5, sub := st, obj := n, frm := 0, til := term }], ats) (pointsR 5 st n 0 term known w.f)).snd)) 0 5], m := [] }] (by kernel_rfl) (.c hlt (.c hr (.c (show Ev Tryz.prog Γk 115 [.ref (.ptr 0 0), int st, int n, int term] (oo_body_x0 w known st rs ats) (rD (List.map PtT.row (pointsR 5 st n 0 term known w.f))) [.var [.ref (.vec 1 2), rD (List.map CourseT.row w.c), rD w.p, rD (List.map SysT.row w.s), rD (List.map FactT.row w.f), int known], .vec (vecR (rdR (rs ++ [{ kind := 5, sub := st, obj := n, frm := 0, til := term }]))) 2 5, .var [int st, .ref (.vec 3 0)], .vec (vecR (List.map AttT.row ats)) 0 5] from (Ev.castH (Ev.frameX (args := [.ref (.ptr 0 0), int st, int n, int term]) (H := (oo_body_x0 w known st rs ats)) [0, 1] (Ev.upX [0, 1] (@lkgrades_ev (w) (hw) (known) (st) (n) (term) (rs) (by first | assumption | rfl | omega | exact vecR_map _ _ | exact Nat.le_trans pointsR_len (by omega) | (simp; omega))) (by kernel_rfl) ⟨?_, trivial⟩ ⟨?_, trivial⟩) (by kernel_rfl) (by kernel_rfl) (by kernel_rfl) ⟨?_, trivial⟩ ⟨?_, trivial⟩) (by kernel_rfl) (by kernel_rfl))) (.c (show List.map (D.mapRL (renR 1 2 1)) (vecR (rdR (rs ++ [{ kind := 5, sub := st, obj := n, frm := 0, til := term }]))) = vecR (rdR (rs ++ [{ kind := 5, sub := st, obj := n, frm := 0, til := term }])) from (by first | assumption | rfl | omega | exact vecR_map _ _ | exact Nat.le_trans pointsR_len (by omega) | (simp; omega))) (.c (show List.map (D.mapRL (renR 1 2 1)) (vecR (List.map AttT.row ats)) = vecR (List.map AttT.row ats) from (by first | assumption | rfl | omega | exact vecR_map _ _ | exact Nat.le_trans pointsR_len (by omega) | (simp; omega))) (.c hl0 .n))))))) (by first | rfl | (simp only [hwr]; rfl)) (by first | rfl | (simp only [hwr]; rfl)) <;> (first | rfl | exact mapRL_rows _ _ | first | assumption | rfl | omega | exact vecR_map _ _ | exact Nat.le_trans pointsR_len (by omega) | (simp; omega))
theorem oo_last {w : WorldT} {known st term : Int} {ns : List (List Dp)} {rs0 rs : List ReadT} {ats : List AttT} {i : Nat} (hlt : decide ((i : Int) < (ns.length : Int)) = false) : (CW Tryz.prog Γk (lkH w known rs0 0) false (sub Tryz.f60 0) (ooS w known st term ns rs ats i) (.exit 0) { t := mkT 67 0 [(6, .ref (.ptr 2 0))], h := ofH w known st rs ats, m := [] }) := by
 exact CW.cast (CW.symX (s' := { t := mkT 67 0 [(6, .ref (.ptr 2 0))], h := [.var [.ref (.vec 1 1), rD (List.map CourseT.row w.c), rD w.p, rD (List.map SysT.row w.s), rD (List.map FactT.row w.f), int known], .vec (vecR (rdR rs)) 1 5, .var [int st, .ref (.vec 3 0)], .vec (vecR (List.map AttT.row ats)) 0 5], m := [] }) (e := Exit.exit 0) pok [.st (.mask [6])] [.b false] (by kernel_rfl) (.c hlt .n)) (by rfl) (by rfl)
theorem ofFold_len {w : WorldT} {known n : Int} : ∀ (ps : List PtT) (s : RA), (ps.foldl (ofIn w known n) s).1.length ≤ s.1.length + ps.length ∧ (ps.foldl (ofIn w known n) s).2.length ≤ s.2.length + ps.length
 | [], s => by simp
 | p :: ps, s => by
  have h1 := ofIn_len (w := w) (known := known) (n := n) (s := s) p
  have h2 := ofFold_len (w := w) (known := known) (n := n) ps (ofIn w known n s p)
  simp only [List.foldl_cons, List.length_cons]
  omega
theorem ofOut_len {w : WorldT} {known st term : Int} (s : RA) (n : Int) : (ofOut w known st term s n).1.length ≤ s.1.length + 1025 ∧ (ofOut w known st term s n).2.length ≤ s.2.length + 1024 := by
 unfold ofOut
 have h1 := ofFold_len (w := w) (known := known) (n := n) (pointsR 5 st n 0 term known w.f) (s.1 ++ [⟨5, st, n, 0, term⟩], s.2)
 have h2 := pointsR_len (kk := 5) (ks := st) (ko := n) (frm := 0) (to := term) (known := known) (l := w.f)
 simp only [List.length_append, List.length_cons, List.length_nil] at h1
 omega
theorem oo_g {w : WorldT} (hw : w.ok) {known st term : Int} {ns : List Int} (hn : ns.length ≤ 69000) {rs0 rs : List ReadT} (hb : rs.length ≤ 800000000) {ats : List AttT} (ha : ats.length ≤ 1000) :
  CW Tryz.prog Γk (lkH w known rs0 0) false (.loop (sub Tryz.f60 0)) (ooS w known st term (ns.map fun n => [vi n]) rs ats 0) (.exit 0) { t := mkT 67 0 [(6, .ref (.ptr 2 0))], h := ofH w known st (ns.foldl (ofOut w known st term) (rs, ats)).1 (ns.foldl (ofOut w known st term) (rs, ats)).2, m := [] } := by
 have hl : Short ns := by unfold Short; omega
 have := CW.each (P := Tryz.prog) (Γ := Γk) (h0 := lkH w known rs0 0) (rd := false) (c := sub Tryz.f60 0) (σ := RA) (ρ := Empty) ns (fun n s => .inl (ofOut w known st term s n))
  (fun i s => ooS w known st term (ns.map fun n => [vi n]) s.1 s.2 (i : Int)) (.exit 0) (fun s => { t := mkT 67 0 [(6, .ref (.ptr 2 0))], h := ofH w known st s.1 s.2, m := [] }) (fun r => r.elim)
  (fun i s => s.1.length ≤ rs.length + i * 1025 ∧ s.2.length ≤ ats.length + i * 1025) (by simp) (fun r => r.elim) ?_ ?_ (rs, ats) (by simp)
 ·rw [forL_fold] at this
  exact this
 ·intro i n s hni hs
  have hi := (List.getElem?_eq_some_iff.1 hni).1
  refine ⟨fun s' h => by cases h; have := ofOut_len (w := w) (known := known) (st := st) (term := term) s n; omega, oo_body hw (rowAt (row := fun n => [vi n]) hni rfl) (lt_len (fun n => [vi n]) hi) (wrap_succ hi hl) (by omega) (by omega)⟩
 ·intro s _
  exact oo_last (ge_len (fun n => [vi n]) ns)
theorem oo_cw {w : WorldT} (hw : w.ok) {known st term : Int} {ns : List Int} (hn : ns.length ≤ 69000) {rs0 rs : List ReadT} (hb : rs.length ≤ 800000000) :
  CW Tryz.prog Γk (lkH w known rs0 0) false (.loop (sub Tryz.f60 0)) (ooS w known st term (ns.map fun n => [vi n]) rs [] 0) (.exit 0) { t := mkT 67 0 [(6, .ref (.ptr 2 0))], h := ofH w known st (ns.foldl (ofOut w known st term) (rs, [])).1 (ns.foldl (ofOut w known st term) (rs, [])).2, m := [] } := oo_g hw hn hb (by simp)
def recR (w : WorldT) (known st term : Int) (rs : List ReadT) : RA := (numbersR w.f known).foldl (ofOut w known st term) (rs ++ [rdN], [])
def recAtts (w : WorldT) (known st term : Int) (rs : List ReadT) : List AttT := (recR w known st term rs).2.mergeSort leA
theorem numbersR_len {fs : List FactT} {known : Int} : (numbersR fs known).length ≤ fs.length := by
 have := forL_nu_len (many := manyOf fs known) fs []
 simp only [List.length_nil, Nat.zero_add] at this
 unfold numbersR numsOf
 simpa using this
noncomputable abbrev of_a_x0 (w : WorldT) (known : Int) (st : Int) (term : Int) (rs : List ReadT) : List Blk := [.var [.ref (.vec 1 1), rD (List.map CourseT.row w.c), rD w.p, rD (List.map SysT.row w.s), rD (List.map FactT.row w.f), int known], .vec (vecR (rdR (List.foldl (ofOut w known st term) (rs ++ [rdN], []) (numbersR w.f known)).fst)) 1 5, .var [int st, .ref (.vec 3 0)], .vec (vecR (List.map AttT.row (List.foldl (ofOut w known st term) (rs ++ [rdN], []) (numbersR w.f known)).snd)) 0 5]
noncomputable abbrev of_a_x1 (w : WorldT) (known : Int) (st : Int) (term : Int) (rs : List ReadT) : List Blk := [.var [.ref (.vec 1 1), rD (List.map CourseT.row w.c), rD w.p, rD (List.map SysT.row w.s), rD (List.map FactT.row w.f), int known], .vec (vecR (rdR (List.foldl (ofOut w known st term) (rs ++ [rdN], []) (numbersR w.f known)).fst)) 1 5, .var [int st, .ref (.vec 3 0)], .vec (vecR (List.map AttT.row (List.mergeSort (recR w known st term rs).snd leA))) 0 5]
theorem of_a {w : WorldT} (hw : w.ok) {known st term : Int} {rs : List ReadT} (hb : rs.length ≤ 700000000) (hn : (numbersR w.f known).length ≤ 69000) (hl : (recR w known st term rs).2.length < 4611686018427387904) (hT : ∀ x ∈ (recR w known st term rs).2, ∀ y ∈ (recR w known st term rs).2, x.term = y.term → x.course = y.course → x = y) : (Ev Tryz.prog Γk 60 [.ref (.ptr 0 0), int st, int term] (lkH w known rs 0) (.agg [int st, rD ((recAtts w known st term rs).map AttT.row)]) (lkH w known (recR w known st term rs).1 1)) := by
 have hl0 := (@oo_cw (w) (hw) (known) (st) (term) (numbersR w.f known) (hn) (rs) (rs ++ [rdN]) (by first | assumption | rfl | omega | exact vecR_map _ _ | exact inn_vecR | (simp; omega)))
 refine Ev.castH (Ev.post (d2 := D.agg [int st, rD (List.map AttT.row (recAtts w known st term rs))]) (h2 := [.var [.ref (.vec 1 1), rD (List.map CourseT.row w.c), rD w.p, rD (List.map SysT.row w.s), rD (List.map FactT.row w.f), int known], .vec (vecR (rdR (List.foldl (ofOut w known st term) (rs ++ [rdN], []) (numbersR w.f known)).fst)) 1 5]) (φ := [vecR (List.map AttT.row (List.mergeSort (recR w known st term rs).snd leA)) = List.map (fun x => List.map D.p x) (List.map AttT.row (recAtts w known st term rs)), List.map (D.mapRL (frzR 3 0 (List.map AttT.row (recAtts w known st term rs)))) (vecR (rdR (List.foldl (ofOut w known st term) (rs ++ [rdN], []) (numbersR w.f known)).fst)) = vecR (rdR (List.foldl (ofOut w known st term) (rs ++ [rdN], []) (numbersR w.f known)).fst), Blk.inn 2 (match 0 == 3 with | true => .gone | false => keepX (frzR 3 0 (List.map AttT.row (recAtts w known st term rs))) (.var [.ref (.vec 1 1), rD (List.map CourseT.row w.c), rD w.p, rD (List.map SysT.row w.s), rD (List.map FactT.row w.f), int known])) = true, Blk.inn 2 (match 0 + 1 == 3 with | true => .gone | false => keepX (frzR 3 0 (List.map AttT.row (recAtts w known st term rs))) (.vec (vecR (rdR (List.foldl (ofOut w known st term) (rs ++ [rdN], []) (numbersR w.f known)).fst)) 1 5)) = true]) [.st (.frz 3 (List.map AttT.row (recAtts w known st term rs))), .st (.trimV 2)] (Ev.of_sym (h' := (of_a_x1 w known st term rs)) (d := D.agg [int st, .ref (.vec 3 0)]) pok [.call (rD (List.map (fun n => [vi n]) (numbersR w.f known))) [.var [.ref (.vec 1 1), rD (List.map CourseT.row w.c), rD w.p, rD (List.map SysT.row w.s), rD (List.map FactT.row w.f), int known], .vec (vecR (rdR (rs ++ [rdN]))) 1 5, .var [int st, nq]], .st (.nilC 2 1 5), .sum [0, 1, 2, 6, 16, 17, 18] (Exit.exit 0) { t := mkT 67 0 [(6, .ref (.ptr 2 0))], h := (of_a_x0 w known st term rs), m := [] }, .call (D.tup []) (of_a_x1 w known st term rs)] (by kernel_rfl) (.c (show Ev Tryz.prog Γk 62 [.ref (.ptr 0 0)] [.var [.ref (.vec 1 0), rD (List.map CourseT.row w.c), rD w.p, rD (List.map SysT.row w.s), rD (List.map FactT.row w.f), int known], .vec (vecR (rdR rs)) 0 5, .var [int st, nq]] (rD (List.map (fun n => [vi n]) (numbersR w.f known))) [.var [.ref (.vec 1 1), rD (List.map CourseT.row w.c), rD w.p, rD (List.map SysT.row w.s), rD (List.map FactT.row w.f), int known], .vec (vecR (rdR (rs ++ [rdN]))) 1 5, .var [int st, nq]] from (Ev.castH (Ev.frameX (args := [.ref (.ptr 0 0)]) (H := [.var [.ref (.vec 1 0), rD (List.map CourseT.row w.c), rD w.p, rD (List.map SysT.row w.s), rD (List.map FactT.row w.f), int known], .vec (vecR (rdR rs)) 0 5, .var [int st, nq]]) [0, 1] (@lknum_ev (w) (hw) (known) (rs) ?_) (by kernel_rfl) (by kernel_rfl) (by kernel_rfl) ⟨(by first | rfl | exact mapRL_rows _ _ | first | assumption | rfl | omega | exact vecR_map _ _ | exact inn_vecR | (simp; omega)), trivial⟩ ⟨(by first | rfl | exact mapRL_rows _ _ | first | assumption | rfl | omega | exact vecR_map _ _ | exact inn_vecR | (simp; omega)), trivial⟩) (by kernel_rfl) (by kernel_rfl))) (.c hl0 (.c (Ev.glob0 (Γ' := Γk) (@sortAttR_ev ((of_a_x0 w known st term rs)) (3) (0) ((recR w known st term rs).snd) ?_ (hl) (hT))) .n)))) (by kernel_rfl) ⟨?_, ?_, rfl, ?_, trivial⟩) (by rfl) (by rfl) <;> (first | assumption | rfl | omega | exact vecR_map _ _ | exact inn_vecR | (simp; omega))
end Go.Vi
open Go Go.Proofs
namespace Go.Vi
def ptO (rs : List Int) (n : Nat) : Option PtT := bif decide (rs.getD n 0 ≥ 0) then some ⟨(n : Int), rs.getD n 0⟩ else none
theorem ptIn_eq (rs : List Int) (x to : Int) : ptIn rs x to = (List.range' x.toNat (ptHi to - x).toNat).filterMap (ptO rs) := by
 have key : ∀ (ns : List Nat) (l : List PtT), ns.foldl (fun l n => ptF (rs.getD n 0) n l) l = l ++ ns.filterMap (ptO rs) := by
  intro ns
  induction ns with
  | nil => intro l; simp
  | cons n ns ih =>
   intro l
   rw [List.foldl_cons, ih, List.filterMap_cons]
   unfold ptF ptO
   cases decide (rs.getD n 0 ≥ 0) <;> simp
 unfold ptIn
 rw [key]; simp
theorem pts_inc {rs : List Int} {x to : Int} : (ptIn rs x to).Pairwise fun p q => p.term < q.term := by
 rw [ptIn_eq]
 refine List.Pairwise.filterMap (R := fun a b => a < b) (ptO rs) ?_ (List.pairwise_lt_range' ..)
 intro a b hab p hp q hq
 unfold ptO at hp hq
 cases h1 : decide (rs.getD a 0 ≥ 0) <;> rw [h1] at hp <;> simp at hp
 cases h2 : decide (rs.getD b 0 ≥ 0) <;> rw [h2] at hq <;> simp at hq
 subst hp; subst hq
 simp; exact hab
theorem points_inc {kk ks ko frm to known : Int} {l : List FactT} : (pointsR kk ks ko frm to known l).Pairwise fun p q => p.term < q.term := pts_inc
def attO (w : WorldT) (known n : Int) (p : PtT) : Option AttT := bif attBad p then none else some (attOf w known n p)
def rdO (n : Int) (p : PtT) : List ReadT := bif attBad p then [] else rdT 1 n 0 p.term
theorem ofFold_eq (w : WorldT) (known n : Int) : ∀ (ps : List PtT) (s : RA), ps.foldl (ofIn w known n) s = (s.1 ++ ps.flatMap (rdO n), s.2 ++ ps.filterMap (attO w known n))
 | [], s => by simp
 | p :: ps, s => by
  rw [List.foldl_cons, ofFold_eq w known n ps, List.filterMap_cons, List.flatMap_cons]
  unfold ofIn attO rdO
  cases attBad p <;> simp
abbrev ptsOf (w : WorldT) (known st term n : Int) : List PtT := pointsR 5 st n 0 term known w.f
def readsOf (w : WorldT) (known st term n : Int) : List ReadT := ⟨5, st, n, 0, term⟩ :: (ptsOf w known st term n).flatMap (rdO n)
def attsOf (w : WorldT) (known st term n : Int) : List AttT := (ptsOf w known st term n).filterMap (attO w known n)
theorem ofOut_eq (w : WorldT) (known st term : Int) (s : RA) (n : Int) : ofOut w known st term s n = (s.1 ++ readsOf w known st term n, s.2 ++ attsOf w known st term n) := by
 unfold ofOut
 rw [ofFold_eq]
 simp [readsOf, attsOf]
theorem recR_eq (w : WorldT) (known st term : Int) (rs : List ReadT) : recR w known st term rs = (rs ++ rdN :: (numbersR w.f known).flatMap (readsOf w known st term), (numbersR w.f known).flatMap (attsOf w known st term)) := by
 have key : ∀ (ns : List Int) (s : RA), ns.foldl (ofOut w known st term) s = (s.1 ++ ns.flatMap (readsOf w known st term), s.2 ++ ns.flatMap (attsOf w known st term)) := by
  intro ns
  induction ns with
  | nil => intro s; simp
  | cons n ns ih => intro s; rw [List.foldl_cons, ih, ofOut_eq]; simp
 unfold recR
 rw [key]; simp
def recReads (w : WorldT) (known st term : Int) : List ReadT := rdN :: (numbersR w.f known).flatMap (readsOf w known st term)
def recRaw (w : WorldT) (known st term : Int) : List AttT := (numbersR w.f known).flatMap (attsOf w known st term)
def recA (w : WorldT) (known st term : Int) : List AttT := (recRaw w known st term).mergeSort leA
theorem attsOf_course {w : WorldT} {known st term n : Int} {a : AttT} (h : a ∈ attsOf w known st term n) : a.course = n ∧ ∃ p ∈ ptsOf w known st term n, attBad p = false ∧ a = attOf w known n p := by
 unfold attsOf at h
 obtain ⟨p, hp, he⟩ := List.mem_filterMap.1 h
 unfold attO at he
 cases hb : attBad p <;> rw [hb] at he <;> simp at he
 subst he
 exact ⟨rfl, p, hp, hb, rfl⟩
theorem rec_diff {w : WorldT} {known st term : Int} : ∀ x ∈ recRaw w known st term, ∀ y ∈ recRaw w known st term, x.term = y.term → x.course = y.course → x = y := by
 intro x hx y hy ht hc
 obtain ⟨n, hn, hx⟩ := List.mem_flatMap.1 hx
 obtain ⟨n', hn', hy⟩ := List.mem_flatMap.1 hy
 obtain ⟨e1, p, hp, _, rfl⟩ := attsOf_course hx
 obtain ⟨e2, q, hq, _, rfl⟩ := attsOf_course hy
 have : n = n' := by rw [← e1, ← e2, hc]
 subst this
 have hpq : p = q := by
  have hinc := points_inc (kk := 5) (ks := st) (ko := n) (frm := 0) (to := term) (known := known) (l := w.f)
  have key : ∀ (l : List PtT), l.Pairwise (fun p q => p.term < q.term) → ∀ p ∈ l, ∀ q ∈ l, p.term = q.term → p = q := by
   intro l
   induction l with
   | nil => intro _ p hp; simp at hp
   | cons a l ih =>
    intro hl p hp q hq e
    rw [List.pairwise_cons] at hl
    rcases List.mem_cons.1 hp with hp1 | hp1 <;> rcases List.mem_cons.1 hq with hq1 | hq1
    ·rw [hp1, hq1]
    ·have := hl.1 q hq1; rw [hp1] at e; omega
    ·have := hl.1 p hp1; rw [hq1] at e; omega
    ·exact ih hl.2 p hp1 q hq1 e
  exact key _ hinc p hp q hq ht
 rw [hpq]
theorem flatMap_len {α β : Type} (f : α → List β) (k : Nat) : ∀ l : List α, (∀ a ∈ l, (f a).length ≤ k) → (l.flatMap f).length ≤ l.length * k
 | [], _ => by simp
 | a :: l, h => by
  have := flatMap_len f k l (fun b hb => h b (by simp [hb]))
  have h1 := h a (by simp)
  simp only [List.flatMap_cons, List.length_append, List.length_cons, Nat.add_mul]
  omega
theorem recRaw_len {w : WorldT} (hw : w.ok) {known st term : Int} : (recRaw w known st term).length ≤ 70656000 := by
 have h1 := flatMap_len (attsOf w known st term) 1024 (numbersR w.f known) (fun n _ => Nat.le_trans (List.length_filterMap_le ..) pointsR_len)
 have h2 := numbersR_len (fs := w.f) (known := known)
 have h3 := hw.lf
 unfold recRaw
 have : (numbersR w.f known).length * 1024 ≤ 69000 * 1024 := Nat.mul_le_mul_right _ (by omega)
 omega
theorem readsOf_len {w : WorldT} {known st term n : Int} : (readsOf w known st term n).length ≤ 1025 := by
 unfold readsOf
 have h1 := flatMap_len (rdO n) 1 (ptsOf w known st term n) (fun p _ => by unfold rdO; cases attBad p <;> simp [rdT_len])
 have h2 := pointsR_len (kk := 5) (ks := st) (ko := n) (frm := 0) (to := term) (known := known) (l := w.f)
 simp only [List.length_cons]
 simp only [ptsOf] at h1 ⊢
 omega
theorem recReads_len {w : WorldT} (hw : w.ok) {known st term : Int} : (recReads w known st term).length ≤ 70725001 := by
 have h1 := flatMap_len (readsOf w known st term) 1025 (numbersR w.f known) (fun n _ => readsOf_len)
 have h2 := numbersR_len (fs := w.f) (known := known)
 have h3 := hw.lf
 unfold recReads
 have : (numbersR w.f known).length * 1025 ≤ 69000 * 1025 := Nat.mul_le_mul_right _ (by omega)
 simp only [List.length_cons]
 omega
theorem recOf_ev {w : WorldT} (hw : w.ok) {known st term : Int} {rs : List ReadT} (hb : rs.length ≤ 700000000) : Ev Tryz.prog Γk 60 [.ref (.ptr 0 0), int st, int term] (lkH w known rs 0) (.agg [int st, rD ((recA w known st term).map AttT.row)]) (lkH w known (rs ++ recReads w known st term) 1) := by
 have h := of_a hw (known := known) (st := st) (term := term) hb (Nat.le_trans numbersR_len hw.lf) (by rw [recR_eq]; have := recRaw_len hw (known := known) (st := st) (term := term); unfold recRaw at this; simp only; omega) (by rw [recR_eq]; exact rec_diff)
 unfold recAtts at h
 rw [recR_eq] at h
 exact h
end Go.Vi
open Go Go.Proofs
namespace Go.Vi
set_option maxRecDepth 100000
set_option maxHeartbeats 4000000
theorem recOf0 {w : WorldT} (hw : w.ok) {known st term : Int} : Ev Tryz.prog Γk 60 [.ref (.ptr 0 0), int st, int term] (lkH w known [] 0) (.agg [int st, rD ((recA w known st term).map AttT.row)]) (lkH w known (recReads w known st term) 1) := by
 have := recOf_ev hw (known := known) (st := st) (term := term) (rs := []) (by simp)
 simpa using this
def badOf (st term : Int) : Bool := !(decide (st ≥ 0) && decide (st ≤ 19999)) || !(decide (term ≥ 0) && decide (term ≤ 1024))
structure RecT where
 st : Int
 a : List AttT
def RecT.l (r : RecT) : List D := [int r.st, rD (r.a.map AttT.row)]
def rofR (w : WorldT) (st term known : Int) : RecT × List ReadT × Int := match badOf st term with
 | true => (⟨0, []⟩, [], 150)
 | false => (⟨st, recA w known st term⟩, recReads w known st term, 0)
def rofX (st term : Int) (rr : List ReadT) (aa : List AttT) : RecT × List ReadT × Int := match badOf st term with
 | true => (⟨0, []⟩, [], 150)
 | false => (⟨st, aa⟩, rr, 0)
noncomputable abbrev rof_a_x0 (w : WorldT) : List Blk := [.var [rD (List.map CourseT.row w.c), rD w.p, rD (List.map SysT.row w.s), rD (List.map FactT.row w.f)], .var [int 0, nq]]
theorem rof_a {w : WorldT} {st term known : Int} {rr : List ReadT} {aa : List AttT} (hof : Ev Tryz.prog Γk 60 [.ref (.ptr 0 0), int st, int term] (lkH w known [] 0) (.agg [int st, rD (aa.map AttT.row)]) (lkH w known rr 1)) (h : List Blk) : (Ev Tryz.prog Γk 23 [.agg w.l, int st, int term, int known] h (.tup [.agg (rofX st term rr aa).1.l, rD (rdR (rofX st term rr aa).2.1), int (rofX st term rr aa).2.2]) h) := by
 cases hc0 : !(decide (st ≥ 0) && decide (st ≤ 19999)) || !(decide (term ≥ 0) && decide (term ≤ 1024))
 ·refine Ev.castH (Ev.nilW (Ev.sym0 (d := D.tup [D.agg [int st, rD (List.map AttT.row aa)], rD (rdR rr), int 0]) pok [.val (bool (decide (st ≥ 0) && decide (st ≤ 19999))), .val (bool (decide (term ≥ 0) && decide (term ≤ 1024))), .b false, .nx 1, .st (.nilC 2 0 5), .call (D.agg [int st, rD (List.map AttT.row aa)]) [.var (WorldT.l w), .var [int 0, nq], .var [.ref (.vec 3 1), rD (List.map CourseT.row w.c), rD w.p, rD (List.map SysT.row w.s), rD (List.map FactT.row w.f), int known], .vec (vecR (rdR rr)) 1 5], .st (.frz 3 (rdR rr))] (by kernel_rfl) (.c (Ev.glob0 (Γ' := Γk) (@w59_ev (st) (0) (19999) ((rof_a_x0 w)))) (.c (show (!!(decide (st ≥ 0) && decide (st ≤ 19999))) = true → Ev Tryz.prog Γk 59 [int term, int 0, int 1024] (rof_a_x0 w) (bool (decide (term ≥ 0) && decide (term ≤ 1024))) (rof_a_x0 w) from (fun hg => (Ev.glob0 (@w59_ev (term) (0) (1024) ((rof_a_x0 w)))))) (.c hc0 (.c (show Ev Tryz.prog Γk 60 [.ref (.ptr 2 0), int st, int term] [.var (WorldT.l w), .var [int 0, nq], .var [.ref (.vec 3 0), rD (List.map CourseT.row w.c), rD w.p, rD (List.map SysT.row w.s), rD (List.map FactT.row w.f), int known], .vec [] 0 5] (D.agg [int st, rD (List.map AttT.row aa)]) [.var (WorldT.l w), .var [int 0, nq], .var [.ref (.vec 3 1), rD (List.map CourseT.row w.c), rD w.p, rD (List.map SysT.row w.s), rD (List.map FactT.row w.f), int known], .vec (vecR (rdR rr)) 1 5] from (Ev.castH (Ev.frameX (args := [.ref (.ptr 2 0), int st, int term]) (H := [.var (WorldT.l w), .var [int 0, nq], .var [.ref (.vec 3 0), rD (List.map CourseT.row w.c), rD w.p, rD (List.map SysT.row w.s), rD (List.map FactT.row w.f), int known], .vec [] 0 5]) [2, 3] (@hof) (by kernel_rfl) (by kernel_rfl) (by kernel_rfl) ⟨?_, trivial⟩ ⟨?_, trivial⟩) (by kernel_rfl) (by kernel_rfl))) (.c (show vecR (rdR rr) = List.map (fun x => List.map D.p x) (rdR rr) from (by first | assumption | rfl | omega | exact vecR_map _ _ | exact inn_vecR)) (.e (D.agg [int st, rD (List.map AttT.row aa)]) (.e (.ref (.ptr 2 0)) (.e (.ref (.ptr 2 0)) (.e (.ref (.ptr 2 0)) (.e (.ref (.ptr 2 0)) (.e (rD (rdR rr)) (.e (rD (rdR rr)) .n)))))))))))) rfl rfl h)) (by first | (have hh : badOf st term = true := hc0; simp only [rofX, hh]; rfl) | (have hh : badOf st term = false := hc0; simp only [rofX, hh]; rfl)) (by rfl) <;> (first | rfl | exact mapRL_rows _ _ | first | assumption | rfl | omega | exact vecR_map _ _ | exact inn_vecR)
 ·exact Ev.castH (Ev.nilW (Ev.sym0 (d := D.tup [D.agg [int 0, nq], nq, int 150]) pok [.val (bool (decide (st ≥ 0) && decide (st ≤ 19999))), .val (bool (decide (term ≥ 0) && decide (term ≤ 1024))), .b true] (by kernel_rfl) (.c (Ev.glob0 (Γ' := Γk) (@w59_ev (st) (0) (19999) ((rof_a_x0 w)))) (.c (show (!!(decide (st ≥ 0) && decide (st ≤ 19999))) = true → Ev Tryz.prog Γk 59 [int term, int 0, int 1024] (rof_a_x0 w) (bool (decide (term ≥ 0) && decide (term ≤ 1024))) (rof_a_x0 w) from (fun hg => (Ev.glob0 (@w59_ev (term) (0) (1024) ((rof_a_x0 w)))))) (.c hc0 .n))) rfl rfl h)) (by first | (have hh : badOf st term = true := hc0; simp only [rofX, hh]; rfl) | (have hh : badOf st term = false := hc0; simp only [rofX, hh]; rfl)) (by rfl)
theorem rof_ev {w : WorldT} (hw : w.ok) {st term known : Int} (h : List Blk) : Ev Tryz.prog Γk 23 [.agg w.l, int st, int term, int known] h (.tup [.agg (rofR w st term known).1.l, rD (rdR (rofR w st term known).2.1), int (rofR w st term known).2.2]) h :=
 rof_a (recOf0 hw) h
def attOk (a : AttT) : Bool := inB a.course 0 4095 && inB a.term 0 1023 && inB a.grade 0 12 && inB a.campus 0 6 && inB a.credits 0 60
def rkBad (o : Option AttT) (a : AttT) : Bool := !attOk a || (match o with | none => false | some b => decide (ordA b a ≥ 0))
abbrev rkS (st : Int) (as_ : List (List Dp)) (i : Int) : AS := { t := mkT 61 0 [(1, .ref (.ptr 0 0)), (2, int 0), (10, rD as_), (11, int as_.length), (12, int i)], h := [.var [int st, rD as_]], m := [] }
abbrev rkX : Unit → Exit × AS := fun _ => (.ret, { t := mkT 61 0 [(2, int 150)], h := [], m := [] })
def rkF (p : Option AttT × AttT) (_ : Unit) : Unit ⊕ Unit := bif rkBad p.1 p.2 then .inr () else .inl ()
theorem rk0 {a : AttT} {x : Bool} : (!(decide (a.course ≥ 0) && decide (a.course ≤ 4095)) || !(decide (a.term ≥ 0) && decide (a.term ≤ 1023)) || !(decide (a.grade ≥ 0) && decide (a.grade ≤ 12)) || !(decide (a.campus ≥ 0) && decide (a.campus ≤ 6)) || !(decide (a.credits ≥ 0) && decide (a.credits ≤ 60)) || decide ((0 : Int) > 0) && x) = rkBad none a := by simp [rkBad, attOk, inB]
theorem rk1 {a b : AttT} {i : Nat} : (!(decide (a.course ≥ 0) && decide (a.course ≤ 4095)) || !(decide (a.term ≥ 0) && decide (a.term ≤ 1023)) || !(decide (a.grade ≥ 0) && decide (a.grade ≤ 12)) || !(decide (a.campus ≥ 0) && decide (a.campus ≤ 6)) || !(decide (a.credits ≥ 0) && decide (a.credits ≤ 60)) || decide (((i + 1 : Nat) : Int) > 0) && decide (orI (cmpI b.term a.term) (cmpI b.course a.course) ≥ 0)) = rkBad (some b) a := by
 have : decide (((i + 1 : Nat) : Int) > 0) = true := decide_eq_true (by omega)
 rw [this]
 simp [rkBad, attOk, inB, ordA]
noncomputable abbrev rk_body0_x0 (st : Int) (l : List AttT) (a : AttT) : List Blk := [.var [int st, rD (List.map AttT.row l)], .var [int a.course, int a.term, int a.grade, int a.campus, int a.credits]]
theorem rk_body0 {st : Int} {l : List AttT} {a : AttT} (hr : RowAt 0 (l.map AttT.row) a.row 5) (hlt : decide ((0 : Int) < ((l.map AttT.row).length : Int)) = true) : (CW Tryz.prog Γ0 [] false (sub Tryz.f30 0) (rkS st (l.map AttT.row) 0) (bodyFin (fun _ => rkS st (l.map AttT.row) 1) rkX (rkF (none, a) ())).1 (bodyFin (fun _ => rkS st (l.map AttT.row) 1) rkX (rkF (none, a) ())).2) := by
 cases hc0 : !(decide (a.course ≥ 0) && decide (a.course ≤ 4095)) || !(decide (a.term ≥ 0) && decide (a.term ≤ 1023)) || !(decide (a.grade ≥ 0) && decide (a.grade ≤ 12)) || !(decide (a.campus ≥ 0) && decide (a.campus ≤ 6)) || !(decide (a.credits ≥ 0) && decide (a.credits ≤ 60)) || decide (0 > 0) && decide (orI (cmpI (List.getD l (Int.toNat (IntKind.wrap IntKind.i64 (0 - 1))) default).term a.term) (cmpI (List.getD l (Int.toNat (IntKind.wrap IntKind.i64 (0 - 1))) default).course a.course) ≥ 0)
 ·refine CW.cast (CW.symX (s' := { t := mkT 61 0 [(1, .ref (.ptr 0 0)), (2, int 0), (10, rD (List.map AttT.row l)), (11, int (↑(List.length (List.map AttT.row l)) : Int)), (12, int (IntKind.wrap IntKind.i64 (0 + 1)))], h := [.var [int st, rD (List.map AttT.row l)]], m := [] }) (e := Exit.normal) pok [.st (.mask [1, 2, 10, 11, 12]), .st (.trim 1)] [.b true, .row (AttT.row a), .val (bool (decide (a.course ≥ 0) && decide (a.course ≤ 4095))), .val (bool (decide (a.term ≥ 0) && decide (a.term ≤ 1023))), .val (bool (decide (a.grade ≥ 0) && decide (a.grade ≤ 12))), .val (bool (decide (a.campus ≥ 0) && decide (a.campus ≤ 6))), .val (bool (decide (a.credits ≥ 0) && decide (a.credits ≤ 60))), .row (AttT.row (List.getD l (Int.toNat (IntKind.wrap IntKind.i64 (0 - 1))) default)), .val (int (orI (cmpI (List.getD l (Int.toNat (IntKind.wrap IntKind.i64 (0 - 1))) default).term a.term) (cmpI (List.getD l (Int.toNat (IntKind.wrap IntKind.i64 (0 - 1))) default).course a.course))), .b false] (by kernel_rfl) (.c hlt (.c hr (.c (@w59_ev (a.course) (0) (4095) ((rk_body0_x0 st l a))) (.c (show (!!(decide (a.course ≥ 0) && decide (a.course ≤ 4095))) = true → Ev Tryz.prog Γ0 59 [int a.term, int 0, int 1023] (rk_body0_x0 st l a) (bool (decide (a.term ≥ 0) && decide (a.term ≤ 1023))) (rk_body0_x0 st l a) from (fun hg => (@w59_ev (a.term) (0) (1023) ((rk_body0_x0 st l a))))) (.c (show (!(!(decide (a.course ≥ 0) && decide (a.course ≤ 4095)) || !(decide (a.term ≥ 0) && decide (a.term ≤ 1023)))) = true → Ev Tryz.prog Γ0 59 [int a.grade, int 0, int 12] (rk_body0_x0 st l a) (bool (decide (a.grade ≥ 0) && decide (a.grade ≤ 12))) (rk_body0_x0 st l a) from (fun hg => (@w59_ev (a.grade) (0) (12) ((rk_body0_x0 st l a))))) (.c (show (!(!(decide (a.course ≥ 0) && decide (a.course ≤ 4095)) || !(decide (a.term ≥ 0) && decide (a.term ≤ 1023)) || !(decide (a.grade ≥ 0) && decide (a.grade ≤ 12)))) = true → Ev Tryz.prog Γ0 59 [int a.campus, int 0, int 6] (rk_body0_x0 st l a) (bool (decide (a.campus ≥ 0) && decide (a.campus ≤ 6))) (rk_body0_x0 st l a) from (fun hg => (@w59_ev (a.campus) (0) (6) ((rk_body0_x0 st l a))))) (.c (show (!(!(decide (a.course ≥ 0) && decide (a.course ≤ 4095)) || !(decide (a.term ≥ 0) && decide (a.term ≤ 1023)) || !(decide (a.grade ≥ 0) && decide (a.grade ≤ 12)) || !(decide (a.campus ≥ 0) && decide (a.campus ≤ 6)))) = true → Ev Tryz.prog Γ0 59 [int a.credits, int 0, int 60] (rk_body0_x0 st l a) (bool (decide (a.credits ≥ 0) && decide (a.credits ≤ 60))) (rk_body0_x0 st l a) from (fun hg => (@w59_ev (a.credits) (0) (60) ((rk_body0_x0 st l a))))) (.c (show (!(!(decide (a.course ≥ 0) && decide (a.course ≤ 4095)) || !(decide (a.term ≥ 0) && decide (a.term ≤ 1023)) || !(decide (a.grade ≥ 0) && decide (a.grade ≤ 12)) || !(decide (a.campus ≥ 0) && decide (a.campus ≤ 6)) || !(decide (a.credits ≥ 0) && decide (a.credits ≤ 60))) && decide (0 > 0)) = true → RowAt (IntKind.wrap IntKind.i64 (0 - 1)) (List.map AttT.row l) (AttT.row (List.getD l (Int.toNat (IntKind.wrap IntKind.i64 (0 - 1))) default)) 5 from (fun hg => (by first | assumption | rfl | (exfalso; simp at hg; done) | (simp_all; done)))) (.c (show (!(!(decide (a.course ≥ 0) && decide (a.course ≤ 4095)) || !(decide (a.term ≥ 0) && decide (a.term ≤ 1023)) || !(decide (a.grade ≥ 0) && decide (a.grade ≤ 12)) || !(decide (a.campus ≥ 0) && decide (a.campus ≤ 6)) || !(decide (a.credits ≥ 0) && decide (a.credits ≤ 60))) && decide (0 > 0)) = true → Ev Tryz.prog Γ0 79 [(ag (AttT.row (List.getD l (Int.toNat (IntKind.wrap IntKind.i64 (0 - 1))) default))), (ag (AttT.row a))] (rk_body0_x0 st l a) (int (orI (cmpI (List.getD l (Int.toNat (IntKind.wrap IntKind.i64 (0 - 1))) default).term a.term) (cmpI (List.getD l (Int.toNat (IntKind.wrap IntKind.i64 (0 - 1))) default).course a.course))) (rk_body0_x0 st l a) from (fun hg => (@order_ev (List.getD l (Int.toNat (IntKind.wrap IntKind.i64 (0 - 1))) default) (a) ((rk_body0_x0 st l a))))) (.c hc0 .n))))))))))) ?_ ?_ <;> (first | (have hh : rkBad none a = true := rk0.symm.trans hc0; simp only [rkF, hh, cond_true]; first | done | rfl) | (have hh : rkBad none a = false := rk0.symm.trans hc0; simp only [rkF, hh, cond_false]; first | done | rfl))
 ·refine CW.cast (CW.symX (s' := { t := mkT 61 0 [(2, int 150)], h := [], m := [] }) (e := Exit.ret) pok [.st (.mask [2]), .st (.trim 0)] [.b true, .row (AttT.row a), .val (bool (decide (a.course ≥ 0) && decide (a.course ≤ 4095))), .val (bool (decide (a.term ≥ 0) && decide (a.term ≤ 1023))), .val (bool (decide (a.grade ≥ 0) && decide (a.grade ≤ 12))), .val (bool (decide (a.campus ≥ 0) && decide (a.campus ≤ 6))), .val (bool (decide (a.credits ≥ 0) && decide (a.credits ≤ 60))), .row (AttT.row (List.getD l (Int.toNat (IntKind.wrap IntKind.i64 (0 - 1))) default)), .val (int (orI (cmpI (List.getD l (Int.toNat (IntKind.wrap IntKind.i64 (0 - 1))) default).term a.term) (cmpI (List.getD l (Int.toNat (IntKind.wrap IntKind.i64 (0 - 1))) default).course a.course))), .b true] (by kernel_rfl) (.c hlt (.c hr (.c (@w59_ev (a.course) (0) (4095) ((rk_body0_x0 st l a))) (.c (show (!!(decide (a.course ≥ 0) && decide (a.course ≤ 4095))) = true → Ev Tryz.prog Γ0 59 [int a.term, int 0, int 1023] (rk_body0_x0 st l a) (bool (decide (a.term ≥ 0) && decide (a.term ≤ 1023))) (rk_body0_x0 st l a) from (fun hg => (@w59_ev (a.term) (0) (1023) ((rk_body0_x0 st l a))))) (.c (show (!(!(decide (a.course ≥ 0) && decide (a.course ≤ 4095)) || !(decide (a.term ≥ 0) && decide (a.term ≤ 1023)))) = true → Ev Tryz.prog Γ0 59 [int a.grade, int 0, int 12] (rk_body0_x0 st l a) (bool (decide (a.grade ≥ 0) && decide (a.grade ≤ 12))) (rk_body0_x0 st l a) from (fun hg => (@w59_ev (a.grade) (0) (12) ((rk_body0_x0 st l a))))) (.c (show (!(!(decide (a.course ≥ 0) && decide (a.course ≤ 4095)) || !(decide (a.term ≥ 0) && decide (a.term ≤ 1023)) || !(decide (a.grade ≥ 0) && decide (a.grade ≤ 12)))) = true → Ev Tryz.prog Γ0 59 [int a.campus, int 0, int 6] (rk_body0_x0 st l a) (bool (decide (a.campus ≥ 0) && decide (a.campus ≤ 6))) (rk_body0_x0 st l a) from (fun hg => (@w59_ev (a.campus) (0) (6) ((rk_body0_x0 st l a))))) (.c (show (!(!(decide (a.course ≥ 0) && decide (a.course ≤ 4095)) || !(decide (a.term ≥ 0) && decide (a.term ≤ 1023)) || !(decide (a.grade ≥ 0) && decide (a.grade ≤ 12)) || !(decide (a.campus ≥ 0) && decide (a.campus ≤ 6)))) = true → Ev Tryz.prog Γ0 59 [int a.credits, int 0, int 60] (rk_body0_x0 st l a) (bool (decide (a.credits ≥ 0) && decide (a.credits ≤ 60))) (rk_body0_x0 st l a) from (fun hg => (@w59_ev (a.credits) (0) (60) ((rk_body0_x0 st l a))))) (.c (show (!(!(decide (a.course ≥ 0) && decide (a.course ≤ 4095)) || !(decide (a.term ≥ 0) && decide (a.term ≤ 1023)) || !(decide (a.grade ≥ 0) && decide (a.grade ≤ 12)) || !(decide (a.campus ≥ 0) && decide (a.campus ≤ 6)) || !(decide (a.credits ≥ 0) && decide (a.credits ≤ 60))) && decide (0 > 0)) = true → RowAt (IntKind.wrap IntKind.i64 (0 - 1)) (List.map AttT.row l) (AttT.row (List.getD l (Int.toNat (IntKind.wrap IntKind.i64 (0 - 1))) default)) 5 from (fun hg => (by first | assumption | rfl | (exfalso; simp at hg; done) | (simp_all; done)))) (.c (show (!(!(decide (a.course ≥ 0) && decide (a.course ≤ 4095)) || !(decide (a.term ≥ 0) && decide (a.term ≤ 1023)) || !(decide (a.grade ≥ 0) && decide (a.grade ≤ 12)) || !(decide (a.campus ≥ 0) && decide (a.campus ≤ 6)) || !(decide (a.credits ≥ 0) && decide (a.credits ≤ 60))) && decide (0 > 0)) = true → Ev Tryz.prog Γ0 79 [(ag (AttT.row (List.getD l (Int.toNat (IntKind.wrap IntKind.i64 (0 - 1))) default))), (ag (AttT.row a))] (rk_body0_x0 st l a) (int (orI (cmpI (List.getD l (Int.toNat (IntKind.wrap IntKind.i64 (0 - 1))) default).term a.term) (cmpI (List.getD l (Int.toNat (IntKind.wrap IntKind.i64 (0 - 1))) default).course a.course))) (rk_body0_x0 st l a) from (fun hg => (@order_ev (List.getD l (Int.toNat (IntKind.wrap IntKind.i64 (0 - 1))) default) (a) ((rk_body0_x0 st l a))))) (.c hc0 .n))))))))))) ?_ ?_ <;> (first | (have hh : rkBad none a = true := rk0.symm.trans hc0; simp only [rkF, hh, cond_true]; first | done | rfl) | (have hh : rkBad none a = false := rk0.symm.trans hc0; simp only [rkF, hh, cond_false]; first | done | rfl))
noncomputable abbrev rk_body1_x0 (st : Int) (as_ : List (List Dp)) (a : AttT) : List Blk := [.var [int st, rD as_], .var [int a.course, int a.term, int a.grade, int a.campus, int a.credits]]
theorem rk_body1 {st : Int} {as_ : List (List Dp)} {a b : AttT} {i : Nat} (hr : RowAt ((i + 1 : Nat) : Int) as_ a.row 5) (hb : RowAt (IntKind.i64.wrap (((i + 1 : Nat) : Int) - 1)) as_ b.row 5) (hlt : decide (((i + 1 : Nat) : Int) < (as_.length : Int)) = true) (hw : IntKind.i64.wrap (((i + 1 : Nat) : Int) + 1) = ((i + 1 + 1 : Nat) : Int)) : (CW Tryz.prog Γ0 [] false (sub Tryz.f30 0) (rkS st as_ ((i + 1 : Nat) : Int)) (bodyFin (fun _ => rkS st as_ ((i + 1 + 1 : Nat) : Int)) rkX (rkF (some b, a) ())).1 (bodyFin (fun _ => rkS st as_ ((i + 1 + 1 : Nat) : Int)) rkX (rkF (some b, a) ())).2) := by
 cases hc0 : !(decide (a.course ≥ 0) && decide (a.course ≤ 4095)) || !(decide (a.term ≥ 0) && decide (a.term ≤ 1023)) || !(decide (a.grade ≥ 0) && decide (a.grade ≤ 12)) || !(decide (a.campus ≥ 0) && decide (a.campus ≤ 6)) || !(decide (a.credits ≥ 0) && decide (a.credits ≤ 60)) || decide ((↑(i + 1) : Int) > 0) && decide (orI (cmpI b.term a.term) (cmpI b.course a.course) ≥ 0)
 ·refine CW.cast (CW.symX (s' := { t := mkT 61 0 [(1, .ref (.ptr 0 0)), (2, int 0), (10, rD as_), (11, int (↑(List.length as_) : Int)), (12, int (IntKind.wrap IntKind.i64 ((↑(i + 1) : Int) + 1)))], h := [.var [int st, rD as_]], m := [] }) (e := Exit.normal) pok [.st (.mask [1, 2, 10, 11, 12]), .st (.trim 1)] [.b true, .row (AttT.row a), .val (bool (decide (a.course ≥ 0) && decide (a.course ≤ 4095))), .val (bool (decide (a.term ≥ 0) && decide (a.term ≤ 1023))), .val (bool (decide (a.grade ≥ 0) && decide (a.grade ≤ 12))), .val (bool (decide (a.campus ≥ 0) && decide (a.campus ≤ 6))), .val (bool (decide (a.credits ≥ 0) && decide (a.credits ≤ 60))), .row (AttT.row b), .val (int (orI (cmpI b.term a.term) (cmpI b.course a.course))), .b false] (by kernel_rfl) (.c hlt (.c hr (.c (@w59_ev (a.course) (0) (4095) ((rk_body1_x0 st as_ a))) (.c (show (!!(decide (a.course ≥ 0) && decide (a.course ≤ 4095))) = true → Ev Tryz.prog Γ0 59 [int a.term, int 0, int 1023] (rk_body1_x0 st as_ a) (bool (decide (a.term ≥ 0) && decide (a.term ≤ 1023))) (rk_body1_x0 st as_ a) from (fun hg => (@w59_ev (a.term) (0) (1023) ((rk_body1_x0 st as_ a))))) (.c (show (!(!(decide (a.course ≥ 0) && decide (a.course ≤ 4095)) || !(decide (a.term ≥ 0) && decide (a.term ≤ 1023)))) = true → Ev Tryz.prog Γ0 59 [int a.grade, int 0, int 12] (rk_body1_x0 st as_ a) (bool (decide (a.grade ≥ 0) && decide (a.grade ≤ 12))) (rk_body1_x0 st as_ a) from (fun hg => (@w59_ev (a.grade) (0) (12) ((rk_body1_x0 st as_ a))))) (.c (show (!(!(decide (a.course ≥ 0) && decide (a.course ≤ 4095)) || !(decide (a.term ≥ 0) && decide (a.term ≤ 1023)) || !(decide (a.grade ≥ 0) && decide (a.grade ≤ 12)))) = true → Ev Tryz.prog Γ0 59 [int a.campus, int 0, int 6] (rk_body1_x0 st as_ a) (bool (decide (a.campus ≥ 0) && decide (a.campus ≤ 6))) (rk_body1_x0 st as_ a) from (fun hg => (@w59_ev (a.campus) (0) (6) ((rk_body1_x0 st as_ a))))) (.c (show (!(!(decide (a.course ≥ 0) && decide (a.course ≤ 4095)) || !(decide (a.term ≥ 0) && decide (a.term ≤ 1023)) || !(decide (a.grade ≥ 0) && decide (a.grade ≤ 12)) || !(decide (a.campus ≥ 0) && decide (a.campus ≤ 6)))) = true → Ev Tryz.prog Γ0 59 [int a.credits, int 0, int 60] (rk_body1_x0 st as_ a) (bool (decide (a.credits ≥ 0) && decide (a.credits ≤ 60))) (rk_body1_x0 st as_ a) from (fun hg => (@w59_ev (a.credits) (0) (60) ((rk_body1_x0 st as_ a))))) (.c (show (!(!(decide (a.course ≥ 0) && decide (a.course ≤ 4095)) || !(decide (a.term ≥ 0) && decide (a.term ≤ 1023)) || !(decide (a.grade ≥ 0) && decide (a.grade ≤ 12)) || !(decide (a.campus ≥ 0) && decide (a.campus ≤ 6)) || !(decide (a.credits ≥ 0) && decide (a.credits ≤ 60))) && decide ((↑(i + 1) : Int) > 0)) = true → RowAt (IntKind.wrap IntKind.i64 ((↑(i + 1) : Int) - 1)) as_ (AttT.row b) 5 from (fun hg => hb)) (.c (show (!(!(decide (a.course ≥ 0) && decide (a.course ≤ 4095)) || !(decide (a.term ≥ 0) && decide (a.term ≤ 1023)) || !(decide (a.grade ≥ 0) && decide (a.grade ≤ 12)) || !(decide (a.campus ≥ 0) && decide (a.campus ≤ 6)) || !(decide (a.credits ≥ 0) && decide (a.credits ≤ 60))) && decide ((↑(i + 1) : Int) > 0)) = true → Ev Tryz.prog Γ0 79 [(ag (AttT.row b)), (ag (AttT.row a))] (rk_body1_x0 st as_ a) (int (orI (cmpI b.term a.term) (cmpI b.course a.course))) (rk_body1_x0 st as_ a) from (fun hg => (@order_ev (b) (a) ((rk_body1_x0 st as_ a))))) (.c hc0 .n))))))))))) ?_ ?_ <;> (first | (have hh : rkBad (some b) a = true := (rk1 (i := i)).symm.trans hc0; simp only [rkF, hh, cond_true]; first | done | rfl) | (have hh : rkBad (some b) a = false := (rk1 (i := i)).symm.trans hc0; simp only [rkF, hh, cond_false]; first | done | rfl | (rw [hw]; rfl)))
 ·refine CW.cast (CW.symX (s' := { t := mkT 61 0 [(2, int 150)], h := [], m := [] }) (e := Exit.ret) pok [.st (.mask [2]), .st (.trim 0)] [.b true, .row (AttT.row a), .val (bool (decide (a.course ≥ 0) && decide (a.course ≤ 4095))), .val (bool (decide (a.term ≥ 0) && decide (a.term ≤ 1023))), .val (bool (decide (a.grade ≥ 0) && decide (a.grade ≤ 12))), .val (bool (decide (a.campus ≥ 0) && decide (a.campus ≤ 6))), .val (bool (decide (a.credits ≥ 0) && decide (a.credits ≤ 60))), .row (AttT.row b), .val (int (orI (cmpI b.term a.term) (cmpI b.course a.course))), .b true] (by kernel_rfl) (.c hlt (.c hr (.c (@w59_ev (a.course) (0) (4095) ((rk_body1_x0 st as_ a))) (.c (show (!!(decide (a.course ≥ 0) && decide (a.course ≤ 4095))) = true → Ev Tryz.prog Γ0 59 [int a.term, int 0, int 1023] (rk_body1_x0 st as_ a) (bool (decide (a.term ≥ 0) && decide (a.term ≤ 1023))) (rk_body1_x0 st as_ a) from (fun hg => (@w59_ev (a.term) (0) (1023) ((rk_body1_x0 st as_ a))))) (.c (show (!(!(decide (a.course ≥ 0) && decide (a.course ≤ 4095)) || !(decide (a.term ≥ 0) && decide (a.term ≤ 1023)))) = true → Ev Tryz.prog Γ0 59 [int a.grade, int 0, int 12] (rk_body1_x0 st as_ a) (bool (decide (a.grade ≥ 0) && decide (a.grade ≤ 12))) (rk_body1_x0 st as_ a) from (fun hg => (@w59_ev (a.grade) (0) (12) ((rk_body1_x0 st as_ a))))) (.c (show (!(!(decide (a.course ≥ 0) && decide (a.course ≤ 4095)) || !(decide (a.term ≥ 0) && decide (a.term ≤ 1023)) || !(decide (a.grade ≥ 0) && decide (a.grade ≤ 12)))) = true → Ev Tryz.prog Γ0 59 [int a.campus, int 0, int 6] (rk_body1_x0 st as_ a) (bool (decide (a.campus ≥ 0) && decide (a.campus ≤ 6))) (rk_body1_x0 st as_ a) from (fun hg => (@w59_ev (a.campus) (0) (6) ((rk_body1_x0 st as_ a))))) (.c (show (!(!(decide (a.course ≥ 0) && decide (a.course ≤ 4095)) || !(decide (a.term ≥ 0) && decide (a.term ≤ 1023)) || !(decide (a.grade ≥ 0) && decide (a.grade ≤ 12)) || !(decide (a.campus ≥ 0) && decide (a.campus ≤ 6)))) = true → Ev Tryz.prog Γ0 59 [int a.credits, int 0, int 60] (rk_body1_x0 st as_ a) (bool (decide (a.credits ≥ 0) && decide (a.credits ≤ 60))) (rk_body1_x0 st as_ a) from (fun hg => (@w59_ev (a.credits) (0) (60) ((rk_body1_x0 st as_ a))))) (.c (show (!(!(decide (a.course ≥ 0) && decide (a.course ≤ 4095)) || !(decide (a.term ≥ 0) && decide (a.term ≤ 1023)) || !(decide (a.grade ≥ 0) && decide (a.grade ≤ 12)) || !(decide (a.campus ≥ 0) && decide (a.campus ≤ 6)) || !(decide (a.credits ≥ 0) && decide (a.credits ≤ 60))) && decide ((↑(i + 1) : Int) > 0)) = true → RowAt (IntKind.wrap IntKind.i64 ((↑(i + 1) : Int) - 1)) as_ (AttT.row b) 5 from (fun hg => hb)) (.c (show (!(!(decide (a.course ≥ 0) && decide (a.course ≤ 4095)) || !(decide (a.term ≥ 0) && decide (a.term ≤ 1023)) || !(decide (a.grade ≥ 0) && decide (a.grade ≤ 12)) || !(decide (a.campus ≥ 0) && decide (a.campus ≤ 6)) || !(decide (a.credits ≥ 0) && decide (a.credits ≤ 60))) && decide ((↑(i + 1) : Int) > 0)) = true → Ev Tryz.prog Γ0 79 [(ag (AttT.row b)), (ag (AttT.row a))] (rk_body1_x0 st as_ a) (int (orI (cmpI b.term a.term) (cmpI b.course a.course))) (rk_body1_x0 st as_ a) from (fun hg => (@order_ev (b) (a) ((rk_body1_x0 st as_ a))))) (.c hc0 .n))))))))))) ?_ ?_ <;> (first | (have hh : rkBad (some b) a = true := (rk1 (i := i)).symm.trans hc0; simp only [rkF, hh, cond_true]; first | done | rfl) | (have hh : rkBad (some b) a = false := (rk1 (i := i)).symm.trans hc0; simp only [rkF, hh, cond_false]; first | done | rfl | (rw [hw]; rfl)))
theorem rk_last {st : Int} {as_ : List (List Dp)} {i : Nat} (hlt : decide ((i : Int) < (as_.length : Int)) = false) : (CW Tryz.prog Γ0 [] false (sub Tryz.f30 0) (rkS st as_ i) (.exit 0) { t := mkT 61 0 [(2, int 0)], h := [], m := [] }) := by
 exact CW.cast (CW.symX (s' := { t := mkT 61 0 [(2, int 0)], h := [], m := [] }) (e := Exit.exit 0) pok [.st (.mask [2]), .st (.trim 0)] [.b false] (by kernel_rfl) (.c hlt .n)) (by rfl) (by rfl)
def prevs (l : List AttT) : List (Option AttT × AttT) := (none :: l.map some).zip l
def rkFin (l : List AttT) : Exit × AS := eachFin (.exit 0) (fun _ : Unit => { t := mkT 61 0 [(2, int 0)], h := [], m := [] }) rkX (forL rkF (prevs l) ())
theorem rk_cw {st : Int} {l : List AttT} (hl : Short l) :
  CW Tryz.prog Γ0 [] false (.loop (sub Tryz.f30 0)) (rkS st (l.map AttT.row) 0) (rkFin l).1 (rkFin l).2 := by
 have hlen : (prevs l).length = l.length := by simp [prevs]
 have := CW.each (P := Tryz.prog) (Γ := Γ0) (h0 := []) (rd := false) (c := sub Tryz.f30 0) (prevs l) rkF (fun i _ => rkS st (l.map AttT.row) (i : Int)) (.exit 0) (fun _ : Unit => { t := mkT 61 0 [(2, int 0)], h := [], m := [] }) rkX (fun _ _ => True) (by simp) (fun _ => by simp) ?_ ?_ () trivial
 ·exact this
 ·intro i p u hp _
  obtain ⟨hi, he⟩ := List.getElem?_eq_some_iff.1 hp
  rw [hlen] at hi
  have h2 : l[i]? = some p.2 := by subst he; simp [prevs, List.getElem?_eq_getElem hi]
  refine ⟨fun _ _ => trivial, ?_⟩
  obtain ⟨o, a⟩ := p
  cases i with
  | zero =>
   have ho : o = none := by have := congrArg Prod.fst he; simpa [prevs] using this.symm
   subst ho
   exact rk_body0 (rowAt h2 rfl) (lt_len AttT.row hi)
  | succ i =>
   have h1 : l[i]? = some (l[i]'(by omega)) := List.getElem?_eq_getElem _
   have ho : o = some (l[i]'(by omega)) := by have := congrArg Prod.fst he; simpa [prevs] using this.symm
   subst ho
   refine rk_body1 (rowAt h2 rfl) ?_ (lt_len AttT.row hi) (wrap_succ hi hl)
   have : IntKind.i64.wrap (((i + 1 : Nat) : Int) - 1) = (i : Int) := by
    have := hl; unfold Short at this
    rw [wrap_i64 (by omega) (by omega)]; omega
   rw [this]
   exact rowAt h1 rfl
 ·intro u _
  rw [hlen]
  exact rk_last (ge_len AttT.row l)
def recCheck (r : RecT) : Int := bif !(decide (r.st ≥ 0) && decide (r.st ≤ 19999)) then 150 else match forL rkF (prevs r.a) () with | .inl _ => 0 | .inr _ => 150
theorem rkcheck_ev {r : RecT} (hl : Short r.a) (h : List Blk) : (Ev Tryz.prog Γ0 30 [.agg r.l] h (int (recCheck r)) h) := by
 cases hc0 : !(decide (r.st ≥ 0) && decide (r.st ≤ 19999))
 ·have hl1 := (@rk_cw (r.st) (r.a) (hl))
  unfold rkFin at hl1
  revert hl1
  cases ho2 : forL rkF (prevs r.a) () with
  | inl o2_0_0 =>
   intro hl1
   exact Ev.castH (Ev.sym0 (d := int 0) pok [.val (bool (decide (r.st ≥ 0) && decide (r.st ≤ 19999))), .b false, .sum [1, 2, 10, 11, 12] (Exit.exit 0) { t := mkT 61 0 [(2, int 0)], h := [], m := [] }] (by kernel_rfl) (.c (@w59_ev (r.st) (0) (19999) ([.var [int r.st, rD (List.map AttT.row r.a)]])) (.c hc0 (.c hl1 .n))) rfl rfl h) (by simp only [recCheck, hc0, ho2, cond_false]) (by rfl)
  | inr o2_1_0 =>
   intro hl1
   exact Ev.castH (Ev.sym0 (d := int 150) pok [.val (bool (decide (r.st ≥ 0) && decide (r.st ≤ 19999))), .b false, .sum [1, 2, 10, 11, 12] (Exit.ret) { t := mkT 61 0 [(2, int 150)], h := [], m := [] }] (by kernel_rfl) (.c (@w59_ev (r.st) (0) (19999) ([.var [int r.st, rD (List.map AttT.row r.a)]])) (.c hc0 (.c hl1 .n))) rfl rfl h) (by simp only [recCheck, hc0, ho2, cond_false]) (by rfl)
 ·exact Ev.castH (Ev.sym0 (d := int 150) pok [.val (bool (decide (r.st ≥ 0) && decide (r.st ≤ 19999))), .b true] (by kernel_rfl) (.c (@w59_ev (r.st) (0) (19999) ([.var [int r.st, rD (List.map AttT.row r.a)]])) (.c hc0 .n)) rfl rfl h) (by simp only [recCheck, hc0, cond_true]) (by rfl)
end Go.Vi
open Go Go.Proofs
namespace Go.Vi
abbrev IM := List (Int × Int)
def imKV : Nat → IM → List (D × D × Nat)
 | _, [] => []
 | j, (k, v) :: l => (int k, int v, j) :: imKV (j + 1) l
def imB (l : IM) : Blk := .map (imKV 0 l) l.length
def imGet : IM → Int → Option Int
 | [], _ => none
 | (a, v) :: l, k => if a = k then some v else imGet l k
def imPut : IM → Int → Int → IM
 | [], k, v => [(k, v)]
 | (a, x) :: l, k, v => if a = k then (k, v) :: l else (a, x) :: imPut l k v
theorem imGet_put (l : IM) (k v k' : Int) : imGet (imPut l k v) k' = if k = k' then some v else imGet l k' := by
 induction l with
 | nil => simp [imPut, imGet]
 | cons e l ih =>
  obtain ⟨a, x⟩ := e
  unfold imPut
  by_cases h : a = k
  ·subst h
   simp only [if_true, imGet]
   by_cases h2 : a = k' <;> simp [h2]
  ·simp only [h, if_false, imGet, ih]
   by_cases h2 : a = k'
   ·subst h2; simp [Ne.symm h]
   ·simp [h2]
def imIx : IM → Int → Nat → Option (Nat × D)
 | [], _, _ => none
 | (a, v) :: l, k, i => if a = k then some (i, int v) else imIx l k (i + 1)
theorem findKV_im (k : Int) : ∀ (l : IM) (j i : Nat), findKV (int k) (imKV j l) i = some (imIx l k i)
 | [], _, _ => rfl
 | (a, v) :: l, j, i => by
  simp only [imKV, findKV, imIx]
  by_cases h : a = k
  ·subst h; simp [keyEq]
  ·have : keyEq (int k) (int a) = some false := by
    have h2 : ¬ k = a := fun e => h e.symm
    simp [keyEq, h2]
   rw [this]
   simp only [h, if_false]
   exact findKV_im k l (j + 1) (i + 1)
theorem imIx_none {k : Int} : ∀ {l : IM} {i : Nat}, imIx l k i = none → imGet l k = none ∧ ∀ v, imPut l k v = l ++ [(k, v)]
 | [], _, _ => by simp [imGet, imPut]
 | (a, x) :: l, i, h => by
  unfold imIx at h
  split at h
  ·simp at h
  ·rename_i hne
   obtain ⟨h1, h2⟩ := imIx_none h
   simp only [imGet, imPut, hne, if_false, h1, true_and]
   intro v; rw [h2]; rfl
theorem imIx_some {k : Int} : ∀ {l : IM} {i j n : Nat} {d : D}, imIx l k i = some (n, d) → ∃ v, d = int v ∧ imGet l k = some v ∧ i ≤ n ∧ ((imKV j l)[n - i]?).map (fun e => e.2.2) = some (j + (n - i)) ∧ ∀ x, imKV j (imPut l k x) = (imKV j l).set (n - i) (int k, int x, j + (n - i)) ∧ (imPut l k x).length = l.length
 | [], _, _, _, _, h => by simp [imIx] at h
 | (a, x) :: l, i, j, n, d, h => by
  unfold imIx at h
  split at h
  ·rename_i ha
   simp only [Option.some.injEq, Prod.mk.injEq] at h
   obtain ⟨rfl, rfl⟩ := h
   exact ⟨x, rfl, by simp [imGet, ha], Nat.le_refl _, by simp [imKV], fun y => by simp [imPut, ha, imKV]⟩
  ·rename_i ha
   obtain ⟨v, h1, h2, h3, h4, h5⟩ := imIx_some (j := j + 1) h
   have e : n - i = (n - (i + 1)) + 1 := by omega
   refine ⟨v, h1, by simp [imGet, ha, h2], by omega, ?_, fun y => ?_⟩
   ·rw [e]; simp only [imKV, List.getElem?_cons_succ, h4]; congr 1; omega
   ·obtain ⟨h6, h7⟩ := h5 y
    simp only [imPut, ha, if_false, imKV, h6]
    rw [e, List.set_cons_succ]
    refine ⟨?_, by simp [h7]⟩
    rw [show j + 1 + (n - (i + 1)) = j + (n - (i + 1) + 1) by omega]
theorem lookup_im {P : Program} {h : List Blk} {t : TypeId} {b : Nat} {l : IM} {c : Int} {kt et : TypeId} (hk : keyKind P kt (int c) = true) (ht : P.underlying t = some (.map kt et)) (hz : zeroV P et = some (.int .i64 0)) (hb : h[b]? = some (imB l)) :
  lookupD P h t (.ref (.mp b)) (int c) true = some (.tup [int ((imGet l c).getD 0), bool (imGet l c).isSome]) := by
 unfold lookupD
 simp only [ht, mapOf, hb, imB, hk, if_true, hz, findKV_im]
 cases hi : imIx l c 0 with
 | none =>
  rw [(imIx_none hi).1]; rfl
 | some p =>
  obtain ⟨n, d⟩ := p
  obtain ⟨v, rfl, h2, _⟩ := imIx_some (j := 0) hi
  rw [h2]; rfl
theorem imKV_app (k v : Int) : ∀ (l : IM) (j : Nat), imKV j (l ++ [(k, v)]) = imKV j l ++ [(int k, int v, j + l.length)]
 | [], j => by simp [imKV]
 | (a, x) :: l, j => by
  simp only [List.cons_append, imKV, imKV_app k v l (j + 1), List.length_cons]
  rw [show j + 1 + l.length = j + (l.length + 1) by omega]
theorem update_im {P : Program} {h : List Blk} {t : TypeId} {b : Nat} {l : IM} {c v : Int} {kt et : TypeId} (hk : keyKind P kt (int c) = true) (ht : P.underlying t = some (.map kt et)) (hb : h[b]? = some (imB l)) :
  mapUpdateD P h t (.ref (.mp b)) (int c) (int v) = some (h.set b (imB (imPut l c v))) := by
 unfold mapUpdateD
 simp only [ht, hb, imB, hk, if_true, findKV_im]
 cases hi : imIx l c 0 with
 | none =>
  simp only [(imIx_none hi).2 v, imKV_app]
  simp
 | some p =>
  obtain ⟨n, d⟩ := p
  obtain ⟨x, rfl, _, _, h4, h5⟩ := imIx_some (j := 0) hi
  obtain ⟨h6, h7⟩ := h5 v
  simp only [Nat.sub_zero, Nat.zero_add] at h4 h6
  cases hn : (imKV 0 l)[n]? with
  | none => rw [hn] at h4; simp at h4
  | some e =>
   rw [hn] at h4
   obtain ⟨e1, e2, e3⟩ := e
   simp only [Option.map_some, Option.some.injEq] at h4
   subst h4
   simp only [h6, h7]
   rw [hn]
theorem imKV_ren (f : Ref → D) : ∀ (l : IM) (j : Nat), (imKV j l).map (fun e => (D.mapR f e.1, D.mapR f e.2.1, e.2.2)) = imKV j l
 | [], _ => rfl
 | (a, x) :: l, j => by simp only [imKV, List.map_cons, imKV_ren f l (j + 1)]; rfl
theorem imKV_inn (n : Nat) : ∀ (l : IM) (j : Nat), ((imKV j l).all fun e => D.inn n e.1 && D.inn n e.2.1) = true
 | [], _ => rfl
 | (a, x) :: l, j => by simp only [imKV, List.all_cons, imKV_inn n l (j + 1)]; rfl
theorem inn_im {n : Nat} {l : IM} : Blk.inn n (imB l) = true := imKV_inn n l 0
end Go.Vi
open Go Go.Proofs
namespace Go.Vi
set_option maxRecDepth 100000
set_option maxHeartbeats 4000000
theorem nafits_iv {l : List AttT} (h : List Blk) : ∀ c ∈ l, Iv Tryz.prog Γ0 (.p (.v (.func (.func 156) #[] #[]))) [ag c.row] h (bool (!attB c)) h := fun c _ => Iv.of (f := 156) (fi := []) (ca := []) pok (by kernel_rfl) (by kernel_rfl) (nafits_ev h)
def aErr (l : List AttT) : Int := bif l.any (fun a => !attB a) then 150 else 0
theorem acheck_a {l : List AttT} (hl : Short l) (hf : ∀ c ∈ l, Iv Tryz.prog Γ0 (.p (.v (.func (.func 156) #[] #[]))) [ag c.row] [] (bool (!attB c)) []) (h : List Blk) : (Ev Tryz.prog Γ0 106 [rD (l.map AttT.row)] h (int (aErr l)) h) := by
 cases hc0 : List.any l fun c => !attB c
 ·exact Ev.castH (Ev.sym0 (d := int 0) pok [.val (bool (List.any l fun c => !attB c)), .b false] (by kernel_rfl) (.c (@xac_ev (l) (hl) (fq 156) ([]) (fun c => !attB c) (hf)) (.c hc0 .n)) rfl rfl h) (by simp only [aErr, hc0, cond_true, cond_false]) (by rfl)
 ·exact Ev.castH (Ev.sym0 (d := int 150) pok [.val (bool (List.any l fun c => !attB c)), .b true] (by kernel_rfl) (.c (@xac_ev (l) (hl) (fq 156) ([]) (fun c => !attB c) (hf)) (.c hc0 .n)) rfl rfl h) (by simp only [aErr, hc0, cond_true, cond_false]) (by rfl)
theorem acheck_ev {l : List AttT} (hl : Short l) (h : List Blk) : Ev Tryz.prog Γ0 106 [rD (l.map AttT.row)] h (int (aErr l)) h := acheck_a hl (nafits_iv []) h
theorem rep0_ev {a b : AttT} (h : List Blk) : (Ev Tryz.prog Γ0 208 [ag a.row, ag b.row] h (bool (decide (a.grade > b.grade) || (a.grade == b.grade && decide (a.term < b.term)))) h) := by
 exact Ev.castH (Ev.sym0 (d := bool (decide (a.grade > b.grade) || a.grade == b.grade && decide (a.term < b.term))) pok [] (by kernel_rfl) .n rfl rfl h) (by rfl) (by rfl)
theorem rep1_ev {a b : AttT} (h : List Blk) : (Ev Tryz.prog Γ0 209 [ag a.row, ag b.row] h (bool (decide (a.term ≥ b.term))) h) := by
 exact Ev.castH (Ev.sym0 (d := bool (decide (a.term ≥ b.term))) pok [] (by kernel_rfl) .n rfl rfl h) (by rfl) (by rfl)
abbrev kindsV : List D := [bool true, fnv 208, bool true, fnv 209, bool false, lit .nilFunc]
theorem kinds_ev (h : List Blk) : (Ev Tryz.prog Γ0 163 [] h (.agg kindsV) h) := by
 exact Ev.castH (Ev.sym0 (d := D.agg [bool true, fq 208, bool true, fq 209, bool false, D.p (Dp.v Value.nilFunc)]) pok [] (by kernel_rfl) .n rfl rfl h) (by rfl) (by rfl)
end Go.Vi
