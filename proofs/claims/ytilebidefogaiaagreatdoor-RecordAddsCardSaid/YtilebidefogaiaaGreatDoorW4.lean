/- RecordAdds: part of the proof: contracts of the functions that the law reaches, and the law. No conditions beyond the given statement's own. -/
import Derived.Test.YtilebidefogaiaaGreatDoorW3
import Derived.LaidHandle
open Go Go.Proofs
namespace Go.Vi
set_option maxRecDepth 100000
set_option maxHeartbeats 4000000
structure ReadT where
 kind : Int
 sub : Int
 obj : Int
 frm : Int
 til : Int
 deriving Inhabited, DecidableEq
def ReadT.row (r : ReadT) : List Dp := [vi r.kind, vi r.sub, vi r.obj, vi r.frm, vi r.til]
abbrev rdR (l : List ReadT) : List (List Dp) := l.map ReadT.row
theorem rd_ok (l : List ReadT) : (am (rdR l)).all (bh 5) = true := by
 rw [List.all_eq_true]
 intro r hr
 obtain ⟨x, hx, rfl⟩ := List.mem_map.1 hr
 obtain ⟨y, _, rfl⟩ := List.mem_map.1 hx
 rfl
abbrev lkH (w : WorldT) (known : Int) (rs : List ReadT) (e : Nat) : List Blk := [.var [.ref (.vec 1 e), ab (w.c.map CourseT.row), ab w.p, ab (w.s.map SysT.row), ab (w.f.map FactT.row), int known], .vec (am (rdR rs)) e 5]
theorem lkadd_ev {w : WorldT} {known : Int} {rs qs : List ReadT} (hb : rs.length + qs.length ≤ 1000000000) : (Ev Tryz.prog Γk 119 [.ref (.ptr 0 0), ab (rdR qs)] (lkH w known rs 0) (.tup []) (lkH w known (rs ++ qs) 1)) := by
 refine Ev.castH (Ev.of_sym (h' := [.var [.ref (.vec 1 1), ab (List.map CourseT.row w.c), ab w.p, ab (List.map SysT.row w.s), ab (List.map FactT.row w.f), int known], .vec (am (rdR rs) ++ List.map (fun x => List.map D.p x) (rdR qs)) 1 5]) (d := D.tup []) pok [] (by kernel_rfl) (.c (show (List.all (List.map (fun x => List.map D.p x) (rdR qs)) (bh 5) && roomOk (List.length (am (rdR rs)) + List.length (List.map (fun x => List.map D.p x) (rdR qs))) 40) = true from (by first | assumption | rfl | omega | (simp only [rd_ok, roomOk, Bool.true_and, Bool.and_eq_true, decide_eq_true_eq, List.length_map]; omega))) .n)) ?_ ?_ <;> (first | rfl | (simp only [lkH, rdR, am, List.map_append]; rfl) | (simp only [lkH, rdR, am, List.map_append]; done))
theorem lkadd1_ev {w : WorldT} {known : Int} {rs : List ReadT} {q : ReadT} (hb : rs.length ≤ 999999999) : (Ev Tryz.prog Γk 119 [.ref (.ptr 0 0), .ref (.vec 2 0)] (lkH w known rs 0 ++ [.vec [[int q.kind, int q.sub, int q.obj, int q.frm, int q.til]] 0 5]) (.tup []) (lkH w known (rs ++ [q]) 1 ++ [.vec [[int q.kind, int q.sub, int q.obj, int q.frm, int q.til]] 0 5])) := by
 refine Ev.castH (Ev.of_sym (h' := [.var [.ref (.vec 1 1), ab (List.map CourseT.row w.c), ab w.p, ab (List.map SysT.row w.s), ab (List.map FactT.row w.f), int known], .vec (am (rdR rs) ++ [[int q.kind, int q.sub, int q.obj, int q.frm, int q.til]]) 1 5, .vec [[int q.kind, int q.sub, int q.obj, int q.frm, int q.til]] 0 5]) (d := D.tup []) pok [] (by kernel_rfl) (.c (show (List.all [[int q.kind, int q.sub, int q.obj, int q.frm, int q.til]] (bh 5) && roomOk (List.length (am (rdR rs)) + List.length [[int q.kind, int q.sub, int q.obj, int q.frm, int q.til]]) 40) = true from (by first | assumption | rfl | omega | (simp [bh, D.one, Value.oneCell', roomOk]; omega))) .n)) ?_ ?_ <;> (first | rfl | (simp only [lkH, rdR, am, List.map_append]; rfl) | (simp only [lkH, rdR, am, List.map_append]; done))
def rdN : ReadT := ⟨12, 0, 0, 0, 1⟩
theorem bB {w : WorldT} (hw : w.ok) {known : Int} (h : List Blk) : Ev Tryz.prog Γk 34 [.agg w.l, int known] h (.tup [ab ((numbersR w.f known).map fun n => [vi n]), .ref (.vec h.length 0)]) (h ++ [.vec (am (rdR [rdN])) 0 5]) :=
 Ev.glob0 (numbers_evA hw.lf hw.sf h)
def rdT (kk ks ko term : Int) : List ReadT := match outB term with
 | true => []
 | false => [⟨kk, ks, ko, term, IntKind.i64.wrap (term + 1)⟩]
theorem rdT_row (kk ks ko term : Int) : readsT kk ks ko term = rdR (rdT kk ks ko term) := by
 unfold readsT rdT
 cases outB term <;> rfl
theorem rdT_len (kk ks ko term : Int) : (rdT kk ks ko term).length ≤ 1 := by unfold rdT; cases outB term <;> simp
theorem course2_ev {w : WorldT} (hw : w.ok) {n term known : Int} (h : List Blk) : Ev Tryz.prog Γk 161 [.agg w.l, int n, int term, int known] h (.tup [ag (ac w n term known).1.row, ab (rdR (rdT 1 n 0 term)), bool (ac w n term known).2]) h := by
 rw [← rdT_row]; exact course_evA hw h
noncomputable abbrev lknum_ev_x0 (w : WorldT) (known : Int) (rs : List ReadT) : List Blk := [.var [.ref (.vec 1 1), ab (List.map CourseT.row w.c), ab w.p, ab (List.map SysT.row w.s), ab (List.map FactT.row w.f), int known], .vec (am (rdR (rs ++ [rdN]))) 1 5, .vec [[int rdN.kind, int rdN.sub, int rdN.obj, int rdN.frm, int rdN.til]] 0 5]
noncomputable abbrev lknum_ev_x1 (w : WorldT) (known : Int) (rs : List ReadT) : List Blk := [.var [.ref (.vec 1 0), ab (List.map CourseT.row w.c), ab w.p, ab (List.map SysT.row w.s), ab (List.map FactT.row w.f), int known], .vec (am (rdR rs)) 0 5, .vec [[int rdN.kind, int rdN.sub, int rdN.obj, int rdN.frm, int rdN.til]] 0 5]
noncomputable abbrev lknum_ev_x2 (w : WorldT) (known : Int) (rs : List ReadT) : List Blk := [.var [.ref (.vec 1 0), ab (List.map CourseT.row w.c), ab w.p, ab (List.map SysT.row w.s), ab (List.map FactT.row w.f), int known], .vec (am (rdR rs)) 0 5]
theorem lknum_ev {w : WorldT} (hw : w.ok) {known : Int} {rs : List ReadT} (hb : rs.length ≤ 999999000) : (Ev Tryz.prog Γk 62 [.ref (.ptr 0 0)] (lkH w known rs 0) (ab ((numbersR w.f known).map fun n => [vi n])) (lkH w known (rs ++ [rdN]) 1)) := by
 refine Ev.castH (Ev.post (d2 := ab (List.map (fun n => [vi n]) (numbersR w.f known))) (h2 := [.var [.ref (.vec 1 1), ab (List.map CourseT.row w.c), ab w.p, ab (List.map SysT.row w.s), ab (List.map FactT.row w.f), int known], .vec (am (rdR (rs ++ [rdN]))) 1 5]) (φ := [Blk.inn 2 (.var [.ref (.vec 1 1), ab (List.map CourseT.row w.c), ab w.p, ab (List.map SysT.row w.s), ab (List.map FactT.row w.f), int known]) = true, Blk.inn 2 (.vec (am (rdR (rs ++ [rdN]))) 1 5) = true]) [.st (.trimV 2)] (Ev.of_sym (h' := (lknum_ev_x0 w known rs)) (d := ab (List.map (fun n => [vi n]) (numbersR w.f known))) pok [.call (D.tup [ab (List.map (fun n => [vi n]) (numbersR w.f known)), .ref (.vec 2 0)]) (lknum_ev_x1 w known rs), .call (D.tup []) (lknum_ev_x0 w known rs)] (by kernel_rfl) (.c (@bB (w) (hw) (known) ((lknum_ev_x2 w known rs))) (.e (.ref (.ptr 0 0)) (.e (.ref (.ptr 0 1)) (.e (D.agg (WorldT.l w)) (.e (.ref (.ptr 0 0)) (.e (.ref (.ptr 0 5)) (.e (int known) (.c (@lkadd1_ev (w) (known) (rs) (rdN) ?_) .n))))))))) (by kernel_rfl) ⟨rfl, ?_, trivial⟩) (by first | rfl | (simp only [lkH, rdR, am, List.map_append]; rfl) | (simp only [lkH, rdR, am, List.map_append]; done)) (by first | rfl | (simp only [lkH, rdR, am, List.map_append]; rfl) | (simp only [lkH, rdR, am, List.map_append]; done)) <;> (first | assumption | rfl | omega | exact bR _ _ | exact af | (simp; omega) | (simp only [rd_ok, roomOk, Bool.true_and, Bool.and_eq_true, decide_eq_true_eq, List.length_map]; omega))
noncomputable abbrev lkcourse_ev_x0 (w : WorldT) (known : Int) (rs : List ReadT) : List Blk := [.var [.ref (.vec 1 0), ab (List.map CourseT.row w.c), ab w.p, ab (List.map SysT.row w.s), ab (List.map FactT.row w.f), int known], .vec (am (rdR rs)) 0 5, .var [ai { data := #[] }, int 0, int 0, int 0, int 0, int 0, ai { data := #[] }, int 0, int 0, nq, int 0, int 0, ai { data := #[] }, int 0, int 0, nq], .var [ai { data := #[] }, int 0, int 0, int 0, int 0, int 0, ai { data := #[] }, int 0, int 0, nq, int 0, int 0, ai { data := #[] }, int 0, int 0, nq]]
noncomputable abbrev cV (w : WorldT) (known : Int) (rs : List ReadT) : List Blk := [.var [.ref (.vec 1 0), ab (List.map CourseT.row w.c), ab w.p, ab (List.map SysT.row w.s), ab (List.map FactT.row w.f), int known], .vec (am (rdR rs)) 0 5, .var [ai { data := #[] }, int 0, int 0, int 0, int 0, int 0, ai { data := #[] }, int 0, int 0, nq, int 0, int 0, ai { data := #[] }, int 0, int 0, nq]]
noncomputable abbrev lkcourse_ev_x2 (w : WorldT) (known : Int) (n : Int) (term : Int) : List D := [D.agg [ab (List.map CourseT.row w.c), ab w.p, ab (List.map SysT.row w.s), ab (List.map FactT.row w.f)], int n, int term, int known]
theorem lkcourse_ev {w : WorldT} (hw : w.ok) {known n term : Int} {rs : List ReadT} (hb : rs.length ≤ 999999000) : (Ev Tryz.prog Γk 116 [.ref (.ptr 0 0), int n, int term] (lkH w known rs 0) (ag (ac w n term known).1.row) (lkH w known (rs ++ rdT 1 n 0 term) 1)) := by
 refine Ev.castH (Ev.post (d2 := D.agg [ai (ac w n term known).fst.name, int (ac w n term known).fst.number, int (ac w n term known).fst.credits, int (ac w n term known).fst.rep, int (RuleT.fl (ac w n term known).fst.need).op, int (RuleT.fl (ac w n term known).fst.need).c, ai (RuleT.fl (ac w n term known).fst.need).nm, int (RuleT.fl (ac w n term known).fst.need).n, int (RuleT.fl (ac w n term known).fst.need).d, ab (RuleT.fl (ac w n term known).fst.need).ks, int (RuleT.fl (ac w n term known).fst.bar).op, int (RuleT.fl (ac w n term known).fst.bar).c, ai (RuleT.fl (ac w n term known).fst.bar).nm, int (RuleT.fl (ac w n term known).fst.bar).n, int (RuleT.fl (ac w n term known).fst.bar).d, ab (RuleT.fl (ac w n term known).fst.bar).ks]) (h2 := [.var [.ref (.vec 1 1), ab (List.map CourseT.row w.c), ab w.p, ab (List.map SysT.row w.s), ab (List.map FactT.row w.f), int known], .vec (am (rdR (rs ++ rdT 1 n 0 term))) 1 5]) (φ := [Blk.inn 2 (.var [.ref (.vec 1 1), ab (List.map CourseT.row w.c), ab w.p, ab (List.map SysT.row w.s), ab (List.map FactT.row w.f), int known]) = true, Blk.inn 2 (.vec (am (rdR (rs ++ rdT 1 n 0 term))) 1 5) = true]) [.st (.trimV 2)] (Ev.of_sym (h' := [.var [.ref (.vec 1 1), ab (List.map CourseT.row w.c), ab w.p, ab (List.map SysT.row w.s), ab (List.map FactT.row w.f), int known], .vec (am (rdR (rs ++ rdT 1 n 0 term))) 1 5, .var [ai (ac w n term known).fst.name, int (ac w n term known).fst.number, int (ac w n term known).fst.credits, int (ac w n term known).fst.rep, int (RuleT.fl (ac w n term known).fst.need).op, int (RuleT.fl (ac w n term known).fst.need).c, ai (RuleT.fl (ac w n term known).fst.need).nm, int (RuleT.fl (ac w n term known).fst.need).n, int (RuleT.fl (ac w n term known).fst.need).d, ab (RuleT.fl (ac w n term known).fst.need).ks, int (RuleT.fl (ac w n term known).fst.bar).op, int (RuleT.fl (ac w n term known).fst.bar).c, ai (RuleT.fl (ac w n term known).fst.bar).nm, int (RuleT.fl (ac w n term known).fst.bar).n, int (RuleT.fl (ac w n term known).fst.bar).d, ab (RuleT.fl (ac w n term known).fst.bar).ks], .var [ai (ac w n term known).fst.name, int (ac w n term known).fst.number, int (ac w n term known).fst.credits, int (ac w n term known).fst.rep, int (RuleT.fl (ac w n term known).fst.need).op, int (RuleT.fl (ac w n term known).fst.need).c, ai (RuleT.fl (ac w n term known).fst.need).nm, int (RuleT.fl (ac w n term known).fst.need).n, int (RuleT.fl (ac w n term known).fst.need).d, ab (RuleT.fl (ac w n term known).fst.need).ks, int (RuleT.fl (ac w n term known).fst.bar).op, int (RuleT.fl (ac w n term known).fst.bar).c, ai (RuleT.fl (ac w n term known).fst.bar).nm, int (RuleT.fl (ac w n term known).fst.bar).n, int (RuleT.fl (ac w n term known).fst.bar).d, ab (RuleT.fl (ac w n term known).fst.bar).ks]]) (d := D.agg [ai (ac w n term known).fst.name, int (ac w n term known).fst.number, int (ac w n term known).fst.credits, int (ac w n term known).fst.rep, int (RuleT.fl (ac w n term known).fst.need).op, int (RuleT.fl (ac w n term known).fst.need).c, ai (RuleT.fl (ac w n term known).fst.need).nm, int (RuleT.fl (ac w n term known).fst.need).n, int (RuleT.fl (ac w n term known).fst.need).d, ab (RuleT.fl (ac w n term known).fst.need).ks, int (RuleT.fl (ac w n term known).fst.bar).op, int (RuleT.fl (ac w n term known).fst.bar).c, ai (RuleT.fl (ac w n term known).fst.bar).nm, int (RuleT.fl (ac w n term known).fst.bar).n, int (RuleT.fl (ac w n term known).fst.bar).d, ab (RuleT.fl (ac w n term known).fst.bar).ks]) pok [.val (D.tup [D.agg [ai (ac w n term known).fst.name, int (ac w n term known).fst.number, int (ac w n term known).fst.credits, int (ac w n term known).fst.rep, int (RuleT.fl (ac w n term known).fst.need).op, int (RuleT.fl (ac w n term known).fst.need).c, ai (RuleT.fl (ac w n term known).fst.need).nm, int (RuleT.fl (ac w n term known).fst.need).n, int (RuleT.fl (ac w n term known).fst.need).d, ab (RuleT.fl (ac w n term known).fst.need).ks, int (RuleT.fl (ac w n term known).fst.bar).op, int (RuleT.fl (ac w n term known).fst.bar).c, ai (RuleT.fl (ac w n term known).fst.bar).nm, int (RuleT.fl (ac w n term known).fst.bar).n, int (RuleT.fl (ac w n term known).fst.bar).d, ab (RuleT.fl (ac w n term known).fst.bar).ks], ab (rdR (rdT 1 n 0 term)), bool (ac w n term known).snd]), .call (D.tup []) [.var [.ref (.vec 1 1), ab (List.map CourseT.row w.c), ab w.p, ab (List.map SysT.row w.s), ab (List.map FactT.row w.f), int known], .vec (am (rdR (rs ++ rdT 1 n 0 term))) 1 5, .var [ai { data := #[] }, int 0, int 0, int 0, int 0, int 0, ai { data := #[] }, int 0, int 0, nq, int 0, int 0, ai { data := #[] }, int 0, int 0, nq], .var [ai (ac w n term known).fst.name, int (ac w n term known).fst.number, int (ac w n term known).fst.credits, int (ac w n term known).fst.rep, int (RuleT.fl (ac w n term known).fst.need).op, int (RuleT.fl (ac w n term known).fst.need).c, ai (RuleT.fl (ac w n term known).fst.need).nm, int (RuleT.fl (ac w n term known).fst.need).n, int (RuleT.fl (ac w n term known).fst.need).d, ab (RuleT.fl (ac w n term known).fst.need).ks, int (RuleT.fl (ac w n term known).fst.bar).op, int (RuleT.fl (ac w n term known).fst.bar).c, ai (RuleT.fl (ac w n term known).fst.bar).nm, int (RuleT.fl (ac w n term known).fst.bar).n, int (RuleT.fl (ac w n term known).fst.bar).d, ab (RuleT.fl (ac w n term known).fst.bar).ks]]] (by kernel_rfl) (.c (@course2_ev (w) (hw) (n) (term) (known) ((cV w known rs))) (.e (.ref (.ptr 0 0)) (.e (.ref (.ptr 0 0)) (.e (.ref (.ptr 0 1)) (.e (.ref (.ptr 0 1)) (.e (D.agg (WorldT.l w)) (.e (D.agg (WorldT.l w)) (.e (.ref (.ptr 0 0)) (.e (.ref (.ptr 0 0)) (.e (.ref (.ptr 0 5)) (.e (.ref (.ptr 0 5)) (.e (int known) (.e (int known) (.c (show (cV w known rs) = (cV w known rs) from rfl) (.c (@course2_ev (w) (hw) (n) (term) (known) ((cV w known rs))) (.c (@course2_ev (w) (hw) (n) (term) (known) ((lkcourse_ev_x0 w known rs))) (.c (show Ev Tryz.prog Γk 119 [.ref (.ptr 0 0), ab (rdR (rdT 1 n 0 term))] [.var [.ref (.vec 1 0), ab (List.map CourseT.row w.c), ab w.p, ab (List.map SysT.row w.s), ab (List.map FactT.row w.f), int known], .vec (am (rdR rs)) 0 5, .var [ai { data := #[] }, int 0, int 0, int 0, int 0, int 0, ai { data := #[] }, int 0, int 0, nq, int 0, int 0, ai { data := #[] }, int 0, int 0, nq], .var [ai (ac w n term known).fst.name, int (ac w n term known).fst.number, int (ac w n term known).fst.credits, int (ac w n term known).fst.rep, int (RuleT.fl (ac w n term known).fst.need).op, int (RuleT.fl (ac w n term known).fst.need).c, ai (RuleT.fl (ac w n term known).fst.need).nm, int (RuleT.fl (ac w n term known).fst.need).n, int (RuleT.fl (ac w n term known).fst.need).d, ab (RuleT.fl (ac w n term known).fst.need).ks, int (RuleT.fl (ac w n term known).fst.bar).op, int (RuleT.fl (ac w n term known).fst.bar).c, ai (RuleT.fl (ac w n term known).fst.bar).nm, int (RuleT.fl (ac w n term known).fst.bar).n, int (RuleT.fl (ac w n term known).fst.bar).d, ab (RuleT.fl (ac w n term known).fst.bar).ks]] (D.tup []) [.var [.ref (.vec 1 1), ab (List.map CourseT.row w.c), ab w.p, ab (List.map SysT.row w.s), ab (List.map FactT.row w.f), int known], .vec (am (rdR (rs ++ rdT 1 n 0 term))) 1 5, .var [ai { data := #[] }, int 0, int 0, int 0, int 0, int 0, ai { data := #[] }, int 0, int 0, nq, int 0, int 0, ai { data := #[] }, int 0, int 0, nq], .var [ai (ac w n term known).fst.name, int (ac w n term known).fst.number, int (ac w n term known).fst.credits, int (ac w n term known).fst.rep, int (RuleT.fl (ac w n term known).fst.need).op, int (RuleT.fl (ac w n term known).fst.need).c, ai (RuleT.fl (ac w n term known).fst.need).nm, int (RuleT.fl (ac w n term known).fst.need).n, int (RuleT.fl (ac w n term known).fst.need).d, ab (RuleT.fl (ac w n term known).fst.need).ks, int (RuleT.fl (ac w n term known).fst.bar).op, int (RuleT.fl (ac w n term known).fst.bar).c, ai (RuleT.fl (ac w n term known).fst.bar).nm, int (RuleT.fl (ac w n term known).fst.bar).n, int (RuleT.fl (ac w n term known).fst.bar).d, ab (RuleT.fl (ac w n term known).fst.bar).ks]] from (Ev.castH (Ev.frameX (args := [.ref (.ptr 0 0), ab (rdR (rdT 1 n 0 term))]) (H := [.var [.ref (.vec 1 0), ab (List.map CourseT.row w.c), ab w.p, ab (List.map SysT.row w.s), ab (List.map FactT.row w.f), int known], .vec (am (rdR rs)) 0 5, .var [ai { data := #[] }, int 0, int 0, int 0, int 0, int 0, ai { data := #[] }, int 0, int 0, nq, int 0, int 0, ai { data := #[] }, int 0, int 0, nq], .var [ai (ac w n term known).fst.name, int (ac w n term known).fst.number, int (ac w n term known).fst.credits, int (ac w n term known).fst.rep, int (RuleT.fl (ac w n term known).fst.need).op, int (RuleT.fl (ac w n term known).fst.need).c, ai (RuleT.fl (ac w n term known).fst.need).nm, int (RuleT.fl (ac w n term known).fst.need).n, int (RuleT.fl (ac w n term known).fst.need).d, ab (RuleT.fl (ac w n term known).fst.need).ks, int (RuleT.fl (ac w n term known).fst.bar).op, int (RuleT.fl (ac w n term known).fst.bar).c, ai (RuleT.fl (ac w n term known).fst.bar).nm, int (RuleT.fl (ac w n term known).fst.bar).n, int (RuleT.fl (ac w n term known).fst.bar).d, ab (RuleT.fl (ac w n term known).fst.bar).ks]]) [0, 1] (@lkadd_ev (w) (known) (rs) (rdT 1 n 0 term) (by first | assumption | rfl | omega | exact bR _ _ | exact af | (have := rdT_len 1 n 0 term; omega) | (simp; omega))) (by kernel_rfl) (by kernel_rfl) (by kernel_rfl) ⟨?_, trivial⟩ ⟨?_, trivial⟩) (by kernel_rfl) (by kernel_rfl))) .n)))))))))))))))))) (by kernel_rfl) ⟨rfl, (by first | assumption | rfl | omega | exact bR _ _ | exact af | (have := rdT_len 1 n 0 term; omega) | (simp; omega)), trivial⟩) (by first | rfl | (simp only [lkH, rdR, am, List.map_append]; rfl) | (simp only [lkH, rdR, am, List.map_append]; done)) (by first | rfl | (simp only [lkH, rdR, am, List.map_append]; rfl) | (simp only [lkH, rdR, am, List.map_append]; done)) <;> (first | rfl | exact bp _ _ | first | assumption | rfl | omega | exact bR _ _ | exact af | (have := rdT_len 1 n 0 term; omega) | (simp; omega))
noncomputable abbrev cW (w : WorldT) (known : Int) (st : Int) (n : Int) (term : Int) (rs : List ReadT) : List Blk := [.var [.ref (.vec 1 1), ab (List.map CourseT.row w.c), ab w.p, ab (List.map SysT.row w.s), ab (List.map FactT.row w.f), int known], .vec (am (rdR (rs ++ [{ kind := 5, sub := st, obj := n, frm := 0, til := term }]))) 1 5, .var [int 5, int st, int n], .vec [[int 5, int st, int n, int 0, int term]] 0 5]
theorem lkgrades_ev {w : WorldT} (hw : w.ok) {known st n term : Int} {rs : List ReadT} (hb : rs.length ≤ 999999000) : (Ev Tryz.prog Γk 115 [.ref (.ptr 0 0), int st, int n, int term] (lkH w known rs 0) (ab ((aL 5 st n 0 term known w.f).map PtT.row)) (lkH w known (rs ++ [⟨5, st, n, 0, term⟩]) 1)) := by
 refine Ev.castH (Ev.post (d2 := ab (List.map PtT.row (aL 5 st n 0 term known w.f))) (h2 := [.var [.ref (.vec 1 1), ab (List.map CourseT.row w.c), ab w.p, ab (List.map SysT.row w.s), ab (List.map FactT.row w.f), int known], .vec (am (rdR (rs ++ [{ kind := 5, sub := st, obj := n, frm := 0, til := term }]))) 1 5]) (φ := [Blk.inn 2 (.var [.ref (.vec 1 1), ab (List.map CourseT.row w.c), ab w.p, ab (List.map SysT.row w.s), ab (List.map FactT.row w.f), int known]) = true, Blk.inn 2 (.vec (am (rdR (rs ++ [{ kind := 5, sub := st, obj := n, frm := 0, til := term }]))) 1 5) = true]) [.st (.trimV 2)] (Ev.of_sym (h' := (cW w known st n term rs)) (d := ab (List.map PtT.row (aL 5 st n 0 term known w.f))) pok [.call (D.tup []) (cW w known st n term rs), .val (ab (List.map PtT.row (aL 5 st n 0 term known w.f)))] (by kernel_rfl) (.c (show Ev Tryz.prog Γk 119 [.ref (.ptr 0 0), .ref (.vec 3 0)] [.var [.ref (.vec 1 0), ab (List.map CourseT.row w.c), ab w.p, ab (List.map SysT.row w.s), ab (List.map FactT.row w.f), int known], .vec (am (rdR rs)) 0 5, .var [int 5, int st, int n], .vec [[int 5, int st, int n, int 0, int term]] 0 5] (D.tup []) (cW w known st n term rs) from (Ev.castH (Ev.frameX (args := [.ref (.ptr 0 0), .ref (.vec 3 0)]) (H := [.var [.ref (.vec 1 0), ab (List.map CourseT.row w.c), ab w.p, ab (List.map SysT.row w.s), ab (List.map FactT.row w.f), int known], .vec (am (rdR rs)) 0 5, .var [int 5, int st, int n], .vec [[int 5, int st, int n, int 0, int term]] 0 5]) [0, 1, 3] (@lkadd1_ev (w) (known) (rs) ({ kind := 5, sub := st, obj := n, frm := 0, til := term }) (by first | assumption | rfl | omega | exact bR _ _ | exact af | exact hw.sf | (simp; omega) | (simp [bh, D.one, Value.oneCell', roomOk]; omega))) (by kernel_rfl) (by kernel_rfl) (by kernel_rfl) ⟨?_, ?_, trivial⟩ ⟨?_, ?_, trivial⟩) (by kernel_rfl) (by kernel_rfl))) (.e (.ref (.ptr 0 0)) (.e (.ref (.ptr 0 0)) (.e (.ref (.ptr 0 0)) (.e (.ref (.ptr 0 0)) (.e (D.agg [int 5, int st, int n]) (.c (Ev.glob0 (Γ' := Γk) (@points_ev (5) (st) (n) (0) (term) (known) (w.f) (by first | assumption | rfl | omega | exact bR _ _ | exact af | exact hw.sf | (simp; omega) | (simp [bh, D.one, Value.oneCell', roomOk]; omega)) ((cW w known st n term rs)))) .n)))))))) (by kernel_rfl) ⟨rfl, (by first | assumption | rfl | omega | exact bR _ _ | exact af | exact hw.sf | (simp; omega) | (simp [bh, D.one, Value.oneCell', roomOk]; omega)), trivial⟩) (by first | rfl | (simp only [lkH, rdR, am, List.map_append]; rfl) | (simp only [lkH, rdR, am, List.map_append]; done)) (by first | rfl | (simp only [lkH, rdR, am, List.map_append]; rfl) | (simp only [lkH, rdR, am, List.map_append]; done)) <;> (first | rfl | exact bp _ _ | first | assumption | rfl | omega | exact bR _ _ | exact af | exact hw.sf | (simp; omega) | (simp [bh, D.one, Value.oneCell', roomOk]; omega))
end Go.Vi
open Go Go.Proofs
namespace Go.Vi
set_option maxRecDepth 100000
set_option maxHeartbeats 4000000
theorem sortAttR_ev {h : List Blk} {b e : Nat} {l : List AttT} (hb : h[b]? = some (.vec (am (l.map AttT.row)) e 5)) (hl : l.length < 4611686018427387904) (hT : ∀ x ∈ l, ∀ y ∈ l, x.term = y.term → x.course = y.course → x = y) :
  Ev Tryz.prog Γ0 117 [.ref (.vec b e), .p (.v (.func (.func 79) #[] #[]))] h (.tup []) (h.set b (.vec (am ((l.mergeSort leA).map AttT.row)) e 5)) := by
 have e1 : ∀ l : List AttT, am (l.map AttT.row) = attsV l := fun l => by simp [am]
 rw [e1] at hb ⊢
 exact sortAtt_ev hb hl hT
abbrev ofH (w : WorldT) (known st : Int) (rs : List ReadT) (ats : List AttT) : List Blk := [.var [.ref (.vec 1 1), ab (w.c.map CourseT.row), ab w.p, ab (w.s.map SysT.row), ab (w.f.map FactT.row), int known], .vec (am (rdR rs)) 1 5, .var [int st, .ref (.vec 3 0)], .vec (am (ats.map AttT.row)) 0 5]
abbrev oiS (w : WorldT) (known st term : Int) (ns : List (List Dp)) (ni n : Int) (ps : List (List Dp)) (rs : List ReadT) (ats : List AttT) (j : Int) : AS :=
 { t := mkT 67 0 [(0, .ref (.ptr 0 0)), (1, int st), (2, int term), (6, .ref (.ptr 2 0)), (8, int n), (16, ab ns), (17, int ns.length), (18, int ni), (26, ab ps), (27, int ps.length), (28, int j)], h := ofH w known st rs ats, m := [] }
abbrev RA := List ReadT × List AttT
def attBad (p : PtT) : Bool := decide (Int.tmod p.value 16 > 12) || decide (IntKind.i64.wrap (Int.tdiv p.value 16) ≥ 7)
def attOf (w : WorldT) (known n : Int) (p : PtT) : AttT := ⟨n, p.term, Int.tmod p.value 16, IntKind.i64.wrap (Int.tdiv p.value 16), (ac w n p.term known).1.credits⟩
def ofIn (w : WorldT) (known n : Int) (s : RA) (p : PtT) : RA := bif attBad p then s else (s.1 ++ rdT 1 n 0 p.term, s.2 ++ [attOf w known n p])
theorem aA (l : List AttT) (a b c d e : Int) : am (l.map AttT.row) ++ [[int a, int b, int c, int d, int e]] = am ((l ++ [AttT.mk a b c d e]).map AttT.row) := by simp [AttT.row]
theorem oi_body {w : WorldT} (hw : w.ok) {known st term : Int} {ns : List (List Dp)} {ni n : Int} {ps : List (List Dp)} {rs0 rs : List ReadT} {ats : List AttT} {j : Nat} {p : PtT} (hr : bw (j : Int) ps p.row 2) (hlt : decide ((j : Int) < (ps.length : Int)) = true) (hwr : IntKind.i64.wrap ((j : Int) + 1) = ((j + 1 : Nat) : Int)) (hb : rs.length ≤ 999998000) (ha : ats.length ≤ 999998000) : (CW Tryz.prog Γk (lkH w known rs0 0) false (sub Tryz.f60 1) (oiS w known st term ns ni n ps rs ats j) .normal (oiS w known st term ns ni n ps (ofIn w known n (rs, ats) p).1 (ofIn w known n (rs, ats) p).2 ((j + 1 : Nat) : Int))) := by
 cases hc0 : decide (Int.tmod p.value 16 > 12) || decide (IntKind.wrap IntKind.i64 (Int.tdiv p.value 16) ≥ 7)
 ·refine CW.cast (CW.symX (s' := { t := mkT 67 0 [(0, .ref (.ptr 0 0)), (1, int st), (2, int term), (6, .ref (.ptr 2 0)), (8, int n), (16, ab ns), (17, int (↑(List.length ns) : Int)), (18, int ni), (26, ab ps), (27, int (↑(List.length ps) : Int)), (28, int (IntKind.wrap IntKind.i64 ((↑j : Int) + 1)))], h := [.var [.ref (.vec 1 1), ab (List.map CourseT.row w.c), ab w.p, ab (List.map SysT.row w.s), ab (List.map FactT.row w.f), int known], .vec (am (rdR (rs ++ rdT 1 n 0 p.term))) 1 5, .var [int st, .ref (.vec 3 0)], .vec (am (List.map AttT.row ats) ++ [[int n, int p.term, int (Int.tmod p.value 16), int (IntKind.wrap IntKind.i64 (Int.tdiv p.value 16)), int (ac w n p.term known).fst.credits]]) 0 5], m := [] }) (e := Exit.normal) pok [.st (.mask [0, 1, 2, 6, 8, 16, 17, 18, 26, 27, 28]), .st (.ren 1 1), .st (.ren 3 0), .st (.trimV 4)] [.b true, .row [vi p.term, vi p.value], .b false, .call (D.agg [ai (ac w n p.term known).fst.name, int (ac w n p.term known).fst.number, int (ac w n p.term known).fst.credits, int (ac w n p.term known).fst.rep, int (RuleT.fl (ac w n p.term known).fst.need).op, int (RuleT.fl (ac w n p.term known).fst.need).c, ai (RuleT.fl (ac w n p.term known).fst.need).nm, int (RuleT.fl (ac w n p.term known).fst.need).n, int (RuleT.fl (ac w n p.term known).fst.need).d, ab (RuleT.fl (ac w n p.term known).fst.need).ks, int (RuleT.fl (ac w n p.term known).fst.bar).op, int (RuleT.fl (ac w n p.term known).fst.bar).c, ai (RuleT.fl (ac w n p.term known).fst.bar).nm, int (RuleT.fl (ac w n p.term known).fst.bar).n, int (RuleT.fl (ac w n p.term known).fst.bar).d, ab (RuleT.fl (ac w n p.term known).fst.bar).ks]) [.var [.ref (.vec 1 2), ab (List.map CourseT.row w.c), ab w.p, ab (List.map SysT.row w.s), ab (List.map FactT.row w.f), int known], .vec (am (rdR (rs ++ rdT 1 n 0 p.term))) 2 5, .var [int st, .ref (.vec 3 0)], .vec (am (List.map AttT.row ats)) 0 5, .var [int p.term, int p.value]]] (by kernel_rfl) (.c hlt (.c hr (.c (show (!decide (16 = 0)) = true from rfl) (.c (show (!decide (16 = 0)) = true from rfl) (.c hc0 (.c (show Ev Tryz.prog Γk 116 [.ref (.ptr 0 0), int n, int p.term] [.var [.ref (.vec 1 1), ab (List.map CourseT.row w.c), ab w.p, ab (List.map SysT.row w.s), ab (List.map FactT.row w.f), int known], .vec (am (rdR rs)) 1 5, .var [int st, .ref (.vec 3 0)], .vec (am (List.map AttT.row ats)) 0 5, .var [int p.term, int p.value]] (D.agg [ai (ac w n p.term known).fst.name, int (ac w n p.term known).fst.number, int (ac w n p.term known).fst.credits, int (ac w n p.term known).fst.rep, int (RuleT.fl (ac w n p.term known).fst.need).op, int (RuleT.fl (ac w n p.term known).fst.need).c, ai (RuleT.fl (ac w n p.term known).fst.need).nm, int (RuleT.fl (ac w n p.term known).fst.need).n, int (RuleT.fl (ac w n p.term known).fst.need).d, ab (RuleT.fl (ac w n p.term known).fst.need).ks, int (RuleT.fl (ac w n p.term known).fst.bar).op, int (RuleT.fl (ac w n p.term known).fst.bar).c, ai (RuleT.fl (ac w n p.term known).fst.bar).nm, int (RuleT.fl (ac w n p.term known).fst.bar).n, int (RuleT.fl (ac w n p.term known).fst.bar).d, ab (RuleT.fl (ac w n p.term known).fst.bar).ks]) [.var [.ref (.vec 1 2), ab (List.map CourseT.row w.c), ab w.p, ab (List.map SysT.row w.s), ab (List.map FactT.row w.f), int known], .vec (am (rdR (rs ++ rdT 1 n 0 p.term))) 2 5, .var [int st, .ref (.vec 3 0)], .vec (am (List.map AttT.row ats)) 0 5, .var [int p.term, int p.value]] from (Ev.castH (Ev.frameX (args := [.ref (.ptr 0 0), int n, int p.term]) (H := [.var [.ref (.vec 1 1), ab (List.map CourseT.row w.c), ab w.p, ab (List.map SysT.row w.s), ab (List.map FactT.row w.f), int known], .vec (am (rdR rs)) 1 5, .var [int st, .ref (.vec 3 0)], .vec (am (List.map AttT.row ats)) 0 5, .var [int p.term, int p.value]]) [0, 1] (Ev.upX [0, 1] (@lkcourse_ev (w) (hw) (known) (n) (p.term) (rs) ?_) (by kernel_rfl) ⟨(by first | rfl | exact bp _ _ | first | assumption | rfl | omega | exact ah _ _ | exact af | (rw [aA]; exact ah _ _) | (rw [aA]; exact af) | (simp [bh, D.one, Value.oneCell', roomOk]; omega)), trivial⟩ ⟨(by first | rfl | exact bp _ _ | first | assumption | rfl | omega | exact ah _ _ | exact af | (rw [aA]; exact ah _ _) | (rw [aA]; exact af) | (simp [bh, D.one, Value.oneCell', roomOk]; omega)), trivial⟩) (by kernel_rfl) (by kernel_rfl) (by kernel_rfl) ⟨(by first | rfl | exact bp _ _ | first | assumption | rfl | omega | exact ah _ _ | exact af | (rw [aA]; exact ah _ _) | (rw [aA]; exact af) | (simp [bh, D.one, Value.oneCell', roomOk]; omega)), trivial⟩ ⟨(by first | rfl | exact bp _ _ | first | assumption | rfl | omega | exact ah _ _ | exact af | (rw [aA]; exact ah _ _) | (rw [aA]; exact af) | (simp [bh, D.one, Value.oneCell', roomOk]; omega)), trivial⟩) (by kernel_rfl) (by kernel_rfl))) (.c (show (List.all [[int n, int p.term, int (Int.tmod p.value 16), int (IntKind.wrap IntKind.i64 (Int.tdiv p.value 16)), int (ac w n p.term known).fst.credits]] (bh 5) && roomOk (List.length (am (List.map AttT.row ats)) + List.length [[int n, int p.term, int (Int.tmod p.value 16), int (IntKind.wrap IntKind.i64 (Int.tdiv p.value 16)), int (ac w n p.term known).fst.credits]]) 40) = true from ?_) (.e (.ref (.ptr 2 1)) (.e (.ref (.ptr 2 1)) (.e (.ref (.ptr 2 1)) (.e (.ref (.vec 3 0)) (.e (.ref (.vec 3 0)) (.e (.ref (.vec 3 0)) (.e (.ref (.ptr 4 0)) (.e (.ref (.ptr 4 0)) (.e (int p.term) (.e (int p.term) (.e (.ref (.ptr 4 0)) (.e (int p.term) (.e (.ref (.ptr 2 1)) (.c (show List.map (D.mapRL (bX 1 2 1)) (am (rdR (rs ++ rdT 1 n 0 p.term))) = am (rdR (rs ++ rdT 1 n 0 p.term)) from ?_) (.c (show List.map (D.mapRL (bX 1 2 1)) (am (List.map AttT.row ats) ++ [[int n, int p.term, int (Int.tmod p.value 16), int (IntKind.wrap IntKind.i64 (Int.tdiv p.value 16)), int (ac w n p.term known).fst.credits]]) = am (List.map AttT.row ats) ++ [[int n, int p.term, int (Int.tmod p.value 16), int (IntKind.wrap IntKind.i64 (Int.tdiv p.value 16)), int (ac w n p.term known).fst.credits]] from ?_) (.c (show [[int n, int p.term, int (Int.tmod p.value 16), int (IntKind.wrap IntKind.i64 (Int.tdiv p.value 16)), int (ac w n p.term known).fst.credits]] = [[int n, int p.term, int (Int.tmod p.value 16), int (IntKind.wrap IntKind.i64 (Int.tdiv p.value 16)), int (ac w n p.term known).fst.credits]] from rfl) (.c (show List.map (D.mapRL (bX 3 1 0)) (am (List.map AttT.row ats) ++ [[int n, int p.term, int (Int.tmod p.value 16), int (IntKind.wrap IntKind.i64 (Int.tdiv p.value 16)), int (ac w n p.term known).fst.credits]]) = am (List.map AttT.row ats) ++ [[int n, int p.term, int (Int.tmod p.value 16), int (IntKind.wrap IntKind.i64 (Int.tdiv p.value 16)), int (ac w n p.term known).fst.credits]] from ?_) (.c (show List.map (D.mapRL (bX 3 1 0)) (am (rdR (rs ++ rdT 1 n 0 p.term))) = am (rdR (rs ++ rdT 1 n 0 p.term)) from ?_) (.c (show [[int n, int p.term, int (Int.tmod p.value 16), int (IntKind.wrap IntKind.i64 (Int.tdiv p.value 16)), int (ac w n p.term known).fst.credits]] = [[int n, int p.term, int (Int.tmod p.value 16), int (IntKind.wrap IntKind.i64 (Int.tdiv p.value 16)), int (ac w n p.term known).fst.credits]] from rfl) (.c (show Blk.inn 4 (match 0 == 3 with | true => .vec (am (List.map AttT.row ats) ++ [[int n, int p.term, int (Int.tmod p.value 16), int (IntKind.wrap IntKind.i64 (Int.tdiv p.value 16)), int (ac w n p.term known).fst.credits]]) 0 5 | false => keepX (bX 3 1 0) (match 0 == 1 with | true => .vec (am (rdR (rs ++ rdT 1 n 0 p.term))) 1 5 | false => keepX (bX 1 2 1) (.var [.ref (.vec 1 2), ab (List.map CourseT.row w.c), ab w.p, ab (List.map SysT.row w.s), ab (List.map FactT.row w.f), int known]))) = true from rfl) (.c (show Blk.inn 4 (match 0 + 1 == 3 with | true => .vec (am (List.map AttT.row ats) ++ [[int n, int p.term, int (Int.tmod p.value 16), int (IntKind.wrap IntKind.i64 (Int.tdiv p.value 16)), int (ac w n p.term known).fst.credits]]) 0 5 | false => keepX (bX 3 1 0) (match 0 + 1 == 1 with | true => .vec (am (rdR (rs ++ rdT 1 n 0 p.term))) 1 5 | false => keepX (bX 1 2 1) (.vec (am (rdR (rs ++ rdT 1 n 0 p.term))) 2 5))) = true from ?_) (.c (show Blk.inn 4 (match 0 + 1 + 1 == 3 with | true => .vec (am (List.map AttT.row ats) ++ [[int n, int p.term, int (Int.tmod p.value 16), int (IntKind.wrap IntKind.i64 (Int.tdiv p.value 16)), int (ac w n p.term known).fst.credits]]) 0 5 | false => keepX (bX 3 1 0) (match 0 + 1 + 1 == 1 with | true => .vec (am (rdR (rs ++ rdT 1 n 0 p.term))) 1 5 | false => keepX (bX 1 2 1) (.var [int st, .ref (.vec 3 1)]))) = true from rfl) (.c (show Blk.inn 4 (match 0 + 1 + 1 + 1 == 3 with | true => .vec (am (List.map AttT.row ats) ++ [[int n, int p.term, int (Int.tmod p.value 16), int (IntKind.wrap IntKind.i64 (Int.tdiv p.value 16)), int (ac w n p.term known).fst.credits]]) 0 5 | false => keepX (bX 3 1 0) (match 0 + 1 + 1 + 1 == 1 with | true => .vec (am (rdR (rs ++ rdT 1 n 0 p.term))) 1 5 | false => keepX (bX 1 2 1) (.vec (am (List.map AttT.row ats) ++ [[int n, int p.term, int (Int.tmod p.value 16), int (IntKind.wrap IntKind.i64 (Int.tdiv p.value 16)), int (ac w n p.term known).fst.credits]]) 1 5))) = true from ?_) .n))))))))))))))))))))))))))))))) (by first | rfl | (have hh : attBad p = true := hc0; simp only [hwr, ofIn, hh, cond_true]; first | done | rfl) | (have hh : attBad p = false := hc0; simp only [hwr, ofIn, hh, cond_false, aA]; first | done | rfl)) (by first | rfl | (have hh : attBad p = true := hc0; simp only [hwr, ofIn, hh, cond_true]; first | done | rfl) | (have hh : attBad p = false := hc0; simp only [hwr, ofIn, hh, cond_false, aA]; first | done | rfl)) <;> (first | assumption | rfl | omega | exact ah _ _ | exact af | (rw [aA]; exact ah _ _) | (rw [aA]; exact af) | (simp [bh, D.one, Value.oneCell', roomOk]; omega))
 ·refine CW.cast (CW.symX (s' := { t := mkT 67 0 [(0, .ref (.ptr 0 0)), (1, int st), (2, int term), (6, .ref (.ptr 2 0)), (8, int n), (16, ab ns), (17, int (↑(List.length ns) : Int)), (18, int ni), (26, ab ps), (27, int (↑(List.length ps) : Int)), (28, int (IntKind.wrap IntKind.i64 ((↑j : Int) + 1)))], h := [.var [.ref (.vec 1 1), ab (List.map CourseT.row w.c), ab w.p, ab (List.map SysT.row w.s), ab (List.map FactT.row w.f), int known], .vec (am (rdR rs)) 1 5, .var [int st, .ref (.vec 3 0)], .vec (am (List.map AttT.row ats)) 0 5], m := [] }) (e := Exit.normal) pok [.st (.mask [0, 1, 2, 6, 8, 16, 17, 18, 26, 27, 28]), .st (.ren 1 1), .st (.ren 3 0), .st (.trimV 4)] [.b true, .row [vi p.term, vi p.value], .b true] (by kernel_rfl) (.c hlt (.c hr (.c (show (!decide (16 = 0)) = true from rfl) (.c (show (!decide (16 = 0)) = true from rfl) (.c hc0 (.c (show List.map (D.mapRL (bX 1 1 1)) (am (rdR rs)) = am (rdR rs) from ?_) (.c (show List.map (D.mapRL (bX 1 1 1)) (am (List.map AttT.row ats)) = am (List.map AttT.row ats) from ?_) (.c (show List.map (D.mapRL (bX 3 0 0)) (am (List.map AttT.row ats)) = am (List.map AttT.row ats) from ?_) (.c (show List.map (D.mapRL (bX 3 0 0)) (am (rdR rs)) = am (rdR rs) from ?_) (.c (show Blk.inn 4 (match 0 == 3 with | true => .vec (am (List.map AttT.row ats)) 0 5 | false => keepX (bX 3 0 0) (match 0 == 1 with | true => .vec (am (rdR rs)) 1 5 | false => keepX (bX 1 1 1) (.var [.ref (.vec 1 1), ab (List.map CourseT.row w.c), ab w.p, ab (List.map SysT.row w.s), ab (List.map FactT.row w.f), int known]))) = true from rfl) (.c (show Blk.inn 4 (match 0 + 1 == 3 with | true => .vec (am (List.map AttT.row ats)) 0 5 | false => keepX (bX 3 0 0) (match 0 + 1 == 1 with | true => .vec (am (rdR rs)) 1 5 | false => keepX (bX 1 1 1) (.vec (am (rdR rs)) 1 5))) = true from ?_) (.c (show Blk.inn 4 (match 0 + 1 + 1 == 3 with | true => .vec (am (List.map AttT.row ats)) 0 5 | false => keepX (bX 3 0 0) (match 0 + 1 + 1 == 1 with | true => .vec (am (rdR rs)) 1 5 | false => keepX (bX 1 1 1) (.var [int st, .ref (.vec 3 0)]))) = true from rfl) (.c (show Blk.inn 4 (match 0 + 1 + 1 + 1 == 3 with | true => .vec (am (List.map AttT.row ats)) 0 5 | false => keepX (bX 3 0 0) (match 0 + 1 + 1 + 1 == 1 with | true => .vec (am (rdR rs)) 1 5 | false => keepX (bX 1 1 1) (.vec (am (List.map AttT.row ats)) 0 5))) = true from ?_) .n)))))))))))))) (by first | rfl | (have hh : attBad p = true := hc0; simp only [hwr, ofIn, hh, cond_true]; first | done | rfl) | (have hh : attBad p = false := hc0; simp only [hwr, ofIn, hh, cond_false, aA]; first | done | rfl)) (by first | rfl | (have hh : attBad p = true := hc0; simp only [hwr, ofIn, hh, cond_true]; first | done | rfl) | (have hh : attBad p = false := hc0; simp only [hwr, ofIn, hh, cond_false, aA]; first | done | rfl)) <;> (first | assumption | rfl | omega | exact ah _ _ | exact af | (rw [aA]; exact ah _ _) | (rw [aA]; exact af) | (simp [bh, D.one, Value.oneCell', roomOk]; omega))
theorem oi_last {w : WorldT} {known st term : Int} {ns : List (List Dp)} {ni n : Int} {ps : List (List Dp)} {rs0 rs : List ReadT} {ats : List AttT} {j : Nat} (hlt : decide ((j : Int) < (ps.length : Int)) = false) : (CW Tryz.prog Γk (lkH w known rs0 0) false (sub Tryz.f60 1) (oiS w known st term ns ni n ps rs ats j) (.exit 2) { t := mkT 67 0 [(0, .ref (.ptr 0 0)), (1, int st), (2, int term), (6, .ref (.ptr 2 0)), (16, ab ns), (17, int ns.length), (18, int ni)], h := ofH w known st rs ats, m := [] }) := by
 exact CW.cast (CW.symX (s' := { t := mkT 67 0 [(0, .ref (.ptr 0 0)), (1, int st), (2, int term), (6, .ref (.ptr 2 0)), (16, ab ns), (17, int (↑(List.length ns) : Int)), (18, int ni)], h := [.var [.ref (.vec 1 1), ab (List.map CourseT.row w.c), ab w.p, ab (List.map SysT.row w.s), ab (List.map FactT.row w.f), int known], .vec (am (rdR rs)) 1 5, .var [int st, .ref (.vec 3 0)], .vec (am (List.map AttT.row ats)) 0 5], m := [] }) (e := Exit.exit 2) pok [.st (.mask [0, 1, 2, 6, 16, 17, 18])] [.b false] (by kernel_rfl) (.c hlt .n)) (by rfl) (by rfl)
theorem ofIn_len {w : WorldT} {known n : Int} {s : RA} (p : PtT) : (ofIn w known n s p).1.length ≤ s.1.length + 1 ∧ (ofIn w known n s p).2.length ≤ s.2.length + 1 := by
 unfold ofIn
 cases attBad p
 ·have := rdT_len 1 n 0 p.term
  simp; omega
 ·simp
theorem oi_cw {w : WorldT} (hw : w.ok) {known st term : Int} {ns : List (List Dp)} {ni n : Int} {ps : List PtT} (hp : ps.length ≤ 2000) {rs0 rs : List ReadT} {ats : List AttT} (hb : rs.length ≤ 999990000) (ha : ats.length ≤ 999990000) :
  CW Tryz.prog Γk (lkH w known rs0 0) false (.loop (sub Tryz.f60 1)) (oiS w known st term ns ni n (ps.map PtT.row) rs ats 0) (.exit 2) { t := mkT 67 0 [(0, .ref (.ptr 0 0)), (1, int st), (2, int term), (6, .ref (.ptr 2 0)), (16, ab ns), (17, int ns.length), (18, int ni)], h := ofH w known st (ps.foldl (ofIn w known n) (rs, ats)).1 (ps.foldl (ofIn w known n) (rs, ats)).2, m := [] } := by
 have hl : ao ps := by unfold ao; omega
 have := CW.each (P := Tryz.prog) (Γ := Γk) (h0 := lkH w known rs0 0) (rd := false) (c := sub Tryz.f60 1) (σ := RA) (ρ := Empty) ps (fun p s => .inl (ofIn w known n s p))
  (fun j s => oiS w known st term ns ni n (ps.map PtT.row) s.1 s.2 (j : Int)) (.exit 2) (fun s => { t := mkT 67 0 [(0, .ref (.ptr 0 0)), (1, int st), (2, int term), (6, .ref (.ptr 2 0)), (16, ab ns), (17, int ns.length), (18, int ni)], h := ofH w known st s.1 s.2, m := [] }) (fun r => r.elim)
  (fun j s => s.1.length ≤ rs.length + j ∧ s.2.length ≤ ats.length + j) (by simp) (fun r => r.elim) ?_ ?_ (rs, ats) (by simp)
 ·rw [br] at this
  exact this
 ·intro j p s hpj hs
  have hi := (List.getElem?_eq_some_iff.1 hpj).1
  refine ⟨fun s' h => by cases h; have := ofIn_len (w := w) (known := known) (n := n) (s := s) p; omega, oi_body hw (rowAt hpj rfl) (lt_len _ hi) (wrap_succ hi hl) (by omega) (by omega)⟩
 ·intro s _
  exact oi_last (fa _ ps)
theorem bC {kk ks ko frm to known : Int} {l : List FactT} : (aL kk ks ko frm to known l).length ≤ 1024 := by
 have key : ∀ (rs : List Int) (ns : List Nat) (l : List PtT), (ns.foldl (fun l n => ptF (rs.getD n 0) n l) l).length ≤ l.length + ns.length := by
  intro rs ns
  induction ns with
  | nil => intro l; simp
  | cons n ns ih => intro l; have := ih (ptF (rs.getD n 0) n l); have h2 := ptF_len (rs.getD n 0) n l; simp only [List.foldl_cons, List.length_cons]; omega
 unfold aL ptIn
 refine Nat.le_trans (key _ _ _) ?_
 have : ptHi to ≤ 1024 := by unfold ptHi; split <;> omega
 simp only [List.length_nil, List.length_range']
 have : 0 ≤ ptLo frm := ptLo_nn frm
 omega
abbrev ooS (w : WorldT) (known st term : Int) (ns : List (List Dp)) (rs : List ReadT) (ats : List AttT) (i : Int) : AS :=
 { t := mkT 67 0 [(0, .ref (.ptr 0 0)), (1, int st), (2, int term), (6, .ref (.ptr 2 0)), (16, ab ns), (17, int ns.length), (18, int i)], h := ofH w known st rs ats, m := [] }
def el (w : WorldT) (known st term : Int) (s : RA) (n : Int) : RA := (aL 5 st n 0 term known w.f).foldl (ofIn w known n) (s.1 ++ [⟨5, st, n, 0, term⟩], s.2)
noncomputable abbrev oo_body_x0 (w : WorldT) (known : Int) (st : Int) (rs : List ReadT) (ats : List AttT) : List Blk := [.var [.ref (.vec 1 1), ab (List.map CourseT.row w.c), ab w.p, ab (List.map SysT.row w.s), ab (List.map FactT.row w.f), int known], .vec (am (rdR rs)) 1 5, .var [int st, .ref (.vec 3 0)], .vec (am (List.map AttT.row ats)) 0 5]
theorem oo_body {w : WorldT} (hw : w.ok) {known st term : Int} {ns : List (List Dp)} {n : Int} {rs0 rs : List ReadT} {ats : List AttT} {i : Nat} (hr : bw (i : Int) ns [vi n] 1) (hlt : decide ((i : Int) < (ns.length : Int)) = true) (hwr : IntKind.i64.wrap ((i : Int) + 1) = ((i + 1 : Nat) : Int)) (hb : rs.length ≤ 999980000) (ha : ats.length ≤ 999980000) : (CW Tryz.prog Γk (lkH w known rs0 0) false (sub Tryz.f60 0) (ooS w known st term ns rs ats i) .normal (ooS w known st term ns (el w known st term (rs, ats) n).1 (el w known st term (rs, ats) n).2 ((i + 1 : Nat) : Int))) := by
 have hl0 := (@oi_cw (w) (hw) (known) (st) (term) (ns) ((↑i : Int)) (n) (aL 5 st n 0 term known w.f) (by first | assumption | rfl | omega | exact ah _ _ | exact Nat.le_trans bC (by omega) | (simp; omega)) (rs0) (rs ++ [{ kind := 5, sub := st, obj := n, frm := 0, til := term }]) (ats) (by first | assumption | rfl | omega | exact ah _ _ | exact Nat.le_trans bC (by omega) | (simp; omega)) (by first | assumption | rfl | omega | exact ah _ _ | exact Nat.le_trans bC (by omega) | (simp; omega)))
 refine CW.cast (CW.symX (s' := { t := mkT 67 0 [(0, .ref (.ptr 0 0)), (1, int st), (2, int term), (6, .ref (.ptr 2 0)), (16, ab ns), (17, int (↑(List.length ns) : Int)), (18, int (IntKind.wrap IntKind.i64 ((↑i : Int) + 1)))], h := [.var [.ref (.vec 1 1), ab (List.map CourseT.row w.c), ab w.p, ab (List.map SysT.row w.s), ab (List.map FactT.row w.f), int known], .vec (am (rdR (List.foldl (ofIn w known n) (rs ++ [{ kind := 5, sub := st, obj := n, frm := 0, til := term }], ats) (aL 5 st n 0 term known w.f)).fst)) 1 5, .var [int st, .ref (.vec 3 0)], .vec (am (List.map AttT.row (List.foldl (ofIn w known n) (rs ++ [{ kind := 5, sub := st, obj := n, frm := 0, til := term }], ats) (aL 5 st n 0 term known w.f)).snd)) 0 5], m := [] }) (e := Exit.normal) pok [.st (.mask [0, 1, 2, 6, 16, 17, 18])] [.b true, .row [vi n], .call (ab (List.map PtT.row (aL 5 st n 0 term known w.f))) [.var [.ref (.vec 1 2), ab (List.map CourseT.row w.c), ab w.p, ab (List.map SysT.row w.s), ab (List.map FactT.row w.f), int known], .vec (am (rdR (rs ++ [{ kind := 5, sub := st, obj := n, frm := 0, til := term }]))) 2 5, .var [int st, .ref (.vec 3 0)], .vec (am (List.map AttT.row ats)) 0 5], .st (.ren 1 1), .sum [0, 1, 2, 6, 8, 16, 17, 18, 26, 27, 28] (Exit.exit 2) { t := mkT 67 0 [(0, .ref (.ptr 0 0)), (1, int st), (2, int term), (6, .ref (.ptr 2 0)), (16, ab ns), (17, int (↑(List.length ns) : Int)), (18, int (↑i : Int))], h := [.var [.ref (.vec 1 1), ab (List.map CourseT.row w.c), ab w.p, ab (List.map SysT.row w.s), ab (List.map FactT.row w.f), int known], .vec (am (rdR (List.foldl (ofIn w known n) (rs ++ [{ kind := 5, sub := st, obj := n, frm := 0, til := term }], ats) (aL 5 st n 0 term known w.f)).fst)) 1 5, .var [int st, .ref (.vec 3 0)], .vec (am (List.map AttT.row (List.foldl (ofIn w known n) (rs ++ [{ kind := 5, sub := st, obj := n, frm := 0, til := term }], ats) (aL 5 st n 0 term known w.f)).snd)) 0 5], m := [] }] (by kernel_rfl) (.c hlt (.c hr (.c (show Ev Tryz.prog Γk 115 [.ref (.ptr 0 0), int st, int n, int term] (oo_body_x0 w known st rs ats) (ab (List.map PtT.row (aL 5 st n 0 term known w.f))) [.var [.ref (.vec 1 2), ab (List.map CourseT.row w.c), ab w.p, ab (List.map SysT.row w.s), ab (List.map FactT.row w.f), int known], .vec (am (rdR (rs ++ [{ kind := 5, sub := st, obj := n, frm := 0, til := term }]))) 2 5, .var [int st, .ref (.vec 3 0)], .vec (am (List.map AttT.row ats)) 0 5] from (Ev.castH (Ev.frameX (args := [.ref (.ptr 0 0), int st, int n, int term]) (H := (oo_body_x0 w known st rs ats)) [0, 1] (Ev.upX [0, 1] (@lkgrades_ev (w) (hw) (known) (st) (n) (term) (rs) (by first | assumption | rfl | omega | exact ah _ _ | exact Nat.le_trans bC (by omega) | (simp; omega))) (by kernel_rfl) ⟨?_, trivial⟩ ⟨?_, trivial⟩) (by kernel_rfl) (by kernel_rfl) (by kernel_rfl) ⟨?_, trivial⟩ ⟨?_, trivial⟩) (by kernel_rfl) (by kernel_rfl))) (.c (show List.map (D.mapRL (bX 1 2 1)) (am (rdR (rs ++ [{ kind := 5, sub := st, obj := n, frm := 0, til := term }]))) = am (rdR (rs ++ [{ kind := 5, sub := st, obj := n, frm := 0, til := term }])) from (by first | assumption | rfl | omega | exact ah _ _ | exact Nat.le_trans bC (by omega) | (simp; omega))) (.c (show List.map (D.mapRL (bX 1 2 1)) (am (List.map AttT.row ats)) = am (List.map AttT.row ats) from (by first | assumption | rfl | omega | exact ah _ _ | exact Nat.le_trans bC (by omega) | (simp; omega))) (.c hl0 .n))))))) (by first | rfl | (simp only [hwr]; rfl)) (by first | rfl | (simp only [hwr]; rfl)) <;> (first | rfl | exact bp _ _ | first | assumption | rfl | omega | exact ah _ _ | exact Nat.le_trans bC (by omega) | (simp; omega))
theorem oo_last {w : WorldT} {known st term : Int} {ns : List (List Dp)} {rs0 rs : List ReadT} {ats : List AttT} {i : Nat} (hlt : decide ((i : Int) < (ns.length : Int)) = false) : (CW Tryz.prog Γk (lkH w known rs0 0) false (sub Tryz.f60 0) (ooS w known st term ns rs ats i) (.exit 0) { t := mkT 67 0 [(6, .ref (.ptr 2 0))], h := ofH w known st rs ats, m := [] }) := by
 exact CW.cast (CW.symX (s' := { t := mkT 67 0 [(6, .ref (.ptr 2 0))], h := [.var [.ref (.vec 1 1), ab (List.map CourseT.row w.c), ab w.p, ab (List.map SysT.row w.s), ab (List.map FactT.row w.f), int known], .vec (am (rdR rs)) 1 5, .var [int st, .ref (.vec 3 0)], .vec (am (List.map AttT.row ats)) 0 5], m := [] }) (e := Exit.exit 0) pok [.st (.mask [6])] [.b false] (by kernel_rfl) (.c hlt .n)) (by rfl) (by rfl)
theorem ofFold_len {w : WorldT} {known n : Int} : ∀ (ps : List PtT) (s : RA), (ps.foldl (ofIn w known n) s).1.length ≤ s.1.length + ps.length ∧ (ps.foldl (ofIn w known n) s).2.length ≤ s.2.length + ps.length
 | [], s => by simp
 | p :: ps, s => by
  have h1 := ofIn_len (w := w) (known := known) (n := n) (s := s) p
  have h2 := ofFold_len (w := w) (known := known) (n := n) ps (ofIn w known n s p)
  simp only [List.foldl_cons, List.length_cons]
  omega
theorem ofOut_len {w : WorldT} {known st term : Int} (s : RA) (n : Int) : (el w known st term s n).1.length ≤ s.1.length + 1025 ∧ (el w known st term s n).2.length ≤ s.2.length + 1024 := by
 unfold el
 have h1 := ofFold_len (w := w) (known := known) (n := n) (aL 5 st n 0 term known w.f) (s.1 ++ [⟨5, st, n, 0, term⟩], s.2)
 have h2 := bC (kk := 5) (ks := st) (ko := n) (frm := 0) (to := term) (known := known) (l := w.f)
 simp only [List.length_append, List.length_cons, List.length_nil] at h1
 omega
theorem oo_g {w : WorldT} (hw : w.ok) {known st term : Int} {ns : List Int} (hn : ns.length ≤ 69000) {rs0 rs : List ReadT} (hb : rs.length ≤ 800000000) {ats : List AttT} (ha : ats.length ≤ 1000) :
  CW Tryz.prog Γk (lkH w known rs0 0) false (.loop (sub Tryz.f60 0)) (ooS w known st term (ns.map fun n => [vi n]) rs ats 0) (.exit 0) { t := mkT 67 0 [(6, .ref (.ptr 2 0))], h := ofH w known st (ns.foldl (el w known st term) (rs, ats)).1 (ns.foldl (el w known st term) (rs, ats)).2, m := [] } := by
 have hl : ao ns := by unfold ao; omega
 have := CW.each (P := Tryz.prog) (Γ := Γk) (h0 := lkH w known rs0 0) (rd := false) (c := sub Tryz.f60 0) (σ := RA) (ρ := Empty) ns (fun n s => .inl (el w known st term s n))
  (fun i s => ooS w known st term (ns.map fun n => [vi n]) s.1 s.2 (i : Int)) (.exit 0) (fun s => { t := mkT 67 0 [(6, .ref (.ptr 2 0))], h := ofH w known st s.1 s.2, m := [] }) (fun r => r.elim)
  (fun i s => s.1.length ≤ rs.length + i * 1025 ∧ s.2.length ≤ ats.length + i * 1025) (by simp) (fun r => r.elim) ?_ ?_ (rs, ats) (by simp)
 ·rw [br] at this
  exact this
 ·intro i n s hni hs
  have hi := (List.getElem?_eq_some_iff.1 hni).1
  refine ⟨fun s' h => by cases h; have := ofOut_len (w := w) (known := known) (st := st) (term := term) s n; omega, oo_body hw (rowAt (row := fun n => [vi n]) hni rfl) (lt_len (fun n => [vi n]) hi) (wrap_succ hi hl) (by omega) (by omega)⟩
 ·intro s _
  exact oo_last (fa (fun n => [vi n]) ns)
theorem oo_cw {w : WorldT} (hw : w.ok) {known st term : Int} {ns : List Int} (hn : ns.length ≤ 69000) {rs0 rs : List ReadT} (hb : rs.length ≤ 800000000) :
  CW Tryz.prog Γk (lkH w known rs0 0) false (.loop (sub Tryz.f60 0)) (ooS w known st term (ns.map fun n => [vi n]) rs [] 0) (.exit 0) { t := mkT 67 0 [(6, .ref (.ptr 2 0))], h := ofH w known st (ns.foldl (el w known st term) (rs, [])).1 (ns.foldl (el w known st term) (rs, [])).2, m := [] } := oo_g hw hn hb (by simp)
def recR (w : WorldT) (known st term : Int) (rs : List ReadT) : RA := (numbersR w.f known).foldl (el w known st term) (rs ++ [rdN], [])
def recAtts (w : WorldT) (known st term : Int) (rs : List ReadT) : List AttT := (recR w known st term rs).2.mergeSort leA
theorem dU {fs : List FactT} {known : Int} : (numbersR fs known).length ≤ fs.length := by
 have := forL_nu_len (many := manyOf fs known) fs []
 simp only [List.length_nil, Nat.zero_add] at this
 unfold numbersR numsOf
 simpa using this
noncomputable abbrev of_a_x0 (w : WorldT) (known : Int) (st : Int) (term : Int) (rs : List ReadT) : List Blk := [.var [.ref (.vec 1 1), ab (List.map CourseT.row w.c), ab w.p, ab (List.map SysT.row w.s), ab (List.map FactT.row w.f), int known], .vec (am (rdR (List.foldl (el w known st term) (rs ++ [rdN], []) (numbersR w.f known)).fst)) 1 5, .var [int st, .ref (.vec 3 0)], .vec (am (List.map AttT.row (List.foldl (el w known st term) (rs ++ [rdN], []) (numbersR w.f known)).snd)) 0 5]
noncomputable abbrev of_a_x1 (w : WorldT) (known : Int) (st : Int) (term : Int) (rs : List ReadT) : List Blk := [.var [.ref (.vec 1 1), ab (List.map CourseT.row w.c), ab w.p, ab (List.map SysT.row w.s), ab (List.map FactT.row w.f), int known], .vec (am (rdR (List.foldl (el w known st term) (rs ++ [rdN], []) (numbersR w.f known)).fst)) 1 5, .var [int st, .ref (.vec 3 0)], .vec (am (List.map AttT.row (List.mergeSort (recR w known st term rs).snd leA))) 0 5]
theorem of_a {w : WorldT} (hw : w.ok) {known st term : Int} {rs : List ReadT} (hb : rs.length ≤ 700000000) (hn : (numbersR w.f known).length ≤ 69000) (hl : (recR w known st term rs).2.length < 4611686018427387904) (hT : ∀ x ∈ (recR w known st term rs).2, ∀ y ∈ (recR w known st term rs).2, x.term = y.term → x.course = y.course → x = y) : (Ev Tryz.prog Γk 60 [.ref (.ptr 0 0), int st, int term] (lkH w known rs 0) (.agg [int st, ab ((recAtts w known st term rs).map AttT.row)]) (lkH w known (recR w known st term rs).1 1)) := by
 have hl0 := (@oo_cw (w) (hw) (known) (st) (term) (numbersR w.f known) (hn) (rs) (rs ++ [rdN]) (by first | assumption | rfl | omega | exact ah _ _ | exact af | (simp; omega)))
 refine Ev.castH (Ev.post (d2 := D.agg [int st, ab (List.map AttT.row (recAtts w known st term rs))]) (h2 := [.var [.ref (.vec 1 1), ab (List.map CourseT.row w.c), ab w.p, ab (List.map SysT.row w.s), ab (List.map FactT.row w.f), int known], .vec (am (rdR (List.foldl (el w known st term) (rs ++ [rdN], []) (numbersR w.f known)).fst)) 1 5]) (φ := [am (List.map AttT.row (List.mergeSort (recR w known st term rs).snd leA)) = List.map (fun x => List.map D.p x) (List.map AttT.row (recAtts w known st term rs)), List.map (D.mapRL (aJ 3 0 (List.map AttT.row (recAtts w known st term rs)))) (am (rdR (List.foldl (el w known st term) (rs ++ [rdN], []) (numbersR w.f known)).fst)) = am (rdR (List.foldl (el w known st term) (rs ++ [rdN], []) (numbersR w.f known)).fst), Blk.inn 2 (match 0 == 3 with | true => .gone | false => keepX (aJ 3 0 (List.map AttT.row (recAtts w known st term rs))) (.var [.ref (.vec 1 1), ab (List.map CourseT.row w.c), ab w.p, ab (List.map SysT.row w.s), ab (List.map FactT.row w.f), int known])) = true, Blk.inn 2 (match 0 + 1 == 3 with | true => .gone | false => keepX (aJ 3 0 (List.map AttT.row (recAtts w known st term rs))) (.vec (am (rdR (List.foldl (el w known st term) (rs ++ [rdN], []) (numbersR w.f known)).fst)) 1 5)) = true]) [.st (.frz 3 (List.map AttT.row (recAtts w known st term rs))), .st (.trimV 2)] (Ev.of_sym (h' := (of_a_x1 w known st term rs)) (d := D.agg [int st, .ref (.vec 3 0)]) pok [.call (ab (List.map (fun n => [vi n]) (numbersR w.f known))) [.var [.ref (.vec 1 1), ab (List.map CourseT.row w.c), ab w.p, ab (List.map SysT.row w.s), ab (List.map FactT.row w.f), int known], .vec (am (rdR (rs ++ [rdN]))) 1 5, .var [int st, nq]], .st (.nilC 2 1 5), .sum [0, 1, 2, 6, 16, 17, 18] (Exit.exit 0) { t := mkT 67 0 [(6, .ref (.ptr 2 0))], h := (of_a_x0 w known st term rs), m := [] }, .call (D.tup []) (of_a_x1 w known st term rs)] (by kernel_rfl) (.c (show Ev Tryz.prog Γk 62 [.ref (.ptr 0 0)] [.var [.ref (.vec 1 0), ab (List.map CourseT.row w.c), ab w.p, ab (List.map SysT.row w.s), ab (List.map FactT.row w.f), int known], .vec (am (rdR rs)) 0 5, .var [int st, nq]] (ab (List.map (fun n => [vi n]) (numbersR w.f known))) [.var [.ref (.vec 1 1), ab (List.map CourseT.row w.c), ab w.p, ab (List.map SysT.row w.s), ab (List.map FactT.row w.f), int known], .vec (am (rdR (rs ++ [rdN]))) 1 5, .var [int st, nq]] from (Ev.castH (Ev.frameX (args := [.ref (.ptr 0 0)]) (H := [.var [.ref (.vec 1 0), ab (List.map CourseT.row w.c), ab w.p, ab (List.map SysT.row w.s), ab (List.map FactT.row w.f), int known], .vec (am (rdR rs)) 0 5, .var [int st, nq]]) [0, 1] (@lknum_ev (w) (hw) (known) (rs) ?_) (by kernel_rfl) (by kernel_rfl) (by kernel_rfl) ⟨(by first | rfl | exact bp _ _ | first | assumption | rfl | omega | exact ah _ _ | exact af | (simp; omega)), trivial⟩ ⟨(by first | rfl | exact bp _ _ | first | assumption | rfl | omega | exact ah _ _ | exact af | (simp; omega)), trivial⟩) (by kernel_rfl) (by kernel_rfl))) (.c hl0 (.c (Ev.glob0 (Γ' := Γk) (@sortAttR_ev ((of_a_x0 w known st term rs)) (3) (0) ((recR w known st term rs).snd) ?_ (hl) (hT))) .n)))) (by kernel_rfl) ⟨?_, ?_, rfl, ?_, trivial⟩) (by rfl) (by rfl) <;> (first | assumption | rfl | omega | exact ah _ _ | exact af | (simp; omega))
end Go.Vi
open Go Go.Proofs
namespace Go.Vi
def ptO (rs : List Int) (n : Nat) : Option PtT := bif decide (rs.getD n 0 ≥ 0) then some ⟨(n : Int), rs.getD n 0⟩ else none
theorem ptIn_eq (rs : List Int) (x to : Int) : ptIn rs x to = (List.range' x.toNat (ptHi to - x).toNat).filterMap (ptO rs) := by
 have key : ∀ (ns : List Nat) (l : List PtT), ns.foldl (fun l n => ptF (rs.getD n 0) n l) l = l ++ ns.filterMap (ptO rs) := by
  intro ns
  induction ns with
  | nil => intro l; simp
  | cons n ns ih =>
   intro l
   rw [List.foldl_cons, ih, List.filterMap_cons]
   unfold ptF ptO
   cases decide (rs.getD n 0 ≥ 0) <;> simp
 unfold ptIn
 rw [key]; simp
theorem pts_inc {rs : List Int} {x to : Int} : (ptIn rs x to).Pairwise fun p q => p.term < q.term := by
 rw [ptIn_eq]
 refine List.Pairwise.filterMap (R := fun a b => a < b) (ptO rs) ?_ (List.pairwise_lt_range' ..)
 intro a b hab p hp q hq
 unfold ptO at hp hq
 cases h1 : decide (rs.getD a 0 ≥ 0) <;> rw [h1] at hp <;> simp at hp
 cases h2 : decide (rs.getD b 0 ≥ 0) <;> rw [h2] at hq <;> simp at hq
 subst hp; subst hq
 simp; exact hab
theorem points_inc {kk ks ko frm to known : Int} {l : List FactT} : (aL kk ks ko frm to known l).Pairwise fun p q => p.term < q.term := pts_inc
theorem nuF_nodup {many : Int} {f : FactT} {l l' : List Int} (hl : l.Nodup) (h : nuF many f l = .inl l') : l'.Nodup := by
 unfold nuF at h
 split at h
 ·simp at h
 ·simp only [Sum.inl.injEq] at h
  subst h
  cases hn : isNew f l
  ·simpa using hl
  ·simp only [cond_true]
   unfold isNew at hn
   simp only [Bool.and_eq_true, Bool.not_eq_true'] at hn
   have : f.sub ∉ l := by
    have := hn.2.2.2
    intro hm
    rw [List.contains_iff_mem.2 hm] at this
    simp at this
   rw [List.nodup_append]
   refine ⟨hl, by simp, ?_⟩
   intro a ha b hb
   simp only [List.mem_singleton] at hb
   subst hb
   exact fun e => this (e ▸ ha)
theorem forL_nodup {many : Int} : ∀ (fs : List FactT) (l : List Int), l.Nodup → (nuG (forL (nuF many) fs l)).Nodup
 | [], l, h => by simpa [forL, nuG] using h
 | f :: fs, l, h => by
  simp only [forL]
  cases hf : nuF many f l with
  | inl l' => exact forL_nodup fs l' (nuF_nodup h hf)
  | inr l' =>
   have : l' = l := by
    unfold nuF at hf; split at hf
    ·simp at hf; exact hf.symm
    ·simp at hf
   subst this
   exact h
theorem numbersR_nodup {fs : List FactT} {known : Int} : (numbersR fs known).Nodup := by
 unfold numbersR numsOf
 exact (List.mergeSort_perm _ _).nodup_iff.2 (forL_nodup fs [] List.nodup_nil)
def attO (w : WorldT) (known n : Int) (p : PtT) : Option AttT := bif attBad p then none else some (attOf w known n p)
def rdO (n : Int) (p : PtT) : List ReadT := bif attBad p then [] else rdT 1 n 0 p.term
theorem ofFold_eq (w : WorldT) (known n : Int) : ∀ (ps : List PtT) (s : RA), ps.foldl (ofIn w known n) s = (s.1 ++ ps.flatMap (rdO n), s.2 ++ ps.filterMap (attO w known n))
 | [], s => by simp
 | p :: ps, s => by
  rw [List.foldl_cons, ofFold_eq w known n ps, List.filterMap_cons, List.flatMap_cons]
  unfold ofIn attO rdO
  cases attBad p <;> simp
abbrev ptsOf (w : WorldT) (known st term n : Int) : List PtT := aL 5 st n 0 term known w.f
def readsOf (w : WorldT) (known st term n : Int) : List ReadT := ⟨5, st, n, 0, term⟩ :: (ptsOf w known st term n).flatMap (rdO n)
def bE (w : WorldT) (known st term n : Int) : List AttT := (ptsOf w known st term n).filterMap (attO w known n)
theorem ofOut_eq (w : WorldT) (known st term : Int) (s : RA) (n : Int) : el w known st term s n = (s.1 ++ readsOf w known st term n, s.2 ++ bE w known st term n) := by
 unfold el
 rw [ofFold_eq]
 simp [readsOf, bE]
theorem recR_eq (w : WorldT) (known st term : Int) (rs : List ReadT) : recR w known st term rs = (rs ++ rdN :: (numbersR w.f known).flatMap (readsOf w known st term), (numbersR w.f known).flatMap (bE w known st term)) := by
 have key : ∀ (ns : List Int) (s : RA), ns.foldl (el w known st term) s = (s.1 ++ ns.flatMap (readsOf w known st term), s.2 ++ ns.flatMap (bE w known st term)) := by
  intro ns
  induction ns with
  | nil => intro s; simp
  | cons n ns ih => intro s; rw [List.foldl_cons, ih, ofOut_eq]; simp
 unfold recR
 rw [key]; simp
def recReads (w : WorldT) (known st term : Int) : List ReadT := rdN :: (numbersR w.f known).flatMap (readsOf w known st term)
def cb (w : WorldT) (known st term : Int) : List AttT := (numbersR w.f known).flatMap (bE w known st term)
def eG (w : WorldT) (known st term : Int) : List AttT := (cb w known st term).mergeSort leA
theorem bD {w : WorldT} {known st term n : Int} {a : AttT} (h : a ∈ bE w known st term n) : a.course = n ∧ ∃ p ∈ ptsOf w known st term n, attBad p = false ∧ a = attOf w known n p := by
 unfold bE at h
 obtain ⟨p, hp, he⟩ := List.mem_filterMap.1 h
 unfold attO at he
 cases hb : attBad p <;> rw [hb] at he <;> simp at he
 subst he
 exact ⟨rfl, p, hp, hb, rfl⟩
theorem rec_diff {w : WorldT} {known st term : Int} : ∀ x ∈ cb w known st term, ∀ y ∈ cb w known st term, x.term = y.term → x.course = y.course → x = y := by
 intro x hx y hy ht hc
 obtain ⟨n, hn, hx⟩ := List.mem_flatMap.1 hx
 obtain ⟨n', hn', hy⟩ := List.mem_flatMap.1 hy
 obtain ⟨e1, p, hp, _, rfl⟩ := bD hx
 obtain ⟨e2, q, hq, _, rfl⟩ := bD hy
 have : n = n' := by rw [← e1, ← e2, hc]
 subst this
 have hpq : p = q := by
  have hinc := points_inc (kk := 5) (ks := st) (ko := n) (frm := 0) (to := term) (known := known) (l := w.f)
  have key : ∀ (l : List PtT), l.Pairwise (fun p q => p.term < q.term) → ∀ p ∈ l, ∀ q ∈ l, p.term = q.term → p = q := by
   intro l
   induction l with
   | nil => intro _ p hp; simp at hp
   | cons a l ih =>
    intro hl p hp q hq e
    rw [List.pairwise_cons] at hl
    rcases List.mem_cons.1 hp with hp1 | hp1 <;> rcases List.mem_cons.1 hq with hq1 | hq1
    ·rw [hp1, hq1]
    ·have := hl.1 q hq1; rw [hp1] at e; omega
    ·have := hl.1 p hp1; rw [hq1] at e; omega
    ·exact ih hl.2 p hp1 q hq1 e
  exact key _ hinc p hp q hq ht
 rw [hpq]
theorem flatMap_len {α β : Type} (f : α → List β) (k : Nat) : ∀ l : List α, (∀ a ∈ l, (f a).length ≤ k) → (l.flatMap f).length ≤ l.length * k
 | [], _ => by simp
 | a :: l, h => by
  have := flatMap_len f k l (fun b hb => h b (by simp [hb]))
  have h1 := h a (by simp)
  simp only [List.flatMap_cons, List.length_append, List.length_cons, Nat.add_mul]
  omega
theorem recRaw_len {w : WorldT} (hw : w.ok) {known st term : Int} : (cb w known st term).length ≤ 70656000 := by
 have h1 := flatMap_len (bE w known st term) 1024 (numbersR w.f known) (fun n _ => Nat.le_trans (List.length_filterMap_le ..) bC)
 have h2 := dU (fs := w.f) (known := known)
 have h3 := hw.lf
 unfold cb
 have : (numbersR w.f known).length * 1024 ≤ 69000 * 1024 := Nat.mul_le_mul_right _ (by omega)
 omega
theorem recOf_ev {w : WorldT} (hw : w.ok) {known st term : Int} {rs : List ReadT} (hb : rs.length ≤ 700000000) : Ev Tryz.prog Γk 60 [.ref (.ptr 0 0), int st, int term] (lkH w known rs 0) (.agg [int st, ab ((eG w known st term).map AttT.row)]) (lkH w known (rs ++ recReads w known st term) 1) := by
 have h := of_a hw (known := known) (st := st) (term := term) hb (Nat.le_trans dU hw.lf) (by rw [recR_eq]; have := recRaw_len hw (known := known) (st := st) (term := term); unfold cb at this; simp only; omega) (by rw [recR_eq]; exact rec_diff)
 unfold recAtts at h
 rw [recR_eq] at h
 exact h
end Go.Vi
open Go Go.Proofs
namespace Go.Vi
set_option maxRecDepth 100000
set_option maxHeartbeats 4000000
theorem recOf0 {w : WorldT} (hw : w.ok) {known st term : Int} : Ev Tryz.prog Γk 60 [.ref (.ptr 0 0), int st, int term] (lkH w known [] 0) (.agg [int st, ab ((eG w known st term).map AttT.row)]) (lkH w known (recReads w known st term) 1) := by
 have := recOf_ev hw (known := known) (st := st) (term := term) (rs := []) (by simp)
 simpa using this
def badOf (st term : Int) : Bool := !(decide (st ≥ 0) && decide (st ≤ 19999)) || !(decide (term ≥ 0) && decide (term ≤ 1024))
structure RecT where
 st : Int
 a : List AttT
def RecT.l (r : RecT) : List D := [int r.st, ab (r.a.map AttT.row)]
def rofR (w : WorldT) (st term known : Int) : RecT × List ReadT × Int := match badOf st term with
 | true => (⟨0, []⟩, [], 150)
 | false => (⟨st, eG w known st term⟩, recReads w known st term, 0)
def rofX (st term : Int) (rr : List ReadT) (aa : List AttT) : RecT × List ReadT × Int := match badOf st term with
 | true => (⟨0, []⟩, [], 150)
 | false => (⟨st, aa⟩, rr, 0)
noncomputable abbrev dV (w : WorldT) : List Blk := [.var [ab (List.map CourseT.row w.c), ab w.p, ab (List.map SysT.row w.s), ab (List.map FactT.row w.f)], .var [int 0, nq]]
theorem rof_a {w : WorldT} {st term known : Int} {rr : List ReadT} {aa : List AttT} (hof : Ev Tryz.prog Γk 60 [.ref (.ptr 0 0), int st, int term] (lkH w known [] 0) (.agg [int st, ab (aa.map AttT.row)]) (lkH w known rr 1)) (h : List Blk) : (Ev Tryz.prog Γk 23 [.agg w.l, int st, int term, int known] h (.tup [.agg (rofX st term rr aa).1.l, ab (rdR (rofX st term rr aa).2.1), int (rofX st term rr aa).2.2]) h) := by
 cases hc0 : !(decide (st ≥ 0) && decide (st ≤ 19999)) || !(decide (term ≥ 0) && decide (term ≤ 1024))
 ·refine Ev.castH (Ev.nilW (Ev.sym0 (d := D.tup [D.agg [int st, ab (List.map AttT.row aa)], ab (rdR rr), int 0]) pok [.val (bool (decide (st ≥ 0) && decide (st ≤ 19999))), .val (bool (decide (term ≥ 0) && decide (term ≤ 1024))), .b false, .nx 1, .st (.nilC 2 0 5), .call (D.agg [int st, ab (List.map AttT.row aa)]) [.var (WorldT.l w), .var [int 0, nq], .var [.ref (.vec 3 1), ab (List.map CourseT.row w.c), ab w.p, ab (List.map SysT.row w.s), ab (List.map FactT.row w.f), int known], .vec (am (rdR rr)) 1 5], .st (.frz 3 (rdR rr))] (by kernel_rfl) (.c (Ev.glob0 (Γ' := Γk) (@bk (st) (0) (19999) ((dV w)))) (.c (show (!!(decide (st ≥ 0) && decide (st ≤ 19999))) = true → Ev Tryz.prog Γk 59 [int term, int 0, int 1024] (dV w) (bool (decide (term ≥ 0) && decide (term ≤ 1024))) (dV w) from (fun hg => (Ev.glob0 (@bk (term) (0) (1024) ((dV w)))))) (.c hc0 (.c (show Ev Tryz.prog Γk 60 [.ref (.ptr 2 0), int st, int term] [.var (WorldT.l w), .var [int 0, nq], .var [.ref (.vec 3 0), ab (List.map CourseT.row w.c), ab w.p, ab (List.map SysT.row w.s), ab (List.map FactT.row w.f), int known], .vec [] 0 5] (D.agg [int st, ab (List.map AttT.row aa)]) [.var (WorldT.l w), .var [int 0, nq], .var [.ref (.vec 3 1), ab (List.map CourseT.row w.c), ab w.p, ab (List.map SysT.row w.s), ab (List.map FactT.row w.f), int known], .vec (am (rdR rr)) 1 5] from (Ev.castH (Ev.frameX (args := [.ref (.ptr 2 0), int st, int term]) (H := [.var (WorldT.l w), .var [int 0, nq], .var [.ref (.vec 3 0), ab (List.map CourseT.row w.c), ab w.p, ab (List.map SysT.row w.s), ab (List.map FactT.row w.f), int known], .vec [] 0 5]) [2, 3] (@hof) (by kernel_rfl) (by kernel_rfl) (by kernel_rfl) ⟨?_, trivial⟩ ⟨?_, trivial⟩) (by kernel_rfl) (by kernel_rfl))) (.c (show am (rdR rr) = List.map (fun x => List.map D.p x) (rdR rr) from (by first | assumption | rfl | omega | exact ah _ _ | exact af)) (.e (D.agg [int st, ab (List.map AttT.row aa)]) (.e (.ref (.ptr 2 0)) (.e (.ref (.ptr 2 0)) (.e (.ref (.ptr 2 0)) (.e (.ref (.ptr 2 0)) (.e (ab (rdR rr)) (.e (ab (rdR rr)) .n)))))))))))) rfl rfl h)) (by first | (have hh : badOf st term = true := hc0; simp only [rofX, hh]; rfl) | (have hh : badOf st term = false := hc0; simp only [rofX, hh]; rfl)) (by rfl) <;> (first | rfl | exact bp _ _ | first | assumption | rfl | omega | exact ah _ _ | exact af)
 ·exact Ev.castH (Ev.nilW (Ev.sym0 (d := D.tup [D.agg [int 0, nq], nq, int 150]) pok [.val (bool (decide (st ≥ 0) && decide (st ≤ 19999))), .val (bool (decide (term ≥ 0) && decide (term ≤ 1024))), .b true] (by kernel_rfl) (.c (Ev.glob0 (Γ' := Γk) (@bk (st) (0) (19999) ((dV w)))) (.c (show (!!(decide (st ≥ 0) && decide (st ≤ 19999))) = true → Ev Tryz.prog Γk 59 [int term, int 0, int 1024] (dV w) (bool (decide (term ≥ 0) && decide (term ≤ 1024))) (dV w) from (fun hg => (Ev.glob0 (@bk (term) (0) (1024) ((dV w)))))) (.c hc0 .n))) rfl rfl h)) (by first | (have hh : badOf st term = true := hc0; simp only [rofX, hh]; rfl) | (have hh : badOf st term = false := hc0; simp only [rofX, hh]; rfl)) (by rfl)
theorem cD {w : WorldT} (hw : w.ok) {st term known : Int} (h : List Blk) : Ev Tryz.prog Γk 23 [.agg w.l, int st, int term, int known] h (.tup [.agg (rofR w st term known).1.l, ab (rdR (rofR w st term known).2.1), int (rofR w st term known).2.2]) h :=
 rof_a (recOf0 hw) h
end Go.Vi
open Go Go.Proofs
namespace Go.Vi
end Go.Vi
open Go Go.Proofs
namespace Go.Vi
set_option maxRecDepth 100000
set_option maxHeartbeats 4000000
end Go.Vi
open Go Go.Proofs
namespace Go.Vi
set_option maxRecDepth 100000
set_option maxHeartbeats 4000000
end Go.Vi
open Go Go.Proofs
namespace Go.Vi
set_option maxRecDepth 100000
set_option maxHeartbeats 4000000
end Go.Vi
open Go Go.Proofs
namespace Go.Vi
set_option maxRecDepth 100000
set_option maxHeartbeats 4000000
theorem dW (l : List AttT) : am (l.map AttT.row) = (l.map AttT.row).map (List.map D.p) := by simp [am]
end Go.Vi
open Go Go.Proofs
namespace Go.Vi
set_option maxRecDepth 100000
set_option maxHeartbeats 4000000
end Go.Vi
open Go Go.Proofs
namespace Go.Vi
set_option maxRecDepth 100000
set_option maxHeartbeats 4000000
end Go.Vi
open Go Go.Proofs
namespace Go.Vi
set_option maxRecDepth 100000
set_option maxHeartbeats 4000000
end Go.Vi
open Go Go.Proofs
namespace Go.Vi
set_option maxRecDepth 100000
set_option maxHeartbeats 4000000
theorem recA_len {w : WorldT} (hw : w.ok) {known st term : Int} : (eG w known st term).length ≤ 70656000 := by
 have := recRaw_len hw (known := known) (st := st) (term := term)
 unfold eG
 simpa using this
end Go.Vi
open Go Go.Proofs
namespace Go.Vi
set_option maxRecDepth 100000
set_option maxHeartbeats 4000000
end Go.Vi
open Go Go.Proofs
namespace Go.Vi
set_option maxRecDepth 100000
set_option maxHeartbeats 4000000
attribute [local irreducible] few
end Go.Vi
open Go Go.Proofs
namespace Go.Vi
set_option maxRecDepth 100000
end Go.Vi
open Go Go.Proofs
namespace Go.Vi
set_option maxRecDepth 100000
structure WorldT.ok0 (w : WorldT) : Prop where
 c : ∀ x ∈ w.c, x.ok
 s : ∀ x ∈ w.s, x.ok
 lc : ao w.c
 ls : ao w.s
 i : ∀ f ∈ w.f, f.ok
end Go.Vi
open Go Go.Proofs
namespace Go.Vi
open Go.ChangeShapes Go.WideShapes Go.ChangeAt Go.RowKit Go.Proofs.YtilebidefogaiaaGreatDoor
set_option maxRecDepth 100000
theorem cells22 : Tryz.prog.cellsOf 22 = 1 := by kernel_rfl
theorem cells23 : Tryz.prog.cellsOf 23 = 1 := by kernel_rfl
theorem cells24 : Tryz.prog.cellsOf 24 = 1 := by kernel_rfl
theorem cells26 : Tryz.prog.cellsOf 26 = 3 := by kernel_rfl
theorem cells27 : Tryz.prog.cellsOf 27 = 1 := by kernel_rfl
theorem cells29 : Tryz.prog.cellsOf 29 = 4 := by kernel_rfl
theorem cells56 : Tryz.prog.cellsOf 56 = 3 := by kernel_rfl
theorem cells58 : Tryz.prog.cellsOf 58 = 2 := by kernel_rfl
theorem cells60 : Tryz.prog.cellsOf 60 = 8 := by kernel_rfl
theorem cells102' : Tryz.prog.cellsOf 102 = 4 := by kernel_rfl
theorem cells109 : Tryz.prog.cellsOf 109 = 1 := by kernel_rfl
theorem cells111 : Tryz.prog.cellsOf 111 = 6 := by kernel_rfl
theorem cells113 : Tryz.prog.cellsOf 113 = 16 := by kernel_rfl
theorem bytes76 : Tryz.prog.bytesOf 76 = 96 := by kernel_rfl
theorem bytes111 : Tryz.prog.bytesOf 111 = 72 := by kernel_rfl
theorem bytes113 : Tryz.prog.bytesOf 113 = 184 := by kernel_rfl
theorem shp_key {n : Nat} {ds : List Dp} (h : Shp Tryz.prog n 56 ds) : ∃ a b c, ds = [vi a, vi b, vi c] ∧ I64 a ∧ I64 b ∧ I64 c := by
 cases n with
 | zero => exact h.elim
 | succ n =>
  simp only [Shp, Tryz.underlying56, List.forall_mem_cons, cells3, cells56] at h
  obtain ⟨hl, h1, h2, h3, _⟩ := h
  obtain ⟨a, e1, ha⟩ := ba h1
  obtain ⟨b, e2, hb⟩ := ba h2
  obtain ⟨c, e3, hc⟩ := ba h3
  match ds, hl with
  | [p, q, r], _ =>
   simp at e1 e2 e3
   subst e1; subst e2; subst e3
   exact ⟨a, b, c, rfl, ha, hb, hc⟩
theorem shp_span {n : Nat} {ds : List Dp} (h : Shp Tryz.prog n 58 ds) : ∃ a b, ds = [vi a, vi b] ∧ I64 a ∧ I64 b := by
 cases n with
 | zero => exact h.elim
 | succ n =>
  simp only [Shp, Tryz.underlying58, List.forall_mem_cons, cells3, cells58] at h
  obtain ⟨hl, h1, h2, _⟩ := h
  obtain ⟨a, e1, ha⟩ := ba h1
  obtain ⟨b, e2, hb⟩ := ba h2
  match ds, hl with
  | [p, q], _ =>
   simp at e1 e2
   subst e1; subst e2
   exact ⟨a, b, rfl, ha, hb⟩
theorem shp_fact {n : Nat} {ds : List Dp} (h : Shp Tryz.prog n 60 ds) : ∃ f : FactT, ds = f.row ∧ f.ok := by
 cases n with
 | zero => exact h.elim
 | succ n =>
  simp only [Shp, Tryz.underlying60, List.forall_mem_cons, cells3, cells56, cells58, cells60] at h
  obtain ⟨hl, h1, h2, h3, h4, h5, _⟩ := h
  obtain ⟨a, b, c, e1, ha, hb, hc⟩ := shp_key h1
  obtain ⟨d, e2, hd⟩ := ba h2
  obtain ⟨x, y, e3, hx, hy⟩ := shp_span h3
  obtain ⟨k, e4, hk⟩ := ba h4
  obtain ⟨m, e5, hm⟩ := ba h5
  match ds, hl with
  | [p1, p2, p3, p4, p5, p6, p7, p8], _ =>
   simp at e1 e2 e3 e4 e5
   obtain ⟨rfl, rfl, rfl⟩ := e1
   obtain ⟨rfl, rfl⟩ := e3
   subst e2; subst e4; subst e5
   exact ⟨⟨a, b, c, d, x, y, k, m⟩, rfl, ha, hb, hc, hd, hx, hy, hk, hm⟩
theorem shp_facts {n : Nat} {ds : List Dp} (h : Shp Tryz.prog n 27 ds) : ∃ l : List FactT, ds = [.sl (l.map FactT.row)] ∧ (∀ c ∈ l, c.ok) := by
 cases n with
 | zero => exact h.elim
 | succ n =>
  simp only [Shp, Tryz.underlying27] at h
  obtain ⟨es, rfl, _, he⟩ := h
  obtain ⟨l, rfl, hl⟩ := map_of (row := FactT.row) (ok := FactT.ok) (fun r hr => shp_fact (he r hr))
  exact ⟨l, rfl, hl⟩
theorem rulesOk_of : ∀ {ks : List RuleT}, (∀ k ∈ ks, k.ok) → rulesOk ks
 | [], _ => trivial
 | k :: ks, h => ⟨h k (List.mem_cons_self ..), rulesOk_of fun x hx => h x (List.mem_cons_of_mem _ hx)⟩
theorem shp_rule : ∀ {n : Nat} {ds : List Dp}, Shp Tryz.prog n 111 ds → ∃ r : RuleT, ds = r.row ∧ r.ok
 | 0, _, h => h.elim
 | 1, _, h => by
  simp only [Shp, Tryz.underlying111, List.forall_mem_cons] at h
  exact h.2.1.elim
 | n + 2, ds, h => by
  rw [Shp, Tryz.underlying111] at h
  simp only [List.forall_mem_cons, cells3, cells9, cells109, cells111] at h
  obtain ⟨hl, h1, h2, h3, h4, h5, h6, _⟩ := h
  obtain ⟨a, e1, ha⟩ := ba h1
  obtain ⟨b, e2, hb⟩ := ba h2
  obtain ⟨s, e3⟩ := shp_str h3
  obtain ⟨c, e4, hc⟩ := ba h4
  obtain ⟨d, e5, hd⟩ := ba h5
  rw [Shp, Tryz.underlying109] at h6
  simp only [bytes111] at h6
  obtain ⟨es, e6, hb6, he⟩ := h6
  obtain ⟨l, rfl, hk⟩ := map_of (row := RuleT.row) (ok := RuleT.ok) (fun r hr => shp_rule (he r hr))
  have hs : ao l := by have := short_of hb6 (by omega); simpa [ao] using this
  match ds, hl with
  | [p1, p2, p3, p4, p5, p6], _ =>
   simp at e1 e2 e3 e4 e5 e6
   subst e1; subst e2; subst e3; subst e4; subst e5; subst e6
   refine ⟨.mk a b s c d l, ?_, ?_⟩
   ·rw [RuleT.row, eX]
   ·rw [RuleT.ok]; exact ⟨⟨ha, hb, hc, hd, hs⟩, rulesOk_of hk⟩
theorem shp_course {n : Nat} {ds : List Dp} (h : Shp Tryz.prog n 113 ds) : ∃ c : CourseT, ds = c.row ∧ c.ok := by
 cases n with
 | zero => exact h.elim
 | succ n =>
  rw [Shp, Tryz.underlying113] at h
  simp only [List.forall_mem_cons, cells3, cells9, cells111, cells113] at h
  obtain ⟨hl, h1, h2, h3, h4, h5, h6, _⟩ := h
  obtain ⟨s, e1⟩ := shp_str h1
  obtain ⟨a, e2, _⟩ := ba h2
  obtain ⟨b, e3, _⟩ := ba h3
  obtain ⟨c, e4, _⟩ := ba h4
  obtain ⟨r, e5, hr⟩ := shp_rule h5
  obtain ⟨t, e6, ht⟩ := shp_rule h6
  rw [← RuleT.fl_row] at e5 e6
  match ds, hl with
  | [p1, p2, p3, p4, p5, p6, p7, p8, p9, p10, p11, p12, p13, p14, p15, p16], _ =>
   simp [RuF.row] at e1 e2 e3 e4 e5 e6
   obtain ⟨rfl, rfl, rfl, rfl, rfl, rfl⟩ := e5
   obtain ⟨rfl, rfl, rfl, rfl, rfl, rfl⟩ := e6
   subst e1; subst e2; subst e3; subst e4
   exact ⟨⟨s, a, b, c, r, t⟩, rfl, hr, ht⟩
theorem shp_courses {n : Nat} {ds : List Dp} (h : Shp Tryz.prog n 22 ds) : ∃ l : List CourseT, ds = [.sl (l.map CourseT.row)] ∧ (∀ c ∈ l, c.ok) ∧ ao l := by
 cases n with
 | zero => exact h.elim
 | succ n =>
  simp only [Shp, Tryz.underlying22, bytes113] at h
  obtain ⟨es, rfl, hb, he⟩ := h
  obtain ⟨l, rfl, hl⟩ := map_of (row := CourseT.row) (ok := CourseT.ok) (fun r hr => shp_course (he r hr))
  exact ⟨l, rfl, hl, by have := short_of hb (by omega); simpa [ao] using this⟩
theorem shp_clauseT {n : Nat} {ds : List Dp} (h : Shp Tryz.prog n 102 ds) : ∃ c : ClauseT, ds = c.row ∧ True := by
 cases n with
 | zero => exact h.elim
 | succ n =>
  simp only [Shp, Tryz.underlying102, List.forall_mem_cons, cells3, cells102'] at h
  obtain ⟨hl, h1, h2, h3, h4, _⟩ := h
  obtain ⟨a, e1, _⟩ := ba h1
  obtain ⟨b, e2, _⟩ := ba h2
  obtain ⟨c, e3, _⟩ := ba h3
  obtain ⟨d, e4, _⟩ := ba h4
  match ds, hl with
  | [p, q, r, t], _ =>
   simp at e1 e2 e3 e4
   subst e1; subst e2; subst e3; subst e4
   exact ⟨⟨a, b, c, d⟩, rfl, trivial⟩
theorem shp_sysT {n : Nat} {ds : List Dp} (h : Shp Tryz.prog n 76 ds) : ∃ s : SysT, ds = s.row ∧ s.ok := by
 cases n with
 | zero => exact h.elim
 | succ n =>
  simp only [Shp, Tryz.underlying76, List.forall_mem_cons, cells72, cells73, cells74, cells76] at h
  obtain ⟨hl, h1, h2, h3, h4, _⟩ := h
  obtain ⟨a, e1, a1, a2⟩ := shp_classes h1
  obtain ⟨b, e2, b1, b2⟩ := shp_fees h2
  obtain ⟨c, e3, c1, c2⟩ := shp_classes h3
  have h5 : ∃ l : List ClauseT, (List.take 1 (List.drop 3 ds)) = [.sl (l.map ClauseT.row)] ∧ ao l := by
   cases n with
   | zero => exact h4.elim
   | succ n =>
    simp only [Shp, Tryz.underlying74, bytes102] at h4
    obtain ⟨es, e, hb, he⟩ := h4
    obtain ⟨l, rfl, _⟩ := map_of (row := ClauseT.row) (ok := fun _ => True) (fun r hr => shp_clauseT (he r hr))
    exact ⟨l, e, by have := short_of hb (by omega); simpa [ao] using this⟩
  obtain ⟨d, e4, d1⟩ := h5
  match ds, hl with
  | [p, q, r, t], _ =>
   simp at e1 e2 e3 e4
   subst e1; subst e2; subst e3; subst e4
   exact ⟨⟨a, b, c, d⟩, rfl, ⟨a1, c1, b1, a2, c2, b2, by simpa [ao, SysT.sys] using d1⟩⟩
theorem shp_systems {n : Nat} {ds : List Dp} (h : Shp Tryz.prog n 24 ds) : ∃ l : List SysT, ds = [.sl (l.map SysT.row)] ∧ (∀ c ∈ l, c.ok) ∧ ao l := by
 cases n with
 | zero => exact h.elim
 | succ n =>
  simp only [Shp, Tryz.underlying24, bytes76] at h
  obtain ⟨es, rfl, hb, he⟩ := h
  obtain ⟨l, rfl, hl⟩ := map_of (row := SysT.row) (ok := SysT.ok) (fun r hr => shp_sysT (he r hr))
  exact ⟨l, rfl, hl, by have := short_of hb (by omega); simpa [ao] using this⟩
theorem shp_progs {n : Nat} {ds : List Dp} (h : Shp Tryz.prog n 23 ds) : ∃ l, ds = [.sl l] := by
 cases n with
 | zero => exact h.elim
 | succ n =>
  simp only [Shp, Tryz.underlying23] at h
  obtain ⟨es, rfl, _⟩ := h
  exact ⟨es, rfl⟩
theorem shp_world {n : Nat} {ds : List Dp} (h : Shp Tryz.prog n 29 ds) : ∃ w : WorldT, ds.map .p = w.l ∧ w.ok0 := by
 cases n with
 | zero => exact h.elim
 | succ n =>
  rw [Shp, Tryz.underlying29] at h
  simp only [List.forall_mem_cons, cells26, cells27, cells29] at h
  obtain ⟨hl, h1, h2, _⟩ := h
  obtain ⟨f, e4, hf⟩ := shp_facts h2
  cases n with
  | zero => exact h1.elim
  | succ n =>
   rw [Shp, Tryz.underlying26] at h1
   simp only [List.forall_mem_cons, cells22, cells23, cells24, cells26] at h1
   obtain ⟨_, g1, g2, g3, _⟩ := h1
   obtain ⟨c, e1, c1, c2⟩ := shp_courses g1
   obtain ⟨p, e2⟩ := shp_progs g2
   obtain ⟨s, e3, s1, s2⟩ := shp_systems g3
   match ds, hl with
   | [x, y, z, t], _ =>
    simp at e1 e2 e3 e4
    subst e1; subst e2; subst e3; subst e4
    exact ⟨⟨c, p, s, f⟩, rfl, ⟨c1, s1, c2, s2, hf⟩⟩
end Go.Vi
open Go Go.Proofs
namespace Go.Vi
open Go.ChangeShapes Go.WideShapes Go.ChangeAt Go.RowKit Go.Proofs.YtilebidefogaiaaGreatDoor
set_option maxRecDepth 100000
def plainW : List TypeId := [3, 4, 9, 22, 23, 24, 26, 27, 29, 30, 35, 56, 58, 60, 72, 73, 74, 76, 87, 91, 102, 109, 111, 113, 294, 296, 298, 300]
theorem plain29 : plainB Tryz.prog plainW = true := by kernel_rfl
theorem arg_world {H : Type} {enc : TypeId × Value → H} {W : World} {base : Nat} {v : Value} {d : DataW H} {p : List MemPlace}
  (hok : Value.okWide Tryz.prog W .any base 29 v) (h : DataW.Trod enc Tryz.prog W 0 (fun _ => true) true 29 v d p) (hw : (d.weights Tryz.prog 29).all (· ≤ reachBytes) = true) :
  ∃ w : WorldT, w.ok0 ∧ Rel W (avs (fun _ => False) (fun _ => none) []) (fun _ => none) [] (.agg w.l) v := by
 unfold Value.okWide at hok
 rw [Tryz.underlying29] at hok
 obtain ⟨cs, rfl, _, _⟩ := hok
 obtain ⟨fuel, hf⟩ := h
 obtain ⟨ds, h1, h2⟩ := open_plain plain29 av_start fuel 29 _ d p (by decide) hf hw
 obtain ⟨w, e, hw0⟩ := shp_world h1
 refine ⟨w, hw0, ?_⟩
 rw [← e]
 simp only [Rel]
 exact ⟨cs, rfl, h2.relL⟩
end Go.Vi
open Go Go.Proofs
namespace Go.Vi
open Go.ChangeShapes Go.WideShapes Go.ChangeAt Go.RowKit Go.Proofs.YtilebidefogaiaaGreatDoor
set_option maxRecDepth 100000
def lookF (P : Program) (ks : List Nat) (bs : List UInt8) : Option Nat := ks.find? fun k => match P.funcs[k]? with
 | some fn => (fn.name.toUTF8.data.toList == bs) && (P.funcNamed fn.name == some k)
 | none => false
theorem utf8_inj {s t : String} (h : s.toUTF8.data.toList = t.toUTF8.data.toList) : s = t := by
 have h1 : s.toUTF8 = t.toUTF8 := by
  cases hs : s.toUTF8; cases ht : t.toUTF8
  rw [hs, ht] at h
  congr 1
  exact Array.toList_inj.1 h
 exact String.toByteArray_inj.1 h1
theorem lookF_tells {P : Program} {ks : List Nat} {t : TypeId} {v : Value} {b : UInt8} {r : List UInt8} {k : Nat} (hv : funcToken P (t, v) = b :: r) (hk : lookF P ks (b :: r) = some k) : v = .func (.func k) #[] #[] := by
 obtain ⟨f, fn, rfl, h1, h2, h3⟩ := funcToken_tells hv
 have h4 := List.find?_some hk
 split at h4
 ·rename_i fn' hfn
  simp only [Bool.and_eq_true, beq_iff_eq] at h4
  have : fn.name = fn'.name := utf8_inj (h3.trans h4.1.symm)
  rw [this, h4.2] at h2
  cases h2
  rfl
 ·simp at h4
def expect (P : Program) (ks : List Nat) : Nat → TypeId → DataW (List UInt8) → Option (List Value)
 | 0, _, _ => none
 | n + 1, t, d => match P.underlying t with
  | some .bool => match d with
   | .lit (.bool b) => some [.bool b]
   | _ => none
  | some (.func ..) => match d with
   | .nil => some [.nilFunc]
   | .held (b :: r) => (lookF P ks (b :: r)).map fun k => [.func (.func k) #[] #[]]
   | _ => none
  | some (.struct fs) => match d with
   | .agg ds => if cL P fs.toList 0 (P.cellsOf t) then (zipE (fun f d => expect P ks n f d) (fs.toList.map (·.type)) ds) else none
   | _ => none
  | some (.array m e) => match d with
   | .agg ds => if decide (P.cellsOf t = m * P.cellsOf e) = true then zipE (fun f d => expect P ks n f d) (List.replicate m e) ds else none
   | _ => none
  | _ => none
where
 zipE (g : TypeId → DataW (List UInt8) → Option (List Value)) : List TypeId → List (DataW (List UInt8)) → Option (List Value)
  | [], [] => some []
  | t :: ts, d :: ds => (g t d).bind fun a => (zipE g ts ds).map fun b => a ++ b
  | _, _ => none
theorem fields_of {P : Program} {g : TypeId → DataW (List UInt8) → Option (List Value)} {tr : TypeId → List Value → Option (DataW (List UInt8) × List MemPlace)} {cs : List Value}
  (hg : ∀ t d ys, g t d = some ys → ∀ c p, tr t c = some (d, p) → c = ys) : ∀ (fs : List Field) (acc : Nat) (xs : List (DataW (List UInt8) × List MemPlace)) (ys : List Value),
  (fs.mapM fun f => tr f.type ((cs.drop f.offset).take (P.cellsOf f.type))) = some xs → cL P fs acc cs.length = true → expect.zipE g (fs.map (·.type)) (xs.map (·.1)) = some ys → cs.drop acc = ys
 | [], acc, xs, ys, hm, hc, hz => by
  simp at hm
  subst hm
  simp [expect.zipE] at hz
  subst hz
  simp [cL] at hc
  simp [hc]
 | f :: fs, acc, xs, ys, hm, hc, hz => by
  simp only [List.mapM_cons, Option.bind_eq_bind, Option.bind_eq_some_iff, Option.pure_def, Option.some.injEq] at hm
  obtain ⟨x, hx, xs', hxs, rfl⟩ := hm
  simp only [cL, Bool.and_eq_true, beq_iff_eq] at hc
  simp only [List.map_cons, expect.zipE, Option.bind_eq_some_iff, Option.map_eq_some_iff] at hz
  obtain ⟨a, ha, b, hb, rfl⟩ := hz
  have h1 := hg _ _ _ ha _ x.2 (by rw [hx])
  have h2 := fields_of hg fs _ xs' b hxs hc.2 hb
  rw [← h1, ← h2, hc.1, ← List.drop_drop, List.take_append_drop]
theorem elems_of {e : TypeId} {c : Nat} {g : TypeId → DataW (List UInt8) → Option (List Value)} {tr : TypeId → List Value → Option (DataW (List UInt8) × List MemPlace)} {cs : List Value}
  (hg : ∀ t d ys, g t d = some ys → ∀ c p, tr t c = some (d, p) → c = ys) : ∀ (n k : Nat) (xs : List (DataW (List UInt8) × List MemPlace)) (ys : List Value),
  ((List.range' k n).mapM fun i => tr e ((cs.drop (i * c)).take c)) = some xs → cs.length = (k + n) * c → expect.zipE g (List.replicate n e) (xs.map (·.1)) = some ys → cs.drop (k * c) = ys
 | 0, k, xs, ys, hm, hc, hz => by
  simp at hm
  subst hm
  simp [expect.zipE] at hz
  subst hz
  exact List.drop_eq_nil_of_le (by rw [hc]; simp)
 | n + 1, k, xs, ys, hm, hc, hz => by
  rw [List.range'_succ] at hm
  simp only [List.mapM_cons, Option.bind_eq_bind, Option.bind_eq_some_iff, Option.pure_def, Option.some.injEq] at hm
  obtain ⟨x, hx, xs', hxs, rfl⟩ := hm
  rw [List.replicate_succ] at hz
  simp only [List.map_cons, expect.zipE, Option.bind_eq_some_iff, Option.map_eq_some_iff] at hz
  obtain ⟨a, ha, b, hb, rfl⟩ := hz
  have h1 := hg _ _ _ ha _ x.2 (by rw [hx])
  have h2 := elems_of hg n (k + 1) xs' b hxs (by rw [hc]; congr 1; omega) hb
  rw [← h1, ← h2, Nat.add_mul, Nat.one_mul, ← List.drop_drop, List.take_append_drop]
theorem expect_of {P : Program} {ks : List Nat} {w : World} {sp : Nat → Bool} : ∀ (n : Nat) (t : TypeId) (d : DataW (List UInt8)) (ys : List Value), expect P ks n t d = some ys → ∀ (fuel : Nat) (cs : List Value) (p : List MemPlace), DataW.trod (funcToken P) P w 0 sp true fuel t cs = some (d, p) → cs = ys
 | 0, _, _, _, h => by simp [expect] at h
 | n + 1, t, d, ys, h => by
  intro fuel cs p ht
  cases fuel with
  | zero => simp [DataW.trod] at ht
  | succ fuel =>
   unfold expect at h
   unfold DataW.trod at ht
   cases hu : P.underlying t with
   | none => rw [hu] at h; simp at h
   | some td =>
    rw [hu] at h ht
    cases td with
    | bool =>
     simp only at h ht
     split at h
     ·split at ht <;> simp_all
     ·simp at h
    | func a b c =>
     simp only at h ht
     split at h
     ·split at ht <;> simp_all
     ·rename_i b r
      obtain ⟨k, hk, rfl⟩ := Option.map_eq_some_iff.1 h
      split at ht
      all_goals (try (simp_all; done))
      ·rename_i fn first captured _ _
       simp only [if_true, Option.some.injEq, Prod.mk.injEq, DataW.held.injEq] at ht
       rw [lookF_tells ht.1 hk]
     ·simp at h
    | struct fs =>
     simp only at h ht
     split at h
     ·split at h
      ·rename_i hc
       split at ht
       ·rename_i hl
        obtain ⟨xs, hxs, he⟩ := Option.map_eq_some_iff.1 ht
        simp only [Prod.mk.injEq, DataW.agg.injEq] at he
        obtain ⟨rfl, _⟩ := he
        have := fields_of (tr := fun t c => DataW.trod (funcToken P) P w 0 sp true fuel t c) (fun t d ys hg c p hp => expect_of n t d ys hg fuel c p hp) fs.toList 0 xs ys hxs (by rw [hl]; exact hc) h
        simpa using this
       ·simp at ht
      ·simp at h
     ·simp at h
    | array m e =>
     simp only at h ht
     split at h
     ·split at ht
      ·rename_i hl
       obtain ⟨xs, hxs, he⟩ := Option.map_eq_some_iff.1 ht
       simp only [Prod.mk.injEq, DataW.agg.injEq] at he
       obtain ⟨rfl, _⟩ := he
       split at h
       ·rename_i hc
        rw [List.range_eq_range'] at hxs
        have := elems_of (tr := fun t c => DataW.trod (funcToken P) P w 0 sp true fuel t c) (fun t d ys hg c p hp => expect_of n t d ys hg fuel c p hp) m 0 xs ys hxs (by rw [hl, Nat.zero_add]; exact of_decide_eq_true hc) h
        simpa using this
       ·simp at h
      ·simp at ht
     ·simp at h
    | _ => simp at h
end Go.Vi
open Go Go.Proofs
namespace Go.Vi
open Go.ChangeShapes Go.WideShapes Go.ChangeAt Go.RowKit Go.Proofs.YtilebidefogaiaaGreatDoor
set_option maxRecDepth 100000
def kindsKs : List Nat := [257, 258, 259, 260, 261, 262, 263, 264, 265, 267, 269, 270, 271, 272, 273, 274, 266, 275]
def kindsW : DataW Unit := match (Rows.laid_sizar_rules_kinds : DataW Unit) with
 | .iface _ d => d
 | d => d
theorem kinds_named : Tryz.prog.globalNamed "sizar/rules.kinds" = some 0 := by kernel_rfl
noncomputable def kindsT : TypeId := ((Tryz.prog.globals[0]?).map (·.type)).getD 0
theorem kinds_type : (Tryz.prog.globals[0]?).map (·.type) = some kindsT := by kernel_rfl
theorem kinds_expect : expect Tryz.prog kindsKs 4 kindsT kindsW.funcsOut = some kindsCells := by kernel_rfl
theorem kinds_cells {W : World} (h : laidMetH Tryz.prog [("sizar/rules.kinds", Rows.laid_sizar_rules_kinds)] W) : ∃ cs : Array Value, W.var? Tryz.prog "sizar/rules.kinds" = some cs ∧ cs.toList = kindsCells := by
 obtain ⟨g, t, cs, fuel, p, h1, h2, h3, h4⟩ := laidMetH.funcs h (n := "sizar/rules.kinds") (d := kindsW) (List.mem_singleton.2 rfl)
 rw [kinds_named] at h1
 cases h1
 rw [kinds_type] at h2
 cases h2
 exact ⟨cs, h3, expect_of 4 _ _ _ kinds_expect fuel _ _ h4⟩
theorem relCells_v {w : World} {av : Nat → Prop} {blk : Nat} {cs : Array Value} (hb : ∀ off, w.cell? ⟨blk, off, none⟩ = cs[off]?) (hav : ∀ k, ¬ av k) : ∀ (ys : List Value) (off : Nat), cs.toList.drop off = ys → RelCells w av blk off (ys.map .v)
 | [], _, _ => by simp [RelCells]
 | y :: ys, off, h => by
  have h1 : cs[off]? = some y := by
   have := congrArg List.head? h
   rw [List.head?_drop] at this
   simpa using this
  have h2 : cs.toList.drop (off + 1) = ys := by
   rw [← List.drop_drop, h]; rfl
  simp only [List.map_cons, RelCells]
  exact ⟨⟨hav blk, y, by rw [hb, h1], by simp [RelP]⟩, relCells_v hb hav ys (off + 1) h2⟩
theorem kindsD_eq : kindsD = kindsCells.map .v := rfl
theorem kinds_glo {W : World} (h : laidMetH Tryz.prog [("sizar/rules.kinds", Rows.laid_sizar_rules_kinds)] W) : ∀ g cs, Γk g = some cs → RelCells W (avs (fun _ => False) (fun _ => none) []) g 0 cs := by
 intro g cs hg
 obtain ⟨xs, h1, h2⟩ := kinds_cells h
 have h0 : g = 0 ∧ cs = kindsD := by
  unfold Γk at hg
  split at hg
  ·exact ⟨rfl, (Option.some.inj hg).symm⟩
  ·simp at hg
 obtain ⟨rfl, rfl⟩ := h0
 rw [kindsD_eq]
 refine relCells_v (cs := xs) (fun off => ?_) av_start _ 0 (by rw [List.drop_zero, h2])
 rw [World.var?, kinds_named] at h1
 simp only [Option.bind_some] at h1
 unfold World.cell?
 split at h1
 ·rename_i c a b hh
  cases h1
  simp only [hh]
  rfl
 ·simp at h1
end Go.Vi
open Go Go.Proofs
namespace Go.Vi
set_option maxRecDepth 100000
set_option maxHeartbeats 4000000
noncomputable abbrev nofit_ev_x0 (f : FactT) : List Blk := [.var [int f.kind, int f.sub, int f.obj, int f.value, int f.frm, int f.til, int f.known, int f.no]]
theorem nofit_ev {f : FactT} (h : List Blk) : (Ev Tryz.prog Γ0 82 [ag f.row] h (bool (!cB f)) h) := by
 exact Ev.castH (Ev.sym0 (d := bool !cB f) pok [.val (bool (cB f))] (by kernel_rfl) (.c (@fits_ev (f) ((nofit_ev_x0 f))) .n) rfl rfl h) (by rfl) (by rfl)
def ixF (f : FactT) (s : Nat) : Nat ⊕ Nat := if (!cB f) = true then .inr s else .inl (s + 1)
abbrev ixS (fs : List (List Dp)) (i : Int) : AS :=
 { t := mkT 19 0 [(0, ab fs), (1, .p (.v (.func (.func 82) #[] #[]))), (4, int 0), (7, int fs.length), (8, int i)], h := [], m := [] }
abbrev ixX : Nat → Exit × AS := fun k => (.ret, { t := mkT 19 0 [(4, int (k : Int))], h := [], m := [] })
theorem ix_body {fs : List (List Dp)} {i : Nat} {f : FactT} (hr : bw (i : Int) fs f.row 8) (hlt : decide ((i : Int) < (fs.length : Int)) = true) (hw : IntKind.i64.wrap ((i : Int) + 1) = ((i + 1 : Nat) : Int)) : (CW Tryz.prog Γ0 [] false (sub Tryz.f137 0) (ixS fs i) (ae (fun _ => ixS fs ((i + 1 : Nat) : Int)) ixX (ixF f i)).1 (ae (fun _ => ixS fs ((i + 1 : Nat) : Int)) ixX (ixF f i)).2) := by
 cases hc0 : !cB f
 ·exact CW.cast (CW.symX (s' := { t := mkT 19 0 [(0, ab fs), (1, fq 82), (4, int 0), (7, int (↑(List.length fs) : Int)), (8, int (IntKind.wrap IntKind.i64 ((↑i : Int) + 1)))], h := [], m := [] }) (e := Exit.normal) pok [.st (.mask [0, 1, 4, 7, 8])] [.b true, .row [vi f.kind, vi f.sub, vi f.obj, vi f.value, vi f.frm, vi f.til, vi f.known, vi f.no], .val (bool !cB f), .b false] (by kernel_rfl) (.c hlt (.c hr (.c (@nofit_ev (f) ([])) (.c hc0 .n))))) (by simp [ixF, ae, *]) (by simp [ixF, ae, *])
 ·exact CW.cast (CW.symX (s' := { t := mkT 19 0 [(4, int (↑i : Int))], h := [], m := [] }) (e := Exit.ret) pok [.st (.mask [4])] [.b true, .row [vi f.kind, vi f.sub, vi f.obj, vi f.value, vi f.frm, vi f.til, vi f.known, vi f.no], .val (bool !cB f), .b true] (by kernel_rfl) (.c hlt (.c hr (.c (@nofit_ev (f) ([])) (.c hc0 .n))))) (by simp [ixF, ae, *]) (by simp [ixF, ae, *])
theorem ix_last {fs : List (List Dp)} {i : Nat} (hlt : decide ((i : Int) < (fs.length : Int)) = false) : (CW Tryz.prog Γ0 [] false (sub Tryz.f137 0) (ixS fs i) (.exit 0) { t := mkT 19 0 [(4, int 0)], h := [], m := [] }) := by
 exact CW.cast (CW.symX (s' := { t := mkT 19 0 [(4, int 0)], h := [], m := [] }) (e := Exit.exit 0) pok [.st (.mask [4])] [.b false] (by kernel_rfl) (.c hlt .n)) (by rfl) (by rfl)
abbrev ixE : AS := { t := mkT 19 0 [(4, int 0)], h := [], m := [] }
def ixR (l : List FactT) : Int := match forL ixF l 0 with | .inl _ => -1 | .inr k => (k : Int)
theorem ix_cw {l : List FactT} (hl : ao l) :
  CW Tryz.prog Γ0 [] false (.loop (sub Tryz.f137 0)) (ixS (l.map FactT.row) 0) (cw (.exit 0) (fun _ : Nat => ixE) ixX (forL ixF l 0)).1 (cw (.exit 0) (fun _ : Nat => ixE) ixX (forL ixF l 0)).2 := by
 refine CW.each l ixF (fun i _ => ixS (l.map FactT.row) (i : Int)) (.exit 0) (fun _ => ixE) ixX (fun i s => s = i) (by simp) (fun _ => by simp []) ?_ ?_ 0 rfl
 ·intro i f s hf hs
  subst hs
  have hi := (List.getElem?_eq_some_iff.1 hf).1
  refine ⟨fun s' h => ?_, ix_body (rowAt hf rfl) (lt_len _ hi) (wrap_succ hi hl)⟩
  unfold ixF at h
  split at h <;> simp at h
  exact h.symm
 ·intro s hs
  exact ix_last (fa _ l)
theorem index_ev {l : List FactT} (hl : ao l) (h : List Blk) : (Ev Tryz.prog Γ0 137 [ab (l.map FactT.row), .p (.v (.func (.func 82) #[] #[]))] h (int (ixR l)) h) := by
 have hl0 := (@ix_cw (l) (hl))
 revert hl0
 cases ho1 : forL ixF l 0 with
 | inl o1_0_0 =>
  intro hl0
  exact Ev.castH (Ev.sym0 (d := int (-1)) pok [.sum [0, 1, 4, 7, 8] (Exit.exit 0) { t := mkT 19 0 [(4, int 0)], h := [], m := [] }] (by kernel_rfl) (.c hl0 .n) rfl rfl h) (by simp [ixR, ho1]) (by rfl)
 | inr o1_1_0 =>
  intro hl0
  exact Ev.castH (Ev.sym0 (d := int (↑o1_1_0 : Int)) pok [.sum [0, 1, 4, 7, 8] (Exit.ret) { t := mkT 19 0 [(4, int (↑o1_1_0 : Int))], h := [], m := [] }] (by kernel_rfl) (.c hl0 .n) rfl rfl h) (by simp [ixR, ho1]) (by rfl)
theorem ix_any (l : List FactT) : ∀ k : Nat, (match forL ixF l k with | .inl _ => false | .inr _ => true) = l.any (fun f => !cB f) := by
 induction l with
 | nil => intro k; rfl
 | cons f l ih =>
  intro k
  rw [List.any_cons]
  cases hf : cB f
  ·simp [forL, ixF, hf]
  ·simp only [forL, ixF, hf, Bool.not_true, Bool.false_eq_true, if_false, Bool.false_or]
   exact ih (k + 1)
theorem ixR_ge (l : List FactT) : decide (ixR l ≥ 0) = l.any (fun f => !cB f) := by
 rw [← ix_any l 0, ixR]
 split <;> simp
theorem contains_ev {l : List FactT} (hl : ao l) (h : List Blk) : (Ev Tryz.prog Γ0 81 [ab (l.map FactT.row), .p (.v (.func (.func 82) #[] #[]))] h (bool (l.any (fun f => !cB f))) h) := by
 exact Ev.castH (Ev.sym0 (d := bool (decide (ixR l ≥ 0))) pok [.val (int (ixR l))] (by kernel_rfl) (.c (@index_ev (l) (hl) ([])) .n) rfl rfl h) (by rw [← ixR_ge]) (by rfl)
def nbF (p : FactT × FactT) (_ : Unit) : Unit ⊕ Unit := if decide (orI (aD p.1.known p.2.known) (aD p.1.no p.2.no) ≥ 0) = true then .inr () else .inl ()
abbrev nbS (fs : List (List Dp)) (n : Int) (i : Int) : AS :=
 { t := mkT 27 0 [(0, ab fs), (2, int 0), (11, int n), (12, int i)], h := [], m := [] }
abbrev nbX : Unit → Exit × AS := fun _ => (.ret, { t := mkT 27 0 [(2, int 71)], h := [], m := [] })
theorem nb_body {fs : List (List Dp)} {n : Int} {i : Nat} {a b : FactT} (hr : bw (i : Int) fs a.row 8) (hr' : bw (IntKind.i64.wrap ((i : Int) + 1)) fs b.row 8) (hlt : decide ((i : Int) < n) = true) (hw : IntKind.i64.wrap ((i : Int) + 1) = ((i + 1 : Nat) : Int)) : (CW Tryz.prog Γ0 [] false (sub Tryz.f32 0) (nbS fs n i) (ae (fun _ => nbS fs n ((i + 1 : Nat) : Int)) nbX (nbF (a, b) ())).1 (ae (fun _ => nbS fs n ((i + 1 : Nat) : Int)) nbX (nbF (a, b) ())).2) := by
 cases hc0 : decide (orI (aD a.known b.known) (aD a.no b.no) ≥ 0)
 ·exact CW.cast (CW.symX (s' := { t := mkT 27 0 [(0, ab fs), (2, int 0), (11, int n), (12, int (IntKind.wrap IntKind.i64 ((↑i : Int) + 1)))], h := [], m := [] }) (e := Exit.normal) pok [.st (.mask [0, 2, 11, 12])] [.b true, .row [vi a.kind, vi a.sub, vi a.obj, vi a.value, vi a.frm, vi a.til, vi a.known, vi a.no], .row [vi b.kind, vi b.sub, vi b.obj, vi b.value, vi b.frm, vi b.til, vi b.known, vi b.no], .val (int (orI (aD a.known b.known) (aD a.no b.no))), .b false] (by kernel_rfl) (.c hlt (.c hr (.c hr' (.c (@fcmp_ev (a) (b) ([])) (.c hc0 .n)))))) (by simp [nbF, ae, *]) (by simp [nbF, ae, *])
 ·exact CW.cast (CW.symX (s' := { t := mkT 27 0 [(2, int 71)], h := [], m := [] }) (e := Exit.ret) pok [.st (.mask [2])] [.b true, .row [vi a.kind, vi a.sub, vi a.obj, vi a.value, vi a.frm, vi a.til, vi a.known, vi a.no], .row [vi b.kind, vi b.sub, vi b.obj, vi b.value, vi b.frm, vi b.til, vi b.known, vi b.no], .val (int (orI (aD a.known b.known) (aD a.no b.no))), .b true] (by kernel_rfl) (.c hlt (.c hr (.c hr' (.c (@fcmp_ev (a) (b) ([])) (.c hc0 .n)))))) (by simp [nbF, ae, *]) (by simp [nbF, ae, *])
theorem nb_last {fs : List (List Dp)} {n : Int} {i : Nat} (hlt : decide ((i : Int) < n) = false) : (CW Tryz.prog Γ0 [] false (sub Tryz.f32 0) (nbS fs n i) (.exit 0) { t := mkT 27 0 [(2, int 0)], h := [], m := [] }) := by
 exact CW.cast (CW.symX (s' := { t := mkT 27 0 [(2, int 0)], h := [], m := [] }) (e := Exit.exit 0) pok [.st (.mask [2])] [.b false] (by kernel_rfl) (.c hlt .n)) (by rfl) (by rfl)
def nbs (l : List FactT) : List (FactT × FactT) := l.zip (l.drop 1)
def nbR (l : List FactT) : Unit ⊕ Unit := forL nbF (nbs l) ()
theorem nb_cw {l : List FactT} (hl : ao l) {n : Int} (hn : n = (nbs l).length) :
  CW Tryz.prog Γ0 [] false (.loop (sub Tryz.f32 0)) (nbS (l.map FactT.row) n 0) (cw (.exit 0) (fun _ : Unit => { t := mkT 27 0 [(2, int 0)], h := [], m := [] }) nbX (nbR l)).1 (cw (.exit 0) (fun _ : Unit => { t := mkT 27 0 [(2, int 0)], h := [], m := [] }) nbX (nbR l)).2 := by
 subst hn
 have hlen : (nbs l).length = l.length - 1 := by simp [nbs]; try omega
 refine CW.each (nbs l) nbF (fun i _ => nbS (l.map FactT.row) ((nbs l).length : Int) (i : Int)) (.exit 0) (fun _ => { t := mkT 27 0 [(2, int 0)], h := [], m := [] }) nbX (fun _ _ => True) (by simp) (fun _ => by simp []) ?_ ?_ () trivial
 ·intro i p u hp _
  obtain ⟨hi, he⟩ := List.getElem?_eq_some_iff.1 hp
  have hi2 : i + 1 < l.length := by omega
  have h1 : l[i]? = some p.1 := by
   subst he; simp [nbs, List.getElem?_eq_getElem (show i < l.length by omega)]
  have h2 : l[i + 1]? = some p.2 := by
   subst he; simp [nbs, List.getElem?_eq_getElem hi2]
  have hw := wrap_succ (show i < l.length by omega) hl
  refine ⟨fun _ _ => trivial, nb_body (a := p.1) (b := p.2) (rowAt h1 rfl) ?_ ?_ hw⟩
  ·rw [hw]; exact rowAt h2 rfl
  ·simp; omega
 ·intro u _
  exact nb_last (by simp)
def aq (l : List FactT) : Int := bif l.any (fun f => !cB f) then 70 else match nbR l with | .inl _ => 0 | .inr _ => 71
abbrev min1 (l : List FactT) : Int := if false = true then if (↑(List.length (List.map FactT.row l)) : Int) > 1 then (↑(List.length (List.map FactT.row l)) : Int) else 1 else if (↑(List.length (List.map FactT.row l)) : Int) < 1 then (↑(List.length (List.map FactT.row l)) : Int) else 1
theorem min1_eq (l : List FactT) : min1 l = ((min 1 l.length : Nat) : Int) := by
 unfold min1; simp; split <;> omega
theorem cut1_len (l : List FactT) : ((List.length (List.take (Int.toNat ((List.length (List.map FactT.row l) : Nat) : Int) - Int.toNat (min1 l)) (List.drop (Int.toNat (min1 l)) (List.map FactT.row l))) : Nat) : Int) = (nbs l).length := by
 rw [min1_eq]; simp [nbs]; omega
theorem cut1_ok (l : List FactT) : (slOk (min1 l) (↑(List.length (List.map FactT.row l)) : Int) (List.length (List.map FactT.row l)) && true && (true || false) && List.all (List.map FactT.row l) fun r => decide (List.length r = 8)) = true := by
 rw [min1_eq]; simp [slOk]; refine ⟨?_, fun f _ => rfl⟩; omega
noncomputable abbrev fcheck_ev_x0 (l : List FactT) : List D := [ab (List.map FactT.row l), fq 82]
theorem bc {l : List FactT} (hl : ao l) (h : List Blk) : (Ev Tryz.prog Γ0 32 [ab (l.map FactT.row)] h (int (aq l)) h) := by
 cases hc0 : List.any l fun f => !cB f
 ·have hl1 := (@nb_cw (l) (hl) ((↑(List.length (List.take (Int.toNat (↑(List.length (List.map FactT.row l)) : Int) - Int.toNat (if false = true then if (↑(List.length (List.map FactT.row l)) : Int) > 1 then (↑(List.length (List.map FactT.row l)) : Int) else 1 else if (↑(List.length (List.map FactT.row l)) : Int) < 1 then (↑(List.length (List.map FactT.row l)) : Int) else 1)) (List.drop (Int.toNat (if false = true then if (↑(List.length (List.map FactT.row l)) : Int) > 1 then (↑(List.length (List.map FactT.row l)) : Int) else 1 else if (↑(List.length (List.map FactT.row l)) : Int) < 1 then (↑(List.length (List.map FactT.row l)) : Int) else 1)) (List.map FactT.row l)))) : Int)) (by first | assumption | exact cut1_ok l | exact cut1_len l))
  revert hl1
  cases ho2 : nbR l with
  | inl o2_0_0 =>
   intro hl1
   exact Ev.castH (Ev.sym0 (d := int 0) pok [.val (bool (List.any l fun f => !cB f)), .b false, .sum [0, 2, 11, 12] (Exit.exit 0) { t := mkT 27 0 [(2, int 0)], h := [], m := [] }] (by kernel_rfl) (.c (@contains_ev (l) (hl) ([])) (.c hc0 (.c (show (slOk (if false = true then if (↑(List.length (List.map FactT.row l)) : Int) > 1 then (↑(List.length (List.map FactT.row l)) : Int) else 1 else if (↑(List.length (List.map FactT.row l)) : Int) < 1 then (↑(List.length (List.map FactT.row l)) : Int) else 1) (↑(List.length (List.map FactT.row l)) : Int) (List.length (List.map FactT.row l)) && true && (true || false) && List.all (List.map FactT.row l) fun r => decide (List.length r = 8)) = true from (by first | assumption | exact cut1_ok l | exact cut1_len l)) (.c hl1 .n)))) rfl rfl h) (by simp [aq, hc0, ho2]) (by rfl)
  | inr o2_1_0 =>
   intro hl1
   exact Ev.castH (Ev.sym0 (d := int 71) pok [.val (bool (List.any l fun f => !cB f)), .b false, .sum [0, 2, 11, 12] (Exit.ret) { t := mkT 27 0 [(2, int 71)], h := [], m := [] }] (by kernel_rfl) (.c (@contains_ev (l) (hl) ([])) (.c hc0 (.c (show (slOk (if false = true then if (↑(List.length (List.map FactT.row l)) : Int) > 1 then (↑(List.length (List.map FactT.row l)) : Int) else 1 else if (↑(List.length (List.map FactT.row l)) : Int) < 1 then (↑(List.length (List.map FactT.row l)) : Int) else 1) (↑(List.length (List.map FactT.row l)) : Int) (List.length (List.map FactT.row l)) && true && (true || false) && List.all (List.map FactT.row l) fun r => decide (List.length r = 8)) = true from (by first | assumption | exact cut1_ok l | exact cut1_len l)) (.c hl1 .n)))) rfl rfl h) (by simp [aq, hc0, ho2]) (by rfl)
 ·exact Ev.castH (Ev.sym0 (d := int 70) pok [.val (bool (List.any l fun f => !cB f)), .b true] (by kernel_rfl) (.c (@contains_ev (l) (hl) ([])) (.c hc0 .n)) rfl rfl h) (by simp [aq, hc0]) (by rfl)
end Go.Vi
