/- RecordAdds: part of the proof: contracts of the functions that the law reaches, and the law. No conditions beyond the given statement's own. -/
import Derived.Test.YtilebidefogaiaaGreatDoorW4
open Go Go.Proofs
namespace Go.Vi
set_option maxRecDepth 100000
set_option maxHeartbeats 4000000
abbrev bJ (l : List FactT) : FactT := l.getD (IntKind.i64.wrap (((l.map FactT.row).length : Int) - 1)).toNat default
theorem factRows8 (l : List FactT) : ((l.map FactT.row).all fun r => decide (r.length = 8)) = true := by
 rw [List.all_eq_true]; intro r hr; obtain ⟨x, _, rfl⟩ := List.mem_map.1 hr; rfl
theorem last_row {l : List FactT} (hl : l.length ≤ 1000000) (h : decide (((l.map FactT.row).length : Int) > 0) = true) : bw (IntKind.i64.wrap (((l.map FactT.row).length : Int) - 1)) (l.map FactT.row) (bJ l).row 8 := by
 simp only [List.length_map, decide_eq_true_eq] at h
 have hw : IntKind.i64.wrap (((l.map FactT.row).length : Int) - 1) = ((l.length - 1 : Nat) : Int) := by
  rw [List.length_map, wrap_i64 (by omega) (by omega)]; omega
 unfold bJ
 rw [hw]
 have he : l[l.length - 1]? = some (l.getD ((l.length - 1 : Nat) : Int).toNat default) := by
  rw [Int.toNat_natCast, List.getD, List.getElem?_eq_getElem (by omega)]; rfl
 exact rowAt he rfl
theorem add_room {l : List FactT} (hb : l.length ≤ 1000000) {f : FactT} : ([[int f.kind, int f.sub, int f.obj, int f.value, int f.frm, int f.til, int f.known, int f.no]].all (bh 8) && roomOk ((l.map FactT.row).length + [[int f.kind, int f.sub, int f.obj, int f.value, int f.frm, int f.til, int f.known, int f.no]].length) 64 && ![[int f.kind, int f.sub, int f.obj, int f.value, int f.frm, int f.til, int f.known, int f.no]].isEmpty && (l.map FactT.row).all fun r => decide (r.length = 8)) = true := by
 rw [factRows8]
 simp [bh, D.one, Value.oneCell', roomOk]
 omega
theorem add_rows (l : List FactT) (f : FactT) : List.map (fun x => List.map D.p x) (List.map FactT.row l) ++ [[int f.kind, int f.sub, int f.obj, int f.value, int f.frm, int f.til, int f.known, int f.no]] = List.map (fun x => List.map D.p x) (List.map FactT.row (l ++ [f])) := by
 simp [FactT.row]
theorem clip_ev {l : List FactT} (h : List Blk) : (Ev Tryz.prog Γ0 85 [ab (l.map FactT.row)] h (.csl (l.map FactT.row)) h) := by
 exact Ev.castH (Ev.sym0 (d := D.csl (List.map FactT.row l)) pok [.ov 8 (D.csl (List.map FactT.row l))] (by kernel_rfl) (.c (show some (slOk 0 (↑(List.length (List.map FactT.row l)) : Int) (List.length (List.map FactT.row l)) && (decide ((↑(List.length (List.map FactT.row l)) : Int) ≤ (↑(List.length (List.map FactT.row l)) : Int)) && decide ((↑(List.length (List.map FactT.row l)) : Int) ≤ (↑(List.length (List.map FactT.row l)) : Int))) && (Option.isNone (some (↑(List.length (List.map FactT.row l)) : Int)) || Option.isSome (Option.map (evalD Γ0 [ab (List.map FactT.row l), D.any, nq, ab (List.map FactT.row l), ab (List.map FactT.row l), int (↑(List.length (List.map FactT.row l)) : Int), ab (List.map FactT.row l), int (↑(List.length (List.map FactT.row l)) : Int), D.any]) (some (Operand.tmp 5)))) && List.all (List.map FactT.row l) fun r => decide (List.length r = 8), cE (bU (↑(List.length (List.map FactT.row l)) : Int) (some (↑(List.length (List.map FactT.row l)) : Int))) (List.take (Int.toNat (↑(List.length (List.map FactT.row l)) : Int) - Int.toNat 0) (List.drop (Int.toNat 0) (List.map FactT.row l)))) = some (true, D.csl (List.map FactT.row l)) from (by simp only [factRows8, Bool.and_true]; simp [cE, bU, slOk, evalD]; exact List.take_of_length_le (by simp))) .n) rfl rfl h) (by rfl) (by rfl)
noncomputable abbrev fadd_a_x0 (f : FactT) : List Blk := [.var [int f.kind, int f.sub, int f.obj, int f.value, int f.frm, int f.til, int f.known, int f.no], .vec [[int f.kind, int f.sub, int f.obj, int f.value, int f.frm, int f.til, int f.known, int f.no]] 0 8]
noncomputable abbrev cz (f : FactT) : List Blk := [.var [int f.kind, int f.sub, int f.obj, int f.value, int f.frm, int f.til, int f.known, int f.no]]
theorem fadd_a {l : List FactT} (hl : ao l) (hb : l.length ≤ 1000000) {f : FactT} (h1 : (aq l != 0) = false) (h2 : (!cB f) = false) (h3 : (decide (((l.map FactT.row).length : Int) > 0) && decide (orI (aD (l.getD (IntKind.i64.wrap (((l.map FactT.row).length : Int) - 1)).toNat default).known f.known) (aD (l.getD (IntKind.i64.wrap (((l.map FactT.row).length : Int) - 1)).toNat default).no f.no) ≥ 0)) = false) : (Ev Tryz.prog Γ0 33 [ab (l.map FactT.row), ag f.row] [] (.tup [ab ((l ++ [f]).map FactT.row), int 0]) []) := by
 refine Ev.castH (Ev.post (d2 := D.tup [ab (List.map FactT.row (l ++ [f])), int 0]) (h2 := []) (φ := [List.map (fun x => List.map D.p x) (List.map FactT.row l) ++ [[int f.kind, int f.sub, int f.obj, int f.value, int f.frm, int f.til, int f.known, int f.no]] = List.map (fun x => List.map D.p x) (List.map FactT.row (l ++ [f])), [[int f.kind, int f.sub, int f.obj, int f.value, int f.frm, int f.til, int f.known, int f.no]] = [[int f.kind, int f.sub, int f.obj, int f.value, int f.frm, int f.til, int f.known, int f.no]]]) [.st (.frz 2 (List.map FactT.row (l ++ [f]))), .st (.trim 0)] (Ev.of_sym (h' := [.var [int f.kind, int f.sub, int f.obj, int f.value, int f.frm, int f.til, int f.known, int f.no], .vec [[int f.kind, int f.sub, int f.obj, int f.value, int f.frm, int f.til, int f.known, int f.no]] 0 8, .vec (List.map (fun x => List.map D.p x) (List.map FactT.row l) ++ [[int f.kind, int f.sub, int f.obj, int f.value, int f.frm, int f.til, int f.known, int f.no]]) 0 8]) (d := D.tup [.ref (.vec 2 0), int 0]) pok [.val (int (aq l)), .b false, .val (bool (cB f)), .b false, .row [vi (List.getD l (Int.toNat (IntKind.wrap IntKind.i64 ((↑(List.length (List.map FactT.row l)) : Int) - 1))) default).kind, vi (List.getD l (Int.toNat (IntKind.wrap IntKind.i64 ((↑(List.length (List.map FactT.row l)) : Int) - 1))) default).sub, vi (List.getD l (Int.toNat (IntKind.wrap IntKind.i64 ((↑(List.length (List.map FactT.row l)) : Int) - 1))) default).obj, vi (List.getD l (Int.toNat (IntKind.wrap IntKind.i64 ((↑(List.length (List.map FactT.row l)) : Int) - 1))) default).value, vi (List.getD l (Int.toNat (IntKind.wrap IntKind.i64 ((↑(List.length (List.map FactT.row l)) : Int) - 1))) default).frm, vi (List.getD l (Int.toNat (IntKind.wrap IntKind.i64 ((↑(List.length (List.map FactT.row l)) : Int) - 1))) default).til, vi (List.getD l (Int.toNat (IntKind.wrap IntKind.i64 ((↑(List.length (List.map FactT.row l)) : Int) - 1))) default).known, vi (List.getD l (Int.toNat (IntKind.wrap IntKind.i64 ((↑(List.length (List.map FactT.row l)) : Int) - 1))) default).no], .val (int (orI (aD (List.getD l (Int.toNat (IntKind.wrap IntKind.i64 ((↑(List.length (List.map FactT.row l)) : Int) - 1))) default).known f.known) (aD (List.getD l (Int.toNat (IntKind.wrap IntKind.i64 ((↑(List.length (List.map FactT.row l)) : Int) - 1))) default).no f.no))), .b false, .val (D.csl (List.map FactT.row l))] (by kernel_rfl) (.c (@bc (l) (hl) ((cz f))) (.c h1 (.c (@fits_ev (f) ((cz f))) (.c h2 (.c (show decide ((↑(List.length (List.map FactT.row l)) : Int) > 0) = true → bw (IntKind.wrap IntKind.i64 ((↑(List.length (List.map FactT.row l)) : Int) - 1)) (List.map FactT.row l) [vi (List.getD l (Int.toNat (IntKind.wrap IntKind.i64 ((↑(List.length (List.map FactT.row l)) : Int) - 1))) default).kind, vi (List.getD l (Int.toNat (IntKind.wrap IntKind.i64 ((↑(List.length (List.map FactT.row l)) : Int) - 1))) default).sub, vi (List.getD l (Int.toNat (IntKind.wrap IntKind.i64 ((↑(List.length (List.map FactT.row l)) : Int) - 1))) default).obj, vi (List.getD l (Int.toNat (IntKind.wrap IntKind.i64 ((↑(List.length (List.map FactT.row l)) : Int) - 1))) default).value, vi (List.getD l (Int.toNat (IntKind.wrap IntKind.i64 ((↑(List.length (List.map FactT.row l)) : Int) - 1))) default).frm, vi (List.getD l (Int.toNat (IntKind.wrap IntKind.i64 ((↑(List.length (List.map FactT.row l)) : Int) - 1))) default).til, vi (List.getD l (Int.toNat (IntKind.wrap IntKind.i64 ((↑(List.length (List.map FactT.row l)) : Int) - 1))) default).known, vi (List.getD l (Int.toNat (IntKind.wrap IntKind.i64 ((↑(List.length (List.map FactT.row l)) : Int) - 1))) default).no] 8 from (fun hg => ?_)) (.c (show decide ((↑(List.length (List.map FactT.row l)) : Int) > 0) = true → Ev Tryz.prog Γ0 84 [D.agg [int (List.getD l (Int.toNat (IntKind.wrap IntKind.i64 ((↑(List.length (List.map FactT.row l)) : Int) - 1))) default).kind, int (List.getD l (Int.toNat (IntKind.wrap IntKind.i64 ((↑(List.length (List.map FactT.row l)) : Int) - 1))) default).sub, int (List.getD l (Int.toNat (IntKind.wrap IntKind.i64 ((↑(List.length (List.map FactT.row l)) : Int) - 1))) default).obj, int (List.getD l (Int.toNat (IntKind.wrap IntKind.i64 ((↑(List.length (List.map FactT.row l)) : Int) - 1))) default).value, int (List.getD l (Int.toNat (IntKind.wrap IntKind.i64 ((↑(List.length (List.map FactT.row l)) : Int) - 1))) default).frm, int (List.getD l (Int.toNat (IntKind.wrap IntKind.i64 ((↑(List.length (List.map FactT.row l)) : Int) - 1))) default).til, int (List.getD l (Int.toNat (IntKind.wrap IntKind.i64 ((↑(List.length (List.map FactT.row l)) : Int) - 1))) default).known, int (List.getD l (Int.toNat (IntKind.wrap IntKind.i64 ((↑(List.length (List.map FactT.row l)) : Int) - 1))) default).no], D.agg [int f.kind, int f.sub, int f.obj, int f.value, int f.frm, int f.til, int f.known, int f.no]] (cz f) (int (orI (aD (List.getD l (Int.toNat (IntKind.wrap IntKind.i64 ((↑(List.length (List.map FactT.row l)) : Int) - 1))) default).known f.known) (aD (List.getD l (Int.toNat (IntKind.wrap IntKind.i64 ((↑(List.length (List.map FactT.row l)) : Int) - 1))) default).no f.no))) (cz f) from (fun hg => (@fcmp_ev (List.getD l (Int.toNat (IntKind.wrap IntKind.i64 ((↑(List.length (List.map FactT.row l)) : Int) - 1))) default) (f) ((cz f))))) (.c h3 (.c (@clip_ev (l) ((cz f))) (.c (show (List.all [[int f.kind, int f.sub, int f.obj, int f.value, int f.frm, int f.til, int f.known, int f.no]] (bh 8) && roomOk (List.length (List.map FactT.row l) + List.length [[int f.kind, int f.sub, int f.obj, int f.value, int f.frm, int f.til, int f.known, int f.no]]) 64 && !List.isEmpty [[int f.kind, int f.sub, int f.obj, int f.value, int f.frm, int f.til, int f.known, int f.no]] && List.all (List.map FactT.row l) fun r => decide (List.length r = 8)) = true from ?_) (.c (show (cz f) = (cz f) from rfl) (.c (@clip_ev (l) ((cz f))) (.c (@clip_ev (l) ((fadd_a_x0 f))) (.e (D.agg [int f.kind, int f.sub, int f.obj, int f.value, int f.frm, int f.til, int f.known, int f.no]) .n)))))))))))))) (by kernel_rfl) ⟨?_, rfl, trivial⟩) (by rfl) (by rfl) <;> (first | assumption | rfl | exact last_row hb hg | exact add_room hb | exact add_rows l f)
end Go.Vi
open Go Go.Proofs
namespace Go.Vi
set_option maxRecDepth 100000
set_option maxHeartbeats 4000000
theorem fcheckv_ev {f : FactT} {b1 b2 : Blk} : Ev Tryz.prog Γ0 32 [.ref (.vec 2 0)] [b1, b2, .vec [[int f.kind, int f.sub, int f.obj, int f.value, int f.frm, int f.til, int f.known, int f.no]] 0 8] (int (aq [f])) [b1, b2, .vec [[int f.kind, int f.sub, int f.obj, int f.value, int f.frm, int f.til, int f.known, int f.no]] 0 8] := by
 refine Ev.frzArgs (by rfl) rfl ?_
 exact bc (l := [f]) (by simp [ao]) []
def rfBad (st cr term gr ca : Int) : Bool :=
 !(decide (st ≥ 0) && decide (st ≤ 19999)) || !(decide (cr ≥ 0) && decide (cr ≤ 4095)) || !(decide (term ≥ 0) && decide (term ≤ 1023)) || !(decide (gr ≥ -1) && decide (gr ≤ 12)) || !(decide (ca ≥ 0) && decide (ca ≤ 6))
def rfV (gr ca : Int) : Int := bif decide (gr < 0) then -1 else IntKind.i64.wrap (gr + IntKind.i64.wrap (16 * ca))
abbrev rfG (st cr term v known no : Int) : FactT := ⟨5, st, cr, v, term, IntKind.i64.wrap (term + 1), known, no⟩
def rfF (st cr term gr ca known no : Int) : FactT := rfG st cr term (rfV gr ca) known no
def rfX (b : Bool) (e : Int) (f : FactT) : FactT × Int := match b with
 | true => (fz, 150)
 | false => match e != 0 with
  | true => (fz, e)
  | false => (f, 0)
def rfR (st cr term gr ca known no : Int) : FactT × Int := rfX (rfBad st cr term gr ca) (aq [rfF st cr term gr ca known no]) (rfF st cr term gr ca known no)
noncomputable abbrev rfact_ev_x0 (st : Int) (cr : Int) (term : Int) (gr : Int) (ca : Int) (known : Int) (no : Int) : List Blk := [.var [int 0, int 0, int 0, int 0, int 0, int 0, int 0, int 0], .var [int 5, int st, int cr, int (IntKind.wrap IntKind.i64 (gr + IntKind.wrap IntKind.i64 (16 * ca))), int term, int (IntKind.wrap IntKind.i64 (term + 1)), int known, int no], .vec [[int 5, int st, int cr, int (IntKind.wrap IntKind.i64 (gr + IntKind.wrap IntKind.i64 (16 * ca))), int term, int (IntKind.wrap IntKind.i64 (term + 1)), int known, int no]] 0 8]
noncomputable abbrev rfact_ev_x1 (st : Int) (cr : Int) (term : Int) (known : Int) (no : Int) : List Blk := [.var [int 0, int 0, int 0, int 0, int 0, int 0, int 0, int 0], .var [int 5, int st, int cr, int (-1), int term, int (IntKind.wrap IntKind.i64 (term + 1)), int known, int no], .vec [[int 5, int st, int cr, int (-1), int term, int (IntKind.wrap IntKind.i64 (term + 1)), int known, int no]] 0 8]
noncomputable abbrev ad : List Blk := [.var [int 0, int 0, int 0, int 0, int 0, int 0, int 0, int 0]]
theorem rfact_ev {st cr term gr ca known no : Int} (h : List Blk) : (Ev Tryz.prog Γ0 27 [int st, int cr, int term, int gr, int ca, int known, int no] h (.tup [ag (rfR st cr term gr ca known no).1.row, int (rfR st cr term gr ca known no).2]) h) := by
 cases hc0 : !(decide (st ≥ 0) && decide (st ≤ 19999)) || !(decide (cr ≥ 0) && decide (cr ≤ 4095)) || !(decide (term ≥ 0) && decide (term ≤ 1023)) || !(decide (gr ≥ -1) && decide (gr ≤ 12)) || !(decide (ca ≥ 0) && decide (ca ≤ 6))
 ·cases hc1 : decide (gr < 0)
  ·cases hc2 : aq [{ kind := 5, sub := st, obj := cr, value := IntKind.wrap IntKind.i64 (gr + IntKind.wrap IntKind.i64 (16 * ca)), frm := term, til := IntKind.wrap IntKind.i64 (term + 1), known := known, no := no }] != 0
   ·exact Ev.castH (Ev.sym0 (d := D.tup [D.agg [int 5, int st, int cr, int (IntKind.wrap IntKind.i64 (gr + IntKind.wrap IntKind.i64 (16 * ca))), int term, int (IntKind.wrap IntKind.i64 (term + 1)), int known, int no], int 0]) pok [.val (bool (decide (st ≥ 0) && decide (st ≤ 19999))), .val (bool (decide (cr ≥ 0) && decide (cr ≤ 4095))), .val (bool (decide (term ≥ 0) && decide (term ≤ 1023))), .val (bool (decide (gr ≥ -1) && decide (gr ≤ 12))), .val (bool (decide (ca ≥ 0) && decide (ca ≤ 6))), .b false, .b false, .val (int (aq [{ kind := 5, sub := st, obj := cr, value := IntKind.wrap IntKind.i64 (gr + IntKind.wrap IntKind.i64 (16 * ca)), frm := term, til := IntKind.wrap IntKind.i64 (term + 1), known := known, no := no }])), .b false] (by kernel_rfl) (.c (@bk (st) (0) (19999) (ad)) (.c (show (!!(decide (st ≥ 0) && decide (st ≤ 19999))) = true → Ev Tryz.prog Γ0 59 [int cr, int 0, int 4095] ad (bool (decide (cr ≥ 0) && decide (cr ≤ 4095))) ad from (fun hg => (@bk (cr) (0) (4095) (ad)))) (.c (show (!(!(decide (st ≥ 0) && decide (st ≤ 19999)) || !(decide (cr ≥ 0) && decide (cr ≤ 4095)))) = true → Ev Tryz.prog Γ0 59 [int term, int 0, int 1023] ad (bool (decide (term ≥ 0) && decide (term ≤ 1023))) ad from (fun hg => (@bk (term) (0) (1023) (ad)))) (.c (show (!(!(decide (st ≥ 0) && decide (st ≤ 19999)) || !(decide (cr ≥ 0) && decide (cr ≤ 4095)) || !(decide (term ≥ 0) && decide (term ≤ 1023)))) = true → Ev Tryz.prog Γ0 59 [int gr, int (-1), int 12] ad (bool (decide (gr ≥ -1) && decide (gr ≤ 12))) ad from (fun hg => (@bk (gr) (-1) (12) (ad)))) (.c (show (!(!(decide (st ≥ 0) && decide (st ≤ 19999)) || !(decide (cr ≥ 0) && decide (cr ≤ 4095)) || !(decide (term ≥ 0) && decide (term ≤ 1023)) || !(decide (gr ≥ -1) && decide (gr ≤ 12)))) = true → Ev Tryz.prog Γ0 59 [int ca, int 0, int 6] ad (bool (decide (ca ≥ 0) && decide (ca ≤ 6))) ad from (fun hg => (@bk (ca) (0) (6) (ad)))) (.c hc0 (.c hc1 (.c (@fcheckv_ev ({ kind := 5, sub := st, obj := cr, value := IntKind.wrap IntKind.i64 (gr + IntKind.wrap IntKind.i64 (16 * ca)), frm := term, til := IntKind.wrap IntKind.i64 (term + 1), known := known, no := no }) (.var [int 0, int 0, int 0, int 0, int 0, int 0, int 0, int 0]) (.var [int 5, int st, int cr, int (IntKind.wrap IntKind.i64 (gr + IntKind.wrap IntKind.i64 (16 * ca))), int term, int (IntKind.wrap IntKind.i64 (term + 1)), int known, int no])) (.c hc2 .n))))))))) rfl rfl h) (by first | (have z0 : rfBad st cr term gr ca = true := hc0; simp only [rfR, rfX, z0]; rfl) | (have z0 : rfBad st cr term gr ca = false := hc0; simp only [rfR, rfX, rfF, rfV, z0, hc1, cond_true, cond_false, hc2]; first | done | rfl)) (by rfl)
   ·exact Ev.castH (Ev.sym0 (d := D.tup [D.agg [int 0, int 0, int 0, int 0, int 0, int 0, int 0, int 0], int (aq [{ kind := 5, sub := st, obj := cr, value := IntKind.wrap IntKind.i64 (gr + IntKind.wrap IntKind.i64 (16 * ca)), frm := term, til := IntKind.wrap IntKind.i64 (term + 1), known := known, no := no }])]) pok [.val (bool (decide (st ≥ 0) && decide (st ≤ 19999))), .val (bool (decide (cr ≥ 0) && decide (cr ≤ 4095))), .val (bool (decide (term ≥ 0) && decide (term ≤ 1023))), .val (bool (decide (gr ≥ -1) && decide (gr ≤ 12))), .val (bool (decide (ca ≥ 0) && decide (ca ≤ 6))), .b false, .b false, .val (int (aq [{ kind := 5, sub := st, obj := cr, value := IntKind.wrap IntKind.i64 (gr + IntKind.wrap IntKind.i64 (16 * ca)), frm := term, til := IntKind.wrap IntKind.i64 (term + 1), known := known, no := no }])), .b true] (by kernel_rfl) (.c (@bk (st) (0) (19999) (ad)) (.c (show (!!(decide (st ≥ 0) && decide (st ≤ 19999))) = true → Ev Tryz.prog Γ0 59 [int cr, int 0, int 4095] ad (bool (decide (cr ≥ 0) && decide (cr ≤ 4095))) ad from (fun hg => (@bk (cr) (0) (4095) (ad)))) (.c (show (!(!(decide (st ≥ 0) && decide (st ≤ 19999)) || !(decide (cr ≥ 0) && decide (cr ≤ 4095)))) = true → Ev Tryz.prog Γ0 59 [int term, int 0, int 1023] ad (bool (decide (term ≥ 0) && decide (term ≤ 1023))) ad from (fun hg => (@bk (term) (0) (1023) (ad)))) (.c (show (!(!(decide (st ≥ 0) && decide (st ≤ 19999)) || !(decide (cr ≥ 0) && decide (cr ≤ 4095)) || !(decide (term ≥ 0) && decide (term ≤ 1023)))) = true → Ev Tryz.prog Γ0 59 [int gr, int (-1), int 12] ad (bool (decide (gr ≥ -1) && decide (gr ≤ 12))) ad from (fun hg => (@bk (gr) (-1) (12) (ad)))) (.c (show (!(!(decide (st ≥ 0) && decide (st ≤ 19999)) || !(decide (cr ≥ 0) && decide (cr ≤ 4095)) || !(decide (term ≥ 0) && decide (term ≤ 1023)) || !(decide (gr ≥ -1) && decide (gr ≤ 12)))) = true → Ev Tryz.prog Γ0 59 [int ca, int 0, int 6] ad (bool (decide (ca ≥ 0) && decide (ca ≤ 6))) ad from (fun hg => (@bk (ca) (0) (6) (ad)))) (.c hc0 (.c hc1 (.c (@fcheckv_ev ({ kind := 5, sub := st, obj := cr, value := IntKind.wrap IntKind.i64 (gr + IntKind.wrap IntKind.i64 (16 * ca)), frm := term, til := IntKind.wrap IntKind.i64 (term + 1), known := known, no := no }) (.var [int 0, int 0, int 0, int 0, int 0, int 0, int 0, int 0]) (.var [int 5, int st, int cr, int (IntKind.wrap IntKind.i64 (gr + IntKind.wrap IntKind.i64 (16 * ca))), int term, int (IntKind.wrap IntKind.i64 (term + 1)), int known, int no])) (.c hc2 .n))))))))) rfl rfl h) (by first | (have z0 : rfBad st cr term gr ca = true := hc0; simp only [rfR, rfX, z0]; rfl) | (have z0 : rfBad st cr term gr ca = false := hc0; simp only [rfR, rfX, rfF, rfV, z0, hc1, cond_true, cond_false, hc2]; first | done | rfl)) (by rfl)
  ·cases hc2 : aq [{ kind := 5, sub := st, obj := cr, value := -1, frm := term, til := IntKind.wrap IntKind.i64 (term + 1), known := known, no := no }] != 0
   ·exact Ev.castH (Ev.sym0 (d := D.tup [D.agg [int 5, int st, int cr, int (-1), int term, int (IntKind.wrap IntKind.i64 (term + 1)), int known, int no], int 0]) pok [.val (bool (decide (st ≥ 0) && decide (st ≤ 19999))), .val (bool (decide (cr ≥ 0) && decide (cr ≤ 4095))), .val (bool (decide (term ≥ 0) && decide (term ≤ 1023))), .val (bool (decide (gr ≥ -1) && decide (gr ≤ 12))), .val (bool (decide (ca ≥ 0) && decide (ca ≤ 6))), .b false, .b true, .val (int (aq [{ kind := 5, sub := st, obj := cr, value := -1, frm := term, til := IntKind.wrap IntKind.i64 (term + 1), known := known, no := no }])), .b false] (by kernel_rfl) (.c (@bk (st) (0) (19999) (ad)) (.c (show (!!(decide (st ≥ 0) && decide (st ≤ 19999))) = true → Ev Tryz.prog Γ0 59 [int cr, int 0, int 4095] ad (bool (decide (cr ≥ 0) && decide (cr ≤ 4095))) ad from (fun hg => (@bk (cr) (0) (4095) (ad)))) (.c (show (!(!(decide (st ≥ 0) && decide (st ≤ 19999)) || !(decide (cr ≥ 0) && decide (cr ≤ 4095)))) = true → Ev Tryz.prog Γ0 59 [int term, int 0, int 1023] ad (bool (decide (term ≥ 0) && decide (term ≤ 1023))) ad from (fun hg => (@bk (term) (0) (1023) (ad)))) (.c (show (!(!(decide (st ≥ 0) && decide (st ≤ 19999)) || !(decide (cr ≥ 0) && decide (cr ≤ 4095)) || !(decide (term ≥ 0) && decide (term ≤ 1023)))) = true → Ev Tryz.prog Γ0 59 [int gr, int (-1), int 12] ad (bool (decide (gr ≥ -1) && decide (gr ≤ 12))) ad from (fun hg => (@bk (gr) (-1) (12) (ad)))) (.c (show (!(!(decide (st ≥ 0) && decide (st ≤ 19999)) || !(decide (cr ≥ 0) && decide (cr ≤ 4095)) || !(decide (term ≥ 0) && decide (term ≤ 1023)) || !(decide (gr ≥ -1) && decide (gr ≤ 12)))) = true → Ev Tryz.prog Γ0 59 [int ca, int 0, int 6] ad (bool (decide (ca ≥ 0) && decide (ca ≤ 6))) ad from (fun hg => (@bk (ca) (0) (6) (ad)))) (.c hc0 (.c hc1 (.c (@fcheckv_ev ({ kind := 5, sub := st, obj := cr, value := -1, frm := term, til := IntKind.wrap IntKind.i64 (term + 1), known := known, no := no }) (.var [int 0, int 0, int 0, int 0, int 0, int 0, int 0, int 0]) (.var [int 5, int st, int cr, int (-1), int term, int (IntKind.wrap IntKind.i64 (term + 1)), int known, int no])) (.c hc2 .n))))))))) rfl rfl h) (by first | (have z0 : rfBad st cr term gr ca = true := hc0; simp only [rfR, rfX, z0]; rfl) | (have z0 : rfBad st cr term gr ca = false := hc0; simp only [rfR, rfX, rfF, rfV, z0, hc1, cond_true, cond_false, hc2]; first | done | rfl)) (by rfl)
   ·exact Ev.castH (Ev.sym0 (d := D.tup [D.agg [int 0, int 0, int 0, int 0, int 0, int 0, int 0, int 0], int (aq [{ kind := 5, sub := st, obj := cr, value := -1, frm := term, til := IntKind.wrap IntKind.i64 (term + 1), known := known, no := no }])]) pok [.val (bool (decide (st ≥ 0) && decide (st ≤ 19999))), .val (bool (decide (cr ≥ 0) && decide (cr ≤ 4095))), .val (bool (decide (term ≥ 0) && decide (term ≤ 1023))), .val (bool (decide (gr ≥ -1) && decide (gr ≤ 12))), .val (bool (decide (ca ≥ 0) && decide (ca ≤ 6))), .b false, .b true, .val (int (aq [{ kind := 5, sub := st, obj := cr, value := -1, frm := term, til := IntKind.wrap IntKind.i64 (term + 1), known := known, no := no }])), .b true] (by kernel_rfl) (.c (@bk (st) (0) (19999) (ad)) (.c (show (!!(decide (st ≥ 0) && decide (st ≤ 19999))) = true → Ev Tryz.prog Γ0 59 [int cr, int 0, int 4095] ad (bool (decide (cr ≥ 0) && decide (cr ≤ 4095))) ad from (fun hg => (@bk (cr) (0) (4095) (ad)))) (.c (show (!(!(decide (st ≥ 0) && decide (st ≤ 19999)) || !(decide (cr ≥ 0) && decide (cr ≤ 4095)))) = true → Ev Tryz.prog Γ0 59 [int term, int 0, int 1023] ad (bool (decide (term ≥ 0) && decide (term ≤ 1023))) ad from (fun hg => (@bk (term) (0) (1023) (ad)))) (.c (show (!(!(decide (st ≥ 0) && decide (st ≤ 19999)) || !(decide (cr ≥ 0) && decide (cr ≤ 4095)) || !(decide (term ≥ 0) && decide (term ≤ 1023)))) = true → Ev Tryz.prog Γ0 59 [int gr, int (-1), int 12] ad (bool (decide (gr ≥ -1) && decide (gr ≤ 12))) ad from (fun hg => (@bk (gr) (-1) (12) (ad)))) (.c (show (!(!(decide (st ≥ 0) && decide (st ≤ 19999)) || !(decide (cr ≥ 0) && decide (cr ≤ 4095)) || !(decide (term ≥ 0) && decide (term ≤ 1023)) || !(decide (gr ≥ -1) && decide (gr ≤ 12)))) = true → Ev Tryz.prog Γ0 59 [int ca, int 0, int 6] ad (bool (decide (ca ≥ 0) && decide (ca ≤ 6))) ad from (fun hg => (@bk (ca) (0) (6) (ad)))) (.c hc0 (.c hc1 (.c (@fcheckv_ev ({ kind := 5, sub := st, obj := cr, value := -1, frm := term, til := IntKind.wrap IntKind.i64 (term + 1), known := known, no := no }) (.var [int 0, int 0, int 0, int 0, int 0, int 0, int 0, int 0]) (.var [int 5, int st, int cr, int (-1), int term, int (IntKind.wrap IntKind.i64 (term + 1)), int known, int no])) (.c hc2 .n))))))))) rfl rfl h) (by first | (have z0 : rfBad st cr term gr ca = true := hc0; simp only [rfR, rfX, z0]; rfl) | (have z0 : rfBad st cr term gr ca = false := hc0; simp only [rfR, rfX, rfF, rfV, z0, hc1, cond_true, cond_false, hc2]; first | done | rfl)) (by rfl)
 ·exact Ev.castH (Ev.sym0 (d := D.tup [D.agg [int 0, int 0, int 0, int 0, int 0, int 0, int 0, int 0], int 150]) pok [.val (bool (decide (st ≥ 0) && decide (st ≤ 19999))), .val (bool (decide (cr ≥ 0) && decide (cr ≤ 4095))), .val (bool (decide (term ≥ 0) && decide (term ≤ 1023))), .val (bool (decide (gr ≥ -1) && decide (gr ≤ 12))), .val (bool (decide (ca ≥ 0) && decide (ca ≤ 6))), .b true] (by kernel_rfl) (.c (@bk (st) (0) (19999) (ad)) (.c (show (!!(decide (st ≥ 0) && decide (st ≤ 19999))) = true → Ev Tryz.prog Γ0 59 [int cr, int 0, int 4095] ad (bool (decide (cr ≥ 0) && decide (cr ≤ 4095))) ad from (fun hg => (@bk (cr) (0) (4095) (ad)))) (.c (show (!(!(decide (st ≥ 0) && decide (st ≤ 19999)) || !(decide (cr ≥ 0) && decide (cr ≤ 4095)))) = true → Ev Tryz.prog Γ0 59 [int term, int 0, int 1023] ad (bool (decide (term ≥ 0) && decide (term ≤ 1023))) ad from (fun hg => (@bk (term) (0) (1023) (ad)))) (.c (show (!(!(decide (st ≥ 0) && decide (st ≤ 19999)) || !(decide (cr ≥ 0) && decide (cr ≤ 4095)) || !(decide (term ≥ 0) && decide (term ≤ 1023)))) = true → Ev Tryz.prog Γ0 59 [int gr, int (-1), int 12] ad (bool (decide (gr ≥ -1) && decide (gr ≤ 12))) ad from (fun hg => (@bk (gr) (-1) (12) (ad)))) (.c (show (!(!(decide (st ≥ 0) && decide (st ≤ 19999)) || !(decide (cr ≥ 0) && decide (cr ≤ 4095)) || !(decide (term ≥ 0) && decide (term ≤ 1023)) || !(decide (gr ≥ -1) && decide (gr ≤ 12)))) = true → Ev Tryz.prog Γ0 59 [int ca, int 0, int 6] ad (bool (decide (ca ≥ 0) && decide (ca ≤ 6))) ad from (fun hg => (@bk (ca) (0) (6) (ad)))) (.c hc0 .n)))))) rfl rfl h) (by first | (have z0 : rfBad st cr term gr ca = true := hc0; simp only [rfR, rfX, z0]; rfl) | (have z0 : rfBad st cr term gr ca = false := hc0; simp only [rfR, rfX, rfF, rfV, z0, hc1, cond_true, cond_false, hc2]; first | done | rfl)) (by rfl)
end Go.Vi
open Go Go.Proofs
namespace Go.Vi
set_option maxRecDepth 100000
set_option maxHeartbeats 4000000
def ptEq (a b : PtT) : Bool := a.term == b.term && (a.value == b.value && true)
def epF (p : PtT × PtT) (_ : Unit) : Unit ⊕ Unit := if (!ptEq p.1 p.2) = true then .inr () else .inl ()
def epR (xs ys : List PtT) : Unit ⊕ Unit := forL epF (xs.zip ys) ()
def eqPts (xs ys : List PtT) : Bool := if (((xs.map PtT.row).length : Int) != ((ys.map PtT.row).length : Int)) = true then false else match epR xs ys with | .inl _ => true | .inr _ => false
def ptsAt (l : List FactT) (r : ReadT) (known : Int) : List PtT := aL r.kind r.sub r.obj r.frm r.til known l
attribute [local irreducible] ptsAt eqPts
end Go.Vi
open Go Go.Proofs
namespace Go.Vi
set_option maxRecDepth 100000
def parseF : List Dp → Option FactT
 | [.v (.int .i64 a), .v (.int .i64 b), .v (.int .i64 c), .v (.int .i64 d), .v (.int .i64 e), .v (.int .i64 f), .v (.int .i64 g), .v (.int .i64 i)] => some ⟨a, b, c, d, e, f, g, i⟩
 | _ => none
def parseFs : List (List Dp) → Option (List FactT)
 | [] => some []
 | r :: rs => match parseF r, parseFs rs with
  | some x, some xs => some (x :: xs)
  | _, _ => none
theorem parseF_eq {r : List Dp} {f : FactT} (h : parseF r = some f) : r = f.row := by
 unfold parseF at h
 split at h
 ·cases h; rfl
 ·simp at h
theorem parseFs_eq : ∀ {rs : List (List Dp)} {fs : List FactT}, parseFs rs = some fs → rs = fs.map FactT.row
 | [], fs, h => by simp only [parseFs, Option.some.injEq] at h; subst h; rfl
 | r :: rs, fs, h => by
  simp only [parseFs] at h
  split at h
  ·rename_i x xs h1 h2
   simp only [Option.some.injEq] at h
   subst h
   rw [parseF_eq h1, parseFs_eq h2]; rfl
  ·simp at h
def vlAt (s : VS) (n : Nat) : Int := bif s.2.getD n false then maxV (s.1.getD n default).value else -1
def valuesF (kk ks ko known : Int) (l : List FactT) : List Int := (List.range 1024).map (vlAt (l.foldl (bS kk ks ko known) vZ))
theorem vlStep_get (s : VS) (rs : List Int) (h : rs.length = 1024) (n i : Nat) : (vlStep s rs n).getD i 0 = if i = n ∧ n < 1024 then vlAt s n else rs.getD i 0 := by
 unfold vlAt vlStep
 by_cases hn : n < 1024
 ·by_cases hi : i = n
  ·subst hi
   cases s.2.getD i false <;> simp [List.getD, h, hn]
  ·have hi' : n ≠ i := fun e => hi e.symm
   cases s.2.getD n false <;> simp [List.getD, hi, hi']
 ·cases s.2.getD n false <;> simp [List.getD, hn, List.set_eq_of_length_le (show rs.length ≤ n by omega)]
theorem vlStep_len (s : VS) (rs : List Int) (n : Nat) : (vlStep s rs n).length = rs.length := by
 unfold vlStep; cases s.2.getD n false <;> simp
theorem valuesF_eq (kk ks ko known : Int) (l : List FactT) : aP kk ks ko known l = valuesF kk ks ko known l := by
 unfold aP valuesF vlAll
 generalize l.foldl (bS kk ks ko known) vZ = s
 have hz : (List.replicate 1024 (0 : Int)).length = 1024 := List.length_replicate ..
 have hz2 : ∀ i, (List.replicate 1024 (0 : Int)).getD i 0 = 0 := fun i => by
  rw [List.getD, List.getElem?_replicate]; split <;> rfl
 revert hz hz2
 generalize List.replicate 1024 (0 : Int) = z
 intro hz hz2
 have key : ∀ m, m ≤ 1024 → ((List.range m).foldl (vlStep s) z).length = 1024 ∧ ∀ i, ((List.range m).foldl (vlStep s) z).getD i 0 = if i < m then vlAt s i else 0 := by
  intro m
  induction m with
  | zero => intro _; exact ⟨hz, fun i => by rw [if_neg (Nat.not_lt_zero i)]; exact hz2 i⟩
  | succ m ih =>
   intro hm
   obtain ⟨h1, h2⟩ := ih (by omega)
   rw [List.range_succ, List.foldl_append]
   simp only [List.foldl_cons, List.foldl_nil]
   refine ⟨by rw [vlStep_len]; exact h1, fun i => ?_⟩
   rw [vlStep_get s _ h1, h2]
   by_cases hi : i = m
   ·subst hi
    rw [if_pos ⟨rfl, by omega⟩, if_pos (by omega)]
   ·rw [if_neg (fun h => hi h.1)]
    by_cases hlt : i < m
    ·rw [if_pos hlt, if_pos (by omega)]
    ·rw [if_neg hlt, if_neg (by omega)]
 obtain ⟨h1, h2⟩ := key 1024 (Nat.le_refl _)
 refine List.ext_getElem (by rw [h1]; simp) fun i hi1 hi2 => ?_
 have := h2 i
 rw [List.getD, List.getElem?_eq_getElem hi1] at this
 rw [h1] at hi1
 rw [if_pos hi1] at this
 simpa using this
def shortB (n : Nat) : Bool := Nat.blt n 1000000
def wvGo (args : List D) (h : List Blk) : List D → Option CR
 | [.p (.sl rows), .agg [.p (.v (.int .i64 kk)), .p (.v (.int .i64 ks)), .p (.v (.int .i64 ko))], .p (.v (.int .i64 known))] => match parseFs rows with
  | some l => match shortB l.length with
   | true => some (.ret (.agg ((valuesF kk ks ko known l).map int)) h)
   | false => none
  | none => none
 | _ => none
def wv : FnF := fun f args h => match Nat.beq f 159 with
 | true => wvGo args h (frzL h args)
 | false => none
theorem flat_ints : ∀ l : List Int, flatL (l.map int) = true
 | [] => rfl
 | _ :: l => by simp [flatL, flatD, flat_ints l]
theorem intC_flat (l : List Int) : (aI l).flatten = l.map int := by
 unfold aI
 induction l with
 | nil => rfl
 | cons a l ih => simp only [List.map_cons, List.flatten_cons, ih]; rfl
theorem wv_ok {Γ : al} : FnOk Tryz.prog Γ wv := by
 intro f args h r hw
 unfold wv at hw
 split at hw
 ·rename_i hf
  have hf := Nat.eq_of_beq_eq_true hf
  subst hf
  refine ⟨by kernel_rfl, ?_⟩
  unfold wvGo at hw
  split at hw
  ·rename_i rows kk ks ko known hfr
   split at hw
   ·rename_i l hl
    split at hw
    ·rename_i hs
     cases hw
     refine VRes.of_ev (Ev.frzArgs (by rw [hfr]; rfl) (flat_ints _) ?_)
     rw [hfr, parseFs_eq hl]
     have hsh : ao l := by
      unfold shortB at hs
      have : l.length < 1000000 := by simpa [Nat.blt_eq] using hs
      unfold ao; omega
     have := values_ev (kk := kk) (ks := ks) (ko := ko) (known := known) hsh []
     rw [intC_flat, valuesF_eq] at this
     exact Ev.glob0 this
    ·simp at hw
   ·simp at hw
  ·simp at hw
 ·simp at hw
end Go.Vi
open Go Go.Proofs
namespace Go.Vi
theorem set_get {α : Type} {l : List α} {n t : Nat} {x z : α} (hn : n < l.length) : (l.set n x).getD t z = if t = n then x else l.getD t z := by
 by_cases h : t = n
 ·subst h; simp [List.getD, hn]
 ·have : n ≠ t := fun e => h e.symm
  simp [List.getD, h, this]
theorem vaStep_at {f : FactT} {s : VS} (hs : s.ok) {n t : Nat} (hn : n < 1024) : ((fb f s n).1.getD t default, (fb f s n).2.getD t false) = if t = n ∧ vaHit f (s.1.getD t default) (s.2.getD t false) = true then (f, true) else (s.1.getD t default, s.2.getD t false) := by
 unfold fb
 by_cases ht : t = n
 ·subst ht
  cases h : vaHit f (s.1.getD t default) (s.2.getD t false)
  ·simp
  ·simp only [cond_true, and_self, if_true]
   rw [set_get (by rw [hs.1]; exact hn), set_get (by rw [hs.2]; exact hn)]
   simp
 ·cases h : vaHit f (s.1.getD n default) (s.2.getD n false)
  ·simp [ht]
  ·simp only [cond_true, ht, false_and, if_false]
   rw [set_get (by rw [hs.1]; exact hn), set_get (by rw [hs.2]; exact hn)]
   simp [ht]
theorem vaSteps_at {f : FactT} {t : Nat} : ∀ (ns : List Nat) (s : VS), s.ok → ns.Nodup → (∀ n ∈ ns, n < 1024) → ((ns.foldl (fb f) s).1.getD t default, (ns.foldl (fb f) s).2.getD t false) = if t ∈ ns ∧ vaHit f (s.1.getD t default) (s.2.getD t false) = true then (f, true) else (s.1.getD t default, s.2.getD t false)
 | [], s, _, _, _ => by simp
 | n :: ns, s, hs, hd, hb => by
  rw [List.nodup_cons] at hd
  have hn := hb n (by simp)
  have h1 := vaStep_at (f := f) hs (t := t) hn
  have h2 := vaSteps_at (f := f) (t := t) ns (fb f s n) (vaStep_ok n hs) hd.2 (fun m hm => hb m (by simp [hm]))
  rw [List.foldl_cons, h2]
  have e1 := congrArg Prod.fst h1
  have e2 := congrArg Prod.snd h1
  simp only at e1 e2
  by_cases ht : t = n
  ·subst ht
   rw [if_neg (fun h => hd.1 h.1), h1]
   simp
  ·simp only [ht, false_and, if_false] at e1 e2
   rw [e1, e2]
   simp [ht]
theorem at_step {kk ks ko known : Int} {t : Nat} (ht : t < 1024) (f : FactT) {s : VS} (hs : s.ok) : ((bS kk ks ko known s f).1.getD t default, (bS kk ks ko known s f).2.getD t false) = bZ kk ks ko (t : Int) known (s.1.getD t default, s.2.getD t false) f := by
 unfold bS bZ
 cases ofIs kk ks ko known f
 ·rfl
 ·simp only [cond_true]
  unfold vaF vaIn
  have hlo : 0 ≤ vaLo f ∧ (vaLo f = f.frm ∨ (vaLo f = 0 ∧ f.frm ≤ 0)) := by unfold vaLo; simp; split <;> omega
  have hhi : vaHi f ≤ 1024 ∧ (vaHi f = f.til ∨ (vaHi f = 1024 ∧ 1024 ≤ f.til)) := by unfold vaHi; split <;> omega
  rw [vaSteps_at _ _ hs (List.nodup_range' ..) (by intro n hn; rw [List.mem_range'_1] at hn; omega)]
  unfold aX atHit
  have hm : (t ∈ List.range' (vaLo f).toNat (vaHi f - vaLo f).toNat) ↔ f.frm ≤ (t : Int) ∧ (t : Int) < f.til := by
   rw [List.mem_range'_1]; omega
  have hv : (!s.2.getD t false || decide (orI (aD f.known (s.1.getD t default).known) (aD f.no (s.1.getD t default).no) ≥ 0)) = vaHit f (s.1.getD t default) (s.2.getD t false) := rfl
  rw [hv]
  by_cases h1 : f.frm ≤ (t : Int) ∧ (t : Int) < f.til
  ·cases h2 : vaHit f (s.1.getD t default) (s.2.getD t false)
   ·simp
   ·simp [hm.2 h1, h1.1, h1.2]
  ·rw [if_neg (fun h => h1 (hm.1 h.1))]
   have : (decide (f.frm ≤ (t : Int)) && decide ((t : Int) < f.til)) = false := by
    cases hq : (decide (f.frm ≤ (t : Int)) && decide ((t : Int) < f.til))
    ·rfl
    ·simp at hq; exact absurd hq h1
   simp [this]
theorem at_fold {kk ks ko known : Int} {t : Nat} (ht : t < 1024) : ∀ (l : List FactT) (s : VS), s.ok → ((l.foldl (bS kk ks ko known) s).1.getD t default, (l.foldl (bS kk ks ko known) s).2.getD t false) = l.foldl (bZ kk ks ko (t : Int) known) (s.1.getD t default, s.2.getD t false)
 | [], _, _ => rfl
 | f :: l, s, hs => by
  rw [List.foldl_cons, List.foldl_cons, at_fold ht l _ (vaGo_ok f hs), at_step ht f hs]
theorem valuesR_get {kk ks ko known : Int} {l : List FactT} {t : Nat} (ht : t < 1024) : (aP kk ks ko known l).getD t 0 = vlAt (l.foldl (bS kk ks ko known) vZ) t := by
 rw [valuesF_eq]
 unfold valuesF
 simp [List.getD, ht]
theorem rep_get {α : Type} {n t : Nat} {x z : α} (h : t < n) : (List.replicate n x).getD t z = x := by simp [List.getD, h]
theorem c9 {α β : Type} {f g : α → Option β} : ∀ {l : List α}, (∀ x ∈ l, f x = g x) → l.filterMap f = l.filterMap g
 | [], _ => rfl
 | x :: l, h => by rw [List.filterMap_cons, List.filterMap_cons, h x (by simp), c9 fun y hy => h y (by simp [hy])]
end Go.Vi
open Go Go.Proofs
namespace Go.Vi
theorem ofIs_more {kk ks ko k k' : Int} {f : FactT} (h : f.known ≤ k) (hk : k ≤ k') : ofIs kk ks ko k' f = ofIs kk ks ko k f := by
 unfold ofIs
 have h1 : decide (f.known ≤ k) = true := by simpa using h
 have h2 : decide (f.known ≤ k') = true := by simp; omega
 rw [h1, h2]
theorem vaFold_more {kk ks ko k k' : Int} (hk : k ≤ k') : ∀ (l : List FactT) (s : VS), (∀ f ∈ l, f.known ≤ k) → l.foldl (bS kk ks ko k') s = l.foldl (bS kk ks ko k) s
 | [], _, _ => rfl
 | f :: l, s, h => by
  have h1 : bS kk ks ko k' s f = bS kk ks ko k s f := by unfold bS; rw [ofIs_more (h f (by simp)) hk]
  rw [List.foldl_cons, List.foldl_cons, h1, vaFold_more hk l _ fun g hg => h g (by simp [hg])]
theorem ofFold_more {kk ks ko t k k' : Int} (hk : k ≤ k') : ∀ (l : List FactT) (s : FactT × Bool), (∀ f ∈ l, f.known ≤ k) → l.foldl (bZ kk ks ko t k') s = l.foldl (bZ kk ks ko t k) s
 | [], _, _ => rfl
 | f :: l, s, h => by
  have h1 : bZ kk ks ko t k' s f = bZ kk ks ko t k s f := by unfold bZ; rw [ofIs_more (h f (by simp)) hk]
  rw [List.foldl_cons, List.foldl_cons, h1, ofFold_more hk l _ fun g hg => h g (by simp [hg])]
theorem values_other {kk ks ko k k' : Int} {l : List FactT} {g : FactT} (hk : k ≤ k') (hl : ∀ f ∈ l, f.known ≤ k) (hg : dM kk ks ko g = false) : aP kk ks ko k' (l ++ [g]) = aP kk ks ko k l := by
 have hi : ofIs kk ks ko k' g = false := by unfold ofIs; rw [hg]; rfl
 have h2 : (l ++ [g]).foldl (bS kk ks ko k') vZ = l.foldl (bS kk ks ko k) vZ := by
  rw [List.foldl_append, vaFold_more hk l _ hl]
  simp only [List.foldl_cons, List.foldl_nil]
  unfold bS
  rw [hi]; rfl
 unfold aP
 rw [h2]
theorem at_other {kk ks ko t k k' : Int} {l : List FactT} {g : FactT} (hk : k ≤ k') (hl : ∀ f ∈ l, f.known ≤ k) (hg : dM kk ks ko g = false) : atR kk ks ko t k' (l ++ [g]) = atR kk ks ko t k l := by
 have hi : ofIs kk ks ko k' g = false := by unfold ofIs; rw [hg]; rfl
 have h2 : (l ++ [g]).foldl (bZ kk ks ko t k') (fz, false) = l.foldl (bZ kk ks ko t k) (fz, false) := by
  rw [List.foldl_append, ofFold_more hk l _ hl]
  simp only [List.foldl_cons, List.foldl_nil]
  unfold bZ
  rw [hi]; rfl
 unfold atR
 rw [h2]
theorem ofFold_inv {kk ks ko t k b : Int} : ∀ (l : List FactT) (s : FactT × Bool), (∀ f ∈ l, f.known ≤ b) → (s.2 = true → s.1.known ≤ b) → ((l.foldl (bZ kk ks ko t k) s).2 = true → (l.foldl (bZ kk ks ko t k) s).1.known ≤ b)
 | [], _, _, hs => hs
 | f :: l, s, h, hs => by
  rw [List.foldl_cons]
  refine ofFold_inv l _ (fun g hg => h g (by simp [hg])) ?_
  unfold bZ aX
  cases ofIs kk ks ko k f
  ·exact hs
  ·simp only [cond_true]
   cases atHit t s.1 s.2 f
   ·exact hs
   ·intro _; exact h f (by simp)
theorem cmpI_gt {a b : Int} (h : b < a) : aD a b = 1 := by unfold aD; repeat (first | split | rfl | omega)
theorem ofFold_self {kk ks ko t k k' : Int} {l : List FactT} {g : FactT} (hk : k < k') (hl : ∀ f ∈ l, f.known ≤ k) (hg : dM kk ks ko g = true) (hn : g.known = k') : (l ++ [g]).foldl (bZ kk ks ko t k') (fz, false) = if g.frm ≤ t ∧ t < g.til then (g, true) else l.foldl (bZ kk ks ko t k) (fz, false) := by
 rw [List.foldl_append, ofFold_more (by omega) l _ hl]
 have hinv := ofFold_inv (kk := kk) (ks := ks) (ko := ko) (t := t) (k := k) (b := k) l (fz, false) hl (by simp)
 generalize l.foldl (bZ kk ks ko t k) (fz, false) = s at hinv ⊢
 simp only [List.foldl_cons, List.foldl_nil]
 have hi : ofIs kk ks ko k' g = true := by unfold ofIs; rw [hg, hn]; simp
 unfold bZ aX atHit
 rw [hi]
 simp only [cond_true]
 have hc : (!s.2 || decide (orI (aD g.known s.1.known) (aD g.no s.1.no) ≥ 0)) = true := by
  cases hs : s.2
  ·rfl
  ·have := hinv hs
   rw [cmpI_gt (by omega : s.1.known < g.known)]
   simp [orI]
 rw [hc]
 by_cases h1 : g.frm ≤ t ∧ t < g.til
 ·simp [h1.1, h1.2]
 ·rw [if_neg h1]
  have : (decide (g.frm ≤ t) && decide (t < g.til)) = false := by
   cases hq : (decide (g.frm ≤ t) && decide (t < g.til))
   ·rfl
   ·simp at hq; exact absurd hq h1
  rw [this]; rfl
theorem values_at {kk ks ko k : Int} {l : List FactT} {t : Nat} (ht : t < 1024) : (aP kk ks ko k l).getD t 0 = (let r := l.foldl (bZ kk ks ko (t : Int) k) (fz, false); bif r.2 then maxV r.1.value else -1) := by
 have h := at_fold (kk := kk) (ks := ks) (ko := ko) (known := k) ht l vZ vZ_ok
 have hz : (vZ.1.getD t default, vZ.2.getD t false) = (fz, false) := by unfold vZ; rw [rep_get ht, rep_get ht]
 rw [hz] at h
 rw [valuesR_get ht]
 unfold vlAt
 rw [← h]
theorem values_self {kk ks ko k k' : Int} {l : List FactT} {g : FactT} (hk : k < k') (hl : ∀ f ∈ l, f.known ≤ k) (hg : dM kk ks ko g = true) (hn : g.known = k') {t : Nat} (ht : t < 1024) : (aP kk ks ko k' (l ++ [g])).getD t 0 = if g.frm ≤ (t : Int) ∧ (t : Int) < g.til then maxV g.value else (aP kk ks ko k l).getD t 0 := by
 rw [values_at ht, values_at ht, ofFold_self hk hl hg hn]
 by_cases h : g.frm ≤ (t : Int) ∧ (t : Int) < g.til
 ·rw [if_pos h, if_pos h]; rfl
 ·rw [if_neg h, if_neg h]
abbrev WorldT.add (w : WorldT) (g : FactT) : WorldT := { w with f := w.f ++ [g] }
theorem course_add {w : WorldT} {n t k k' : Int} {g : FactT} (hk : k ≤ k') (hl : ∀ f ∈ w.f, f.known ≤ k) (hg : dM 1 n 0 g = false) : ac (w.add g) n t k' = ac w n t k := by
 unfold ac
 rw [at_other hk hl hg]
theorem many_add {w : WorldT} {k k' : Int} {g : FactT} (hk : k ≤ k') (hl : ∀ f ∈ w.f, f.known ≤ k) (hg : dM 12 0 0 g = false) : manyOf (w.f ++ [g]) k' = manyOf w.f k := by
 unfold manyOf
 rw [at_other hk hl hg]
theorem forL_app {α σ ρ : Type} (F : α → σ → σ ⊕ ρ) : ∀ (l m : List α) (s : σ), forL F (l ++ m) s = match forL F l s with | .inl s' => forL F m s' | .inr r => .inr r
 | [], _, _ => rfl
 | a :: l, m, s => by
  simp only [List.cons_append, forL]
  cases F a s with
  | inl s' => exact forL_app F l m s'
  | inr r => rfl
theorem numbers_add {w : WorldT} {k k' : Int} {g : FactT} (hk : k ≤ k') (hl : ∀ f ∈ w.f, f.known ≤ k) (hg : g.kind = 5) : numbersR (w.f ++ [g]) k' = numbersR w.f k := by
 have hm : manyOf (w.f ++ [g]) k' = manyOf w.f k := many_add hk hl (by simp [dM, hg])
 have hn : ∀ many, numsOf many (w.f ++ [g]) = numsOf many w.f := by
  intro many
  unfold numsOf
  rw [forL_app]
  cases forL (nuF many) w.f [] with
  | inr r => rfl
  | inl s =>
   have hi : isNew g s = false := by simp [isNew, hg]
   simp only [forL, nuF, hi]
   by_cases h : decide ((s.length : Int) ≥ many) = true
   ·simp only [h, if_true]; rfl
   ·simp only [h]; rfl
 unfold numbersR
 rw [hm, hn]
theorem pts_other {kk ks ko frm to k k' : Int} {l : List FactT} {g : FactT} (hk : k ≤ k') (hl : ∀ f ∈ l, f.known ≤ k) (hg : dM kk ks ko g = false) : aL kk ks ko frm to k' (l ++ [g]) = aL kk ks ko frm to k l := by
 unfold aL
 rw [values_other hk hl hg]
theorem attO_add {w : WorldT} {n k k' : Int} {g : FactT} (hk : k ≤ k') (hl : ∀ f ∈ w.f, f.known ≤ k) (hg : g.kind = 5) (p : PtT) : attO (w.add g) k' n p = attO w k n p := by
 unfold attO attOf
 rw [course_add hk hl (by simp [dM, hg])]
theorem atts_other {w : WorldT} {n st term k k' : Int} {g : FactT} (hk : k ≤ k') (hl : ∀ f ∈ w.f, f.known ≤ k) (hg : g.kind = 5) (hn : dM 5 st n g = false) : bE (w.add g) k' st term n = bE w k st term n := by
 unfold bE ptsOf
 rw [pts_other hk hl hn]
 exact c9 fun p _ => attO_add hk hl hg p
theorem ptO_head (rs : List Int) (n : Nat) (ns : List Nat) : ((n :: ns).filterMap (ptO rs)).filter (fun p => p.term != (n : Int)) = (ns.filterMap (ptO rs)).filter (fun p => p.term != (n : Int)) := by
 cases h : ptO rs n with
 | none => rw [List.filterMap_cons_none h]
 | some p =>
  rw [List.filterMap_cons_some h]
  have : p.term = (n : Int) := by
   unfold ptO at h
   cases hd : decide (rs.getD n 0 ≥ 0) <;> rw [hd] at h <;> simp at h
   rw [← h]
  simp [this]
theorem ptO_filter {rs rs' : List Int} {at' : Nat} : ∀ (ns : List Nat), (∀ n ∈ ns, n ≠ at' → rs'.getD n 0 = rs.getD n 0) → (ns.filterMap (ptO rs')).filter (fun p => p.term != (at' : Int)) = (ns.filterMap (ptO rs)).filter (fun p => p.term != (at' : Int))
 | [], _ => rfl
 | n :: ns, h => by
  have ih := ptO_filter ns fun m hm => h m (by simp [hm])
  by_cases hn : n = at'
  ·subst hn
   rw [ptO_head, ptO_head, ih]
  ·have he : ptO rs' n = ptO rs n := by unfold ptO; rw [h n (by simp) hn]
   cases hp : ptO rs n with
   | none => rw [List.filterMap_cons_none hp, List.filterMap_cons_none (he.trans hp)]; exact ih
   | some p => rw [List.filterMap_cons_some hp, List.filterMap_cons_some (he.trans hp)]; simp only [List.filter_cons, ih]
end Go.Vi
open Go Go.Proofs
namespace Go.Vi
theorem a6 {α β : Type} (g : α → Option β) (q : β → Bool) (q' : α → Bool) (h : ∀ a b, g a = some b → q b = q' a) : ∀ l : List α, (l.filterMap g).filter q = (l.filter q').filterMap g
 | [] => rfl
 | a :: l => by
  have ih := a6 g q q' h l
  cases hg : g a with
  | none =>
   rw [List.filterMap_cons_none hg, ih, List.filter_cons]
   cases q' a
   ·rfl
   ·simp only [if_true]; rw [List.filterMap_cons_none hg]
  | some b =>
   rw [List.filterMap_cons_some hg, List.filter_cons, List.filter_cons, h a b hg, ih]
   cases q' a
   ·rfl
   ·simp only [if_true]; rw [List.filterMap_cons_some hg]
theorem range_lt (n m : Nat) (q : Nat → Bool) (hmn : m ≤ n) (hq : ∀ k, k < n → (q k = true ↔ k < m)) : (List.range' 0 n).filter q = List.range' 0 m := by
 have e : List.range' 0 n = List.range' 0 m ++ List.range' m (n - m) := by
  have := List.range'_append_1 (s := 0) (m := m) (n := n - m)
  rw [Nat.zero_add] at this
  rw [this]
  congr 1; omega
 rw [e, List.filter_append]
 have h1 : (List.range' 0 m).filter q = List.range' 0 m := List.filter_eq_self.2 fun k hk => by
  have : k < m := by simpa using hk
  exact (hq k (by omega)).2 this
 have h2 : (List.range' m (n - m)).filter q = [] := List.filter_eq_nil_iff.2 fun k hk => by
  have := List.mem_range'_1.1 hk
  intro hc
  have := (hq k (by omega)).1 hc
  omega
 rw [h1, h2, List.append_nil]
theorem ptsOf_past {w : WorldT} {known st term later n : Int} (h : term ≤ later) : (ptsOf w known st later n).filter (fun p => decide (p.term < term)) = ptsOf w known st term n := by
 unfold ptsOf aL
 have h0 : ptLo 0 = 0 := rfl
 rw [h0, ptIn_eq, ptIn_eq]
 rw [a6 (q' := fun k : Nat => decide ((k : Int) < term))]
 ·congr 1
  simp only [Int.toNat_zero, Int.sub_zero]
  refine range_lt _ _ _ ?_ ?_
  ·unfold ptHi; split <;> split <;> omega
  ·intro k hk
   rw [decide_eq_true_eq]
   unfold ptHi at hk ⊢
   split at hk <;> split <;> omega
 ·intro k p hp
  unfold ptO at hp
  cases hc : decide ((aP 5 st n known w.f).getD k 0 ≥ 0) <;> rw [hc] at hp <;> simp at hp
  subst hp; rfl
theorem attsOf_past {w : WorldT} {known st term later n : Int} (h : term ≤ later) : (bE w known st later n).filter (fun a => decide (a.term < term)) = bE w known st term n := by
 unfold bE
 rw [a6 (q' := fun p => decide (p.term < term)), ptsOf_past h]
 intro p a ha
 unfold attO at ha
 cases hb : attBad p <;> rw [hb] at ha <;> simp at ha
 subst ha; rfl
theorem recRaw_past {w : WorldT} {known st term later : Int} (h : term ≤ later) : (cb w known st later).filter (fun a => decide (a.term < term)) = cb w known st term := by
 unfold cb
 rw [List.filter_flatMap]
 congr 1
 funext n
 exact attsOf_past h
theorem leA_iff (a b : AttT) : leA a b = true ↔ (a.term < b.term ∨ (a.term = b.term ∧ a.course ≤ b.course)) := by
 have h1 : leA a b = true ↔ (ltOf ordA) b a = false := by unfold leA; simp
 rw [h1, ltA_fls]
 omega
theorem leA_trans (a b c : AttT) (h1 : leA a b = true) (h2 : leA b c = true) : leA a c = true := by
 rw [leA_iff] at *; omega
theorem leA_total (a b : AttT) : (leA a b || leA b a) = true := by
 rw [Bool.or_eq_true, leA_iff, leA_iff]; omega
theorem dL {w : WorldT} {known st term : Int} : (eG w known st term).Pairwise fun a b => leA a b = true := List.pairwise_mergeSort leA_trans leA_total _
theorem recA_perm {w : WorldT} {known st term : Int} : (eG w known st term).Perm (cb w known st term) := List.mergeSort_perm _ _
theorem recA_past {w : WorldT} {known st term later : Int} (h : term ≤ later) : (eG w known st later).filter (fun a => decide (a.term < term)) = eG w known st term := by
 refine List.Perm.eq_of_pairwise (le := fun a b => leA a b = true) ?_ ((dL).filter _) dL ?_
 ·intro a b ha hb h1 h2
  rw [leA_iff] at h1 h2
  have ha' : a ∈ cb w known st later := recA_perm.mem_iff.1 (List.mem_filter.1 ha).1
  have hb' : b ∈ cb w known st later := by
   have := recA_perm.mem_iff.1 hb
   rw [← recRaw_past h] at this
   exact (List.mem_filter.1 this).1
  exact rec_diff a ha' b hb' (by omega) (by omega)
 ·have := (recA_perm (w := w) (known := known) (st := st) (term := later)).filter (fun a => decide (a.term < term))
  rw [recRaw_past h] at this
  exact this.trans recA_perm.symm
theorem split_sorted (t : Int) : ∀ l : List AttT, (l.Pairwise fun a b => leA a b = true) → l = l.filter (fun a => decide (a.term < t)) ++ l.filter (fun a => !decide (a.term < t))
 | [], _ => rfl
 | a :: l, h => by
  rw [List.pairwise_cons] at h
  have ih := split_sorted t l h.2
  by_cases ha : a.term < t
  ·simp only [List.filter_cons, ha, decide_true, if_true, Bool.not_true, Bool.false_eq_true, if_false, List.cons_append]
   rw [← ih]
  ·have hno : l.filter (fun a => decide (a.term < t)) = [] := List.filter_eq_nil_iff.2 fun b hb => by
    have := h.1 b hb
    rw [leA_iff] at this
    simp only [decide_eq_true_eq]; omega
   simp only [List.filter_cons, ha, decide_false, Bool.false_eq_true, if_false, Bool.not_false, if_true]
   rw [hno] at ih ⊢
   rw [List.nil_append] at ih ⊢
   rw [← ih]
theorem recA_begin {w : WorldT} {known st term later : Int} (h : term ≤ later) : ∃ rest, eG w known st later = eG w known st term ++ rest ∧ (∀ a ∈ eG w known st term, a.term < term) ∧ ∀ a ∈ rest, term ≤ a.term := by
 refine ⟨(eG w known st later).filter (fun a => !decide (a.term < term)), ?_, ?_, ?_⟩
 ·have := split_sorted term _ (dL (w := w) (known := known) (st := st) (term := later))
  rw [recA_past h] at this
  exact this
 ·intro a ha
  rw [← recA_past h] at ha
  simpa using (List.mem_filter.1 ha).2
 ·intro a ha
  have := (List.mem_filter.1 ha).2
  simp only [Bool.not_eq_true', decide_eq_false_iff_not] at this
  omega
end Go.Vi
open Go Go.Proofs
namespace Go.Vi
theorem attO_term {w : WorldT} {k n : Int} {p : PtT} {a : AttT} (h : attO w k n p = some a) : a.term = p.term ∧ a.course = n ∧ a = attOf w k n p ∧ attBad p = false := by
 unfold attO at h
 cases hb : attBad p <;> rw [hb] at h <;> simp at h
 subst h
 exact ⟨rfl, rfl, rfl, rfl⟩
theorem ptO_term {rs : List Int} {n : Nat} {p : PtT} (h : ptO rs n = some p) : p.term = (n : Int) := by
 unfold ptO at h
 cases hd : decide (rs.getD n 0 ≥ 0) <;> rw [hd] at h <;> simp at h
 rw [← h]
theorem ptO_only (rs : List Int) (m : Nat) : ∀ ns : List Nat, ns.Nodup → (ns.filterMap (ptO rs)).filter (fun p => p.term == (m : Int)) = if m ∈ ns then (ptO rs m).toList else []
 | [], _ => rfl
 | n :: ns, hd => by
  rw [List.nodup_cons] at hd
  have ih := ptO_only rs m ns hd.2
  by_cases hn : m = n
  ·subst hn
   rw [if_neg hd.1] at ih
   cases h : ptO rs m with
   | none => rw [List.filterMap_cons_none h, ih]; simp
   | some p => rw [List.filterMap_cons_some h, List.filter_cons, ih, ptO_term h]; simp
  ·have hm : (m ∈ n :: ns) ↔ m ∈ ns := by simp [hn]
   cases h : ptO rs n with
   | none => rw [List.filterMap_cons_none h, ih]; simp only [hm]
   | some p =>
    rw [List.filterMap_cons_some h, List.filter_cons, ih, ptO_term h]
    have : ((n : Int) == (m : Int)) = false := by simp; omega
    rw [this]
    simp only [hm, Bool.false_eq_true, if_false]
structure Newest (w : WorldT) (g : FactT) (st cr at' k k' : Int) : Prop where
 kk : k < k'
 hl : ∀ f ∈ w.f, f.known ≤ k
 kind : g.kind = 5
 sub : g.sub = st
 obj : g.obj = cr
 hn : g.known = k'
 h0 : 0 ≤ at'
 h1 : at' ≤ 1023
 frm : g.frm = at'
 til : g.til = at' + 1
theorem Newest.key {w : WorldT} {g : FactT} {st cr at' k k' : Int} (h : Newest w g st cr at' k k') (s n : Int) : dM 5 s n g = (decide (s = st) && decide (n = cr)) := by
 unfold dM
 rw [h.kind, h.sub, h.obj]
 have e1 : (st == s) = decide (s = st) := by rw [Bool.eq_iff_iff, beq_iff_eq, decide_eq_true_eq]; exact eq_comm
 have e2 : (cr == n) = decide (n = cr) := by rw [Bool.eq_iff_iff, beq_iff_eq, decide_eq_true_eq]; exact eq_comm
 simp [e1, e2]
theorem range0 (term : Int) : List.range' (ptLo 0).toNat (ptHi term - ptLo 0).toNat = List.range' 0 (ptHi term).toNat := by
 have : ptLo 0 = 0 := rfl
 rw [this]; simp
theorem Newest.pts_rest {w : WorldT} {g : FactT} {st cr at' k k' : Int} (h : Newest w g st cr at' k k') {term : Int} : (ptsOf (w.add g) k' st term cr).filter (fun p => p.term != at') = (ptsOf w k st term cr).filter (fun p => p.term != at') := by
 obtain ⟨m, hm⟩ : ∃ m : Nat, at' = (m : Int) := ⟨at'.toNat, by have := h.h0; omega⟩
 unfold ptsOf aL
 rw [ptIn_eq, ptIn_eq, range0, hm]
 refine ptO_filter _ fun n hn hne => ?_
 have hb := (List.mem_range'_1.1 hn).2
 have hh : ptHi term ≤ 1024 := by unfold ptHi; split <;> omega
 rw [values_self h.kk h.hl (by rw [h.key]; simp) h.hn (by omega)]
 rw [if_neg]
 rw [h.frm, h.til, hm]
 omega
theorem Newest.pts_at {w : WorldT} {g : FactT} {st cr at' k k' : Int} (h : Newest w g st cr at' k k') {term : Int} (hT : term ≤ 1024) : (ptsOf (w.add g) k' st term cr).filter (fun p => p.term == at') = bif decide (at' < term) && decide (g.value ≥ 0) then [⟨at', g.value⟩] else [] := by
 obtain ⟨m, hm⟩ : ∃ m : Nat, at' = (m : Int) := ⟨at'.toNat, by have := h.h0; omega⟩
 have h1 := h.h1
 unfold ptsOf aL
 rw [ptIn_eq, range0, hm, ptO_only _ _ _ (List.nodup_range' ..)]
 have hmem : m ∈ List.range' 0 (ptHi term).toNat ↔ at' < term := by
  rw [List.mem_range'_1]; unfold ptHi; split <;> omega
 have hv : (aP 5 st cr k' (w.add g).f).getD m 0 = maxV g.value := by
  rw [values_self h.kk h.hl (by rw [h.key]; simp) h.hn (by omega), if_pos]
  rw [h.frm, h.til, hm]; omega
 by_cases hlt : at' < term
 ·rw [if_pos (hmem.2 hlt)]
  have hlt' : (m : Int) < term := hm ▸ hlt
  simp only [hlt', decide_true, Bool.true_and]
  unfold ptO
  rw [hv]
  by_cases hg : g.value ≥ 0
  ·have e : maxV g.value = g.value := by unfold maxV; simp; omega
   rw [e]
   simp [hg]
  ·have e : ¬ maxV g.value ≥ 0 := by unfold maxV; simp; split <;> omega
   simp only [e, hg, decide_false, cond_false]; rfl
 ·rw [if_neg (fun hh => hlt (hmem.1 hh))]
  have hlt' : ¬ (m : Int) < term := hm ▸ hlt
  simp [hlt']
theorem Newest.att_rest {w : WorldT} {g : FactT} {st cr at' k k' : Int} (h : Newest w g st cr at' k k') {term : Int} : (bE (w.add g) k' st term cr).filter (fun a => a.term != at') = (bE w k st term cr).filter (fun a => a.term != at') := by
 unfold bE
 rw [a6 (q' := fun p => p.term != at') (h := fun p a ha => by rw [(attO_term ha).1]), a6 (q' := fun p => p.term != at') (h := fun p a ha => by rw [(attO_term ha).1]), h.pts_rest]
 exact c9 fun p _ => attO_add (Int.le_of_lt h.kk) h.hl h.kind p
theorem grade_bad {gr ca : Int} (h1 : 0 ≤ gr) (h2 : gr ≤ 12) (h3 : 0 ≤ ca) (h4 : ca ≤ 6) : Int.tmod (gr + 16 * ca) 16 = gr ∧ IntKind.i64.wrap (Int.tdiv (gr + 16 * ca) 16) = ca := by
 have e1 : Int.tmod (gr + 16 * ca) 16 = (gr + 16 * ca) % 16 := Int.tmod_eq_emod_of_nonneg (by omega)
 have e2 : Int.tdiv (gr + 16 * ca) 16 = (gr + 16 * ca) / 16 := Int.tdiv_eq_ediv_of_nonneg (by omega)
 rw [e1, e2]
 refine ⟨by omega, ?_⟩
 have : (gr + 16 * ca) / 16 = ca := by omega
 rw [this, wrap_i64 (by omega) (by omega)]
theorem Newest.att_at {w : WorldT} {g : FactT} {st cr at' k k' : Int} (h : Newest w g st cr at' k k') {term gr ca : Int} (hT : term ≤ 1024) (hg : -1 ≤ gr) (hg2 : gr ≤ 12) (hc : 0 ≤ ca) (hc2 : ca ≤ 6) (hv : g.value = if gr < 0 then -1 else gr + 16 * ca) :
  ∃ cd, (bE (w.add g) k' st term cr).filter (fun a => a.term == at') = bif decide (at' < term) && decide (gr ≥ 0) then [⟨cr, at', gr, ca, cd⟩] else [] := by
 unfold bE
 rw [a6 (q' := fun p => p.term == at') (h := fun p a ha => by rw [(attO_term ha).1]), h.pts_at hT]
 by_cases hlt : at' < term
 ·by_cases hgr : gr ≥ 0
  ·have hv' : g.value = gr + 16 * ca := by rw [hv, if_neg (by omega)]
   obtain ⟨e1, e2⟩ := grade_bad hgr hg2 hc hc2
   have hb : attBad ⟨at', gr + 16 * ca⟩ = false := by
    unfold attBad
    rw [e1, e2]
    simp; omega
   refine ⟨(ac (w.add g) cr at' k').1.credits, ?_⟩
   have hge : gr + 16 * ca ≥ 0 := by omega
   rw [hv']
   simp only [hlt, hgr, hge, decide_true, Bool.and_true, cond_true]
   rw [List.filterMap_cons_some (b := ⟨cr, at', gr, ca, (ac (w.add g) cr at' k').1.credits⟩), List.filterMap_nil]
   unfold attO
   rw [hb]
   simp only [cond_false, attOf, e1, e2]
  ·have hv' : g.value = -1 := by rw [hv, if_pos (by omega)]
   refine ⟨0, ?_⟩
   rw [hv']
   simp [hgr]
 ·refine ⟨0, ?_⟩
  simp [hlt]
end Go.Vi
open Go Go.Proofs
namespace Go.Vi
set_option maxRecDepth 100000
set_option maxHeartbeats 4000000
def aG (w : WorldT) : Bool := decide ((w.f.map FactT.row).length ≤ (30 : Int)) && decide ((w.c.map CourseT.row).length ≤ (20 : Int)) && decide (w.p.length ≤ (8 : Int)) && decide ((w.s.map SysT.row).length ≤ (6 : Int))
theorem bl {w : WorldT} (h : List Blk) : (Ev Tryz.prog Γ0 18 [.agg w.l] h (bool (aG w)) h) := by
 exact Ev.castH (Ev.sym0 (d := bool (decide ((↑(List.length (List.map FactT.row w.f)) : Int) ≤ 30) && decide ((↑(List.length (List.map CourseT.row w.c)) : Int) ≤ 20) && decide ((↑(List.length w.p) : Int) ≤ 8) && decide ((↑(List.length (List.map SysT.row w.s)) : Int) ≤ 6))) pok [] (by kernel_rfl) .n rfl rfl h) (by rfl) (by rfl)
def attNe (a b : AttT) : Bool := !(a.course == b.course && (a.term == b.term && (a.grade == b.grade && (a.campus == b.campus && (a.credits == b.credits && true)))))
abbrev smS (l l2 : List (List Dp)) (i : Int) : AS := { t := mkT 26 0 [(0, ab l), (1, ab l2), (4, bool false), (5, int i)], h := [], m := [] }
abbrev smX : Unit → Exit × AS := fun _ => (.ret, { t := mkT 26 0 [(4, bool false)], h := [], m := [] })
def smF (p : AttT × AttT) (_ : Unit) : Unit ⊕ Unit := bif attNe p.1 p.2 then .inr () else .inl ()
theorem sm_body {l l2 : List (List Dp)} {a b : AttT} {i : Nat} (hr : bw (i : Int) l a.row 5) (hr2 : bw (i : Int) l2 b.row 5) (hlt : decide ((i : Int) < (l.length : Int)) = true) (hw : IntKind.i64.wrap ((i : Int) + 1) = ((i + 1 : Nat) : Int)) : (CW Tryz.prog Γ0 [] false (sub Tryz.f24 0) (smS l l2 i) (ae (fun _ => smS l l2 ((i + 1 : Nat) : Int)) smX (smF (a, b) ())).1 (ae (fun _ => smS l l2 ((i + 1 : Nat) : Int)) smX (smF (a, b) ())).2) := by
 cases hc0 : !(a.course == b.course && (a.term == b.term && (a.grade == b.grade && (a.campus == b.campus && (a.credits == b.credits && true)))))
 ·refine CW.cast (CW.symX (s' := { t := mkT 26 0 [(0, ab l), (1, ab l2), (4, bool false), (5, int (IntKind.wrap IntKind.i64 ((↑i : Int) + 1)))], h := [], m := [] }) (e := Exit.normal) pok [.st (.mask [0, 1, 4, 5])] [.b true, .row (AttT.row a), .row (AttT.row b), .b false] (by kernel_rfl) (.c hlt (.c hr (.c hr2 (.c hc0 .n))))) ?_ ?_ <;> (first | (have hh : attNe a b = true := hc0; simp only [smF, hh, cond_true, ae]; first | done | rfl) | (have hh : attNe a b = false := hc0; simp only [smF, hh, cond_false, ae, hw]; first | done | rfl))
 ·refine CW.cast (CW.symX (s' := { t := mkT 26 0 [(4, bool false)], h := [], m := [] }) (e := Exit.ret) pok [.st (.mask [4])] [.b true, .row (AttT.row a), .row (AttT.row b), .b true] (by kernel_rfl) (.c hlt (.c hr (.c hr2 (.c hc0 .n))))) ?_ ?_ <;> (first | (have hh : attNe a b = true := hc0; simp only [smF, hh, cond_true, ae]; first | done | rfl) | (have hh : attNe a b = false := hc0; simp only [smF, hh, cond_false, ae, hw]; first | done | rfl))
theorem sm_last {l l2 : List (List Dp)} {i : Nat} (hlt : decide ((i : Int) < (l.length : Int)) = false) : (CW Tryz.prog Γ0 [] false (sub Tryz.f24 0) (smS l l2 i) (.exit 0) { t := mkT 26 0 [], h := [], m := [] }) := by
 exact CW.cast (CW.symX (s' := { t := mkT 26 0 [], h := [], m := [] }) (e := Exit.exit 0) pok [.st (.mask [])] [.b false] (by kernel_rfl) (.c hlt .n)) (by rfl) (by rfl)
def smFin (l l2 : List AttT) : Exit × AS := cw (.exit 0) (fun _ : Unit => { t := mkT 26 0 [], h := [], m := [] }) smX (forL smF (l.zip l2) ())
theorem sm_cw {l l2 : List AttT} (he : l.length = l2.length) (hl : ao l) :
  CW Tryz.prog Γ0 [] false (.loop (sub Tryz.f24 0)) (smS (l.map AttT.row) (l2.map AttT.row) 0) (smFin l l2).1 (smFin l l2).2 := by
 have hlen : (l.zip l2).length = l.length := by simp [he]
 have := CW.each (P := Tryz.prog) (Γ := Γ0) (h0 := []) (rd := false) (c := sub Tryz.f24 0) (l.zip l2) smF (fun i _ => smS (l.map AttT.row) (l2.map AttT.row) (i : Int)) (.exit 0) (fun _ : Unit => { t := mkT 26 0 [], h := [], m := [] }) smX (fun _ _ => True) (by simp) (fun _ => by simp) ?_ ?_ () trivial
 ·exact this
 ·intro i p u hp _
  obtain ⟨hi, hpe⟩ := List.getElem?_eq_some_iff.1 hp
  rw [hlen] at hi
  have h1 : l[i]? = some p.1 := by subst hpe; simp [List.getElem?_eq_getElem hi]
  have h2 : l2[i]? = some p.2 := by subst hpe; simp [List.getElem?_eq_getElem (he ▸ hi)]
  exact ⟨fun _ _ => trivial, sm_body (rowAt h1 rfl) (rowAt h2 rfl) (lt_len AttT.row hi) (wrap_succ hi hl)⟩
 ·intro u _
  rw [hlen]
  exact sm_last (fa AttT.row l)
def sameIn (l l2 : List AttT) : Bool := match forL smF (l.zip l2) () with
 | .inl _ => true
 | .inr _ => false
theorem same_in {l l2 : List AttT} (he : l.length = l2.length) (hl : ao l) (hn : (((l.map AttT.row).length : Int) != ((l2.map AttT.row).length : Int)) = false) (h : List Blk) : (Ev Tryz.prog Γ0 24 [ab (l.map AttT.row), ab (l2.map AttT.row)] h (bool (sameIn l l2)) h) := by
 have hl0 := (@sm_cw (l) (l2) (he) (hl))
 unfold smFin at hl0
 revert hl0
 cases ho1 : forL smF (List.zip l l2) () with
 | inl o1_0_0 =>
  intro hl0
  exact Ev.castH (Ev.sym0 (d := bool true) pok [.b false, .sum [0, 1, 4, 5] (Exit.exit 0) { t := mkT 26 0 [], h := [], m := [] }] (by kernel_rfl) (.c hn (.c hl0 .n)) rfl rfl h) (by simp only [sameIn, ho1]; first | done | rfl) (by rfl)
 | inr o1_1_0 =>
  intro hl0
  exact Ev.castH (Ev.sym0 (d := bool false) pok [.b false, .sum [0, 1, 4, 5] (Exit.ret) { t := mkT 26 0 [(4, bool false)], h := [], m := [] }] (by kernel_rfl) (.c hn (.c hl0 .n)) rfl rfl h) (by simp only [sameIn, ho1]; first | done | rfl) (by rfl)
theorem sameIn_self (l : List AttT) : sameIn l l = true := by
 have key : ∀ l : List AttT, forL smF (l.zip l) () = .inl () := by
  intro l
  induction l with
  | nil => rfl
  | cons a l ih =>
   have : attNe a a = false := by simp [attNe]
   simp only [List.zip_cons_cons, forL, smF, this, cond_false]
   exact ih
 simp [sameIn, key]
theorem same_self {l l2 : List AttT} (he : l = l2) (hl : ao l) (h : List Blk) : Ev Tryz.prog Γ0 24 [ab (l.map AttT.row), ab (l2.map AttT.row)] h (bool true) h := by
 subst he
 have := same_in (l := l) (l2 := l) rfl hl (by simp) h
 rwa [sameIn_self] at this
theorem same_self_rows {l : List AttT} {rs : List (List Dp)} (he : rs = l.map AttT.row) (hl : ao l) (h : List Blk) : Ev Tryz.prog Γ0 24 [ab (l.map AttT.row), ab rs] h (bool true) h := by
 subst he
 exact same_self rfl hl h
end Go.Vi
open Go Go.Proofs
namespace Go.Vi
set_option maxRecDepth 100000
set_option maxHeartbeats 4000000
def away (cr at' : Int) (x : AttT) : Bool := x.course != cr || x.term != at'
abbrev wB (w : WorldT) (l : List FactT) : Blk := .var [ab (w.c.map CourseT.row), ab w.p, ab (w.s.map SysT.row), ab (l.map FactT.row)]
abbrev rB (st : Int) (l : List AttT) : Blk := .var [int st, ab (l.map AttT.row)]
abbrev adH (w : WorldT) (g : FactT) (sa sb sc sd : Int) (a b c d rest : List AttT) : List Blk := [wB w w.f, .var [int g.kind, int g.sub, int g.obj, int g.value, int g.frm, int g.til, int g.known, int g.no], wB w (w.f ++ [g]), rB sa a, rB sb b, rB sc c, rB sd d, .vec (am (rest.map AttT.row)) 0 5]
abbrev raS (w : WorldT) (g : FactT) (sa sb sc sd : Int) (a b c d : List AttT) (cr at' gr ca term last : Int) (i : Int) (rest : List AttT) : AS :=
 { t := mkT 269 0 [(3, int cr), (4, int at'), (5, int gr), (6, int ca), (7, int term), (18, bool false), (19, int last), (23, .ref (.ptr 2 0)), (25, .ref (.ptr 3 0)), (28, .ref (.ptr 4 0)), (37, .ref (.vec 7 0)), (38, nq), (39, int i)], h := adH w g sa sb sc sd a b c d rest, m := [] }
abbrev raE (w : WorldT) (g : FactT) (sa sb sc sd : Int) (a b c d : List AttT) (cr at' gr ca term last : Int) (rest : List AttT) : AS :=
 { t := mkT 269 0 [(3, int cr), (4, int at'), (5, int gr), (6, int ca), (7, int term), (18, bool false), (19, int last), (23, .ref (.ptr 2 0)), (28, .ref (.ptr 4 0)), (37, .ref (.vec 7 0)), (38, nq)], h := adH w g sa sb sc sd a b c d rest, m := [] }
def raF (cr at' : Int) (x : AttT) (s : List AttT) : List AttT := bif away cr at' x then s ++ [x] else s
theorem ra_body {w : WorldT} {g : FactT} {sa sb sc sd : Int} {a b c d : List AttT} {cr at' gr ca term last : Int} {i : Nat} {rest : List AttT} {x : AttT} (hr : bw (i : Int) (a.map AttT.row) x.row 5) (hlt : decide ((i : Int) < ((a.map AttT.row).length : Int)) = true) (hw : IntKind.i64.wrap ((i : Int) + 1) = ((i + 1 : Nat) : Int)) (hb : rest.length ≤ 999998000) : (CW Tryz.prog Γk [] false (sub Tryz.f6 0) (raS w g sa sb sc sd a b c d cr at' gr ca term last i rest) .normal (raS w g sa sb sc sd a b c d cr at' gr ca term last ((i + 1 : Nat) : Int) (raF cr at' x rest))) := by
 cases hc0 : x.course != cr || x.term != at'
 ·refine CW.cast (CW.symX (s' := { t := mkT 269 0 [(3, int cr), (4, int at'), (5, int gr), (6, int ca), (7, int term), (18, bool false), (19, int last), (23, .ref (.ptr 2 0)), (25, .ref (.ptr 3 0)), (28, .ref (.ptr 4 0)), (37, .ref (.vec 7 0)), (38, nq), (39, int (IntKind.wrap IntKind.i64 ((↑i : Int) + 1)))], h := [.var [ab (List.map CourseT.row w.c), ab w.p, ab (List.map SysT.row w.s), ab (List.map FactT.row w.f)], .var [int g.kind, int g.sub, int g.obj, int g.value, int g.frm, int g.til, int g.known, int g.no], .var [ab (List.map CourseT.row w.c), ab w.p, ab (List.map SysT.row w.s), ab (List.map FactT.row (w.f ++ [g]))], .var [int sa, ab (List.map AttT.row a)], .var [int sb, ab (List.map AttT.row b)], .var [int sc, ab (List.map AttT.row c)], .var [int sd, ab (List.map AttT.row d)], .vec (am (List.map AttT.row rest)) 0 5], m := [] }) (e := Exit.normal) pok [.st (.mask [3, 4, 5, 6, 7, 18, 19, 23, 25, 28, 37, 38, 39]), .st (.trimV 8), .st (.ren 7 0)] [.b true, .row (AttT.row x), .row (AttT.row x), .b false] (by kernel_rfl) (.c hlt (.c hr (.c (show (!x.course != cr) = true → bw (↑i : Int) (List.map AttT.row a) (AttT.row x) 5 from (fun hg => hr)) (.c hc0 (.c (show Blk.inn 8 (.var (WorldT.l w)) = true from rfl) (.c (show Blk.inn 8 (.var [int g.kind, int g.sub, int g.obj, int g.value, int g.frm, int g.til, int g.known, int g.no]) = true from rfl) (.c (show Blk.inn 8 (.var [ab (List.map CourseT.row w.c), ab w.p, ab (List.map SysT.row w.s), ab (List.map FactT.row (w.f ++ [g]))]) = true from rfl) (.c (show Blk.inn 8 (.var [int sa, ab (List.map AttT.row a)]) = true from rfl) (.c (show Blk.inn 8 (.var [int sb, ab (List.map AttT.row b)]) = true from rfl) (.c (show Blk.inn 8 (.var [int sc, ab (List.map AttT.row c)]) = true from rfl) (.c (show Blk.inn 8 (.var [int sd, ab (List.map AttT.row d)]) = true from rfl) (.c (show Blk.inn 8 (.vec (am (List.map AttT.row rest)) 0 5) = true from (by first | assumption | rfl | omega | exact ah _ _ | exact af | (rw [aA]; exact ah _ _) | (rw [aA]; exact af) | (simp [bh, D.one, Value.oneCell', roomOk]; omega))) (.c (show List.map (D.mapRL (bX 7 0 0)) (am (List.map AttT.row rest)) = am (List.map AttT.row rest) from (by first | assumption | rfl | omega | exact ah _ _ | exact af | (rw [aA]; exact ah _ _) | (rw [aA]; exact af) | (simp [bh, D.one, Value.oneCell', roomOk]; omega))) .n)))))))))))))) ?_ ?_ <;> (first | rfl | (have hh : away cr at' x = true := hc0; simp only [hw, raF, hh, cond_true, aA]; first | done | rfl) | (have hh : away cr at' x = false := hc0; simp only [hw, raF, hh, cond_false]; first | done | rfl))
 ·refine CW.cast (CW.symX (s' := { t := mkT 269 0 [(3, int cr), (4, int at'), (5, int gr), (6, int ca), (7, int term), (18, bool false), (19, int last), (23, .ref (.ptr 2 0)), (25, .ref (.ptr 3 0)), (28, .ref (.ptr 4 0)), (37, .ref (.vec 7 0)), (38, nq), (39, int (IntKind.wrap IntKind.i64 ((↑i : Int) + 1)))], h := [.var [ab (List.map CourseT.row w.c), ab w.p, ab (List.map SysT.row w.s), ab (List.map FactT.row w.f)], .var [int g.kind, int g.sub, int g.obj, int g.value, int g.frm, int g.til, int g.known, int g.no], .var [ab (List.map CourseT.row w.c), ab w.p, ab (List.map SysT.row w.s), ab (List.map FactT.row (w.f ++ [g]))], .var [int sa, ab (List.map AttT.row a)], .var [int sb, ab (List.map AttT.row b)], .var [int sc, ab (List.map AttT.row c)], .var [int sd, ab (List.map AttT.row d)], .vec (am (List.map AttT.row rest) ++ [[int x.course, int x.term, int x.grade, int x.campus, int x.credits]]) 0 5], m := [] }) (e := Exit.normal) pok [.st (.mask [3, 4, 5, 6, 7, 18, 19, 23, 25, 28, 37, 38, 39]), .st (.trimV 8), .st (.ren 7 0)] [.b true, .row (AttT.row x), .row (AttT.row x), .b true, .row (AttT.row x)] (by kernel_rfl) (.c hlt (.c hr (.c (show (!x.course != cr) = true → bw (↑i : Int) (List.map AttT.row a) (AttT.row x) 5 from (fun hg => hr)) (.c hc0 (.c hr (.c (show (List.all [[int x.course, int x.term, int x.grade, int x.campus, int x.credits]] (bh 5) && roomOk (List.length (am (List.map AttT.row rest)) + List.length [[int x.course, int x.term, int x.grade, int x.campus, int x.credits]]) 40) = true from ?_) (.c (show Blk.inn 8 (.var (WorldT.l w)) = true from rfl) (.c (show Blk.inn 8 (.var [int g.kind, int g.sub, int g.obj, int g.value, int g.frm, int g.til, int g.known, int g.no]) = true from rfl) (.c (show Blk.inn 8 (.var [ab (List.map CourseT.row w.c), ab w.p, ab (List.map SysT.row w.s), ab (List.map FactT.row (w.f ++ [g]))]) = true from rfl) (.c (show Blk.inn 8 (.var [int sa, ab (List.map AttT.row a)]) = true from rfl) (.c (show Blk.inn 8 (.var [int sb, ab (List.map AttT.row b)]) = true from rfl) (.c (show Blk.inn 8 (.var [int sc, ab (List.map AttT.row c)]) = true from rfl) (.c (show Blk.inn 8 (.var [int sd, ab (List.map AttT.row d)]) = true from rfl) (.c (show Blk.inn 8 (.vec (am (List.map AttT.row rest) ++ [[int x.course, int x.term, int x.grade, int x.campus, int x.credits]]) 1 5) = true from ?_) (.c (show List.map (D.mapRL (bX 7 1 0)) (am (List.map AttT.row rest) ++ [[int x.course, int x.term, int x.grade, int x.campus, int x.credits]]) = am (List.map AttT.row rest) ++ [[int x.course, int x.term, int x.grade, int x.campus, int x.credits]] from ?_) .n)))))))))))))))) (by first | rfl | (have hh : away cr at' x = true := hc0; simp only [hw, raF, hh, cond_true, aA]; first | done | rfl) | (have hh : away cr at' x = false := hc0; simp only [hw, raF, hh, cond_false]; first | done | rfl)) (by first | rfl | (have hh : away cr at' x = true := hc0; simp only [hw, raF, hh, cond_true, aA]; first | done | rfl) | (have hh : away cr at' x = false := hc0; simp only [hw, raF, hh, cond_false]; first | done | rfl)) <;> (first | assumption | rfl | omega | exact ah _ _ | exact af | (rw [aA]; exact ah _ _) | (rw [aA]; exact af) | (simp [bh, D.one, Value.oneCell', roomOk]; omega))
theorem ra_last {w : WorldT} {g : FactT} {sa sb sc sd : Int} {a b c d : List AttT} {cr at' gr ca term last : Int} {i : Nat} {rest : List AttT} (hlt : decide ((i : Int) < ((a.map AttT.row).length : Int)) = false) : (CW Tryz.prog Γk [] false (sub Tryz.f6 0) (raS w g sa sb sc sd a b c d cr at' gr ca term last i rest) (.exit 0) (raE w g sa sb sc sd a b c d cr at' gr ca term last rest)) := by
 exact CW.cast (CW.symX (s' := { t := mkT 269 0 [(3, int cr), (4, int at'), (5, int gr), (6, int ca), (7, int term), (18, bool false), (19, int last), (23, .ref (.ptr 2 0)), (28, .ref (.ptr 4 0)), (37, .ref (.vec 7 0)), (38, nq)], h := [.var [ab (List.map CourseT.row w.c), ab w.p, ab (List.map SysT.row w.s), ab (List.map FactT.row w.f)], .var [int g.kind, int g.sub, int g.obj, int g.value, int g.frm, int g.til, int g.known, int g.no], .var [ab (List.map CourseT.row w.c), ab w.p, ab (List.map SysT.row w.s), ab (List.map FactT.row (w.f ++ [g]))], .var [int sa, ab (List.map AttT.row a)], .var [int sb, ab (List.map AttT.row b)], .var [int sc, ab (List.map AttT.row c)], .var [int sd, ab (List.map AttT.row d)], .vec (am (List.map AttT.row rest)) 0 5], m := [] }) (e := Exit.exit 0) pok [.st (.mask [3, 4, 5, 6, 7, 18, 19, 23, 28, 37, 38])] [.b false] (by kernel_rfl) (.c hlt .n)) (by rfl) (by rfl)
theorem raFold (cr at' : Int) : ∀ (l s : List AttT), l.foldl (fun s x => raF cr at' x s) s = s ++ l.filter (away cr at')
 | [], s => by simp
 | x :: l, s => by
  rw [List.foldl_cons, raFold cr at' l]
  unfold raF
  cases h : away cr at' x <;> simp [h]
theorem ra_cw {w : WorldT} {g : FactT} {sa sb sc sd : Int} {a b c d : List AttT} {cr at' gr ca term last : Int} (hl : a.length ≤ 900000000) :
  CW Tryz.prog Γk [] false (.loop (sub Tryz.f6 0)) (raS w g sa sb sc sd a b c d cr at' gr ca term last 0 []) (.exit 0) (raE w g sa sb sc sd a b c d cr at' gr ca term last (a.filter (away cr at'))) := by
 have hs : ao a := by unfold ao; omega
 have := CW.each (P := Tryz.prog) (Γ := Γk) (h0 := []) (rd := false) (c := sub Tryz.f6 0) (σ := List AttT) (ρ := Empty) a (fun x s => .inl (raF cr at' x s))
  (fun i s => raS w g sa sb sc sd a b c d cr at' gr ca term last (i : Int) s) (.exit 0) (fun s => raE w g sa sb sc sd a b c d cr at' gr ca term last s) (fun r => r.elim)
  (fun i s => s.length ≤ i) (by simp) (fun r => r.elim) ?_ ?_ [] (by simp)
 ·rw [br] at this
  have e := raFold cr at' a []
  rw [List.nil_append] at e
  simp only [cw, e] at this
  exact this
 ·intro i x s hx hv
  have hi := (List.getElem?_eq_some_iff.1 hx).1
  refine ⟨fun s' h => ?_, ra_body (rowAt hx rfl) (lt_len _ hi) (wrap_succ hi hs) (by omega)⟩
  cases h
  unfold raF
  cases away cr at' x <;> simp <;> omega
 ·intro s _
  exact ra_last (fa _ a)
abbrev kaH (w : WorldT) (g : FactT) (sa sb sc sd : Int) (a b c d kept : List AttT) : List Blk := [wB w w.f, .var [int g.kind, int g.sub, int g.obj, int g.value, int g.frm, int g.til, int g.known, int g.no], wB w (w.f ++ [g]), rB sa a, rB sb b, rB sc c, rB sd d, .vec (am (kept.map AttT.row)) 0 5]
abbrev kaS (w : WorldT) (g : FactT) (sa sb sc sd : Int) (a b c d rest : List AttT) (cr at' gr ca term last : Int) (i m : Int) (kept : List AttT) : AS :=
 { t := mkT 269 0 [(3, int cr), (4, int at'), (5, int gr), (6, int ca), (7, int term), (18, bool false), (19, int last), (23, .ref (.ptr 2 0)), (28, .ref (.ptr 4 0)), (37, ab (rest.map AttT.row)), (38, .ref (.vec 7 0)), (40, int m), (41, int i)], h := kaH w g sa sb sc sd a b c d kept, m := [] }
abbrev kaE (w : WorldT) (g : FactT) (sa sb sc sd : Int) (a b c d rest : List AttT) (cr at' gr ca term last : Int) (m : Int) (kept : List AttT) : AS :=
 { t := mkT 269 0 [(3, int cr), (4, int at'), (5, int gr), (7, int term), (18, bool false), (19, int last), (23, .ref (.ptr 2 0)), (37, ab (rest.map AttT.row)), (38, .ref (.vec 7 0)), (40, int m)], h := kaH w g sa sb sc sd a b c d kept, m := [] }
def kaF (cr at' : Int) (x : AttT) (s : List AttT × Nat) : List AttT × Nat := bif away cr at' x then (s.1 ++ [x], s.2) else (s.1, s.2 + 1)
theorem ka_body {w : WorldT} {g : FactT} {sa sb sc sd : Int} {a b c d rest : List AttT} {cr at' gr ca term last : Int} {i m : Nat} {kept : List AttT} {x : AttT} (hr : bw (i : Int) (b.map AttT.row) x.row 5) (hlt : decide ((i : Int) < ((b.map AttT.row).length : Int)) = true) (hw : IntKind.i64.wrap ((i : Int) + 1) = ((i + 1 : Nat) : Int)) (hm : IntKind.i64.wrap ((m : Int) + 1) = ((m + 1 : Nat) : Int)) (hb : kept.length ≤ 999998000) (hg : away cr at' x = false → (x.grade != gr || x.campus != ca) = false) : (CW Tryz.prog Γk [] false (sub Tryz.f6 1) (kaS w g sa sb sc sd a b c d rest cr at' gr ca term last i m kept) .normal (kaS w g sa sb sc sd a b c d rest cr at' gr ca term last ((i + 1 : Nat) : Int) (kaF cr at' x (kept, m)).2 (kaF cr at' x (kept, m)).1)) := by
 cases hc0 : x.course != cr || x.term != at'
 ·cases hc1 : x.grade != gr || x.campus != ca
  ·refine CW.cast (CW.symX (s' := { t := mkT 269 0 [(3, int cr), (4, int at'), (5, int gr), (6, int ca), (7, int term), (18, bool false), (19, int last), (23, .ref (.ptr 2 0)), (28, .ref (.ptr 4 0)), (37, ab (List.map AttT.row rest)), (38, .ref (.vec 7 0)), (40, int (IntKind.wrap IntKind.i64 ((↑m : Int) + 1))), (41, int (IntKind.wrap IntKind.i64 ((↑i : Int) + 1)))], h := [.var [ab (List.map CourseT.row w.c), ab w.p, ab (List.map SysT.row w.s), ab (List.map FactT.row w.f)], .var [int g.kind, int g.sub, int g.obj, int g.value, int g.frm, int g.til, int g.known, int g.no], .var [ab (List.map CourseT.row w.c), ab w.p, ab (List.map SysT.row w.s), ab (List.map FactT.row (w.f ++ [g]))], .var [int sa, ab (List.map AttT.row a)], .var [int sb, ab (List.map AttT.row b)], .var [int sc, ab (List.map AttT.row c)], .var [int sd, ab (List.map AttT.row d)], .vec (am (List.map AttT.row kept)) 0 5], m := [] }) (e := Exit.normal) pok [.st (.mask [3, 4, 5, 6, 7, 18, 19, 23, 28, 37, 38, 40, 41]), .st (.trimV 8), .st (.ren 7 0)] [.b true, .row (AttT.row x), .b false, .b false] (by kernel_rfl) (.c hlt (.c hr (.c hc0 (.c hc1 (.c (show Blk.inn 8 (.var (WorldT.l w)) = true from rfl) (.c (show Blk.inn 8 (.var [int g.kind, int g.sub, int g.obj, int g.value, int g.frm, int g.til, int g.known, int g.no]) = true from rfl) (.c (show Blk.inn 8 (.var [ab (List.map CourseT.row w.c), ab w.p, ab (List.map SysT.row w.s), ab (List.map FactT.row (w.f ++ [g]))]) = true from rfl) (.c (show Blk.inn 8 (.var [int sa, ab (List.map AttT.row a)]) = true from rfl) (.c (show Blk.inn 8 (.var [int sb, ab (List.map AttT.row b)]) = true from rfl) (.c (show Blk.inn 8 (.var [int sc, ab (List.map AttT.row c)]) = true from rfl) (.c (show Blk.inn 8 (.var [int sd, ab (List.map AttT.row d)]) = true from rfl) (.c (show Blk.inn 8 (.vec (am (List.map AttT.row kept)) 0 5) = true from (by first | assumption | rfl | omega | exact hg (by assumption) | exact ah _ _ | exact af | (rw [aA]; exact ah _ _) | (rw [aA]; exact af) | (simp [bh, D.one, Value.oneCell', roomOk]; omega))) (.c (show List.map (D.mapRL (bX 7 0 0)) (am (List.map AttT.row kept)) = am (List.map AttT.row kept) from (by first | assumption | rfl | omega | exact hg (by assumption) | exact ah _ _ | exact af | (rw [aA]; exact ah _ _) | (rw [aA]; exact af) | (simp [bh, D.one, Value.oneCell', roomOk]; omega))) .n)))))))))))))) ?_ ?_ <;> (first | rfl | (have hh : away cr at' x = true := hc0; simp only [hw, kaF, hh, cond_true, aA]; first | done | rfl) | (have hh : away cr at' x = false := hc0; simp only [hw, hm, kaF, hh, cond_false]; first | done | rfl) | (exfalso; have hh := hg hc0; rw [hc1] at hh; exact Bool.noConfusion hh))
  ·refine CW.cast (CW.symX (s' := { t := mkT 269 0 [(3, int cr), (4, int at'), (5, int gr), (6, int ca), (7, int term), (18, bool false), (19, int last), (23, .ref (.ptr 2 0)), (28, .ref (.ptr 4 0)), (37, ab (List.map AttT.row rest)), (38, .ref (.vec 7 0)), (40, int (IntKind.wrap IntKind.i64 ((↑m : Int) + 1))), (41, int (↑i : Int))], h := [.var [ab (List.map CourseT.row w.c), ab w.p, ab (List.map SysT.row w.s), ab (List.map FactT.row w.f)], .var [int g.kind, int g.sub, int g.obj, int g.value, int g.frm, int g.til, int g.known, int g.no], .var [ab (List.map CourseT.row w.c), ab w.p, ab (List.map SysT.row w.s), ab (List.map FactT.row (w.f ++ [g]))], .var [int sa, ab (List.map AttT.row a)], .var [int sb, ab (List.map AttT.row b)], .var [int sc, ab (List.map AttT.row c)], .var [int sd, ab (List.map AttT.row d)], .vec (am (List.map AttT.row kept)) 0 5], m := [] }) (e := Exit.ret) pok [.st (.mask [3, 4, 5, 6, 7, 18, 19, 23, 28, 37, 38, 40, 41]), .st (.trimV 8), .st (.ren 7 0)] [.b true, .row (AttT.row x), .b false, .b true] (by kernel_rfl) (.c hlt (.c hr (.c hc0 (.c hc1 (.c (show Blk.inn 8 (.var (WorldT.l w)) = true from rfl) (.c (show Blk.inn 8 (.var [int g.kind, int g.sub, int g.obj, int g.value, int g.frm, int g.til, int g.known, int g.no]) = true from rfl) (.c (show Blk.inn 8 (.var [ab (List.map CourseT.row w.c), ab w.p, ab (List.map SysT.row w.s), ab (List.map FactT.row (w.f ++ [g]))]) = true from rfl) (.c (show Blk.inn 8 (.var [int sa, ab (List.map AttT.row a)]) = true from rfl) (.c (show Blk.inn 8 (.var [int sb, ab (List.map AttT.row b)]) = true from rfl) (.c (show Blk.inn 8 (.var [int sc, ab (List.map AttT.row c)]) = true from rfl) (.c (show Blk.inn 8 (.var [int sd, ab (List.map AttT.row d)]) = true from rfl) (.c (show Blk.inn 8 (.vec (am (List.map AttT.row kept)) 0 5) = true from (by first | assumption | rfl | omega | exact hg (by assumption) | exact ah _ _ | exact af | (rw [aA]; exact ah _ _) | (rw [aA]; exact af) | (simp [bh, D.one, Value.oneCell', roomOk]; omega))) (.c (show List.map (D.mapRL (bX 7 0 0)) (am (List.map AttT.row kept)) = am (List.map AttT.row kept) from (by first | assumption | rfl | omega | exact hg (by assumption) | exact ah _ _ | exact af | (rw [aA]; exact ah _ _) | (rw [aA]; exact af) | (simp [bh, D.one, Value.oneCell', roomOk]; omega))) .n)))))))))))))) ?_ ?_ <;> (first | rfl | (have hh : away cr at' x = true := hc0; simp only [hw, kaF, hh, cond_true, aA]; first | done | rfl) | (have hh : away cr at' x = false := hc0; simp only [hw, hm, kaF, hh, cond_false]; first | done | rfl) | (exfalso; have hh := hg hc0; rw [hc1] at hh; exact Bool.noConfusion hh))
 ·refine CW.cast (CW.symX (s' := { t := mkT 269 0 [(3, int cr), (4, int at'), (5, int gr), (6, int ca), (7, int term), (18, bool false), (19, int last), (23, .ref (.ptr 2 0)), (28, .ref (.ptr 4 0)), (37, ab (List.map AttT.row rest)), (38, .ref (.vec 7 0)), (40, int (↑m : Int)), (41, int (IntKind.wrap IntKind.i64 ((↑i : Int) + 1)))], h := [.var [ab (List.map CourseT.row w.c), ab w.p, ab (List.map SysT.row w.s), ab (List.map FactT.row w.f)], .var [int g.kind, int g.sub, int g.obj, int g.value, int g.frm, int g.til, int g.known, int g.no], .var [ab (List.map CourseT.row w.c), ab w.p, ab (List.map SysT.row w.s), ab (List.map FactT.row (w.f ++ [g]))], .var [int sa, ab (List.map AttT.row a)], .var [int sb, ab (List.map AttT.row b)], .var [int sc, ab (List.map AttT.row c)], .var [int sd, ab (List.map AttT.row d)], .vec (am (List.map AttT.row kept) ++ [[int x.course, int x.term, int x.grade, int x.campus, int x.credits]]) 0 5], m := [] }) (e := Exit.normal) pok [.st (.mask [3, 4, 5, 6, 7, 18, 19, 23, 28, 37, 38, 40, 41]), .st (.trimV 8), .st (.ren 7 0)] [.b true, .row (AttT.row x), .b true] (by kernel_rfl) (.c hlt (.c hr (.c hc0 (.c (show (List.all [[int x.course, int x.term, int x.grade, int x.campus, int x.credits]] (bh 5) && roomOk (List.length (am (List.map AttT.row kept)) + List.length [[int x.course, int x.term, int x.grade, int x.campus, int x.credits]]) 40) = true from ?_) (.c (show Blk.inn 8 (.var (WorldT.l w)) = true from rfl) (.c (show Blk.inn 8 (.var [int g.kind, int g.sub, int g.obj, int g.value, int g.frm, int g.til, int g.known, int g.no]) = true from rfl) (.c (show Blk.inn 8 (.var [ab (List.map CourseT.row w.c), ab w.p, ab (List.map SysT.row w.s), ab (List.map FactT.row (w.f ++ [g]))]) = true from rfl) (.c (show Blk.inn 8 (.var [int sa, ab (List.map AttT.row a)]) = true from rfl) (.c (show Blk.inn 8 (.var [int sb, ab (List.map AttT.row b)]) = true from rfl) (.c (show Blk.inn 8 (.var [int sc, ab (List.map AttT.row c)]) = true from rfl) (.c (show Blk.inn 8 (.var [int sd, ab (List.map AttT.row d)]) = true from rfl) (.c (show Blk.inn 8 (.vec (am (List.map AttT.row kept) ++ [[int x.course, int x.term, int x.grade, int x.campus, int x.credits]]) 1 5) = true from ?_) (.c (show List.map (D.mapRL (bX 7 1 0)) (am (List.map AttT.row kept) ++ [[int x.course, int x.term, int x.grade, int x.campus, int x.credits]]) = am (List.map AttT.row kept) ++ [[int x.course, int x.term, int x.grade, int x.campus, int x.credits]] from ?_) .n)))))))))))))) (by first | rfl | (have hh : away cr at' x = true := hc0; simp only [hw, kaF, hh, cond_true, aA]; first | done | rfl) | (have hh : away cr at' x = false := hc0; simp only [hw, hm, kaF, hh, cond_false]; first | done | rfl) | (exfalso; have hh := hg hc0; rw [hc1] at hh; exact Bool.noConfusion hh)) (by first | rfl | (have hh : away cr at' x = true := hc0; simp only [hw, kaF, hh, cond_true, aA]; first | done | rfl) | (have hh : away cr at' x = false := hc0; simp only [hw, hm, kaF, hh, cond_false]; first | done | rfl) | (exfalso; have hh := hg hc0; rw [hc1] at hh; exact Bool.noConfusion hh)) <;> (first | assumption | rfl | omega | exact hg (by assumption) | exact ah _ _ | exact af | (rw [aA]; exact ah _ _) | (rw [aA]; exact af) | (simp [bh, D.one, Value.oneCell', roomOk]; omega))
theorem ka_last {w : WorldT} {g : FactT} {sa sb sc sd : Int} {a b c d rest : List AttT} {cr at' gr ca term last : Int} {i m : Nat} {kept : List AttT} (hlt : decide ((i : Int) < ((b.map AttT.row).length : Int)) = false) : (CW Tryz.prog Γk [] false (sub Tryz.f6 1) (kaS w g sa sb sc sd a b c d rest cr at' gr ca term last i m kept) (.exit 2) (kaE w g sa sb sc sd a b c d rest cr at' gr ca term last m kept)) := by
 exact CW.cast (CW.symX (s' := { t := mkT 269 0 [(3, int cr), (4, int at'), (5, int gr), (7, int term), (18, bool false), (19, int last), (23, .ref (.ptr 2 0)), (37, ab (List.map AttT.row rest)), (38, .ref (.vec 7 0)), (40, int (↑m : Int))], h := [.var [ab (List.map CourseT.row w.c), ab w.p, ab (List.map SysT.row w.s), ab (List.map FactT.row w.f)], .var [int g.kind, int g.sub, int g.obj, int g.value, int g.frm, int g.til, int g.known, int g.no], .var [ab (List.map CourseT.row w.c), ab w.p, ab (List.map SysT.row w.s), ab (List.map FactT.row (w.f ++ [g]))], .var [int sa, ab (List.map AttT.row a)], .var [int sb, ab (List.map AttT.row b)], .var [int sc, ab (List.map AttT.row c)], .var [int sd, ab (List.map AttT.row d)], .vec (am (List.map AttT.row kept)) 0 5], m := [] }) (e := Exit.exit 2) pok [.st (.mask [3, 4, 5, 7, 18, 19, 23, 37, 38, 40])] [.b false] (by kernel_rfl) (.c hlt .n)) (by rfl) (by rfl)
theorem kaFold (cr at' : Int) : ∀ (l s : List AttT) (m : Nat), l.foldl (fun s x => kaF cr at' x s) (s, m) = (s ++ l.filter (away cr at'), m + (l.filter (fun x => !away cr at' x)).length)
 | [], s, m => by simp
 | x :: l, s, m => by
  rw [List.foldl_cons]
  have e : kaF cr at' x (s, m) = (bif away cr at' x then s ++ [x] else s, bif away cr at' x then m else m + 1) := by
   unfold kaF; cases away cr at' x <;> rfl
  rw [e, kaFold cr at' l]
  cases h : away cr at' x <;> simp [h] <;> omega
theorem ka_cw {w : WorldT} {g : FactT} {sa sb sc sd : Int} {a b c d rest : List AttT} {cr at' gr ca term last : Int} (hl : b.length ≤ 900000000) (hg : ∀ x ∈ b, away cr at' x = false → (x.grade != gr || x.campus != ca) = false) :
  CW Tryz.prog Γk [] false (.loop (sub Tryz.f6 1)) (kaS w g sa sb sc sd a b c d rest cr at' gr ca term last 0 0 []) (.exit 2) (kaE w g sa sb sc sd a b c d rest cr at' gr ca term last ((b.filter (fun x => !away cr at' x)).length : Int) (b.filter (away cr at'))) := by
 have hs : ao b := by unfold ao; omega
 have := CW.each (P := Tryz.prog) (Γ := Γk) (h0 := []) (rd := false) (c := sub Tryz.f6 1) (σ := List AttT × Nat) (ρ := Empty) b (fun x s => .inl (kaF cr at' x s))
  (fun i s => kaS w g sa sb sc sd a b c d rest cr at' gr ca term last (i : Int) s.2 s.1) (.exit 2) (fun s => kaE w g sa sb sc sd a b c d rest cr at' gr ca term last s.2 s.1) (fun r => r.elim)
  (fun i s => s.1.length ≤ i ∧ s.2 ≤ i) (by simp) (fun r => r.elim) ?_ ?_ ([], 0) (by simp)
 ·rw [br] at this
  have e := kaFold cr at' b [] 0
  rw [List.nil_append, Nat.zero_add] at e
  simp only [cw, e] at this
  exact this
 ·intro i x s hx hv
  have hi := (List.getElem?_eq_some_iff.1 hx).1
  refine ⟨fun s' h => ?_, ka_body (rowAt hx rfl) (lt_len _ hi) (wrap_succ hi hs) (by rw [wrap_i64 (by omega) (by omega)]; omega) (by omega) (hg x (List.mem_of_getElem? hx))⟩
  cases h
  unfold kaF
  cases away cr at' x <;> simp <;> omega
 ·intro s _
  exact ka_last (fa _ b)
abbrev lsS (cr at' gr term : Int) (rest kept : List AttT) (m : Int) (ns : List (List Dp)) (b : Bool) (i : Int) : AS :=
 { t := mkT 269 0 [(3, int cr), (4, int at'), (5, int gr), (7, int term), (18, bool false), (37, ab (rest.map AttT.row)), (38, ab (kept.map AttT.row)), (40, int m), (43, ab ns), (45, bool b), (46, int i)], h := [], m := [] }
abbrev lsE (at' gr term : Int) (rest kept : List AttT) (m : Int) (b : Bool) : AS :=
 { t := mkT 269 0 [(4, int at'), (5, int gr), (7, int term), (37, ab (rest.map AttT.row)), (38, ab (kept.map AttT.row)), (40, int m), (45, bool b)], h := [], m := [] }
theorem ls_body {cr at' gr term : Int} {rest kept : List AttT} {m n : Int} {ns : List (List Dp)} {b : Bool} {i : Nat} (hr : bw (i : Int) ns [vi n] 1) (hlt : decide ((i : Int) < (ns.length : Int)) = true) (hw : IntKind.i64.wrap ((i : Int) + 1) = ((i + 1 : Nat) : Int)) : (CW Tryz.prog Γk [] false (sub Tryz.f6 2) (lsS cr at' gr term rest kept m ns b i) .normal (lsS cr at' gr term rest kept m ns (b || (n == cr)) ((i + 1 : Nat) : Int))) := by
 exact CW.cast (CW.symX (s' := { t := mkT 269 0 [(3, int cr), (4, int at'), (5, int gr), (7, int term), (18, bool false), (37, ab (List.map AttT.row rest)), (38, ab (List.map AttT.row kept)), (40, int m), (43, ab ns), (45, bool (b || n == cr)), (46, int (IntKind.wrap IntKind.i64 ((↑i : Int) + 1)))], h := [], m := [] }) (e := Exit.normal) pok [.st (.mask [3, 4, 5, 7, 18, 37, 38, 40, 43, 45, 46])] [.b true, .row [vi n]] (by kernel_rfl) (.c hlt (.c (show (!b) = true → bw (↑i : Int) ns [vi n] 1 from (fun hg => hr)) .n))) (by simp only [hw]; first | done | rfl) (by simp only [hw]; first | done | rfl)
theorem ls_last {cr at' gr term : Int} {rest kept : List AttT} {m : Int} {ns : List (List Dp)} {b : Bool} {i : Nat} (hlt : decide ((i : Int) < (ns.length : Int)) = false) : (CW Tryz.prog Γk [] false (sub Tryz.f6 2) (lsS cr at' gr term rest kept m ns b i) (.exit 4) (lsE at' gr term rest kept m b)) := by
 exact CW.cast (CW.symX (s' := { t := mkT 269 0 [(4, int at'), (5, int gr), (7, int term), (37, ab (List.map AttT.row rest)), (38, ab (List.map AttT.row kept)), (40, int m), (45, bool b)], h := [], m := [] }) (e := Exit.exit 4) pok [.st (.mask [4, 5, 7, 37, 38, 40, 45])] [.b false] (by kernel_rfl) (.c hlt .n)) (by rfl) (by rfl)
theorem lsFold (cr : Int) : ∀ (ns : List Int) (b : Bool), ns.foldl (fun b n => b || (n == cr)) b = (b || ns.contains cr)
 | [], b => by simp
 | n :: ns, b => by
  rw [List.foldl_cons, lsFold cr ns]
  have : (n == cr) = (cr == n) := by rw [Bool.eq_iff_iff, beq_iff_eq, beq_iff_eq]; exact eq_comm
  rw [List.contains_cons, this, Bool.or_assoc]
theorem ls_cw {cr at' gr term : Int} {rest kept : List AttT} {m : Int} {ns : List Int} (hs : ao ns) :
  CW Tryz.prog Γk [] false (.loop (sub Tryz.f6 2)) (lsS cr at' gr term rest kept m (ns.map fun n => [vi n]) false 0) (.exit 4) (lsE at' gr term rest kept m (ns.contains cr)) := by
 have := CW.each (P := Tryz.prog) (Γ := Γk) (h0 := []) (rd := false) (c := sub Tryz.f6 2) (σ := Bool) (ρ := Empty) ns (fun n b => .inl (b || (n == cr)))
  (fun i b => lsS cr at' gr term rest kept m (ns.map fun n => [vi n]) b (i : Int)) (.exit 4) (fun b => lsE at' gr term rest kept m b) (fun r => r.elim)
  (fun _ _ => True) (by simp) (fun r => r.elim) ?_ ?_ false trivial
 ·rw [br] at this
  have e := lsFold cr ns false
  rw [Bool.false_or] at e
  simp only [cw, e] at this
  exact this
 ·intro i n b hx _
  have hi := (List.getElem?_eq_some_iff.1 hx).1
  exact ⟨fun _ _ => trivial, ls_body (rowAt (row := fun n => [vi n]) hx rfl) (lt_len (fun n => [vi n]) hi) (wrap_succ hi hs)⟩
 ·intro b _
  exact ls_last (fa (fun n => [vi n]) ns)
end Go.Vi
