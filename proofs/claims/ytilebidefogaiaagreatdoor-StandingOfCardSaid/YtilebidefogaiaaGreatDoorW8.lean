/- StandingOf: part of the proof: contracts of the functions that the law reaches, and the law. No conditions beyond the given statement's own. -/
import Derived.Test.YtilebidefogaiaaGreatDoorW7
import Derived.LaidHandle
open Go Go.Proofs
namespace Go.Vi
set_option maxRecDepth 100000
set_option maxHeartbeats 4000000
theorem few2_ev {s : SysT} (h : List Blk) : Ev Tryz.prog Γ0 36 [ag s.row] h (bool (few s.sys)) h := few_ev s.sys h
abbrev fwS (w : WorldT) (i : Int) : AS := { t := mkT 45 0 [(1, .ref (.ptr 0 0)), (3, int i)], h := [.var w.l], m := [] }
abbrev fwX : Unit → Exit × AS := fun _ => (.ret, { t := mkT 45 0 [(2, bool false)], h := [], m := [] })
def fwF (s : SysT) (_ : Unit) : Unit ⊕ Unit := bif few s.sys then .inl () else .inr ()
theorem not_t {b : Bool} (h : (!b) = false) : b = true := by cases b <;> simp_all
theorem not_f {b : Bool} (h : (!b) = true) : b = false := by cases b <;> simp_all
attribute [local irreducible] few
noncomputable abbrev fw_body_x0 (w : WorldT) : List Blk := [.var [rowsD' (List.map CourseT.row w.c), rowsD' w.p, rowsD' (List.map SysT.row w.s), rowsD' (List.map FactT.row w.f)]]
theorem fw_body {w : WorldT} {s : SysT} {i : Nat} (hr : RowAt (i : Int) (w.s.map SysT.row) s.row 4) (hlt : decide ((i : Int) < ((w.s.map SysT.row).length : Int)) = true) (hw : IntKind.i64.wrap ((i : Int) + 1) = ((i + 1 : Nat) : Int)) : (CW Tryz.prog Γ0 [] false (sub Tryz.f45 0) (fwS w i) (bodyFin (fun _ => fwS w ((i + 1 : Nat) : Int)) fwX (fwF s ())).1 (bodyFin (fun _ => fwS w ((i + 1 : Nat) : Int)) fwX (fwF s ())).2) := by
  cases hc0 : !few (SysT.sys s)
  · refine CW.cast (CW.symX (s' := { t := mkT 45 0 [(1, .ref (.ptr 0 0)), (3, int (IntKind.wrap IntKind.i64 ((↑i : Int) + 1)))], h := (fw_body_x0 w), m := [] }) (e := Exit.normal) pok [.st (.mask [1, 3])] [.b true, .row [Dp.sl (List.map Cls.row s.classes), Dp.sl (List.map FeeT.row s.fees), Dp.sl (List.map Cls.row s.honours), Dp.sl (List.map ClauseT.row s.clauses)], .val (bool (few (SysT.sys s))), .b false] (by kernel_rfl) (.c hlt (.c hr (.c (@few2_ev (s) ((fw_body_x0 w))) (.c hc0 .n))))) ?_ ?_ <;> (first | (have hh : few (SysT.sys s) = true := not_t hc0; simp only [fwF, hh, cond_true, bodyFin, hw]; first | done | rfl) | (have hh : few (SysT.sys s) = false := not_f hc0; simp only [fwF, hh, cond_false, bodyFin]; first | done | rfl))
  · refine CW.cast (CW.symX (s' := { t := mkT 45 0 [(2, bool false)], h := [], m := [] }) (e := Exit.ret) pok [.st (.mask [2]), .st (.trim 0)] [.b true, .row [Dp.sl (List.map Cls.row s.classes), Dp.sl (List.map FeeT.row s.fees), Dp.sl (List.map Cls.row s.honours), Dp.sl (List.map ClauseT.row s.clauses)], .val (bool (few (SysT.sys s))), .b true] (by kernel_rfl) (.c hlt (.c hr (.c (@few2_ev (s) ((fw_body_x0 w))) (.c hc0 .n))))) ?_ ?_ <;> (first | (have hh : few (SysT.sys s) = true := not_t hc0; simp only [fwF, hh, cond_true, bodyFin, hw]; first | done | rfl) | (have hh : few (SysT.sys s) = false := not_f hc0; simp only [fwF, hh, cond_false, bodyFin]; first | done | rfl))
theorem fw_last {w : WorldT} {i : Nat} (hlt : decide ((i : Int) < ((w.s.map SysT.row).length : Int)) = false) : (CW Tryz.prog Γ0 [] false (sub Tryz.f45 0) (fwS w i) (.exit 0) { t := mkT 45 0 [], h := [], m := [] }) := by
  exact CW.cast (CW.symX (s' := { t := mkT 45 0 [], h := [], m := [] }) (e := Exit.exit 0) pok [.st (.mask []), .st (.trim 0)] [.b false] (by kernel_rfl) (.c hlt .n)) (by rfl) (by rfl)
def fwFin (w : WorldT) : Exit × AS := eachFin (.exit 0) (fun _ : Unit => { t := mkT 45 0 [], h := [], m := [] }) fwX (forL fwF w.s ())
theorem fw_cw {w : WorldT} (hl : Short w.s) :
    CW Tryz.prog Γ0 [] false (.loop (sub Tryz.f45 0)) (fwS w 0) (fwFin w).1 (fwFin w).2 := by
  have := CW.each (P := Tryz.prog) (Γ := Γ0) (h0 := []) (rd := false) (c := sub Tryz.f45 0) w.s fwF (fun i _ => fwS w (i : Int)) (.exit 0) (fun _ : Unit => { t := mkT 45 0 [], h := [], m := [] }) fwX (fun _ _ => True) (by simp) (fun _ => by simp) ?_ ?_ () trivial
  · exact this
  · intro i s u hp _
    have hi := (List.getElem?_eq_some_iff.1 hp).1
    exact ⟨fun _ _ => trivial, fw_body (rowAt hp rfl) (lt_len SysT.row hi) (wrap_succ hi hl)⟩
  · intro u _
    exact fw_last (ge_len SysT.row w.s)
def fewBig (w : WorldT) : Bool := decide ((w.f.map FactT.row).length > (40 : Int)) || decide ((w.c.map CourseT.row).length > (12 : Int)) || decide (w.p.length > (6 : Int)) || decide ((w.s.map SysT.row).length > (6 : Int))
def fewW (w : WorldT) : Bool := match fewBig w with
  | true => false
  | false => match forL fwF w.s () with
    | .inl _ => true
    | .inr _ => false
theorem fewW_ev {w : WorldT} (hl : Short w.s) (h : List Blk) : (Ev Tryz.prog Γ0 45 [.agg w.l] h (bool (fewW w)) h) := by
  cases hc0 : decide ((↑(List.length (List.map FactT.row w.f)) : Int) > 40) || decide ((↑(List.length (List.map CourseT.row w.c)) : Int) > 12) || decide ((↑(List.length w.p) : Int) > 6) || decide ((↑(List.length (List.map SysT.row w.s)) : Int) > 6)
  · have hl1 := (@fw_cw (w) (hl))
    unfold fwFin at hl1
    revert hl1
    cases ho2 : forL fwF w.s () with
    | inl o2_0_0 =>
      intro hl1
      exact Ev.castH (Ev.sym0 (d := bool true) pok [.b false, .sum [1, 3] (Exit.exit 0) { t := mkT 45 0 [], h := [], m := [] }] (by kernel_rfl) (.c hc0 (.c hl1 .n)) rfl rfl h) (by first | (have z0 : fewBig w = true := hc0; simp only [fewW, z0]; first | done | rfl) | (have z0 : fewBig w = false := hc0; simp only [fewW, z0, ho2]; first | done | rfl)) (by rfl)
    | inr o2_1_0 =>
      intro hl1
      exact Ev.castH (Ev.sym0 (d := bool false) pok [.b false, .sum [1, 3] (Exit.ret) { t := mkT 45 0 [(2, bool false)], h := [], m := [] }] (by kernel_rfl) (.c hc0 (.c hl1 .n)) rfl rfl h) (by first | (have z0 : fewBig w = true := hc0; simp only [fewW, z0]; first | done | rfl) | (have z0 : fewBig w = false := hc0; simp only [fewW, z0, ho2]; first | done | rfl)) (by rfl)
  · exact Ev.castH (Ev.sym0 (d := bool false) pok [.b true] (by kernel_rfl) (.c hc0 .n) rfl rfl h) (by first | (have z0 : fewBig w = true := hc0; simp only [fewW, z0]; first | done | rfl) | (have z0 : fewBig w = false := hc0; simp only [fewW, z0, hc0]; first | done | rfl)) (by rfl)
noncomputable abbrev soOut_x0 (w : WorldT) : List Blk := [.var [rowsD' (List.map CourseT.row w.c), rowsD' w.p, rowsD' (List.map SysT.row w.s), rowsD' (List.map FactT.row w.f)]]
theorem soOut {w : WorldT} (hl : Short w.s) {st cr term known : Int} (ho : (!fewW w || decide (st < 0) || decide (st ≥ 20000) || decide (term < 0) || decide (term ≥ 1024) || decide (cr < 0) || decide (cr > 10000)) = true) (h : List Blk) : (Ev Tryz.prog Γk 11 [.agg w.l, int st, int cr, int term, int known] h (bool true) h) := by
  exact Ev.castH (Ev.sym0 (d := bool true) pok [.val (bool true), .b false, .val (bool (fewW w)), .b true] (by kernel_rfl) (.c (Ev.glob0 (Γ' := Γk) (@sane21_ev ((soOut_x0 w)))) (.c (show (!true) = false from rfl) (.c (Ev.glob0 (Γ' := Γk) (@fewW_ev (w) (hl) ((soOut_x0 w)))) (.c ho .n)))) rfl rfl h) (by rfl) (by rfl)
noncomputable abbrev soIn_x0 (w : WorldT) (s : SysT) (r : RecT) (n : Int) (d : Int) : List Blk := [.var [rowsD' (List.map CourseT.row w.c), rowsD' w.p, rowsD' (List.map SysT.row w.s), rowsD' (List.map FactT.row w.f)], .var [rowsD' (List.map Cls.row s.classes), rowsD' (List.map FeeT.row s.fees), rowsD' (List.map Cls.row s.honours), rowsD' (List.map ClauseT.row s.clauses)], .var [int r.st, rowsD' (List.map AttT.row r.a)], .var [int n, int d]]
noncomputable abbrev soIn_x1 (w : WorldT) (s : SysT) (r : RecT) : List Blk := [.var [rowsD' (List.map CourseT.row w.c), rowsD' w.p, rowsD' (List.map SysT.row w.s), rowsD' (List.map FactT.row w.f)], .var [rowsD' (List.map Cls.row s.classes), rowsD' (List.map FeeT.row s.fees), rowsD' (List.map Cls.row s.honours), rowsD' (List.map ClauseT.row s.clauses)], .var [int r.st, rowsD' (List.map AttT.row r.a)]]
noncomputable abbrev soIn_x2 (w : WorldT) (s : SysT) : List Blk := [.var [rowsD' (List.map CourseT.row w.c), rowsD' w.p, rowsD' (List.map SysT.row w.s), rowsD' (List.map FactT.row w.f)], .var [rowsD' (List.map Cls.row s.classes), rowsD' (List.map FeeT.row s.fees), rowsD' (List.map Cls.row s.honours), rowsD' (List.map ClauseT.row s.clauses)]]
noncomputable abbrev soIn_x3 (w : WorldT) : List Blk := [.var [rowsD' (List.map CourseT.row w.c), rowsD' w.p, rowsD' (List.map SysT.row w.s), rowsD' (List.map FactT.row w.f)]]
theorem soIn {w : WorldT} (hl : Short w.s) {st cr term known : Int} {s : SysT} {q q1 q2 p2 p3 p4 : List ReadT} {r : RecT} {L : List AttT} {e1 e2 ea earn n d em a2 b2 a3 b3 a4 b4 f1 f2 c1 c2 h1 h2 : Int}
  (ho : (!fewW w || decide (st < 0) || decide (st ≥ 20000) || decide (term < 0) || decide (term ≥ 1024) || decide (cr < 0) || decide (cr > 10000)) = false)
  (k1 : ∀ h, Ev Tryz.prog Γk 52 [.agg w.l, int term, int known] h (.tup [ag s.row, rowsD' (rdR q)]) h)
  (k2 : ∀ h, Ev Tryz.prog Γk 23 [.agg w.l, int st, int term, int known] h (.tup [.agg r.l, rowsD' (rdR q1), int e1]) h)
  (k3 : ∀ h, Ev Tryz.prog Γk 53 [.agg w.l, .agg r.l, int term, int known] h (.tup [rowsD' (L.map AttT.row), rowsD' (rdR q2), int e2]) h)
  (k4 : ∀ h, Ev Tryz.prog Γk 54 [rowsD' (L.map AttT.row)] h (.tup [int earn, int ea]) h)
  (k5 : ∀ h, Ev Tryz.prog Γk 55 [rowsD' (L.map AttT.row)] h (.tup [.agg [int n, int d], int em]) h)
  (k6 : ∀ h, Ev Tryz.prog Γk 46 [.agg w.l, int 2, int st, int cr, int term, int known] h (.tup [int a2, rowsD' (rdR p2), int b2]) h)
  (k7 : ∀ h, Ev Tryz.prog Γk 46 [.agg w.l, int 4, int st, int 0, int term, int known] h (.tup [int a4, rowsD' (rdR p4), int b4]) h)
  (k8 : ∀ h, Ev Tryz.prog Γk 46 [.agg w.l, int 3, int st, int cr, int term, int known] h (.tup [int a3, rowsD' (rdR p3), int b3]) h)
  (k9 : ∀ h, Ev Tryz.prog Γk 41 [ag s.row, int cr] h (.tup [int f1, int f2]) h)
  (k10 : ∀ h, Ev Tryz.prog Γk 37 [ag s.row, int (minE earn), .agg [int n, int d]] h (.tup [int c1, int c2]) h)
  (k11 : ∀ h, Ev Tryz.prog Γk 39 [ag s.row, int (minE earn), .agg [int n, int d]] h (.tup [int h1, int h2]) h)
  (x3 : (a3 != f1 || b3 != f2) = false)
  (xe : (e1 != 0 || e2 != 0 || ea != 0 || em != 0) = true → (b2 != 0 && b4 != 0 && a2 == 0 && a4 == 0) = true)
  (xo : (e1 != 0 || e2 != 0 || ea != 0 || em != 0) = false → (a2 == c1 && b2 == c2 && a4 == h1 && b4 == h2) = true) (h : List Blk) : (Ev Tryz.prog Γk 11 [.agg w.l, int st, int cr, int term, int known] h (bool true) h) := by
  cases hc0 : e1 != 0 || e2 != 0 || ea != 0 || em != 0
  · exact Ev.castH (Ev.sym0 (d := bool (a2 == c1 && b2 == c2 && a4 == h1 && b4 == h2)) pok [.val (bool true), .b false, .val (bool (fewW w)), .b false, .val (D.tup [(ag (SysT.row s)), rowsD' (rdR q)]), .val (D.tup [D.agg [int r.st, rowsD' (List.map AttT.row r.a)], rowsD' (rdR q1), int e1]), .val (D.tup [rowsD' (List.map AttT.row L), rowsD' (rdR q2), int e2]), .val (D.tup [int earn, int ea]), .val (D.tup [D.agg [int n, int d], int em]), .val (D.tup [int a2, rowsD' (rdR p2), int b2]), .val (D.tup [int a4, rowsD' (rdR p4), int b4]), .val (D.tup [int a3, rowsD' (rdR p3), int b3]), .val (D.tup [int f1, int f2]), .b false, .b false, .val (D.tup [int c1, int c2]), .val (D.tup [int h1, int h2])] (by kernel_rfl) (.c (Ev.glob0 (Γ' := Γk) (@sane21_ev ((soIn_x3 w)))) (.c (show (!true) = false from rfl) (.c (Ev.glob0 (Γ' := Γk) (@fewW_ev (w) (hl) ((soIn_x3 w)))) (.c ho (.c (@k1 ((soIn_x3 w))) (.c (@k2 ((soIn_x2 w s))) (.c (@k3 ((soIn_x1 w s r))) (.c (@k4 ((soIn_x1 w s r))) (.c (@k5 ((soIn_x1 w s r))) (.c (@k6 ((soIn_x0 w s r n d))) (.c (@k7 ((soIn_x0 w s r n d))) (.c (@k8 ((soIn_x0 w s r n d))) (.c (@k9 ((soIn_x0 w s r n d))) (.c x3 (.c hc0 (.c (@k10 ((soIn_x0 w s r n d))) (.c (@k11 ((soIn_x0 w s r n d))) .n))))))))))))))))) rfl rfl h) (by first | exact congrArg bool (xe hc0) | exact congrArg bool (xo hc0)) (by rfl)
  · exact Ev.castH (Ev.sym0 (d := bool (b2 != 0 && b4 != 0 && a2 == 0 && a4 == 0)) pok [.val (bool true), .b false, .val (bool (fewW w)), .b false, .val (D.tup [(ag (SysT.row s)), rowsD' (rdR q)]), .val (D.tup [D.agg [int r.st, rowsD' (List.map AttT.row r.a)], rowsD' (rdR q1), int e1]), .val (D.tup [rowsD' (List.map AttT.row L), rowsD' (rdR q2), int e2]), .val (D.tup [int earn, int ea]), .val (D.tup [D.agg [int n, int d], int em]), .val (D.tup [int a2, rowsD' (rdR p2), int b2]), .val (D.tup [int a4, rowsD' (rdR p4), int b4]), .val (D.tup [int a3, rowsD' (rdR p3), int b3]), .val (D.tup [int f1, int f2]), .b false, .b true] (by kernel_rfl) (.c (Ev.glob0 (Γ' := Γk) (@sane21_ev ((soIn_x3 w)))) (.c (show (!true) = false from rfl) (.c (Ev.glob0 (Γ' := Γk) (@fewW_ev (w) (hl) ((soIn_x3 w)))) (.c ho (.c (@k1 ((soIn_x3 w))) (.c (@k2 ((soIn_x2 w s))) (.c (@k3 ((soIn_x1 w s r))) (.c (@k4 ((soIn_x1 w s r))) (.c (@k5 ((soIn_x1 w s r))) (.c (@k6 ((soIn_x0 w s r n d))) (.c (@k7 ((soIn_x0 w s r n d))) (.c (@k8 ((soIn_x0 w s r n d))) (.c (@k9 ((soIn_x0 w s r n d))) (.c x3 (.c hc0 .n))))))))))))))) rfl rfl h) (by first | exact congrArg bool (xe hc0) | exact congrArg bool (xo hc0)) (by rfl)
end Go.Vi
open Go Go.Proofs
namespace Go.Vi
set_option maxRecDepth 100000
theorem sys_ok {w : WorldT} (hw : w.ok) {term known : Int} : (systemR w term known).1.ok := by
  have hz : SysT.zero.ok := ⟨by simp [SysT.zero, SysT.sys], by simp [SysT.zero, SysT.sys], by simp [SysT.zero, SysT.sys], by simp [SysT.zero, SysT.sys, Short], by simp [SysT.zero, SysT.sys, Short], by simp [SysT.zero, SysT.sys, Short], by simp [SysT.zero, SysT.sys, Short]⟩
  unfold systemR
  split
  · exact hz
  · unfold lookL
    split
    · exact hz
    · rename_i h
      exact hw.s _ (lookB_mem h).1
theorem vwX_i64 {q1 q2 : List ReadT} {e1 e2 ea earn n d e : Int} (hn : I64 n) (hd : I64 d) : I64 (vwX q1 q2 e1 e2 ea earn n d e).n ∧ I64 (vwX q1 q2 e1 e2 ea earn n d e).d := by
  unfold vwX
  split
  · exact ⟨i64_0, i64_0⟩
  · split
    · exact ⟨i64_0, i64_0⟩
    · split
      · exact ⟨i64_0, i64_0⟩
      · exact ⟨hn, hd⟩
theorem vwX_bad {q1 q2 : List ReadT} {e1 e2 ea earn n d e : Int} (h : (e1 != 0 || e2 != 0 || ea != 0 || e != 0) = true) : ((vwX q1 q2 e1 e2 ea earn n d e).e != 0) = true := by
  unfold vwX
  split
  · rename_i h1; exact h1
  · split
    · rename_i h1; exact h1
    · split
      · rename_i h1; exact h1
      · simp_all
theorem vwX_ok {q1 q2 : List ReadT} {e1 e2 ea earn n d e : Int} (h : (e1 != 0 || e2 != 0 || ea != 0 || e != 0) = false) : vwX q1 q2 e1 e2 ea earn n d e = ⟨minE earn, n, d, 0, q1 ++ q2⟩ := by
  simp only [Bool.or_eq_false_iff] at h
  obtain ⟨⟨⟨h1, h2⟩, h3⟩, h4⟩ := h
  have h5 : e = 0 := by simpa using h4
  simp only [vwX, h1, h2, h3, h5]
abbrev sysW (w : WorldT) (term known : Int) : SysT := (systemR w term known).1
def sofR (w : WorldT) (kind st obj term known : Int) : OfX :=
  ofX kind st obj term (rdT 4 0 0 term) (vwcR w st term known) (feeR (sysW w term known).sys obj)
    (ofR (sysW w term known).sys (sysW w term known).sys.classes (vwcR w st term known).earn (vwcR w st term known).n (vwcR w st term known).d)
    (ofR (sysW w term known).sys (sysW w term known).sys.honours (vwcR w st term known).earn (vwcR w st term known).n (vwcR w st term known).d)
theorem sof_ev {w : WorldT} (hw : w.ok) {kind st obj term known : Int} (h : List Blk) : Ev Tryz.prog Γk 46 [.agg w.l, int kind, int st, int obj, int term, int known] h (.tup [int (sofR w kind st obj term known).ans, rowsD' (rdR (sofR w kind st obj term known).q), int (sofR w kind st obj term known).e]) h := by
  have hi : I64 (vwcR w st term known).n ∧ I64 (vwcR w st term known).d := vwX_i64 (meanR_i64 _).1 (meanR_i64 _).2
  have hl := rdT_len 4 0 0 term
  have hs : (sysW w term known).sys.ok := sys_ok hw
  exact sof_a (s := sysW w term known) (q1 := rdT 4 0 0 term) (q2 := (vwcR w st term known).q)
    (vwsys_ev hw (rs := []) (by simp)) (vwcnt_ev hw (by omega)) (fun h => Ev.glob0 (fee_ev hs obj h)) (fun h => Ev.glob0 (class_ev hs hi.1 hi.2 h)) (fun h => Ev.glob0 (honour_ev hs hi.1 hi.2 h)) h
theorem ofX_fee {st obj term : Int} {q1 : List ReadT} {x : VwX} {fe cl ho : Int × Int} (hb : ofBad 3 st obj term = false) : ofX 3 st obj term q1 x fe cl ho = ⟨fe.1, q1, fe.2⟩ := by
  simp only [ofX, hb]; rfl
theorem ofX_bad {kind st obj term : Int} {q1 : List ReadT} {x : VwX} {fe cl ho : Int × Int} (hb : ofBad kind st obj term = false) (hk : (kind == 3) = false) (hx : (x.e != 0) = true) : ofX kind st obj term q1 x fe cl ho = ⟨0, q1 ++ x.q, x.e⟩ := by
  simp only [ofX, hb, hk, hx]
theorem ofX_cl {st obj term : Int} {q1 : List ReadT} {x : VwX} {fe cl ho : Int × Int} (hb : ofBad 2 st obj term = false) (hx : (x.e != 0) = false) : ofX 2 st obj term q1 x fe cl ho = ⟨cl.1, q1 ++ x.q, cl.2⟩ := by
  simp only [ofX, hb, hx]; rfl
theorem ofX_ho {st obj term : Int} {q1 : List ReadT} {x : VwX} {fe cl ho : Int × Int} (hb : ofBad 4 st obj term = false) (hx : (x.e != 0) = false) : ofX 4 st obj term q1 x fe cl ho = ⟨ho.1, q1 ++ x.q, ho.2⟩ := by
  simp only [ofX, hb, hx]; rfl
theorem standingOf_ev {w : WorldT} (hw : w.ok) {st cr term known : Int} (h : List Blk) : Ev Tryz.prog Γk 11 [.agg w.l, int st, int cr, int term, int known] h (bool true) h := by
  cases ho : (!fewW w || decide (st < 0) || decide (st ≥ 20000) || decide (term < 0) || decide (term ≥ 1024) || decide (cr < 0) || decide (cr > 10000))
  · have hl := rofR_len hw (st := st) (term := term) (known := known)
    have hc := rcntR_len (w := w) (r := (rofR w st term known).1) (term := term) (known := known)
    have hs : Short (rcntR w (rofR w st term known).1 term known).1 := by unfold Short; omega
    have hsy : (sysW w term known).sys.ok := sys_ok hw
    have hm := meanR_i64 (rcntR w (rofR w st term known).1 term known).1
    have hr := ho
    simp only [Bool.or_eq_false_iff, decide_eq_false_iff_not] at hr
    obtain ⟨⟨⟨⟨⟨⟨_, r1⟩, r2⟩, r3⟩, r4⟩, r5⟩, r6⟩ := hr
    have b2 : ofBad 2 st cr term = false := by simp [ofBad]; omega
    have b4 : ofBad 4 st 0 term = false := by simp [ofBad]; omega
    have b3 : ofBad 3 st cr term = false := by simp [ofBad, amt]; omega
    refine soIn hw.ls ho (fun h => system2_ev hw h) (fun h => rof_ev hw h) (fun h => rcnt_ev hw (by omega) h) (fun h => Ev.glob0 (avearn_ev hs h)) (fun h => Ev.glob0 (avmean_ev hs h))
      (fun h => sof_ev hw h) (fun h => sof_ev hw h) (fun h => sof_ev hw h) (fun h => Ev.glob0 (fee_ev hsy cr h)) (fun h => Ev.glob0 (class_ev hsy hm.1 hm.2 h)) (fun h => Ev.glob0 (honour_ev hsy hm.1 hm.2 h)) ?_ ?_ ?_ h
    · unfold sofR; rw [ofX_fee b3]; simp
    · intro hx
      have hv : ((vwcR w st term known).e != 0) = true := vwX_bad hx
      unfold sofR
      rw [ofX_bad b2 rfl hv, ofX_bad b4 rfl hv]
      simp [hv]
    · intro hx
      have hv : vwcR w st term known = _ := vwX_ok hx
      have he : ((vwcR w st term known).e != 0) = false := by rw [hv]; rfl
      unfold sofR
      rw [ofX_cl b2 he, ofX_ho b4 he, hv]
      simp
  · exact soOut hw.ls ho h
end Go.Vi
open Go Go.Proofs
namespace Go.Vi
set_option maxRecDepth 100000
structure WorldT.ok0 (w : WorldT) : Prop where
  c : ∀ x ∈ w.c, x.ok
  s : ∀ x ∈ w.s, x.ok
  lc : Short w.c
  ls : Short w.s
  i : ∀ f ∈ w.f, f.ok
theorem fewW_len {w : WorldT} (h : fewW w = true) : w.f.length ≤ 40 := by
  have h1 : fewBig w = false := by
    cases hb : fewBig w
    · rfl
    · simp [fewW, hb] at h
  simp only [fewBig, Bool.or_eq_false_iff, decide_eq_false_iff_not, List.length_map] at h1
  omega
theorem standingOf0_ev {w : WorldT} (hw : w.ok0) {st cr term known : Int} (h : List Blk) : Ev Tryz.prog Γk 11 [.agg w.l, int st, int cr, int term, int known] h (bool true) h := by
  cases hf : fewW w
  · exact soOut hw.ls (by simp [hf]) h
  · have := fewW_len hf
    exact standingOf_ev ⟨hw.c, hw.s, by omega, hw.lc, hw.ls, hw.i⟩ h
end Go.Vi
open Go Go.Proofs
namespace Go.Vi
open Go.ChangeShapes Go.WideShapes Go.ChangeAt Go.RowKit Go.Proofs.YtilebidefogaiaaGreatDoor
set_option maxRecDepth 100000
theorem cells22 : Tryz.prog.cellsOf 22 = 1 := by kernel_rfl
theorem cells23 : Tryz.prog.cellsOf 23 = 1 := by kernel_rfl
theorem cells24 : Tryz.prog.cellsOf 24 = 1 := by kernel_rfl
theorem cells26 : Tryz.prog.cellsOf 26 = 3 := by kernel_rfl
theorem cells27 : Tryz.prog.cellsOf 27 = 1 := by kernel_rfl
theorem cells29 : Tryz.prog.cellsOf 29 = 4 := by kernel_rfl
theorem cells56 : Tryz.prog.cellsOf 56 = 3 := by kernel_rfl
theorem cells58 : Tryz.prog.cellsOf 58 = 2 := by kernel_rfl
theorem cells60 : Tryz.prog.cellsOf 60 = 8 := by kernel_rfl
theorem cells102' : Tryz.prog.cellsOf 102 = 4 := by kernel_rfl
theorem cells109 : Tryz.prog.cellsOf 109 = 1 := by kernel_rfl
theorem cells111 : Tryz.prog.cellsOf 111 = 6 := by kernel_rfl
theorem cells113 : Tryz.prog.cellsOf 113 = 16 := by kernel_rfl
theorem bytes76 : Tryz.prog.bytesOf 76 = 96 := by kernel_rfl
theorem bytes111 : Tryz.prog.bytesOf 111 = 72 := by kernel_rfl
theorem bytes113 : Tryz.prog.bytesOf 113 = 184 := by kernel_rfl
theorem shp_key {n : Nat} {ds : List Dp} (h : Shp Tryz.prog n 56 ds) : ∃ a b c, ds = [vi a, vi b, vi c] ∧ I64 a ∧ I64 b ∧ I64 c := by
  cases n with
  | zero => exact h.elim
  | succ n =>
    simp only [Shp, Tryz.underlying56, List.forall_mem_cons, cells3, cells56] at h
    obtain ⟨hl, h1, h2, h3, _⟩ := h
    obtain ⟨a, e1, ha⟩ := shp_int h1
    obtain ⟨b, e2, hb⟩ := shp_int h2
    obtain ⟨c, e3, hc⟩ := shp_int h3
    match ds, hl with
    | [p, q, r], _ =>
      simp at e1 e2 e3
      subst e1; subst e2; subst e3
      exact ⟨a, b, c, rfl, ha, hb, hc⟩
theorem shp_span {n : Nat} {ds : List Dp} (h : Shp Tryz.prog n 58 ds) : ∃ a b, ds = [vi a, vi b] ∧ I64 a ∧ I64 b := by
  cases n with
  | zero => exact h.elim
  | succ n =>
    simp only [Shp, Tryz.underlying58, List.forall_mem_cons, cells3, cells58] at h
    obtain ⟨hl, h1, h2, _⟩ := h
    obtain ⟨a, e1, ha⟩ := shp_int h1
    obtain ⟨b, e2, hb⟩ := shp_int h2
    match ds, hl with
    | [p, q], _ =>
      simp at e1 e2
      subst e1; subst e2
      exact ⟨a, b, rfl, ha, hb⟩
theorem shp_fact {n : Nat} {ds : List Dp} (h : Shp Tryz.prog n 60 ds) : ∃ f : FactT, ds = f.row ∧ f.ok := by
  cases n with
  | zero => exact h.elim
  | succ n =>
    simp only [Shp, Tryz.underlying60, List.forall_mem_cons, cells3, cells56, cells58, cells60] at h
    obtain ⟨hl, h1, h2, h3, h4, h5, _⟩ := h
    obtain ⟨a, b, c, e1, ha, hb, hc⟩ := shp_key h1
    obtain ⟨d, e2, hd⟩ := shp_int h2
    obtain ⟨x, y, e3, hx, hy⟩ := shp_span h3
    obtain ⟨k, e4, hk⟩ := shp_int h4
    obtain ⟨m, e5, hm⟩ := shp_int h5
    match ds, hl with
    | [p1, p2, p3, p4, p5, p6, p7, p8], _ =>
      simp at e1 e2 e3 e4 e5
      obtain ⟨rfl, rfl, rfl⟩ := e1
      obtain ⟨rfl, rfl⟩ := e3
      subst e2; subst e4; subst e5
      exact ⟨⟨a, b, c, d, x, y, k, m⟩, rfl, ha, hb, hc, hd, hx, hy, hk, hm⟩
theorem shp_facts {n : Nat} {ds : List Dp} (h : Shp Tryz.prog n 27 ds) : ∃ l : List FactT, ds = [.sl (l.map FactT.row)] ∧ (∀ c ∈ l, c.ok) := by
  cases n with
  | zero => exact h.elim
  | succ n =>
    simp only [Shp, Tryz.underlying27] at h
    obtain ⟨es, rfl, _, he⟩ := h
    obtain ⟨l, rfl, hl⟩ := map_of (row := FactT.row) (ok := FactT.ok) (fun r hr => shp_fact (he r hr))
    exact ⟨l, rfl, hl⟩
theorem rulesOk_of : ∀ {ks : List RuleT}, (∀ k ∈ ks, k.ok) → rulesOk ks
  | [], _ => trivial
  | k :: ks, h => ⟨h k (List.mem_cons_self ..), rulesOk_of fun x hx => h x (List.mem_cons_of_mem _ hx)⟩
theorem shp_rule : ∀ {n : Nat} {ds : List Dp}, Shp Tryz.prog n 111 ds → ∃ r : RuleT, ds = r.row ∧ r.ok
  | 0, _, h => h.elim
  | 1, _, h => by
    simp only [Shp, Tryz.underlying111, List.forall_mem_cons] at h
    exact h.2.1.elim
  | n + 2, ds, h => by
    rw [Shp, Tryz.underlying111] at h
    simp only [List.forall_mem_cons, cells3, cells9, cells109, cells111] at h
    obtain ⟨hl, h1, h2, h3, h4, h5, h6, _⟩ := h
    obtain ⟨a, e1, ha⟩ := shp_int h1
    obtain ⟨b, e2, hb⟩ := shp_int h2
    obtain ⟨s, e3⟩ := shp_str h3
    obtain ⟨c, e4, hc⟩ := shp_int h4
    obtain ⟨d, e5, hd⟩ := shp_int h5
    rw [Shp, Tryz.underlying109] at h6
    simp only [bytes111] at h6
    obtain ⟨es, e6, hb6, he⟩ := h6
    obtain ⟨l, rfl, hk⟩ := map_of (row := RuleT.row) (ok := RuleT.ok) (fun r hr => shp_rule (he r hr))
    have hs : Short l := by have := short_of hb6 (by omega); simpa [Short] using this
    match ds, hl with
    | [p1, p2, p3, p4, p5, p6], _ =>
      simp at e1 e2 e3 e4 e5 e6
      subst e1; subst e2; subst e3; subst e4; subst e5; subst e6
      refine ⟨.mk a b s c d l, ?_, ?_⟩
      · rw [RuleT.row, ruleRows_eq]
      · rw [RuleT.ok]; exact ⟨⟨ha, hb, hc, hd, hs⟩, rulesOk_of hk⟩
theorem shp_course {n : Nat} {ds : List Dp} (h : Shp Tryz.prog n 113 ds) : ∃ c : CourseT, ds = c.row ∧ c.ok := by
  cases n with
  | zero => exact h.elim
  | succ n =>
    rw [Shp, Tryz.underlying113] at h
    simp only [List.forall_mem_cons, cells3, cells9, cells111, cells113] at h
    obtain ⟨hl, h1, h2, h3, h4, h5, h6, _⟩ := h
    obtain ⟨s, e1⟩ := shp_str h1
    obtain ⟨a, e2, _⟩ := shp_int h2
    obtain ⟨b, e3, _⟩ := shp_int h3
    obtain ⟨c, e4, _⟩ := shp_int h4
    obtain ⟨r, e5, hr⟩ := shp_rule h5
    obtain ⟨t, e6, ht⟩ := shp_rule h6
    rw [← RuleT.fl_row] at e5 e6
    match ds, hl with
    | [p1, p2, p3, p4, p5, p6, p7, p8, p9, p10, p11, p12, p13, p14, p15, p16], _ =>
      simp [RuF.row] at e1 e2 e3 e4 e5 e6
      obtain ⟨rfl, rfl, rfl, rfl, rfl, rfl⟩ := e5
      obtain ⟨rfl, rfl, rfl, rfl, rfl, rfl⟩ := e6
      subst e1; subst e2; subst e3; subst e4
      exact ⟨⟨s, a, b, c, r, t⟩, rfl, hr, ht⟩
theorem shp_courses {n : Nat} {ds : List Dp} (h : Shp Tryz.prog n 22 ds) : ∃ l : List CourseT, ds = [.sl (l.map CourseT.row)] ∧ (∀ c ∈ l, c.ok) ∧ Short l := by
  cases n with
  | zero => exact h.elim
  | succ n =>
    simp only [Shp, Tryz.underlying22, bytes113] at h
    obtain ⟨es, rfl, hb, he⟩ := h
    obtain ⟨l, rfl, hl⟩ := map_of (row := CourseT.row) (ok := CourseT.ok) (fun r hr => shp_course (he r hr))
    exact ⟨l, rfl, hl, by have := short_of hb (by omega); simpa [Short] using this⟩
theorem shp_clauseT {n : Nat} {ds : List Dp} (h : Shp Tryz.prog n 102 ds) : ∃ c : ClauseT, ds = c.row ∧ True := by
  cases n with
  | zero => exact h.elim
  | succ n =>
    simp only [Shp, Tryz.underlying102, List.forall_mem_cons, cells3, cells102'] at h
    obtain ⟨hl, h1, h2, h3, h4, _⟩ := h
    obtain ⟨a, e1, _⟩ := shp_int h1
    obtain ⟨b, e2, _⟩ := shp_int h2
    obtain ⟨c, e3, _⟩ := shp_int h3
    obtain ⟨d, e4, _⟩ := shp_int h4
    match ds, hl with
    | [p, q, r, t], _ =>
      simp at e1 e2 e3 e4
      subst e1; subst e2; subst e3; subst e4
      exact ⟨⟨a, b, c, d⟩, rfl, trivial⟩
theorem shp_sysT {n : Nat} {ds : List Dp} (h : Shp Tryz.prog n 76 ds) : ∃ s : SysT, ds = s.row ∧ s.ok := by
  cases n with
  | zero => exact h.elim
  | succ n =>
    simp only [Shp, Tryz.underlying76, List.forall_mem_cons, cells72, cells73, cells74, cells76] at h
    obtain ⟨hl, h1, h2, h3, h4, _⟩ := h
    obtain ⟨a, e1, a1, a2⟩ := shp_classes h1
    obtain ⟨b, e2, b1, b2⟩ := shp_fees h2
    obtain ⟨c, e3, c1, c2⟩ := shp_classes h3
    have h5 : ∃ l : List ClauseT, (List.take 1 (List.drop 3 ds)) = [.sl (l.map ClauseT.row)] ∧ Short l := by
      cases n with
      | zero => exact h4.elim
      | succ n =>
        simp only [Shp, Tryz.underlying74, bytes102] at h4
        obtain ⟨es, e, hb, he⟩ := h4
        obtain ⟨l, rfl, _⟩ := map_of (row := ClauseT.row) (ok := fun _ => True) (fun r hr => shp_clauseT (he r hr))
        exact ⟨l, e, by have := short_of hb (by omega); simpa [Short] using this⟩
    obtain ⟨d, e4, d1⟩ := h5
    match ds, hl with
    | [p, q, r, t], _ =>
      simp at e1 e2 e3 e4
      subst e1; subst e2; subst e3; subst e4
      exact ⟨⟨a, b, c, d⟩, rfl, ⟨a1, c1, b1, a2, c2, b2, by simpa [Short, SysT.sys] using d1⟩⟩
theorem shp_systems {n : Nat} {ds : List Dp} (h : Shp Tryz.prog n 24 ds) : ∃ l : List SysT, ds = [.sl (l.map SysT.row)] ∧ (∀ c ∈ l, c.ok) ∧ Short l := by
  cases n with
  | zero => exact h.elim
  | succ n =>
    simp only [Shp, Tryz.underlying24, bytes76] at h
    obtain ⟨es, rfl, hb, he⟩ := h
    obtain ⟨l, rfl, hl⟩ := map_of (row := SysT.row) (ok := SysT.ok) (fun r hr => shp_sysT (he r hr))
    exact ⟨l, rfl, hl, by have := short_of hb (by omega); simpa [Short] using this⟩
theorem shp_progs {n : Nat} {ds : List Dp} (h : Shp Tryz.prog n 23 ds) : ∃ l, ds = [.sl l] := by
  cases n with
  | zero => exact h.elim
  | succ n =>
    simp only [Shp, Tryz.underlying23] at h
    obtain ⟨es, rfl, _⟩ := h
    exact ⟨es, rfl⟩
theorem shp_world {n : Nat} {ds : List Dp} (h : Shp Tryz.prog n 29 ds) : ∃ w : WorldT, ds.map .p = w.l ∧ w.ok0 := by
  cases n with
  | zero => exact h.elim
  | succ n =>
    rw [Shp, Tryz.underlying29] at h
    simp only [List.forall_mem_cons, cells26, cells27, cells29] at h
    obtain ⟨hl, h1, h2, _⟩ := h
    obtain ⟨f, e4, hf⟩ := shp_facts h2
    cases n with
    | zero => exact h1.elim
    | succ n =>
      rw [Shp, Tryz.underlying26] at h1
      simp only [List.forall_mem_cons, cells22, cells23, cells24, cells26] at h1
      obtain ⟨_, g1, g2, g3, _⟩ := h1
      obtain ⟨c, e1, c1, c2⟩ := shp_courses g1
      obtain ⟨p, e2⟩ := shp_progs g2
      obtain ⟨s, e3, s1, s2⟩ := shp_systems g3
      match ds, hl with
      | [x, y, z, t], _ =>
        simp at e1 e2 e3 e4
        subst e1; subst e2; subst e3; subst e4
        exact ⟨⟨c, p, s, f⟩, rfl, ⟨c1, s1, c2, s2, hf⟩⟩
end Go.Vi
open Go Go.Proofs
namespace Go.Vi
open Go.ChangeShapes Go.WideShapes Go.ChangeAt Go.RowKit Go.Proofs.YtilebidefogaiaaGreatDoor
set_option maxRecDepth 100000
def plainW : List TypeId := [3, 4, 9, 22, 23, 24, 26, 27, 29, 30, 35, 56, 58, 60, 72, 73, 74, 76, 87, 91, 102, 109, 111, 113, 294, 296, 298, 300]
theorem plain29 : plainB Tryz.prog plainW = true := by kernel_rfl
theorem arg_world {H : Type} {enc : TypeId × Value → H} {W : World} {base : Nat} {v : Value} {d : DataW H} {p : List MemPlace}
    (hok : Value.okWide Tryz.prog W .any base 29 v) (h : DataW.Trod enc Tryz.prog W 0 (fun _ => true) true 29 v d p) (hw : (d.weights Tryz.prog 29).all (· ≤ reachBytes) = true) :
    ∃ w : WorldT, w.ok0 ∧ Rel W (avs (fun _ => False) (fun _ => none) []) (fun _ => none) [] (.agg w.l) v := by
  unfold Value.okWide at hok
  rw [Tryz.underlying29] at hok
  obtain ⟨cs, rfl, _, _⟩ := hok
  obtain ⟨fuel, hf⟩ := h
  obtain ⟨ds, h1, h2⟩ := open_plain plain29 av_start fuel 29 _ d p (by decide) hf hw
  obtain ⟨w, e, hw0⟩ := shp_world h1
  refine ⟨w, hw0, ?_⟩
  rw [← e]
  simp only [Rel]
  exact ⟨cs, rfl, h2.relL⟩
end Go.Vi
open Go Go.Proofs
namespace Go.Vi
open Go.ChangeShapes Go.WideShapes Go.ChangeAt Go.RowKit Go.Proofs.YtilebidefogaiaaGreatDoor
set_option maxRecDepth 100000
def lookF (P : Program) (ks : List Nat) (bs : List UInt8) : Option Nat := ks.find? fun k => match P.funcs[k]? with
  | some fn => (fn.name.toUTF8.data.toList == bs) && (P.funcNamed fn.name == some k)
  | none => false
theorem utf8_inj {s t : String} (h : s.toUTF8.data.toList = t.toUTF8.data.toList) : s = t := by
  have h1 : s.toUTF8 = t.toUTF8 := by
    cases hs : s.toUTF8; cases ht : t.toUTF8
    rw [hs, ht] at h
    congr 1
    exact Array.toList_inj.1 h
  exact String.toByteArray_inj.1 h1
theorem lookF_tells {P : Program} {ks : List Nat} {t : TypeId} {v : Value} {b : UInt8} {r : List UInt8} {k : Nat} (hv : funcToken P (t, v) = b :: r) (hk : lookF P ks (b :: r) = some k) : v = .func (.func k) #[] #[] := by
  obtain ⟨f, fn, rfl, h1, h2, h3⟩ := funcToken_tells hv
  have h4 := List.find?_some hk
  split at h4
  · rename_i fn' hfn
    simp only [Bool.and_eq_true, beq_iff_eq] at h4
    have : fn.name = fn'.name := utf8_inj (h3.trans h4.1.symm)
    rw [this, h4.2] at h2
    cases h2
    rfl
  · simp at h4
def expect (P : Program) (ks : List Nat) : Nat → TypeId → DataW (List UInt8) → Option (List Value)
  | 0, _, _ => none
  | n + 1, t, d => match P.underlying t with
    | some .bool => match d with
      | .lit (.bool b) => some [.bool b]
      | _ => none
    | some (.func ..) => match d with
      | .nil => some [.nilFunc]
      | .held (b :: r) => (lookF P ks (b :: r)).map fun k => [.func (.func k) #[] #[]]
      | _ => none
    | some (.struct fs) => match d with
      | .agg ds => if contigB P fs.toList 0 (P.cellsOf t) then (zipE (fun f d => expect P ks n f d) (fs.toList.map (·.type)) ds) else none
      | _ => none
    | some (.array m e) => match d with
      | .agg ds => if decide (P.cellsOf t = m * P.cellsOf e) = true then zipE (fun f d => expect P ks n f d) (List.replicate m e) ds else none
      | _ => none
    | _ => none
where
  zipE (g : TypeId → DataW (List UInt8) → Option (List Value)) : List TypeId → List (DataW (List UInt8)) → Option (List Value)
    | [], [] => some []
    | t :: ts, d :: ds => (g t d).bind fun a => (zipE g ts ds).map fun b => a ++ b
    | _, _ => none
theorem fields_of {P : Program} {g : TypeId → DataW (List UInt8) → Option (List Value)} {tr : TypeId → List Value → Option (DataW (List UInt8) × List MemPlace)} {cs : List Value}
    (hg : ∀ t d ys, g t d = some ys → ∀ c p, tr t c = some (d, p) → c = ys) : ∀ (fs : List Field) (acc : Nat) (xs : List (DataW (List UInt8) × List MemPlace)) (ys : List Value),
    (fs.mapM fun f => tr f.type ((cs.drop f.offset).take (P.cellsOf f.type))) = some xs → contigB P fs acc cs.length = true → expect.zipE g (fs.map (·.type)) (xs.map (·.1)) = some ys → cs.drop acc = ys
  | [], acc, xs, ys, hm, hc, hz => by
    simp at hm
    subst hm
    simp [expect.zipE] at hz
    subst hz
    simp [contigB] at hc
    simp [hc]
  | f :: fs, acc, xs, ys, hm, hc, hz => by
    simp only [List.mapM_cons, Option.bind_eq_bind, Option.bind_eq_some_iff, Option.pure_def, Option.some.injEq] at hm
    obtain ⟨x, hx, xs', hxs, rfl⟩ := hm
    simp only [contigB, Bool.and_eq_true, beq_iff_eq] at hc
    simp only [List.map_cons, expect.zipE, Option.bind_eq_some_iff, Option.map_eq_some_iff] at hz
    obtain ⟨a, ha, b, hb, rfl⟩ := hz
    have h1 := hg _ _ _ ha _ x.2 (by rw [hx])
    have h2 := fields_of hg fs _ xs' b hxs hc.2 hb
    rw [← h1, ← h2, hc.1, ← List.drop_drop, List.take_append_drop]
theorem elems_of {e : TypeId} {c : Nat} {g : TypeId → DataW (List UInt8) → Option (List Value)} {tr : TypeId → List Value → Option (DataW (List UInt8) × List MemPlace)} {cs : List Value}
    (hg : ∀ t d ys, g t d = some ys → ∀ c p, tr t c = some (d, p) → c = ys) : ∀ (n k : Nat) (xs : List (DataW (List UInt8) × List MemPlace)) (ys : List Value),
    ((List.range' k n).mapM fun i => tr e ((cs.drop (i * c)).take c)) = some xs → cs.length = (k + n) * c → expect.zipE g (List.replicate n e) (xs.map (·.1)) = some ys → cs.drop (k * c) = ys
  | 0, k, xs, ys, hm, hc, hz => by
    simp at hm
    subst hm
    simp [expect.zipE] at hz
    subst hz
    exact List.drop_eq_nil_of_le (by rw [hc]; simp)
  | n + 1, k, xs, ys, hm, hc, hz => by
    rw [List.range'_succ] at hm
    simp only [List.mapM_cons, Option.bind_eq_bind, Option.bind_eq_some_iff, Option.pure_def, Option.some.injEq] at hm
    obtain ⟨x, hx, xs', hxs, rfl⟩ := hm
    rw [List.replicate_succ] at hz
    simp only [List.map_cons, expect.zipE, Option.bind_eq_some_iff, Option.map_eq_some_iff] at hz
    obtain ⟨a, ha, b, hb, rfl⟩ := hz
    have h1 := hg _ _ _ ha _ x.2 (by rw [hx])
    have h2 := elems_of hg n (k + 1) xs' b hxs (by rw [hc]; congr 1; omega) hb
    rw [← h1, ← h2, Nat.add_mul, Nat.one_mul, ← List.drop_drop, List.take_append_drop]
theorem expect_of {P : Program} {ks : List Nat} {w : World} {sp : Nat → Bool} : ∀ (n : Nat) (t : TypeId) (d : DataW (List UInt8)) (ys : List Value), expect P ks n t d = some ys → ∀ (fuel : Nat) (cs : List Value) (p : List MemPlace), DataW.trod (funcToken P) P w 0 sp true fuel t cs = some (d, p) → cs = ys
  | 0, _, _, _, h => by simp [expect] at h
  | n + 1, t, d, ys, h => by
    intro fuel cs p ht
    cases fuel with
    | zero => simp [DataW.trod] at ht
    | succ fuel =>
      unfold expect at h
      unfold DataW.trod at ht
      cases hu : P.underlying t with
      | none => rw [hu] at h; simp at h
      | some td =>
        rw [hu] at h ht
        cases td with
        | bool =>
          simp only at h ht
          split at h
          · split at ht <;> simp_all
          · simp at h
        | func a b c =>
          simp only at h ht
          split at h
          · split at ht <;> simp_all
          · rename_i b r
            obtain ⟨k, hk, rfl⟩ := Option.map_eq_some_iff.1 h
            split at ht
            all_goals (try (simp_all; done))
            · rename_i fn first captured _ _
              simp only [if_true, Option.some.injEq, Prod.mk.injEq, DataW.held.injEq] at ht
              rw [lookF_tells ht.1 hk]
          · simp at h
        | struct fs =>
          simp only at h ht
          split at h
          · split at h
            · rename_i hc
              split at ht
              · rename_i hl
                obtain ⟨xs, hxs, he⟩ := Option.map_eq_some_iff.1 ht
                simp only [Prod.mk.injEq, DataW.agg.injEq] at he
                obtain ⟨rfl, _⟩ := he
                have := fields_of (tr := fun t c => DataW.trod (funcToken P) P w 0 sp true fuel t c) (fun t d ys hg c p hp => expect_of n t d ys hg fuel c p hp) fs.toList 0 xs ys hxs (by rw [hl]; exact hc) h
                simpa using this
              · simp at ht
            · simp at h
          · simp at h
        | array m e =>
          simp only at h ht
          split at h
          · split at ht
            · rename_i hl
              obtain ⟨xs, hxs, he⟩ := Option.map_eq_some_iff.1 ht
              simp only [Prod.mk.injEq, DataW.agg.injEq] at he
              obtain ⟨rfl, _⟩ := he
              split at h
              · rename_i hc
                rw [List.range_eq_range'] at hxs
                have := elems_of (tr := fun t c => DataW.trod (funcToken P) P w 0 sp true fuel t c) (fun t d ys hg c p hp => expect_of n t d ys hg fuel c p hp) m 0 xs ys hxs (by rw [hl, Nat.zero_add]; exact of_decide_eq_true hc) h
                simpa using this
              · simp at h
            · simp at ht
          · simp at h
        | _ => simp at h
end Go.Vi
open Go Go.Proofs
namespace Go.Vi
open Go.ChangeShapes Go.WideShapes Go.ChangeAt Go.RowKit Go.Proofs.YtilebidefogaiaaGreatDoor
set_option maxRecDepth 100000
def kindsKs : List Nat := [257, 258, 259, 260, 261, 262, 263, 264, 265, 267, 269, 270, 271, 272, 273, 274, 266, 275]
def kindsW : DataW Unit := match (Rows.laid_sizar_rules_kinds : DataW Unit) with
  | .iface _ d => d
  | d => d
theorem kinds_named : Tryz.prog.globalNamed "sizar/rules.kinds" = some 0 := by kernel_rfl
noncomputable def kindsT : TypeId := ((Tryz.prog.globals[0]?).map (·.type)).getD 0
theorem kinds_type : (Tryz.prog.globals[0]?).map (·.type) = some kindsT := by kernel_rfl
theorem kinds_expect : expect Tryz.prog kindsKs 4 kindsT kindsW.funcsOut = some kindsCells := by kernel_rfl
theorem kinds_cells {W : World} (h : laidMetH Tryz.prog [("sizar/rules.kinds", Rows.laid_sizar_rules_kinds)] W) : ∃ cs : Array Value, W.var? Tryz.prog "sizar/rules.kinds" = some cs ∧ cs.toList = kindsCells := by
  obtain ⟨g, t, cs, fuel, p, h1, h2, h3, h4⟩ := laidMetH.funcs h (n := "sizar/rules.kinds") (d := kindsW) (List.mem_singleton.2 rfl)
  rw [kinds_named] at h1
  cases h1
  rw [kinds_type] at h2
  cases h2
  exact ⟨cs, h3, expect_of 4 _ _ _ kinds_expect fuel _ _ h4⟩
theorem relCells_v {w : World} {av : Nat → Prop} {blk : Nat} {cs : Array Value} (hb : ∀ off, w.cell? ⟨blk, off, none⟩ = cs[off]?) (hav : ∀ k, ¬ av k) : ∀ (ys : List Value) (off : Nat), cs.toList.drop off = ys → RelCells w av blk off (ys.map .v)
  | [], _, _ => by simp [RelCells]
  | y :: ys, off, h => by
    have h1 : cs[off]? = some y := by
      have := congrArg List.head? h
      rw [List.head?_drop] at this
      simpa using this
    have h2 : cs.toList.drop (off + 1) = ys := by
      rw [← List.drop_drop, h]; rfl
    simp only [List.map_cons, RelCells]
    exact ⟨⟨hav blk, y, by rw [hb, h1], by simp [RelP]⟩, relCells_v hb hav ys (off + 1) h2⟩
theorem kindsD_eq : kindsD = kindsCells.map .v := rfl
theorem kinds_glo {W : World} (h : laidMetH Tryz.prog [("sizar/rules.kinds", Rows.laid_sizar_rules_kinds)] W) : ∀ g cs, Γk g = some cs → RelCells W (avs (fun _ => False) (fun _ => none) []) g 0 cs := by
  intro g cs hg
  obtain ⟨xs, h1, h2⟩ := kinds_cells h
  have h0 : g = 0 ∧ cs = kindsD := by
    unfold Γk at hg
    split at hg
    · exact ⟨rfl, (Option.some.inj hg).symm⟩
    · simp at hg
  obtain ⟨rfl, rfl⟩ := h0
  rw [kindsD_eq]
  refine relCells_v (cs := xs) (fun off => ?_) av_start _ 0 (by rw [List.drop_zero, h2])
  rw [World.var?, kinds_named] at h1
  simp only [Option.bind_some] at h1
  unfold World.cell?
  split at h1
  · rename_i c a b hh
    cases h1
    simp only [hh]
    rfl
  · simp at h1
end Go.Vi
