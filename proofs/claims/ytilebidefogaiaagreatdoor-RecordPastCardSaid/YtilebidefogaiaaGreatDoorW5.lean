/- RecordPast: part of the proof: contracts of the functions that the law reaches, and the law. No conditions beyond the given statement's own. -/
import Derived.Test.YtilebidefogaiaaGreatDoorW4
import Derived.LaidHandle
open Go Go.Proofs
namespace Go.Vi
def ptO (rs : List Int) (n : Nat) : Option PtT := bif decide (rs.getD n 0 ≥ 0) then some ⟨(n : Int), rs.getD n 0⟩ else none
theorem ptIn_eq (rs : List Int) (x to : Int) : ptIn rs x to = (List.range' x.toNat (ptHi to - x).toNat).filterMap (ptO rs) := by
  have key : ∀ (ns : List Nat) (l : List PtT), ns.foldl (fun l n => ptF (rs.getD n 0) n l) l = l ++ ns.filterMap (ptO rs) := by
    intro ns
    induction ns with
    | nil => intro l; simp
    | cons n ns ih =>
      intro l
      rw [List.foldl_cons, ih, List.filterMap_cons]
      unfold ptF ptO
      cases decide (rs.getD n 0 ≥ 0) <;> simp
  unfold ptIn
  rw [key]; simp
theorem pts_inc {rs : List Int} {x to : Int} : (ptIn rs x to).Pairwise fun p q => p.term < q.term := by
  rw [ptIn_eq]
  refine List.Pairwise.filterMap (R := fun a b => a < b) (ptO rs) ?_ (List.pairwise_lt_range' ..)
  intro a b hab p hp q hq
  unfold ptO at hp hq
  cases h1 : decide (rs.getD a 0 ≥ 0) <;> rw [h1] at hp <;> simp at hp
  cases h2 : decide (rs.getD b 0 ≥ 0) <;> rw [h2] at hq <;> simp at hq
  subst hp; subst hq
  simp; exact hab
theorem points_inc {kk ks ko frm to known : Int} {l : List FactT} : (pointsR kk ks ko frm to known l).Pairwise fun p q => p.term < q.term := pts_inc
def attO (w : WorldT) (known n : Int) (p : PtT) : Option AttT := bif attBad p then none else some (attOf w known n p)
def rdO (n : Int) (p : PtT) : List ReadT := bif attBad p then [] else rdT 1 n 0 p.term
theorem ofFold_eq (w : WorldT) (known n : Int) : ∀ (ps : List PtT) (s : RA), ps.foldl (ofIn w known n) s = (s.1 ++ ps.flatMap (rdO n), s.2 ++ ps.filterMap (attO w known n))
  | [], s => by simp
  | p :: ps, s => by
    rw [List.foldl_cons, ofFold_eq w known n ps, List.filterMap_cons, List.flatMap_cons]
    unfold ofIn attO rdO
    cases attBad p <;> simp
abbrev ptsOf (w : WorldT) (known st term n : Int) : List PtT := pointsR 5 st n 0 term known w.f
def readsOf (w : WorldT) (known st term n : Int) : List ReadT := ⟨5, st, n, 0, term⟩ :: (ptsOf w known st term n).flatMap (rdO n)
def attsOf (w : WorldT) (known st term n : Int) : List AttT := (ptsOf w known st term n).filterMap (attO w known n)
theorem ofOut_eq (w : WorldT) (known st term : Int) (s : RA) (n : Int) : ofOut w known st term s n = (s.1 ++ readsOf w known st term n, s.2 ++ attsOf w known st term n) := by
  unfold ofOut
  rw [ofFold_eq]
  simp [readsOf, attsOf]
theorem recR_eq (w : WorldT) (known st term : Int) (rs : List ReadT) : recR w known st term rs = (rs ++ rdN :: (numbersR w.f known).flatMap (readsOf w known st term), (numbersR w.f known).flatMap (attsOf w known st term)) := by
  have key : ∀ (ns : List Int) (s : RA), ns.foldl (ofOut w known st term) s = (s.1 ++ ns.flatMap (readsOf w known st term), s.2 ++ ns.flatMap (attsOf w known st term)) := by
    intro ns
    induction ns with
    | nil => intro s; simp
    | cons n ns ih => intro s; rw [List.foldl_cons, ih, ofOut_eq]; simp
  unfold recR
  rw [key]; simp
def recReads (w : WorldT) (known st term : Int) : List ReadT := rdN :: (numbersR w.f known).flatMap (readsOf w known st term)
def recRaw (w : WorldT) (known st term : Int) : List AttT := (numbersR w.f known).flatMap (attsOf w known st term)
def recA (w : WorldT) (known st term : Int) : List AttT := (recRaw w known st term).mergeSort leA
theorem attsOf_course {w : WorldT} {known st term n : Int} {a : AttT} (h : a ∈ attsOf w known st term n) : a.course = n ∧ ∃ p ∈ ptsOf w known st term n, attBad p = false ∧ a = attOf w known n p := by
  unfold attsOf at h
  obtain ⟨p, hp, he⟩ := List.mem_filterMap.1 h
  unfold attO at he
  cases hb : attBad p <;> rw [hb] at he <;> simp at he
  subst he
  exact ⟨rfl, p, hp, hb, rfl⟩
theorem rec_diff {w : WorldT} {known st term : Int} : ∀ x ∈ recRaw w known st term, ∀ y ∈ recRaw w known st term, x.term = y.term → x.course = y.course → x = y := by
  intro x hx y hy ht hc
  obtain ⟨n, hn, hx⟩ := List.mem_flatMap.1 hx
  obtain ⟨n', hn', hy⟩ := List.mem_flatMap.1 hy
  obtain ⟨e1, p, hp, _, rfl⟩ := attsOf_course hx
  obtain ⟨e2, q, hq, _, rfl⟩ := attsOf_course hy
  have : n = n' := by rw [← e1, ← e2, hc]
  subst this
  have hpq : p = q := by
    have hinc := points_inc (kk := 5) (ks := st) (ko := n) (frm := 0) (to := term) (known := known) (l := w.f)
    have key : ∀ (l : List PtT), l.Pairwise (fun p q => p.term < q.term) → ∀ p ∈ l, ∀ q ∈ l, p.term = q.term → p = q := by
      intro l
      induction l with
      | nil => intro _ p hp; simp at hp
      | cons a l ih =>
        intro hl p hp q hq e
        rw [List.pairwise_cons] at hl
        rcases List.mem_cons.1 hp with hp1 | hp1 <;> rcases List.mem_cons.1 hq with hq1 | hq1
        · rw [hp1, hq1]
        · have := hl.1 q hq1; rw [hp1] at e; omega
        · have := hl.1 p hp1; rw [hq1] at e; omega
        · exact ih hl.2 p hp1 q hq1 e
    exact key _ hinc p hp q hq ht
  rw [hpq]
theorem flatMap_len {α β : Type} (f : α → List β) (k : Nat) : ∀ l : List α, (∀ a ∈ l, (f a).length ≤ k) → (l.flatMap f).length ≤ l.length * k
  | [], _ => by simp
  | a :: l, h => by
    have := flatMap_len f k l (fun b hb => h b (by simp [hb]))
    have h1 := h a (by simp)
    simp only [List.flatMap_cons, List.length_append, List.length_cons, Nat.add_mul]
    omega
theorem recRaw_len {w : WorldT} (hw : w.ok) {known st term : Int} : (recRaw w known st term).length ≤ 70656000 := by
  have h1 := flatMap_len (attsOf w known st term) 1024 (numbersR w.f known) (fun n _ => Nat.le_trans (List.length_filterMap_le ..) pointsR_len)
  have h2 := numbersR_len (fs := w.f) (known := known)
  have h3 := hw.lf
  unfold recRaw
  have : (numbersR w.f known).length * 1024 ≤ 69000 * 1024 := Nat.mul_le_mul_right _ (by omega)
  omega
theorem recOf_ev {w : WorldT} (hw : w.ok) {known st term : Int} {rs : List ReadT} (hb : rs.length ≤ 700000000) : Ev Tryz.prog Γk 60 [.ref (.ptr 0 0), int st, int term] (lkH w known rs 0) (.agg [int st, rowsD' ((recA w known st term).map AttT.row)]) (lkH w known (rs ++ recReads w known st term) 1) := by
  have h := of_a hw (known := known) (st := st) (term := term) hb (Nat.le_trans numbersR_len hw.lf) (by rw [recR_eq]; have := recRaw_len hw (known := known) (st := st) (term := term); unfold recRaw at this; simp only; omega) (by rw [recR_eq]; exact rec_diff)
  unfold recAtts at h
  rw [recR_eq] at h
  exact h
end Go.Vi
open Go Go.Proofs
namespace Go.Vi
set_option maxRecDepth 100000
set_option maxHeartbeats 4000000
theorem recOf0 {w : WorldT} (hw : w.ok) {known st term : Int} : Ev Tryz.prog Γk 60 [.ref (.ptr 0 0), int st, int term] (lkH w known [] 0) (.agg [int st, rowsD' ((recA w known st term).map AttT.row)]) (lkH w known (recReads w known st term) 1) := by
  have := recOf_ev hw (known := known) (st := st) (term := term) (rs := []) (by simp)
  simpa using this
def badOf (st term : Int) : Bool := !(decide (st ≥ 0) && decide (st ≤ 19999)) || !(decide (term ≥ 0) && decide (term ≤ 1024))
structure RecT where
  st : Int
  a : List AttT
def RecT.l (r : RecT) : List D := [int r.st, rowsD' (r.a.map AttT.row)]
def rofR (w : WorldT) (st term known : Int) : RecT × List ReadT × Int := match badOf st term with
  | true => (⟨0, []⟩, [], 150)
  | false => (⟨st, recA w known st term⟩, recReads w known st term, 0)
def rofX (st term : Int) (rr : List ReadT) (aa : List AttT) : RecT × List ReadT × Int := match badOf st term with
  | true => (⟨0, []⟩, [], 150)
  | false => (⟨st, aa⟩, rr, 0)
noncomputable abbrev rof_a_x0 (w : WorldT) : List Blk := [.var [rowsD' (List.map CourseT.row w.c), rowsD' w.p, rowsD' (List.map SysT.row w.s), rowsD' (List.map FactT.row w.f)], .var [int 0, nq]]
theorem rof_a {w : WorldT} {st term known : Int} {rr : List ReadT} {aa : List AttT} (hof : Ev Tryz.prog Γk 60 [.ref (.ptr 0 0), int st, int term] (lkH w known [] 0) (.agg [int st, rowsD' (aa.map AttT.row)]) (lkH w known rr 1)) (h : List Blk) : (Ev Tryz.prog Γk 23 [.agg w.l, int st, int term, int known] h (.tup [.agg (rofX st term rr aa).1.l, rowsD' (rdR (rofX st term rr aa).2.1), int (rofX st term rr aa).2.2]) h) := by
  cases hc0 : !(decide (st ≥ 0) && decide (st ≤ 19999)) || !(decide (term ≥ 0) && decide (term ≤ 1024))
  · refine Ev.castH (Ev.nilW (Ev.sym0 (d := D.tup [D.agg [int st, rowsD' (List.map AttT.row aa)], rowsD' (rdR rr), int 0]) pok [.val (bool (decide (st ≥ 0) && decide (st ≤ 19999))), .val (bool (decide (term ≥ 0) && decide (term ≤ 1024))), .b false, .nx 1, .st (.nilC 2 0 5), .call (D.agg [int st, rowsD' (List.map AttT.row aa)]) [.var (WorldT.l w), .var [int 0, nq], .var [.ref (.vec 3 1), rowsD' (List.map CourseT.row w.c), rowsD' w.p, rowsD' (List.map SysT.row w.s), rowsD' (List.map FactT.row w.f), int known], .vec (vecR (rdR rr)) 1 5], .st (.frz 3 (rdR rr))] (by kernel_rfl) (.c (Ev.glob0 (Γ' := Γk) (@w59_ev (st) (0) (19999) ((rof_a_x0 w)))) (.c (show (!!(decide (st ≥ 0) && decide (st ≤ 19999))) = true → Ev Tryz.prog Γk 59 [int term, int 0, int 1024] (rof_a_x0 w) (bool (decide (term ≥ 0) && decide (term ≤ 1024))) (rof_a_x0 w) from (fun hg => (Ev.glob0 (@w59_ev (term) (0) (1024) ((rof_a_x0 w)))))) (.c hc0 (.c (show Ev Tryz.prog Γk 60 [.ref (.ptr 2 0), int st, int term] [.var (WorldT.l w), .var [int 0, nq], .var [.ref (.vec 3 0), rowsD' (List.map CourseT.row w.c), rowsD' w.p, rowsD' (List.map SysT.row w.s), rowsD' (List.map FactT.row w.f), int known], .vec [] 0 5] (D.agg [int st, rowsD' (List.map AttT.row aa)]) [.var (WorldT.l w), .var [int 0, nq], .var [.ref (.vec 3 1), rowsD' (List.map CourseT.row w.c), rowsD' w.p, rowsD' (List.map SysT.row w.s), rowsD' (List.map FactT.row w.f), int known], .vec (vecR (rdR rr)) 1 5] from (Ev.castH (Ev.frameX (args := [.ref (.ptr 2 0), int st, int term]) (H := [.var (WorldT.l w), .var [int 0, nq], .var [.ref (.vec 3 0), rowsD' (List.map CourseT.row w.c), rowsD' w.p, rowsD' (List.map SysT.row w.s), rowsD' (List.map FactT.row w.f), int known], .vec [] 0 5]) [2, 3] (@hof) (by kernel_rfl) (by kernel_rfl) (by kernel_rfl) ⟨?_, trivial⟩ ⟨?_, trivial⟩) (by kernel_rfl) (by kernel_rfl))) (.c (show vecR (rdR rr) = List.map (fun x => List.map D.p x) (rdR rr) from (by first | assumption | rfl | omega | exact vecR_map _ _ | exact inn_vecR)) (.e (D.agg [int st, rowsD' (List.map AttT.row aa)]) (.e (.ref (.ptr 2 0)) (.e (.ref (.ptr 2 0)) (.e (.ref (.ptr 2 0)) (.e (.ref (.ptr 2 0)) (.e (rowsD' (rdR rr)) (.e (rowsD' (rdR rr)) .n)))))))))))) rfl rfl h)) (by first | (have hh : badOf st term = true := hc0; simp only [rofX, hh]; rfl) | (have hh : badOf st term = false := hc0; simp only [rofX, hh]; rfl)) (by rfl) <;> (first | rfl | exact mapRL_rows _ _ | first | assumption | rfl | omega | exact vecR_map _ _ | exact inn_vecR)
  · exact Ev.castH (Ev.nilW (Ev.sym0 (d := D.tup [D.agg [int 0, nq], nq, int 150]) pok [.val (bool (decide (st ≥ 0) && decide (st ≤ 19999))), .val (bool (decide (term ≥ 0) && decide (term ≤ 1024))), .b true] (by kernel_rfl) (.c (Ev.glob0 (Γ' := Γk) (@w59_ev (st) (0) (19999) ((rof_a_x0 w)))) (.c (show (!!(decide (st ≥ 0) && decide (st ≤ 19999))) = true → Ev Tryz.prog Γk 59 [int term, int 0, int 1024] (rof_a_x0 w) (bool (decide (term ≥ 0) && decide (term ≤ 1024))) (rof_a_x0 w) from (fun hg => (Ev.glob0 (@w59_ev (term) (0) (1024) ((rof_a_x0 w)))))) (.c hc0 .n))) rfl rfl h)) (by first | (have hh : badOf st term = true := hc0; simp only [rofX, hh]; rfl) | (have hh : badOf st term = false := hc0; simp only [rofX, hh]; rfl)) (by rfl)
theorem rof_ev {w : WorldT} (hw : w.ok) {st term known : Int} (h : List Blk) : Ev Tryz.prog Γk 23 [.agg w.l, int st, int term, int known] h (.tup [.agg (rofR w st term known).1.l, rowsD' (rdR (rofR w st term known).2.1), int (rofR w st term known).2.2]) h :=
  rof_a (recOf0 hw) h
end Go.Vi
open Go Go.Proofs
namespace Go.Vi
end Go.Vi
open Go Go.Proofs
namespace Go.Vi
set_option maxRecDepth 100000
set_option maxHeartbeats 4000000
end Go.Vi
open Go Go.Proofs
namespace Go.Vi
set_option maxRecDepth 100000
set_option maxHeartbeats 4000000
end Go.Vi
open Go Go.Proofs
namespace Go.Vi
set_option maxRecDepth 100000
set_option maxHeartbeats 4000000
end Go.Vi
open Go Go.Proofs
namespace Go.Vi
set_option maxRecDepth 100000
set_option maxHeartbeats 4000000
end Go.Vi
open Go Go.Proofs
namespace Go.Vi
set_option maxRecDepth 100000
set_option maxHeartbeats 4000000
end Go.Vi
open Go Go.Proofs
namespace Go.Vi
set_option maxRecDepth 100000
set_option maxHeartbeats 4000000
end Go.Vi
open Go Go.Proofs
namespace Go.Vi
set_option maxRecDepth 100000
set_option maxHeartbeats 4000000
end Go.Vi
open Go Go.Proofs
namespace Go.Vi
set_option maxRecDepth 100000
set_option maxHeartbeats 4000000
theorem recA_len {w : WorldT} (hw : w.ok) {known st term : Int} : (recA w known st term).length ≤ 70656000 := by
  have := recRaw_len hw (known := known) (st := st) (term := term)
  unfold recA
  simpa using this
end Go.Vi
open Go Go.Proofs
namespace Go.Vi
set_option maxRecDepth 100000
set_option maxHeartbeats 4000000
end Go.Vi
open Go Go.Proofs
namespace Go.Vi
set_option maxRecDepth 100000
set_option maxHeartbeats 4000000
attribute [local irreducible] few
end Go.Vi
open Go Go.Proofs
namespace Go.Vi
set_option maxRecDepth 100000
end Go.Vi
open Go Go.Proofs
namespace Go.Vi
set_option maxRecDepth 100000
structure WorldT.ok0 (w : WorldT) : Prop where
  c : ∀ x ∈ w.c, x.ok
  s : ∀ x ∈ w.s, x.ok
  lc : Short w.c
  ls : Short w.s
  i : ∀ f ∈ w.f, f.ok
end Go.Vi
open Go Go.Proofs
namespace Go.Vi
open Go.ChangeShapes Go.WideShapes Go.ChangeAt Go.RowKit Go.Proofs.YtilebidefogaiaaGreatDoor
set_option maxRecDepth 100000
theorem cells22 : Tryz.prog.cellsOf 22 = 1 := by kernel_rfl
theorem cells23 : Tryz.prog.cellsOf 23 = 1 := by kernel_rfl
theorem cells24 : Tryz.prog.cellsOf 24 = 1 := by kernel_rfl
theorem cells26 : Tryz.prog.cellsOf 26 = 3 := by kernel_rfl
theorem cells27 : Tryz.prog.cellsOf 27 = 1 := by kernel_rfl
theorem cells29 : Tryz.prog.cellsOf 29 = 4 := by kernel_rfl
theorem cells56 : Tryz.prog.cellsOf 56 = 3 := by kernel_rfl
theorem cells58 : Tryz.prog.cellsOf 58 = 2 := by kernel_rfl
theorem cells60 : Tryz.prog.cellsOf 60 = 8 := by kernel_rfl
theorem cells102' : Tryz.prog.cellsOf 102 = 4 := by kernel_rfl
theorem cells109 : Tryz.prog.cellsOf 109 = 1 := by kernel_rfl
theorem cells111 : Tryz.prog.cellsOf 111 = 6 := by kernel_rfl
theorem cells113 : Tryz.prog.cellsOf 113 = 16 := by kernel_rfl
theorem bytes76 : Tryz.prog.bytesOf 76 = 96 := by kernel_rfl
theorem bytes111 : Tryz.prog.bytesOf 111 = 72 := by kernel_rfl
theorem bytes113 : Tryz.prog.bytesOf 113 = 184 := by kernel_rfl
theorem shp_key {n : Nat} {ds : List Dp} (h : Shp Tryz.prog n 56 ds) : ∃ a b c, ds = [vi a, vi b, vi c] ∧ I64 a ∧ I64 b ∧ I64 c := by
  cases n with
  | zero => exact h.elim
  | succ n =>
    simp only [Shp, Tryz.underlying56, List.forall_mem_cons, cells3, cells56] at h
    obtain ⟨hl, h1, h2, h3, _⟩ := h
    obtain ⟨a, e1, ha⟩ := shp_int h1
    obtain ⟨b, e2, hb⟩ := shp_int h2
    obtain ⟨c, e3, hc⟩ := shp_int h3
    match ds, hl with
    | [p, q, r], _ =>
      simp at e1 e2 e3
      subst e1; subst e2; subst e3
      exact ⟨a, b, c, rfl, ha, hb, hc⟩
theorem shp_span {n : Nat} {ds : List Dp} (h : Shp Tryz.prog n 58 ds) : ∃ a b, ds = [vi a, vi b] ∧ I64 a ∧ I64 b := by
  cases n with
  | zero => exact h.elim
  | succ n =>
    simp only [Shp, Tryz.underlying58, List.forall_mem_cons, cells3, cells58] at h
    obtain ⟨hl, h1, h2, _⟩ := h
    obtain ⟨a, e1, ha⟩ := shp_int h1
    obtain ⟨b, e2, hb⟩ := shp_int h2
    match ds, hl with
    | [p, q], _ =>
      simp at e1 e2
      subst e1; subst e2
      exact ⟨a, b, rfl, ha, hb⟩
theorem shp_fact {n : Nat} {ds : List Dp} (h : Shp Tryz.prog n 60 ds) : ∃ f : FactT, ds = f.row ∧ f.ok := by
  cases n with
  | zero => exact h.elim
  | succ n =>
    simp only [Shp, Tryz.underlying60, List.forall_mem_cons, cells3, cells56, cells58, cells60] at h
    obtain ⟨hl, h1, h2, h3, h4, h5, _⟩ := h
    obtain ⟨a, b, c, e1, ha, hb, hc⟩ := shp_key h1
    obtain ⟨d, e2, hd⟩ := shp_int h2
    obtain ⟨x, y, e3, hx, hy⟩ := shp_span h3
    obtain ⟨k, e4, hk⟩ := shp_int h4
    obtain ⟨m, e5, hm⟩ := shp_int h5
    match ds, hl with
    | [p1, p2, p3, p4, p5, p6, p7, p8], _ =>
      simp at e1 e2 e3 e4 e5
      obtain ⟨rfl, rfl, rfl⟩ := e1
      obtain ⟨rfl, rfl⟩ := e3
      subst e2; subst e4; subst e5
      exact ⟨⟨a, b, c, d, x, y, k, m⟩, rfl, ha, hb, hc, hd, hx, hy, hk, hm⟩
theorem shp_facts {n : Nat} {ds : List Dp} (h : Shp Tryz.prog n 27 ds) : ∃ l : List FactT, ds = [.sl (l.map FactT.row)] ∧ (∀ c ∈ l, c.ok) := by
  cases n with
  | zero => exact h.elim
  | succ n =>
    simp only [Shp, Tryz.underlying27] at h
    obtain ⟨es, rfl, _, he⟩ := h
    obtain ⟨l, rfl, hl⟩ := map_of (row := FactT.row) (ok := FactT.ok) (fun r hr => shp_fact (he r hr))
    exact ⟨l, rfl, hl⟩
theorem rulesOk_of : ∀ {ks : List RuleT}, (∀ k ∈ ks, k.ok) → rulesOk ks
  | [], _ => trivial
  | k :: ks, h => ⟨h k (List.mem_cons_self ..), rulesOk_of fun x hx => h x (List.mem_cons_of_mem _ hx)⟩
theorem shp_rule : ∀ {n : Nat} {ds : List Dp}, Shp Tryz.prog n 111 ds → ∃ r : RuleT, ds = r.row ∧ r.ok
  | 0, _, h => h.elim
  | 1, _, h => by
    simp only [Shp, Tryz.underlying111, List.forall_mem_cons] at h
    exact h.2.1.elim
  | n + 2, ds, h => by
    rw [Shp, Tryz.underlying111] at h
    simp only [List.forall_mem_cons, cells3, cells9, cells109, cells111] at h
    obtain ⟨hl, h1, h2, h3, h4, h5, h6, _⟩ := h
    obtain ⟨a, e1, ha⟩ := shp_int h1
    obtain ⟨b, e2, hb⟩ := shp_int h2
    obtain ⟨s, e3⟩ := shp_str h3
    obtain ⟨c, e4, hc⟩ := shp_int h4
    obtain ⟨d, e5, hd⟩ := shp_int h5
    rw [Shp, Tryz.underlying109] at h6
    simp only [bytes111] at h6
    obtain ⟨es, e6, hb6, he⟩ := h6
    obtain ⟨l, rfl, hk⟩ := map_of (row := RuleT.row) (ok := RuleT.ok) (fun r hr => shp_rule (he r hr))
    have hs : Short l := by have := short_of hb6 (by omega); simpa [Short] using this
    match ds, hl with
    | [p1, p2, p3, p4, p5, p6], _ =>
      simp at e1 e2 e3 e4 e5 e6
      subst e1; subst e2; subst e3; subst e4; subst e5; subst e6
      refine ⟨.mk a b s c d l, ?_, ?_⟩
      · rw [RuleT.row, ruleRows_eq]
      · rw [RuleT.ok]; exact ⟨⟨ha, hb, hc, hd, hs⟩, rulesOk_of hk⟩
theorem shp_course {n : Nat} {ds : List Dp} (h : Shp Tryz.prog n 113 ds) : ∃ c : CourseT, ds = c.row ∧ c.ok := by
  cases n with
  | zero => exact h.elim
  | succ n =>
    rw [Shp, Tryz.underlying113] at h
    simp only [List.forall_mem_cons, cells3, cells9, cells111, cells113] at h
    obtain ⟨hl, h1, h2, h3, h4, h5, h6, _⟩ := h
    obtain ⟨s, e1⟩ := shp_str h1
    obtain ⟨a, e2, _⟩ := shp_int h2
    obtain ⟨b, e3, _⟩ := shp_int h3
    obtain ⟨c, e4, _⟩ := shp_int h4
    obtain ⟨r, e5, hr⟩ := shp_rule h5
    obtain ⟨t, e6, ht⟩ := shp_rule h6
    rw [← RuleT.fl_row] at e5 e6
    match ds, hl with
    | [p1, p2, p3, p4, p5, p6, p7, p8, p9, p10, p11, p12, p13, p14, p15, p16], _ =>
      simp [RuF.row] at e1 e2 e3 e4 e5 e6
      obtain ⟨rfl, rfl, rfl, rfl, rfl, rfl⟩ := e5
      obtain ⟨rfl, rfl, rfl, rfl, rfl, rfl⟩ := e6
      subst e1; subst e2; subst e3; subst e4
      exact ⟨⟨s, a, b, c, r, t⟩, rfl, hr, ht⟩
theorem shp_courses {n : Nat} {ds : List Dp} (h : Shp Tryz.prog n 22 ds) : ∃ l : List CourseT, ds = [.sl (l.map CourseT.row)] ∧ (∀ c ∈ l, c.ok) ∧ Short l := by
  cases n with
  | zero => exact h.elim
  | succ n =>
    simp only [Shp, Tryz.underlying22, bytes113] at h
    obtain ⟨es, rfl, hb, he⟩ := h
    obtain ⟨l, rfl, hl⟩ := map_of (row := CourseT.row) (ok := CourseT.ok) (fun r hr => shp_course (he r hr))
    exact ⟨l, rfl, hl, by have := short_of hb (by omega); simpa [Short] using this⟩
theorem shp_clauseT {n : Nat} {ds : List Dp} (h : Shp Tryz.prog n 102 ds) : ∃ c : ClauseT, ds = c.row ∧ True := by
  cases n with
  | zero => exact h.elim
  | succ n =>
    simp only [Shp, Tryz.underlying102, List.forall_mem_cons, cells3, cells102'] at h
    obtain ⟨hl, h1, h2, h3, h4, _⟩ := h
    obtain ⟨a, e1, _⟩ := shp_int h1
    obtain ⟨b, e2, _⟩ := shp_int h2
    obtain ⟨c, e3, _⟩ := shp_int h3
    obtain ⟨d, e4, _⟩ := shp_int h4
    match ds, hl with
    | [p, q, r, t], _ =>
      simp at e1 e2 e3 e4
      subst e1; subst e2; subst e3; subst e4
      exact ⟨⟨a, b, c, d⟩, rfl, trivial⟩
theorem shp_sysT {n : Nat} {ds : List Dp} (h : Shp Tryz.prog n 76 ds) : ∃ s : SysT, ds = s.row ∧ s.ok := by
  cases n with
  | zero => exact h.elim
  | succ n =>
    simp only [Shp, Tryz.underlying76, List.forall_mem_cons, cells72, cells73, cells74, cells76] at h
    obtain ⟨hl, h1, h2, h3, h4, _⟩ := h
    obtain ⟨a, e1, a1, a2⟩ := shp_classes h1
    obtain ⟨b, e2, b1, b2⟩ := shp_fees h2
    obtain ⟨c, e3, c1, c2⟩ := shp_classes h3
    have h5 : ∃ l : List ClauseT, (List.take 1 (List.drop 3 ds)) = [.sl (l.map ClauseT.row)] ∧ Short l := by
      cases n with
      | zero => exact h4.elim
      | succ n =>
        simp only [Shp, Tryz.underlying74, bytes102] at h4
        obtain ⟨es, e, hb, he⟩ := h4
        obtain ⟨l, rfl, _⟩ := map_of (row := ClauseT.row) (ok := fun _ => True) (fun r hr => shp_clauseT (he r hr))
        exact ⟨l, e, by have := short_of hb (by omega); simpa [Short] using this⟩
    obtain ⟨d, e4, d1⟩ := h5
    match ds, hl with
    | [p, q, r, t], _ =>
      simp at e1 e2 e3 e4
      subst e1; subst e2; subst e3; subst e4
      exact ⟨⟨a, b, c, d⟩, rfl, ⟨a1, c1, b1, a2, c2, b2, by simpa [Short, SysT.sys] using d1⟩⟩
theorem shp_systems {n : Nat} {ds : List Dp} (h : Shp Tryz.prog n 24 ds) : ∃ l : List SysT, ds = [.sl (l.map SysT.row)] ∧ (∀ c ∈ l, c.ok) ∧ Short l := by
  cases n with
  | zero => exact h.elim
  | succ n =>
    simp only [Shp, Tryz.underlying24, bytes76] at h
    obtain ⟨es, rfl, hb, he⟩ := h
    obtain ⟨l, rfl, hl⟩ := map_of (row := SysT.row) (ok := SysT.ok) (fun r hr => shp_sysT (he r hr))
    exact ⟨l, rfl, hl, by have := short_of hb (by omega); simpa [Short] using this⟩
theorem shp_progs {n : Nat} {ds : List Dp} (h : Shp Tryz.prog n 23 ds) : ∃ l, ds = [.sl l] := by
  cases n with
  | zero => exact h.elim
  | succ n =>
    simp only [Shp, Tryz.underlying23] at h
    obtain ⟨es, rfl, _⟩ := h
    exact ⟨es, rfl⟩
theorem shp_world {n : Nat} {ds : List Dp} (h : Shp Tryz.prog n 29 ds) : ∃ w : WorldT, ds.map .p = w.l ∧ w.ok0 := by
  cases n with
  | zero => exact h.elim
  | succ n =>
    rw [Shp, Tryz.underlying29] at h
    simp only [List.forall_mem_cons, cells26, cells27, cells29] at h
    obtain ⟨hl, h1, h2, _⟩ := h
    obtain ⟨f, e4, hf⟩ := shp_facts h2
    cases n with
    | zero => exact h1.elim
    | succ n =>
      rw [Shp, Tryz.underlying26] at h1
      simp only [List.forall_mem_cons, cells22, cells23, cells24, cells26] at h1
      obtain ⟨_, g1, g2, g3, _⟩ := h1
      obtain ⟨c, e1, c1, c2⟩ := shp_courses g1
      obtain ⟨p, e2⟩ := shp_progs g2
      obtain ⟨s, e3, s1, s2⟩ := shp_systems g3
      match ds, hl with
      | [x, y, z, t], _ =>
        simp at e1 e2 e3 e4
        subst e1; subst e2; subst e3; subst e4
        exact ⟨⟨c, p, s, f⟩, rfl, ⟨c1, s1, c2, s2, hf⟩⟩
end Go.Vi
open Go Go.Proofs
namespace Go.Vi
open Go.ChangeShapes Go.WideShapes Go.ChangeAt Go.RowKit Go.Proofs.YtilebidefogaiaaGreatDoor
set_option maxRecDepth 100000
def plainW : List TypeId := [3, 4, 9, 22, 23, 24, 26, 27, 29, 30, 35, 56, 58, 60, 72, 73, 74, 76, 87, 91, 102, 109, 111, 113, 294, 296, 298, 300]
theorem plain29 : plainB Tryz.prog plainW = true := by kernel_rfl
theorem arg_world {H : Type} {enc : TypeId × Value → H} {W : World} {base : Nat} {v : Value} {d : DataW H} {p : List MemPlace}
    (hok : Value.okWide Tryz.prog W .any base 29 v) (h : DataW.Trod enc Tryz.prog W 0 (fun _ => true) true 29 v d p) (hw : (d.weights Tryz.prog 29).all (· ≤ reachBytes) = true) :
    ∃ w : WorldT, w.ok0 ∧ Rel W (avs (fun _ => False) (fun _ => none) []) (fun _ => none) [] (.agg w.l) v := by
  unfold Value.okWide at hok
  rw [Tryz.underlying29] at hok
  obtain ⟨cs, rfl, _, _⟩ := hok
  obtain ⟨fuel, hf⟩ := h
  obtain ⟨ds, h1, h2⟩ := open_plain plain29 av_start fuel 29 _ d p (by decide) hf hw
  obtain ⟨w, e, hw0⟩ := shp_world h1
  refine ⟨w, hw0, ?_⟩
  rw [← e]
  simp only [Rel]
  exact ⟨cs, rfl, h2.relL⟩
end Go.Vi
open Go Go.Proofs
namespace Go.Vi
open Go.ChangeShapes Go.WideShapes Go.ChangeAt Go.RowKit Go.Proofs.YtilebidefogaiaaGreatDoor
set_option maxRecDepth 100000
def lookF (P : Program) (ks : List Nat) (bs : List UInt8) : Option Nat := ks.find? fun k => match P.funcs[k]? with
  | some fn => (fn.name.toUTF8.data.toList == bs) && (P.funcNamed fn.name == some k)
  | none => false
theorem utf8_inj {s t : String} (h : s.toUTF8.data.toList = t.toUTF8.data.toList) : s = t := by
  have h1 : s.toUTF8 = t.toUTF8 := by
    cases hs : s.toUTF8; cases ht : t.toUTF8
    rw [hs, ht] at h
    congr 1
    exact Array.toList_inj.1 h
  exact String.toByteArray_inj.1 h1
theorem lookF_tells {P : Program} {ks : List Nat} {t : TypeId} {v : Value} {b : UInt8} {r : List UInt8} {k : Nat} (hv : funcToken P (t, v) = b :: r) (hk : lookF P ks (b :: r) = some k) : v = .func (.func k) #[] #[] := by
  obtain ⟨f, fn, rfl, h1, h2, h3⟩ := funcToken_tells hv
  have h4 := List.find?_some hk
  split at h4
  · rename_i fn' hfn
    simp only [Bool.and_eq_true, beq_iff_eq] at h4
    have : fn.name = fn'.name := utf8_inj (h3.trans h4.1.symm)
    rw [this, h4.2] at h2
    cases h2
    rfl
  · simp at h4
def expect (P : Program) (ks : List Nat) : Nat → TypeId → DataW (List UInt8) → Option (List Value)
  | 0, _, _ => none
  | n + 1, t, d => match P.underlying t with
    | some .bool => match d with
      | .lit (.bool b) => some [.bool b]
      | _ => none
    | some (.func ..) => match d with
      | .nil => some [.nilFunc]
      | .held (b :: r) => (lookF P ks (b :: r)).map fun k => [.func (.func k) #[] #[]]
      | _ => none
    | some (.struct fs) => match d with
      | .agg ds => if contigB P fs.toList 0 (P.cellsOf t) then (zipE (fun f d => expect P ks n f d) (fs.toList.map (·.type)) ds) else none
      | _ => none
    | some (.array m e) => match d with
      | .agg ds => if decide (P.cellsOf t = m * P.cellsOf e) = true then zipE (fun f d => expect P ks n f d) (List.replicate m e) ds else none
      | _ => none
    | _ => none
where
  zipE (g : TypeId → DataW (List UInt8) → Option (List Value)) : List TypeId → List (DataW (List UInt8)) → Option (List Value)
    | [], [] => some []
    | t :: ts, d :: ds => (g t d).bind fun a => (zipE g ts ds).map fun b => a ++ b
    | _, _ => none
theorem fields_of {P : Program} {g : TypeId → DataW (List UInt8) → Option (List Value)} {tr : TypeId → List Value → Option (DataW (List UInt8) × List MemPlace)} {cs : List Value}
    (hg : ∀ t d ys, g t d = some ys → ∀ c p, tr t c = some (d, p) → c = ys) : ∀ (fs : List Field) (acc : Nat) (xs : List (DataW (List UInt8) × List MemPlace)) (ys : List Value),
    (fs.mapM fun f => tr f.type ((cs.drop f.offset).take (P.cellsOf f.type))) = some xs → contigB P fs acc cs.length = true → expect.zipE g (fs.map (·.type)) (xs.map (·.1)) = some ys → cs.drop acc = ys
  | [], acc, xs, ys, hm, hc, hz => by
    simp at hm
    subst hm
    simp [expect.zipE] at hz
    subst hz
    simp [contigB] at hc
    simp [hc]
  | f :: fs, acc, xs, ys, hm, hc, hz => by
    simp only [List.mapM_cons, Option.bind_eq_bind, Option.bind_eq_some_iff, Option.pure_def, Option.some.injEq] at hm
    obtain ⟨x, hx, xs', hxs, rfl⟩ := hm
    simp only [contigB, Bool.and_eq_true, beq_iff_eq] at hc
    simp only [List.map_cons, expect.zipE, Option.bind_eq_some_iff, Option.map_eq_some_iff] at hz
    obtain ⟨a, ha, b, hb, rfl⟩ := hz
    have h1 := hg _ _ _ ha _ x.2 (by rw [hx])
    have h2 := fields_of hg fs _ xs' b hxs hc.2 hb
    rw [← h1, ← h2, hc.1, ← List.drop_drop, List.take_append_drop]
theorem elems_of {e : TypeId} {c : Nat} {g : TypeId → DataW (List UInt8) → Option (List Value)} {tr : TypeId → List Value → Option (DataW (List UInt8) × List MemPlace)} {cs : List Value}
    (hg : ∀ t d ys, g t d = some ys → ∀ c p, tr t c = some (d, p) → c = ys) : ∀ (n k : Nat) (xs : List (DataW (List UInt8) × List MemPlace)) (ys : List Value),
    ((List.range' k n).mapM fun i => tr e ((cs.drop (i * c)).take c)) = some xs → cs.length = (k + n) * c → expect.zipE g (List.replicate n e) (xs.map (·.1)) = some ys → cs.drop (k * c) = ys
  | 0, k, xs, ys, hm, hc, hz => by
    simp at hm
    subst hm
    simp [expect.zipE] at hz
    subst hz
    exact List.drop_eq_nil_of_le (by rw [hc]; simp)
  | n + 1, k, xs, ys, hm, hc, hz => by
    rw [List.range'_succ] at hm
    simp only [List.mapM_cons, Option.bind_eq_bind, Option.bind_eq_some_iff, Option.pure_def, Option.some.injEq] at hm
    obtain ⟨x, hx, xs', hxs, rfl⟩ := hm
    rw [List.replicate_succ] at hz
    simp only [List.map_cons, expect.zipE, Option.bind_eq_some_iff, Option.map_eq_some_iff] at hz
    obtain ⟨a, ha, b, hb, rfl⟩ := hz
    have h1 := hg _ _ _ ha _ x.2 (by rw [hx])
    have h2 := elems_of hg n (k + 1) xs' b hxs (by rw [hc]; congr 1; omega) hb
    rw [← h1, ← h2, Nat.add_mul, Nat.one_mul, ← List.drop_drop, List.take_append_drop]
theorem expect_of {P : Program} {ks : List Nat} {w : World} {sp : Nat → Bool} : ∀ (n : Nat) (t : TypeId) (d : DataW (List UInt8)) (ys : List Value), expect P ks n t d = some ys → ∀ (fuel : Nat) (cs : List Value) (p : List MemPlace), DataW.trod (funcToken P) P w 0 sp true fuel t cs = some (d, p) → cs = ys
  | 0, _, _, _, h => by simp [expect] at h
  | n + 1, t, d, ys, h => by
    intro fuel cs p ht
    cases fuel with
    | zero => simp [DataW.trod] at ht
    | succ fuel =>
      unfold expect at h
      unfold DataW.trod at ht
      cases hu : P.underlying t with
      | none => rw [hu] at h; simp at h
      | some td =>
        rw [hu] at h ht
        cases td with
        | bool =>
          simp only at h ht
          split at h
          · split at ht <;> simp_all
          · simp at h
        | func a b c =>
          simp only at h ht
          split at h
          · split at ht <;> simp_all
          · rename_i b r
            obtain ⟨k, hk, rfl⟩ := Option.map_eq_some_iff.1 h
            split at ht
            all_goals (try (simp_all; done))
            · rename_i fn first captured _ _
              simp only [if_true, Option.some.injEq, Prod.mk.injEq, DataW.held.injEq] at ht
              rw [lookF_tells ht.1 hk]
          · simp at h
        | struct fs =>
          simp only at h ht
          split at h
          · split at h
            · rename_i hc
              split at ht
              · rename_i hl
                obtain ⟨xs, hxs, he⟩ := Option.map_eq_some_iff.1 ht
                simp only [Prod.mk.injEq, DataW.agg.injEq] at he
                obtain ⟨rfl, _⟩ := he
                have := fields_of (tr := fun t c => DataW.trod (funcToken P) P w 0 sp true fuel t c) (fun t d ys hg c p hp => expect_of n t d ys hg fuel c p hp) fs.toList 0 xs ys hxs (by rw [hl]; exact hc) h
                simpa using this
              · simp at ht
            · simp at h
          · simp at h
        | array m e =>
          simp only at h ht
          split at h
          · split at ht
            · rename_i hl
              obtain ⟨xs, hxs, he⟩ := Option.map_eq_some_iff.1 ht
              simp only [Prod.mk.injEq, DataW.agg.injEq] at he
              obtain ⟨rfl, _⟩ := he
              split at h
              · rename_i hc
                rw [List.range_eq_range'] at hxs
                have := elems_of (tr := fun t c => DataW.trod (funcToken P) P w 0 sp true fuel t c) (fun t d ys hg c p hp => expect_of n t d ys hg fuel c p hp) m 0 xs ys hxs (by rw [hl, Nat.zero_add]; exact of_decide_eq_true hc) h
                simpa using this
              · simp at h
            · simp at ht
          · simp at h
        | _ => simp at h
end Go.Vi
open Go Go.Proofs
namespace Go.Vi
open Go.ChangeShapes Go.WideShapes Go.ChangeAt Go.RowKit Go.Proofs.YtilebidefogaiaaGreatDoor
set_option maxRecDepth 100000
def kindsKs : List Nat := [257, 258, 259, 260, 261, 262, 263, 264, 265, 267, 269, 270, 271, 272, 273, 274, 266, 275]
def kindsW : DataW Unit := match (Rows.laid_sizar_rules_kinds : DataW Unit) with
  | .iface _ d => d
  | d => d
theorem kinds_named : Tryz.prog.globalNamed "sizar/rules.kinds" = some 0 := by kernel_rfl
noncomputable def kindsT : TypeId := ((Tryz.prog.globals[0]?).map (·.type)).getD 0
theorem kinds_type : (Tryz.prog.globals[0]?).map (·.type) = some kindsT := by kernel_rfl
theorem kinds_expect : expect Tryz.prog kindsKs 4 kindsT kindsW.funcsOut = some kindsCells := by kernel_rfl
theorem kinds_cells {W : World} (h : laidMetH Tryz.prog [("sizar/rules.kinds", Rows.laid_sizar_rules_kinds)] W) : ∃ cs : Array Value, W.var? Tryz.prog "sizar/rules.kinds" = some cs ∧ cs.toList = kindsCells := by
  obtain ⟨g, t, cs, fuel, p, h1, h2, h3, h4⟩ := laidMetH.funcs h (n := "sizar/rules.kinds") (d := kindsW) (List.mem_singleton.2 rfl)
  rw [kinds_named] at h1
  cases h1
  rw [kinds_type] at h2
  cases h2
  exact ⟨cs, h3, expect_of 4 _ _ _ kinds_expect fuel _ _ h4⟩
theorem relCells_v {w : World} {av : Nat → Prop} {blk : Nat} {cs : Array Value} (hb : ∀ off, w.cell? ⟨blk, off, none⟩ = cs[off]?) (hav : ∀ k, ¬ av k) : ∀ (ys : List Value) (off : Nat), cs.toList.drop off = ys → RelCells w av blk off (ys.map .v)
  | [], _, _ => by simp [RelCells]
  | y :: ys, off, h => by
    have h1 : cs[off]? = some y := by
      have := congrArg List.head? h
      rw [List.head?_drop] at this
      simpa using this
    have h2 : cs.toList.drop (off + 1) = ys := by
      rw [← List.drop_drop, h]; rfl
    simp only [List.map_cons, RelCells]
    exact ⟨⟨hav blk, y, by rw [hb, h1], by simp [RelP]⟩, relCells_v hb hav ys (off + 1) h2⟩
theorem kindsD_eq : kindsD = kindsCells.map .v := rfl
theorem kinds_glo {W : World} (h : laidMetH Tryz.prog [("sizar/rules.kinds", Rows.laid_sizar_rules_kinds)] W) : ∀ g cs, Γk g = some cs → RelCells W (avs (fun _ => False) (fun _ => none) []) g 0 cs := by
  intro g cs hg
  obtain ⟨xs, h1, h2⟩ := kinds_cells h
  have h0 : g = 0 ∧ cs = kindsD := by
    unfold Γk at hg
    split at hg
    · exact ⟨rfl, (Option.some.inj hg).symm⟩
    · simp at hg
  obtain ⟨rfl, rfl⟩ := h0
  rw [kindsD_eq]
  refine relCells_v (cs := xs) (fun off => ?_) av_start _ 0 (by rw [List.drop_zero, h2])
  rw [World.var?, kinds_named] at h1
  simp only [Option.bind_some] at h1
  unfold World.cell?
  split at h1
  · rename_i c a b hh
    cases h1
    simp only [hh]
    rfl
  · simp at h1
end Go.Vi
open Go Go.Proofs
namespace Go.Vi
set_option maxRecDepth 100000
set_option maxHeartbeats 4000000
def few16 (w : WorldT) : Bool := decide ((w.f.map FactT.row).length ≤ (30 : Int)) && decide ((w.c.map CourseT.row).length ≤ (20 : Int)) && decide (w.p.length ≤ (8 : Int)) && decide ((w.s.map SysT.row).length ≤ (6 : Int))
theorem few16_ev {w : WorldT} (h : List Blk) : (Ev Tryz.prog Γ0 18 [.agg w.l] h (bool (few16 w)) h) := by
  exact Ev.castH (Ev.sym0 (d := bool (decide ((↑(List.length (List.map FactT.row w.f)) : Int) ≤ 30) && decide ((↑(List.length (List.map CourseT.row w.c)) : Int) ≤ 20) && decide ((↑(List.length w.p) : Int) ≤ 8) && decide ((↑(List.length (List.map SysT.row w.s)) : Int) ≤ 6))) pok [] (by kernel_rfl) .n rfl rfl h) (by rfl) (by rfl)
def attNe (a b : AttT) : Bool := !(a.course == b.course && (a.term == b.term && (a.grade == b.grade && (a.campus == b.campus && (a.credits == b.credits && true)))))
abbrev smS (l l2 : List (List Dp)) (i : Int) : AS := { t := mkT 26 0 [(0, rowsD' l), (1, rowsD' l2), (4, bool false), (5, int i)], h := [], m := [] }
abbrev smX : Unit → Exit × AS := fun _ => (.ret, { t := mkT 26 0 [(4, bool false)], h := [], m := [] })
def smF (p : AttT × AttT) (_ : Unit) : Unit ⊕ Unit := bif attNe p.1 p.2 then .inr () else .inl ()
theorem sm_body {l l2 : List (List Dp)} {a b : AttT} {i : Nat} (hr : RowAt (i : Int) l a.row 5) (hr2 : RowAt (i : Int) l2 b.row 5) (hlt : decide ((i : Int) < (l.length : Int)) = true) (hw : IntKind.i64.wrap ((i : Int) + 1) = ((i + 1 : Nat) : Int)) : (CW Tryz.prog Γ0 [] false (sub Tryz.f24 0) (smS l l2 i) (bodyFin (fun _ => smS l l2 ((i + 1 : Nat) : Int)) smX (smF (a, b) ())).1 (bodyFin (fun _ => smS l l2 ((i + 1 : Nat) : Int)) smX (smF (a, b) ())).2) := by
  cases hc0 : !(a.course == b.course && (a.term == b.term && (a.grade == b.grade && (a.campus == b.campus && (a.credits == b.credits && true)))))
  · refine CW.cast (CW.symX (s' := { t := mkT 26 0 [(0, rowsD' l), (1, rowsD' l2), (4, bool false), (5, int (IntKind.wrap IntKind.i64 ((↑i : Int) + 1)))], h := [], m := [] }) (e := Exit.normal) pok [.st (.mask [0, 1, 4, 5])] [.b true, .row (AttT.row a), .row (AttT.row b), .b false] (by kernel_rfl) (.c hlt (.c hr (.c hr2 (.c hc0 .n))))) ?_ ?_ <;> (first | (have hh : attNe a b = true := hc0; simp only [smF, hh, cond_true, bodyFin]; first | done | rfl) | (have hh : attNe a b = false := hc0; simp only [smF, hh, cond_false, bodyFin, hw]; first | done | rfl))
  · refine CW.cast (CW.symX (s' := { t := mkT 26 0 [(4, bool false)], h := [], m := [] }) (e := Exit.ret) pok [.st (.mask [4])] [.b true, .row (AttT.row a), .row (AttT.row b), .b true] (by kernel_rfl) (.c hlt (.c hr (.c hr2 (.c hc0 .n))))) ?_ ?_ <;> (first | (have hh : attNe a b = true := hc0; simp only [smF, hh, cond_true, bodyFin]; first | done | rfl) | (have hh : attNe a b = false := hc0; simp only [smF, hh, cond_false, bodyFin, hw]; first | done | rfl))
theorem sm_last {l l2 : List (List Dp)} {i : Nat} (hlt : decide ((i : Int) < (l.length : Int)) = false) : (CW Tryz.prog Γ0 [] false (sub Tryz.f24 0) (smS l l2 i) (.exit 0) { t := mkT 26 0 [], h := [], m := [] }) := by
  exact CW.cast (CW.symX (s' := { t := mkT 26 0 [], h := [], m := [] }) (e := Exit.exit 0) pok [.st (.mask [])] [.b false] (by kernel_rfl) (.c hlt .n)) (by rfl) (by rfl)
def smFin (l l2 : List AttT) : Exit × AS := eachFin (.exit 0) (fun _ : Unit => { t := mkT 26 0 [], h := [], m := [] }) smX (forL smF (l.zip l2) ())
theorem sm_cw {l l2 : List AttT} (he : l.length = l2.length) (hl : Short l) :
    CW Tryz.prog Γ0 [] false (.loop (sub Tryz.f24 0)) (smS (l.map AttT.row) (l2.map AttT.row) 0) (smFin l l2).1 (smFin l l2).2 := by
  have hlen : (l.zip l2).length = l.length := by simp [he]
  have := CW.each (P := Tryz.prog) (Γ := Γ0) (h0 := []) (rd := false) (c := sub Tryz.f24 0) (l.zip l2) smF (fun i _ => smS (l.map AttT.row) (l2.map AttT.row) (i : Int)) (.exit 0) (fun _ : Unit => { t := mkT 26 0 [], h := [], m := [] }) smX (fun _ _ => True) (by simp) (fun _ => by simp) ?_ ?_ () trivial
  · exact this
  · intro i p u hp _
    obtain ⟨hi, hpe⟩ := List.getElem?_eq_some_iff.1 hp
    rw [hlen] at hi
    have h1 : l[i]? = some p.1 := by subst hpe; simp [List.getElem?_eq_getElem hi]
    have h2 : l2[i]? = some p.2 := by subst hpe; simp [List.getElem?_eq_getElem (he ▸ hi)]
    exact ⟨fun _ _ => trivial, sm_body (rowAt h1 rfl) (rowAt h2 rfl) (lt_len AttT.row hi) (wrap_succ hi hl)⟩
  · intro u _
    rw [hlen]
    exact sm_last (ge_len AttT.row l)
def sameIn (l l2 : List AttT) : Bool := match forL smF (l.zip l2) () with
  | .inl _ => true
  | .inr _ => false
theorem same_in {l l2 : List AttT} (he : l.length = l2.length) (hl : Short l) (hn : (((l.map AttT.row).length : Int) != ((l2.map AttT.row).length : Int)) = false) (h : List Blk) : (Ev Tryz.prog Γ0 24 [rowsD' (l.map AttT.row), rowsD' (l2.map AttT.row)] h (bool (sameIn l l2)) h) := by
  have hl0 := (@sm_cw (l) (l2) (he) (hl))
  unfold smFin at hl0
  revert hl0
  cases ho1 : forL smF (List.zip l l2) () with
  | inl o1_0_0 =>
    intro hl0
    exact Ev.castH (Ev.sym0 (d := bool true) pok [.b false, .sum [0, 1, 4, 5] (Exit.exit 0) { t := mkT 26 0 [], h := [], m := [] }] (by kernel_rfl) (.c hn (.c hl0 .n)) rfl rfl h) (by simp only [sameIn, ho1]; first | done | rfl) (by rfl)
  | inr o1_1_0 =>
    intro hl0
    exact Ev.castH (Ev.sym0 (d := bool false) pok [.b false, .sum [0, 1, 4, 5] (Exit.ret) { t := mkT 26 0 [(4, bool false)], h := [], m := [] }] (by kernel_rfl) (.c hn (.c hl0 .n)) rfl rfl h) (by simp only [sameIn, ho1]; first | done | rfl) (by rfl)
theorem sameIn_self (l : List AttT) : sameIn l l = true := by
  have key : ∀ l : List AttT, forL smF (l.zip l) () = .inl () := by
    intro l
    induction l with
    | nil => rfl
    | cons a l ih =>
      have : attNe a a = false := by simp [attNe]
      simp only [List.zip_cons_cons, forL, smF, this, cond_false]
      exact ih
  simp [sameIn, key]
theorem same_self {l l2 : List AttT} (he : l = l2) (hl : Short l) (h : List Blk) : Ev Tryz.prog Γ0 24 [rowsD' (l.map AttT.row), rowsD' (l2.map AttT.row)] h (bool true) h := by
  subst he
  have := same_in (l := l) (l2 := l) rfl hl (by simp) h
  rwa [sameIn_self] at this
theorem same_self_rows {l : List AttT} {rs : List (List Dp)} (he : rs = l.map AttT.row) (hl : Short l) (h : List Blk) : Ev Tryz.prog Γ0 24 [rowsD' (l.map AttT.row), rowsD' rs] h (bool true) h := by
  subst he
  exact same_self rfl hl h
end Go.Vi
open Go Go.Proofs
namespace Go.Vi
set_option maxRecDepth 100000
set_option maxHeartbeats 4000000
abbrev rpH (w : WorldT) (st : Int) (a b : List (List Dp)) : List Blk := [.var w.l, .var [int st, rowsD' a], .var [int st, rowsD' b]]
abbrev rpS (w : WorldT) (st term : Int) (a b : List (List Dp)) (n i : Int) : AS := { t := mkT 101 0 [(2, int term), (10, bool false), (11, .ref (.ptr 1 0)), (14, .ref (.ptr 2 0)), (17, int n), (18, int i)], h := rpH w st a b, m := [] }
abbrev rpE (w : WorldT) (st term : Int) (a b : List (List Dp)) (n : Int) : AS := { t := mkT 101 0 [(2, int term), (10, bool false), (14, .ref (.ptr 2 0)), (17, int n)], h := rpH w st a b, m := [] }
theorem rp0_body {w : WorldT} {st term : Int} {a b : List (List Dp)} {x : AttT} {n : Int} {i : Nat} (hr : RowAt (i : Int) a x.row 5) (hlt : decide ((i : Int) < n) = true) (hx : decide (x.term ≥ term) = false) (hw : IntKind.i64.wrap ((i : Int) + 1) = ((i + 1 : Nat) : Int)) : (CW Tryz.prog Γk [] false (sub Tryz.f4 0) (rpS w st term a b n i) .normal (rpS w st term a b n ((i + 1 : Nat) : Int))) := by
  refine CW.cast (CW.symX (s' := { t := mkT 101 0 [(2, int term), (10, bool false), (11, .ref (.ptr 1 0)), (14, .ref (.ptr 2 0)), (17, int n), (18, int (IntKind.wrap IntKind.i64 ((↑i : Int) + 1)))], h := [.var [rowsD' (List.map CourseT.row w.c), rowsD' w.p, rowsD' (List.map SysT.row w.s), rowsD' (List.map FactT.row w.f)], .var [int st, rowsD' a], .var [int st, rowsD' b]], m := [] }) (e := Exit.normal) pok [.st (.mask [2, 10, 11, 14, 17, 18])] [.b true, .row (AttT.row x), .b false] (by kernel_rfl) (.c hlt (.c hr (.c hx .n)))) ?_ ?_ <;> (first | rfl | (simp only [hw]; rfl))
theorem rp0_last {w : WorldT} {st term : Int} {a b : List (List Dp)} {n : Int} {i : Nat} (hlt : decide ((i : Int) < n) = false) : (CW Tryz.prog Γk [] false (sub Tryz.f4 0) (rpS w st term a b n i) (.exit 0) (rpE w st term a b n)) := by
  exact CW.cast (CW.symX (s' := { t := mkT 101 0 [(2, int term), (10, bool false), (14, .ref (.ptr 2 0)), (17, int n)], h := [.var [rowsD' (List.map CourseT.row w.c), rowsD' w.p, rowsD' (List.map SysT.row w.s), rowsD' (List.map FactT.row w.f)], .var [int st, rowsD' a], .var [int st, rowsD' b]], m := [] }) (e := Exit.exit 0) pok [.st (.mask [2, 10, 14, 17])] [.b false] (by kernel_rfl) (.c hlt .n)) (by rfl) (by rfl)
theorem rp0_cw {w : WorldT} {st term : Int} {a : List AttT} {b : List (List Dp)} (hl : Short a) (hx : ∀ x ∈ a, x.term < term) :
    CW Tryz.prog Γk [] false (.loop (sub Tryz.f4 0)) (rpS w st term (a.map AttT.row) b (a.map AttT.row).length 0) (.exit 0) (rpE w st term (a.map AttT.row) b (a.map AttT.row).length) := by
  have := CW.each (P := Tryz.prog) (Γ := Γk) (h0 := []) (rd := false) (c := sub Tryz.f4 0) (σ := Unit) (ρ := Empty) a (fun _ _ => .inl ()) (fun i _ => rpS w st term (a.map AttT.row) b (a.map AttT.row).length (i : Int)) (.exit 0) (fun _ => rpE w st term (a.map AttT.row) b (a.map AttT.row).length) (fun r => r.elim) (fun _ _ => True) (by simp) (fun r => r.elim) ?_ ?_ () trivial
  · rw [forL_fold] at this
    exact this
  · intro i x u hp _
    have hi := (List.getElem?_eq_some_iff.1 hp).1
    exact ⟨fun _ _ => trivial, rp0_body (rowAt hp rfl) (lt_len AttT.row hi) (decide_eq_false (by have := hx x (List.mem_of_getElem? hp); omega)) (wrap_succ hi hl)⟩
  · intro u _
    exact rp0_last (ge_len AttT.row a)
abbrev rqS (w : WorldT) (st term : Int) (a b : List (List Dp)) (i : Int) : AS := { t := mkT 101 0 [(2, int term), (10, bool false), (14, .ref (.ptr 2 0)), (19, int i)], h := rpH w st a b, m := [] }
theorem rq_body {w : WorldT} {st term : Int} {a b : List (List Dp)} {x : AttT} {i i' : Int} (hr : RowAt i b x.row 5) (hlt : decide (i < (b.length : Int)) = true) (hx : decide (x.term < term) = false) (hw : IntKind.i64.wrap (i + 1) = i') : (CW Tryz.prog Γk [] false (sub Tryz.f4 1) (rqS w st term a b i) .normal (rqS w st term a b i')) := by
  refine CW.cast (CW.symX (s' := { t := mkT 101 0 [(2, int term), (10, bool false), (14, .ref (.ptr 2 0)), (19, int (IntKind.wrap IntKind.i64 (i + 1)))], h := [.var [rowsD' (List.map CourseT.row w.c), rowsD' w.p, rowsD' (List.map SysT.row w.s), rowsD' (List.map FactT.row w.f)], .var [int st, rowsD' a], .var [int st, rowsD' b]], m := [] }) (e := Exit.normal) pok [.st (.mask [2, 10, 14, 19])] [.b true, .row (AttT.row x), .b false] (by kernel_rfl) (.c hlt (.c hr (.c hx .n)))) ?_ ?_ <;> (first | rfl | (simp only [hw]; rfl))
theorem rq_last {w : WorldT} {st term : Int} {a b : List (List Dp)} {i : Int} (hlt : decide (i < (b.length : Int)) = false) : (CW Tryz.prog Γk [] false (sub Tryz.f4 1) (rqS w st term a b i) (.exit 2) { t := mkT 101 0 [], h := rpH w st a b, m := [] }) := by
  exact CW.cast (CW.symX (s' := { t := mkT 101 0 [], h := [.var [rowsD' (List.map CourseT.row w.c), rowsD' w.p, rowsD' (List.map SysT.row w.s), rowsD' (List.map FactT.row w.f)], .var [int st, rowsD' a], .var [int st, rowsD' b]], m := [] }) (e := Exit.exit 2) pok [.st (.mask [])] [.b false] (by kernel_rfl) (.c hlt .n)) (by rfl) (by rfl)
theorem rq_cw {w : WorldT} {st term : Int} {a b : List AttT} {rs : List (List Dp)} (hb : Short (a ++ b)) (hx : ∀ x ∈ b, term ≤ x.term) :
    CW Tryz.prog Γk [] false (.loop (sub Tryz.f4 1)) (rqS w st term rs ((a ++ b).map AttT.row) (a.map AttT.row).length) (.exit 2) { t := mkT 101 0 [], h := rpH w st rs ((a ++ b).map AttT.row), m := [] } := by
  have hlen : ((a ++ b).map AttT.row).length = a.length + b.length := by simp
  have hs : (a ++ b).length < 4611686018427387904 := by have := hb; unfold Short at this; omega
  have := CW.each (P := Tryz.prog) (Γ := Γk) (h0 := []) (rd := false) (c := sub Tryz.f4 1) (σ := Unit) (ρ := Empty) b (fun _ _ => .inl ()) (fun i _ => rqS w st term rs ((a ++ b).map AttT.row) (((a.length + i : Nat)) : Int)) (.exit 2) (fun _ => { t := mkT 101 0 [], h := rpH w st rs ((a ++ b).map AttT.row), m := [] }) (fun r => r.elim) (fun _ _ => True) (by simp) (fun r => r.elim) ?_ ?_ () trivial
  · rw [forL_fold] at this
    rw [List.length_map]
    exact this
  · intro i x u hp _
    obtain ⟨hi, hxe⟩ := List.getElem?_eq_some_iff.1 hp
    have h2 : (a ++ b)[a.length + i]? = some x := by rw [List.getElem?_append_right (by omega)]; simpa using hp
    refine ⟨fun _ _ => trivial, rq_body (rowAt h2 rfl) (decide_eq_true (by rw [hlen]; omega)) (decide_eq_false (by have := hx x (List.mem_of_getElem? hp); omega)) ?_⟩
    rw [wrap_i64 (by omega) (by simp at hs; omega)]
    omega
  · intro u _
    exact rq_last (decide_eq_false (by rw [hlen]; omega))
end Go.Vi
open Go Go.Proofs
namespace Go.Vi
theorem filter_filterMap' {α β : Type} (g : α → Option β) (q : β → Bool) (q' : α → Bool) (h : ∀ a b, g a = some b → q b = q' a) : ∀ l : List α, (l.filterMap g).filter q = (l.filter q').filterMap g
  | [] => rfl
  | a :: l => by
    have ih := filter_filterMap' g q q' h l
    cases hg : g a with
    | none =>
      rw [List.filterMap_cons_none hg, ih, List.filter_cons]
      cases q' a
      · rfl
      · simp only [if_true]; rw [List.filterMap_cons_none hg]
    | some b =>
      rw [List.filterMap_cons_some hg, List.filter_cons, List.filter_cons, h a b hg, ih]
      cases q' a
      · rfl
      · simp only [if_true]; rw [List.filterMap_cons_some hg]
theorem range_lt (n m : Nat) (q : Nat → Bool) (hmn : m ≤ n) (hq : ∀ k, k < n → (q k = true ↔ k < m)) : (List.range' 0 n).filter q = List.range' 0 m := by
  have e : List.range' 0 n = List.range' 0 m ++ List.range' m (n - m) := by
    have := List.range'_append_1 (s := 0) (m := m) (n := n - m)
    rw [Nat.zero_add] at this
    rw [this]
    congr 1; omega
  rw [e, List.filter_append]
  have h1 : (List.range' 0 m).filter q = List.range' 0 m := List.filter_eq_self.2 fun k hk => by
    have : k < m := by simpa using hk
    exact (hq k (by omega)).2 this
  have h2 : (List.range' m (n - m)).filter q = [] := List.filter_eq_nil_iff.2 fun k hk => by
    have := List.mem_range'_1.1 hk
    intro hc
    have := (hq k (by omega)).1 hc
    omega
  rw [h1, h2, List.append_nil]
theorem ptsOf_past {w : WorldT} {known st term later n : Int} (h : term ≤ later) : (ptsOf w known st later n).filter (fun p => decide (p.term < term)) = ptsOf w known st term n := by
  unfold ptsOf pointsR
  have h0 : ptLo 0 = 0 := rfl
  rw [h0, ptIn_eq, ptIn_eq]
  rw [filter_filterMap' (q' := fun k : Nat => decide ((k : Int) < term))]
  · congr 1
    simp only [Int.toNat_zero, Int.sub_zero]
    refine range_lt _ _ _ ?_ ?_
    · unfold ptHi; split <;> split <;> omega
    · intro k hk
      rw [decide_eq_true_eq]
      unfold ptHi at hk ⊢
      split at hk <;> split <;> omega
  · intro k p hp
    unfold ptO at hp
    cases hc : decide ((valuesR 5 st n known w.f).getD k 0 ≥ 0) <;> rw [hc] at hp <;> simp at hp
    subst hp; rfl
theorem attsOf_past {w : WorldT} {known st term later n : Int} (h : term ≤ later) : (attsOf w known st later n).filter (fun a => decide (a.term < term)) = attsOf w known st term n := by
  unfold attsOf
  rw [filter_filterMap' (q' := fun p => decide (p.term < term)), ptsOf_past h]
  intro p a ha
  unfold attO at ha
  cases hb : attBad p <;> rw [hb] at ha <;> simp at ha
  subst ha; rfl
theorem recRaw_past {w : WorldT} {known st term later : Int} (h : term ≤ later) : (recRaw w known st later).filter (fun a => decide (a.term < term)) = recRaw w known st term := by
  unfold recRaw
  rw [List.filter_flatMap]
  congr 1
  funext n
  exact attsOf_past h
theorem leA_iff (a b : AttT) : leA a b = true ↔ (a.term < b.term ∨ (a.term = b.term ∧ a.course ≤ b.course)) := by
  have h1 : leA a b = true ↔ (ltOf ordA) b a = false := by unfold leA; simp
  rw [h1, ltA_fls]
  omega
theorem leA_trans (a b c : AttT) (h1 : leA a b = true) (h2 : leA b c = true) : leA a c = true := by
  rw [leA_iff] at *; omega
theorem leA_total (a b : AttT) : (leA a b || leA b a) = true := by
  rw [Bool.or_eq_true, leA_iff, leA_iff]; omega
theorem recA_sorted {w : WorldT} {known st term : Int} : (recA w known st term).Pairwise fun a b => leA a b = true := List.pairwise_mergeSort leA_trans leA_total _
theorem recA_perm {w : WorldT} {known st term : Int} : (recA w known st term).Perm (recRaw w known st term) := List.mergeSort_perm _ _
theorem recA_past {w : WorldT} {known st term later : Int} (h : term ≤ later) : (recA w known st later).filter (fun a => decide (a.term < term)) = recA w known st term := by
  refine List.Perm.eq_of_pairwise (le := fun a b => leA a b = true) ?_ ((recA_sorted).filter _) recA_sorted ?_
  · intro a b ha hb h1 h2
    rw [leA_iff] at h1 h2
    have ha' : a ∈ recRaw w known st later := recA_perm.mem_iff.1 (List.mem_filter.1 ha).1
    have hb' : b ∈ recRaw w known st later := by
      have := recA_perm.mem_iff.1 hb
      rw [← recRaw_past h] at this
      exact (List.mem_filter.1 this).1
    exact rec_diff a ha' b hb' (by omega) (by omega)
  · have := (recA_perm (w := w) (known := known) (st := st) (term := later)).filter (fun a => decide (a.term < term))
    rw [recRaw_past h] at this
    exact this.trans recA_perm.symm
theorem split_sorted (t : Int) : ∀ l : List AttT, (l.Pairwise fun a b => leA a b = true) → l = l.filter (fun a => decide (a.term < t)) ++ l.filter (fun a => !decide (a.term < t))
  | [], _ => rfl
  | a :: l, h => by
    rw [List.pairwise_cons] at h
    have ih := split_sorted t l h.2
    by_cases ha : a.term < t
    · simp only [List.filter_cons, ha, decide_true, if_true, Bool.not_true, Bool.false_eq_true, if_false, List.cons_append]
      rw [← ih]
    · have hno : l.filter (fun a => decide (a.term < t)) = [] := List.filter_eq_nil_iff.2 fun b hb => by
        have := h.1 b hb
        rw [leA_iff] at this
        simp only [decide_eq_true_eq]; omega
      simp only [List.filter_cons, ha, decide_false, Bool.false_eq_true, if_false, Bool.not_false, if_true]
      rw [hno] at ih ⊢
      rw [List.nil_append] at ih ⊢
      rw [← ih]
theorem recA_begin {w : WorldT} {known st term later : Int} (h : term ≤ later) : ∃ rest, recA w known st later = recA w known st term ++ rest ∧ (∀ a ∈ recA w known st term, a.term < term) ∧ ∀ a ∈ rest, term ≤ a.term := by
  refine ⟨(recA w known st later).filter (fun a => !decide (a.term < term)), ?_, ?_, ?_⟩
  · have := split_sorted term _ (recA_sorted (w := w) (known := known) (st := st) (term := later))
    rw [recA_past h] at this
    exact this
  · intro a ha
    rw [← recA_past h] at ha
    simpa using (List.mem_filter.1 ha).2
  · intro a ha
    have := (List.mem_filter.1 ha).2
    simp only [Bool.not_eq_true', decide_eq_false_iff_not] at this
    omega
end Go.Vi
open Go Go.Proofs
namespace Go.Vi
set_option maxRecDepth 100000
set_option maxHeartbeats 4000000
noncomputable abbrev rp_out_x0 (w : WorldT) : List Blk := [.var [rowsD' (List.map CourseT.row w.c), rowsD' w.p, rowsD' (List.map SysT.row w.s), rowsD' (List.map FactT.row w.f)]]
theorem rp_out {w : WorldT} {st term later known : Int} (hsane : ∀ h, Ev Tryz.prog Γk 17 [] h (bool true) h) (ho : (!few16 w || decide (later < term)) = true) (h : List Blk) : (Ev Tryz.prog Γk 4 [.agg w.l, int st, int term, int later, int known] h (bool true) h) := by
  exact Ev.castH (Ev.sym0 (d := bool true) pok [.val (bool true), .b false, .val (bool (few16 w)), .b true] (by kernel_rfl) (.c (@hsane ((rp_out_x0 w))) (.c (show (!true) = false from rfl) (.c (Ev.glob0 (Γ' := Γk) (@few16_ev (w) ((rp_out_x0 w)))) (.c ho .n)))) rfl rfl h) (by rfl) (by rfl)
noncomputable abbrev rp_err_x0 (w : WorldT) (ra : RecT) : List Blk := [.var [rowsD' (List.map CourseT.row w.c), rowsD' w.p, rowsD' (List.map SysT.row w.s), rowsD' (List.map FactT.row w.f)], .var [int ra.st, rowsD' (List.map AttT.row ra.a)]]
noncomputable abbrev rp_err_x1 (w : WorldT) : List Blk := [.var [rowsD' (List.map CourseT.row w.c), rowsD' w.p, rowsD' (List.map SysT.row w.s), rowsD' (List.map FactT.row w.f)]]
theorem rp_err {w : WorldT} {st term later known : Int} {ra rb : RecT} {qa qb : List ReadT} {ea eb : Int} (hsane : ∀ h, Ev Tryz.prog Γk 17 [] h (bool true) h) (ho : (!few16 w || decide (later < term)) = false) (he : (ea != 0 || eb != 0) = true)
  (h1 : ∀ h, Ev Tryz.prog Γk 23 [.agg w.l, int st, int term, int known] h (.tup [.agg ra.l, rowsD' (rdR qa), int ea]) h) (h2 : ∀ h, Ev Tryz.prog Γk 23 [.agg w.l, int st, int later, int known] h (.tup [.agg rb.l, rowsD' (rdR qb), int eb]) h) (h : List Blk) : (Ev Tryz.prog Γk 4 [.agg w.l, int st, int term, int later, int known] h (bool true) h) := by
  exact Ev.castH (Ev.sym0 (d := bool true) pok [.val (bool true), .b false, .val (bool (few16 w)), .b false, .val (D.tup [D.agg [int ra.st, rowsD' (List.map AttT.row ra.a)], rowsD' (rdR qa), int ea]), .val (D.tup [D.agg [int rb.st, rowsD' (List.map AttT.row rb.a)], rowsD' (rdR qb), int eb]), .b true] (by kernel_rfl) (.c (@hsane ((rp_err_x1 w))) (.c (show (!true) = false from rfl) (.c (Ev.glob0 (Γ' := Γk) (@few16_ev (w) ((rp_err_x1 w)))) (.c ho (.c (@h1 ((rp_err_x1 w))) (.c (@h2 ((rp_err_x0 w ra))) (.c he .n))))))) rfl rfl h) (by rfl) (by rfl)
noncomputable abbrev rp_ok_x0 (w : WorldT) (s2 : Int) (a : List AttT) (rest : List AttT) : List Blk := [.var [rowsD' (List.map CourseT.row w.c), rowsD' w.p, rowsD' (List.map SysT.row w.s), rowsD' (List.map FactT.row w.f)], .var [int s2, rowsD' (List.map AttT.row a)], .var [int s2, rowsD' (List.map AttT.row (a ++ rest))]]
noncomputable abbrev rp_ok_x1 (w : WorldT) (s2 : Int) (a : List AttT) : List Blk := [.var [rowsD' (List.map CourseT.row w.c), rowsD' w.p, rowsD' (List.map SysT.row w.s), rowsD' (List.map FactT.row w.f)], .var [int s2, rowsD' (List.map AttT.row a)]]
noncomputable abbrev rp_ok_x2 (w : WorldT) : List Blk := [.var [rowsD' (List.map CourseT.row w.c), rowsD' w.p, rowsD' (List.map SysT.row w.s), rowsD' (List.map FactT.row w.f)]]
theorem rp_ok {w : WorldT} {st s2 term later known : Int} {a rest : List AttT} {qa qb : List ReadT} (hsane : ∀ h, Ev Tryz.prog Γk 17 [] h (bool true) h) (ho : (!few16 w || decide (later < term)) = false) (hl : Short a) (hs : Short (a ++ rest)) (hx : ∀ x ∈ a, x.term < term) (hy : ∀ x ∈ rest, term ≤ x.term)
  (hsame : ∀ h, Ev Tryz.prog Γk 24 [rowsD' (a.map AttT.row), rowsD' (List.take (Int.toNat ((a.map AttT.row).length : Int) - Int.toNat 0) (List.drop (Int.toNat 0) ((a ++ rest).map AttT.row)))] h (bool true) h)
  (hlen : (decide ((((a ++ rest).map AttT.row).length : Int) < ((a.map AttT.row).length : Int)) || !true) = false)
  (h1 : ∀ h, Ev Tryz.prog Γk 23 [.agg w.l, int st, int term, int known] h (.tup [.agg [int s2, rowsD' (a.map AttT.row)], rowsD' (rdR qa), int 0]) h) (h2 : ∀ h, Ev Tryz.prog Γk 23 [.agg w.l, int st, int later, int known] h (.tup [.agg [int s2, rowsD' ((a ++ rest).map AttT.row)], rowsD' (rdR qb), int 0]) h) (h : List Blk) : (Ev Tryz.prog Γk 4 [.agg w.l, int st, int term, int later, int known] h (bool true) h) := by
  have hl0 := (@rp0_cw (w) (s2) (term) (a) (List.map AttT.row (a ++ rest)) (hl) (hx))
  have hl1 := (@rq_cw (w) (s2) (term) (a) (rest) (List.map AttT.row a) (hs) (hy))
  exact Ev.castH (Ev.sym0 (d := bool true) pok [.val (bool true), .b false, .val (bool (few16 w)), .b false, .val (D.tup [D.agg [int s2, rowsD' (List.map AttT.row a)], rowsD' (rdR qa), int 0]), .val (D.tup [D.agg [int s2, rowsD' (List.map AttT.row (a ++ rest))], rowsD' (rdR qb), int 0]), .b false, .val (bool true), .b false, .sum [2, 10, 11, 14, 17, 18] (Exit.exit 0) { t := mkT 101 0 [(2, int term), (10, bool false), (14, .ref (.ptr 2 0)), (17, int (↑(List.length (List.map AttT.row a)) : Int))], h := (rp_ok_x0 w s2 a rest), m := [] }, .sum [2, 10, 14, 19] (Exit.exit 2) { t := mkT 101 0 [], h := (rp_ok_x0 w s2 a rest), m := [] }] (by kernel_rfl) (.c (@hsane ((rp_ok_x2 w))) (.c (show (!true) = false from rfl) (.c (Ev.glob0 (Γ' := Γk) (@few16_ev (w) ((rp_ok_x2 w)))) (.c ho (.c (@h1 ((rp_ok_x2 w))) (.c (@h2 ((rp_ok_x1 w s2 a))) (.c (show (0 != 0 || 0 != 0) = false from rfl) (.c (show (!decide ((↑(List.length (List.map AttT.row (a ++ rest))) : Int) < (↑(List.length (List.map AttT.row a)) : Int))) = true → (slOk 0 (↑(List.length (List.map AttT.row a)) : Int) (List.length (List.map AttT.row (a ++ rest))) && true && (true || Option.isSome (Option.map (evalD Γk (List.map stripD (D.agg (WorldT.l w) :: int st :: int term :: int later :: int known :: .ref (.ptr 0 0) :: D.any :: D.any :: D.any :: D.any :: bool false :: .ref (.ptr 1 0) :: rowsD' (rdR qa) :: int 0 :: .ref (.ptr 2 0) :: rowsD' (rdR qb) :: int 0 :: int (↑(List.length (List.map AttT.row a)) : Int) :: D.any :: D.any :: bool true :: (bool !true) :: D.agg (WorldT.l w) :: bool (few16 w) :: (bool !few16 w) :: (bool !few16 w) :: D.grd (!!few16 w) (int later) :: D.grd (!!few16 w) (int term) :: D.grd (!!few16 w) (bool (decide (later < term))) :: bool (!few16 w || decide (later < term)) :: D.tup [D.agg [int s2, rowsD' (List.map AttT.row a)], rowsD' (rdR qa), int 0] :: D.agg (WorldT.l w) :: int st :: int term :: int known :: mkT 66 0 [(0, D.tup [D.agg [int s2, rowsD' (List.map AttT.row a)], rowsD' (rdR qa), int 0]), (1, D.agg [int s2, rowsD' (List.map AttT.row a)]), (2, rowsD' (rdR qa)), (3, int 0), (4, D.tup [D.agg [int s2, rowsD' (List.map AttT.row (a ++ rest))], rowsD' (rdR qb), int 0]), (5, D.agg (WorldT.l w)), (6, int st), (7, int later), (8, int known), (9, D.tup [D.agg [int s2, rowsD' (List.map AttT.row (a ++ rest))], rowsD' (rdR qb), int 0]), (10, D.agg [int s2, rowsD' (List.map AttT.row (a ++ rest))]), (11, rowsD' (rdR qb)), (12, int 0), (13, int 0), (14, bool (0 != 0)), (15, bool (0 != 0)), (16, D.grd (!0 != 0) (int 0)), (17, D.grd (!0 != 0) (bool (0 != 0))), (18, bool (0 != 0 || 0 != 0)), (19, .ref (.ptr 1 1)), (20, rowsD' (List.map AttT.row a)), (21, int (↑(List.length (List.map AttT.row a)) : Int)), (22, .ref (.ptr 2 1)), (23, rowsD' (List.map AttT.row (a ++ rest))), (24, int (↑(List.length (List.map AttT.row (a ++ rest))) : Int)), (25, int (↑(List.length (List.map AttT.row a)) : Int)), (26, bool (decide ((↑(List.length (List.map AttT.row (a ++ rest))) : Int) < (↑(List.length (List.map AttT.row a)) : Int)))), (27, bool (decide ((↑(List.length (List.map AttT.row (a ++ rest))) : Int) < (↑(List.length (List.map AttT.row a)) : Int)))), (28, D.grd (!decide ((↑(List.length (List.map AttT.row (a ++ rest))) : Int) < (↑(List.length (List.map AttT.row a)) : Int))) (.ref (.ptr 1 1))), (29, D.grd (!decide ((↑(List.length (List.map AttT.row (a ++ rest))) : Int) < (↑(List.length (List.map AttT.row a)) : Int))) (rowsD' (List.map AttT.row a))), (30, D.grd (!decide ((↑(List.length (List.map AttT.row (a ++ rest))) : Int) < (↑(List.length (List.map AttT.row a)) : Int))) (.ref (.ptr 2 1))), (31, D.grd (!decide ((↑(List.length (List.map AttT.row (a ++ rest))) : Int) < (↑(List.length (List.map AttT.row a)) : Int))) (rowsD' (List.map AttT.row (a ++ rest)))), (32, D.grd (!decide ((↑(List.length (List.map AttT.row (a ++ rest))) : Int) < (↑(List.length (List.map AttT.row a)) : Int))) (int (↑(List.length (List.map AttT.row a)) : Int)))]))) (some (Operand.tmp 67)))) && List.all (List.map AttT.row (a ++ rest)) fun r => decide (List.length r = 5)) = true from (fun hg => (by first | assumption | rfl | (simp_all; done) | (simp [slOk, AttT.row]; done) | (simp [slOk, AttT.row]; omega)))) (.c (show (!decide ((↑(List.length (List.map AttT.row (a ++ rest))) : Int) < (↑(List.length (List.map AttT.row a)) : Int))) = true → Ev Tryz.prog Γk 24 [rowsD' (List.map AttT.row a), rowsD' (List.take (Int.toNat (↑(List.length (List.map AttT.row a)) : Int) - Int.toNat 0) (List.drop (Int.toNat 0) (List.map AttT.row (a ++ rest))))] (rp_ok_x0 w s2 a rest) (bool true) (rp_ok_x0 w s2 a rest) from (fun hg => (@hsame ((rp_ok_x0 w s2 a rest))))) (.c hlen (.c hl0 (.c hl1 .n)))))))))))) rfl rfl h) (by rfl) (by rfl)
end Go.Vi
open Go Go.Proofs
namespace Go.Vi
set_option maxRecDepth 100000
def parseF : List Dp → Option FactT
  | [.v (.int .i64 a), .v (.int .i64 b), .v (.int .i64 c), .v (.int .i64 d), .v (.int .i64 e), .v (.int .i64 f), .v (.int .i64 g), .v (.int .i64 i)] => some ⟨a, b, c, d, e, f, g, i⟩
  | _ => none
def parseFs : List (List Dp) → Option (List FactT)
  | [] => some []
  | r :: rs => match parseF r, parseFs rs with
    | some x, some xs => some (x :: xs)
    | _, _ => none
theorem parseF_eq {r : List Dp} {f : FactT} (h : parseF r = some f) : r = f.row := by
  unfold parseF at h
  split at h
  · cases h; rfl
  · simp at h
theorem parseFs_eq : ∀ {rs : List (List Dp)} {fs : List FactT}, parseFs rs = some fs → rs = fs.map FactT.row
  | [], fs, h => by simp only [parseFs, Option.some.injEq] at h; subst h; rfl
  | r :: rs, fs, h => by
    simp only [parseFs] at h
    split at h
    · rename_i x xs h1 h2
      simp only [Option.some.injEq] at h
      subst h
      rw [parseF_eq h1, parseFs_eq h2]; rfl
    · simp at h
def vlAt (s : VS) (n : Nat) : Int := bif s.2.getD n false then maxV (s.1.getD n default).value else -1
def valuesF (kk ks ko known : Int) (l : List FactT) : List Int := (List.range 1024).map (vlAt (l.foldl (vaGo kk ks ko known) vZ))
theorem vlStep_get (s : VS) (rs : List Int) (h : rs.length = 1024) (n i : Nat) : (vlStep s rs n).getD i 0 = if i = n ∧ n < 1024 then vlAt s n else rs.getD i 0 := by
  unfold vlAt vlStep
  by_cases hn : n < 1024
  · by_cases hi : i = n
    · subst hi
      cases s.2.getD i false <;> simp [List.getD, h, hn]
    · have hi' : n ≠ i := fun e => hi e.symm
      cases s.2.getD n false <;> simp [List.getD, hi, hi']
  · cases s.2.getD n false <;> simp [List.getD, hn, List.set_eq_of_length_le (show rs.length ≤ n by omega)]
theorem vlStep_len (s : VS) (rs : List Int) (n : Nat) : (vlStep s rs n).length = rs.length := by
  unfold vlStep; cases s.2.getD n false <;> simp
theorem valuesF_eq (kk ks ko known : Int) (l : List FactT) : valuesR kk ks ko known l = valuesF kk ks ko known l := by
  unfold valuesR valuesF vlAll
  generalize l.foldl (vaGo kk ks ko known) vZ = s
  have hz : (List.replicate 1024 (0 : Int)).length = 1024 := List.length_replicate ..
  have hz2 : ∀ i, (List.replicate 1024 (0 : Int)).getD i 0 = 0 := fun i => by
    rw [List.getD, List.getElem?_replicate]; split <;> rfl
  revert hz hz2
  generalize List.replicate 1024 (0 : Int) = z
  intro hz hz2
  have key : ∀ m, m ≤ 1024 → ((List.range m).foldl (vlStep s) z).length = 1024 ∧ ∀ i, ((List.range m).foldl (vlStep s) z).getD i 0 = if i < m then vlAt s i else 0 := by
    intro m
    induction m with
    | zero => intro _; exact ⟨hz, fun i => by rw [if_neg (Nat.not_lt_zero i)]; exact hz2 i⟩
    | succ m ih =>
      intro hm
      obtain ⟨h1, h2⟩ := ih (by omega)
      rw [List.range_succ, List.foldl_append]
      simp only [List.foldl_cons, List.foldl_nil]
      refine ⟨by rw [vlStep_len]; exact h1, fun i => ?_⟩
      rw [vlStep_get s _ h1, h2]
      by_cases hi : i = m
      · subst hi
        rw [if_pos ⟨rfl, by omega⟩, if_pos (by omega)]
      · rw [if_neg (fun h => hi h.1)]
        by_cases hlt : i < m
        · rw [if_pos hlt, if_pos (by omega)]
        · rw [if_neg hlt, if_neg (by omega)]
  obtain ⟨h1, h2⟩ := key 1024 (Nat.le_refl _)
  refine List.ext_getElem (by rw [h1]; simp) fun i hi1 hi2 => ?_
  have := h2 i
  rw [List.getD, List.getElem?_eq_getElem hi1] at this
  rw [h1] at hi1
  rw [if_pos hi1] at this
  simpa using this
def shortB (n : Nat) : Bool := Nat.blt n 1000000
def wvGo (args : List D) (h : List Blk) : List D → Option CR
  | [.p (.sl rows), .agg [.p (.v (.int .i64 kk)), .p (.v (.int .i64 ks)), .p (.v (.int .i64 ko))], .p (.v (.int .i64 known))] => match parseFs rows with
    | some l => match shortB l.length with
      | true => some (.ret (.agg ((valuesF kk ks ko known l).map int)) h)
      | false => none
    | none => none
  | _ => none
def wv : FnF := fun f args h => match Nat.beq f 159 with
  | true => wvGo args h (frzL h args)
  | false => none
theorem flat_ints : ∀ l : List Int, flatL (l.map int) = true
  | [] => rfl
  | _ :: l => by simp [flatL, flatD, flat_ints l]
theorem intC_flat (l : List Int) : (intC l).flatten = l.map int := by
  unfold intC
  induction l with
  | nil => rfl
  | cons a l ih => simp only [List.map_cons, List.flatten_cons, ih]; rfl
theorem wv_ok {Γ : Glob} : FnOk Tryz.prog Γ wv := by
  intro f args h r hw
  unfold wv at hw
  split at hw
  · rename_i hf
    have hf := Nat.eq_of_beq_eq_true hf
    subst hf
    refine ⟨by kernel_rfl, ?_⟩
    unfold wvGo at hw
    split at hw
    · rename_i rows kk ks ko known hfr
      split at hw
      · rename_i l hl
        split at hw
        · rename_i hs
          cases hw
          refine VRes.of_ev (Ev.frzArgs (by rw [hfr]; rfl) (flat_ints _) ?_)
          rw [hfr, parseFs_eq hl]
          have hsh : Short l := by
            unfold shortB at hs
            have : l.length < 1000000 := by simpa [Nat.blt_eq] using hs
            unfold Short; omega
          have := values_ev (kk := kk) (ks := ks) (ko := ko) (known := known) hsh []
          rw [intC_flat, valuesF_eq] at this
          exact Ev.glob0 this
        · simp at hw
      · simp at hw
    · simp at hw
  · simp at hw
end Go.Vi
open Go Go.Proofs
namespace Go.Vi
set_option maxRecDepth 1000000
set_option maxHeartbeats 0
def s16w0 : Memo := ⟨60, [.ref (.ptr 76 0), int 3, int 3], [.gone, .gone, .gone, .gone, .gone, .gone, .gone, .gone, .vec [[int 12, int 0, int 0, int 0, int 1]] 0 5, .var [int 3, nq], .var [int 0, nq], .var [nq, int 0, int 0, int 0], .vec [[int 7], [int 7]] 0 1, .var [nq, int 0, int 0, int 0], .gone, .gone, .gone, .gone, .gone, .gone, .gone, .gone, .gone, .vec [[int 12, int 0, int 0, int 0, int 1], [int 12, int 0, int 0, int 0, int 1]] 1 5, .gone, .gone, .gone, .gone, .var [nq, int 0, int 0, int 1], .var [int 5, int 3, int 7, int (-1), int 5, int 6, int 8, int 0], .var [int 5, int 3, int 7, int 25, int 2, int 3, int 9, int 0], .vec [[strD ⟨#[65]⟩, int 7, int 4, int 0, int 1, int 0, strD ⟨#[]⟩, int 0, int 0, nq, int 2, int 0, strD ⟨#[]⟩, int 0, int 0, nq]] 0 16, .var [.ref (.vec 31 0), nq, nq, .ref (.vec 34 0)], .var [int 0, int 1024], .vec [[int 1, int 7, int 0, int 0, int 0, int 1024, int 8, int 0], [int 12, int 0, int 0, int 1, int 0, int 1024, int 8, int 1], [int 5, int 3, int 7, int 25, int 2, int 3, int 9, int 0]] 0 8, .gone, .gone, .gone, .gone, .gone, .gone, .gone, .gone, .gone, .gone, .gone, .gone, .vec [[int 12, int 0, int 0, int 0, int 1], [int 5, int 3, int 7, int 0, int 3], [int 1, int 7, int 0, int 2, int 3]] 2 5, .gone, .gone, .gone, .gone, .gone, .gone, .gone, .gone, .vec [[int 7, int 2, int 9, int 1, int 4]] 0 5, .var [int 3, .ref (.vec 56 0)], .gone, .gone, .gone, .gone, .gone, .gone, .gone, .gone, .gone, .gone, .gone, .gone, .vec [[int 12, int 0, int 0, int 0, int 1], [int 5, int 3, int 7, int 0, int 2]] 1 5, .var [int 3, nq], .vec [[int 7]] 0 1, .var [.ref (.vec 31 0), nq, nq, .ref (.vec 34 0)], .var [nq, int 0, int 0, int 0], .map [(int 7, .agg [int 7, int 0, int (-1), bool true], 0)] 1, .var [nq, .ref (.vec 31 0), nq, nq, .ref (.vec 34 0), int 9]], .ret (.agg [int 3, .ref (.vec 95 0)]) [.gone, .gone, .gone, .gone, .gone, .gone, .gone, .gone, .vec [[int 12, int 0, int 0, int 0, int 1]] 0 5, .var [int 3, nq], .var [int 0, nq], .var [nq, int 0, int 0, int 0], .vec [[int 7], [int 7]] 0 1, .var [nq, int 0, int 0, int 0], .gone, .gone, .gone, .gone, .gone, .gone, .gone, .gone, .gone, .vec [[int 12, int 0, int 0, int 0, int 1], [int 12, int 0, int 0, int 0, int 1]] 1 5, .gone, .gone, .gone, .gone, .var [nq, int 0, int 0, int 1], .var [int 5, int 3, int 7, int (-1), int 5, int 6, int 8, int 0], .var [int 5, int 3, int 7, int 25, int 2, int 3, int 9, int 0], .vec [[strD ⟨#[65]⟩, int 7, int 4, int 0, int 1, int 0, strD ⟨#[]⟩, int 0, int 0, nq, int 2, int 0, strD ⟨#[]⟩, int 0, int 0, nq]] 0 16, .var [.ref (.vec 31 0), nq, nq, .ref (.vec 34 0)], .var [int 0, int 1024], .vec [[int 1, int 7, int 0, int 0, int 0, int 1024, int 8, int 0], [int 12, int 0, int 0, int 1, int 0, int 1024, int 8, int 1], [int 5, int 3, int 7, int 25, int 2, int 3, int 9, int 0]] 0 8, .gone, .gone, .gone, .gone, .gone, .gone, .gone, .gone, .gone, .gone, .gone, .gone, .vec [[int 12, int 0, int 0, int 0, int 1], [int 5, int 3, int 7, int 0, int 3], [int 1, int 7, int 0, int 2, int 3]] 2 5, .gone, .gone, .gone, .gone, .gone, .gone, .gone, .gone, .vec [[int 7, int 2, int 9, int 1, int 4]] 0 5, .var [int 3, .ref (.vec 56 0)], .gone, .gone, .gone, .gone, .gone, .gone, .gone, .gone, .gone, .gone, .gone, .gone, .vec [[int 12, int 0, int 0, int 0, int 1], [int 5, int 3, int 7, int 0, int 2]] 1 5, .var [int 3, nq], .vec [[int 7]] 0 1, .var [.ref (.vec 31 0), nq, nq, .ref (.vec 34 0)], .var [nq, int 0, int 0, int 0], .map [(int 7, .agg [int 7, int 0, int (-1), bool true], 0)] 1, .var [.ref (.vec 86 2), .ref (.vec 31 0), nq, nq, .ref (.vec 34 0), int 9], .gone, .gone, .gone, .gone, .gone, .gone, .gone, .gone, .gone, .vec [[int 12, int 0, int 0, int 0, int 1], [int 5, int 3, int 7, int 0, int 3], [int 1, int 7, int 0, int 2, int 3]] 2 5, .gone, .gone, .gone, .gone, .gone, .gone, .gone, .gone, .vec [[int 7, int 2, int 9, int 1, int 4]] 0 5]⟩
theorem s16w0_ok : s16w0.Ok Tryz.prog Γk := Memo.okW_of pok wv_ok (ms := []) (by kernel_rfl) trivial
def s16w1 : Memo := ⟨61, [.ref (.ptr 76 0), .ref (.vec 95 0), int 3], [.gone, .gone, .gone, .gone, .gone, .gone, .gone, .gone, .vec [[int 12, int 0, int 0, int 0, int 1]] 0 5, .var [int 3, nq], .var [int 0, nq], .var [nq, int 0, int 0, int 0], .vec [[int 7], [int 7]] 0 1, .var [nq, int 0, int 0, int 0], .gone, .gone, .gone, .gone, .gone, .gone, .gone, .gone, .gone, .vec [[int 12, int 0, int 0, int 0, int 1], [int 12, int 0, int 0, int 0, int 1]] 1 5, .gone, .gone, .gone, .gone, .var [nq, int 0, int 0, int 1], .var [int 5, int 3, int 7, int (-1), int 5, int 6, int 8, int 0], .var [int 5, int 3, int 7, int 25, int 2, int 3, int 9, int 0], .vec [[strD ⟨#[65]⟩, int 7, int 4, int 0, int 1, int 0, strD ⟨#[]⟩, int 0, int 0, nq, int 2, int 0, strD ⟨#[]⟩, int 0, int 0, nq]] 0 16, .var [.ref (.vec 31 0), nq, nq, .ref (.vec 34 0)], .var [int 0, int 1024], .vec [[int 1, int 7, int 0, int 0, int 0, int 1024, int 8, int 0], [int 12, int 0, int 0, int 1, int 0, int 1024, int 8, int 1], [int 5, int 3, int 7, int 25, int 2, int 3, int 9, int 0]] 0 8, .gone, .gone, .gone, .gone, .gone, .gone, .gone, .gone, .gone, .gone, .gone, .gone, .vec [[int 12, int 0, int 0, int 0, int 1], [int 5, int 3, int 7, int 0, int 3], [int 1, int 7, int 0, int 2, int 3]] 2 5, .gone, .gone, .gone, .gone, .gone, .gone, .gone, .gone, .vec [[int 7, int 2, int 9, int 1, int 4]] 0 5, .var [int 3, .ref (.vec 56 0)], .gone, .gone, .gone, .gone, .gone, .gone, .gone, .gone, .gone, .gone, .gone, .gone, .vec [[int 12, int 0, int 0, int 0, int 1], [int 5, int 3, int 7, int 0, int 2]] 1 5, .var [int 3, nq], .vec [[int 7]] 0 1, .var [.ref (.vec 31 0), nq, nq, .ref (.vec 34 0)], .var [nq, int 0, int 0, int 0], .map [(int 7, .agg [int 7, int 0, int (-1), bool true], 0)] 1, .var [.ref (.vec 86 2), .ref (.vec 31 0), nq, nq, .ref (.vec 34 0), int 9], .gone, .gone, .gone, .gone, .gone, .gone, .gone, .gone, .gone, .vec [[int 12, int 0, int 0, int 0, int 1], [int 5, int 3, int 7, int 0, int 3], [int 1, int 7, int 0, int 2, int 3]] 2 5, .gone, .gone, .gone, .gone, .gone, .gone, .gone, .gone, .vec [[int 7, int 2, int 9, int 1, int 4]] 0 5, .var [int 3, .ref (.vec 95 0)]], .ret (.tup [.ref (.vec 105 0), int 0]) [.gone, .gone, .gone, .gone, .gone, .gone, .gone, .gone, .vec [[int 12, int 0, int 0, int 0, int 1]] 0 5, .var [int 3, nq], .var [int 0, nq], .var [nq, int 0, int 0, int 0], .vec [[int 7], [int 7]] 0 1, .var [nq, int 0, int 0, int 0], .gone, .gone, .gone, .gone, .gone, .gone, .gone, .gone, .gone, .vec [[int 12, int 0, int 0, int 0, int 1], [int 12, int 0, int 0, int 0, int 1]] 1 5, .gone, .gone, .gone, .gone, .var [nq, int 0, int 0, int 1], .var [int 5, int 3, int 7, int (-1), int 5, int 6, int 8, int 0], .var [int 5, int 3, int 7, int 25, int 2, int 3, int 9, int 0], .vec [[strD ⟨#[65]⟩, int 7, int 4, int 0, int 1, int 0, strD ⟨#[]⟩, int 0, int 0, nq, int 2, int 0, strD ⟨#[]⟩, int 0, int 0, nq]] 0 16, .var [.ref (.vec 31 0), nq, nq, .ref (.vec 34 0)], .var [int 0, int 1024], .vec [[int 1, int 7, int 0, int 0, int 0, int 1024, int 8, int 0], [int 12, int 0, int 0, int 1, int 0, int 1024, int 8, int 1], [int 5, int 3, int 7, int 25, int 2, int 3, int 9, int 0]] 0 8, .gone, .gone, .gone, .gone, .gone, .gone, .gone, .gone, .gone, .gone, .gone, .gone, .vec [[int 12, int 0, int 0, int 0, int 1], [int 5, int 3, int 7, int 0, int 3], [int 1, int 7, int 0, int 2, int 3]] 2 5, .gone, .gone, .gone, .gone, .gone, .gone, .gone, .gone, .vec [[int 7, int 2, int 9, int 1, int 4]] 0 5, .var [int 3, .ref (.vec 56 0)], .gone, .gone, .gone, .gone, .gone, .gone, .gone, .gone, .gone, .gone, .gone, .gone, .vec [[int 12, int 0, int 0, int 0, int 1], [int 5, int 3, int 7, int 0, int 2]] 1 5, .var [int 3, nq], .vec [[int 7]] 0 1, .var [.ref (.vec 31 0), nq, nq, .ref (.vec 34 0)], .var [nq, int 0, int 0, int 0], .map [(int 7, .agg [int 7, int 0, int (-1), bool true], 0)] 1, .var [.ref (.vec 86 3), .ref (.vec 31 0), nq, nq, .ref (.vec 34 0), int 9], .gone, .gone, .gone, .gone, .gone, .gone, .gone, .gone, .gone, .vec [[int 12, int 0, int 0, int 0, int 1], [int 5, int 3, int 7, int 0, int 3], [int 1, int 7, int 0, int 2, int 3], [int 1, int 7, int 0, int 3, int 4]] 3 5, .gone, .gone, .gone, .gone, .gone, .gone, .gone, .gone, .vec [[int 7, int 2, int 9, int 1, int 4]] 0 5, .var [int 3, .ref (.vec 95 0)], .gone, .gone, .gone, .gone, .gone, .gone, .gone, .gone, .vec [[int 7, int 2, int 9, int 1, int 4]] 0 5]⟩
theorem s16w1_ok : s16w1.Ok Tryz.prog Γk := Memo.okW_of pok wv_ok (ms := []) (by kernel_rfl) trivial
def s16w2 : Memo := ⟨23, [.agg [.ref (.vec 31 0), nq, nq, .ref (.vec 34 0)], int 3, int 3, int 9], [.gone, .gone, .gone, .gone, .gone, .gone, .gone, .gone, .vec [[int 12, int 0, int 0, int 0, int 1]] 0 5, .var [int 3, nq], .var [int 0, nq], .var [nq, int 0, int 0, int 0], .vec [[int 7], [int 7]] 0 1, .var [nq, int 0, int 0, int 0], .gone, .gone, .gone, .gone, .gone, .gone, .gone, .gone, .gone, .vec [[int 12, int 0, int 0, int 0, int 1], [int 12, int 0, int 0, int 0, int 1]] 1 5, .gone, .gone, .gone, .gone, .var [nq, int 0, int 0, int 1], .var [int 5, int 3, int 7, int (-1), int 5, int 6, int 8, int 0], .var [int 5, int 3, int 7, int 25, int 2, int 3, int 9, int 0], .vec [[strD ⟨#[65]⟩, int 7, int 4, int 0, int 1, int 0, strD ⟨#[]⟩, int 0, int 0, nq, int 2, int 0, strD ⟨#[]⟩, int 0, int 0, nq]] 0 16, .var [.ref (.vec 31 0), nq, nq, .ref (.vec 34 0)], .var [int 0, int 1024], .vec [[int 1, int 7, int 0, int 0, int 0, int 1024, int 8, int 0], [int 12, int 0, int 0, int 1, int 0, int 1024, int 8, int 1], [int 5, int 3, int 7, int 25, int 2, int 3, int 9, int 0]] 0 8], .ret (.tup [.agg [int 3, .ref (.vec 56 0)], .ref (.vec 47 2), int 0]) [.gone, .gone, .gone, .gone, .gone, .gone, .gone, .gone, .vec [[int 12, int 0, int 0, int 0, int 1]] 0 5, .var [int 3, nq], .var [int 0, nq], .var [nq, int 0, int 0, int 0], .vec [[int 7], [int 7]] 0 1, .var [nq, int 0, int 0, int 0], .gone, .gone, .gone, .gone, .gone, .gone, .gone, .gone, .gone, .vec [[int 12, int 0, int 0, int 0, int 1], [int 12, int 0, int 0, int 0, int 1]] 1 5, .gone, .gone, .gone, .gone, .var [nq, int 0, int 0, int 1], .var [int 5, int 3, int 7, int (-1), int 5, int 6, int 8, int 0], .var [int 5, int 3, int 7, int 25, int 2, int 3, int 9, int 0], .vec [[strD ⟨#[65]⟩, int 7, int 4, int 0, int 1, int 0, strD ⟨#[]⟩, int 0, int 0, nq, int 2, int 0, strD ⟨#[]⟩, int 0, int 0, nq]] 0 16, .var [.ref (.vec 31 0), nq, nq, .ref (.vec 34 0)], .var [int 0, int 1024], .vec [[int 1, int 7, int 0, int 0, int 0, int 1024, int 8, int 0], [int 12, int 0, int 0, int 1, int 0, int 1024, int 8, int 1], [int 5, int 3, int 7, int 25, int 2, int 3, int 9, int 0]] 0 8, .gone, .gone, .gone, .gone, .gone, .gone, .gone, .gone, .gone, .gone, .gone, .gone, .vec [[int 12, int 0, int 0, int 0, int 1], [int 5, int 3, int 7, int 0, int 3], [int 1, int 7, int 0, int 2, int 3]] 2 5, .gone, .gone, .gone, .gone, .gone, .gone, .gone, .gone, .vec [[int 7, int 2, int 9, int 1, int 4]] 0 5]⟩
theorem s16w2_ok : s16w2.Ok Tryz.prog Γk := Memo.okW_of pok wv_ok (ms := []) (by kernel_rfl) trivial
def s16w3 : Memo := ⟨19, [.agg [.ref (.vec 31 0), nq, nq, .ref (.vec 34 0)], int 3, int 3, int 9, .ref (.vec 72 0)], [.gone, .gone, .gone, .gone, .gone, .gone, .gone, .gone, .vec [[int 12, int 0, int 0, int 0, int 1]] 0 5, .var [int 3, nq], .var [int 0, nq], .var [nq, int 0, int 0, int 0], .vec [[int 7], [int 7]] 0 1, .var [nq, int 0, int 0, int 0], .gone, .gone, .gone, .gone, .gone, .gone, .gone, .gone, .gone, .vec [[int 12, int 0, int 0, int 0, int 1], [int 12, int 0, int 0, int 0, int 1]] 1 5, .gone, .gone, .gone, .gone, .var [nq, int 0, int 0, int 1], .var [int 5, int 3, int 7, int (-1), int 5, int 6, int 8, int 0], .var [int 5, int 3, int 7, int 25, int 2, int 3, int 9, int 0], .vec [[strD ⟨#[65]⟩, int 7, int 4, int 0, int 1, int 0, strD ⟨#[]⟩, int 0, int 0, nq, int 2, int 0, strD ⟨#[]⟩, int 0, int 0, nq]] 0 16, .var [.ref (.vec 31 0), nq, nq, .ref (.vec 34 0)], .var [int 0, int 1024], .vec [[int 1, int 7, int 0, int 0, int 0, int 1024, int 8, int 0], [int 12, int 0, int 0, int 1, int 0, int 1024, int 8, int 1], [int 5, int 3, int 7, int 25, int 2, int 3, int 9, int 0]] 0 8, .gone, .gone, .gone, .gone, .gone, .gone, .gone, .gone, .gone, .gone, .gone, .gone, .vec [[int 12, int 0, int 0, int 0, int 1], [int 5, int 3, int 7, int 0, int 3], [int 1, int 7, int 0, int 2, int 3]] 2 5, .gone, .gone, .gone, .gone, .gone, .gone, .gone, .gone, .vec [[int 7, int 2, int 9, int 1, int 4]] 0 5, .var [int 3, .ref (.vec 56 0)], .gone, .gone, .gone, .gone, .gone, .gone, .gone, .gone, .gone, .gone, .gone, .gone, .vec [[int 12, int 0, int 0, int 0, int 1], [int 5, int 3, int 7, int 0, int 2]] 1 5, .var [int 3, nq], .vec [[int 7]] 0 1], .ret (.tup [.agg [.ref (.vec 132 0), int 4, int 9, int 1], .ref (.vec 86 5), int 0]) [.gone, .gone, .gone, .gone, .gone, .gone, .gone, .gone, .vec [[int 12, int 0, int 0, int 0, int 1]] 0 5, .var [int 3, nq], .var [int 0, nq], .var [nq, int 0, int 0, int 0], .vec [[int 7], [int 7]] 0 1, .var [nq, int 0, int 0, int 0], .gone, .gone, .gone, .gone, .gone, .gone, .gone, .gone, .gone, .vec [[int 12, int 0, int 0, int 0, int 1], [int 12, int 0, int 0, int 0, int 1]] 1 5, .gone, .gone, .gone, .gone, .var [nq, int 0, int 0, int 1], .var [int 5, int 3, int 7, int (-1), int 5, int 6, int 8, int 0], .var [int 5, int 3, int 7, int 25, int 2, int 3, int 9, int 0], .vec [[strD ⟨#[65]⟩, int 7, int 4, int 0, int 1, int 0, strD ⟨#[]⟩, int 0, int 0, nq, int 2, int 0, strD ⟨#[]⟩, int 0, int 0, nq]] 0 16, .var [.ref (.vec 31 0), nq, nq, .ref (.vec 34 0)], .var [int 0, int 1024], .vec [[int 1, int 7, int 0, int 0, int 0, int 1024, int 8, int 0], [int 12, int 0, int 0, int 1, int 0, int 1024, int 8, int 1], [int 5, int 3, int 7, int 25, int 2, int 3, int 9, int 0]] 0 8, .gone, .gone, .gone, .gone, .gone, .gone, .gone, .gone, .gone, .gone, .gone, .gone, .vec [[int 12, int 0, int 0, int 0, int 1], [int 5, int 3, int 7, int 0, int 3], [int 1, int 7, int 0, int 2, int 3]] 2 5, .gone, .gone, .gone, .gone, .gone, .gone, .gone, .gone, .vec [[int 7, int 2, int 9, int 1, int 4]] 0 5, .var [int 3, .ref (.vec 56 0)], .gone, .gone, .gone, .gone, .gone, .gone, .gone, .gone, .gone, .gone, .gone, .gone, .vec [[int 12, int 0, int 0, int 0, int 1], [int 5, int 3, int 7, int 0, int 2]] 1 5, .var [int 3, nq], .vec [[int 7]] 0 1, .gone, .gone, .gone, .gone, .gone, .gone, .gone, .gone, .gone, .gone, .gone, .gone, .gone, .vec [[int 12, int 0, int 0, int 0, int 1], [int 5, int 3, int 7, int 0, int 3], [int 1, int 7, int 0, int 2, int 3], [int 1, int 7, int 0, int 3, int 4], [int 12, int 0, int 0, int 0, int 1], [int 12, int 0, int 0, int 0, int 1]] 5 5, .gone, .gone, .gone, .gone, .gone, .gone, .gone, .gone, .gone, .gone, .gone, .gone, .gone, .gone, .gone, .gone, .gone, .gone, .gone, .gone, .gone, .gone, .gone, .gone, .gone, .gone, .gone, .gone, .gone, .gone, .gone, .gone, .gone, .gone, .gone, .gone, .gone, .gone, .gone, .gone, .gone, .gone, .gone, .gone, .gone, .vec [[int 7, int 1, int 9, bool true]] 0 4]⟩
theorem s16w3_ok : s16w3.Ok Tryz.prog Γk := Memo.okW_of pok wv_ok (ms := [s16w0, s16w1]) (by kernel_rfl) ⟨s16w0_ok, s16w1_ok, trivial⟩
def s16w4 : Memo := ⟨23, [.agg [.ref (.vec 31 0), nq, nq, .ref (.vec 34 0)], int 3, int 2, int 9], [.gone, .gone, .gone, .gone, .gone, .gone, .gone, .gone, .vec [[int 12, int 0, int 0, int 0, int 1]] 0 5, .var [int 3, nq], .var [int 0, nq], .var [nq, int 0, int 0, int 0], .vec [[int 7], [int 7]] 0 1, .var [nq, int 0, int 0, int 0], .gone, .gone, .gone, .gone, .gone, .gone, .gone, .gone, .gone, .vec [[int 12, int 0, int 0, int 0, int 1], [int 12, int 0, int 0, int 0, int 1]] 1 5, .gone, .gone, .gone, .gone, .var [nq, int 0, int 0, int 1], .var [int 5, int 3, int 7, int (-1), int 5, int 6, int 8, int 0], .var [int 5, int 3, int 7, int 25, int 2, int 3, int 9, int 0], .vec [[strD ⟨#[65]⟩, int 7, int 4, int 0, int 1, int 0, strD ⟨#[]⟩, int 0, int 0, nq, int 2, int 0, strD ⟨#[]⟩, int 0, int 0, nq]] 0 16, .var [.ref (.vec 31 0), nq, nq, .ref (.vec 34 0)], .var [int 0, int 1024], .vec [[int 1, int 7, int 0, int 0, int 0, int 1024, int 8, int 0], [int 12, int 0, int 0, int 1, int 0, int 1024, int 8, int 1], [int 5, int 3, int 7, int 25, int 2, int 3, int 9, int 0]] 0 8, .gone, .gone, .gone, .gone, .gone, .gone, .gone, .gone, .gone, .gone, .gone, .gone, .vec [[int 12, int 0, int 0, int 0, int 1], [int 5, int 3, int 7, int 0, int 3], [int 1, int 7, int 0, int 2, int 3]] 2 5, .gone, .gone, .gone, .gone, .gone, .gone, .gone, .gone, .vec [[int 7, int 2, int 9, int 1, int 4]] 0 5, .var [int 3, .ref (.vec 56 0)]], .ret (.tup [.agg [int 3, nq], .ref (.vec 70 1), int 0]) [.gone, .gone, .gone, .gone, .gone, .gone, .gone, .gone, .vec [[int 12, int 0, int 0, int 0, int 1]] 0 5, .var [int 3, nq], .var [int 0, nq], .var [nq, int 0, int 0, int 0], .vec [[int 7], [int 7]] 0 1, .var [nq, int 0, int 0, int 0], .gone, .gone, .gone, .gone, .gone, .gone, .gone, .gone, .gone, .vec [[int 12, int 0, int 0, int 0, int 1], [int 12, int 0, int 0, int 0, int 1]] 1 5, .gone, .gone, .gone, .gone, .var [nq, int 0, int 0, int 1], .var [int 5, int 3, int 7, int (-1), int 5, int 6, int 8, int 0], .var [int 5, int 3, int 7, int 25, int 2, int 3, int 9, int 0], .vec [[strD ⟨#[65]⟩, int 7, int 4, int 0, int 1, int 0, strD ⟨#[]⟩, int 0, int 0, nq, int 2, int 0, strD ⟨#[]⟩, int 0, int 0, nq]] 0 16, .var [.ref (.vec 31 0), nq, nq, .ref (.vec 34 0)], .var [int 0, int 1024], .vec [[int 1, int 7, int 0, int 0, int 0, int 1024, int 8, int 0], [int 12, int 0, int 0, int 1, int 0, int 1024, int 8, int 1], [int 5, int 3, int 7, int 25, int 2, int 3, int 9, int 0]] 0 8, .gone, .gone, .gone, .gone, .gone, .gone, .gone, .gone, .gone, .gone, .gone, .gone, .vec [[int 12, int 0, int 0, int 0, int 1], [int 5, int 3, int 7, int 0, int 3], [int 1, int 7, int 0, int 2, int 3]] 2 5, .gone, .gone, .gone, .gone, .gone, .gone, .gone, .gone, .vec [[int 7, int 2, int 9, int 1, int 4]] 0 5, .var [int 3, .ref (.vec 56 0)], .gone, .gone, .gone, .gone, .gone, .gone, .gone, .gone, .gone, .gone, .gone, .gone, .vec [[int 12, int 0, int 0, int 0, int 1], [int 5, int 3, int 7, int 0, int 2]] 1 5]⟩
theorem s16w4_ok : s16w4.Ok Tryz.prog Γk := Memo.okW_of pok wv_ok (ms := []) (by kernel_rfl) trivial
def s16wR : Memo := ⟨17, [], [], .ret (bool true) []⟩
theorem s16wR_ok : s16wR.Ok Tryz.prog Γk := Memo.okW_of pok wv_ok (ms := [s16w2, s16w3, s16w4]) (by kernel_rfl) ⟨s16w2_ok, s16w3_ok, s16w4_ok, trivial⟩
theorem sane16_ev (h : List Blk) : Ev Tryz.prog Γk 17 [] h (bool true) h := Ev.frame0 rfl (Memo.call s16wR_ok rfl) h
end Go.Vi
open Go Go.Proofs
namespace Go.Vi
set_option maxRecDepth 100000
theorem few16_len {w : WorldT} (h : few16 w = true) : w.f.length ≤ 30 := by
  simp only [few16, Bool.and_eq_true, decide_eq_true_eq, List.length_map] at h
  omega
theorem WorldT.ok0.few {w : WorldT} (hw : w.ok0) (h : few16 w = true) : w.ok := by
  have := few16_len h
  exact ⟨hw.c, hw.s, by omega, hw.lc, hw.ls, hw.i⟩
theorem rofR_good {w : WorldT} {st term known : Int} (h : (rofR w st term known).2.2 = 0) : rofR w st term known = (⟨st, recA w known st term⟩, recReads w known st term, 0) := by
  unfold rofR at h ⊢
  split
  · rename_i hb; rw [hb] at h; simp at h
  · rfl
theorem recordPast_ev {w : WorldT} (hw : w.ok0) {st term later known : Int} (h : List Blk) : Ev Tryz.prog Γk 4 [.agg w.l, int st, int term, int later, int known] h (bool true) h := by
  cases ho : (!few16 w || decide (later < term))
  · have hr := ho
    simp only [Bool.or_eq_false_iff, Bool.not_eq_false', decide_eq_false_iff_not] at hr
    have hk := hw.few hr.1
    have h1 := fun h => rof_ev hk (st := st) (term := term) (known := known) h
    have h2 := fun h => rof_ev hk (st := st) (term := later) (known := known) h
    cases he : ((rofR w st term known).2.2 != 0 || (rofR w st later known).2.2 != 0)
    · simp only [Bool.or_eq_false_iff, bne_eq_false_iff_eq] at he
      rw [rofR_good he.1] at h1
      rw [rofR_good he.2] at h2
      obtain ⟨rest, e1, e2, e3⟩ := recA_begin (w := w) (known := known) (st := st) (term := term) (later := later) (by omega)
      simp only [RecT.l, e1] at h1 h2
      have hl := recA_len hk (known := known) (st := st) (term := later)
      rw [e1] at hl
      have hl2 := recA_len hk (known := known) (st := st) (term := term)
      have hs : Short (recA w known st term ++ rest) := by unfold Short; omega
      have hs1 : Short (recA w known st term) := by unfold Short; omega
      refine rp_ok sane16_ev ho hs1 hs e2 e3 ?_ ?_ h1 h2 h
      · intro h
        refine Ev.glob0 (same_self_rows ?_ hs1 h)
        simp [List.map_take]
      · simp only [List.length_map, List.length_append, Bool.not_true, Bool.or_false, decide_eq_false_iff_not]; omega
    · exact rp_err sane16_ev ho he h1 h2 h
  · exact rp_out sane16_ev ho h
end Go.Vi
