/- RecordPast: part of the proof: contracts of the functions that the law reaches, and the law. No conditions beyond the given statement's own. -/
import Derived.Test.YtilebidefogaiaaGreatDoorW3
import Derived.Shelf.SlSortCmp.NoneTotal
import Derived.Sort.EveryDepth
import Derived.Ground.SlsfProg
open Go Go.Proofs
namespace Go.Vi
set_option maxRecDepth 100000
set_option maxHeartbeats 4000000
theorem all_int {h : List Blk} {l : List Int} (hb : h[1]? = some (.var (intC l).flatten)) (hl : l.length = 1024) : loadD Tryz.prog h 215 (.ref (.ptr 1 0)) = some (.agg (intC l).flatten) :=
  load_all (by kernel_rfl) (by rw [flat_len (sz := 1) (intC l) (fun r hr => by obtain ⟨_, _, rfl⟩ := List.mem_map.1 hr; rfl)]; simp only [intC, List.length_map, hl]; kernel_rfl) hb
theorem agg_cells {l : List Int} : (D.agg (intC l).flatten).cells = some (intC l).flatten := by
  have : (intC l).flatten.all D.one = true := by
    rw [List.all_eq_true]
    intro d hd
    obtain ⟨r, hr, hd⟩ := List.mem_flatten.1 hd
    obtain ⟨n, _, rfl⟩ := List.mem_map.1 hr
    simp only [List.mem_singleton] at hd
    subst hd; rfl
  simp only [D.cells, this, if_true]
theorem st_int {h : List Blk} {l : List Int} (hb : h[1]? = some (.var (intC l).flatten)) (hl : l.length = 1024) : storeD Tryz.prog h 215 (.ref (.ptr 1 0)) (.agg (intC l).flatten) = some (h.set 1 (.var (intC l).flatten)) :=
  store_all agg_cells (by rw [flat_len (sz := 1) (intC l) (fun r hr => by obtain ⟨_, _, rfl⟩ := List.mem_map.1 hr; rfl)]; simp only [intC, List.length_map, hl]; kernel_rfl) rfl hb
theorem vlAll_len {s : VS} {rs : List Int} (h : rs.length = 1024) : (vlAll s rs).length = 1024 := by
  unfold vlAll
  generalize List.range 1024 = l
  induction l generalizing rs with
  | nil => exact h
  | cons n l ih => exact ih (by unfold vlStep; cases s.2.getD n false <;> simp [h])
noncomputable abbrev vaE (kk ks ko known : Int) (l : List FactT) (rs : List Int) (s : VS) : List Blk := vaH kk ks ko known (l.map FactT.row) (intC (vlAll (l.foldl (vaGo kk ks ko known) s) rs)).flatten (l.foldl (vaGo kk ks ko known) s).1 (l.foldl (vaGo kk ks ko known) s).2 .exhausted []
theorem va_whole {kk ks ko known : Int} {l : List FactT} (hl : Short l) {rs : List Int} {b0 : List FactT} {s0 : List Bool} (ho : VS.ok (b0, s0)) (hf : VS.ok (l.foldl (vaGo kk ks ko known) (b0, s0))) (hr : rs.length = 1024) (e1 : AllocIs Tryz.prog [.var [int kk, int ks, int ko]] 215 (.ref (.ptr 1 0)) [.var [int kk, int ks, int ko], .var (intC rs).flatten])
    (e2 : AllocIs Tryz.prog [.var [int kk, int ks, int ko], .var (intC rs).flatten] 243 (.ref (.ptr 2 0)) [.var [int kk, int ks, int ko], .var (intC rs).flatten, .var (bestC b0).flatten])
    (e3 : AllocIs Tryz.prog [.var [int kk, int ks, int ko], .var (intC rs).flatten, .var (bestC b0).flatten] 244 (.ref (.ptr 3 0)) [.var [int kk, int ks, int ko], .var (intC rs).flatten, .var (bestC b0).flatten, .var (boolC s0).flatten]) : (CW Tryz.prog Γ0 [] false (bodyC Tryz.f159) { t := mkT 63 0 [(0, rowsD' (l.map FactT.row)), (1, .agg [int kk, int ks, int ko]), (2, int known)], h := [], m := [] } .ret { t := mkT 63 0 [(6, .ref (.ptr 1 0))], h := vaE kk ks ko known l rs (b0, s0), m := [7] }) := by
  have hl0 := (@va_rf_cw (kk) (ks) (ko) (known) (l) (hl) (rs) (b0) (s0) (ho))
  have hl1 := (@vl_cw (kk) (ks) (ko) (known) (List.map FactT.row l) (rs) ((List.foldl (vaGo kk ks ko known) (b0, s0) l).fst) ((List.foldl (vaGo kk ks ko known) (b0, s0) l).snd) (hf) (hr))
  refine CW.cast (CW.symX (s' := { t := mkT 63 0 [(6, .ref (.ptr 1 0))], h := [.var [int kk, int ks, int ko], .var (List.flatten (intC (vlAll (List.foldl (vaGo kk ks ko known) (b0, s0) l) rs))), .var (List.flatten (bestC (List.foldl (vaGo kk ks ko known) (b0, s0) l).fst)), .var (List.flatten (boolC (List.foldl (vaGo kk ks ko known) (b0, s0) l).snd)), .var [rowsD' (List.map FactT.row l)], .var [int kk, int ks, int ko], .var [int known], .defd, .loop LoopState.exhausted none 0 (mkT 63 0 [(6, .ref (.ptr 1 0)), (7, .ref (.ptr 2 0)), (8, .ref (.ptr 3 0)), (15, D.fn (Fn.func 178) [] [.ref (.ptr 4 0), .ref (.ptr 5 0), .ref (.ptr 6 0)])]) { toList := [16] } (rfAsg (sub Tryz.f159 0)) (rfBody (sub Tryz.f159 0))], m := [7] }) (e := Exit.ret) pok [.st (.mask [6])] [.oh 6 (.ref (.ptr 1 0)) [.var [int kk, int ks, int ko], .var (List.flatten (intC rs))], .oh 7 (.ref (.ptr 2 0)) [.var [int kk, int ks, int ko], .var (List.flatten (intC rs)), .var (List.flatten (bestC b0))], .oh 8 (.ref (.ptr 3 0)) [.var [int kk, int ks, int ko], .var (List.flatten (intC rs)), .var (List.flatten (bestC b0)), .var (List.flatten (boolC s0))], .inl, .sum [6, 7, 8, 15] (Exit.normal) { t := mkT 63 0 [(6, .ref (.ptr 1 0)), (7, .ref (.ptr 2 0)), (8, .ref (.ptr 3 0)), (15, D.fn (Fn.func 178) [] [.ref (.ptr 4 0), .ref (.ptr 5 0), .ref (.ptr 6 0)])], h := [.var [int kk, int ks, int ko], .var (List.flatten (intC rs)), .var (List.flatten (bestC (List.foldl (vaGo kk ks ko known) (b0, s0) l).fst)), .var (List.flatten (boolC (List.foldl (vaGo kk ks ko known) (b0, s0) l).snd)), .var [rowsD' (List.map FactT.row l)], .var [int kk, int ks, int ko], .var [int known], .defd, .loop LoopState.exhausted none 0 (mkT 63 0 [(6, .ref (.ptr 1 0)), (7, .ref (.ptr 2 0)), (8, .ref (.ptr 3 0)), (15, D.fn (Fn.func 178) [] [.ref (.ptr 4 0), .ref (.ptr 5 0), .ref (.ptr 6 0)])]) { toList := [16] } (rfAsg (sub Tryz.f159 0)) (rfBody (sub Tryz.f159 0))], m := [7] }, .sum [6, 7, 8, 46] (Exit.exit 4) { t := mkT 63 0 [(6, .ref (.ptr 1 0))], h := [.var [int kk, int ks, int ko], .var (List.flatten (intC (vlAll ((List.foldl (vaGo kk ks ko known) (b0, s0) l).fst, (List.foldl (vaGo kk ks ko known) (b0, s0) l).snd) rs))), .var (List.flatten (bestC (List.foldl (vaGo kk ks ko known) (b0, s0) l).fst)), .var (List.flatten (boolC (List.foldl (vaGo kk ks ko known) (b0, s0) l).snd)), .var [rowsD' (List.map FactT.row l)], .var [int kk, int ks, int ko], .var [int known], .defd, .loop LoopState.exhausted none 0 (mkT 63 0 [(6, .ref (.ptr 1 0)), (7, .ref (.ptr 2 0)), (8, .ref (.ptr 3 0)), (15, D.fn (Fn.func 178) [] [.ref (.ptr 4 0), .ref (.ptr 5 0), .ref (.ptr 6 0)])]) { toList := [16] } (rfAsg (sub Tryz.f159 0)) (rfBody (sub Tryz.f159 0))], m := [7] }, .ov 62 (D.agg (List.flatten (intC (vlAll (List.foldl (vaGo kk ks ko known) (b0, s0) l) rs)))), .oh 10006 D.any (vaE kk ks ko known l rs (b0, s0))] (by kernel_rfl) (.c (show AllocIs Tryz.prog [.var [int kk, int ks, int ko]] 215 (.ref (.ptr 1 0)) [.var [int kk, int ks, int ko], .var (List.flatten (intC rs))] from ?_) (.c (show AllocIs Tryz.prog [.var [int kk, int ks, int ko], .var (List.flatten (intC rs))] 243 (.ref (.ptr 2 0)) [.var [int kk, int ks, int ko], .var (List.flatten (intC rs)), .var (List.flatten (bestC b0))] from ?_) (.c (show AllocIs Tryz.prog [.var [int kk, int ks, int ko], .var (List.flatten (intC rs)), .var (List.flatten (bestC b0))] 244 (.ref (.ptr 3 0)) [.var [int kk, int ks, int ko], .var (List.flatten (intC rs)), .var (List.flatten (bestC b0)), .var (List.flatten (boolC s0))] from ?_) (.c hl0 (.c hl1 (.c (show loadD Tryz.prog [.var [int kk, int ks, int ko], .var (List.flatten (intC (vlAll ((List.foldl (vaGo kk ks ko known) (b0, s0) l).fst, (List.foldl (vaGo kk ks ko known) (b0, s0) l).snd) rs))), .var (List.flatten (bestC (List.foldl (vaGo kk ks ko known) (b0, s0) l).fst)), .var (List.flatten (boolC (List.foldl (vaGo kk ks ko known) (b0, s0) l).snd)), .var [rowsD' (List.map FactT.row l)], .var [int kk, int ks, int ko], .var [int known], .defd, .loop LoopState.exhausted none 0 (mkT 63 0 [(6, .ref (.ptr 1 0)), (7, .ref (.ptr 2 0)), (8, .ref (.ptr 3 0)), (15, D.fn (Fn.func 178) [] [.ref (.ptr 4 0), .ref (.ptr 5 0), .ref (.ptr 6 0)])]) { toList := [16] } (rfAsg (sub Tryz.f159 0)) (rfBody (sub Tryz.f159 0))] 215 (.ref (.ptr 1 0)) = some (D.agg (List.flatten (intC (vlAll (List.foldl (vaGo kk ks ko known) (b0, s0) l) rs)))) from ?_) (.c (show storeD Tryz.prog [.var [int kk, int ks, int ko], .var (List.flatten (intC (vlAll ((List.foldl (vaGo kk ks ko known) (b0, s0) l).fst, (List.foldl (vaGo kk ks ko known) (b0, s0) l).snd) rs))), .var (List.flatten (bestC (List.foldl (vaGo kk ks ko known) (b0, s0) l).fst)), .var (List.flatten (boolC (List.foldl (vaGo kk ks ko known) (b0, s0) l).snd)), .var [rowsD' (List.map FactT.row l)], .var [int kk, int ks, int ko], .var [int known], .defd, .loop LoopState.exhausted none 0 (mkT 63 0 [(6, .ref (.ptr 1 0)), (7, .ref (.ptr 2 0)), (8, .ref (.ptr 3 0)), (15, D.fn (Fn.func 178) [] [.ref (.ptr 4 0), .ref (.ptr 5 0), .ref (.ptr 6 0)])]) { toList := [16] } (rfAsg (sub Tryz.f159 0)) (rfBody (sub Tryz.f159 0))] 215 (.ref (.ptr 1 0)) (D.agg (List.flatten (intC (vlAll (List.foldl (vaGo kk ks ko known) (b0, s0) l) rs)))) = some [.var [int kk, int ks, int ko], .var (List.flatten (intC (vlAll (List.foldl (vaGo kk ks ko known) (b0, s0) l) rs))), .var (List.flatten (bestC (List.foldl (vaGo kk ks ko known) (b0, s0) l).fst)), .var (List.flatten (boolC (List.foldl (vaGo kk ks ko known) (b0, s0) l).snd)), .var [rowsD' (List.map FactT.row l)], .var [int kk, int ks, int ko], .var [int known], .defd, .loop LoopState.exhausted none 0 (mkT 63 0 [(6, .ref (.ptr 1 0)), (7, .ref (.ptr 2 0)), (8, .ref (.ptr 3 0)), (15, D.fn (Fn.func 178) [] [.ref (.ptr 4 0), .ref (.ptr 5 0), .ref (.ptr 6 0)])]) { toList := [16] } (rfAsg (sub Tryz.f159 0)) (rfBody (sub Tryz.f159 0))] from ?_) .n)))))))) (by rfl) (by rfl) <;> (first | assumption | exact all_int rfl (vlAll_len hr) | exact st_int rfl (vlAll_len hr) | (simp_all; done))
theorem inn_agg {n : Nat} {l : List Int} : D.inn n (.agg (intC l).flatten) = true := inn_int (n := n) (l := l)
def vZ : VS := (List.replicate 1024 fz, List.replicate 1024 false)
theorem vZ_ok : vZ.ok := ⟨by simp [vZ], by simp [vZ]⟩
theorem vaFold_ok {kk ks ko known : Int} {l : List FactT} {s : VS} (h : s.ok) : (l.foldl (vaGo kk ks ko known) s).ok := by
  induction l generalizing s with
  | nil => exact h
  | cons f l ih => exact ih (vaGo_ok f h)
def valuesR (kk ks ko known : Int) (l : List FactT) : List Int := vlAll (l.foldl (vaGo kk ks ko known) vZ) (List.replicate 1024 0)
theorem valuesR_len {kk ks ko known : Int} {l : List FactT} : (valuesR kk ks ko known l).length = 1024 := vlAll_len (by simp)
theorem values_a {kk ks ko known : Int} {l : List FactT} (hl : Short l) : Ev Tryz.prog Γ0 159 [rowsD' (l.map FactT.row), .agg [int kk, int ks, int ko], int known] [] (.agg (intC (valuesR kk ks ko known l)).flatten) (shut [7] (vaE kk ks ko known l (List.replicate 1024 0) vZ)) := by
  have hw := va_whole (kk := kk) (ks := ks) (ko := ko) (known := known) hl (rs := List.replicate 1024 0) (b0 := vZ.1) (s0 := vZ.2) vZ_ok (vaFold_ok vZ_ok) (by simp) (by unfold AllocIs; kernel_rfl) (by unfold AllocIs vZ; kernel_rfl) (by unfold AllocIs vZ; kernel_rfl)
  refine Ev.of_cw (fn := Tryz.f159) (by kernel_rfl) (by kernel_rfl) hw ?_
  have hc : loadD Tryz.prog (shut [7] (vaE kk ks ko known l (List.replicate 1024 0) vZ)) 215 (.ref (.ptr 1 0)) = some (.agg (intC (valuesR kk ks ko known l)).flatten) := all_int rfl valuesR_len
  have hr : resultsD Tryz.prog (mkT 63 0 [(6, .ref (.ptr 1 0))]) (shut [7] (vaE kk ks ko known l (List.replicate 1024 0) vZ)) Tryz.f159.results.toList = some [.agg (intC (valuesR kk ks ko known l)).flatten] := by
    show (match resultD Tryz.prog (mkT 63 0 [(6, .ref (.ptr 1 0))]) (shut [7] (vaE kk ks ko known l (List.replicate 1024 0) vZ)) (.cell 6 215), some [] with
      | some d, some ds => some (d :: ds)
      | _, _ => none) = _
    have : resultD Tryz.prog (mkT 63 0 [(6, .ref (.ptr 1 0))]) (shut [7] (vaE kk ks ko known l (List.replicate 1024 0) vZ)) (.cell 6 215) = some (.agg (intC (valuesR kk ks ko known l)).flatten) := hc
    rw [this]
  simp only [finF, pre]
  rw [hr]
  rfl
theorem values_ev {kk ks ko known : Int} {l : List FactT} (hl : Short l) (h : List Blk) : Ev Tryz.prog Γ0 159 [rowsD' (l.map FactT.row), .agg [int kk, int ks, int ko], int known] h (.agg (intC (valuesR kk ks ko known l)).flatten) h :=
  Ev.frame0 rfl (by have := Ev.trim (h := []) (d := .agg (intC (valuesR kk ks ko known l)).flatten) inn_agg rfl (values_a (kk := kk) (ks := ks) (ko := ko) (known := known) hl); simpa using this) h
end Go.Vi
open Go Go.Proofs
namespace Go.Vi
set_option maxRecDepth 100000
set_option maxHeartbeats 4000000
abbrev vecR (rs : List (List Dp)) : List (List D) := rs.map (List.map D.p)
theorem vecR_map (rs : List (List Dp)) (f : Ref → D) : (vecR rs).map (D.mapRL f) = vecR rs := mapRL_rows f rs
theorem innL_p (k : Nat) : ∀ r : List Dp, D.innL k (r.map .p) = true
  | [] => rfl
  | _ :: r => by simp [D.innL, D.inn, innL_p k r]
theorem vecR_inn (rs : List (List Dp)) (k : Nat) : (vecR rs).all (D.innL k) = true := by
  rw [List.all_eq_true]
  intro r hr
  obtain ⟨x, _, rfl⟩ := List.mem_map.1 hr
  exact innL_p k x
theorem st_int1 {h : List Blk} {l r : List Int} (hb : h[1]? = some (.var (intC r).flatten)) (hr : r.length = 1024) (hl : l.length = 1024) : storeD Tryz.prog h 215 (.ref (.ptr 1 0)) (.agg (intC l).flatten) = some (h.set 1 (.var (intC l).flatten)) :=
  store_all agg_cells (by rw [flat_len (sz := 1) (intC l) (fun r hr => by obtain ⟨_, _, rfl⟩ := List.mem_map.1 hr; rfl)]; simp only [intC, List.length_map, hl]; kernel_rfl)
    (by rw [flat_len (sz := 1) (intC l) (fun r hr => by obtain ⟨_, _, rfl⟩ := List.mem_map.1 hr; rfl), flat_len (sz := 1) (intC r) (fun r hr => by obtain ⟨_, _, rfl⟩ := List.mem_map.1 hr; rfl)]; simp [hl, hr]) hb
structure PtT where
  term : Int
  value : Int
  deriving Inhabited, DecidableEq
def PtT.row (p : PtT) : List Dp := [vi p.term, vi p.value]
theorem pt_load {h : List Blk} {off n : Nat} {l : List Int} {v : Int} (hb : h[1]? = some (.var (intC l).flatten)) (hs : l[n]? = some v) (ho : off = n * 1) : loadD Tryz.prog h 3 (.ref (.ptr 1 off)) = some (int v) := by
  subst ho
  exact load_arr1 (sz := 1) (j := 0) (row := [int v]) (by kernel_rfl) (by kernel_rfl) hb (fun r hr => by obtain ⟨_, _, rfl⟩ := List.mem_map.1 hr; rfl) (by simp [hs]) rfl
noncomputable abbrev ptH (kk ks ko : Int) (rs : List Int) (l : List PtT) : List Blk := [.var [int kk, int ks, int ko], .var (intC rs).flatten, .vec (vecR (l.map PtT.row)) 0 2]
noncomputable abbrev ptS (kk ks ko to : Int) (rs : List Int) (l : List PtT) (x : Int) : AS := { t := mkT 38 0 [(3, int to), (10, .ref (.vec 2 0)), (11, .ref (.ptr 1 0)), (12, int x)], h := ptH kk ks ko rs l, m := [] }
theorem mapRL_int (f : Ref → D) (l : List Int) : D.mapRL f (intC l).flatten = (intC l).flatten := by
  induction l with
  | nil => rfl
  | cons n l ih => simp only [intC, List.map_cons, List.flatten_cons, List.cons_append, List.nil_append, D.mapRL, D.mapR] at ih ⊢; rw [ih]
theorem inn_intM {n : Nat} {l : List Int} {f : Ref → D} : Blk.inn n (.var (D.mapRL f (intC l).flatten)) = true := by rw [mapRL_int]; exact inn_int
theorem inn_vecR {n : Nat} {rs : List (List Dp)} {e sz : Nat} : Blk.inn n (.vec (vecR rs) e sz) = true := vecR_inn rs n
def ptF (v : Int) (n : Nat) (l : List PtT) : List PtT := bif decide (v ≥ 0) then l ++ [⟨(n : Int), v⟩] else l
theorem ptF_row (l : List PtT) (n : Nat) (v : Int) : vecR (l.map PtT.row) ++ [[int (n : Int), int v]] = vecR ((l ++ [PtT.mk (n : Int) v]).map PtT.row) := by simp [PtT.row]
theorem pt_b {kk ks ko to : Int} {rs : List Int} {l : List PtT} {n : Nat} {v : Int} (hv : rs[n]? = .some v) (hn : inR (n : Int) 1024 = true) (hl : l.length ≤ 2000) (hlt : decide ((n : Int) < if false = true then if 1024 > to then 1024 else to else if 1024 < to then 1024 else to) = true) (hw : IntKind.i64.wrap ((n : Int) + 1) = ((n + 1 : Nat) : Int)) : (CW Tryz.prog Γ0 [] false (sub Tryz.f111 0) (ptS kk ks ko to rs l (n : Int)) .normal (ptS kk ks ko to rs (ptF v n l) ((n + 1 : Nat) : Int))) := by
  cases hc0 : decide (v ≥ 0)
  · refine CW.cast (CW.symX (s' := { t := mkT 38 0 [(3, int to), (10, .ref (.vec 2 0)), (11, .ref (.ptr 1 0)), (12, int (IntKind.wrap IntKind.i64 ((↑n : Int) + 1)))], h := [.var [int kk, int ks, int ko], .var (D.mapRL (renR 2 0 0) (List.flatten (intC rs))), .vec (vecR (List.map PtT.row l)) 0 2], m := [] }) (e := Exit.normal) pok [.st (.mask [3, 10, 11, 12]), .st (.ren 2 0), .st (.trimV 3)] [.b true, .ov 27 (int v), .b false] (by kernel_rfl) (.c hlt (.c hn (.c (show loadD Tryz.prog [.var [int kk, int ks, int ko], .var (List.flatten (intC rs)), .vec (vecR (List.map PtT.row l)) 0 2] 3 (.ref (.ptr 1 (0 + Int.toNat (↑n : Int) * 1))) = some (int v) from ?_) (.c hc0 (.c (show List.map (D.mapRL (renR 2 0 0)) (vecR (List.map PtT.row l)) = vecR (List.map PtT.row l) from ?_) (.c (show Blk.inn 3 (match 0 == 2 with | true => .vec (vecR (List.map PtT.row l)) 0 2 | false => keepX (renR 2 0 0) (.var [int kk, int ks, int ko])) = true from rfl) (.c (show Blk.inn 3 (match 0 + 1 == 2 with | true => .vec (vecR (List.map PtT.row l)) 0 2 | false => keepX (renR 2 0 0) (.var (List.flatten (intC rs)))) = true from ?_) (.c (show Blk.inn 3 (match 0 + 1 + 1 == 2 with | true => .vec (vecR (List.map PtT.row l)) 0 2 | false => keepX (renR 2 0 0) (.vec (vecR (List.map PtT.row l)) 0 2)) = true from ?_) .n))))))))) (by first | (simp only []; done) | (simp only [hw, ptF, hc0, cond_true, cond_false, ptF_row, mapRL_int]; first | done | rfl)) (by first | (simp only [hw, ptF, hc0, cond_false, mapRL_int]; done) | (simp only [hw, ptF, hc0, cond_true, cond_false, ptF_row, mapRL_int]; first | done | rfl)) <;> (first | assumption | rfl | exact pt_load rfl hv (by simp) | exact vecR_map _ _ | (rw [ptF_row]; exact vecR_map _ _) | exact inn_int | exact inn_intM | exact inn_vecR | (rw [ptF_row]; exact inn_vecR) | exact vecR_inn _ _ | (rw [ptF_row]; exact vecR_inn _ _) | (simp [rowOk, D.one, Value.oneCell', roomOk]; omega))
  · refine CW.cast (CW.symX (s' := { t := mkT 38 0 [(3, int to), (10, .ref (.vec 2 0)), (11, .ref (.ptr 1 0)), (12, int (IntKind.wrap IntKind.i64 ((↑n : Int) + 1)))], h := [.var [int kk, int ks, int ko], .var (D.mapRL (renR 2 1 0) (List.flatten (intC rs))), .vec (vecR (List.map PtT.row l) ++ [[int (↑n : Int), int v]]) 0 2], m := [] }) (e := Exit.normal) pok [.st (.mask [3, 10, 11, 12]), .st (.ren 2 0), .st (.trimV 3)] [.b true, .ov 27 (int v), .b true, .ov 33 (int v)] (by kernel_rfl) (.c hlt (.c hn (.c (show loadD Tryz.prog [.var [int kk, int ks, int ko], .var (List.flatten (intC rs)), .vec (vecR (List.map PtT.row l)) 0 2] 3 (.ref (.ptr 1 (0 + Int.toNat (↑n : Int) * 1))) = some (int v) from ?_) (.c hc0 (.c hn (.c (show loadD Tryz.prog [.var [int kk, int ks, int ko], .var (List.flatten (intC rs)), .vec (vecR (List.map PtT.row l)) 0 2] 3 (.ref (.ptr 1 (0 + Int.toNat (↑n : Int) * 1))) = some (int v) from ?_) (.c (show (List.all [[int (↑n : Int), int v]] (rowOk 2) && roomOk (List.length (vecR (List.map PtT.row l)) + List.length [[int (↑n : Int), int v]]) 16) = true from ?_) (.c (show List.map (D.mapRL (renR 2 1 0)) (vecR (List.map PtT.row l) ++ [[int (↑n : Int), int v]]) = vecR (List.map PtT.row l) ++ [[int (↑n : Int), int v]] from ?_) (.c (show [[int (↑n : Int), int v]] = [[int (↑n : Int), int v]] from rfl) (.c (show Blk.inn 3 (match 0 == 2 with | true => .vec (vecR (List.map PtT.row l) ++ [[int (↑n : Int), int v]]) 0 2 | false => keepX (renR 2 1 0) (.var [int kk, int ks, int ko])) = true from rfl) (.c (show Blk.inn 3 (match 0 + 1 == 2 with | true => .vec (vecR (List.map PtT.row l) ++ [[int (↑n : Int), int v]]) 0 2 | false => keepX (renR 2 1 0) (.var (List.flatten (intC rs)))) = true from ?_) (.c (show Blk.inn 3 (match 0 + 1 + 1 == 2 with | true => .vec (vecR (List.map PtT.row l) ++ [[int (↑n : Int), int v]]) 0 2 | false => keepX (renR 2 1 0) (.vec (vecR (List.map PtT.row l) ++ [[int (↑n : Int), int v]]) 1 2)) = true from ?_) .n))))))))))))) (by first | (simp only []; done) | (simp only [hw, ptF, hc0, cond_true, cond_false, ptF_row, mapRL_int]; first | done | rfl)) (by first | (simp only [hw, ptF, hc0, cond_true, mapRL_int]; done) | (simp only [hw, ptF, hc0, cond_true, ptF_row, mapRL_int]; first | done | rfl)) <;> (first | assumption | rfl | exact pt_load rfl hv (by simp) | exact vecR_map _ _ | (rw [ptF_row]; exact vecR_map _ _) | exact inn_int | exact inn_intM | exact inn_vecR | (rw [ptF_row]; exact inn_vecR) | exact vecR_inn _ _ | (rw [ptF_row]; exact vecR_inn _ _) | (simp [rowOk, D.one, Value.oneCell', roomOk]; omega))
theorem pt_last {kk ks ko to : Int} {rs : List Int} {l : List PtT} {x : Int} (hlt : decide (x < if false = true then if 1024 > to then 1024 else to else if 1024 < to then 1024 else to) = false) : (CW Tryz.prog Γ0 [] false (sub Tryz.f111 0) (ptS kk ks ko to rs l x) (.exit 0) { t := mkT 38 0 [(10, .ref (.vec 2 0))], h := ptH kk ks ko rs l, m := [] }) := by
  exact CW.cast (CW.symX (s' := { t := mkT 38 0 [(10, .ref (.vec 2 0))], h := [.var [int kk, int ks, int ko], .var (List.flatten (intC rs)), .vec (vecR (List.map PtT.row l)) 0 2], m := [] }) (e := Exit.exit 0) pok [.st (.mask [10])] [.b false] (by kernel_rfl) (.c hlt .n)) (by rfl) (by rfl)
def ptHi (to : Int) : Int := if to < 1024 then to else 1024
theorem ptHi_eq (to : Int) : (if false = true then if 1024 > to then 1024 else to else if 1024 < to then 1024 else to) = ptHi to := by
  unfold ptHi; simp; split <;> split <;> omega
def ptIn (rs : List Int) (x to : Int) : List PtT := (List.range' x.toNat (ptHi to - x).toNat).foldl (fun l n => ptF (rs.getD n 0) n l) []
theorem ptF_len (v : Int) (n : Nat) (l : List PtT) : (ptF v n l).length ≤ l.length + 1 := by unfold ptF; cases decide (v ≥ 0) <;> simp
theorem pt_cw {kk ks ko to : Int} {rs : List Int} (hr : rs.length = 1024) {x : Int} (hx : 0 ≤ x) :
    CW Tryz.prog Γ0 [] false (.loop (sub Tryz.f111 0)) (ptS kk ks ko to rs [] x) (.exit 0) { t := mkT 38 0 [(10, .ref (.vec 2 0))], h := ptH kk ks ko rs (ptIn rs x to), m := [] } := by
  have hx' : ((x.toNat : Nat) : Int) = x := by omega
  have hh : ptHi to ≤ 1024 := by unfold ptHi; split <;> omega
  have := CW.each (P := Tryz.prog) (Γ := Γ0) (h0 := []) (rd := false) (c := sub Tryz.f111 0) (σ := List PtT) (ρ := Empty) (List.range' x.toNat (ptHi to - x).toNat) (fun n l => .inl (ptF (rs.getD n 0) n l))
    (fun i l => ptS kk ks ko to rs l (x + (i : Int))) (.exit 0) (fun l => { t := mkT 38 0 [(10, .ref (.vec 2 0))], h := ptH kk ks ko rs l, m := [] }) (fun r => r.elim)
    (fun i l => l.length ≤ i) (by simp) (fun r => r.elim) ?_ ?_ [] (by simp)
  · rw [forL_fold (fun l n => ptF (rs.getD n 0) n l)] at this
    simpa [eachFin, ptIn] using this
  · intro i n l hn hs
    obtain ⟨hi, he⟩ := List.getElem?_eq_some_iff.1 hn
    simp only [List.length_range'] at hi
    simp only [List.getElem_range', Nat.one_mul] at he
    have hlt : (n : Int) < ptHi to := by omega
    have hb : rs[n]? = some (rs.getD n 0) := by
      rw [List.getD, List.getElem?_eq_getElem (by rw [hr]; omega)]; rfl
    refine ⟨fun s' h => by cases h; have := ptF_len (rs.getD n 0) n l; omega, ?_⟩
    have key := pt_b (kk := kk) (ks := ks) (ko := ko) (to := to) (l := l) hb (by simp [inR]; omega) (by omega) (by rw [ptHi_eq]; simpa using hlt) (by rw [wrap_i64 (by omega) (by omega)]; omega)
    have e1 : x + (i : Int) = (n : Int) := by omega
    have e2 : x + ((i + 1 : Nat) : Int) = ((n + 1 : Nat) : Int) := by omega
    simp only [bodyFin, e1, e2]
    exact key
  · intro l _
    refine pt_last ?_
    rw [ptHi_eq]
    simp
    omega
def ptLo (frm : Int) : Int := if true = true then if frm > 0 then frm else 0 else if frm < 0 then frm else 0
def pointsR (kk ks ko frm to known : Int) (l : List FactT) : List PtT := ptIn (valuesR kk ks ko known l) (ptLo frm) to
theorem ptLo_nn (frm : Int) : 0 ≤ (if true = true then if frm > 0 then frm else 0 else if frm < 0 then frm else 0) := by simp; split <;> omega
theorem points_a {kk ks ko frm to known : Int} {l : List FactT} (hl : Short l) {r0 : List Int} (e1 : AllocIs Tryz.prog [.var [int kk, int ks, int ko]] 215 (.ref (.ptr 1 0)) [.var [int kk, int ks, int ko], .var (intC r0).flatten]) (h0 : r0.length = 1024) (h : List Blk) : (Ev Tryz.prog Γ0 111 [rowsD' (l.map FactT.row), .agg [int kk, int ks, int ko], int frm, int to, int known] h (rowsD' ((pointsR kk ks ko frm to known l).map PtT.row)) h) := by
  have hl0 := (@pt_cw (kk) (ks) (ko) (to) (valuesR kk ks ko known l) (by first | assumption | rfl | exact valuesR_len | exact ptLo_nn _ | exact st_int1 rfl h0 valuesR_len | (simp; done)) (if true = true then if frm > 0 then frm else 0 else if frm < 0 then frm else 0) (by first | assumption | rfl | exact valuesR_len | exact ptLo_nn _ | exact st_int1 rfl h0 valuesR_len | (simp; done)))
  refine Ev.castH (Ev.sym0 (d := rowsD' (List.map PtT.row (pointsR kk ks ko frm to known l))) pok [.val (D.agg (List.flatten (intC (valuesR kk ks ko known l)))), .oh 11 (.ref (.ptr 1 0)) [.var [int kk, int ks, int ko], .var (List.flatten (intC r0))], .oh 10011 D.any [.var [int kk, int ks, int ko], .var (List.flatten (intC (valuesR kk ks ko known l)))], .nx 1, .st (.nilT 10 2), .sum [3, 10, 11, 12] (Exit.exit 0) { t := mkT 38 0 [(10, .ref (.vec 2 0))], h := [.var [int kk, int ks, int ko], .var (List.flatten (intC (valuesR kk ks ko known l))), .vec (vecR (List.map PtT.row (ptIn (valuesR kk ks ko known l) (if true = true then if frm > 0 then frm else 0 else if frm < 0 then frm else 0) to))) 0 2], m := [] }, .st (.frz 2 (List.map PtT.row (pointsR kk ks ko frm to known l)))] (by kernel_rfl) (.c (@values_ev (kk) (ks) (ko) (known) (l) (hl) ([.var [int kk, int ks, int ko]])) (.c (show AllocIs Tryz.prog [.var [int kk, int ks, int ko]] 215 (.ref (.ptr 1 0)) [.var [int kk, int ks, int ko], .var (List.flatten (intC r0))] from ?_) (.c (show storeD Tryz.prog [.var [int kk, int ks, int ko], .var (List.flatten (intC r0))] 215 (.ref (.ptr 1 0)) (D.agg (List.flatten (intC (valuesR kk ks ko known l)))) = some [.var [int kk, int ks, int ko], .var (List.flatten (intC (valuesR kk ks ko known l)))] from ?_) (.c hl0 (.c (show vecR (List.map PtT.row (ptIn (valuesR kk ks ko known l) (if true = true then if frm > 0 then frm else 0 else if frm < 0 then frm else 0) to)) = List.map (fun x => List.map D.p x) (List.map PtT.row (pointsR kk ks ko frm to known l)) from ?_) .n))))) rfl rfl h) (by rfl) (by rfl) <;> (first | assumption | rfl | exact valuesR_len | exact ptLo_nn _ | exact st_int1 rfl h0 valuesR_len | (simp; done))
theorem points_ev {kk ks ko frm to known : Int} {l : List FactT} (hl : Short l) (h : List Blk) : Ev Tryz.prog Γ0 111 [rowsD' (l.map FactT.row), .agg [int kk, int ks, int ko], int frm, int to, int known] h (rowsD' ((pointsR kk ks ko frm to known l).map PtT.row)) h :=
  points_a hl (r0 := List.replicate 1024 0) (by unfold AllocIs; kernel_rfl) (by simp) h
end Go.Vi
open Go Go.Proofs Go.Shelf Go.RowKit Go.Sort
namespace Go.Vi
abbrev valsV {α : Type} (enc : α → List Value) (l : List α) : List (List D) := l.map fun x => (enc x).map lit
theorem relL_vlits {w : World} {av : Nat → Prop} {loc : Loc} {h : List Blk} : ∀ {vs ys : List Value}, RelL w av loc h (vs.map lit) ys → ys = vs
  | [], [], _ => rfl
  | [], _ :: _, r => by simp [RelL] at r
  | _ :: _, [], r => by simp [RelL] at r
  | v :: vs, y :: ys, r => by
    simp only [List.map_cons, RelL] at r
    have h1 : y = v := by simpa [Rel, RelP] using r.1
    rw [h1, relL_vlits r.2]
theorem relL_vlits' {w : World} {av : Nat → Prop} {loc : Loc} {h : List Blk} : ∀ {vs : List Value}, RelL w av loc h (vs.map lit) vs
  | [] => trivial
  | v :: vs => by
    simp only [List.map_cons, RelL]
    exact ⟨by simp [Rel, RelP], relL_vlits'⟩
theorem valsV_flat {α : Type} (enc : α → List Value) (l : List α) : (valsV enc l).flatten = ((l.map enc).flatten).map lit := by
  induction l with
  | nil => rfl
  | cons a l ih => simp only [valsV, List.map_cons, List.flatten_cons, List.map_append] at ih ⊢; rw [ih]
theorem flatK_list {α : Type} [Inhabited α] (enc : α → List Value) (k : Nat) (hk : ∀ x, (enc x).length = k) (l : List α) : (flatK enc k l.toArray).toList = (l.map enc).flatten := by
  have key : ∀ (l : List α) (t : Nat), t < l.length * k → ((l.map enc).flatten)[t]? = some ((enc (l.toArray[t / k]!))[t % k]!) := by
    intro l
    induction l with
    | nil => intro t h; simp at h
    | cons a l ih =>
      intro t h
      simp only [List.map_cons, List.flatten_cons]
      rcases Nat.lt_or_ge t k with hlt | hge
      · rw [List.getElem?_append_left (by rw [hk]; exact hlt), Nat.div_eq_of_lt hlt, Nat.mod_eq_of_lt hlt]
        have : t < (enc a).length := by rw [hk]; exact hlt
        simp [this]
      · have k0 : 0 < k := by rcases Nat.eq_zero_or_pos k with h0 | h0
                              · subst h0; simp at h
                              · exact h0
        rw [List.getElem?_append_right (by rw [hk]; exact hge), hk]
        obtain ⟨u, rfl⟩ : ∃ u, t = u + k := ⟨t - k, by omega⟩
        have hu : u < l.length * k := by simp only [List.length_cons, Nat.add_mul, Nat.one_mul] at h; omega
        rw [show u + k - k = u by omega, ih u hu, Nat.add_div_right _ k0, Nat.add_mod_right]
        simp
  apply List.ext_getElem?
  intro t
  have hlen : ((l.map enc).flatten).length = l.length * k := by
    clear key
    induction l with
    | nil => simp
    | cons a l ih => simp only [List.map_cons, List.flatten_cons, List.length_append, hk, ih, List.length_cons, Nat.add_mul, Nat.one_mul]; omega
  by_cases ht : t < l.length * k
  · rw [key l t ht]
    simp [flatK, ht]
  · rw [List.getElem?_eq_none (by simp [flatK]; omega), List.getElem?_eq_none (by omega)]
theorem world_grow {w w' : World} (h1 : w.heap.size ≤ w'.heap.size) (h2 : ∀ k, k < w.heap.size → w'.heap[k]? = w.heap[k]?) (h3 : w'.tape = w.tape ∧ w'.os = w.os ∧ w'.output = w.output ∧ w.drawn ≤ w'.drawn) :
    ∃ q os', w' = Sort.grow (w.drewN q) os' := by
  refine ⟨w'.drawn - w.drawn, w'.heap.extract w.heap.size w'.heap.size, ?_⟩
  obtain ⟨heap, tape, drawn, os, output⟩ := w
  obtain ⟨heap', tape', drawn', os', output'⟩ := w'
  obtain ⟨rfl, rfl, rfl, h4⟩ := h3
  simp only [Sort.grow, World.drewN] at h1 h2 h4 ⊢
  congr 1
  · apply Array.ext'
    rw [Array.toList_append, Array.toList_extract]
    apply List.ext_getElem?
    intro i
    by_cases hi : i < heap.size
    · rw [List.getElem?_append_left (by simpa using hi)]
      have := h2 i hi
      rw [← Array.getElem?_toList, ← Array.getElem?_toList] at this
      exact this
    · rw [List.getElem?_append_right (by simpa using Nat.le_of_not_lt hi)]
      simp only [List.extract_eq_take_drop, Array.length_toList]
      by_cases hj : i < heap'.size
      · rw [List.getElem?_take, if_pos (by omega), List.getElem?_drop]
        congr 1; omega
      · rw [List.getElem?_eq_none (by simpa using Nat.le_of_not_lt hj), List.getElem?_eq_none (by simp; omega)]
  · omega
theorem cmpLays_of {P : Program} {Γ : Glob} {O : Nat → Prop} {α : Type} [Inhabited α] {enc : α → List Value} {k g : Nat} {cf : α → α → Int} {w : World} {loc : Loc} {h : List Blk} (R : Rep Γ O w loc h) {blk : Nat} (hblk : avs O loc h blk)
    (hE : ∀ x y, Ev P Γ g [.agg ((enc x).map lit), .agg ((enc y).map lit)] [] (int (cf x y)) []) (size : Nat) : CmpLays P g #[] enc k cf blk 0 size w := by
  intro m os dk hs x y
  generalize hW : sortWorldK enc k w blk 0 m dk os = W
  have hb : blk < w.heap.size := by
    rcases hblk with ho | ho
    · exact R.obd blk ho
    · exact (R.inb blk ho).1
  have hcell : ∀ b off v, ¬ avs O loc h b → w.cell? ⟨b, off, none⟩ = some v → W.cell? ⟨b, off, none⟩ = some v ∧ ¬ avs (fun _ => False) loc [] b := by
    intro b off v hn hc
    have hne : b ≠ blk := fun e => hn (e ▸ hblk)
    refine ⟨?_, fun ho => ho.elim id (fun h => absurd h own_nil)⟩
    subst hW
    have hlt : b < w.heap.size := by
      simp only [World.cell?] at hc
      split at hc
      · rename_i hx; exact (Array.getElem?_eq_some_iff.1 hx).1
      · simp at hc
    have : (sortWorldK enc k w blk 0 m dk os).heap[b]? = w.heap[b]? := by
      unfold sortWorldK
      rw [Sort.heap_grow_old _ _ (by simpa [putRowK, Sort.putRow, Sort.mapBlock, Sort.ahead] using hlt)]
      simp [putRowK, Sort.putRow, Sort.mapBlock, Sort.ahead, Array.getElem?_modify, Ne.symm hne]
    simp only [World.cell?, this]
    exact hc
  have R0 : Rep Γ (fun _ => False) W loc [] := by
    refine ⟨fun blk ho => absurd ho own_nil, fun blk ho => ho.elim, fun b b' x x' k c c' hb => by simp at hb, fun b x hb => by simp at hb, fun g cs hg => ?_⟩
    exact RelCells.mono hcell g 0 cs (R.glo g cs hg)
  have ra : RelL W (avs (fun _ => False) loc []) loc [] [.agg ((enc x).map lit), .agg ((enc y).map lit)] [.agg (enc x).toArray, .agg (enc y).toArray] := by
    refine ⟨⟨_, rfl, relL_vlits'⟩, ⟨_, rfl, relL_vlits'⟩, trivial⟩
  refine Calls.mono (callsIn_wide.1 (hE x y (fun _ => False) W loc _ R0 ra)) ?_
  rintro e w' ⟨v, d2, h2, l', rfl, ⟨rfl, rfl⟩, R', E', rd⟩
  refine ⟨?_, world_grow E'.size (fun b hb => E'.same b hb own_nil) E'.tape⟩
  have : v = .int .i64 (cf x y) := by simpa [Rel, RelP] using rd
  rw [this]
theorem sortFunc_ev' {P : Program} {ρ : Ren} {Γ : Glob} (ok : POk P) (L : SlLaysF0.n6 P ρ) {α : Type} [Inhabited α] {enc : α → List Value} {k : Nat} (aE : ∀ w, (isAgg (ρ.t 24)).run P w = .ok true w) (zE : ∀ w, (Go.sizeOf (ρ.t 24)).run P w = .ok k w) (hk : ∀ x, (enc x).length = k) (h1 : ∀ x, ∀ v ∈ enc x, v.oneCell' = true)
    {cf : α → α → Int} (hO : Sort.SWO (ltOf cf)) {g : Nat} (hg : funOk P g = true) (hE : ∀ x y, Ev P Γ g [.agg ((enc x).map lit), .agg ((enc y).map lit)] [] (int (cf x y)) [])
    {h : List Blk} {b e : Nat} {l : List α} (hb : h[b]? = some (.vec (valsV enc l) e k)) (hl : l.length < 4611686018427387904) (hT : ∀ x ∈ l, ∀ y ∈ l, (ltOf cf) x y = false → (ltOf cf) y x = false → x = y) :
    Ev P Γ (ρ.f 6) [.ref (.vec b e), .p (.v (.func (.func g) #[] #[]))] h (.tup []) (h.set b (.vec (valsV enc (l.mergeSort fun x y => !(ltOf cf) y x)) e k)) := by
  intro O w loc vs R ra
  obtain ⟨y, rfl⟩ : ∃ y, vs = [y, .func (.func g) #[] #[]] := by
    match vs, ra with
    | [y, z], r => exact ⟨y, by have : z = .func (.func g) #[] #[] := by simpa [Rel, RelP, RelL] using r.2
                                rw [this]⟩
    | [], r => simp [RelL] at r
    | [_], r => simp [RelL] at r
    | _ :: _ :: _ :: _, r => simp [RelL] at r
  have r := ra.1
  simp only [Rel, RefRel, hb] at r
  have hv := r.2.2 trivial
  have B := R.blk b _ hb
  simp only [BlkOk] at B
  have hlen : (valsV enc l).length = l.length := by simp [valsV]
  refine callsIn_wide.2 ?_
  cases hlb : loc b with
  | none =>
    rw [hlb] at hv B
    obtain ⟨hn, rfl⟩ := hv
    have hl0 : l = [] := by simpa [valsV] using hn
    subst hl0
    refine Calls.mono (AnyF.slices_SortFunc_none L none 0 _ w) ?_
    rintro e' w' ⟨rfl, rfl⟩
    have hset : h.set b (.vec (valsV enc (([] : List α).mergeSort fun x y => !(ltOf cf) y x)) e k) = h := by
      apply List.ext_getElem?
      intro i
      by_cases hi : i = b
      · subst hi; rw [get_set_eq hb, hb]; simp
      · rw [get_set_ne _ _ hi]
    refine ⟨.tuple #[], .tup [], _, loc, rfl, ⟨rfl, rfl⟩, ?_, ?_, ?_⟩
    · rw [hset]; exact R
    · rw [hset]; exact Ext.refl _ _ _
    · simp [Rel, RelL]
  | some p =>
    obtain ⟨blk, cap⟩ := p
    rw [hlb] at hv B
    obtain ⟨rfl, hcap⟩ := hv
    simp only at B
    obtain ⟨c, T, fr, ys, hobj, hcs, hle, hfr, hsz, hrel, rest, hcl⟩ := B
    rw [valsV_flat] at hrel
    have hys := relL_vlits hrel
    subst hys
    have hblk : blk < w.heap.size := (Array.getElem?_eq_some_iff.1 hobj).1
    have hown : avs O loc h blk := .inr ⟨b, _, cap, hb, by simp, hlb⟩
    have hH : HoldsK enc k w blk 0 l.toArray := by
      intro j hj
      have hj' : j < l.length * k := by simpa using hj
      have hc : c[j]? = some (flatK enc k l.toArray)[j]! := by
        rw [← Array.getElem?_toList, hcl, ← flatK_list enc k hk l, List.getElem?_append_left (by simpa using hj')]
        rw [Array.getElem?_toList, getElem!_pos _ j (by simpa using hj')]
        exact Array.getElem?_eq_getElem _
      constructor
      · simp [World.cell?, hobj, hc]
      · have := hfr j (Array.getElem?_eq_some_iff.1 hc).1
        obtain ⟨lo, hi⟩ := fr
        simp only [World.frozen?, hobj, Nat.zero_add]
        rw [← Bool.not_eq_true]
        simpa using this
    have eg : ∀ args w, (callFunc g args).run P w = .ok (.enter g args) w := fun args w => by
      unfold funOk at hg
      split at hg
      · rename_i fn hfn; exact call_run ok hfn hg args w
      · simp at hg
    rw [hlen]
    refine Calls.mono (AnyQ.slices_SortFunc L k aE zE enc hk h1 cf hO g #[] blk 0 cap l.toArray w eg (cmpLays_of R hown hE _) hH hblk hl) ?_
    rintro e' w' ⟨rfl, d', n, os, hP, hS, rfl⟩
    have hd' : d'.toList = l.mergeSort fun x y => !(ltOf cf) y x := by
      obtain ⟨hsz', _, hperm⟩ := hP
      have e1 : d'.extract 0 l.toArray.size = d' := by rw [← hsz']; exact Array.extract_size
      rw [e1, Array.extract_size] at hperm
      refine List.Perm.eq_of_pairwise (le := fun x y => (!(ltOf cf) y x) = true) ?_ ?_ ?_ (hperm.trans (List.mergeSort_perm _ _).symm)
      · intro a b' ha hb' h1 h2
        simp only [Bool.not_eq_true'] at h1 h2
        have ha' : a ∈ l := by simpa using hperm.mem_iff.1 ha
        have hb2 : b' ∈ l := (List.mergeSort_perm _ _).mem_iff.1 hb'
        exact hT a ha' b' hb2 h2 h1
      · rw [List.pairwise_iff_getElem]
        intro i j hi hj hij
        have hi' : i < d'.size := by simpa using hi
        have hj' : j < d'.size := by simpa using hj
        have := hS i j (Nat.zero_le _) hij (by omega)
        rw [getElem!_pos d' j hj', getElem!_pos d' i hi'] at this
        simpa using this
      · exact List.pairwise_mergeSort (fun a b c h1 h2 => by
          simp only [Bool.not_eq_true'] at h1 h2 ⊢
          exact hO.ntrans _ _ _ h2 h1) (fun a b => by
          cases hab : (ltOf cf) b a
          · simp
          · have : (ltOf cf) a b = false := by
              cases hba : (ltOf cf) a b
              · rfl
              · have := hO.trans _ _ _ hab hba
                rw [hO.irrefl] at this; exact absurd this (by simp)
            simp [this]) l
    have hdA : d' = (l.mergeSort fun x y => !(ltOf cf) y x).toArray := by rw [← hd']
    have hlm : (l.mergeSort fun x y => !(ltOf cf) y x).length = l.length := by simp
    subst hdA
    clear hP hS hd'
    generalize (l.mergeSort fun x y => !(ltOf cf) y x) = m at hlm ⊢
    have hobj' : (sortWorldK enc k w blk 0 n m.toArray os).heap[blk]? = some (.cells (Sort.putCells id 0 (flatK enc k m.toArray) c) T fr) := by
      unfold sortWorldK
      rw [Sort.heap_grow_old _ _ (by simpa [putRowK, Sort.putRow, Sort.mapBlock, Sort.ahead] using hblk)]
      simp [putRowK, Sort.putRow, Sort.mapBlock, Sort.ahead, Array.getElem?_modify, hobj, Sort.onCells]
    have hfl : ((l.map enc).flatten).length = l.length * k := by rw [← flatK_list enc k hk]; simp
    have hcells : (Sort.putCells id 0 (flatK enc k m.toArray) c).toList = (m.map enc).flatten ++ rest := by
      unfold Sort.putCells
      rw [Array.toList_mapIdx, hcl, ← flatK_list enc k hk m]
      apply List.ext_getElem?
      intro i
      rw [List.getElem?_mapIdx]
      by_cases hi : i < l.length * k
      · rw [List.getElem?_append_left (by rw [hfl]; exact hi), List.getElem?_append_left (by simpa [hlm] using hi)]
        have hi2 : i < ((l.map enc).flatten).length := by rw [hfl]; exact hi
        have hi3 : i < (flatK enc k m.toArray).size := by simpa [hlm] using hi
        rw [List.getElem?_eq_getElem hi2, Array.getElem?_toList, Array.getElem?_eq_getElem hi3]
        simp only [Option.map_some, Nat.zero_add, Nat.zero_le, Nat.sub_zero, true_and, id_eq, if_pos hi3]
        rw [getElem!_pos _ i hi3]
      · rw [List.getElem?_append_right (by rw [hfl]; exact Nat.le_of_not_lt hi), List.getElem?_append_right (by simpa [hlm] using Nat.le_of_not_lt hi)]
        simp [hi, hlm, hfl]
    have key := R.step (w' := sortWorldK enc k w blk 0 n m.toArray os) (l' := loc) (h' := h.set b (.vec (valsV enc m) e k)) b (.vec (valsV enc m) e k)
      (by simp [sortWorldK, Sort.grow, putRowK, Sort.putRow, Sort.mapBlock, Sort.ahead]) ⟨rfl, rfl, rfl, by simp [sortWorldK, Sort.grow, putRowK, Sort.putRow, Sort.mapBlock, Sort.ahead]⟩ (fun i hi => get_set_ne _ _ hi) (get_set_eq hb) (fun _ _ => rfl)
      (fun z hz => by rw [hb] at hz; cases hz; exact ⟨⟨Nat.le_refl _, fun _ => by simp [valsV, hlm], rfl⟩, fun _ => rfl⟩)
      (fun k' hk' hno => by
        have hkb : k' ≠ blk := fun e => hno _ cap hb (by simp) (by rw [hlb, e])
        unfold sortWorldK
        rw [Sort.heap_grow_old _ _ (by simpa [putRowK, Sort.putRow, Sort.mapBlock, Sort.ahead] using hk')]
        simp [putRowK, Sort.putRow, Sort.mapBlock, Sort.ahead, Array.getElem?_modify, Ne.symm hkb])
      (fun k' c' hk' => .inl ⟨_, c', hb, by simp, hk'⟩)
      (fun E => by
        simp only [BlkOk, hlb]
        refine ⟨_, T, fr, (m.map enc).flatten, hobj', ?_, ?_, ?_, ?_, ?_, rest, hcells⟩
        · simpa [Sort.putCells] using hcs
        · simpa [valsV, hlm] using hle
        · simpa [Sort.putCells] using hfr
        · intro r hr
          obtain ⟨x, _, rfl⟩ := List.mem_map.1 hr
          simp [hk]
        · rw [valsV_flat]; exact relL_vlits')
    exact ⟨.tuple #[], .tup [], _, loc, rfl, ⟨rfl, rfl⟩, key.1, key.2, by simp [Rel, RelL]⟩
end Go.Vi
open Go Go.Proofs Go.Shelf
namespace Go.Proofs
def Tryz.sortAtt_ren : Go.Shelf.Ren := ⟨fun | 6 => 117 | 15 => 122 | 14 => 162 | 28 => 173 | 29 => 174 | 20 => 200 | 21 => 201 | 22 => 202 | 23 => 203 | 24 => 204 | 25 => 205 | 26 => 206 | 27 => 207 | 46 => 227 | 47 => 211 | 48 => 212 | 49 => 228 | 50 => 229 | 57 => 235 | n => n, fun | 22 => 45 | 24 => 52 | 25 => 144 | 3 => 3 | 39 => 192 | 0 => 0 | 53 => 233 | 55 => 169 | 4 => 4 | 46 => 227 | 45 => 226 | 50 => 150 | 5 => 5 | 9 => 9 | 66 => 251 | 70 => 255 | 76 => 265 | 77 => 266 | n => n, fun | n => n⟩
theorem Tryz.sortAtt : Go.Proofs.SlLaysF0.n6 Tryz.prog Tryz.sortAtt_ren := {
  mixed := by kernel_rfl
  f6 := ⟨Tryz.f117.name, by decide, Tryz.func117.trans (congrArg some (by kernel_rfl))⟩
  f14 := ⟨Tryz.f162.name, by decide, Tryz.func162.trans (congrArg some (by kernel_rfl))⟩
  f15 := Tryz.func122.trans (congrArg some (by kernel_rfl))
  f20 := ⟨Tryz.f200.name, by decide, Tryz.func200.trans (congrArg some (by kernel_rfl))⟩
  f21 := ⟨Tryz.f201.name, by decide, Tryz.func201.trans (congrArg some (by kernel_rfl))⟩
  f22 := ⟨Tryz.f202.name, by decide, Tryz.func202.trans (congrArg some (by kernel_rfl))⟩
  f23 := ⟨Tryz.f203.name, by decide, Tryz.func203.trans (congrArg some (by kernel_rfl))⟩
  f24 := ⟨Tryz.f204.name, by decide, Tryz.func204.trans (congrArg some (by kernel_rfl))⟩
  f25 := ⟨Tryz.f205.name, by decide, Tryz.func205.trans (congrArg some (by kernel_rfl))⟩
  f26 := ⟨Tryz.f206.name, by decide, Tryz.func206.trans (congrArg some (by kernel_rfl))⟩
  f27 := ⟨Tryz.f207.name, by decide, Tryz.func207.trans (congrArg some (by kernel_rfl))⟩
  f28 := Tryz.func173.trans (congrArg some (by kernel_rfl))
  f29 := Tryz.func174.trans (congrArg some (by kernel_rfl))
  f46 := ⟨Tryz.f227.name, by decide, Tryz.func227.trans (congrArg some (by kernel_rfl))⟩
  f47 := Tryz.func211.trans (congrArg some (by kernel_rfl))
  f48 := Tryz.func212.trans (congrArg some (by kernel_rfl))
  f49 := ⟨Tryz.f228.name, by decide, Tryz.func228.trans (congrArg some (by kernel_rfl))⟩
  f50 := ⟨Tryz.f229.name, by decide, Tryz.func229.trans (congrArg some (by kernel_rfl))⟩
  f57 := ⟨Tryz.f235.name, by decide, Tryz.func235.trans (congrArg some (by kernel_rfl))⟩
  t0 := Tryz.underlying0
  a0 := Tryz.isAgg0
  z0 := Tryz.sizeOf0
  v0 := Tryz.zeroValue0
  t3 := Tryz.underlying3
  a3 := Tryz.isAgg3
  z3 := Tryz.sizeOf3
  v3 := Tryz.zeroValue3
  t4 := Tryz.underlying4
  a4 := Tryz.isAgg4
  z4 := Tryz.sizeOf4
  v4 := Tryz.zeroValue4
  t5 := Tryz.underlying5
  a5 := Tryz.isAgg5
  z5 := Tryz.sizeOf5
  v5 := Tryz.zeroValue5
  t9 := Tryz.underlying9
  a9 := Tryz.isAgg9
  z9 := Tryz.sizeOf9
  v9 := Tryz.zeroValue9
  t22 := Tryz.underlying45
  a22 := Tryz.isAgg45
  z22 := Tryz.sizeOf45
  v22 := Tryz.zeroValue45
  t25 := Tryz.underlying144
  a25 := Tryz.isAgg144
  z25 := Tryz.sizeOf144
  v25 := Tryz.zeroValue144
  t39 := Tryz.underlying192
  a39 := Tryz.isAgg192
  z39 := Tryz.sizeOf192
  v39 := Tryz.zeroValue192
  t45 := Tryz.underlying226
  a45 := Tryz.isAgg226
  z45 := Tryz.sizeOf226
  v45 := Tryz.zeroValue226
  t46 := Tryz.underlying227
  a46 := Tryz.isAgg227
  z46 := Tryz.sizeOf227
  v46 := Tryz.zeroValue227
  t50 := Tryz.underlying150
  a50 := Tryz.isAgg150
  z50 := Tryz.sizeOf150
  v50 := Tryz.zeroValue150
  t53 := Tryz.underlying233
  a53 := Tryz.isAgg233
  z53 := Tryz.sizeOf233
  v53 := Tryz.zeroValue233
  t55 := Tryz.underlying169
  a55 := Tryz.isAgg169
  z55 := Tryz.sizeOf169
  v55 := Tryz.zeroValue169
  t66 := Tryz.underlying251
  a66 := Tryz.isAgg251
  z66 := Tryz.sizeOf251
  v66 := Tryz.zeroValue251
  t70 := Tryz.underlying255
  a70 := Tryz.isAgg255
  z70 := Tryz.sizeOf255
  v70 := Tryz.zeroValue255
  t76 := Tryz.underlying265
  a76 := Tryz.isAgg265
  z76 := Tryz.sizeOf265
  v76 := Tryz.zeroValue265
  t77 := Tryz.underlying266
  a77 := Tryz.isAgg266
  z77 := Tryz.sizeOf266
  v77 := Tryz.zeroValue266 }
end Go.Proofs
namespace Go.Vi
open Go.Sort
def ordA (a b : AttT) : Int := orI (cmpI a.term b.term) (cmpI a.course b.course)
def leA (a b : AttT) : Bool := !(ltOf ordA) b a
theorem ltA_iff (a b : AttT) : (ltOf ordA) a b = true ↔ a.term < b.term ∨ (a.term = b.term ∧ a.course < b.course) := by
  unfold ltOf ordA orI cmpI
  simp only [decide_eq_true_eq]
  repeat' split
  all_goals simp_all
  all_goals omega
theorem ltA_fls (a b : AttT) : (ltOf ordA) a b = false ↔ ¬ (a.term < b.term ∨ (a.term = b.term ∧ a.course < b.course)) := by
  rw [← ltA_iff, Bool.not_eq_true]
theorem swoA : SWO (ltOf ordA) where
  irrefl x := by rw [ltA_fls]; omega
  trans x y z h1 h2 := by rw [ltA_iff] at *; omega
  ntrans x y z h1 h2 := by rw [ltA_fls] at *; omega
def encA (a : AttT) : List Value := [.int .i64 a.course, .int .i64 a.term, .int .i64 a.grade, .int .i64 a.campus, .int .i64 a.credits]
abbrev attsV (l : List AttT) : List (List D) := l.map fun a => a.row.map .p
theorem sortAtt_ev {h : List Blk} {b e : Nat} {l : List AttT} (hb : h[b]? = some (.vec (attsV l) e 5)) (hl : l.length < 4611686018427387904) (hT : ∀ x ∈ l, ∀ y ∈ l, x.term = y.term → x.course = y.course → x = y) :
    Ev Tryz.prog Γ0 117 [.ref (.vec b e), .p (.v (.func (.func 79) #[] #[]))] h (.tup []) (h.set b (.vec (attsV (l.mergeSort leA)) e 5)) :=
  sortFunc_ev' (α := AttT) (enc := encA) (k := 5) (cf := ordA) pok Tryz.sortAtt Tryz.isAgg52 Tryz.sizeOf52 (fun _ => rfl) (fun x v hv => by simp [encA] at hv; rcases hv with rfl | rfl | rfl | rfl | rfl <;> rfl) swoA (by kernel_rfl) (fun x y => order_ev []) hb hl
    (fun x hx y hy h1 h2 => by
      rw [ltA_fls] at h1 h2
      exact hT x hx y hy (by omega) (by omega))
end Go.Vi
open Go Go.Proofs
namespace Go.Vi
set_option maxRecDepth 100000
set_option maxHeartbeats 4000000
structure ReadT where
  kind : Int
  sub : Int
  obj : Int
  frm : Int
  til : Int
  deriving Inhabited, DecidableEq
def ReadT.row (r : ReadT) : List Dp := [vi r.kind, vi r.sub, vi r.obj, vi r.frm, vi r.til]
abbrev rdR (l : List ReadT) : List (List Dp) := l.map ReadT.row
theorem rd_ok (l : List ReadT) : (vecR (rdR l)).all (rowOk 5) = true := by
  rw [List.all_eq_true]
  intro r hr
  obtain ⟨x, hx, rfl⟩ := List.mem_map.1 hr
  obtain ⟨y, _, rfl⟩ := List.mem_map.1 hx
  rfl
abbrev lkH (w : WorldT) (known : Int) (rs : List ReadT) (e : Nat) : List Blk := [.var [.ref (.vec 1 e), rowsD' (w.c.map CourseT.row), rowsD' w.p, rowsD' (w.s.map SysT.row), rowsD' (w.f.map FactT.row), int known], .vec (vecR (rdR rs)) e 5]
theorem lkadd_ev {w : WorldT} {known : Int} {rs qs : List ReadT} (hb : rs.length + qs.length ≤ 1000000000) : (Ev Tryz.prog Γk 119 [.ref (.ptr 0 0), rowsD' (rdR qs)] (lkH w known rs 0) (.tup []) (lkH w known (rs ++ qs) 1)) := by
  refine Ev.castH (Ev.of_sym (h' := [.var [.ref (.vec 1 1), rowsD' (List.map CourseT.row w.c), rowsD' w.p, rowsD' (List.map SysT.row w.s), rowsD' (List.map FactT.row w.f), int known], .vec (vecR (rdR rs) ++ List.map (fun x => List.map D.p x) (rdR qs)) 1 5]) (d := D.tup []) pok [] (by kernel_rfl) (.c (show (List.all (List.map (fun x => List.map D.p x) (rdR qs)) (rowOk 5) && roomOk (List.length (vecR (rdR rs)) + List.length (List.map (fun x => List.map D.p x) (rdR qs))) 40) = true from (by first | assumption | rfl | omega | (simp only [rd_ok, roomOk, Bool.true_and, Bool.and_eq_true, decide_eq_true_eq, List.length_map]; omega))) .n)) ?_ ?_ <;> (first | rfl | (simp only [lkH, rdR, vecR, List.map_append]; rfl) | (simp only [lkH, rdR, vecR, List.map_append]; done))
theorem lkadd1_ev {w : WorldT} {known : Int} {rs : List ReadT} {q : ReadT} (hb : rs.length ≤ 999999999) : (Ev Tryz.prog Γk 119 [.ref (.ptr 0 0), .ref (.vec 2 0)] (lkH w known rs 0 ++ [.vec [[int q.kind, int q.sub, int q.obj, int q.frm, int q.til]] 0 5]) (.tup []) (lkH w known (rs ++ [q]) 1 ++ [.vec [[int q.kind, int q.sub, int q.obj, int q.frm, int q.til]] 0 5])) := by
  refine Ev.castH (Ev.of_sym (h' := [.var [.ref (.vec 1 1), rowsD' (List.map CourseT.row w.c), rowsD' w.p, rowsD' (List.map SysT.row w.s), rowsD' (List.map FactT.row w.f), int known], .vec (vecR (rdR rs) ++ [[int q.kind, int q.sub, int q.obj, int q.frm, int q.til]]) 1 5, .vec [[int q.kind, int q.sub, int q.obj, int q.frm, int q.til]] 0 5]) (d := D.tup []) pok [] (by kernel_rfl) (.c (show (List.all [[int q.kind, int q.sub, int q.obj, int q.frm, int q.til]] (rowOk 5) && roomOk (List.length (vecR (rdR rs)) + List.length [[int q.kind, int q.sub, int q.obj, int q.frm, int q.til]]) 40) = true from (by first | assumption | rfl | omega | (simp [rowOk, D.one, Value.oneCell', roomOk]; omega))) .n)) ?_ ?_ <;> (first | rfl | (simp only [lkH, rdR, vecR, List.map_append]; rfl) | (simp only [lkH, rdR, vecR, List.map_append]; done))
def rdN : ReadT := ⟨12, 0, 0, 0, 1⟩
theorem numbers2_ev {w : WorldT} (hw : w.ok) {known : Int} (h : List Blk) : Ev Tryz.prog Γk 34 [.agg w.l, int known] h (.tup [rowsD' ((numbersR w.f known).map fun n => [vi n]), .ref (.vec h.length 0)]) (h ++ [.vec (vecR (rdR [rdN])) 0 5]) :=
  Ev.glob0 (numbers_evA hw.lf hw.sf h)
def rdT (kk ks ko term : Int) : List ReadT := match outB term with
  | true => []
  | false => [⟨kk, ks, ko, term, IntKind.i64.wrap (term + 1)⟩]
theorem rdT_row (kk ks ko term : Int) : readsT kk ks ko term = rdR (rdT kk ks ko term) := by
  unfold readsT rdT
  cases outB term <;> rfl
theorem rdT_len (kk ks ko term : Int) : (rdT kk ks ko term).length ≤ 1 := by unfold rdT; cases outB term <;> simp
theorem course2_ev {w : WorldT} (hw : w.ok) {n term known : Int} (h : List Blk) : Ev Tryz.prog Γk 161 [.agg w.l, int n, int term, int known] h (.tup [ag (courseR w n term known).1.row, rowsD' (rdR (rdT 1 n 0 term)), bool (courseR w n term known).2]) h := by
  rw [← rdT_row]; exact course_evA hw h
noncomputable abbrev lknum_ev_x0 (w : WorldT) (known : Int) (rs : List ReadT) : List Blk := [.var [.ref (.vec 1 1), rowsD' (List.map CourseT.row w.c), rowsD' w.p, rowsD' (List.map SysT.row w.s), rowsD' (List.map FactT.row w.f), int known], .vec (vecR (rdR (rs ++ [rdN]))) 1 5, .vec [[int rdN.kind, int rdN.sub, int rdN.obj, int rdN.frm, int rdN.til]] 0 5]
noncomputable abbrev lknum_ev_x1 (w : WorldT) (known : Int) (rs : List ReadT) : List Blk := [.var [.ref (.vec 1 0), rowsD' (List.map CourseT.row w.c), rowsD' w.p, rowsD' (List.map SysT.row w.s), rowsD' (List.map FactT.row w.f), int known], .vec (vecR (rdR rs)) 0 5, .vec [[int rdN.kind, int rdN.sub, int rdN.obj, int rdN.frm, int rdN.til]] 0 5]
noncomputable abbrev lknum_ev_x2 (w : WorldT) (known : Int) (rs : List ReadT) : List Blk := [.var [.ref (.vec 1 0), rowsD' (List.map CourseT.row w.c), rowsD' w.p, rowsD' (List.map SysT.row w.s), rowsD' (List.map FactT.row w.f), int known], .vec (vecR (rdR rs)) 0 5]
theorem lknum_ev {w : WorldT} (hw : w.ok) {known : Int} {rs : List ReadT} (hb : rs.length ≤ 999999000) : (Ev Tryz.prog Γk 62 [.ref (.ptr 0 0)] (lkH w known rs 0) (rowsD' ((numbersR w.f known).map fun n => [vi n])) (lkH w known (rs ++ [rdN]) 1)) := by
  refine Ev.castH (Ev.post (d2 := rowsD' (List.map (fun n => [vi n]) (numbersR w.f known))) (h2 := [.var [.ref (.vec 1 1), rowsD' (List.map CourseT.row w.c), rowsD' w.p, rowsD' (List.map SysT.row w.s), rowsD' (List.map FactT.row w.f), int known], .vec (vecR (rdR (rs ++ [rdN]))) 1 5]) (φ := [Blk.inn 2 (.var [.ref (.vec 1 1), rowsD' (List.map CourseT.row w.c), rowsD' w.p, rowsD' (List.map SysT.row w.s), rowsD' (List.map FactT.row w.f), int known]) = true, Blk.inn 2 (.vec (vecR (rdR (rs ++ [rdN]))) 1 5) = true]) [.st (.trimV 2)] (Ev.of_sym (h' := (lknum_ev_x0 w known rs)) (d := rowsD' (List.map (fun n => [vi n]) (numbersR w.f known))) pok [.call (D.tup [rowsD' (List.map (fun n => [vi n]) (numbersR w.f known)), .ref (.vec 2 0)]) (lknum_ev_x1 w known rs), .call (D.tup []) (lknum_ev_x0 w known rs)] (by kernel_rfl) (.c (@numbers2_ev (w) (hw) (known) ((lknum_ev_x2 w known rs))) (.e (.ref (.ptr 0 0)) (.e (.ref (.ptr 0 1)) (.e (D.agg (WorldT.l w)) (.e (.ref (.ptr 0 0)) (.e (.ref (.ptr 0 5)) (.e (int known) (.c (@lkadd1_ev (w) (known) (rs) (rdN) ?_) .n))))))))) (by kernel_rfl) ⟨rfl, ?_, trivial⟩) (by first | rfl | (simp only [lkH, rdR, vecR, List.map_append]; rfl) | (simp only [lkH, rdR, vecR, List.map_append]; done)) (by first | rfl | (simp only [lkH, rdR, vecR, List.map_append]; rfl) | (simp only [lkH, rdR, vecR, List.map_append]; done)) <;> (first | assumption | rfl | omega | exact vecR_inn _ _ | exact inn_vecR | (simp; omega) | (simp only [rd_ok, roomOk, Bool.true_and, Bool.and_eq_true, decide_eq_true_eq, List.length_map]; omega))
noncomputable abbrev lkcourse_ev_x0 (w : WorldT) (known : Int) (rs : List ReadT) : List Blk := [.var [.ref (.vec 1 0), rowsD' (List.map CourseT.row w.c), rowsD' w.p, rowsD' (List.map SysT.row w.s), rowsD' (List.map FactT.row w.f), int known], .vec (vecR (rdR rs)) 0 5, .var [strD { data := #[] }, int 0, int 0, int 0, int 0, int 0, strD { data := #[] }, int 0, int 0, nq, int 0, int 0, strD { data := #[] }, int 0, int 0, nq], .var [strD { data := #[] }, int 0, int 0, int 0, int 0, int 0, strD { data := #[] }, int 0, int 0, nq, int 0, int 0, strD { data := #[] }, int 0, int 0, nq]]
noncomputable abbrev lkcourse_ev_x1 (w : WorldT) (known : Int) (rs : List ReadT) : List Blk := [.var [.ref (.vec 1 0), rowsD' (List.map CourseT.row w.c), rowsD' w.p, rowsD' (List.map SysT.row w.s), rowsD' (List.map FactT.row w.f), int known], .vec (vecR (rdR rs)) 0 5, .var [strD { data := #[] }, int 0, int 0, int 0, int 0, int 0, strD { data := #[] }, int 0, int 0, nq, int 0, int 0, strD { data := #[] }, int 0, int 0, nq]]
noncomputable abbrev lkcourse_ev_x2 (w : WorldT) (known : Int) (n : Int) (term : Int) : List D := [D.agg [rowsD' (List.map CourseT.row w.c), rowsD' w.p, rowsD' (List.map SysT.row w.s), rowsD' (List.map FactT.row w.f)], int n, int term, int known]
theorem lkcourse_ev {w : WorldT} (hw : w.ok) {known n term : Int} {rs : List ReadT} (hb : rs.length ≤ 999999000) : (Ev Tryz.prog Γk 116 [.ref (.ptr 0 0), int n, int term] (lkH w known rs 0) (ag (courseR w n term known).1.row) (lkH w known (rs ++ rdT 1 n 0 term) 1)) := by
  refine Ev.castH (Ev.post (d2 := D.agg [strD (courseR w n term known).fst.name, int (courseR w n term known).fst.number, int (courseR w n term known).fst.credits, int (courseR w n term known).fst.rep, int (RuleT.fl (courseR w n term known).fst.need).op, int (RuleT.fl (courseR w n term known).fst.need).c, strD (RuleT.fl (courseR w n term known).fst.need).nm, int (RuleT.fl (courseR w n term known).fst.need).n, int (RuleT.fl (courseR w n term known).fst.need).d, rowsD' (RuleT.fl (courseR w n term known).fst.need).ks, int (RuleT.fl (courseR w n term known).fst.bar).op, int (RuleT.fl (courseR w n term known).fst.bar).c, strD (RuleT.fl (courseR w n term known).fst.bar).nm, int (RuleT.fl (courseR w n term known).fst.bar).n, int (RuleT.fl (courseR w n term known).fst.bar).d, rowsD' (RuleT.fl (courseR w n term known).fst.bar).ks]) (h2 := [.var [.ref (.vec 1 1), rowsD' (List.map CourseT.row w.c), rowsD' w.p, rowsD' (List.map SysT.row w.s), rowsD' (List.map FactT.row w.f), int known], .vec (vecR (rdR (rs ++ rdT 1 n 0 term))) 1 5]) (φ := [Blk.inn 2 (.var [.ref (.vec 1 1), rowsD' (List.map CourseT.row w.c), rowsD' w.p, rowsD' (List.map SysT.row w.s), rowsD' (List.map FactT.row w.f), int known]) = true, Blk.inn 2 (.vec (vecR (rdR (rs ++ rdT 1 n 0 term))) 1 5) = true]) [.st (.trimV 2)] (Ev.of_sym (h' := [.var [.ref (.vec 1 1), rowsD' (List.map CourseT.row w.c), rowsD' w.p, rowsD' (List.map SysT.row w.s), rowsD' (List.map FactT.row w.f), int known], .vec (vecR (rdR (rs ++ rdT 1 n 0 term))) 1 5, .var [strD (courseR w n term known).fst.name, int (courseR w n term known).fst.number, int (courseR w n term known).fst.credits, int (courseR w n term known).fst.rep, int (RuleT.fl (courseR w n term known).fst.need).op, int (RuleT.fl (courseR w n term known).fst.need).c, strD (RuleT.fl (courseR w n term known).fst.need).nm, int (RuleT.fl (courseR w n term known).fst.need).n, int (RuleT.fl (courseR w n term known).fst.need).d, rowsD' (RuleT.fl (courseR w n term known).fst.need).ks, int (RuleT.fl (courseR w n term known).fst.bar).op, int (RuleT.fl (courseR w n term known).fst.bar).c, strD (RuleT.fl (courseR w n term known).fst.bar).nm, int (RuleT.fl (courseR w n term known).fst.bar).n, int (RuleT.fl (courseR w n term known).fst.bar).d, rowsD' (RuleT.fl (courseR w n term known).fst.bar).ks], .var [strD (courseR w n term known).fst.name, int (courseR w n term known).fst.number, int (courseR w n term known).fst.credits, int (courseR w n term known).fst.rep, int (RuleT.fl (courseR w n term known).fst.need).op, int (RuleT.fl (courseR w n term known).fst.need).c, strD (RuleT.fl (courseR w n term known).fst.need).nm, int (RuleT.fl (courseR w n term known).fst.need).n, int (RuleT.fl (courseR w n term known).fst.need).d, rowsD' (RuleT.fl (courseR w n term known).fst.need).ks, int (RuleT.fl (courseR w n term known).fst.bar).op, int (RuleT.fl (courseR w n term known).fst.bar).c, strD (RuleT.fl (courseR w n term known).fst.bar).nm, int (RuleT.fl (courseR w n term known).fst.bar).n, int (RuleT.fl (courseR w n term known).fst.bar).d, rowsD' (RuleT.fl (courseR w n term known).fst.bar).ks]]) (d := D.agg [strD (courseR w n term known).fst.name, int (courseR w n term known).fst.number, int (courseR w n term known).fst.credits, int (courseR w n term known).fst.rep, int (RuleT.fl (courseR w n term known).fst.need).op, int (RuleT.fl (courseR w n term known).fst.need).c, strD (RuleT.fl (courseR w n term known).fst.need).nm, int (RuleT.fl (courseR w n term known).fst.need).n, int (RuleT.fl (courseR w n term known).fst.need).d, rowsD' (RuleT.fl (courseR w n term known).fst.need).ks, int (RuleT.fl (courseR w n term known).fst.bar).op, int (RuleT.fl (courseR w n term known).fst.bar).c, strD (RuleT.fl (courseR w n term known).fst.bar).nm, int (RuleT.fl (courseR w n term known).fst.bar).n, int (RuleT.fl (courseR w n term known).fst.bar).d, rowsD' (RuleT.fl (courseR w n term known).fst.bar).ks]) pok [.val (D.tup [D.agg [strD (courseR w n term known).fst.name, int (courseR w n term known).fst.number, int (courseR w n term known).fst.credits, int (courseR w n term known).fst.rep, int (RuleT.fl (courseR w n term known).fst.need).op, int (RuleT.fl (courseR w n term known).fst.need).c, strD (RuleT.fl (courseR w n term known).fst.need).nm, int (RuleT.fl (courseR w n term known).fst.need).n, int (RuleT.fl (courseR w n term known).fst.need).d, rowsD' (RuleT.fl (courseR w n term known).fst.need).ks, int (RuleT.fl (courseR w n term known).fst.bar).op, int (RuleT.fl (courseR w n term known).fst.bar).c, strD (RuleT.fl (courseR w n term known).fst.bar).nm, int (RuleT.fl (courseR w n term known).fst.bar).n, int (RuleT.fl (courseR w n term known).fst.bar).d, rowsD' (RuleT.fl (courseR w n term known).fst.bar).ks], rowsD' (rdR (rdT 1 n 0 term)), bool (courseR w n term known).snd]), .call (D.tup []) [.var [.ref (.vec 1 1), rowsD' (List.map CourseT.row w.c), rowsD' w.p, rowsD' (List.map SysT.row w.s), rowsD' (List.map FactT.row w.f), int known], .vec (vecR (rdR (rs ++ rdT 1 n 0 term))) 1 5, .var [strD { data := #[] }, int 0, int 0, int 0, int 0, int 0, strD { data := #[] }, int 0, int 0, nq, int 0, int 0, strD { data := #[] }, int 0, int 0, nq], .var [strD (courseR w n term known).fst.name, int (courseR w n term known).fst.number, int (courseR w n term known).fst.credits, int (courseR w n term known).fst.rep, int (RuleT.fl (courseR w n term known).fst.need).op, int (RuleT.fl (courseR w n term known).fst.need).c, strD (RuleT.fl (courseR w n term known).fst.need).nm, int (RuleT.fl (courseR w n term known).fst.need).n, int (RuleT.fl (courseR w n term known).fst.need).d, rowsD' (RuleT.fl (courseR w n term known).fst.need).ks, int (RuleT.fl (courseR w n term known).fst.bar).op, int (RuleT.fl (courseR w n term known).fst.bar).c, strD (RuleT.fl (courseR w n term known).fst.bar).nm, int (RuleT.fl (courseR w n term known).fst.bar).n, int (RuleT.fl (courseR w n term known).fst.bar).d, rowsD' (RuleT.fl (courseR w n term known).fst.bar).ks]]] (by kernel_rfl) (.c (@course2_ev (w) (hw) (n) (term) (known) ((lkcourse_ev_x1 w known rs))) (.e (.ref (.ptr 0 0)) (.e (.ref (.ptr 0 0)) (.e (.ref (.ptr 0 1)) (.e (.ref (.ptr 0 1)) (.e (D.agg (WorldT.l w)) (.e (D.agg (WorldT.l w)) (.e (.ref (.ptr 0 0)) (.e (.ref (.ptr 0 0)) (.e (.ref (.ptr 0 5)) (.e (.ref (.ptr 0 5)) (.e (int known) (.e (int known) (.c (show (lkcourse_ev_x1 w known rs) = (lkcourse_ev_x1 w known rs) from rfl) (.c (@course2_ev (w) (hw) (n) (term) (known) ((lkcourse_ev_x1 w known rs))) (.c (@course2_ev (w) (hw) (n) (term) (known) ((lkcourse_ev_x0 w known rs))) (.c (show Ev Tryz.prog Γk 119 [.ref (.ptr 0 0), rowsD' (rdR (rdT 1 n 0 term))] [.var [.ref (.vec 1 0), rowsD' (List.map CourseT.row w.c), rowsD' w.p, rowsD' (List.map SysT.row w.s), rowsD' (List.map FactT.row w.f), int known], .vec (vecR (rdR rs)) 0 5, .var [strD { data := #[] }, int 0, int 0, int 0, int 0, int 0, strD { data := #[] }, int 0, int 0, nq, int 0, int 0, strD { data := #[] }, int 0, int 0, nq], .var [strD (courseR w n term known).fst.name, int (courseR w n term known).fst.number, int (courseR w n term known).fst.credits, int (courseR w n term known).fst.rep, int (RuleT.fl (courseR w n term known).fst.need).op, int (RuleT.fl (courseR w n term known).fst.need).c, strD (RuleT.fl (courseR w n term known).fst.need).nm, int (RuleT.fl (courseR w n term known).fst.need).n, int (RuleT.fl (courseR w n term known).fst.need).d, rowsD' (RuleT.fl (courseR w n term known).fst.need).ks, int (RuleT.fl (courseR w n term known).fst.bar).op, int (RuleT.fl (courseR w n term known).fst.bar).c, strD (RuleT.fl (courseR w n term known).fst.bar).nm, int (RuleT.fl (courseR w n term known).fst.bar).n, int (RuleT.fl (courseR w n term known).fst.bar).d, rowsD' (RuleT.fl (courseR w n term known).fst.bar).ks]] (D.tup []) [.var [.ref (.vec 1 1), rowsD' (List.map CourseT.row w.c), rowsD' w.p, rowsD' (List.map SysT.row w.s), rowsD' (List.map FactT.row w.f), int known], .vec (vecR (rdR (rs ++ rdT 1 n 0 term))) 1 5, .var [strD { data := #[] }, int 0, int 0, int 0, int 0, int 0, strD { data := #[] }, int 0, int 0, nq, int 0, int 0, strD { data := #[] }, int 0, int 0, nq], .var [strD (courseR w n term known).fst.name, int (courseR w n term known).fst.number, int (courseR w n term known).fst.credits, int (courseR w n term known).fst.rep, int (RuleT.fl (courseR w n term known).fst.need).op, int (RuleT.fl (courseR w n term known).fst.need).c, strD (RuleT.fl (courseR w n term known).fst.need).nm, int (RuleT.fl (courseR w n term known).fst.need).n, int (RuleT.fl (courseR w n term known).fst.need).d, rowsD' (RuleT.fl (courseR w n term known).fst.need).ks, int (RuleT.fl (courseR w n term known).fst.bar).op, int (RuleT.fl (courseR w n term known).fst.bar).c, strD (RuleT.fl (courseR w n term known).fst.bar).nm, int (RuleT.fl (courseR w n term known).fst.bar).n, int (RuleT.fl (courseR w n term known).fst.bar).d, rowsD' (RuleT.fl (courseR w n term known).fst.bar).ks]] from (Ev.castH (Ev.frameX (args := [.ref (.ptr 0 0), rowsD' (rdR (rdT 1 n 0 term))]) (H := [.var [.ref (.vec 1 0), rowsD' (List.map CourseT.row w.c), rowsD' w.p, rowsD' (List.map SysT.row w.s), rowsD' (List.map FactT.row w.f), int known], .vec (vecR (rdR rs)) 0 5, .var [strD { data := #[] }, int 0, int 0, int 0, int 0, int 0, strD { data := #[] }, int 0, int 0, nq, int 0, int 0, strD { data := #[] }, int 0, int 0, nq], .var [strD (courseR w n term known).fst.name, int (courseR w n term known).fst.number, int (courseR w n term known).fst.credits, int (courseR w n term known).fst.rep, int (RuleT.fl (courseR w n term known).fst.need).op, int (RuleT.fl (courseR w n term known).fst.need).c, strD (RuleT.fl (courseR w n term known).fst.need).nm, int (RuleT.fl (courseR w n term known).fst.need).n, int (RuleT.fl (courseR w n term known).fst.need).d, rowsD' (RuleT.fl (courseR w n term known).fst.need).ks, int (RuleT.fl (courseR w n term known).fst.bar).op, int (RuleT.fl (courseR w n term known).fst.bar).c, strD (RuleT.fl (courseR w n term known).fst.bar).nm, int (RuleT.fl (courseR w n term known).fst.bar).n, int (RuleT.fl (courseR w n term known).fst.bar).d, rowsD' (RuleT.fl (courseR w n term known).fst.bar).ks]]) [0, 1] (@lkadd_ev (w) (known) (rs) (rdT 1 n 0 term) (by first | assumption | rfl | omega | exact vecR_inn _ _ | exact inn_vecR | (have := rdT_len 1 n 0 term; omega) | (simp; omega))) (by kernel_rfl) (by kernel_rfl) (by kernel_rfl) ⟨?_, trivial⟩ ⟨?_, trivial⟩) (by kernel_rfl) (by kernel_rfl))) .n)))))))))))))))))) (by kernel_rfl) ⟨rfl, (by first | assumption | rfl | omega | exact vecR_inn _ _ | exact inn_vecR | (have := rdT_len 1 n 0 term; omega) | (simp; omega)), trivial⟩) (by first | rfl | (simp only [lkH, rdR, vecR, List.map_append]; rfl) | (simp only [lkH, rdR, vecR, List.map_append]; done)) (by first | rfl | (simp only [lkH, rdR, vecR, List.map_append]; rfl) | (simp only [lkH, rdR, vecR, List.map_append]; done)) <;> (first | rfl | exact mapRL_rows _ _ | first | assumption | rfl | omega | exact vecR_inn _ _ | exact inn_vecR | (have := rdT_len 1 n 0 term; omega) | (simp; omega))
noncomputable abbrev lkgrades_ev_x0 (w : WorldT) (known : Int) (st : Int) (n : Int) (term : Int) (rs : List ReadT) : List Blk := [.var [.ref (.vec 1 1), rowsD' (List.map CourseT.row w.c), rowsD' w.p, rowsD' (List.map SysT.row w.s), rowsD' (List.map FactT.row w.f), int known], .vec (vecR (rdR (rs ++ [{ kind := 5, sub := st, obj := n, frm := 0, til := term }]))) 1 5, .var [int 5, int st, int n], .vec [[int 5, int st, int n, int 0, int term]] 0 5]
theorem lkgrades_ev {w : WorldT} (hw : w.ok) {known st n term : Int} {rs : List ReadT} (hb : rs.length ≤ 999999000) : (Ev Tryz.prog Γk 115 [.ref (.ptr 0 0), int st, int n, int term] (lkH w known rs 0) (rowsD' ((pointsR 5 st n 0 term known w.f).map PtT.row)) (lkH w known (rs ++ [⟨5, st, n, 0, term⟩]) 1)) := by
  refine Ev.castH (Ev.post (d2 := rowsD' (List.map PtT.row (pointsR 5 st n 0 term known w.f))) (h2 := [.var [.ref (.vec 1 1), rowsD' (List.map CourseT.row w.c), rowsD' w.p, rowsD' (List.map SysT.row w.s), rowsD' (List.map FactT.row w.f), int known], .vec (vecR (rdR (rs ++ [{ kind := 5, sub := st, obj := n, frm := 0, til := term }]))) 1 5]) (φ := [Blk.inn 2 (.var [.ref (.vec 1 1), rowsD' (List.map CourseT.row w.c), rowsD' w.p, rowsD' (List.map SysT.row w.s), rowsD' (List.map FactT.row w.f), int known]) = true, Blk.inn 2 (.vec (vecR (rdR (rs ++ [{ kind := 5, sub := st, obj := n, frm := 0, til := term }]))) 1 5) = true]) [.st (.trimV 2)] (Ev.of_sym (h' := (lkgrades_ev_x0 w known st n term rs)) (d := rowsD' (List.map PtT.row (pointsR 5 st n 0 term known w.f))) pok [.call (D.tup []) (lkgrades_ev_x0 w known st n term rs), .val (rowsD' (List.map PtT.row (pointsR 5 st n 0 term known w.f)))] (by kernel_rfl) (.c (show Ev Tryz.prog Γk 119 [.ref (.ptr 0 0), .ref (.vec 3 0)] [.var [.ref (.vec 1 0), rowsD' (List.map CourseT.row w.c), rowsD' w.p, rowsD' (List.map SysT.row w.s), rowsD' (List.map FactT.row w.f), int known], .vec (vecR (rdR rs)) 0 5, .var [int 5, int st, int n], .vec [[int 5, int st, int n, int 0, int term]] 0 5] (D.tup []) (lkgrades_ev_x0 w known st n term rs) from (Ev.castH (Ev.frameX (args := [.ref (.ptr 0 0), .ref (.vec 3 0)]) (H := [.var [.ref (.vec 1 0), rowsD' (List.map CourseT.row w.c), rowsD' w.p, rowsD' (List.map SysT.row w.s), rowsD' (List.map FactT.row w.f), int known], .vec (vecR (rdR rs)) 0 5, .var [int 5, int st, int n], .vec [[int 5, int st, int n, int 0, int term]] 0 5]) [0, 1, 3] (@lkadd1_ev (w) (known) (rs) ({ kind := 5, sub := st, obj := n, frm := 0, til := term }) (by first | assumption | rfl | omega | exact vecR_inn _ _ | exact inn_vecR | exact hw.sf | (simp; omega) | (simp [rowOk, D.one, Value.oneCell', roomOk]; omega))) (by kernel_rfl) (by kernel_rfl) (by kernel_rfl) ⟨?_, ?_, trivial⟩ ⟨?_, ?_, trivial⟩) (by kernel_rfl) (by kernel_rfl))) (.e (.ref (.ptr 0 0)) (.e (.ref (.ptr 0 0)) (.e (.ref (.ptr 0 0)) (.e (.ref (.ptr 0 0)) (.e (D.agg [int 5, int st, int n]) (.c (Ev.glob0 (Γ' := Γk) (@points_ev (5) (st) (n) (0) (term) (known) (w.f) (by first | assumption | rfl | omega | exact vecR_inn _ _ | exact inn_vecR | exact hw.sf | (simp; omega) | (simp [rowOk, D.one, Value.oneCell', roomOk]; omega)) ((lkgrades_ev_x0 w known st n term rs)))) .n)))))))) (by kernel_rfl) ⟨rfl, (by first | assumption | rfl | omega | exact vecR_inn _ _ | exact inn_vecR | exact hw.sf | (simp; omega) | (simp [rowOk, D.one, Value.oneCell', roomOk]; omega)), trivial⟩) (by first | rfl | (simp only [lkH, rdR, vecR, List.map_append]; rfl) | (simp only [lkH, rdR, vecR, List.map_append]; done)) (by first | rfl | (simp only [lkH, rdR, vecR, List.map_append]; rfl) | (simp only [lkH, rdR, vecR, List.map_append]; done)) <;> (first | rfl | exact mapRL_rows _ _ | first | assumption | rfl | omega | exact vecR_inn _ _ | exact inn_vecR | exact hw.sf | (simp; omega) | (simp [rowOk, D.one, Value.oneCell', roomOk]; omega))
end Go.Vi
open Go Go.Proofs
namespace Go.Vi
set_option maxRecDepth 100000
set_option maxHeartbeats 4000000
theorem sortAttR_ev {h : List Blk} {b e : Nat} {l : List AttT} (hb : h[b]? = some (.vec (vecR (l.map AttT.row)) e 5)) (hl : l.length < 4611686018427387904) (hT : ∀ x ∈ l, ∀ y ∈ l, x.term = y.term → x.course = y.course → x = y) :
    Ev Tryz.prog Γ0 117 [.ref (.vec b e), .p (.v (.func (.func 79) #[] #[]))] h (.tup []) (h.set b (.vec (vecR ((l.mergeSort leA).map AttT.row)) e 5)) := by
  have e1 : ∀ l : List AttT, vecR (l.map AttT.row) = attsV l := fun l => by simp [vecR]
  rw [e1] at hb ⊢
  exact sortAtt_ev hb hl hT
abbrev ofH (w : WorldT) (known st : Int) (rs : List ReadT) (ats : List AttT) : List Blk := [.var [.ref (.vec 1 1), rowsD' (w.c.map CourseT.row), rowsD' w.p, rowsD' (w.s.map SysT.row), rowsD' (w.f.map FactT.row), int known], .vec (vecR (rdR rs)) 1 5, .var [int st, .ref (.vec 3 0)], .vec (vecR (ats.map AttT.row)) 0 5]
abbrev oiS (w : WorldT) (known st term : Int) (ns : List (List Dp)) (ni n : Int) (ps : List (List Dp)) (rs : List ReadT) (ats : List AttT) (j : Int) : AS :=
  { t := mkT 67 0 [(0, .ref (.ptr 0 0)), (1, int st), (2, int term), (6, .ref (.ptr 2 0)), (8, int n), (16, rowsD' ns), (17, int ns.length), (18, int ni), (26, rowsD' ps), (27, int ps.length), (28, int j)], h := ofH w known st rs ats, m := [] }
abbrev RA := List ReadT × List AttT
def attBad (p : PtT) : Bool := decide (Int.tmod p.value 16 > 12) || decide (IntKind.i64.wrap (Int.tdiv p.value 16) ≥ 7)
def attOf (w : WorldT) (known n : Int) (p : PtT) : AttT := ⟨n, p.term, Int.tmod p.value 16, IntKind.i64.wrap (Int.tdiv p.value 16), (courseR w n p.term known).1.credits⟩
def ofIn (w : WorldT) (known n : Int) (s : RA) (p : PtT) : RA := bif attBad p then s else (s.1 ++ rdT 1 n 0 p.term, s.2 ++ [attOf w known n p])
theorem att_row (l : List AttT) (a b c d e : Int) : vecR (l.map AttT.row) ++ [[int a, int b, int c, int d, int e]] = vecR ((l ++ [AttT.mk a b c d e]).map AttT.row) := by simp [AttT.row]
theorem oi_body {w : WorldT} (hw : w.ok) {known st term : Int} {ns : List (List Dp)} {ni n : Int} {ps : List (List Dp)} {rs0 rs : List ReadT} {ats : List AttT} {j : Nat} {p : PtT} (hr : RowAt (j : Int) ps p.row 2) (hlt : decide ((j : Int) < (ps.length : Int)) = true) (hwr : IntKind.i64.wrap ((j : Int) + 1) = ((j + 1 : Nat) : Int)) (hb : rs.length ≤ 999998000) (ha : ats.length ≤ 999998000) : (CW Tryz.prog Γk (lkH w known rs0 0) false (sub Tryz.f60 1) (oiS w known st term ns ni n ps rs ats j) .normal (oiS w known st term ns ni n ps (ofIn w known n (rs, ats) p).1 (ofIn w known n (rs, ats) p).2 ((j + 1 : Nat) : Int))) := by
  cases hc0 : decide (Int.tmod p.value 16 > 12) || decide (IntKind.wrap IntKind.i64 (Int.tdiv p.value 16) ≥ 7)
  · refine CW.cast (CW.symX (s' := { t := mkT 67 0 [(0, .ref (.ptr 0 0)), (1, int st), (2, int term), (6, .ref (.ptr 2 0)), (8, int n), (16, rowsD' ns), (17, int (↑(List.length ns) : Int)), (18, int ni), (26, rowsD' ps), (27, int (↑(List.length ps) : Int)), (28, int (IntKind.wrap IntKind.i64 ((↑j : Int) + 1)))], h := [.var [.ref (.vec 1 1), rowsD' (List.map CourseT.row w.c), rowsD' w.p, rowsD' (List.map SysT.row w.s), rowsD' (List.map FactT.row w.f), int known], .vec (vecR (rdR (rs ++ rdT 1 n 0 p.term))) 1 5, .var [int st, .ref (.vec 3 0)], .vec (vecR (List.map AttT.row ats) ++ [[int n, int p.term, int (Int.tmod p.value 16), int (IntKind.wrap IntKind.i64 (Int.tdiv p.value 16)), int (courseR w n p.term known).fst.credits]]) 0 5], m := [] }) (e := Exit.normal) pok [.st (.mask [0, 1, 2, 6, 8, 16, 17, 18, 26, 27, 28]), .st (.ren 1 1), .st (.ren 3 0), .st (.trimV 4)] [.b true, .row [vi p.term, vi p.value], .b false, .call (D.agg [strD (courseR w n p.term known).fst.name, int (courseR w n p.term known).fst.number, int (courseR w n p.term known).fst.credits, int (courseR w n p.term known).fst.rep, int (RuleT.fl (courseR w n p.term known).fst.need).op, int (RuleT.fl (courseR w n p.term known).fst.need).c, strD (RuleT.fl (courseR w n p.term known).fst.need).nm, int (RuleT.fl (courseR w n p.term known).fst.need).n, int (RuleT.fl (courseR w n p.term known).fst.need).d, rowsD' (RuleT.fl (courseR w n p.term known).fst.need).ks, int (RuleT.fl (courseR w n p.term known).fst.bar).op, int (RuleT.fl (courseR w n p.term known).fst.bar).c, strD (RuleT.fl (courseR w n p.term known).fst.bar).nm, int (RuleT.fl (courseR w n p.term known).fst.bar).n, int (RuleT.fl (courseR w n p.term known).fst.bar).d, rowsD' (RuleT.fl (courseR w n p.term known).fst.bar).ks]) [.var [.ref (.vec 1 2), rowsD' (List.map CourseT.row w.c), rowsD' w.p, rowsD' (List.map SysT.row w.s), rowsD' (List.map FactT.row w.f), int known], .vec (vecR (rdR (rs ++ rdT 1 n 0 p.term))) 2 5, .var [int st, .ref (.vec 3 0)], .vec (vecR (List.map AttT.row ats)) 0 5, .var [int p.term, int p.value]]] (by kernel_rfl) (.c hlt (.c hr (.c (show (!decide (16 = 0)) = true from rfl) (.c (show (!decide (16 = 0)) = true from rfl) (.c hc0 (.c (show Ev Tryz.prog Γk 116 [.ref (.ptr 0 0), int n, int p.term] [.var [.ref (.vec 1 1), rowsD' (List.map CourseT.row w.c), rowsD' w.p, rowsD' (List.map SysT.row w.s), rowsD' (List.map FactT.row w.f), int known], .vec (vecR (rdR rs)) 1 5, .var [int st, .ref (.vec 3 0)], .vec (vecR (List.map AttT.row ats)) 0 5, .var [int p.term, int p.value]] (D.agg [strD (courseR w n p.term known).fst.name, int (courseR w n p.term known).fst.number, int (courseR w n p.term known).fst.credits, int (courseR w n p.term known).fst.rep, int (RuleT.fl (courseR w n p.term known).fst.need).op, int (RuleT.fl (courseR w n p.term known).fst.need).c, strD (RuleT.fl (courseR w n p.term known).fst.need).nm, int (RuleT.fl (courseR w n p.term known).fst.need).n, int (RuleT.fl (courseR w n p.term known).fst.need).d, rowsD' (RuleT.fl (courseR w n p.term known).fst.need).ks, int (RuleT.fl (courseR w n p.term known).fst.bar).op, int (RuleT.fl (courseR w n p.term known).fst.bar).c, strD (RuleT.fl (courseR w n p.term known).fst.bar).nm, int (RuleT.fl (courseR w n p.term known).fst.bar).n, int (RuleT.fl (courseR w n p.term known).fst.bar).d, rowsD' (RuleT.fl (courseR w n p.term known).fst.bar).ks]) [.var [.ref (.vec 1 2), rowsD' (List.map CourseT.row w.c), rowsD' w.p, rowsD' (List.map SysT.row w.s), rowsD' (List.map FactT.row w.f), int known], .vec (vecR (rdR (rs ++ rdT 1 n 0 p.term))) 2 5, .var [int st, .ref (.vec 3 0)], .vec (vecR (List.map AttT.row ats)) 0 5, .var [int p.term, int p.value]] from (Ev.castH (Ev.frameX (args := [.ref (.ptr 0 0), int n, int p.term]) (H := [.var [.ref (.vec 1 1), rowsD' (List.map CourseT.row w.c), rowsD' w.p, rowsD' (List.map SysT.row w.s), rowsD' (List.map FactT.row w.f), int known], .vec (vecR (rdR rs)) 1 5, .var [int st, .ref (.vec 3 0)], .vec (vecR (List.map AttT.row ats)) 0 5, .var [int p.term, int p.value]]) [0, 1] (Ev.upX [0, 1] (@lkcourse_ev (w) (hw) (known) (n) (p.term) (rs) ?_) (by kernel_rfl) ⟨(by first | rfl | exact mapRL_rows _ _ | first | assumption | rfl | omega | exact vecR_map _ _ | exact inn_vecR | (rw [att_row]; exact vecR_map _ _) | (rw [att_row]; exact inn_vecR) | (simp [rowOk, D.one, Value.oneCell', roomOk]; omega)), trivial⟩ ⟨(by first | rfl | exact mapRL_rows _ _ | first | assumption | rfl | omega | exact vecR_map _ _ | exact inn_vecR | (rw [att_row]; exact vecR_map _ _) | (rw [att_row]; exact inn_vecR) | (simp [rowOk, D.one, Value.oneCell', roomOk]; omega)), trivial⟩) (by kernel_rfl) (by kernel_rfl) (by kernel_rfl) ⟨(by first | rfl | exact mapRL_rows _ _ | first | assumption | rfl | omega | exact vecR_map _ _ | exact inn_vecR | (rw [att_row]; exact vecR_map _ _) | (rw [att_row]; exact inn_vecR) | (simp [rowOk, D.one, Value.oneCell', roomOk]; omega)), trivial⟩ ⟨(by first | rfl | exact mapRL_rows _ _ | first | assumption | rfl | omega | exact vecR_map _ _ | exact inn_vecR | (rw [att_row]; exact vecR_map _ _) | (rw [att_row]; exact inn_vecR) | (simp [rowOk, D.one, Value.oneCell', roomOk]; omega)), trivial⟩) (by kernel_rfl) (by kernel_rfl))) (.c (show (List.all [[int n, int p.term, int (Int.tmod p.value 16), int (IntKind.wrap IntKind.i64 (Int.tdiv p.value 16)), int (courseR w n p.term known).fst.credits]] (rowOk 5) && roomOk (List.length (vecR (List.map AttT.row ats)) + List.length [[int n, int p.term, int (Int.tmod p.value 16), int (IntKind.wrap IntKind.i64 (Int.tdiv p.value 16)), int (courseR w n p.term known).fst.credits]]) 40) = true from ?_) (.e (.ref (.ptr 2 1)) (.e (.ref (.ptr 2 1)) (.e (.ref (.ptr 2 1)) (.e (.ref (.vec 3 0)) (.e (.ref (.vec 3 0)) (.e (.ref (.vec 3 0)) (.e (.ref (.ptr 4 0)) (.e (.ref (.ptr 4 0)) (.e (int p.term) (.e (int p.term) (.e (.ref (.ptr 4 0)) (.e (int p.term) (.e (.ref (.ptr 2 1)) (.c (show List.map (D.mapRL (renR 1 2 1)) (vecR (rdR (rs ++ rdT 1 n 0 p.term))) = vecR (rdR (rs ++ rdT 1 n 0 p.term)) from ?_) (.c (show List.map (D.mapRL (renR 1 2 1)) (vecR (List.map AttT.row ats) ++ [[int n, int p.term, int (Int.tmod p.value 16), int (IntKind.wrap IntKind.i64 (Int.tdiv p.value 16)), int (courseR w n p.term known).fst.credits]]) = vecR (List.map AttT.row ats) ++ [[int n, int p.term, int (Int.tmod p.value 16), int (IntKind.wrap IntKind.i64 (Int.tdiv p.value 16)), int (courseR w n p.term known).fst.credits]] from ?_) (.c (show [[int n, int p.term, int (Int.tmod p.value 16), int (IntKind.wrap IntKind.i64 (Int.tdiv p.value 16)), int (courseR w n p.term known).fst.credits]] = [[int n, int p.term, int (Int.tmod p.value 16), int (IntKind.wrap IntKind.i64 (Int.tdiv p.value 16)), int (courseR w n p.term known).fst.credits]] from rfl) (.c (show List.map (D.mapRL (renR 3 1 0)) (vecR (List.map AttT.row ats) ++ [[int n, int p.term, int (Int.tmod p.value 16), int (IntKind.wrap IntKind.i64 (Int.tdiv p.value 16)), int (courseR w n p.term known).fst.credits]]) = vecR (List.map AttT.row ats) ++ [[int n, int p.term, int (Int.tmod p.value 16), int (IntKind.wrap IntKind.i64 (Int.tdiv p.value 16)), int (courseR w n p.term known).fst.credits]] from ?_) (.c (show List.map (D.mapRL (renR 3 1 0)) (vecR (rdR (rs ++ rdT 1 n 0 p.term))) = vecR (rdR (rs ++ rdT 1 n 0 p.term)) from ?_) (.c (show [[int n, int p.term, int (Int.tmod p.value 16), int (IntKind.wrap IntKind.i64 (Int.tdiv p.value 16)), int (courseR w n p.term known).fst.credits]] = [[int n, int p.term, int (Int.tmod p.value 16), int (IntKind.wrap IntKind.i64 (Int.tdiv p.value 16)), int (courseR w n p.term known).fst.credits]] from rfl) (.c (show Blk.inn 4 (match 0 == 3 with | true => .vec (vecR (List.map AttT.row ats) ++ [[int n, int p.term, int (Int.tmod p.value 16), int (IntKind.wrap IntKind.i64 (Int.tdiv p.value 16)), int (courseR w n p.term known).fst.credits]]) 0 5 | false => keepX (renR 3 1 0) (match 0 == 1 with | true => .vec (vecR (rdR (rs ++ rdT 1 n 0 p.term))) 1 5 | false => keepX (renR 1 2 1) (.var [.ref (.vec 1 2), rowsD' (List.map CourseT.row w.c), rowsD' w.p, rowsD' (List.map SysT.row w.s), rowsD' (List.map FactT.row w.f), int known]))) = true from rfl) (.c (show Blk.inn 4 (match 0 + 1 == 3 with | true => .vec (vecR (List.map AttT.row ats) ++ [[int n, int p.term, int (Int.tmod p.value 16), int (IntKind.wrap IntKind.i64 (Int.tdiv p.value 16)), int (courseR w n p.term known).fst.credits]]) 0 5 | false => keepX (renR 3 1 0) (match 0 + 1 == 1 with | true => .vec (vecR (rdR (rs ++ rdT 1 n 0 p.term))) 1 5 | false => keepX (renR 1 2 1) (.vec (vecR (rdR (rs ++ rdT 1 n 0 p.term))) 2 5))) = true from ?_) (.c (show Blk.inn 4 (match 0 + 1 + 1 == 3 with | true => .vec (vecR (List.map AttT.row ats) ++ [[int n, int p.term, int (Int.tmod p.value 16), int (IntKind.wrap IntKind.i64 (Int.tdiv p.value 16)), int (courseR w n p.term known).fst.credits]]) 0 5 | false => keepX (renR 3 1 0) (match 0 + 1 + 1 == 1 with | true => .vec (vecR (rdR (rs ++ rdT 1 n 0 p.term))) 1 5 | false => keepX (renR 1 2 1) (.var [int st, .ref (.vec 3 1)]))) = true from rfl) (.c (show Blk.inn 4 (match 0 + 1 + 1 + 1 == 3 with | true => .vec (vecR (List.map AttT.row ats) ++ [[int n, int p.term, int (Int.tmod p.value 16), int (IntKind.wrap IntKind.i64 (Int.tdiv p.value 16)), int (courseR w n p.term known).fst.credits]]) 0 5 | false => keepX (renR 3 1 0) (match 0 + 1 + 1 + 1 == 1 with | true => .vec (vecR (rdR (rs ++ rdT 1 n 0 p.term))) 1 5 | false => keepX (renR 1 2 1) (.vec (vecR (List.map AttT.row ats) ++ [[int n, int p.term, int (Int.tmod p.value 16), int (IntKind.wrap IntKind.i64 (Int.tdiv p.value 16)), int (courseR w n p.term known).fst.credits]]) 1 5))) = true from ?_) .n))))))))))))))))))))))))))))))) (by first | rfl | (have hh : attBad p = true := hc0; simp only [hwr, ofIn, hh, cond_true]; first | done | rfl) | (have hh : attBad p = false := hc0; simp only [hwr, ofIn, hh, cond_false, att_row]; first | done | rfl)) (by first | rfl | (have hh : attBad p = true := hc0; simp only [hwr, ofIn, hh, cond_true]; first | done | rfl) | (have hh : attBad p = false := hc0; simp only [hwr, ofIn, hh, cond_false, att_row]; first | done | rfl)) <;> (first | assumption | rfl | omega | exact vecR_map _ _ | exact inn_vecR | (rw [att_row]; exact vecR_map _ _) | (rw [att_row]; exact inn_vecR) | (simp [rowOk, D.one, Value.oneCell', roomOk]; omega))
  · refine CW.cast (CW.symX (s' := { t := mkT 67 0 [(0, .ref (.ptr 0 0)), (1, int st), (2, int term), (6, .ref (.ptr 2 0)), (8, int n), (16, rowsD' ns), (17, int (↑(List.length ns) : Int)), (18, int ni), (26, rowsD' ps), (27, int (↑(List.length ps) : Int)), (28, int (IntKind.wrap IntKind.i64 ((↑j : Int) + 1)))], h := [.var [.ref (.vec 1 1), rowsD' (List.map CourseT.row w.c), rowsD' w.p, rowsD' (List.map SysT.row w.s), rowsD' (List.map FactT.row w.f), int known], .vec (vecR (rdR rs)) 1 5, .var [int st, .ref (.vec 3 0)], .vec (vecR (List.map AttT.row ats)) 0 5], m := [] }) (e := Exit.normal) pok [.st (.mask [0, 1, 2, 6, 8, 16, 17, 18, 26, 27, 28]), .st (.ren 1 1), .st (.ren 3 0), .st (.trimV 4)] [.b true, .row [vi p.term, vi p.value], .b true] (by kernel_rfl) (.c hlt (.c hr (.c (show (!decide (16 = 0)) = true from rfl) (.c (show (!decide (16 = 0)) = true from rfl) (.c hc0 (.c (show List.map (D.mapRL (renR 1 1 1)) (vecR (rdR rs)) = vecR (rdR rs) from ?_) (.c (show List.map (D.mapRL (renR 1 1 1)) (vecR (List.map AttT.row ats)) = vecR (List.map AttT.row ats) from ?_) (.c (show List.map (D.mapRL (renR 3 0 0)) (vecR (List.map AttT.row ats)) = vecR (List.map AttT.row ats) from ?_) (.c (show List.map (D.mapRL (renR 3 0 0)) (vecR (rdR rs)) = vecR (rdR rs) from ?_) (.c (show Blk.inn 4 (match 0 == 3 with | true => .vec (vecR (List.map AttT.row ats)) 0 5 | false => keepX (renR 3 0 0) (match 0 == 1 with | true => .vec (vecR (rdR rs)) 1 5 | false => keepX (renR 1 1 1) (.var [.ref (.vec 1 1), rowsD' (List.map CourseT.row w.c), rowsD' w.p, rowsD' (List.map SysT.row w.s), rowsD' (List.map FactT.row w.f), int known]))) = true from rfl) (.c (show Blk.inn 4 (match 0 + 1 == 3 with | true => .vec (vecR (List.map AttT.row ats)) 0 5 | false => keepX (renR 3 0 0) (match 0 + 1 == 1 with | true => .vec (vecR (rdR rs)) 1 5 | false => keepX (renR 1 1 1) (.vec (vecR (rdR rs)) 1 5))) = true from ?_) (.c (show Blk.inn 4 (match 0 + 1 + 1 == 3 with | true => .vec (vecR (List.map AttT.row ats)) 0 5 | false => keepX (renR 3 0 0) (match 0 + 1 + 1 == 1 with | true => .vec (vecR (rdR rs)) 1 5 | false => keepX (renR 1 1 1) (.var [int st, .ref (.vec 3 0)]))) = true from rfl) (.c (show Blk.inn 4 (match 0 + 1 + 1 + 1 == 3 with | true => .vec (vecR (List.map AttT.row ats)) 0 5 | false => keepX (renR 3 0 0) (match 0 + 1 + 1 + 1 == 1 with | true => .vec (vecR (rdR rs)) 1 5 | false => keepX (renR 1 1 1) (.vec (vecR (List.map AttT.row ats)) 0 5))) = true from ?_) .n)))))))))))))) (by first | rfl | (have hh : attBad p = true := hc0; simp only [hwr, ofIn, hh, cond_true]; first | done | rfl) | (have hh : attBad p = false := hc0; simp only [hwr, ofIn, hh, cond_false, att_row]; first | done | rfl)) (by first | rfl | (have hh : attBad p = true := hc0; simp only [hwr, ofIn, hh, cond_true]; first | done | rfl) | (have hh : attBad p = false := hc0; simp only [hwr, ofIn, hh, cond_false, att_row]; first | done | rfl)) <;> (first | assumption | rfl | omega | exact vecR_map _ _ | exact inn_vecR | (rw [att_row]; exact vecR_map _ _) | (rw [att_row]; exact inn_vecR) | (simp [rowOk, D.one, Value.oneCell', roomOk]; omega))
theorem oi_last {w : WorldT} {known st term : Int} {ns : List (List Dp)} {ni n : Int} {ps : List (List Dp)} {rs0 rs : List ReadT} {ats : List AttT} {j : Nat} (hlt : decide ((j : Int) < (ps.length : Int)) = false) : (CW Tryz.prog Γk (lkH w known rs0 0) false (sub Tryz.f60 1) (oiS w known st term ns ni n ps rs ats j) (.exit 2) { t := mkT 67 0 [(0, .ref (.ptr 0 0)), (1, int st), (2, int term), (6, .ref (.ptr 2 0)), (16, rowsD' ns), (17, int ns.length), (18, int ni)], h := ofH w known st rs ats, m := [] }) := by
  exact CW.cast (CW.symX (s' := { t := mkT 67 0 [(0, .ref (.ptr 0 0)), (1, int st), (2, int term), (6, .ref (.ptr 2 0)), (16, rowsD' ns), (17, int (↑(List.length ns) : Int)), (18, int ni)], h := [.var [.ref (.vec 1 1), rowsD' (List.map CourseT.row w.c), rowsD' w.p, rowsD' (List.map SysT.row w.s), rowsD' (List.map FactT.row w.f), int known], .vec (vecR (rdR rs)) 1 5, .var [int st, .ref (.vec 3 0)], .vec (vecR (List.map AttT.row ats)) 0 5], m := [] }) (e := Exit.exit 2) pok [.st (.mask [0, 1, 2, 6, 16, 17, 18])] [.b false] (by kernel_rfl) (.c hlt .n)) (by rfl) (by rfl)
theorem ofIn_len {w : WorldT} {known n : Int} {s : RA} (p : PtT) : (ofIn w known n s p).1.length ≤ s.1.length + 1 ∧ (ofIn w known n s p).2.length ≤ s.2.length + 1 := by
  unfold ofIn
  cases attBad p
  · have := rdT_len 1 n 0 p.term
    simp; omega
  · simp
theorem oi_cw {w : WorldT} (hw : w.ok) {known st term : Int} {ns : List (List Dp)} {ni n : Int} {ps : List PtT} (hp : ps.length ≤ 2000) {rs0 rs : List ReadT} {ats : List AttT} (hb : rs.length ≤ 999990000) (ha : ats.length ≤ 999990000) :
    CW Tryz.prog Γk (lkH w known rs0 0) false (.loop (sub Tryz.f60 1)) (oiS w known st term ns ni n (ps.map PtT.row) rs ats 0) (.exit 2) { t := mkT 67 0 [(0, .ref (.ptr 0 0)), (1, int st), (2, int term), (6, .ref (.ptr 2 0)), (16, rowsD' ns), (17, int ns.length), (18, int ni)], h := ofH w known st (ps.foldl (ofIn w known n) (rs, ats)).1 (ps.foldl (ofIn w known n) (rs, ats)).2, m := [] } := by
  have hl : Short ps := by unfold Short; omega
  have := CW.each (P := Tryz.prog) (Γ := Γk) (h0 := lkH w known rs0 0) (rd := false) (c := sub Tryz.f60 1) (σ := RA) (ρ := Empty) ps (fun p s => .inl (ofIn w known n s p))
    (fun j s => oiS w known st term ns ni n (ps.map PtT.row) s.1 s.2 (j : Int)) (.exit 2) (fun s => { t := mkT 67 0 [(0, .ref (.ptr 0 0)), (1, int st), (2, int term), (6, .ref (.ptr 2 0)), (16, rowsD' ns), (17, int ns.length), (18, int ni)], h := ofH w known st s.1 s.2, m := [] }) (fun r => r.elim)
    (fun j s => s.1.length ≤ rs.length + j ∧ s.2.length ≤ ats.length + j) (by simp) (fun r => r.elim) ?_ ?_ (rs, ats) (by simp)
  · rw [forL_fold] at this
    exact this
  · intro j p s hpj hs
    have hi := (List.getElem?_eq_some_iff.1 hpj).1
    refine ⟨fun s' h => by cases h; have := ofIn_len (w := w) (known := known) (n := n) (s := s) p; omega, oi_body hw (rowAt hpj rfl) (lt_len _ hi) (wrap_succ hi hl) (by omega) (by omega)⟩
  · intro s _
    exact oi_last (ge_len _ ps)
theorem pointsR_len {kk ks ko frm to known : Int} {l : List FactT} : (pointsR kk ks ko frm to known l).length ≤ 1024 := by
  have key : ∀ (rs : List Int) (ns : List Nat) (l : List PtT), (ns.foldl (fun l n => ptF (rs.getD n 0) n l) l).length ≤ l.length + ns.length := by
    intro rs ns
    induction ns with
    | nil => intro l; simp
    | cons n ns ih => intro l; have := ih (ptF (rs.getD n 0) n l); have h2 := ptF_len (rs.getD n 0) n l; simp only [List.foldl_cons, List.length_cons]; omega
  unfold pointsR ptIn
  refine Nat.le_trans (key _ _ _) ?_
  have : ptHi to ≤ 1024 := by unfold ptHi; split <;> omega
  simp only [List.length_nil, List.length_range']
  have : 0 ≤ ptLo frm := ptLo_nn frm
  omega
abbrev ooS (w : WorldT) (known st term : Int) (ns : List (List Dp)) (rs : List ReadT) (ats : List AttT) (i : Int) : AS :=
  { t := mkT 67 0 [(0, .ref (.ptr 0 0)), (1, int st), (2, int term), (6, .ref (.ptr 2 0)), (16, rowsD' ns), (17, int ns.length), (18, int i)], h := ofH w known st rs ats, m := [] }
def ofOut (w : WorldT) (known st term : Int) (s : RA) (n : Int) : RA := (pointsR 5 st n 0 term known w.f).foldl (ofIn w known n) (s.1 ++ [⟨5, st, n, 0, term⟩], s.2)
noncomputable abbrev oo_body_x0 (w : WorldT) (known : Int) (st : Int) (rs : List ReadT) (ats : List AttT) : List Blk := [.var [.ref (.vec 1 1), rowsD' (List.map CourseT.row w.c), rowsD' w.p, rowsD' (List.map SysT.row w.s), rowsD' (List.map FactT.row w.f), int known], .vec (vecR (rdR rs)) 1 5, .var [int st, .ref (.vec 3 0)], .vec (vecR (List.map AttT.row ats)) 0 5]
theorem oo_body {w : WorldT} (hw : w.ok) {known st term : Int} {ns : List (List Dp)} {n : Int} {rs0 rs : List ReadT} {ats : List AttT} {i : Nat} (hr : RowAt (i : Int) ns [vi n] 1) (hlt : decide ((i : Int) < (ns.length : Int)) = true) (hwr : IntKind.i64.wrap ((i : Int) + 1) = ((i + 1 : Nat) : Int)) (hb : rs.length ≤ 999980000) (ha : ats.length ≤ 999980000) : (CW Tryz.prog Γk (lkH w known rs0 0) false (sub Tryz.f60 0) (ooS w known st term ns rs ats i) .normal (ooS w known st term ns (ofOut w known st term (rs, ats) n).1 (ofOut w known st term (rs, ats) n).2 ((i + 1 : Nat) : Int))) := by
  have hl0 := (@oi_cw (w) (hw) (known) (st) (term) (ns) ((↑i : Int)) (n) (pointsR 5 st n 0 term known w.f) (by first | assumption | rfl | omega | exact vecR_map _ _ | exact Nat.le_trans pointsR_len (by omega) | (simp; omega)) (rs0) (rs ++ [{ kind := 5, sub := st, obj := n, frm := 0, til := term }]) (ats) (by first | assumption | rfl | omega | exact vecR_map _ _ | exact Nat.le_trans pointsR_len (by omega) | (simp; omega)) (by first | assumption | rfl | omega | exact vecR_map _ _ | exact Nat.le_trans pointsR_len (by omega) | (simp; omega)))
  refine CW.cast (CW.symX (s' := { t := mkT 67 0 [(0, .ref (.ptr 0 0)), (1, int st), (2, int term), (6, .ref (.ptr 2 0)), (16, rowsD' ns), (17, int (↑(List.length ns) : Int)), (18, int (IntKind.wrap IntKind.i64 ((↑i : Int) + 1)))], h := [.var [.ref (.vec 1 1), rowsD' (List.map CourseT.row w.c), rowsD' w.p, rowsD' (List.map SysT.row w.s), rowsD' (List.map FactT.row w.f), int known], .vec (vecR (rdR (List.foldl (ofIn w known n) (rs ++ [{ kind := 5, sub := st, obj := n, frm := 0, til := term }], ats) (pointsR 5 st n 0 term known w.f)).fst)) 1 5, .var [int st, .ref (.vec 3 0)], .vec (vecR (List.map AttT.row (List.foldl (ofIn w known n) (rs ++ [{ kind := 5, sub := st, obj := n, frm := 0, til := term }], ats) (pointsR 5 st n 0 term known w.f)).snd)) 0 5], m := [] }) (e := Exit.normal) pok [.st (.mask [0, 1, 2, 6, 16, 17, 18])] [.b true, .row [vi n], .call (rowsD' (List.map PtT.row (pointsR 5 st n 0 term known w.f))) [.var [.ref (.vec 1 2), rowsD' (List.map CourseT.row w.c), rowsD' w.p, rowsD' (List.map SysT.row w.s), rowsD' (List.map FactT.row w.f), int known], .vec (vecR (rdR (rs ++ [{ kind := 5, sub := st, obj := n, frm := 0, til := term }]))) 2 5, .var [int st, .ref (.vec 3 0)], .vec (vecR (List.map AttT.row ats)) 0 5], .st (.ren 1 1), .sum [0, 1, 2, 6, 8, 16, 17, 18, 26, 27, 28] (Exit.exit 2) { t := mkT 67 0 [(0, .ref (.ptr 0 0)), (1, int st), (2, int term), (6, .ref (.ptr 2 0)), (16, rowsD' ns), (17, int (↑(List.length ns) : Int)), (18, int (↑i : Int))], h := [.var [.ref (.vec 1 1), rowsD' (List.map CourseT.row w.c), rowsD' w.p, rowsD' (List.map SysT.row w.s), rowsD' (List.map FactT.row w.f), int known], .vec (vecR (rdR (List.foldl (ofIn w known n) (rs ++ [{ kind := 5, sub := st, obj := n, frm := 0, til := term }], ats) (pointsR 5 st n 0 term known w.f)).fst)) 1 5, .var [int st, .ref (.vec 3 0)], .vec (vecR (List.map AttT.row (List.foldl (ofIn w known n) (rs ++ [{ kind := 5, sub := st, obj := n, frm := 0, til := term }], ats) (pointsR 5 st n 0 term known w.f)).snd)) 0 5], m := [] }] (by kernel_rfl) (.c hlt (.c hr (.c (show Ev Tryz.prog Γk 115 [.ref (.ptr 0 0), int st, int n, int term] (oo_body_x0 w known st rs ats) (rowsD' (List.map PtT.row (pointsR 5 st n 0 term known w.f))) [.var [.ref (.vec 1 2), rowsD' (List.map CourseT.row w.c), rowsD' w.p, rowsD' (List.map SysT.row w.s), rowsD' (List.map FactT.row w.f), int known], .vec (vecR (rdR (rs ++ [{ kind := 5, sub := st, obj := n, frm := 0, til := term }]))) 2 5, .var [int st, .ref (.vec 3 0)], .vec (vecR (List.map AttT.row ats)) 0 5] from (Ev.castH (Ev.frameX (args := [.ref (.ptr 0 0), int st, int n, int term]) (H := (oo_body_x0 w known st rs ats)) [0, 1] (Ev.upX [0, 1] (@lkgrades_ev (w) (hw) (known) (st) (n) (term) (rs) (by first | assumption | rfl | omega | exact vecR_map _ _ | exact Nat.le_trans pointsR_len (by omega) | (simp; omega))) (by kernel_rfl) ⟨?_, trivial⟩ ⟨?_, trivial⟩) (by kernel_rfl) (by kernel_rfl) (by kernel_rfl) ⟨?_, trivial⟩ ⟨?_, trivial⟩) (by kernel_rfl) (by kernel_rfl))) (.c (show List.map (D.mapRL (renR 1 2 1)) (vecR (rdR (rs ++ [{ kind := 5, sub := st, obj := n, frm := 0, til := term }]))) = vecR (rdR (rs ++ [{ kind := 5, sub := st, obj := n, frm := 0, til := term }])) from (by first | assumption | rfl | omega | exact vecR_map _ _ | exact Nat.le_trans pointsR_len (by omega) | (simp; omega))) (.c (show List.map (D.mapRL (renR 1 2 1)) (vecR (List.map AttT.row ats)) = vecR (List.map AttT.row ats) from (by first | assumption | rfl | omega | exact vecR_map _ _ | exact Nat.le_trans pointsR_len (by omega) | (simp; omega))) (.c hl0 .n))))))) (by first | rfl | (simp only [hwr]; rfl)) (by first | rfl | (simp only [hwr]; rfl)) <;> (first | rfl | exact mapRL_rows _ _ | first | assumption | rfl | omega | exact vecR_map _ _ | exact Nat.le_trans pointsR_len (by omega) | (simp; omega))
theorem oo_last {w : WorldT} {known st term : Int} {ns : List (List Dp)} {rs0 rs : List ReadT} {ats : List AttT} {i : Nat} (hlt : decide ((i : Int) < (ns.length : Int)) = false) : (CW Tryz.prog Γk (lkH w known rs0 0) false (sub Tryz.f60 0) (ooS w known st term ns rs ats i) (.exit 0) { t := mkT 67 0 [(6, .ref (.ptr 2 0))], h := ofH w known st rs ats, m := [] }) := by
  exact CW.cast (CW.symX (s' := { t := mkT 67 0 [(6, .ref (.ptr 2 0))], h := [.var [.ref (.vec 1 1), rowsD' (List.map CourseT.row w.c), rowsD' w.p, rowsD' (List.map SysT.row w.s), rowsD' (List.map FactT.row w.f), int known], .vec (vecR (rdR rs)) 1 5, .var [int st, .ref (.vec 3 0)], .vec (vecR (List.map AttT.row ats)) 0 5], m := [] }) (e := Exit.exit 0) pok [.st (.mask [6])] [.b false] (by kernel_rfl) (.c hlt .n)) (by rfl) (by rfl)
theorem ofFold_len {w : WorldT} {known n : Int} : ∀ (ps : List PtT) (s : RA), (ps.foldl (ofIn w known n) s).1.length ≤ s.1.length + ps.length ∧ (ps.foldl (ofIn w known n) s).2.length ≤ s.2.length + ps.length
  | [], s => by simp
  | p :: ps, s => by
    have h1 := ofIn_len (w := w) (known := known) (n := n) (s := s) p
    have h2 := ofFold_len (w := w) (known := known) (n := n) ps (ofIn w known n s p)
    simp only [List.foldl_cons, List.length_cons]
    omega
theorem ofOut_len {w : WorldT} {known st term : Int} (s : RA) (n : Int) : (ofOut w known st term s n).1.length ≤ s.1.length + 1025 ∧ (ofOut w known st term s n).2.length ≤ s.2.length + 1024 := by
  unfold ofOut
  have h1 := ofFold_len (w := w) (known := known) (n := n) (pointsR 5 st n 0 term known w.f) (s.1 ++ [⟨5, st, n, 0, term⟩], s.2)
  have h2 := pointsR_len (kk := 5) (ks := st) (ko := n) (frm := 0) (to := term) (known := known) (l := w.f)
  simp only [List.length_append, List.length_cons, List.length_nil] at h1
  omega
theorem oo_g {w : WorldT} (hw : w.ok) {known st term : Int} {ns : List Int} (hn : ns.length ≤ 69000) {rs0 rs : List ReadT} (hb : rs.length ≤ 800000000) {ats : List AttT} (ha : ats.length ≤ 1000) :
    CW Tryz.prog Γk (lkH w known rs0 0) false (.loop (sub Tryz.f60 0)) (ooS w known st term (ns.map fun n => [vi n]) rs ats 0) (.exit 0) { t := mkT 67 0 [(6, .ref (.ptr 2 0))], h := ofH w known st (ns.foldl (ofOut w known st term) (rs, ats)).1 (ns.foldl (ofOut w known st term) (rs, ats)).2, m := [] } := by
  have hl : Short ns := by unfold Short; omega
  have := CW.each (P := Tryz.prog) (Γ := Γk) (h0 := lkH w known rs0 0) (rd := false) (c := sub Tryz.f60 0) (σ := RA) (ρ := Empty) ns (fun n s => .inl (ofOut w known st term s n))
    (fun i s => ooS w known st term (ns.map fun n => [vi n]) s.1 s.2 (i : Int)) (.exit 0) (fun s => { t := mkT 67 0 [(6, .ref (.ptr 2 0))], h := ofH w known st s.1 s.2, m := [] }) (fun r => r.elim)
    (fun i s => s.1.length ≤ rs.length + i * 1025 ∧ s.2.length ≤ ats.length + i * 1025) (by simp) (fun r => r.elim) ?_ ?_ (rs, ats) (by simp)
  · rw [forL_fold] at this
    exact this
  · intro i n s hni hs
    have hi := (List.getElem?_eq_some_iff.1 hni).1
    refine ⟨fun s' h => by cases h; have := ofOut_len (w := w) (known := known) (st := st) (term := term) s n; omega, oo_body hw (rowAt (row := fun n => [vi n]) hni rfl) (lt_len (fun n => [vi n]) hi) (wrap_succ hi hl) (by omega) (by omega)⟩
  · intro s _
    exact oo_last (ge_len (fun n => [vi n]) ns)
theorem oo_cw {w : WorldT} (hw : w.ok) {known st term : Int} {ns : List Int} (hn : ns.length ≤ 69000) {rs0 rs : List ReadT} (hb : rs.length ≤ 800000000) :
    CW Tryz.prog Γk (lkH w known rs0 0) false (.loop (sub Tryz.f60 0)) (ooS w known st term (ns.map fun n => [vi n]) rs [] 0) (.exit 0) { t := mkT 67 0 [(6, .ref (.ptr 2 0))], h := ofH w known st (ns.foldl (ofOut w known st term) (rs, [])).1 (ns.foldl (ofOut w known st term) (rs, [])).2, m := [] } := oo_g hw hn hb (by simp)
def recR (w : WorldT) (known st term : Int) (rs : List ReadT) : RA := (numbersR w.f known).foldl (ofOut w known st term) (rs ++ [rdN], [])
def recAtts (w : WorldT) (known st term : Int) (rs : List ReadT) : List AttT := (recR w known st term rs).2.mergeSort leA
theorem numbersR_len {fs : List FactT} {known : Int} : (numbersR fs known).length ≤ fs.length := by
  have := forL_nu_len (many := manyOf fs known) fs []
  simp only [List.length_nil, Nat.zero_add] at this
  unfold numbersR numsOf
  simpa using this
noncomputable abbrev of_a_x0 (w : WorldT) (known : Int) (st : Int) (term : Int) (rs : List ReadT) : List Blk := [.var [.ref (.vec 1 1), rowsD' (List.map CourseT.row w.c), rowsD' w.p, rowsD' (List.map SysT.row w.s), rowsD' (List.map FactT.row w.f), int known], .vec (vecR (rdR (List.foldl (ofOut w known st term) (rs ++ [rdN], []) (numbersR w.f known)).fst)) 1 5, .var [int st, .ref (.vec 3 0)], .vec (vecR (List.map AttT.row (List.foldl (ofOut w known st term) (rs ++ [rdN], []) (numbersR w.f known)).snd)) 0 5]
noncomputable abbrev of_a_x1 (w : WorldT) (known : Int) (st : Int) (term : Int) (rs : List ReadT) : List Blk := [.var [.ref (.vec 1 1), rowsD' (List.map CourseT.row w.c), rowsD' w.p, rowsD' (List.map SysT.row w.s), rowsD' (List.map FactT.row w.f), int known], .vec (vecR (rdR (List.foldl (ofOut w known st term) (rs ++ [rdN], []) (numbersR w.f known)).fst)) 1 5, .var [int st, .ref (.vec 3 0)], .vec (vecR (List.map AttT.row (List.mergeSort (recR w known st term rs).snd leA))) 0 5]
theorem of_a {w : WorldT} (hw : w.ok) {known st term : Int} {rs : List ReadT} (hb : rs.length ≤ 700000000) (hn : (numbersR w.f known).length ≤ 69000) (hl : (recR w known st term rs).2.length < 4611686018427387904) (hT : ∀ x ∈ (recR w known st term rs).2, ∀ y ∈ (recR w known st term rs).2, x.term = y.term → x.course = y.course → x = y) : (Ev Tryz.prog Γk 60 [.ref (.ptr 0 0), int st, int term] (lkH w known rs 0) (.agg [int st, rowsD' ((recAtts w known st term rs).map AttT.row)]) (lkH w known (recR w known st term rs).1 1)) := by
  have hl0 := (@oo_cw (w) (hw) (known) (st) (term) (numbersR w.f known) (hn) (rs) (rs ++ [rdN]) (by first | assumption | rfl | omega | exact vecR_map _ _ | exact inn_vecR | (simp; omega)))
  refine Ev.castH (Ev.post (d2 := D.agg [int st, rowsD' (List.map AttT.row (recAtts w known st term rs))]) (h2 := [.var [.ref (.vec 1 1), rowsD' (List.map CourseT.row w.c), rowsD' w.p, rowsD' (List.map SysT.row w.s), rowsD' (List.map FactT.row w.f), int known], .vec (vecR (rdR (List.foldl (ofOut w known st term) (rs ++ [rdN], []) (numbersR w.f known)).fst)) 1 5]) (φ := [vecR (List.map AttT.row (List.mergeSort (recR w known st term rs).snd leA)) = List.map (fun x => List.map D.p x) (List.map AttT.row (recAtts w known st term rs)), List.map (D.mapRL (frzR 3 0 (List.map AttT.row (recAtts w known st term rs)))) (vecR (rdR (List.foldl (ofOut w known st term) (rs ++ [rdN], []) (numbersR w.f known)).fst)) = vecR (rdR (List.foldl (ofOut w known st term) (rs ++ [rdN], []) (numbersR w.f known)).fst), Blk.inn 2 (match 0 == 3 with | true => .gone | false => keepX (frzR 3 0 (List.map AttT.row (recAtts w known st term rs))) (.var [.ref (.vec 1 1), rowsD' (List.map CourseT.row w.c), rowsD' w.p, rowsD' (List.map SysT.row w.s), rowsD' (List.map FactT.row w.f), int known])) = true, Blk.inn 2 (match 0 + 1 == 3 with | true => .gone | false => keepX (frzR 3 0 (List.map AttT.row (recAtts w known st term rs))) (.vec (vecR (rdR (List.foldl (ofOut w known st term) (rs ++ [rdN], []) (numbersR w.f known)).fst)) 1 5)) = true]) [.st (.frz 3 (List.map AttT.row (recAtts w known st term rs))), .st (.trimV 2)] (Ev.of_sym (h' := (of_a_x1 w known st term rs)) (d := D.agg [int st, .ref (.vec 3 0)]) pok [.call (rowsD' (List.map (fun n => [vi n]) (numbersR w.f known))) [.var [.ref (.vec 1 1), rowsD' (List.map CourseT.row w.c), rowsD' w.p, rowsD' (List.map SysT.row w.s), rowsD' (List.map FactT.row w.f), int known], .vec (vecR (rdR (rs ++ [rdN]))) 1 5, .var [int st, nq]], .st (.nilC 2 1 5), .sum [0, 1, 2, 6, 16, 17, 18] (Exit.exit 0) { t := mkT 67 0 [(6, .ref (.ptr 2 0))], h := (of_a_x0 w known st term rs), m := [] }, .call (D.tup []) (of_a_x1 w known st term rs)] (by kernel_rfl) (.c (show Ev Tryz.prog Γk 62 [.ref (.ptr 0 0)] [.var [.ref (.vec 1 0), rowsD' (List.map CourseT.row w.c), rowsD' w.p, rowsD' (List.map SysT.row w.s), rowsD' (List.map FactT.row w.f), int known], .vec (vecR (rdR rs)) 0 5, .var [int st, nq]] (rowsD' (List.map (fun n => [vi n]) (numbersR w.f known))) [.var [.ref (.vec 1 1), rowsD' (List.map CourseT.row w.c), rowsD' w.p, rowsD' (List.map SysT.row w.s), rowsD' (List.map FactT.row w.f), int known], .vec (vecR (rdR (rs ++ [rdN]))) 1 5, .var [int st, nq]] from (Ev.castH (Ev.frameX (args := [.ref (.ptr 0 0)]) (H := [.var [.ref (.vec 1 0), rowsD' (List.map CourseT.row w.c), rowsD' w.p, rowsD' (List.map SysT.row w.s), rowsD' (List.map FactT.row w.f), int known], .vec (vecR (rdR rs)) 0 5, .var [int st, nq]]) [0, 1] (@lknum_ev (w) (hw) (known) (rs) ?_) (by kernel_rfl) (by kernel_rfl) (by kernel_rfl) ⟨(by first | rfl | exact mapRL_rows _ _ | first | assumption | rfl | omega | exact vecR_map _ _ | exact inn_vecR | (simp; omega)), trivial⟩ ⟨(by first | rfl | exact mapRL_rows _ _ | first | assumption | rfl | omega | exact vecR_map _ _ | exact inn_vecR | (simp; omega)), trivial⟩) (by kernel_rfl) (by kernel_rfl))) (.c hl0 (.c (Ev.glob0 (Γ' := Γk) (@sortAttR_ev ((of_a_x0 w known st term rs)) (3) (0) ((recR w known st term rs).snd) ?_ (hl) (hT))) .n)))) (by kernel_rfl) ⟨?_, ?_, rfl, ?_, trivial⟩) (by rfl) (by rfl) <;> (first | assumption | rfl | omega | exact vecR_map _ _ | exact inn_vecR | (simp; omega))
end Go.Vi
