/- QuestionsCheckSpec: part of the proof: contracts of the functions that the law reaches, and the law. No conditions beyond the given statement's own. -/
import Derived.Test.YtafcgfmoekjanaaGreatDoorW2
open Go Go.Proofs
namespace Go.Vi
set_option maxRecDepth 100000
set_option maxHeartbeats 4000000
abbrev bestC (l : List FactT) : List (List D) := l.map fun f => f.row.map .p
abbrev boolC (l : List Bool) : List (List D) := l.map fun b => [bool b]
abbrev intC (l : List Int) : List (List D) := l.map fun n => [int n]
abbrev zInts : List D := (intC (List.replicate 1024 0)).flatten
abbrev vaT : List D := mkT 63 0 [(6, .ref (.ptr 1 0)), (7, .ref (.ptr 2 0)), (8, .ref (.ptr 3 0)), (15, .fn (.func 178) [] [.ref (.ptr 4 0), .ref (.ptr 5 0), .ref (.ptr 6 0)])]
noncomputable abbrev vaL (st : LoopState) : Blk := .loop st none 0 vaT #[16] (rfAsg (sub Tryz.f165 0)) (rfBody (sub Tryz.f165 0))
noncomputable abbrev vaH (kk ks ko known : Int) (fs : List (List Dp)) (rs : List D) (best : List FactT) (some : List Bool) (st : LoopState) (more : List Blk) : List Blk :=
  [.var [int kk, int ks, int ko], .var rs, .var (bestC best).flatten, .var (boolC some).flatten, .var [rowsD' fs], .var [int kk, int ks, int ko], .var [int known], .defd, vaL st] ++ more
abbrev vaU : List D := mkT 63 0 [(6, .ref (.ptr 1 0)), (7, .ref (.ptr 2 0)), (8, .ref (.ptr 3 0)), (9, .ref (.ptr 10 0))]
theorem va_asg {kk ks ko known : Int} {fs : List (List Dp)} {rs : List D} {best : List FactT} {some : List Bool} {f : FactT} : (CW Tryz.prog Γ0 (vaH kk ks ko known fs rs best some .ready [.var (f.row.map .p)]) true (rfAsg (sub Tryz.f165 0)) { t := setAll vaT [(16, ag f.row)], h := vaH kk ks ko known fs rs best some .ready [.var (f.row.map .p)], m := [] } .normal { t := vaU, h := vaH kk ks ko known fs rs best some .ready [.var (f.row.map .p), .var (f.row.map .p)], m := [] }) := by
  exact CW.cast (CW.symX (s' := { t := mkT 63 0 [(6, .ref (.ptr 1 0)), (7, .ref (.ptr 2 0)), (8, .ref (.ptr 3 0)), (9, .ref (.ptr 10 0))], h := [.var [int kk, int ks, int ko], .var rs, .var (List.flatten (bestC best)), .var (List.flatten (boolC some)), .var [rowsD' fs], .var [int kk, int ks, int ko], .var [int known], .defd, .loop LoopState.ready none 0 (mkT 63 0 [(6, .ref (.ptr 1 0)), (7, .ref (.ptr 2 0)), (8, .ref (.ptr 3 0)), (15, D.fn (Fn.func 178) [] [.ref (.ptr 4 0), .ref (.ptr 5 0), .ref (.ptr 6 0)])]) { toList := [16] } (rfAsg (sub Tryz.f165 0)) (rfBody (sub Tryz.f165 0)), .var [int f.kind, int f.sub, int f.obj, int f.value, int f.frm, int f.til, int f.known, int f.no], .var [int f.kind, int f.sub, int f.obj, int f.value, int f.frm, int f.til, int f.known, int f.no]], m := [] }) (e := Exit.normal) pok [.st (.mask [6, 7, 8, 9])] [] (by kernel_rfl) .n) (by rfl) (by rfl)
theorem va_some {h : List Blk} {off n : Nat} {l : List Bool} {b : Bool} (hb : h[3]? = some (.var (boolC l).flatten)) (hs : l[n]? = some b) (ho : off = n * 1) : loadD Tryz.prog h 4 (.ref (.ptr 3 off)) = some (bool b) := by
  subst ho
  exact load_arr1 (sz := 1) (j := 0) (row := [bool b]) (by kernel_rfl) (by kernel_rfl) hb (fun r hr => by obtain ⟨_, _, rfl⟩ := List.mem_map.1 hr; rfl) (by simp [hs]) rfl
theorem va_best {h : List Blk} {off n : Nat} {l : List FactT} {g : FactT} (hb : h[2]? = some (.var (bestC l).flatten)) (hs : l[n]? = some g) (ho : off = n * 8) : loadD Tryz.prog h 233 (.ref (.ptr 2 off)) = some (ag g.row) := by
  subst ho
  exact load_arr (sz := 8) (row := g.row.map .p) (by kernel_rfl) (by kernel_rfl) hb (by simp [FactT.row]) (by simp [hs])
theorem va_stB {h : List Blk} {off n : Nat} {l : List FactT} {f : FactT} (hb : h[2]? = some (.var (bestC l).flatten)) (hn : n < l.length) (ho : off = n * 8) : storeD Tryz.prog h 233 (.ref (.ptr 2 off)) (ag f.row) = some (h.set 2 (.var (bestC (l.set n f)).flatten)) := by
  subst ho
  rw [store_arr (sz := 8) (new := f.row.map .p) rfl (by kernel_rfl) rfl hb (by simp [FactT.row]) (by simpa using hn), bestC, bestC, List.map_set]
theorem va_stS {h : List Blk} {off n : Nat} {l : List Bool} {b : Bool} (hb : h[3]? = some (.var (boolC l).flatten)) (hn : n < l.length) (ho : off = n * 1) : storeD Tryz.prog h 4 (.ref (.ptr 3 off)) (bool b) = some (h.set 3 (.var (boolC (l.set n b)).flatten)) := by
  subst ho
  rw [store_arr (sz := 1) (new := [bool b]) rfl (by kernel_rfl) rfl hb (fun r hr => by obtain ⟨_, _, rfl⟩ := List.mem_map.1 hr; rfl) (by simpa using hn), boolC, boolC, List.map_set]
theorem lt_of_some {α : Type} {l : List α} {n : Nat} {a : α} (h : l[n]? = some a) : n < l.length := (List.getElem?_eq_some_iff.1 h).1
def vaHit (f g : FactT) (b : Bool) : Bool := !b || decide (orI (cmpI f.known g.known) (cmpI f.no g.no) ≥ 0)
noncomputable abbrev vaS (kk ks ko known : Int) (fs : List (List Dp)) (rs : List D) (best : List FactT) (some : List Bool) (f : FactT) (t : Int) : AS := { t := mkT 63 0 [(6, .ref (.ptr 1 0)), (7, .ref (.ptr 2 0)), (8, .ref (.ptr 3 0)), (9, .ref (.ptr 10 0)), (10, int t)], h := vaH kk ks ko known fs rs best some .busy [.var (f.row.map .p), .var (f.row.map .p)], m := [] }
noncomputable abbrev va_b_x0 (kk : Int) (ks : Int) (ko : Int) (known : Int) (fs : List (List Dp)) (rs : List D) (best : List FactT) (some : List Bool) (f : FactT) : List Blk := [.var [int kk, int ks, int ko], .var rs, .var (List.flatten (bestC best)), .var (List.flatten (boolC some)), .var [rowsD' fs], .var [int kk, int ks, int ko], .var [int known], .defd, .loop LoopState.busy none 0 (mkT 63 0 [(6, .ref (.ptr 1 0)), (7, .ref (.ptr 2 0)), (8, .ref (.ptr 3 0)), (15, D.fn (Fn.func 178) [] [.ref (.ptr 4 0), .ref (.ptr 5 0), .ref (.ptr 6 0)])]) { toList := [16] } (rfAsg (sub Tryz.f165 0)) (rfBody (sub Tryz.f165 0)), .var [int f.kind, int f.sub, int f.obj, int f.value, int f.frm, int f.til, int f.known, int f.no], .var [int f.kind, int f.sub, int f.obj, int f.value, int f.frm, int f.til, int f.known, int f.no]]
theorem va_b {kk ks ko known : Int} {fs : List (List Dp)} {rs : List D} {best b0 : List FactT} {some s0 : List Bool} {f g f0 : FactT} {n : Nat} {b : Bool} (hb : best[n]? = .some g) (hs : some[n]? = .some b) (hn : inR (n : Int) 1024 = true) (hlt : decide ((n : Int) < if false = true then if 1024 > f.til then 1024 else f.til else if 1024 < f.til then 1024 else f.til) = true) : (CW Tryz.prog Γ0 (vaH kk ks ko known fs rs b0 s0 .ready [.var (f0.row.map .p)]) true (sub Tryz.f165 1) (vaS kk ks ko known fs rs best some f (n : Int)) .normal (vaS kk ks ko known fs rs (bif vaHit f g b then best.set n f else best) (bif vaHit f g b then some.set n true else some) f (IntKind.i64.wrap ((n : Int) + 1)))) := by
  cases hc0 : !b || decide (orI (cmpI f.known g.known) (cmpI f.no g.no) ≥ 0)
  · refine CW.cast (CW.symX (s' := { t := mkT 63 0 [(6, .ref (.ptr 1 0)), (7, .ref (.ptr 2 0)), (8, .ref (.ptr 3 0)), (9, .ref (.ptr 10 0)), (10, int (IntKind.wrap IntKind.i64 ((↑n : Int) + 1)))], h := (va_b_x0 kk ks ko known fs rs best some f), m := [] }) (e := Exit.normal) pok [.st (.mask [6, 7, 8, 9, 10])] [.b true, .ov 31 (bool b), .ov 37 (ag (FactT.row g)), .val (int (orI (cmpI f.known g.known) (cmpI f.no g.no))), .b false] (by kernel_rfl) (.c hlt (.c hn (.c (show loadD Tryz.prog (va_b_x0 kk ks ko known fs rs best some f) 4 (.ref (.ptr 3 (0 + Int.toNat (↑n : Int) * 1))) = Option.some (bool b) from ?_) (.c (show (!!b) = true → inR (↑n : Int) 1024 = true from (fun hg => hn)) (.c (show (!!b) = true → loadD Tryz.prog (va_b_x0 kk ks ko known fs rs best some f) 233 (evalD Γ0 (List.map stripD (mkT 63 0 [(6, .ref (.ptr 1 0)), (7, .ref (.ptr 2 0)), (8, .ref (.ptr 3 0)), (9, .ref (.ptr 10 0)), (10, int (↑n : Int)), (21, int (↑n : Int)), (22, .ref (.ptr 10 4)), (23, .ref (.ptr 10 5)), (24, int f.til), (25, int (if false = true then if 1024 > f.til then 1024 else f.til else if 1024 < f.til then 1024 else f.til)), (26, bool (decide ((↑n : Int) < if false = true then if 1024 > f.til then 1024 else f.til else if 1024 < f.til then 1024 else f.til))), (29, int (↑n : Int)), (30, .ref (.ptr 3 (0 + Int.toNat (↑n : Int) * 1))), (31, bool b), (32, bool !b), (33, bool !b), (34, D.grd (!!b) (D.agg [int f.kind, int f.sub, int f.obj, int f.value, int f.frm, int f.til, int f.known, int f.no])), (35, D.grd (!!b) (int (↑n : Int))), (36, D.grd (!!b) (.ref (.ptr 2 (0 + Int.toNat (↑n : Int) * 8))))])) (Operand.tmp 36)) = Option.some (D.agg [int g.kind, int g.sub, int g.obj, int g.value, int g.frm, int g.til, int g.known, int g.no]) from (fun hg => ?_)) (.c (show (!!b) = true → Ev Tryz.prog Γ0 121 [D.agg [int f.kind, int f.sub, int f.obj, int f.value, int f.frm, int f.til, int f.known, int f.no], D.agg [int g.kind, int g.sub, int g.obj, int g.value, int g.frm, int g.til, int g.known, int g.no]] (va_b_x0 kk ks ko known fs rs best some f) (int (orI (cmpI f.known g.known) (cmpI f.no g.no))) (va_b_x0 kk ks ko known fs rs best some f) from (fun hg => (@fcmp_ev (f) (g) ((va_b_x0 kk ks ko known fs rs best some f))))) (.c hc0 .n)))))))) (by first | rfl | (have hh : vaHit f g b = true := hc0; simp only [hh, cond_true]; first | done | rfl) | (have hh : vaHit f g b = false := hc0; simp only [hh, cond_false]; first | done | rfl)) (by first | rfl | (have hh : vaHit f g b = true := hc0; simp only [hh, cond_true]; first | done | rfl) | (have hh : vaHit f g b = false := hc0; simp only [hh, cond_false]; first | done | rfl)) <;> (first | assumption | rfl | exact va_some rfl hs (by simp) | exact va_best rfl hb (by simp) | exact va_stB rfl (lt_of_some hb) (by simp) | exact va_stS rfl (lt_of_some hs) (by simp) | (simp_all; done))
  · refine CW.cast (CW.symX (s' := { t := mkT 63 0 [(6, .ref (.ptr 1 0)), (7, .ref (.ptr 2 0)), (8, .ref (.ptr 3 0)), (9, .ref (.ptr 10 0)), (10, int (IntKind.wrap IntKind.i64 ((↑n : Int) + 1)))], h := [.var [int kk, int ks, int ko], .var rs, .var (List.flatten (bestC (List.set best n f))), .var (List.flatten (boolC (List.set some n true))), .var [rowsD' fs], .var [int kk, int ks, int ko], .var [int known], .defd, .loop LoopState.busy none 0 (mkT 63 0 [(6, .ref (.ptr 1 0)), (7, .ref (.ptr 2 0)), (8, .ref (.ptr 3 0)), (15, D.fn (Fn.func 178) [] [.ref (.ptr 4 0), .ref (.ptr 5 0), .ref (.ptr 6 0)])]) { toList := [16] } (rfAsg (sub Tryz.f165 0)) (rfBody (sub Tryz.f165 0)), .var [int f.kind, int f.sub, int f.obj, int f.value, int f.frm, int f.til, int f.known, int f.no], .var [int f.kind, int f.sub, int f.obj, int f.value, int f.frm, int f.til, int f.known, int f.no]], m := [] }) (e := Exit.normal) pok [.st (.mask [6, 7, 8, 9, 10])] [.b true, .ov 31 (bool b), .ov 37 (ag (FactT.row g)), .val (int (orI (cmpI f.known g.known) (cmpI f.no g.no))), .b true, .oh 10044 D.any (vaH kk ks ko known fs rs (List.set best n f) some LoopState.busy [.var (List.map D.p (FactT.row f)), .var (List.map D.p (FactT.row f))]), .oh 10045 D.any (vaH kk ks ko known fs rs (List.set best n f) (List.set some n true) LoopState.busy [.var (List.map D.p (FactT.row f)), .var (List.map D.p (FactT.row f))])] (by kernel_rfl) (.c hlt (.c hn (.c (show loadD Tryz.prog (va_b_x0 kk ks ko known fs rs best some f) 4 (.ref (.ptr 3 (0 + Int.toNat (↑n : Int) * 1))) = Option.some (bool b) from ?_) (.c (show (!!b) = true → inR (↑n : Int) 1024 = true from (fun hg => hn)) (.c (show (!!b) = true → loadD Tryz.prog (va_b_x0 kk ks ko known fs rs best some f) 233 (evalD Γ0 (List.map stripD (mkT 63 0 [(6, .ref (.ptr 1 0)), (7, .ref (.ptr 2 0)), (8, .ref (.ptr 3 0)), (9, .ref (.ptr 10 0)), (10, int (↑n : Int)), (21, int (↑n : Int)), (22, .ref (.ptr 10 4)), (23, .ref (.ptr 10 5)), (24, int f.til), (25, int (if false = true then if 1024 > f.til then 1024 else f.til else if 1024 < f.til then 1024 else f.til)), (26, bool (decide ((↑n : Int) < if false = true then if 1024 > f.til then 1024 else f.til else if 1024 < f.til then 1024 else f.til))), (29, int (↑n : Int)), (30, .ref (.ptr 3 (0 + Int.toNat (↑n : Int) * 1))), (31, bool b), (32, bool !b), (33, bool !b), (34, D.grd (!!b) (D.agg [int f.kind, int f.sub, int f.obj, int f.value, int f.frm, int f.til, int f.known, int f.no])), (35, D.grd (!!b) (int (↑n : Int))), (36, D.grd (!!b) (.ref (.ptr 2 (0 + Int.toNat (↑n : Int) * 8))))])) (Operand.tmp 36)) = Option.some (D.agg [int g.kind, int g.sub, int g.obj, int g.value, int g.frm, int g.til, int g.known, int g.no]) from (fun hg => ?_)) (.c (show (!!b) = true → Ev Tryz.prog Γ0 121 [D.agg [int f.kind, int f.sub, int f.obj, int f.value, int f.frm, int f.til, int f.known, int f.no], D.agg [int g.kind, int g.sub, int g.obj, int g.value, int g.frm, int g.til, int g.known, int g.no]] (va_b_x0 kk ks ko known fs rs best some f) (int (orI (cmpI f.known g.known) (cmpI f.no g.no))) (va_b_x0 kk ks ko known fs rs best some f) from (fun hg => (@fcmp_ev (f) (g) ((va_b_x0 kk ks ko known fs rs best some f))))) (.c hc0 (.c hn (.c (show storeD Tryz.prog (va_b_x0 kk ks ko known fs rs best some f) 233 (.ref (.ptr 2 (0 + Int.toNat (↑n : Int) * 8))) (D.agg [int f.kind, int f.sub, int f.obj, int f.value, int f.frm, int f.til, int f.known, int f.no]) = Option.some [.var [int kk, int ks, int ko], .var rs, .var (List.flatten (bestC (List.set best n f))), .var (List.flatten (boolC some)), .var [rowsD' fs], .var [int kk, int ks, int ko], .var [int known], .defd, .loop LoopState.busy none 0 (mkT 63 0 [(6, .ref (.ptr 1 0)), (7, .ref (.ptr 2 0)), (8, .ref (.ptr 3 0)), (15, D.fn (Fn.func 178) [] [.ref (.ptr 4 0), .ref (.ptr 5 0), .ref (.ptr 6 0)])]) { toList := [16] } (rfAsg (sub Tryz.f165 0)) (rfBody (sub Tryz.f165 0)), .var [int f.kind, int f.sub, int f.obj, int f.value, int f.frm, int f.til, int f.known, int f.no], .var [int f.kind, int f.sub, int f.obj, int f.value, int f.frm, int f.til, int f.known, int f.no]] from ?_) (.c hn (.c (show storeD Tryz.prog [.var [int kk, int ks, int ko], .var rs, .var (List.flatten (bestC (List.set best n f))), .var (List.flatten (boolC some)), .var [rowsD' fs], .var [int kk, int ks, int ko], .var [int known], .defd, .loop LoopState.busy none 0 (mkT 63 0 [(6, .ref (.ptr 1 0)), (7, .ref (.ptr 2 0)), (8, .ref (.ptr 3 0)), (15, D.fn (Fn.func 178) [] [.ref (.ptr 4 0), .ref (.ptr 5 0), .ref (.ptr 6 0)])]) { toList := [16] } (rfAsg (sub Tryz.f165 0)) (rfBody (sub Tryz.f165 0)), .var [int f.kind, int f.sub, int f.obj, int f.value, int f.frm, int f.til, int f.known, int f.no], .var [int f.kind, int f.sub, int f.obj, int f.value, int f.frm, int f.til, int f.known, int f.no]] 4 (.ref (.ptr 3 (0 + Int.toNat (↑n : Int) * 1))) (evalD Γ0 (mkT 63 0 [(6, .ref (.ptr 1 0)), (7, .ref (.ptr 2 0)), (8, .ref (.ptr 3 0)), (9, .ref (.ptr 10 0)), (10, int (↑n : Int)), (21, int (↑n : Int)), (22, .ref (.ptr 10 4)), (23, .ref (.ptr 10 5)), (24, int f.til), (25, int (if false = true then if 1024 > f.til then 1024 else f.til else if 1024 < f.til then 1024 else f.til)), (26, bool (decide ((↑n : Int) < if false = true then if 1024 > f.til then 1024 else f.til else if 1024 < f.til then 1024 else f.til))), (29, int (↑n : Int)), (30, .ref (.ptr 3 (0 + Int.toNat (↑n : Int) * 1))), (31, bool b), (32, bool !b), (33, bool !b), (34, D.grd (!!b) (D.agg [int f.kind, int f.sub, int f.obj, int f.value, int f.frm, int f.til, int f.known, int f.no])), (35, D.grd (!!b) (int (↑n : Int))), (36, D.grd (!!b) (.ref (.ptr 2 (0 + Int.toNat (↑n : Int) * 8)))), (37, D.grd (!!b) (D.agg [int g.kind, int g.sub, int g.obj, int g.value, int g.frm, int g.til, int g.known, int g.no])), (38, D.grd (!!b) (int (orI (cmpI f.known g.known) (cmpI f.no g.no)))), (39, D.grd (!!b) (bool (decide (orI (cmpI f.known g.known) (cmpI f.no g.no) ≥ 0)))), (40, bool (!b || decide (orI (cmpI f.known g.known) (cmpI f.no g.no) ≥ 0))), (41, int (↑n : Int)), (42, int (↑n : Int)), (43, D.agg [int f.kind, int f.sub, int f.obj, int f.value, int f.frm, int f.til, int f.known, int f.no]), (44, .ref (.ptr 2 (0 + Int.toNat (↑n : Int) * 8))), (45, .ref (.ptr 3 (0 + Int.toNat (↑n : Int) * 1)))]) (Operand.const (Value.bool true))) = Option.some [.var [int kk, int ks, int ko], .var rs, .var (List.flatten (bestC (List.set best n f))), .var (List.flatten (boolC (List.set some n true))), .var [rowsD' fs], .var [int kk, int ks, int ko], .var [int known], .defd, .loop LoopState.busy none 0 (mkT 63 0 [(6, .ref (.ptr 1 0)), (7, .ref (.ptr 2 0)), (8, .ref (.ptr 3 0)), (15, D.fn (Fn.func 178) [] [.ref (.ptr 4 0), .ref (.ptr 5 0), .ref (.ptr 6 0)])]) { toList := [16] } (rfAsg (sub Tryz.f165 0)) (rfBody (sub Tryz.f165 0)), .var [int f.kind, int f.sub, int f.obj, int f.value, int f.frm, int f.til, int f.known, int f.no], .var [int f.kind, int f.sub, int f.obj, int f.value, int f.frm, int f.til, int f.known, int f.no]] from ?_) .n)))))))))))) (by first | rfl | (have hh : vaHit f g b = true := hc0; simp only [hh, cond_true]; first | done | rfl) | (have hh : vaHit f g b = false := hc0; simp only [hh, cond_false]; first | done | rfl)) (by first | rfl | (have hh : vaHit f g b = true := hc0; simp only [hh, cond_true]; first | done | rfl) | (have hh : vaHit f g b = false := hc0; simp only [hh, cond_false]; first | done | rfl)) <;> (first | assumption | rfl | exact va_some rfl hs (by simp) | exact va_best rfl hb (by simp) | exact va_stB rfl (lt_of_some hb) (by simp) | exact va_stS rfl (lt_of_some hs) (by simp) | (simp_all; done))
theorem va_l {kk ks ko known : Int} {fs : List (List Dp)} {rs : List D} {best b0 : List FactT} {some s0 : List Bool} {f f0 : FactT} {x : Int} (hlt : decide (x < if false = true then if 1024 > f.til then 1024 else f.til else if 1024 < f.til then 1024 else f.til) = false) : (CW Tryz.prog Γ0 (vaH kk ks ko known fs rs b0 s0 .ready [.var (f0.row.map .p)]) true (sub Tryz.f165 1) (vaS kk ks ko known fs rs best some f x) (.exit 2) { t := mkT 63 0 [], h := vaH kk ks ko known fs rs best some .busy [.var (f.row.map .p), .var (f.row.map .p)], m := [] }) := by
  exact CW.cast (CW.symX (s' := { t := mkT 63 0 [], h := [.var [int kk, int ks, int ko], .var rs, .var (List.flatten (bestC best)), .var (List.flatten (boolC some)), .var [rowsD' fs], .var [int kk, int ks, int ko], .var [int known], .defd, .loop LoopState.busy none 0 (mkT 63 0 [(6, .ref (.ptr 1 0)), (7, .ref (.ptr 2 0)), (8, .ref (.ptr 3 0)), (15, D.fn (Fn.func 178) [] [.ref (.ptr 4 0), .ref (.ptr 5 0), .ref (.ptr 6 0)])]) { toList := [16] } (rfAsg (sub Tryz.f165 0)) (rfBody (sub Tryz.f165 0)), .var [int f.kind, int f.sub, int f.obj, int f.value, int f.frm, int f.til, int f.known, int f.no], .var [int f.kind, int f.sub, int f.obj, int f.value, int f.frm, int f.til, int f.known, int f.no]], m := [] }) (e := Exit.exit 2) pok [.st (.mask [])] [.b false] (by kernel_rfl) (.c hlt .n)) (by rfl) (by rfl)
abbrev VS := List FactT × List Bool
def VS.ok (s : VS) : Prop := s.1.length = 1024 ∧ s.2.length = 1024
def vaHi (f : FactT) : Int := if f.til < 1024 then f.til else 1024
def vaStep (f : FactT) (s : VS) (n : Nat) : VS := bif vaHit f (s.1.getD n default) (s.2.getD n false) then (s.1.set n f, s.2.set n true) else s
def vaIn (f : FactT) (x : Int) (s : VS) : VS := (List.range' x.toNat (vaHi f - x).toNat).foldl (vaStep f) s
theorem vaStep_ok {f : FactT} {s : VS} (n : Nat) (h : s.ok) : (vaStep f s n).ok := by
  unfold vaStep
  cases vaHit f (s.1.getD n default) (s.2.getD n false)
  · exact h
  · exact ⟨by simpa using h.1, by simpa using h.2⟩
theorem vaHi_eq (f : FactT) : (if false = true then if 1024 > f.til then 1024 else f.til else if 1024 < f.til then 1024 else f.til) = vaHi f := by
  unfold vaHi; simp; split <;> split <;> omega
theorem va_cw {kk ks ko known : Int} {fs : List (List Dp)} {rs : List D} {best b0 : List FactT} {some s0 : List Bool} {f f0 : FactT} {x : Int} (hx : 0 ≤ x) (ho : VS.ok (best, some)) :
    CW Tryz.prog Γ0 (vaH kk ks ko known fs rs b0 s0 .ready [.var (f0.row.map .p)]) true (.loop (sub Tryz.f165 1)) (vaS kk ks ko known fs rs best some f x) (.exit 2) { t := mkT 63 0 [], h := vaH kk ks ko known fs rs (vaIn f x (best, some)).1 (vaIn f x (best, some)).2 .busy [.var (f.row.map .p), .var (f.row.map .p)], m := [] } := by
  have hx' : ((x.toNat : Nat) : Int) = x := by omega
  have hh : vaHi f ≤ 1024 := by unfold vaHi; split <;> omega
  have := CW.each (P := Tryz.prog) (Γ := Γ0) (h0 := vaH kk ks ko known fs rs b0 s0 .ready [.var (f0.row.map .p)]) (rd := true) (c := sub Tryz.f165 1) (σ := VS) (ρ := Empty) (List.range' x.toNat (vaHi f - x).toNat) (fun n s => .inl (vaStep f s n))
    (fun i s => vaS kk ks ko known fs rs s.1 s.2 f (x + (i : Int))) (.exit 2) (fun s => { t := mkT 63 0 [], h := vaH kk ks ko known fs rs s.1 s.2 .busy [.var (f.row.map .p), .var (f.row.map .p)], m := [] }) (fun r => r.elim)
    (fun _ s => s.ok) (by simp) (fun r => r.elim) ?_ ?_ (best, some) ho
  · rw [forL_fold (fun s n => vaStep f s n)] at this
    simpa [eachFin, vaIn] using this
  · intro i n s hn hs
    obtain ⟨hi, he⟩ := List.getElem?_eq_some_iff.1 hn
    simp only [List.length_range'] at hi
    simp only [List.getElem_range', Nat.one_mul] at he
    have hlt : (n : Int) < vaHi f := by omega
    have hb : s.1[n]? = .some (s.1.getD n default) := by
      rw [List.getD, List.getElem?_eq_getElem (by rw [hs.1]; omega)]; rfl
    have hc : s.2[n]? = .some (s.2.getD n false) := by
      rw [List.getD, List.getElem?_eq_getElem (by rw [hs.2]; omega)]; rfl
    refine ⟨fun s' h => by cases h; exact vaStep_ok n hs, ?_⟩
    have key := va_b (kk := kk) (ks := ks) (ko := ko) (known := known) (fs := fs) (rs := rs) (b0 := b0) (s0 := s0) (f := f) (f0 := f0) hb hc (by simp [inR]; omega) (by rw [vaHi_eq]; simpa using hlt)
    rw [wrap_i64 (by omega) (by omega)] at key
    have e1 : x + (i : Int) = (n : Int) := by omega
    have e2 : x + ((i + 1 : Nat) : Int) = (n : Int) + 1 := by omega
    simp only [bodyFin, e1, e2]
    unfold vaStep
    cases hq : vaHit f (s.1.getD n default) (s.2.getD n false) <;> rw [hq] at key <;> exact key
  · intro s _
    refine va_l ?_
    rw [vaHi_eq]
    simp
    omega
theorem va_body {kk ks ko known : Int} {fs : List (List Dp)} {rs : List D} {best : List FactT} {some : List Bool} (ho : VS.ok (best, some)) {f : FactT} : (CW Tryz.prog Γ0 (vaH kk ks ko known fs rs best some .ready [.var (f.row.map .p)]) true (rfBody (sub Tryz.f165 0)) { t := vaU, h := vaH kk ks ko known fs rs best some .busy [.var (f.row.map .p), .var (f.row.map .p)], m := [] } .normal { t := mkT 63 0 [], h := vaH kk ks ko known fs rs (vaIn f (if true = true then if f.frm > 0 then f.frm else 0 else if f.frm < 0 then f.frm else 0) (best, some)).1 (vaIn f (if true = true then if f.frm > 0 then f.frm else 0 else if f.frm < 0 then f.frm else 0) (best, some)).2 .busy [.var (f.row.map .p), .var (f.row.map .p)], m := [] }) := by
  have hl0 := (@va_cw (kk) (ks) (ko) (known) (fs) (rs) (best) (best) (some) (some) (f) (f) (if true = true then if f.frm > 0 then f.frm else 0 else if f.frm < 0 then f.frm else 0) (by first | assumption | (simp; split <;> omega) | (simp; done)) (ho))
  exact CW.cast (CW.symX (s' := { t := mkT 63 0 [], h := [.var [int kk, int ks, int ko], .var rs, .var (List.flatten (bestC (vaIn f (if true = true then if f.frm > 0 then f.frm else 0 else if f.frm < 0 then f.frm else 0) (best, some)).fst)), .var (List.flatten (boolC (vaIn f (if true = true then if f.frm > 0 then f.frm else 0 else if f.frm < 0 then f.frm else 0) (best, some)).snd)), .var [rowsD' fs], .var [int kk, int ks, int ko], .var [int known], .defd, .loop LoopState.busy none 0 (mkT 63 0 [(6, .ref (.ptr 1 0)), (7, .ref (.ptr 2 0)), (8, .ref (.ptr 3 0)), (15, D.fn (Fn.func 178) [] [.ref (.ptr 4 0), .ref (.ptr 5 0), .ref (.ptr 6 0)])]) { toList := [16] } (rfAsg (sub Tryz.f165 0)) (rfBody (sub Tryz.f165 0)), .var [int f.kind, int f.sub, int f.obj, int f.value, int f.frm, int f.til, int f.known, int f.no], .var [int f.kind, int f.sub, int f.obj, int f.value, int f.frm, int f.til, int f.known, int f.no]], m := [] }) (e := Exit.normal) pok [.st (.mask [])] [.sum [6, 7, 8, 9, 10] (Exit.exit 2) { t := mkT 63 0 [], h := [.var [int kk, int ks, int ko], .var rs, .var (List.flatten (bestC (vaIn f (if true = true then if f.frm > 0 then f.frm else 0 else if f.frm < 0 then f.frm else 0) (best, some)).fst)), .var (List.flatten (boolC (vaIn f (if true = true then if f.frm > 0 then f.frm else 0 else if f.frm < 0 then f.frm else 0) (best, some)).snd)), .var [rowsD' fs], .var [int kk, int ks, int ko], .var [int known], .defd, .loop LoopState.busy none 0 (mkT 63 0 [(6, .ref (.ptr 1 0)), (7, .ref (.ptr 2 0)), (8, .ref (.ptr 3 0)), (15, D.fn (Fn.func 178) [] [.ref (.ptr 4 0), .ref (.ptr 5 0), .ref (.ptr 6 0)])]) { toList := [16] } (rfAsg (sub Tryz.f165 0)) (rfBody (sub Tryz.f165 0)), .var [int f.kind, int f.sub, int f.obj, int f.value, int f.frm, int f.til, int f.known, int f.no], .var [int f.kind, int f.sub, int f.obj, int f.value, int f.frm, int f.til, int f.known, int f.no]], m := [] }] (by kernel_rfl) (.c hl0 .n)) (by rfl) (by rfl)
end Go.Vi
open Go Go.Proofs
namespace Go.Vi
set_option maxRecDepth 100000
set_option maxHeartbeats 4000000
def vaLo (f : FactT) : Int := if true = true then if f.frm > 0 then f.frm else 0 else if f.frm < 0 then f.frm else 0
def vaF (f : FactT) (s : VS) : VS := vaIn f (vaLo f) s
theorem vaIn_ok {f : FactT} {x : Int} {s : VS} (h : s.ok) : (vaIn f x s).ok := by
  unfold vaIn
  generalize List.range' x.toNat (vaHi f - x).toNat = l
  induction l generalizing s with
  | nil => exact h
  | cons n l ih => exact ih (vaStep_ok n h)
theorem vaIv_ev {kk ks ko known : Int} {fs : List (List Dp)} {rs : List D} {best : List FactT} {some : List Bool} (ho : VS.ok (best, some)) {f : FactT} : Iv Tryz.prog Γ0 (.ref (.yl 8)) [ag f.row] (vaH kk ks ko known fs rs best some .ready [.var (f.row.map .p)]) (bool true) (vaH kk ks ko known fs rs (vaF f (best, some)).1 (vaF f (best, some)).2 .ready [.var (f.row.map .p), .var (f.row.map .p)]) :=
  Iv.round (h1 := vaH kk ks ko known fs rs best some .ready [.var (f.row.map .p), .var (f.row.map .p)]) rfl rfl va_asg rfl (va_body ho) rfl
def vaGo (kk ks ko known : Int) (s : VS) (f : FactT) : VS := bif ofIs kk ks ko known f then vaF f s else s
theorem innL_flat {n : Nat} : ∀ {es : List (List D)}, (∀ r ∈ es, D.innL n r = true) → D.innL n es.flatten = true
  | [], _ => rfl
  | e :: es, h => by
    have key : ∀ (xs ys : List D), D.innL n xs = true → D.innL n ys = true → D.innL n (xs ++ ys) = true := by
      intro xs ys h1 h2
      induction xs with
      | nil => exact h2
      | cons x xs ih => simp only [D.innL, Bool.and_eq_true, List.cons_append] at h1 ⊢; exact ⟨h1.1, ih h1.2⟩
    rw [List.flatten_cons]
    exact key _ _ (h e (by simp)) (innL_flat fun r hr => h r (by simp [hr]))
theorem inn_best {n : Nat} {l : List FactT} : Blk.inn n (.var (bestC l).flatten) = true := innL_flat fun r hr => by obtain ⟨_, _, rfl⟩ := List.mem_map.1 hr; rfl
theorem inn_bool {n : Nat} {l : List Bool} : Blk.inn n (.var (boolC l).flatten) = true := innL_flat fun r hr => by obtain ⟨_, _, rfl⟩ := List.mem_map.1 hr; rfl
theorem inn_int {n : Nat} {l : List Int} : Blk.inn n (.var (intC l).flatten) = true := innL_flat fun r hr => by obtain ⟨_, _, rfl⟩ := List.mem_map.1 hr; rfl
theorem vo_body {kk ks ko known : Int} {fs : List (List Dp)} {rs : List Int} {best b0 : List FactT} {some s0 : List Bool} (ho : VS.ok (best, some)) {f : FactT} {i : Nat} (hr : RowAt (i : Int) fs f.row 8) (hlt : decide ((i : Int) < (fs.length : Int)) = true) (hw : IntKind.i64.wrap ((i : Int) + 1) = ((i + 1 : Nat) : Int)) : (CW Tryz.prog Γ0 (vaH kk ks ko known fs (intC rs).flatten b0 s0 .ready []) false (sub Tryz.f178 0) { t := ofT fs i, h := vaH kk ks ko known fs (intC rs).flatten best some .ready [], m := [] } .normal { t := ofT fs ((i + 1 : Nat) : Int), h := vaH kk ks ko known fs (intC rs).flatten (vaGo kk ks ko known (best, some) f).1 (vaGo kk ks ko known (best, some) f).2 .ready [], m := [] }) := by
  cases hc0 : f.kind == kk && (f.sub == ks && (f.obj == ko && true))
  · refine CW.cast (CW.symX (s' := { t := mkT 30 0 [(0, .ref (.yl 8)), (1, .ref (.ptr 4 0)), (2, .ref (.ptr 5 0)), (3, .ref (.ptr 6 0)), (7, rowsD' fs), (8, int (↑(List.length fs) : Int)), (9, int (IntKind.wrap IntKind.i64 ((↑i : Int) + 1)))], h := [.var [int kk, int ks, int ko], .var (List.flatten (intC rs)), .var (List.flatten (bestC best)), .var (List.flatten (boolC some)), .var [rowsD' fs], .var [int kk, int ks, int ko], .var [int known], .defd, .loop LoopState.ready none 0 (mkT 63 0 [(6, .ref (.ptr 1 0)), (7, .ref (.ptr 2 0)), (8, .ref (.ptr 3 0)), (15, D.fn (Fn.func 178) [] [.ref (.ptr 4 0), .ref (.ptr 5 0), .ref (.ptr 6 0)])]) { toList := [16] } (rfAsg (sub Tryz.f165 0)) (rfBody (sub Tryz.f165 0))], m := [] }) (e := Exit.normal) pok [.st (.mask [0, 1, 2, 3, 7, 8, 9]), .st (.trimV 9)] [.b true, .row [vi f.kind, vi f.sub, vi f.obj, vi f.value, vi f.frm, vi f.til, vi f.known, vi f.no], .g false, .g false, .g false, .g false, .ov 22 (bool false), .g false, .g false, .g false, .g false, .ov 28 (bool false), .b false] (by kernel_rfl) (.c hlt (.c hr (.c (show ((f.kind == kk && (f.sub == ks && (f.obj == ko && true))) == true) = false from (by rw [hc0]; rfl)) (.c (show ((f.kind == kk && (f.sub == ks && (f.obj == ko && true))) == true) = false from (by rw [hc0]; rfl)) (.c (show ((f.kind == kk && (f.sub == ks && (f.obj == ko && true))) == true) = false from (by rw [hc0]; rfl)) (.c (show ((f.kind == kk && (f.sub == ks && (f.obj == ko && true))) == true) = false from (by rw [hc0]; rfl)) (.c (show PickIs (bool (f.kind == kk && (f.sub == ks && (f.obj == ko && true)))) (D.p (Dp.v (Value.tuple { toList := [] }))) (bool false) (bool false) from (pickIs_f hc0 rfl)) (.c (show (false == true) = false from rfl) (.c (show (false == true) = false from rfl) (.c (show (false == true) = false from rfl) (.c (show (false == true) = false from rfl) (.c (show PickIs (bool false) (D.p (Dp.v (Value.tuple { toList := [] }))) (bool false) (bool false) from (pickIs_f rfl rfl)) (.c (show false = false from rfl) (.c (show Blk.inn 9 (.var [int kk, int ks, int ko]) = true from rfl) (.c (show Blk.inn 9 (.var (List.flatten (intC rs))) = true from ?_) (.c (show Blk.inn 9 (.var (List.flatten (bestC best))) = true from ?_) (.c (show Blk.inn 9 (.var (List.flatten (boolC some))) = true from ?_) (.c (show Blk.inn 9 (.var [rowsD' fs]) = true from rfl) (.c (show Blk.inn 9 (.var [int kk, int ks, int ko]) = true from rfl) (.c (show Blk.inn 9 (.var [int known]) = true from rfl) (.c (show Blk.inn 9 .defd = true from rfl) (.c (show Blk.inn 9 (.loop LoopState.ready none 0 (mkT 63 0 [(6, .ref (.ptr 1 0)), (7, .ref (.ptr 2 0)), (8, .ref (.ptr 3 0)), (15, D.fn (Fn.func 178) [] [.ref (.ptr 4 0), .ref (.ptr 5 0), .ref (.ptr 6 0)])]) { toList := [16] } (rfAsg (sub Tryz.f165 0)) (rfBody (sub Tryz.f165 0))) = true from rfl) .n))))))))))))))))))))))) (by first | rfl | (simp only [hw, vaGo, ofIs, keyIs, hc0, Bool.and_false, Bool.false_and, Bool.true_and, Bool.and_self, cond_true, cond_false]; rfl)) (by first | rfl | (simp only [hw, vaGo, ofIs, keyIs, hc0, Bool.and_false, Bool.false_and, Bool.true_and, Bool.and_self, cond_true, cond_false]; rfl)) <;> (first | assumption | rfl | exact inn_best | exact inn_bool | exact inn_int | (simp_all; done))
  · cases hc1 : decide (f.known ≤ known)
    · refine CW.cast (CW.symX (s' := { t := mkT 30 0 [(0, .ref (.yl 8)), (1, .ref (.ptr 4 0)), (2, .ref (.ptr 5 0)), (3, .ref (.ptr 6 0)), (7, rowsD' fs), (8, int (↑(List.length fs) : Int)), (9, int (IntKind.wrap IntKind.i64 ((↑i : Int) + 1)))], h := [.var [int kk, int ks, int ko], .var (List.flatten (intC rs)), .var (List.flatten (bestC best)), .var (List.flatten (boolC some)), .var [rowsD' fs], .var [int kk, int ks, int ko], .var [int known], .defd, .loop LoopState.ready none 0 (mkT 63 0 [(6, .ref (.ptr 1 0)), (7, .ref (.ptr 2 0)), (8, .ref (.ptr 3 0)), (15, D.fn (Fn.func 178) [] [.ref (.ptr 4 0), .ref (.ptr 5 0), .ref (.ptr 6 0)])]) { toList := [16] } (rfAsg (sub Tryz.f165 0)) (rfBody (sub Tryz.f165 0))], m := [] }) (e := Exit.normal) pok [.st (.mask [0, 1, 2, 3, 7, 8, 9]), .st (.trimV 9)] [.b true, .row [vi f.kind, vi f.sub, vi f.obj, vi f.value, vi f.frm, vi f.til, vi f.known, vi f.no], .g true, .g true, .g true, .g true, .ov 22 (bool (decide (f.known ≤ known))), .g false, .g false, .g false, .g false, .ov 28 (bool false), .b false] (by kernel_rfl) (.c hlt (.c hr (.c (show ((f.kind == kk && (f.sub == ks && (f.obj == ko && true))) == true) = true from (by rw [hc0]; rfl)) (.c (show ((f.kind == kk && (f.sub == ks && (f.obj == ko && true))) == true) = true from (by rw [hc0]; rfl)) (.c (show ((f.kind == kk && (f.sub == ks && (f.obj == ko && true))) == true) = true from (by rw [hc0]; rfl)) (.c (show ((f.kind == kk && (f.sub == ks && (f.obj == ko && true))) == true) = true from (by rw [hc0]; rfl)) (.c (show PickIs (bool (f.kind == kk && (f.sub == ks && (f.obj == ko && true)))) (bool (decide (f.known ≤ known))) (bool false) (bool (decide (f.known ≤ known))) from (pickIs_t hc0 rfl)) (.c (show (decide (f.known ≤ known) == true) = false from (by rw [hc1]; rfl)) (.c (show (decide (f.known ≤ known) == true) = false from (by rw [hc1]; rfl)) (.c (show (decide (f.known ≤ known) == true) = false from (by rw [hc1]; rfl)) (.c (show (decide (f.known ≤ known) == true) = false from (by rw [hc1]; rfl)) (.c (show PickIs (bool (decide (f.known ≤ known))) (D.p (Dp.v (Value.tuple { toList := [] }))) (bool false) (bool false) from (pickIs_f hc1 rfl)) (.c (show false = false from rfl) (.c (show Blk.inn 9 (.var [int kk, int ks, int ko]) = true from rfl) (.c (show Blk.inn 9 (.var (List.flatten (intC rs))) = true from ?_) (.c (show Blk.inn 9 (.var (List.flatten (bestC best))) = true from ?_) (.c (show Blk.inn 9 (.var (List.flatten (boolC some))) = true from ?_) (.c (show Blk.inn 9 (.var [rowsD' fs]) = true from rfl) (.c (show Blk.inn 9 (.var [int kk, int ks, int ko]) = true from rfl) (.c (show Blk.inn 9 (.var [int known]) = true from rfl) (.c (show Blk.inn 9 .defd = true from rfl) (.c (show Blk.inn 9 (.loop LoopState.ready none 0 (mkT 63 0 [(6, .ref (.ptr 1 0)), (7, .ref (.ptr 2 0)), (8, .ref (.ptr 3 0)), (15, D.fn (Fn.func 178) [] [.ref (.ptr 4 0), .ref (.ptr 5 0), .ref (.ptr 6 0)])]) { toList := [16] } (rfAsg (sub Tryz.f165 0)) (rfBody (sub Tryz.f165 0))) = true from rfl) .n))))))))))))))))))))))) (by first | rfl | (simp only [hw, vaGo, ofIs, keyIs, hc0, hc1, Bool.and_false, Bool.false_and, Bool.true_and, Bool.and_self, cond_true, cond_false]; rfl)) (by first | rfl | (simp only [hw, vaGo, ofIs, keyIs, hc0, hc1, Bool.and_false, Bool.false_and, Bool.true_and, Bool.and_self, cond_true, cond_false]; rfl)) <;> (first | assumption | rfl | exact inn_best | exact inn_bool | exact inn_int | (simp_all; done))
    · refine CW.cast (CW.symX (s' := { t := mkT 30 0 [(0, .ref (.yl 8)), (1, .ref (.ptr 4 0)), (2, .ref (.ptr 5 0)), (3, .ref (.ptr 6 0)), (7, rowsD' fs), (8, int (↑(List.length fs) : Int)), (9, int (IntKind.wrap IntKind.i64 ((↑i : Int) + 1)))], h := [.var [int kk, int ks, int ko], .var (List.flatten (intC rs)), .var (List.flatten (bestC (vaF f (best, some)).fst)), .var (List.flatten (boolC (vaF f (best, some)).snd)), .var [rowsD' fs], .var [int kk, int ks, int ko], .var [int known], .defd, .loop LoopState.ready none 0 (mkT 63 0 [(6, .ref (.ptr 1 0)), (7, .ref (.ptr 2 0)), (8, .ref (.ptr 3 0)), (15, D.fn (Fn.func 178) [] [.ref (.ptr 4 0), .ref (.ptr 5 0), .ref (.ptr 6 0)])]) { toList := [16] } (rfAsg (sub Tryz.f165 0)) (rfBody (sub Tryz.f165 0))], m := [] }) (e := Exit.normal) pok [.st (.mask [0, 1, 2, 3, 7, 8, 9]), .st (.trimV 9)] [.b true, .row [vi f.kind, vi f.sub, vi f.obj, vi f.value, vi f.frm, vi f.til, vi f.known, vi f.no], .g true, .g true, .g true, .g true, .ov 22 (bool (decide (f.known ≤ known))), .g true, .g true, .g true, .inv (bool true) [.var [int kk, int ks, int ko], .var (List.flatten (intC rs)), .var (List.flatten (bestC (vaF f (best, some)).fst)), .var (List.flatten (boolC (vaF f (best, some)).snd)), .var [rowsD' fs], .var [int kk, int ks, int ko], .var [int known], .defd, .loop LoopState.ready none 0 (mkT 63 0 [(6, .ref (.ptr 1 0)), (7, .ref (.ptr 2 0)), (8, .ref (.ptr 3 0)), (15, D.fn (Fn.func 178) [] [.ref (.ptr 4 0), .ref (.ptr 5 0), .ref (.ptr 6 0)])]) { toList := [16] } (rfAsg (sub Tryz.f165 0)) (rfBody (sub Tryz.f165 0)), .var [int f.kind, int f.sub, int f.obj, int f.value, int f.frm, int f.til, int f.known, int f.no], .var [int f.kind, int f.sub, int f.obj, int f.value, int f.frm, int f.til, int f.known, int f.no]], .g true, .ov 28 (bool !true), .b false] (by kernel_rfl) (.c hlt (.c hr (.c (show ((f.kind == kk && (f.sub == ks && (f.obj == ko && true))) == true) = true from (by rw [hc0]; rfl)) (.c (show ((f.kind == kk && (f.sub == ks && (f.obj == ko && true))) == true) = true from (by rw [hc0]; rfl)) (.c (show ((f.kind == kk && (f.sub == ks && (f.obj == ko && true))) == true) = true from (by rw [hc0]; rfl)) (.c (show ((f.kind == kk && (f.sub == ks && (f.obj == ko && true))) == true) = true from (by rw [hc0]; rfl)) (.c (show PickIs (bool (f.kind == kk && (f.sub == ks && (f.obj == ko && true)))) (bool (decide (f.known ≤ known))) (bool false) (bool (decide (f.known ≤ known))) from (pickIs_t hc0 rfl)) (.c (show (decide (f.known ≤ known) == true) = true from (by rw [hc1]; rfl)) (.c (show (decide (f.known ≤ known) == true) = true from (by rw [hc1]; rfl)) (.c (show (decide (f.known ≤ known) == true) = true from (by rw [hc1]; rfl)) (.c (@vaIv_ev (kk) (ks) (ko) (known) (fs) (List.flatten (intC rs)) (best) (some) (ho) (f)) (.c (show (decide (f.known ≤ known) == true) = true from (by rw [hc1]; rfl)) (.c (show PickIs (bool (decide (f.known ≤ known))) (bool !true) (bool false) (bool !true) from (pickIs_t hc1 rfl)) (.c (show (!true) = false from rfl) (.c (show Blk.inn 9 (.var [int kk, int ks, int ko]) = true from rfl) (.c (show Blk.inn 9 (.var (List.flatten (intC rs))) = true from ?_) (.c (show Blk.inn 9 (.var (List.flatten (bestC (vaF f (best, some)).fst))) = true from ?_) (.c (show Blk.inn 9 (.var (List.flatten (boolC (vaF f (best, some)).snd))) = true from ?_) (.c (show Blk.inn 9 (.var [rowsD' fs]) = true from rfl) (.c (show Blk.inn 9 (.var [int kk, int ks, int ko]) = true from rfl) (.c (show Blk.inn 9 (.var [int known]) = true from rfl) (.c (show Blk.inn 9 .defd = true from rfl) (.c (show Blk.inn 9 (.loop LoopState.ready none 0 (mkT 63 0 [(6, .ref (.ptr 1 0)), (7, .ref (.ptr 2 0)), (8, .ref (.ptr 3 0)), (15, D.fn (Fn.func 178) [] [.ref (.ptr 4 0), .ref (.ptr 5 0), .ref (.ptr 6 0)])]) { toList := [16] } (rfAsg (sub Tryz.f165 0)) (rfBody (sub Tryz.f165 0))) = true from rfl) .n)))))))))))))))))))))))) (by first | rfl | (simp only [hw, vaGo, ofIs, keyIs, hc0, hc1, Bool.and_false, Bool.false_and, Bool.true_and, Bool.and_self, cond_true, cond_false]; rfl)) (by first | rfl | (simp only [hw, vaGo, ofIs, keyIs, hc0, hc1, Bool.and_false, Bool.false_and, Bool.true_and, Bool.and_self, cond_true, cond_false]; rfl)) <;> (first | assumption | rfl | exact inn_best | exact inn_bool | exact inn_int | (simp_all; done))
theorem vo_last {kk ks ko known : Int} {fs : List (List Dp)} {rs : List Int} {best b0 : List FactT} {some s0 : List Bool} {i : Nat} (hlt : decide ((i : Int) < (fs.length : Int)) = false) : (CW Tryz.prog Γ0 (vaH kk ks ko known fs (intC rs).flatten b0 s0 .ready []) false (sub Tryz.f178 0) { t := ofT fs i, h := vaH kk ks ko known fs (intC rs).flatten best some .ready [], m := [] } (.exit 0) { t := mkT 30 0 [], h := vaH kk ks ko known fs (intC rs).flatten best some .ready [], m := [] }) := by
  exact CW.cast (CW.symX (s' := { t := mkT 30 0 [], h := [.var [int kk, int ks, int ko], .var (List.flatten (intC rs)), .var (List.flatten (bestC best)), .var (List.flatten (boolC some)), .var [rowsD' fs], .var [int kk, int ks, int ko], .var [int known], .defd, .loop LoopState.ready none 0 (mkT 63 0 [(6, .ref (.ptr 1 0)), (7, .ref (.ptr 2 0)), (8, .ref (.ptr 3 0)), (15, D.fn (Fn.func 178) [] [.ref (.ptr 4 0), .ref (.ptr 5 0), .ref (.ptr 6 0)])]) { toList := [16] } (rfAsg (sub Tryz.f165 0)) (rfBody (sub Tryz.f165 0))], m := [] }) (e := Exit.exit 0) pok [.st (.mask [])] [.b false] (by kernel_rfl) (.c hlt .n)) (by rfl) (by rfl)
theorem vaGo_ok {kk ks ko known : Int} {s : VS} (f : FactT) (h : s.ok) : (vaGo kk ks ko known s f).ok := by
  unfold vaGo
  cases ofIs kk ks ko known f
  · exact h
  · exact vaIn_ok h
theorem vo_cw {kk ks ko known : Int} {l : List FactT} (hl : Short l) {rs : List Int} {b0 : List FactT} {s0 : List Bool} (ho : VS.ok (b0, s0)) :
    CW Tryz.prog Γ0 (vaH kk ks ko known (l.map FactT.row) (intC rs).flatten b0 s0 .ready []) false (.loop (sub Tryz.f178 0)) { t := ofT (l.map FactT.row) 0, h := vaH kk ks ko known (l.map FactT.row) (intC rs).flatten b0 s0 .ready [], m := [] } (.exit 0)
      { t := mkT 30 0 [], h := vaH kk ks ko known (l.map FactT.row) (intC rs).flatten (l.foldl (vaGo kk ks ko known) (b0, s0)).1 (l.foldl (vaGo kk ks ko known) (b0, s0)).2 .ready [], m := [] } := by
  have := CW.each (P := Tryz.prog) (Γ := Γ0) (h0 := vaH kk ks ko known (l.map FactT.row) (intC rs).flatten b0 s0 .ready []) (rd := false) (c := sub Tryz.f178 0) (σ := VS) (ρ := Empty) l (fun f s => .inl (vaGo kk ks ko known s f))
    (fun i s => { t := ofT (l.map FactT.row) (i : Int), h := vaH kk ks ko known (l.map FactT.row) (intC rs).flatten s.1 s.2 .ready [], m := [] }) (.exit 0) (fun s => { t := mkT 30 0 [], h := vaH kk ks ko known (l.map FactT.row) (intC rs).flatten s.1 s.2 .ready [], m := [] }) (fun r => r.elim)
    (fun _ s => s.ok) (by simp) (fun r => r.elim) ?_ ?_ (b0, s0) ho
  · rw [forL_fold] at this
    exact this
  · intro i f s hf hs
    have hi := (List.getElem?_eq_some_iff.1 hf).1
    exact ⟨fun s' h => by cases h; exact vaGo_ok f hs, vo_body hs (rowAt hf rfl) (lt_len _ hi) (wrap_succ hi hl)⟩
  · intro s _
    exact vo_last (ge_len _ l)
theorem voiter_ev {kk ks ko known : Int} {l : List FactT} (hl : Short l) {rs : List Int} {b0 : List FactT} {s0 : List Bool} (ho : VS.ok (b0, s0)) : (Ev Tryz.prog Γ0 178 [.ref (.yl 8), .ref (.ptr 4 0), .ref (.ptr 5 0), .ref (.ptr 6 0)] (vaH kk ks ko known (l.map FactT.row) (intC rs).flatten b0 s0 .ready []) (.tup []) (vaH kk ks ko known (l.map FactT.row) (intC rs).flatten (l.foldl (vaGo kk ks ko known) (b0, s0)).1 (l.foldl (vaGo kk ks ko known) (b0, s0)).2 .ready [])) := by
  have hl0 := (@vo_cw (kk) (ks) (ko) (known) (l) (hl) (rs) (b0) (s0) (ho))
  exact Ev.castH (Ev.of_sym (h' := [.var [int kk, int ks, int ko], .var (List.flatten (intC rs)), .var (List.flatten (bestC (List.foldl (vaGo kk ks ko known) (b0, s0) l).fst)), .var (List.flatten (boolC (List.foldl (vaGo kk ks ko known) (b0, s0) l).snd)), .var [rowsD' (List.map FactT.row l)], .var [int kk, int ks, int ko], .var [int known], .defd, .loop LoopState.ready none 0 (mkT 63 0 [(6, .ref (.ptr 1 0)), (7, .ref (.ptr 2 0)), (8, .ref (.ptr 3 0)), (15, D.fn (Fn.func 178) [] [.ref (.ptr 4 0), .ref (.ptr 5 0), .ref (.ptr 6 0)])]) { toList := [16] } (rfAsg (sub Tryz.f165 0)) (rfBody (sub Tryz.f165 0))]) (d := D.tup []) pok [.sum [0, 1, 2, 3, 7, 8, 9] (Exit.exit 0) { t := mkT 30 0 [], h := [.var [int kk, int ks, int ko], .var (List.flatten (intC rs)), .var (List.flatten (bestC (List.foldl (vaGo kk ks ko known) (b0, s0) l).fst)), .var (List.flatten (boolC (List.foldl (vaGo kk ks ko known) (b0, s0) l).snd)), .var [rowsD' (List.map FactT.row l)], .var [int kk, int ks, int ko], .var [int known], .defd, .loop LoopState.ready none 0 (mkT 63 0 [(6, .ref (.ptr 1 0)), (7, .ref (.ptr 2 0)), (8, .ref (.ptr 3 0)), (15, D.fn (Fn.func 178) [] [.ref (.ptr 4 0), .ref (.ptr 5 0), .ref (.ptr 6 0)])]) { toList := [16] } (rfAsg (sub Tryz.f165 0)) (rfBody (sub Tryz.f165 0))], m := [] }] (by kernel_rfl) (.c hl0 .n)) (by rfl) (by rfl)
noncomputable abbrev vaH0 (kk ks ko known : Int) (fs : List (List Dp)) (rs : List Int) (best : List FactT) (some : List Bool) : List Blk :=
  [.var [int kk, int ks, int ko], .var (intC rs).flatten, .var (bestC best).flatten, .var (boolC some).flatten, .var [rowsD' fs], .var [int kk, int ks, int ko], .var [int known]]
theorem va_rf_cw {kk ks ko known : Int} {l : List FactT} (hl : Short l) {rs : List Int} {b0 : List FactT} {s0 : List Bool} (ho : VS.ok (b0, s0)) : CW Tryz.prog Γ0 [] false (sub Tryz.f165 0) { t := vaT, h := vaH0 kk ks ko known (l.map FactT.row) rs b0 s0, m := [] } .normal
    { t := vaT, h := vaH kk ks ko known (l.map FactT.row) (intC rs).flatten (l.foldl (vaGo kk ks ko known) (b0, s0)).1 (l.foldl (vaGo kk ks ko known) (b0, s0)).2 .exhausted [], m := [7] } :=
  CW.rangeFunc (f := 178) (fi := []) (ca := [.ref (.ptr 4 0), .ref (.ptr 5 0), .ref (.ptr 6 0)]) pok (s := { t := vaT, h := vaH0 kk ks ko known (l.map FactT.row) rs b0 s0, m := [] }) (g := .tmp 15) (ps := #[16]) (asg := rfAsg (sub Tryz.f165 0)) (body := rfBody (sub Tryz.f165 0)) rfl (by kernel_rfl) (voiter_ev hl ho) rfl
theorem va_val {h : List Blk} {off n : Nat} {l : List FactT} {g : FactT} (hb : h[2]? = some (.var (bestC l).flatten)) (hs : l[n]? = some g) (ho : off = n * 8 + 3) : loadD Tryz.prog h 3 (.ref (.ptr 2 off)) = some (int g.value) := by
  subst ho
  exact load_arr1 (sz := 8) (j := 3) (row := g.row.map .p) (by kernel_rfl) (by kernel_rfl) hb (by simp [FactT.row]) (by simp [hs]) rfl
theorem va_stI {h : List Blk} {off n : Nat} {l : List Int} {x : Int} (hb : h[1]? = some (.var (intC l).flatten)) (hn : n < l.length) (ho : off = n * 1) : storeD Tryz.prog h 3 (.ref (.ptr 1 off)) (int x) = some (h.set 1 (.var (intC (l.set n x)).flatten)) := by
  subst ho
  rw [store_arr (sz := 1) (new := [int x]) rfl (by kernel_rfl) rfl hb (fun r hr => by obtain ⟨_, _, rfl⟩ := List.mem_map.1 hr; rfl) (by simpa using hn), intC, intC, List.map_set]
abbrev maxV (v : Int) : Int := if true = true then if -1 > v then -1 else v else if -1 < v then -1 else v
noncomputable abbrev vlS (kk ks ko known : Int) (fs : List (List Dp)) (rs : List Int) (best : List FactT) (some : List Bool) (i : Int) : AS := { t := mkT 63 0 [(6, .ref (.ptr 1 0)), (7, .ref (.ptr 2 0)), (8, .ref (.ptr 3 0)), (46, int i)], h := vaH kk ks ko known fs (intC rs).flatten best some .exhausted [], m := [7] }
theorem vl_b {kk ks ko known : Int} {fs : List (List Dp)} {rs : List Int} {best : List FactT} {some : List Bool} {g : FactT} {n : Nat} {b : Bool} (hb : best[n]? = .some g) (hs : some[n]? = .some b) (hn : inR (n : Int) 1024 = true) (hr : n < rs.length) (hlt : decide ((n : Int) < 1024) = true) : (CW Tryz.prog Γ0 [] false (sub Tryz.f165 2) (vlS kk ks ko known fs rs best some (n : Int)) .normal (vlS kk ks ko known fs (bif b then (rs.set n (-1)).set n (maxV g.value) else rs.set n (-1)) best some (IntKind.i64.wrap ((n : Int) + 1)))) := by
  cases hc0 : b
  · refine CW.cast (CW.symX (s' := { t := mkT 63 0 [(6, .ref (.ptr 1 0)), (7, .ref (.ptr 2 0)), (8, .ref (.ptr 3 0)), (46, int (IntKind.wrap IntKind.i64 ((↑n : Int) + 1)))], h := [.var [int kk, int ks, int ko], .var (List.flatten (intC (List.set rs n (-1)))), .var (List.flatten (bestC best)), .var (List.flatten (boolC some)), .var [rowsD' fs], .var [int kk, int ks, int ko], .var [int known], .defd, .loop LoopState.exhausted none 0 (mkT 63 0 [(6, .ref (.ptr 1 0)), (7, .ref (.ptr 2 0)), (8, .ref (.ptr 3 0)), (15, D.fn (Fn.func 178) [] [.ref (.ptr 4 0), .ref (.ptr 5 0), .ref (.ptr 6 0)])]) { toList := [16] } (rfAsg (sub Tryz.f165 0)) (rfBody (sub Tryz.f165 0))], m := [7] }) (e := Exit.normal) pok [.st (.mask [6, 7, 8, 46])] [.b true, .oh 10050 D.any (vaH kk ks ko known fs (List.flatten (intC (List.set rs n (-1)))) best some LoopState.exhausted []), .ov 53 (bool b), .b false] (by kernel_rfl) (.c hlt (.c hn (.c (show storeD Tryz.prog [.var [int kk, int ks, int ko], .var (List.flatten (intC rs)), .var (List.flatten (bestC best)), .var (List.flatten (boolC some)), .var [rowsD' fs], .var [int kk, int ks, int ko], .var [int known], .defd, .loop LoopState.exhausted none 0 (mkT 63 0 [(6, .ref (.ptr 1 0)), (7, .ref (.ptr 2 0)), (8, .ref (.ptr 3 0)), (15, D.fn (Fn.func 178) [] [.ref (.ptr 4 0), .ref (.ptr 5 0), .ref (.ptr 6 0)])]) { toList := [16] } (rfAsg (sub Tryz.f165 0)) (rfBody (sub Tryz.f165 0))] 3 (.ref (.ptr 1 (0 + Int.toNat (↑n : Int) * 1))) (evalD Γ0 (mkT 63 0 [(6, .ref (.ptr 1 0)), (7, .ref (.ptr 2 0)), (8, .ref (.ptr 3 0)), (11, int (↑n : Int)), (46, int (↑n : Int)), (47, bool (decide ((↑n : Int) < 1024))), (48, int (↑n : Int)), (49, int (↑n : Int)), (50, .ref (.ptr 1 (0 + Int.toNat (↑n : Int) * 1)))]) (Operand.const (Value.int IntKind.i64 (-1)))) = Option.some [.var [int kk, int ks, int ko], .var (List.flatten (intC (List.set rs n (-1)))), .var (List.flatten (bestC best)), .var (List.flatten (boolC some)), .var [rowsD' fs], .var [int kk, int ks, int ko], .var [int known], .defd, .loop LoopState.exhausted none 0 (mkT 63 0 [(6, .ref (.ptr 1 0)), (7, .ref (.ptr 2 0)), (8, .ref (.ptr 3 0)), (15, D.fn (Fn.func 178) [] [.ref (.ptr 4 0), .ref (.ptr 5 0), .ref (.ptr 6 0)])]) { toList := [16] } (rfAsg (sub Tryz.f165 0)) (rfBody (sub Tryz.f165 0))] from ?_) (.c hn (.c (show loadD Tryz.prog [.var [int kk, int ks, int ko], .var (List.flatten (intC (List.set rs n (-1)))), .var (List.flatten (bestC best)), .var (List.flatten (boolC some)), .var [rowsD' fs], .var [int kk, int ks, int ko], .var [int known], .defd, .loop LoopState.exhausted none 0 (mkT 63 0 [(6, .ref (.ptr 1 0)), (7, .ref (.ptr 2 0)), (8, .ref (.ptr 3 0)), (15, D.fn (Fn.func 178) [] [.ref (.ptr 4 0), .ref (.ptr 5 0), .ref (.ptr 6 0)])]) { toList := [16] } (rfAsg (sub Tryz.f165 0)) (rfBody (sub Tryz.f165 0))] 4 (.ref (.ptr 3 (0 + Int.toNat (↑n : Int) * 1))) = Option.some (bool b) from ?_) (.c hc0 .n))))))) (by first | rfl | (simp only [hc0, cond_true, cond_false]; first | done | rfl)) (by first | rfl | (simp only [hc0, cond_true, cond_false]; first | done | rfl)) <;> (first | assumption | rfl | exact va_some rfl hs (by simp) | exact va_val rfl hb (by simp) | exact va_stI rfl hr (by simp) | exact va_stI rfl (by simpa using hr) (by simp) | (simp_all; done))
  · refine CW.cast (CW.symX (s' := { t := mkT 63 0 [(6, .ref (.ptr 1 0)), (7, .ref (.ptr 2 0)), (8, .ref (.ptr 3 0)), (46, int (IntKind.wrap IntKind.i64 ((↑n : Int) + 1)))], h := [.var [int kk, int ks, int ko], .var (List.flatten (intC (List.set (List.set rs n (-1)) n (maxV g.value)))), .var (List.flatten (bestC best)), .var (List.flatten (boolC some)), .var [rowsD' fs], .var [int kk, int ks, int ko], .var [int known], .defd, .loop LoopState.exhausted none 0 (mkT 63 0 [(6, .ref (.ptr 1 0)), (7, .ref (.ptr 2 0)), (8, .ref (.ptr 3 0)), (15, D.fn (Fn.func 178) [] [.ref (.ptr 4 0), .ref (.ptr 5 0), .ref (.ptr 6 0)])]) { toList := [16] } (rfAsg (sub Tryz.f165 0)) (rfBody (sub Tryz.f165 0))], m := [7] }) (e := Exit.normal) pok [.st (.mask [6, 7, 8, 46])] [.b true, .oh 10050 D.any (vaH kk ks ko known fs (List.flatten (intC (List.set rs n (-1)))) best some LoopState.exhausted []), .ov 53 (bool b), .b true, .ov 58 (int g.value), .oh 10060 D.any (vaH kk ks ko known fs (List.flatten (intC (List.set (List.set rs n (-1)) n (maxV g.value)))) best some LoopState.exhausted [])] (by kernel_rfl) (.c hlt (.c hn (.c (show storeD Tryz.prog [.var [int kk, int ks, int ko], .var (List.flatten (intC rs)), .var (List.flatten (bestC best)), .var (List.flatten (boolC some)), .var [rowsD' fs], .var [int kk, int ks, int ko], .var [int known], .defd, .loop LoopState.exhausted none 0 (mkT 63 0 [(6, .ref (.ptr 1 0)), (7, .ref (.ptr 2 0)), (8, .ref (.ptr 3 0)), (15, D.fn (Fn.func 178) [] [.ref (.ptr 4 0), .ref (.ptr 5 0), .ref (.ptr 6 0)])]) { toList := [16] } (rfAsg (sub Tryz.f165 0)) (rfBody (sub Tryz.f165 0))] 3 (.ref (.ptr 1 (0 + Int.toNat (↑n : Int) * 1))) (evalD Γ0 (mkT 63 0 [(6, .ref (.ptr 1 0)), (7, .ref (.ptr 2 0)), (8, .ref (.ptr 3 0)), (11, int (↑n : Int)), (46, int (↑n : Int)), (47, bool (decide ((↑n : Int) < 1024))), (48, int (↑n : Int)), (49, int (↑n : Int)), (50, .ref (.ptr 1 (0 + Int.toNat (↑n : Int) * 1)))]) (Operand.const (Value.int IntKind.i64 (-1)))) = Option.some [.var [int kk, int ks, int ko], .var (List.flatten (intC (List.set rs n (-1)))), .var (List.flatten (bestC best)), .var (List.flatten (boolC some)), .var [rowsD' fs], .var [int kk, int ks, int ko], .var [int known], .defd, .loop LoopState.exhausted none 0 (mkT 63 0 [(6, .ref (.ptr 1 0)), (7, .ref (.ptr 2 0)), (8, .ref (.ptr 3 0)), (15, D.fn (Fn.func 178) [] [.ref (.ptr 4 0), .ref (.ptr 5 0), .ref (.ptr 6 0)])]) { toList := [16] } (rfAsg (sub Tryz.f165 0)) (rfBody (sub Tryz.f165 0))] from ?_) (.c hn (.c (show loadD Tryz.prog [.var [int kk, int ks, int ko], .var (List.flatten (intC (List.set rs n (-1)))), .var (List.flatten (bestC best)), .var (List.flatten (boolC some)), .var [rowsD' fs], .var [int kk, int ks, int ko], .var [int known], .defd, .loop LoopState.exhausted none 0 (mkT 63 0 [(6, .ref (.ptr 1 0)), (7, .ref (.ptr 2 0)), (8, .ref (.ptr 3 0)), (15, D.fn (Fn.func 178) [] [.ref (.ptr 4 0), .ref (.ptr 5 0), .ref (.ptr 6 0)])]) { toList := [16] } (rfAsg (sub Tryz.f165 0)) (rfBody (sub Tryz.f165 0))] 4 (.ref (.ptr 3 (0 + Int.toNat (↑n : Int) * 1))) = Option.some (bool b) from ?_) (.c hc0 (.c hn (.c (show loadD Tryz.prog [.var [int kk, int ks, int ko], .var (List.flatten (intC (List.set rs n (-1)))), .var (List.flatten (bestC best)), .var (List.flatten (boolC some)), .var [rowsD' fs], .var [int kk, int ks, int ko], .var [int known], .defd, .loop LoopState.exhausted none 0 (mkT 63 0 [(6, .ref (.ptr 1 0)), (7, .ref (.ptr 2 0)), (8, .ref (.ptr 3 0)), (15, D.fn (Fn.func 178) [] [.ref (.ptr 4 0), .ref (.ptr 5 0), .ref (.ptr 6 0)])]) { toList := [16] } (rfAsg (sub Tryz.f165 0)) (rfBody (sub Tryz.f165 0))] 3 (.ref (.ptr 2 (0 + Int.toNat (↑n : Int) * 8 + 3))) = Option.some (int g.value) from ?_) (.c hn (.c (show storeD Tryz.prog [.var [int kk, int ks, int ko], .var (List.flatten (intC (List.set rs n (-1)))), .var (List.flatten (bestC best)), .var (List.flatten (boolC some)), .var [rowsD' fs], .var [int kk, int ks, int ko], .var [int known], .defd, .loop LoopState.exhausted none 0 (mkT 63 0 [(6, .ref (.ptr 1 0)), (7, .ref (.ptr 2 0)), (8, .ref (.ptr 3 0)), (15, D.fn (Fn.func 178) [] [.ref (.ptr 4 0), .ref (.ptr 5 0), .ref (.ptr 6 0)])]) { toList := [16] } (rfAsg (sub Tryz.f165 0)) (rfBody (sub Tryz.f165 0))] 3 (.ref (.ptr 1 (0 + Int.toNat (↑n : Int) * 1))) (int (if true = true then if -1 > g.value then -1 else g.value else if -1 < g.value then -1 else g.value)) = Option.some [.var [int kk, int ks, int ko], .var (List.flatten (intC (List.set (List.set rs n (-1)) n (maxV g.value)))), .var (List.flatten (bestC best)), .var (List.flatten (boolC some)), .var [rowsD' fs], .var [int kk, int ks, int ko], .var [int known], .defd, .loop LoopState.exhausted none 0 (mkT 63 0 [(6, .ref (.ptr 1 0)), (7, .ref (.ptr 2 0)), (8, .ref (.ptr 3 0)), (15, D.fn (Fn.func 178) [] [.ref (.ptr 4 0), .ref (.ptr 5 0), .ref (.ptr 6 0)])]) { toList := [16] } (rfAsg (sub Tryz.f165 0)) (rfBody (sub Tryz.f165 0))] from ?_) .n))))))))))) (by first | rfl | (simp only [hc0, cond_true, cond_false]; first | done | rfl)) (by first | rfl | (simp only [hc0, cond_true, cond_false]; first | done | rfl)) <;> (first | assumption | rfl | exact va_some rfl hs (by simp) | exact va_val rfl hb (by simp) | exact va_stI rfl hr (by simp) | exact va_stI rfl (by simpa using hr) (by simp) | (simp_all; done))
theorem vl_last {kk ks ko known : Int} {fs : List (List Dp)} {rs : List Int} {best : List FactT} {some : List Bool} : (CW Tryz.prog Γ0 [] false (sub Tryz.f165 2) (vlS kk ks ko known fs rs best some 1024) (.exit 4) { t := mkT 63 0 [(6, .ref (.ptr 1 0))], h := vaH kk ks ko known fs (intC rs).flatten best some .exhausted [], m := [7] }) := by
  exact CW.cast (CW.symX (s' := { t := mkT 63 0 [(6, .ref (.ptr 1 0))], h := [.var [int kk, int ks, int ko], .var (List.flatten (intC rs)), .var (List.flatten (bestC best)), .var (List.flatten (boolC some)), .var [rowsD' fs], .var [int kk, int ks, int ko], .var [int known], .defd, .loop LoopState.exhausted none 0 (mkT 63 0 [(6, .ref (.ptr 1 0)), (7, .ref (.ptr 2 0)), (8, .ref (.ptr 3 0)), (15, D.fn (Fn.func 178) [] [.ref (.ptr 4 0), .ref (.ptr 5 0), .ref (.ptr 6 0)])]) { toList := [16] } (rfAsg (sub Tryz.f165 0)) (rfBody (sub Tryz.f165 0))], m := [7] }) (e := Exit.exit 4) pok [.st (.mask [6])] [.b false] (by kernel_rfl) (.c (show decide (1024 < 1024) = false from rfl) .n)) (by rfl) (by rfl)
def vlStep (s : VS) (rs : List Int) (n : Nat) : List Int := bif s.2.getD n false then (rs.set n (-1)).set n (maxV (s.1.getD n default).value) else rs.set n (-1)
def vlAll (s : VS) (rs : List Int) : List Int := (List.range 1024).foldl (vlStep s) rs
theorem vl_cw {kk ks ko known : Int} {fs : List (List Dp)} {rs : List Int} {best : List FactT} {some : List Bool} (ho : VS.ok (best, some)) (hr : rs.length = 1024) :
    CW Tryz.prog Γ0 [] false (.loop (sub Tryz.f165 2)) (vlS kk ks ko known fs rs best some 0) (.exit 4) { t := mkT 63 0 [(6, .ref (.ptr 1 0))], h := vaH kk ks ko known fs (intC (vlAll (best, some) rs)).flatten best some .exhausted [], m := [7] } := by
  have := CW.each (P := Tryz.prog) (Γ := Γ0) (h0 := []) (rd := false) (c := sub Tryz.f165 2) (σ := List Int) (ρ := Empty) (List.range 1024) (fun n rs => .inl (vlStep (best, some) rs n))
    (fun i rs => vlS kk ks ko known fs rs best some (i : Int)) (.exit 4) (fun rs => { t := mkT 63 0 [(6, .ref (.ptr 1 0))], h := vaH kk ks ko known fs (intC rs).flatten best some .exhausted [], m := [7] }) (fun r => r.elim)
    (fun _ rs => rs.length = 1024) (by simp) (fun r => r.elim) ?_ ?_ rs hr
  · rw [forL_fold (fun rs n => vlStep (best, some) rs n)] at this
    exact this
  · intro i n rs hn hs
    obtain ⟨hi, he⟩ := List.getElem?_eq_some_iff.1 hn
    simp only [List.length_range] at hi
    simp only [List.getElem_range] at he
    subst he
    have hb : best[i]? = .some (best.getD i default) := by
      rw [List.getD, List.getElem?_eq_getElem (by rw [ho.1]; omega)]; rfl
    have hc : some[i]? = .some (some.getD i false) := by
      rw [List.getD, List.getElem?_eq_getElem (by rw [ho.2]; omega)]; rfl
    refine ⟨fun s' h => by cases h; unfold vlStep; cases some.getD i false <;> simp [hs], ?_⟩
    have key := vl_b (kk := kk) (ks := ks) (ko := ko) (known := known) (fs := fs) (rs := rs) hb hc (by simp [inR]; omega) (by omega) (by simp; omega)
    rw [wrap_i64 (by omega) (by omega)] at key
    simp only [bodyFin]
    unfold vlStep
    cases hq : some.getD i false <;> rw [hq] at key <;> exact key
  · intro rs _
    simp only [List.length_range]
    exact vl_last
end Go.Vi
open Go Go.Proofs
namespace Go.Vi
set_option maxRecDepth 100000
set_option maxHeartbeats 4000000
theorem all_int {h : List Blk} {l : List Int} (hb : h[1]? = some (.var (intC l).flatten)) (hl : l.length = 1024) : loadD Tryz.prog h 288 (.ref (.ptr 1 0)) = some (.agg (intC l).flatten) :=
  load_all (by kernel_rfl) (by rw [flat_len (sz := 1) (intC l) (fun r hr => by obtain ⟨_, _, rfl⟩ := List.mem_map.1 hr; rfl)]; simp only [intC, List.length_map, hl]; kernel_rfl) hb
theorem agg_cells {l : List Int} : (D.agg (intC l).flatten).cells = some (intC l).flatten := by
  have : (intC l).flatten.all D.one = true := by
    rw [List.all_eq_true]
    intro d hd
    obtain ⟨r, hr, hd⟩ := List.mem_flatten.1 hd
    obtain ⟨n, _, rfl⟩ := List.mem_map.1 hr
    simp only [List.mem_singleton] at hd
    subst hd; rfl
  simp only [D.cells, this, if_true]
theorem st_int {h : List Blk} {l : List Int} (hb : h[1]? = some (.var (intC l).flatten)) (hl : l.length = 1024) : storeD Tryz.prog h 288 (.ref (.ptr 1 0)) (.agg (intC l).flatten) = some (h.set 1 (.var (intC l).flatten)) :=
  store_all agg_cells (by rw [flat_len (sz := 1) (intC l) (fun r hr => by obtain ⟨_, _, rfl⟩ := List.mem_map.1 hr; rfl)]; simp only [intC, List.length_map, hl]; kernel_rfl) rfl hb
theorem vlAll_len {s : VS} {rs : List Int} (h : rs.length = 1024) : (vlAll s rs).length = 1024 := by
  unfold vlAll
  generalize List.range 1024 = l
  induction l generalizing rs with
  | nil => exact h
  | cons n l ih => exact ih (by unfold vlStep; cases s.2.getD n false <;> simp [h])
noncomputable abbrev vaE (kk ks ko known : Int) (l : List FactT) (rs : List Int) (s : VS) : List Blk := vaH kk ks ko known (l.map FactT.row) (intC (vlAll (l.foldl (vaGo kk ks ko known) s) rs)).flatten (l.foldl (vaGo kk ks ko known) s).1 (l.foldl (vaGo kk ks ko known) s).2 .exhausted []
theorem va_whole {kk ks ko known : Int} {l : List FactT} (hl : Short l) {rs : List Int} {b0 : List FactT} {s0 : List Bool} (ho : VS.ok (b0, s0)) (hf : VS.ok (l.foldl (vaGo kk ks ko known) (b0, s0))) (hr : rs.length = 1024) (e1 : AllocIs Tryz.prog [.var [int kk, int ks, int ko]] 288 (.ref (.ptr 1 0)) [.var [int kk, int ks, int ko], .var (intC rs).flatten])
    (e2 : AllocIs Tryz.prog [.var [int kk, int ks, int ko], .var (intC rs).flatten] 328 (.ref (.ptr 2 0)) [.var [int kk, int ks, int ko], .var (intC rs).flatten, .var (bestC b0).flatten])
    (e3 : AllocIs Tryz.prog [.var [int kk, int ks, int ko], .var (intC rs).flatten, .var (bestC b0).flatten] 329 (.ref (.ptr 3 0)) [.var [int kk, int ks, int ko], .var (intC rs).flatten, .var (bestC b0).flatten, .var (boolC s0).flatten]) : (CW Tryz.prog Γ0 [] false (bodyC Tryz.f165) { t := mkT 63 0 [(0, rowsD' (l.map FactT.row)), (1, .agg [int kk, int ks, int ko]), (2, int known)], h := [], m := [] } .ret { t := mkT 63 0 [(6, .ref (.ptr 1 0))], h := vaE kk ks ko known l rs (b0, s0), m := [7] }) := by
  have hl0 := (@va_rf_cw (kk) (ks) (ko) (known) (l) (hl) (rs) (b0) (s0) (ho))
  have hl1 := (@vl_cw (kk) (ks) (ko) (known) (List.map FactT.row l) (rs) ((List.foldl (vaGo kk ks ko known) (b0, s0) l).fst) ((List.foldl (vaGo kk ks ko known) (b0, s0) l).snd) (hf) (hr))
  refine CW.cast (CW.symX (s' := { t := mkT 63 0 [(6, .ref (.ptr 1 0))], h := [.var [int kk, int ks, int ko], .var (List.flatten (intC (vlAll (List.foldl (vaGo kk ks ko known) (b0, s0) l) rs))), .var (List.flatten (bestC (List.foldl (vaGo kk ks ko known) (b0, s0) l).fst)), .var (List.flatten (boolC (List.foldl (vaGo kk ks ko known) (b0, s0) l).snd)), .var [rowsD' (List.map FactT.row l)], .var [int kk, int ks, int ko], .var [int known], .defd, .loop LoopState.exhausted none 0 (mkT 63 0 [(6, .ref (.ptr 1 0)), (7, .ref (.ptr 2 0)), (8, .ref (.ptr 3 0)), (15, D.fn (Fn.func 178) [] [.ref (.ptr 4 0), .ref (.ptr 5 0), .ref (.ptr 6 0)])]) { toList := [16] } (rfAsg (sub Tryz.f165 0)) (rfBody (sub Tryz.f165 0))], m := [7] }) (e := Exit.ret) pok [.st (.mask [6])] [.oh 6 (.ref (.ptr 1 0)) [.var [int kk, int ks, int ko], .var (List.flatten (intC rs))], .oh 7 (.ref (.ptr 2 0)) [.var [int kk, int ks, int ko], .var (List.flatten (intC rs)), .var (List.flatten (bestC b0))], .oh 8 (.ref (.ptr 3 0)) [.var [int kk, int ks, int ko], .var (List.flatten (intC rs)), .var (List.flatten (bestC b0)), .var (List.flatten (boolC s0))], .inl, .sum [6, 7, 8, 15] (Exit.normal) { t := mkT 63 0 [(6, .ref (.ptr 1 0)), (7, .ref (.ptr 2 0)), (8, .ref (.ptr 3 0)), (15, D.fn (Fn.func 178) [] [.ref (.ptr 4 0), .ref (.ptr 5 0), .ref (.ptr 6 0)])], h := [.var [int kk, int ks, int ko], .var (List.flatten (intC rs)), .var (List.flatten (bestC (List.foldl (vaGo kk ks ko known) (b0, s0) l).fst)), .var (List.flatten (boolC (List.foldl (vaGo kk ks ko known) (b0, s0) l).snd)), .var [rowsD' (List.map FactT.row l)], .var [int kk, int ks, int ko], .var [int known], .defd, .loop LoopState.exhausted none 0 (mkT 63 0 [(6, .ref (.ptr 1 0)), (7, .ref (.ptr 2 0)), (8, .ref (.ptr 3 0)), (15, D.fn (Fn.func 178) [] [.ref (.ptr 4 0), .ref (.ptr 5 0), .ref (.ptr 6 0)])]) { toList := [16] } (rfAsg (sub Tryz.f165 0)) (rfBody (sub Tryz.f165 0))], m := [7] }, .sum [6, 7, 8, 46] (Exit.exit 4) { t := mkT 63 0 [(6, .ref (.ptr 1 0))], h := [.var [int kk, int ks, int ko], .var (List.flatten (intC (vlAll ((List.foldl (vaGo kk ks ko known) (b0, s0) l).fst, (List.foldl (vaGo kk ks ko known) (b0, s0) l).snd) rs))), .var (List.flatten (bestC (List.foldl (vaGo kk ks ko known) (b0, s0) l).fst)), .var (List.flatten (boolC (List.foldl (vaGo kk ks ko known) (b0, s0) l).snd)), .var [rowsD' (List.map FactT.row l)], .var [int kk, int ks, int ko], .var [int known], .defd, .loop LoopState.exhausted none 0 (mkT 63 0 [(6, .ref (.ptr 1 0)), (7, .ref (.ptr 2 0)), (8, .ref (.ptr 3 0)), (15, D.fn (Fn.func 178) [] [.ref (.ptr 4 0), .ref (.ptr 5 0), .ref (.ptr 6 0)])]) { toList := [16] } (rfAsg (sub Tryz.f165 0)) (rfBody (sub Tryz.f165 0))], m := [7] }, .ov 62 (D.agg (List.flatten (intC (vlAll (List.foldl (vaGo kk ks ko known) (b0, s0) l) rs)))), .oh 10006 D.any (vaE kk ks ko known l rs (b0, s0))] (by kernel_rfl) (.c (show AllocIs Tryz.prog [.var [int kk, int ks, int ko]] 288 (.ref (.ptr 1 0)) [.var [int kk, int ks, int ko], .var (List.flatten (intC rs))] from ?_) (.c (show AllocIs Tryz.prog [.var [int kk, int ks, int ko], .var (List.flatten (intC rs))] 328 (.ref (.ptr 2 0)) [.var [int kk, int ks, int ko], .var (List.flatten (intC rs)), .var (List.flatten (bestC b0))] from ?_) (.c (show AllocIs Tryz.prog [.var [int kk, int ks, int ko], .var (List.flatten (intC rs)), .var (List.flatten (bestC b0))] 329 (.ref (.ptr 3 0)) [.var [int kk, int ks, int ko], .var (List.flatten (intC rs)), .var (List.flatten (bestC b0)), .var (List.flatten (boolC s0))] from ?_) (.c hl0 (.c hl1 (.c (show loadD Tryz.prog [.var [int kk, int ks, int ko], .var (List.flatten (intC (vlAll ((List.foldl (vaGo kk ks ko known) (b0, s0) l).fst, (List.foldl (vaGo kk ks ko known) (b0, s0) l).snd) rs))), .var (List.flatten (bestC (List.foldl (vaGo kk ks ko known) (b0, s0) l).fst)), .var (List.flatten (boolC (List.foldl (vaGo kk ks ko known) (b0, s0) l).snd)), .var [rowsD' (List.map FactT.row l)], .var [int kk, int ks, int ko], .var [int known], .defd, .loop LoopState.exhausted none 0 (mkT 63 0 [(6, .ref (.ptr 1 0)), (7, .ref (.ptr 2 0)), (8, .ref (.ptr 3 0)), (15, D.fn (Fn.func 178) [] [.ref (.ptr 4 0), .ref (.ptr 5 0), .ref (.ptr 6 0)])]) { toList := [16] } (rfAsg (sub Tryz.f165 0)) (rfBody (sub Tryz.f165 0))] 288 (.ref (.ptr 1 0)) = some (D.agg (List.flatten (intC (vlAll (List.foldl (vaGo kk ks ko known) (b0, s0) l) rs)))) from ?_) (.c (show storeD Tryz.prog [.var [int kk, int ks, int ko], .var (List.flatten (intC (vlAll ((List.foldl (vaGo kk ks ko known) (b0, s0) l).fst, (List.foldl (vaGo kk ks ko known) (b0, s0) l).snd) rs))), .var (List.flatten (bestC (List.foldl (vaGo kk ks ko known) (b0, s0) l).fst)), .var (List.flatten (boolC (List.foldl (vaGo kk ks ko known) (b0, s0) l).snd)), .var [rowsD' (List.map FactT.row l)], .var [int kk, int ks, int ko], .var [int known], .defd, .loop LoopState.exhausted none 0 (mkT 63 0 [(6, .ref (.ptr 1 0)), (7, .ref (.ptr 2 0)), (8, .ref (.ptr 3 0)), (15, D.fn (Fn.func 178) [] [.ref (.ptr 4 0), .ref (.ptr 5 0), .ref (.ptr 6 0)])]) { toList := [16] } (rfAsg (sub Tryz.f165 0)) (rfBody (sub Tryz.f165 0))] 288 (.ref (.ptr 1 0)) (D.agg (List.flatten (intC (vlAll (List.foldl (vaGo kk ks ko known) (b0, s0) l) rs)))) = some [.var [int kk, int ks, int ko], .var (List.flatten (intC (vlAll (List.foldl (vaGo kk ks ko known) (b0, s0) l) rs))), .var (List.flatten (bestC (List.foldl (vaGo kk ks ko known) (b0, s0) l).fst)), .var (List.flatten (boolC (List.foldl (vaGo kk ks ko known) (b0, s0) l).snd)), .var [rowsD' (List.map FactT.row l)], .var [int kk, int ks, int ko], .var [int known], .defd, .loop LoopState.exhausted none 0 (mkT 63 0 [(6, .ref (.ptr 1 0)), (7, .ref (.ptr 2 0)), (8, .ref (.ptr 3 0)), (15, D.fn (Fn.func 178) [] [.ref (.ptr 4 0), .ref (.ptr 5 0), .ref (.ptr 6 0)])]) { toList := [16] } (rfAsg (sub Tryz.f165 0)) (rfBody (sub Tryz.f165 0))] from ?_) .n)))))))) (by rfl) (by rfl) <;> (first | assumption | exact all_int rfl (vlAll_len hr) | exact st_int rfl (vlAll_len hr) | (simp_all; done))
theorem inn_agg {n : Nat} {l : List Int} : D.inn n (.agg (intC l).flatten) = true := inn_int (n := n) (l := l)
def vZ : VS := (List.replicate 1024 fz, List.replicate 1024 false)
theorem vZ_ok : vZ.ok := ⟨by simp [vZ], by simp [vZ]⟩
theorem vaFold_ok {kk ks ko known : Int} {l : List FactT} {s : VS} (h : s.ok) : (l.foldl (vaGo kk ks ko known) s).ok := by
  induction l generalizing s with
  | nil => exact h
  | cons f l ih => exact ih (vaGo_ok f h)
def valuesR (kk ks ko known : Int) (l : List FactT) : List Int := vlAll (l.foldl (vaGo kk ks ko known) vZ) (List.replicate 1024 0)
theorem valuesR_len {kk ks ko known : Int} {l : List FactT} : (valuesR kk ks ko known l).length = 1024 := vlAll_len (by simp)
theorem values_a {kk ks ko known : Int} {l : List FactT} (hl : Short l) : Ev Tryz.prog Γ0 165 [rowsD' (l.map FactT.row), .agg [int kk, int ks, int ko], int known] [] (.agg (intC (valuesR kk ks ko known l)).flatten) (shut [7] (vaE kk ks ko known l (List.replicate 1024 0) vZ)) := by
  have hw := va_whole (kk := kk) (ks := ks) (ko := ko) (known := known) hl (rs := List.replicate 1024 0) (b0 := vZ.1) (s0 := vZ.2) vZ_ok (vaFold_ok vZ_ok) (by simp) (by unfold AllocIs; kernel_rfl) (by unfold AllocIs vZ; kernel_rfl) (by unfold AllocIs vZ; kernel_rfl)
  refine Ev.of_cw (fn := Tryz.f165) (by kernel_rfl) (by kernel_rfl) hw ?_
  have hc : loadD Tryz.prog (shut [7] (vaE kk ks ko known l (List.replicate 1024 0) vZ)) 288 (.ref (.ptr 1 0)) = some (.agg (intC (valuesR kk ks ko known l)).flatten) := all_int rfl valuesR_len
  have hr : resultsD Tryz.prog (mkT 63 0 [(6, .ref (.ptr 1 0))]) (shut [7] (vaE kk ks ko known l (List.replicate 1024 0) vZ)) Tryz.f165.results.toList = some [.agg (intC (valuesR kk ks ko known l)).flatten] := by
    show (match resultD Tryz.prog (mkT 63 0 [(6, .ref (.ptr 1 0))]) (shut [7] (vaE kk ks ko known l (List.replicate 1024 0) vZ)) (.cell 6 288), some [] with
      | some d, some ds => some (d :: ds)
      | _, _ => none) = _
    have : resultD Tryz.prog (mkT 63 0 [(6, .ref (.ptr 1 0))]) (shut [7] (vaE kk ks ko known l (List.replicate 1024 0) vZ)) (.cell 6 288) = some (.agg (intC (valuesR kk ks ko known l)).flatten) := hc
    rw [this]
  simp only [finF, pre]
  rw [hr]
  rfl
theorem values_ev {kk ks ko known : Int} {l : List FactT} (hl : Short l) (h : List Blk) : Ev Tryz.prog Γ0 165 [rowsD' (l.map FactT.row), .agg [int kk, int ks, int ko], int known] h (.agg (intC (valuesR kk ks ko known l)).flatten) h :=
  Ev.frame0 rfl (by have := Ev.trim (h := []) (d := .agg (intC (valuesR kk ks ko known l)).flatten) inn_agg rfl (values_a (kk := kk) (ks := ks) (ko := ko) (known := known) hl); simpa using this) h
end Go.Vi
open Go Go.Proofs
namespace Go.Vi
set_option maxRecDepth 100000
def parseF : List Dp → Option FactT
  | [.v (.int .i64 a), .v (.int .i64 b), .v (.int .i64 c), .v (.int .i64 d), .v (.int .i64 e), .v (.int .i64 f), .v (.int .i64 g), .v (.int .i64 i)] => some ⟨a, b, c, d, e, f, g, i⟩
  | _ => none
def parseFs : List (List Dp) → Option (List FactT)
  | [] => some []
  | r :: rs => match parseF r, parseFs rs with
    | some x, some xs => some (x :: xs)
    | _, _ => none
theorem parseF_eq {r : List Dp} {f : FactT} (h : parseF r = some f) : r = f.row := by
  unfold parseF at h
  split at h
  · cases h; rfl
  · simp at h
theorem parseFs_eq : ∀ {rs : List (List Dp)} {fs : List FactT}, parseFs rs = some fs → rs = fs.map FactT.row
  | [], fs, h => by simp only [parseFs, Option.some.injEq] at h; subst h; rfl
  | r :: rs, fs, h => by
    simp only [parseFs] at h
    split at h
    · rename_i x xs h1 h2
      simp only [Option.some.injEq] at h
      subst h
      rw [parseF_eq h1, parseFs_eq h2]; rfl
    · simp at h
def vlAt (s : VS) (n : Nat) : Int := bif s.2.getD n false then maxV (s.1.getD n default).value else -1
def valuesF (kk ks ko known : Int) (l : List FactT) : List Int := (List.range 1024).map (vlAt (l.foldl (vaGo kk ks ko known) vZ))
theorem vlStep_get (s : VS) (rs : List Int) (h : rs.length = 1024) (n i : Nat) : (vlStep s rs n).getD i 0 = if i = n ∧ n < 1024 then vlAt s n else rs.getD i 0 := by
  unfold vlAt vlStep
  by_cases hn : n < 1024
  · by_cases hi : i = n
    · subst hi
      cases s.2.getD i false <;> simp [List.getD, h, hn]
    · have hi' : n ≠ i := fun e => hi e.symm
      cases s.2.getD n false <;> simp [List.getD, hi, hi']
  · cases s.2.getD n false <;> simp [List.getD, hn, List.set_eq_of_length_le (show rs.length ≤ n by omega)]
theorem vlStep_len (s : VS) (rs : List Int) (n : Nat) : (vlStep s rs n).length = rs.length := by
  unfold vlStep; cases s.2.getD n false <;> simp
theorem valuesF_eq (kk ks ko known : Int) (l : List FactT) : valuesR kk ks ko known l = valuesF kk ks ko known l := by
  unfold valuesR valuesF vlAll
  generalize l.foldl (vaGo kk ks ko known) vZ = s
  have hz : (List.replicate 1024 (0 : Int)).length = 1024 := List.length_replicate ..
  have hz2 : ∀ i, (List.replicate 1024 (0 : Int)).getD i 0 = 0 := fun i => by
    rw [List.getD, List.getElem?_replicate]; split <;> rfl
  revert hz hz2
  generalize List.replicate 1024 (0 : Int) = z
  intro hz hz2
  have key : ∀ m, m ≤ 1024 → ((List.range m).foldl (vlStep s) z).length = 1024 ∧ ∀ i, ((List.range m).foldl (vlStep s) z).getD i 0 = if i < m then vlAt s i else 0 := by
    intro m
    induction m with
    | zero => intro _; exact ⟨hz, fun i => by rw [if_neg (Nat.not_lt_zero i)]; exact hz2 i⟩
    | succ m ih =>
      intro hm
      obtain ⟨h1, h2⟩ := ih (by omega)
      rw [List.range_succ, List.foldl_append]
      simp only [List.foldl_cons, List.foldl_nil]
      refine ⟨by rw [vlStep_len]; exact h1, fun i => ?_⟩
      rw [vlStep_get s _ h1, h2]
      by_cases hi : i = m
      · subst hi
        rw [if_pos ⟨rfl, by omega⟩, if_pos (by omega)]
      · rw [if_neg (fun h => hi h.1)]
        by_cases hlt : i < m
        · rw [if_pos hlt, if_pos (by omega)]
        · rw [if_neg hlt, if_neg (by omega)]
  obtain ⟨h1, h2⟩ := key 1024 (Nat.le_refl _)
  refine List.ext_getElem (by rw [h1]; simp) fun i hi1 hi2 => ?_
  have := h2 i
  rw [List.getD, List.getElem?_eq_getElem hi1] at this
  rw [h1] at hi1
  rw [if_pos hi1] at this
  simpa using this
def shortB (n : Nat) : Bool := Nat.blt n 1000000
def wvGo (args : List D) (h : List Blk) : List D → Option CR
  | [.p (.sl rows), .agg [.p (.v (.int .i64 kk)), .p (.v (.int .i64 ks)), .p (.v (.int .i64 ko))], .p (.v (.int .i64 known))] => match parseFs rows with
    | some l => match shortB l.length with
      | true => some (.ret (.agg ((valuesF kk ks ko known l).map int)) h)
      | false => none
    | none => none
  | _ => none
def nilS : D → D
  | .p (.v (.slice none 0 0)) => .p (.sl [])
  | d => d
theorem nilS_rel {w : World} {av : Nat → Prop} {l : Loc} {h : List Blk} : ∀ {d : D} {y : Value}, Rel w av l h d y → Rel w av l h (nilS d) y := by
  intro d y r
  unfold nilS
  split
  · have hy : y = .slice none 0 0 := by simpa [Rel, RelP] using r
    subst hy
    exact .inl ⟨rfl, none, 0, rfl, fun _ => rfl⟩
  · exact r
theorem nilS_relL {w : World} {av : Nat → Prop} {l : Loc} {h : List Blk} : ∀ {ds : List D} {ys : List Value}, RelL w av l h ds ys → RelL w av l h (ds.map nilS) ys
  | [], [], _ => by simp [RelL]
  | d :: ds, y :: ys, r => by simp only [RelL, List.map_cons] at r ⊢; exact ⟨nilS_rel r.1, nilS_relL r.2⟩
def wv : FnF := fun f args h => match Nat.beq f 165 with
  | true => wvGo args h (frzL h (args.map nilS))
  | false => none
theorem flat_ints : ∀ l : List Int, flatL (l.map int) = true
  | [] => rfl
  | _ :: l => by simp [flatL, flatD, flat_ints l]
theorem intC_flat (l : List Int) : (intC l).flatten = l.map int := by
  unfold intC
  induction l with
  | nil => rfl
  | cons a l ih => simp only [List.map_cons, List.flatten_cons, ih]; rfl
theorem wv_ok {Γ : Glob} : FnOk Tryz.prog Γ wv := by
  intro f args h r hw
  unfold wv at hw
  split at hw
  · rename_i hf
    have hf := Nat.eq_of_beq_eq_true hf
    subst hf
    refine ⟨by kernel_rfl, ?_⟩
    unfold wvGo at hw
    split at hw
    · rename_i rows kk ks ko known hfr
      split at hw
      · rename_i l hl
        split at hw
        · rename_i hs
          cases hw
          suffices hq : VRes Tryz.prog Γ 165 (args.map nilS) h (.ret (.agg ((valuesF kk ks ko known l).map int)) h) from fun O w l vs R ra => hq O w l vs R (nilS_relL ra)
          refine VRes.of_ev (Ev.frzArgs (by rw [hfr]; rfl) (flat_ints _) ?_)
          rw [hfr, parseFs_eq hl]
          have hsh : Short l := by
            unfold shortB at hs
            have : l.length < 1000000 := by simpa [Nat.blt_eq] using hs
            unfold Short; omega
          have := values_ev (kk := kk) (ks := ks) (ko := ko) (known := known) hsh []
          rw [intC_flat, valuesF_eq] at this
          exact Ev.glob0 this
        · simp at hw
      · simp at hw
    · simp at hw
  · simp at hw
end Go.Vi
open Go Go.Proofs
namespace Go.Vi
set_option maxRecDepth 1000000
set_option maxHeartbeats 0
def s34mR : Memo := ⟨5, [], [], .ret (bool true) []⟩
theorem s34mR_ok : s34mR.Ok Tryz.prog Γ0 := Memo.okW_of pok wv_ok (ms := []) (by kernel_rfl) trivial
theorem sane34_ev (h : List Blk) : Ev Tryz.prog Γ0 5 [] h (bool true) h := Ev.frame0 rfl (Memo.call s34mR_ok rfl) h
end Go.Vi
