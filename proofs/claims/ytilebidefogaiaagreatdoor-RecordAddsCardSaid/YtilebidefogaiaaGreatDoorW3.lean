/- RecordAdds: part of the proof: contracts of the functions that the law reaches, and the law. No conditions beyond the given statement's own. -/
import Derived.Test.YtilebidefogaiaaGreatDoorW2
import Derived.Shelf.SlSortCmp.NoneTotal
import Derived.Sort.EveryDepth
import Derived.Ground.SlsfProg
open Go Go.Proofs
namespace Go.Vi
set_option maxRecDepth 100000
set_option maxHeartbeats 4000000
abbrev aQ (l : List FactT) : List (List D) := l.map fun f => f.row.map .p
abbrev aZ (l : List Bool) : List (List D) := l.map fun b => [bool b]
abbrev aI (l : List Int) : List (List D) := l.map fun n => [int n]
abbrev vaT : List D := mkT 63 0 [(6, .ref (.ptr 1 0)), (7, .ref (.ptr 2 0)), (8, .ref (.ptr 3 0)), (15, .fn (.func 178) [] [.ref (.ptr 4 0), .ref (.ptr 5 0), .ref (.ptr 6 0)])]
noncomputable abbrev vaL (st : LoopState) : Blk := .loop st none 0 vaT #[16] (ax (sub Tryz.f159 0)) (aj (sub Tryz.f159 0))
noncomputable abbrev vaH (kk ks ko known : Int) (fs : List (List Dp)) (rs : List D) (best : List FactT) (some : List Bool) (st : LoopState) (more : List Blk) : List Blk :=
 [.var [int kk, int ks, int ko], .var rs, .var (aQ best).flatten, .var (aZ some).flatten, .var [ab fs], .var [int kk, int ks, int ko], .var [int known], .defd, vaL st] ++ more
abbrev vaU : List D := mkT 63 0 [(6, .ref (.ptr 1 0)), (7, .ref (.ptr 2 0)), (8, .ref (.ptr 3 0)), (9, .ref (.ptr 10 0))]
theorem va_asg {kk ks ko known : Int} {fs : List (List Dp)} {rs : List D} {best : List FactT} {some : List Bool} {f : FactT} : (CW Tryz.prog Γ0 (vaH kk ks ko known fs rs best some .ready [.var (f.row.map .p)]) true (ax (sub Tryz.f159 0)) { t := e8 vaT [(16, ag f.row)], h := vaH kk ks ko known fs rs best some .ready [.var (f.row.map .p)], m := [] } .normal { t := vaU, h := vaH kk ks ko known fs rs best some .ready [.var (f.row.map .p), .var (f.row.map .p)], m := [] }) := by
 exact CW.cast (CW.symX (s' := { t := mkT 63 0 [(6, .ref (.ptr 1 0)), (7, .ref (.ptr 2 0)), (8, .ref (.ptr 3 0)), (9, .ref (.ptr 10 0))], h := [.var [int kk, int ks, int ko], .var rs, .var (List.flatten (aQ best)), .var (List.flatten (aZ some)), .var [ab fs], .var [int kk, int ks, int ko], .var [int known], .defd, .loop LoopState.ready none 0 (mkT 63 0 [(6, .ref (.ptr 1 0)), (7, .ref (.ptr 2 0)), (8, .ref (.ptr 3 0)), (15, D.fn (Fn.func 178) [] [.ref (.ptr 4 0), .ref (.ptr 5 0), .ref (.ptr 6 0)])]) { toList := [16] } (ax (sub Tryz.f159 0)) (aj (sub Tryz.f159 0)), .var [int f.kind, int f.sub, int f.obj, int f.value, int f.frm, int f.til, int f.known, int f.no], .var [int f.kind, int f.sub, int f.obj, int f.value, int f.frm, int f.til, int f.known, int f.no]], m := [] }) (e := Exit.normal) pok [.st (.mask [6, 7, 8, 9])] [] (by kernel_rfl) .n) (by rfl) (by rfl)
theorem va_some {h : List Blk} {off n : Nat} {l : List Bool} {b : Bool} (hb : h[3]? = some (.var (aZ l).flatten)) (hs : l[n]? = some b) (ho : off = n * 1) : bK Tryz.prog h 4 (.ref (.ptr 3 off)) = some (bool b) := by
 subst ho
 exact load_arr1 (sz := 1) (j := 0) (row := [bool b]) (by kernel_rfl) (by kernel_rfl) hb (fun r hr => by obtain ⟨_, _, rfl⟩ := List.mem_map.1 hr; rfl) (by simp [hs]) rfl
theorem va_best {h : List Blk} {off n : Nat} {l : List FactT} {g : FactT} (hb : h[2]? = some (.var (aQ l).flatten)) (hs : l[n]? = some g) (ho : off = n * 8) : bK Tryz.prog h 60 (.ref (.ptr 2 off)) = some (ag g.row) := by
 subst ho
 exact load_arr (sz := 8) (row := g.row.map .p) (by kernel_rfl) (by kernel_rfl) hb (by simp [FactT.row]) (by simp [hs])
theorem va_stB {h : List Blk} {off n : Nat} {l : List FactT} {f : FactT} (hb : h[2]? = some (.var (aQ l).flatten)) (hn : n < l.length) (ho : off = n * 8) : cm Tryz.prog h 60 (.ref (.ptr 2 off)) (ag f.row) = some (h.set 2 (.var (aQ (l.set n f)).flatten)) := by
 subst ho
 rw [store_arr (sz := 8) (new := f.row.map .p) rfl (by kernel_rfl) rfl hb (by simp [FactT.row]) (by simpa using hn), aQ, aQ, List.map_set]
theorem va_stS {h : List Blk} {off n : Nat} {l : List Bool} {b : Bool} (hb : h[3]? = some (.var (aZ l).flatten)) (hn : n < l.length) (ho : off = n * 1) : cm Tryz.prog h 4 (.ref (.ptr 3 off)) (bool b) = some (h.set 3 (.var (aZ (l.set n b)).flatten)) := by
 subst ho
 rw [store_arr (sz := 1) (new := [bool b]) rfl (by kernel_rfl) rfl hb (fun r hr => by obtain ⟨_, _, rfl⟩ := List.mem_map.1 hr; rfl) (by simpa using hn), aZ, aZ, List.map_set]
theorem lt_of_some {α : Type} {l : List α} {n : Nat} {a : α} (h : l[n]? = some a) : n < l.length := (List.getElem?_eq_some_iff.1 h).1
def vaHit (f g : FactT) (b : Bool) : Bool := !b || decide (orI (aD f.known g.known) (aD f.no g.no) ≥ 0)
noncomputable abbrev vaS (kk ks ko known : Int) (fs : List (List Dp)) (rs : List D) (best : List FactT) (some : List Bool) (f : FactT) (t : Int) : AS := { t := mkT 63 0 [(6, .ref (.ptr 1 0)), (7, .ref (.ptr 2 0)), (8, .ref (.ptr 3 0)), (9, .ref (.ptr 10 0)), (10, int t)], h := vaH kk ks ko known fs rs best some .busy [.var (f.row.map .p), .var (f.row.map .p)], m := [] }
noncomputable abbrev c8 (kk : Int) (ks : Int) (ko : Int) (known : Int) (fs : List (List Dp)) (rs : List D) (best : List FactT) (some : List Bool) (f : FactT) : List Blk := [.var [int kk, int ks, int ko], .var rs, .var (List.flatten (aQ best)), .var (List.flatten (aZ some)), .var [ab fs], .var [int kk, int ks, int ko], .var [int known], .defd, .loop LoopState.busy none 0 (mkT 63 0 [(6, .ref (.ptr 1 0)), (7, .ref (.ptr 2 0)), (8, .ref (.ptr 3 0)), (15, D.fn (Fn.func 178) [] [.ref (.ptr 4 0), .ref (.ptr 5 0), .ref (.ptr 6 0)])]) { toList := [16] } (ax (sub Tryz.f159 0)) (aj (sub Tryz.f159 0)), .var [int f.kind, int f.sub, int f.obj, int f.value, int f.frm, int f.til, int f.known, int f.no], .var [int f.kind, int f.sub, int f.obj, int f.value, int f.frm, int f.til, int f.known, int f.no]]
theorem va_b {kk ks ko known : Int} {fs : List (List Dp)} {rs : List D} {best b0 : List FactT} {some s0 : List Bool} {f g f0 : FactT} {n : Nat} {b : Bool} (hb : best[n]? = .some g) (hs : some[n]? = .some b) (hn : inR (n : Int) 1024 = true) (hlt : decide ((n : Int) < if false = true then if 1024 > f.til then 1024 else f.til else if 1024 < f.til then 1024 else f.til) = true) : (CW Tryz.prog Γ0 (vaH kk ks ko known fs rs b0 s0 .ready [.var (f0.row.map .p)]) true (sub Tryz.f159 1) (vaS kk ks ko known fs rs best some f (n : Int)) .normal (vaS kk ks ko known fs rs (bif vaHit f g b then best.set n f else best) (bif vaHit f g b then some.set n true else some) f (IntKind.i64.wrap ((n : Int) + 1)))) := by
 cases hc0 : !b || decide (orI (aD f.known g.known) (aD f.no g.no) ≥ 0)
 ·refine CW.cast (CW.symX (s' := { t := mkT 63 0 [(6, .ref (.ptr 1 0)), (7, .ref (.ptr 2 0)), (8, .ref (.ptr 3 0)), (9, .ref (.ptr 10 0)), (10, int (IntKind.wrap IntKind.i64 ((↑n : Int) + 1)))], h := (c8 kk ks ko known fs rs best some f), m := [] }) (e := Exit.normal) pok [.st (.mask [6, 7, 8, 9, 10])] [.b true, .ov 31 (bool b), .ov 37 (ag (FactT.row g)), .val (int (orI (aD f.known g.known) (aD f.no g.no))), .b false] (by kernel_rfl) (.c hlt (.c hn (.c (show bK Tryz.prog (c8 kk ks ko known fs rs best some f) 4 (.ref (.ptr 3 (0 + Int.toNat (↑n : Int) * 1))) = Option.some (bool b) from ?_) (.c (show (!!b) = true → inR (↑n : Int) 1024 = true from (fun hg => hn)) (.c (show (!!b) = true → bK Tryz.prog (c8 kk ks ko known fs rs best some f) 60 (evalD Γ0 (List.map dT (mkT 63 0 [(6, .ref (.ptr 1 0)), (7, .ref (.ptr 2 0)), (8, .ref (.ptr 3 0)), (9, .ref (.ptr 10 0)), (10, int (↑n : Int)), (21, int (↑n : Int)), (22, .ref (.ptr 10 4)), (23, .ref (.ptr 10 5)), (24, int f.til), (25, int (if false = true then if 1024 > f.til then 1024 else f.til else if 1024 < f.til then 1024 else f.til)), (26, bool (decide ((↑n : Int) < if false = true then if 1024 > f.til then 1024 else f.til else if 1024 < f.til then 1024 else f.til))), (29, int (↑n : Int)), (30, .ref (.ptr 3 (0 + Int.toNat (↑n : Int) * 1))), (31, bool b), (32, bool !b), (33, bool !b), (34, D.grd (!!b) (D.agg [int f.kind, int f.sub, int f.obj, int f.value, int f.frm, int f.til, int f.known, int f.no])), (35, D.grd (!!b) (int (↑n : Int))), (36, D.grd (!!b) (.ref (.ptr 2 (0 + Int.toNat (↑n : Int) * 8))))])) (Operand.tmp 36)) = Option.some (D.agg [int g.kind, int g.sub, int g.obj, int g.value, int g.frm, int g.til, int g.known, int g.no]) from (fun hg => ?_)) (.c (show (!!b) = true → Ev Tryz.prog Γ0 84 [D.agg [int f.kind, int f.sub, int f.obj, int f.value, int f.frm, int f.til, int f.known, int f.no], D.agg [int g.kind, int g.sub, int g.obj, int g.value, int g.frm, int g.til, int g.known, int g.no]] (c8 kk ks ko known fs rs best some f) (int (orI (aD f.known g.known) (aD f.no g.no))) (c8 kk ks ko known fs rs best some f) from (fun hg => (@fcmp_ev (f) (g) ((c8 kk ks ko known fs rs best some f))))) (.c hc0 .n)))))))) (by first | rfl | (have hh : vaHit f g b = true := hc0; simp only [hh, cond_true]; first | done | rfl) | (have hh : vaHit f g b = false := hc0; simp only [hh, cond_false]; first | done | rfl)) (by first | rfl | (have hh : vaHit f g b = true := hc0; simp only [hh, cond_true]; first | done | rfl) | (have hh : vaHit f g b = false := hc0; simp only [hh, cond_false]; first | done | rfl)) <;> (first | assumption | rfl | exact va_some rfl hs (by simp) | exact va_best rfl hb (by simp) | exact va_stB rfl (lt_of_some hb) (by simp) | exact va_stS rfl (lt_of_some hs) (by simp) | (simp_all; done))
 ·refine CW.cast (CW.symX (s' := { t := mkT 63 0 [(6, .ref (.ptr 1 0)), (7, .ref (.ptr 2 0)), (8, .ref (.ptr 3 0)), (9, .ref (.ptr 10 0)), (10, int (IntKind.wrap IntKind.i64 ((↑n : Int) + 1)))], h := [.var [int kk, int ks, int ko], .var rs, .var (List.flatten (aQ (List.set best n f))), .var (List.flatten (aZ (List.set some n true))), .var [ab fs], .var [int kk, int ks, int ko], .var [int known], .defd, .loop LoopState.busy none 0 (mkT 63 0 [(6, .ref (.ptr 1 0)), (7, .ref (.ptr 2 0)), (8, .ref (.ptr 3 0)), (15, D.fn (Fn.func 178) [] [.ref (.ptr 4 0), .ref (.ptr 5 0), .ref (.ptr 6 0)])]) { toList := [16] } (ax (sub Tryz.f159 0)) (aj (sub Tryz.f159 0)), .var [int f.kind, int f.sub, int f.obj, int f.value, int f.frm, int f.til, int f.known, int f.no], .var [int f.kind, int f.sub, int f.obj, int f.value, int f.frm, int f.til, int f.known, int f.no]], m := [] }) (e := Exit.normal) pok [.st (.mask [6, 7, 8, 9, 10])] [.b true, .ov 31 (bool b), .ov 37 (ag (FactT.row g)), .val (int (orI (aD f.known g.known) (aD f.no g.no))), .b true, .oh 10044 D.any (vaH kk ks ko known fs rs (List.set best n f) some LoopState.busy [.var (List.map D.p (FactT.row f)), .var (List.map D.p (FactT.row f))]), .oh 10045 D.any (vaH kk ks ko known fs rs (List.set best n f) (List.set some n true) LoopState.busy [.var (List.map D.p (FactT.row f)), .var (List.map D.p (FactT.row f))])] (by kernel_rfl) (.c hlt (.c hn (.c (show bK Tryz.prog (c8 kk ks ko known fs rs best some f) 4 (.ref (.ptr 3 (0 + Int.toNat (↑n : Int) * 1))) = Option.some (bool b) from ?_) (.c (show (!!b) = true → inR (↑n : Int) 1024 = true from (fun hg => hn)) (.c (show (!!b) = true → bK Tryz.prog (c8 kk ks ko known fs rs best some f) 60 (evalD Γ0 (List.map dT (mkT 63 0 [(6, .ref (.ptr 1 0)), (7, .ref (.ptr 2 0)), (8, .ref (.ptr 3 0)), (9, .ref (.ptr 10 0)), (10, int (↑n : Int)), (21, int (↑n : Int)), (22, .ref (.ptr 10 4)), (23, .ref (.ptr 10 5)), (24, int f.til), (25, int (if false = true then if 1024 > f.til then 1024 else f.til else if 1024 < f.til then 1024 else f.til)), (26, bool (decide ((↑n : Int) < if false = true then if 1024 > f.til then 1024 else f.til else if 1024 < f.til then 1024 else f.til))), (29, int (↑n : Int)), (30, .ref (.ptr 3 (0 + Int.toNat (↑n : Int) * 1))), (31, bool b), (32, bool !b), (33, bool !b), (34, D.grd (!!b) (D.agg [int f.kind, int f.sub, int f.obj, int f.value, int f.frm, int f.til, int f.known, int f.no])), (35, D.grd (!!b) (int (↑n : Int))), (36, D.grd (!!b) (.ref (.ptr 2 (0 + Int.toNat (↑n : Int) * 8))))])) (Operand.tmp 36)) = Option.some (D.agg [int g.kind, int g.sub, int g.obj, int g.value, int g.frm, int g.til, int g.known, int g.no]) from (fun hg => ?_)) (.c (show (!!b) = true → Ev Tryz.prog Γ0 84 [D.agg [int f.kind, int f.sub, int f.obj, int f.value, int f.frm, int f.til, int f.known, int f.no], D.agg [int g.kind, int g.sub, int g.obj, int g.value, int g.frm, int g.til, int g.known, int g.no]] (c8 kk ks ko known fs rs best some f) (int (orI (aD f.known g.known) (aD f.no g.no))) (c8 kk ks ko known fs rs best some f) from (fun hg => (@fcmp_ev (f) (g) ((c8 kk ks ko known fs rs best some f))))) (.c hc0 (.c hn (.c (show cm Tryz.prog (c8 kk ks ko known fs rs best some f) 60 (.ref (.ptr 2 (0 + Int.toNat (↑n : Int) * 8))) (D.agg [int f.kind, int f.sub, int f.obj, int f.value, int f.frm, int f.til, int f.known, int f.no]) = Option.some [.var [int kk, int ks, int ko], .var rs, .var (List.flatten (aQ (List.set best n f))), .var (List.flatten (aZ some)), .var [ab fs], .var [int kk, int ks, int ko], .var [int known], .defd, .loop LoopState.busy none 0 (mkT 63 0 [(6, .ref (.ptr 1 0)), (7, .ref (.ptr 2 0)), (8, .ref (.ptr 3 0)), (15, D.fn (Fn.func 178) [] [.ref (.ptr 4 0), .ref (.ptr 5 0), .ref (.ptr 6 0)])]) { toList := [16] } (ax (sub Tryz.f159 0)) (aj (sub Tryz.f159 0)), .var [int f.kind, int f.sub, int f.obj, int f.value, int f.frm, int f.til, int f.known, int f.no], .var [int f.kind, int f.sub, int f.obj, int f.value, int f.frm, int f.til, int f.known, int f.no]] from ?_) (.c hn (.c (show cm Tryz.prog [.var [int kk, int ks, int ko], .var rs, .var (List.flatten (aQ (List.set best n f))), .var (List.flatten (aZ some)), .var [ab fs], .var [int kk, int ks, int ko], .var [int known], .defd, .loop LoopState.busy none 0 (mkT 63 0 [(6, .ref (.ptr 1 0)), (7, .ref (.ptr 2 0)), (8, .ref (.ptr 3 0)), (15, D.fn (Fn.func 178) [] [.ref (.ptr 4 0), .ref (.ptr 5 0), .ref (.ptr 6 0)])]) { toList := [16] } (ax (sub Tryz.f159 0)) (aj (sub Tryz.f159 0)), .var [int f.kind, int f.sub, int f.obj, int f.value, int f.frm, int f.til, int f.known, int f.no], .var [int f.kind, int f.sub, int f.obj, int f.value, int f.frm, int f.til, int f.known, int f.no]] 4 (.ref (.ptr 3 (0 + Int.toNat (↑n : Int) * 1))) (evalD Γ0 (mkT 63 0 [(6, .ref (.ptr 1 0)), (7, .ref (.ptr 2 0)), (8, .ref (.ptr 3 0)), (9, .ref (.ptr 10 0)), (10, int (↑n : Int)), (21, int (↑n : Int)), (22, .ref (.ptr 10 4)), (23, .ref (.ptr 10 5)), (24, int f.til), (25, int (if false = true then if 1024 > f.til then 1024 else f.til else if 1024 < f.til then 1024 else f.til)), (26, bool (decide ((↑n : Int) < if false = true then if 1024 > f.til then 1024 else f.til else if 1024 < f.til then 1024 else f.til))), (29, int (↑n : Int)), (30, .ref (.ptr 3 (0 + Int.toNat (↑n : Int) * 1))), (31, bool b), (32, bool !b), (33, bool !b), (34, D.grd (!!b) (D.agg [int f.kind, int f.sub, int f.obj, int f.value, int f.frm, int f.til, int f.known, int f.no])), (35, D.grd (!!b) (int (↑n : Int))), (36, D.grd (!!b) (.ref (.ptr 2 (0 + Int.toNat (↑n : Int) * 8)))), (37, D.grd (!!b) (D.agg [int g.kind, int g.sub, int g.obj, int g.value, int g.frm, int g.til, int g.known, int g.no])), (38, D.grd (!!b) (int (orI (aD f.known g.known) (aD f.no g.no)))), (39, D.grd (!!b) (bool (decide (orI (aD f.known g.known) (aD f.no g.no) ≥ 0)))), (40, bool (!b || decide (orI (aD f.known g.known) (aD f.no g.no) ≥ 0))), (41, int (↑n : Int)), (42, int (↑n : Int)), (43, D.agg [int f.kind, int f.sub, int f.obj, int f.value, int f.frm, int f.til, int f.known, int f.no]), (44, .ref (.ptr 2 (0 + Int.toNat (↑n : Int) * 8))), (45, .ref (.ptr 3 (0 + Int.toNat (↑n : Int) * 1)))]) (Operand.const (Value.bool true))) = Option.some [.var [int kk, int ks, int ko], .var rs, .var (List.flatten (aQ (List.set best n f))), .var (List.flatten (aZ (List.set some n true))), .var [ab fs], .var [int kk, int ks, int ko], .var [int known], .defd, .loop LoopState.busy none 0 (mkT 63 0 [(6, .ref (.ptr 1 0)), (7, .ref (.ptr 2 0)), (8, .ref (.ptr 3 0)), (15, D.fn (Fn.func 178) [] [.ref (.ptr 4 0), .ref (.ptr 5 0), .ref (.ptr 6 0)])]) { toList := [16] } (ax (sub Tryz.f159 0)) (aj (sub Tryz.f159 0)), .var [int f.kind, int f.sub, int f.obj, int f.value, int f.frm, int f.til, int f.known, int f.no], .var [int f.kind, int f.sub, int f.obj, int f.value, int f.frm, int f.til, int f.known, int f.no]] from ?_) .n)))))))))))) (by first | rfl | (have hh : vaHit f g b = true := hc0; simp only [hh, cond_true]; first | done | rfl) | (have hh : vaHit f g b = false := hc0; simp only [hh, cond_false]; first | done | rfl)) (by first | rfl | (have hh : vaHit f g b = true := hc0; simp only [hh, cond_true]; first | done | rfl) | (have hh : vaHit f g b = false := hc0; simp only [hh, cond_false]; first | done | rfl)) <;> (first | assumption | rfl | exact va_some rfl hs (by simp) | exact va_best rfl hb (by simp) | exact va_stB rfl (lt_of_some hb) (by simp) | exact va_stS rfl (lt_of_some hs) (by simp) | (simp_all; done))
theorem va_l {kk ks ko known : Int} {fs : List (List Dp)} {rs : List D} {best b0 : List FactT} {some s0 : List Bool} {f f0 : FactT} {x : Int} (hlt : decide (x < if false = true then if 1024 > f.til then 1024 else f.til else if 1024 < f.til then 1024 else f.til) = false) : (CW Tryz.prog Γ0 (vaH kk ks ko known fs rs b0 s0 .ready [.var (f0.row.map .p)]) true (sub Tryz.f159 1) (vaS kk ks ko known fs rs best some f x) (.exit 2) { t := mkT 63 0 [], h := vaH kk ks ko known fs rs best some .busy [.var (f.row.map .p), .var (f.row.map .p)], m := [] }) := by
 exact CW.cast (CW.symX (s' := { t := mkT 63 0 [], h := [.var [int kk, int ks, int ko], .var rs, .var (List.flatten (aQ best)), .var (List.flatten (aZ some)), .var [ab fs], .var [int kk, int ks, int ko], .var [int known], .defd, .loop LoopState.busy none 0 (mkT 63 0 [(6, .ref (.ptr 1 0)), (7, .ref (.ptr 2 0)), (8, .ref (.ptr 3 0)), (15, D.fn (Fn.func 178) [] [.ref (.ptr 4 0), .ref (.ptr 5 0), .ref (.ptr 6 0)])]) { toList := [16] } (ax (sub Tryz.f159 0)) (aj (sub Tryz.f159 0)), .var [int f.kind, int f.sub, int f.obj, int f.value, int f.frm, int f.til, int f.known, int f.no], .var [int f.kind, int f.sub, int f.obj, int f.value, int f.frm, int f.til, int f.known, int f.no]], m := [] }) (e := Exit.exit 2) pok [.st (.mask [])] [.b false] (by kernel_rfl) (.c hlt .n)) (by rfl) (by rfl)
abbrev VS := List FactT × List Bool
def VS.ok (s : VS) : Prop := s.1.length = 1024 ∧ s.2.length = 1024
def vaHi (f : FactT) : Int := if f.til < 1024 then f.til else 1024
def fb (f : FactT) (s : VS) (n : Nat) : VS := bif vaHit f (s.1.getD n default) (s.2.getD n false) then (s.1.set n f, s.2.set n true) else s
def vaIn (f : FactT) (x : Int) (s : VS) : VS := (List.range' x.toNat (vaHi f - x).toNat).foldl (fb f) s
theorem vaStep_ok {f : FactT} {s : VS} (n : Nat) (h : s.ok) : (fb f s n).ok := by
 unfold fb
 cases vaHit f (s.1.getD n default) (s.2.getD n false)
 ·exact h
 ·exact ⟨by simpa using h.1, by simpa using h.2⟩
theorem vaHi_eq (f : FactT) : (if false = true then if 1024 > f.til then 1024 else f.til else if 1024 < f.til then 1024 else f.til) = vaHi f := by
 unfold vaHi; simp; split <;> split <;> omega
theorem va_cw {kk ks ko known : Int} {fs : List (List Dp)} {rs : List D} {best b0 : List FactT} {some s0 : List Bool} {f f0 : FactT} {x : Int} (hx : 0 ≤ x) (ho : VS.ok (best, some)) :
  CW Tryz.prog Γ0 (vaH kk ks ko known fs rs b0 s0 .ready [.var (f0.row.map .p)]) true (.loop (sub Tryz.f159 1)) (vaS kk ks ko known fs rs best some f x) (.exit 2) { t := mkT 63 0 [], h := vaH kk ks ko known fs rs (vaIn f x (best, some)).1 (vaIn f x (best, some)).2 .busy [.var (f.row.map .p), .var (f.row.map .p)], m := [] } := by
 have hx' : ((x.toNat : Nat) : Int) = x := by omega
 have hh : vaHi f ≤ 1024 := by unfold vaHi; split <;> omega
 have := CW.each (P := Tryz.prog) (Γ := Γ0) (h0 := vaH kk ks ko known fs rs b0 s0 .ready [.var (f0.row.map .p)]) (rd := true) (c := sub Tryz.f159 1) (σ := VS) (ρ := Empty) (List.range' x.toNat (vaHi f - x).toNat) (fun n s => .inl (fb f s n))
  (fun i s => vaS kk ks ko known fs rs s.1 s.2 f (x + (i : Int))) (.exit 2) (fun s => { t := mkT 63 0 [], h := vaH kk ks ko known fs rs s.1 s.2 .busy [.var (f.row.map .p), .var (f.row.map .p)], m := [] }) (fun r => r.elim)
  (fun _ s => s.ok) (by simp) (fun r => r.elim) ?_ ?_ (best, some) ho
 ·rw [br (fun s n => fb f s n)] at this
  simpa [cw, vaIn] using this
 ·intro i n s hn hs
  obtain ⟨hi, he⟩ := List.getElem?_eq_some_iff.1 hn
  simp only [List.length_range'] at hi
  simp only [List.getElem_range', Nat.one_mul] at he
  have hlt : (n : Int) < vaHi f := by omega
  have hb : s.1[n]? = .some (s.1.getD n default) := by
   rw [List.getD, List.getElem?_eq_getElem (by rw [hs.1]; omega)]; rfl
  have hc : s.2[n]? = .some (s.2.getD n false) := by
   rw [List.getD, List.getElem?_eq_getElem (by rw [hs.2]; omega)]; rfl
  refine ⟨fun s' h => by cases h; exact vaStep_ok n hs, ?_⟩
  have key := va_b (kk := kk) (ks := ks) (ko := ko) (known := known) (fs := fs) (rs := rs) (b0 := b0) (s0 := s0) (f := f) (f0 := f0) hb hc (by simp [inR]; omega) (by rw [vaHi_eq]; simpa using hlt)
  rw [wrap_i64 (by omega) (by omega)] at key
  have e1 : x + (i : Int) = (n : Int) := by omega
  have e2 : x + ((i + 1 : Nat) : Int) = (n : Int) + 1 := by omega
  simp only [ae, e1, e2]
  unfold fb
  cases hq : vaHit f (s.1.getD n default) (s.2.getD n false) <;> rw [hq] at key <;> exact key
 ·intro s _
  refine va_l ?_
  rw [vaHi_eq]
  simp
  omega
theorem va_body {kk ks ko known : Int} {fs : List (List Dp)} {rs : List D} {best : List FactT} {some : List Bool} (ho : VS.ok (best, some)) {f : FactT} : (CW Tryz.prog Γ0 (vaH kk ks ko known fs rs best some .ready [.var (f.row.map .p)]) true (aj (sub Tryz.f159 0)) { t := vaU, h := vaH kk ks ko known fs rs best some .busy [.var (f.row.map .p), .var (f.row.map .p)], m := [] } .normal { t := mkT 63 0 [], h := vaH kk ks ko known fs rs (vaIn f (if true = true then if f.frm > 0 then f.frm else 0 else if f.frm < 0 then f.frm else 0) (best, some)).1 (vaIn f (if true = true then if f.frm > 0 then f.frm else 0 else if f.frm < 0 then f.frm else 0) (best, some)).2 .busy [.var (f.row.map .p), .var (f.row.map .p)], m := [] }) := by
 have hl0 := (@va_cw (kk) (ks) (ko) (known) (fs) (rs) (best) (best) (some) (some) (f) (f) (if true = true then if f.frm > 0 then f.frm else 0 else if f.frm < 0 then f.frm else 0) (by first | assumption | (simp; split <;> omega) | (simp; done)) (ho))
 exact CW.cast (CW.symX (s' := { t := mkT 63 0 [], h := [.var [int kk, int ks, int ko], .var rs, .var (List.flatten (aQ (vaIn f (if true = true then if f.frm > 0 then f.frm else 0 else if f.frm < 0 then f.frm else 0) (best, some)).fst)), .var (List.flatten (aZ (vaIn f (if true = true then if f.frm > 0 then f.frm else 0 else if f.frm < 0 then f.frm else 0) (best, some)).snd)), .var [ab fs], .var [int kk, int ks, int ko], .var [int known], .defd, .loop LoopState.busy none 0 (mkT 63 0 [(6, .ref (.ptr 1 0)), (7, .ref (.ptr 2 0)), (8, .ref (.ptr 3 0)), (15, D.fn (Fn.func 178) [] [.ref (.ptr 4 0), .ref (.ptr 5 0), .ref (.ptr 6 0)])]) { toList := [16] } (ax (sub Tryz.f159 0)) (aj (sub Tryz.f159 0)), .var [int f.kind, int f.sub, int f.obj, int f.value, int f.frm, int f.til, int f.known, int f.no], .var [int f.kind, int f.sub, int f.obj, int f.value, int f.frm, int f.til, int f.known, int f.no]], m := [] }) (e := Exit.normal) pok [.st (.mask [])] [.sum [6, 7, 8, 9, 10] (Exit.exit 2) { t := mkT 63 0 [], h := [.var [int kk, int ks, int ko], .var rs, .var (List.flatten (aQ (vaIn f (if true = true then if f.frm > 0 then f.frm else 0 else if f.frm < 0 then f.frm else 0) (best, some)).fst)), .var (List.flatten (aZ (vaIn f (if true = true then if f.frm > 0 then f.frm else 0 else if f.frm < 0 then f.frm else 0) (best, some)).snd)), .var [ab fs], .var [int kk, int ks, int ko], .var [int known], .defd, .loop LoopState.busy none 0 (mkT 63 0 [(6, .ref (.ptr 1 0)), (7, .ref (.ptr 2 0)), (8, .ref (.ptr 3 0)), (15, D.fn (Fn.func 178) [] [.ref (.ptr 4 0), .ref (.ptr 5 0), .ref (.ptr 6 0)])]) { toList := [16] } (ax (sub Tryz.f159 0)) (aj (sub Tryz.f159 0)), .var [int f.kind, int f.sub, int f.obj, int f.value, int f.frm, int f.til, int f.known, int f.no], .var [int f.kind, int f.sub, int f.obj, int f.value, int f.frm, int f.til, int f.known, int f.no]], m := [] }] (by kernel_rfl) (.c hl0 .n)) (by rfl) (by rfl)
end Go.Vi
open Go Go.Proofs
namespace Go.Vi
set_option maxRecDepth 100000
set_option maxHeartbeats 4000000
def vaLo (f : FactT) : Int := if true = true then if f.frm > 0 then f.frm else 0 else if f.frm < 0 then f.frm else 0
def vaF (f : FactT) (s : VS) : VS := vaIn f (vaLo f) s
theorem vaIn_ok {f : FactT} {x : Int} {s : VS} (h : s.ok) : (vaIn f x s).ok := by
 unfold vaIn
 generalize List.range' x.toNat (vaHi f - x).toNat = l
 induction l generalizing s with
 | nil => exact h
 | cons n l ih => exact ih (vaStep_ok n h)
theorem vaIv_ev {kk ks ko known : Int} {fs : List (List Dp)} {rs : List D} {best : List FactT} {some : List Bool} (ho : VS.ok (best, some)) {f : FactT} : Iv Tryz.prog Γ0 (.ref (.yl 8)) [ag f.row] (vaH kk ks ko known fs rs best some .ready [.var (f.row.map .p)]) (bool true) (vaH kk ks ko known fs rs (vaF f (best, some)).1 (vaF f (best, some)).2 .ready [.var (f.row.map .p), .var (f.row.map .p)]) :=
 Iv.round (h1 := vaH kk ks ko known fs rs best some .ready [.var (f.row.map .p), .var (f.row.map .p)]) rfl rfl va_asg rfl (va_body ho) rfl
def bS (kk ks ko known : Int) (s : VS) (f : FactT) : VS := bif ofIs kk ks ko known f then vaF f s else s
theorem innL_flat {n : Nat} : ∀ {es : List (List D)}, (∀ r ∈ es, D.innL n r = true) → D.innL n es.flatten = true
 | [], _ => rfl
 | e :: es, h => by
  have key : ∀ (xs ys : List D), D.innL n xs = true → D.innL n ys = true → D.innL n (xs ++ ys) = true := by
   intro xs ys h1 h2
   induction xs with
   | nil => exact h2
   | cons x xs ih => simp only [D.innL, Bool.and_eq_true, List.cons_append] at h1 ⊢; exact ⟨h1.1, ih h1.2⟩
  rw [List.flatten_cons]
  exact key _ _ (h e (by simp)) (innL_flat fun r hr => h r (by simp [hr]))
theorem inn_best {n : Nat} {l : List FactT} : Blk.inn n (.var (aQ l).flatten) = true := innL_flat fun r hr => by obtain ⟨_, _, rfl⟩ := List.mem_map.1 hr; rfl
theorem inn_bool {n : Nat} {l : List Bool} : Blk.inn n (.var (aZ l).flatten) = true := innL_flat fun r hr => by obtain ⟨_, _, rfl⟩ := List.mem_map.1 hr; rfl
theorem inn_int {n : Nat} {l : List Int} : Blk.inn n (.var (aI l).flatten) = true := innL_flat fun r hr => by obtain ⟨_, _, rfl⟩ := List.mem_map.1 hr; rfl
theorem vo_body {kk ks ko known : Int} {fs : List (List Dp)} {rs : List Int} {best b0 : List FactT} {some s0 : List Bool} (ho : VS.ok (best, some)) {f : FactT} {i : Nat} (hr : bw (i : Int) fs f.row 8) (hlt : decide ((i : Int) < (fs.length : Int)) = true) (hw : IntKind.i64.wrap ((i : Int) + 1) = ((i + 1 : Nat) : Int)) : (CW Tryz.prog Γ0 (vaH kk ks ko known fs (aI rs).flatten b0 s0 .ready []) false (sub Tryz.f178 0) { t := ofT fs i, h := vaH kk ks ko known fs (aI rs).flatten best some .ready [], m := [] } .normal { t := ofT fs ((i + 1 : Nat) : Int), h := vaH kk ks ko known fs (aI rs).flatten (bS kk ks ko known (best, some) f).1 (bS kk ks ko known (best, some) f).2 .ready [], m := [] }) := by
 cases hc0 : f.kind == kk && (f.sub == ks && (f.obj == ko && true))
 ·refine CW.cast (CW.symX (s' := { t := mkT 30 0 [(0, .ref (.yl 8)), (1, .ref (.ptr 4 0)), (2, .ref (.ptr 5 0)), (3, .ref (.ptr 6 0)), (7, ab fs), (8, int (↑(List.length fs) : Int)), (9, int (IntKind.wrap IntKind.i64 ((↑i : Int) + 1)))], h := [.var [int kk, int ks, int ko], .var (List.flatten (aI rs)), .var (List.flatten (aQ best)), .var (List.flatten (aZ some)), .var [ab fs], .var [int kk, int ks, int ko], .var [int known], .defd, .loop LoopState.ready none 0 (mkT 63 0 [(6, .ref (.ptr 1 0)), (7, .ref (.ptr 2 0)), (8, .ref (.ptr 3 0)), (15, D.fn (Fn.func 178) [] [.ref (.ptr 4 0), .ref (.ptr 5 0), .ref (.ptr 6 0)])]) { toList := [16] } (ax (sub Tryz.f159 0)) (aj (sub Tryz.f159 0))], m := [] }) (e := Exit.normal) pok [.st (.mask [0, 1, 2, 3, 7, 8, 9]), .st (.trimV 9)] [.b true, .row [vi f.kind, vi f.sub, vi f.obj, vi f.value, vi f.frm, vi f.til, vi f.known, vi f.no], .g false, .g false, .g false, .g false, .ov 22 (bool false), .g false, .g false, .g false, .g false, .ov 28 (bool false), .b false] (by kernel_rfl) (.c hlt (.c hr (.c (show ((f.kind == kk && (f.sub == ks && (f.obj == ko && true))) == true) = false from (by rw [hc0]; rfl)) (.c (show ((f.kind == kk && (f.sub == ks && (f.obj == ko && true))) == true) = false from (by rw [hc0]; rfl)) (.c (show ((f.kind == kk && (f.sub == ks && (f.obj == ko && true))) == true) = false from (by rw [hc0]; rfl)) (.c (show ((f.kind == kk && (f.sub == ks && (f.obj == ko && true))) == true) = false from (by rw [hc0]; rfl)) (.c (show aB (bool (f.kind == kk && (f.sub == ks && (f.obj == ko && true)))) (D.p (Dp.v (Value.tuple { toList := [] }))) (bool false) (bool false) from (aU hc0 rfl)) (.c (show (false == true) = false from rfl) (.c (show (false == true) = false from rfl) (.c (show (false == true) = false from rfl) (.c (show (false == true) = false from rfl) (.c (show aB (bool false) (D.p (Dp.v (Value.tuple { toList := [] }))) (bool false) (bool false) from (aU rfl rfl)) (.c (show false = false from rfl) (.c (show Blk.inn 9 (.var [int kk, int ks, int ko]) = true from rfl) (.c (show Blk.inn 9 (.var (List.flatten (aI rs))) = true from ?_) (.c (show Blk.inn 9 (.var (List.flatten (aQ best))) = true from ?_) (.c (show Blk.inn 9 (.var (List.flatten (aZ some))) = true from ?_) (.c (show Blk.inn 9 (.var [ab fs]) = true from rfl) (.c (show Blk.inn 9 (.var [int kk, int ks, int ko]) = true from rfl) (.c (show Blk.inn 9 (.var [int known]) = true from rfl) (.c (show Blk.inn 9 .defd = true from rfl) (.c (show Blk.inn 9 (.loop LoopState.ready none 0 (mkT 63 0 [(6, .ref (.ptr 1 0)), (7, .ref (.ptr 2 0)), (8, .ref (.ptr 3 0)), (15, D.fn (Fn.func 178) [] [.ref (.ptr 4 0), .ref (.ptr 5 0), .ref (.ptr 6 0)])]) { toList := [16] } (ax (sub Tryz.f159 0)) (aj (sub Tryz.f159 0))) = true from rfl) .n))))))))))))))))))))))) (by first | rfl | (simp only [hw, bS, ofIs, dM, hc0, Bool.and_false, Bool.false_and, Bool.true_and, Bool.and_self, cond_true, cond_false]; rfl)) (by first | rfl | (simp only [hw, bS, ofIs, dM, hc0, Bool.false_and, cond_false]; rfl)) <;> (first | assumption | rfl | exact inn_best | exact inn_bool | exact inn_int | (simp_all; done))
 ·cases hc1 : decide (f.known ≤ known)
  ·refine CW.cast (CW.symX (s' := { t := mkT 30 0 [(0, .ref (.yl 8)), (1, .ref (.ptr 4 0)), (2, .ref (.ptr 5 0)), (3, .ref (.ptr 6 0)), (7, ab fs), (8, int (↑(List.length fs) : Int)), (9, int (IntKind.wrap IntKind.i64 ((↑i : Int) + 1)))], h := [.var [int kk, int ks, int ko], .var (List.flatten (aI rs)), .var (List.flatten (aQ best)), .var (List.flatten (aZ some)), .var [ab fs], .var [int kk, int ks, int ko], .var [int known], .defd, .loop LoopState.ready none 0 (mkT 63 0 [(6, .ref (.ptr 1 0)), (7, .ref (.ptr 2 0)), (8, .ref (.ptr 3 0)), (15, D.fn (Fn.func 178) [] [.ref (.ptr 4 0), .ref (.ptr 5 0), .ref (.ptr 6 0)])]) { toList := [16] } (ax (sub Tryz.f159 0)) (aj (sub Tryz.f159 0))], m := [] }) (e := Exit.normal) pok [.st (.mask [0, 1, 2, 3, 7, 8, 9]), .st (.trimV 9)] [.b true, .row [vi f.kind, vi f.sub, vi f.obj, vi f.value, vi f.frm, vi f.til, vi f.known, vi f.no], .g true, .g true, .g true, .g true, .ov 22 (bool (decide (f.known ≤ known))), .g false, .g false, .g false, .g false, .ov 28 (bool false), .b false] (by kernel_rfl) (.c hlt (.c hr (.c (show ((f.kind == kk && (f.sub == ks && (f.obj == ko && true))) == true) = true from (by rw [hc0]; rfl)) (.c (show ((f.kind == kk && (f.sub == ks && (f.obj == ko && true))) == true) = true from (by rw [hc0]; rfl)) (.c (show ((f.kind == kk && (f.sub == ks && (f.obj == ko && true))) == true) = true from (by rw [hc0]; rfl)) (.c (show ((f.kind == kk && (f.sub == ks && (f.obj == ko && true))) == true) = true from (by rw [hc0]; rfl)) (.c (show aB (bool (f.kind == kk && (f.sub == ks && (f.obj == ko && true)))) (bool (decide (f.known ≤ known))) (bool false) (bool (decide (f.known ≤ known))) from (aS hc0 rfl)) (.c (show (decide (f.known ≤ known) == true) = false from (by rw [hc1]; rfl)) (.c (show (decide (f.known ≤ known) == true) = false from (by rw [hc1]; rfl)) (.c (show (decide (f.known ≤ known) == true) = false from (by rw [hc1]; rfl)) (.c (show (decide (f.known ≤ known) == true) = false from (by rw [hc1]; rfl)) (.c (show aB (bool (decide (f.known ≤ known))) (D.p (Dp.v (Value.tuple { toList := [] }))) (bool false) (bool false) from (aU hc1 rfl)) (.c (show false = false from rfl) (.c (show Blk.inn 9 (.var [int kk, int ks, int ko]) = true from rfl) (.c (show Blk.inn 9 (.var (List.flatten (aI rs))) = true from ?_) (.c (show Blk.inn 9 (.var (List.flatten (aQ best))) = true from ?_) (.c (show Blk.inn 9 (.var (List.flatten (aZ some))) = true from ?_) (.c (show Blk.inn 9 (.var [ab fs]) = true from rfl) (.c (show Blk.inn 9 (.var [int kk, int ks, int ko]) = true from rfl) (.c (show Blk.inn 9 (.var [int known]) = true from rfl) (.c (show Blk.inn 9 .defd = true from rfl) (.c (show Blk.inn 9 (.loop LoopState.ready none 0 (mkT 63 0 [(6, .ref (.ptr 1 0)), (7, .ref (.ptr 2 0)), (8, .ref (.ptr 3 0)), (15, D.fn (Fn.func 178) [] [.ref (.ptr 4 0), .ref (.ptr 5 0), .ref (.ptr 6 0)])]) { toList := [16] } (ax (sub Tryz.f159 0)) (aj (sub Tryz.f159 0))) = true from rfl) .n))))))))))))))))))))))) (by first | rfl | (simp only [hw, bS, ofIs, dM, hc0, hc1, Bool.and_false, Bool.false_and, Bool.true_and, Bool.and_self, cond_true, cond_false]; rfl)) (by first | rfl | (simp only [hw, bS, ofIs, dM, hc0, hc1, Bool.and_false, cond_false]; rfl)) <;> (first | assumption | rfl | exact inn_best | exact inn_bool | exact inn_int | (simp_all; done))
  ·refine CW.cast (CW.symX (s' := { t := mkT 30 0 [(0, .ref (.yl 8)), (1, .ref (.ptr 4 0)), (2, .ref (.ptr 5 0)), (3, .ref (.ptr 6 0)), (7, ab fs), (8, int (↑(List.length fs) : Int)), (9, int (IntKind.wrap IntKind.i64 ((↑i : Int) + 1)))], h := [.var [int kk, int ks, int ko], .var (List.flatten (aI rs)), .var (List.flatten (aQ (vaF f (best, some)).fst)), .var (List.flatten (aZ (vaF f (best, some)).snd)), .var [ab fs], .var [int kk, int ks, int ko], .var [int known], .defd, .loop LoopState.ready none 0 (mkT 63 0 [(6, .ref (.ptr 1 0)), (7, .ref (.ptr 2 0)), (8, .ref (.ptr 3 0)), (15, D.fn (Fn.func 178) [] [.ref (.ptr 4 0), .ref (.ptr 5 0), .ref (.ptr 6 0)])]) { toList := [16] } (ax (sub Tryz.f159 0)) (aj (sub Tryz.f159 0))], m := [] }) (e := Exit.normal) pok [.st (.mask [0, 1, 2, 3, 7, 8, 9]), .st (.trimV 9)] [.b true, .row [vi f.kind, vi f.sub, vi f.obj, vi f.value, vi f.frm, vi f.til, vi f.known, vi f.no], .g true, .g true, .g true, .g true, .ov 22 (bool (decide (f.known ≤ known))), .g true, .g true, .g true, .inv (bool true) [.var [int kk, int ks, int ko], .var (List.flatten (aI rs)), .var (List.flatten (aQ (vaF f (best, some)).fst)), .var (List.flatten (aZ (vaF f (best, some)).snd)), .var [ab fs], .var [int kk, int ks, int ko], .var [int known], .defd, .loop LoopState.ready none 0 (mkT 63 0 [(6, .ref (.ptr 1 0)), (7, .ref (.ptr 2 0)), (8, .ref (.ptr 3 0)), (15, D.fn (Fn.func 178) [] [.ref (.ptr 4 0), .ref (.ptr 5 0), .ref (.ptr 6 0)])]) { toList := [16] } (ax (sub Tryz.f159 0)) (aj (sub Tryz.f159 0)), .var [int f.kind, int f.sub, int f.obj, int f.value, int f.frm, int f.til, int f.known, int f.no], .var [int f.kind, int f.sub, int f.obj, int f.value, int f.frm, int f.til, int f.known, int f.no]], .g true, .ov 28 (bool !true), .b false] (by kernel_rfl) (.c hlt (.c hr (.c (show ((f.kind == kk && (f.sub == ks && (f.obj == ko && true))) == true) = true from (by rw [hc0]; rfl)) (.c (show ((f.kind == kk && (f.sub == ks && (f.obj == ko && true))) == true) = true from (by rw [hc0]; rfl)) (.c (show ((f.kind == kk && (f.sub == ks && (f.obj == ko && true))) == true) = true from (by rw [hc0]; rfl)) (.c (show ((f.kind == kk && (f.sub == ks && (f.obj == ko && true))) == true) = true from (by rw [hc0]; rfl)) (.c (show aB (bool (f.kind == kk && (f.sub == ks && (f.obj == ko && true)))) (bool (decide (f.known ≤ known))) (bool false) (bool (decide (f.known ≤ known))) from (aS hc0 rfl)) (.c (show (decide (f.known ≤ known) == true) = true from (by rw [hc1]; rfl)) (.c (show (decide (f.known ≤ known) == true) = true from (by rw [hc1]; rfl)) (.c (show (decide (f.known ≤ known) == true) = true from (by rw [hc1]; rfl)) (.c (@vaIv_ev (kk) (ks) (ko) (known) (fs) (List.flatten (aI rs)) (best) (some) (ho) (f)) (.c (show (decide (f.known ≤ known) == true) = true from (by rw [hc1]; rfl)) (.c (show aB (bool (decide (f.known ≤ known))) (bool !true) (bool false) (bool !true) from (aS hc1 rfl)) (.c (show (!true) = false from rfl) (.c (show Blk.inn 9 (.var [int kk, int ks, int ko]) = true from rfl) (.c (show Blk.inn 9 (.var (List.flatten (aI rs))) = true from ?_) (.c (show Blk.inn 9 (.var (List.flatten (aQ (vaF f (best, some)).fst))) = true from ?_) (.c (show Blk.inn 9 (.var (List.flatten (aZ (vaF f (best, some)).snd))) = true from ?_) (.c (show Blk.inn 9 (.var [ab fs]) = true from rfl) (.c (show Blk.inn 9 (.var [int kk, int ks, int ko]) = true from rfl) (.c (show Blk.inn 9 (.var [int known]) = true from rfl) (.c (show Blk.inn 9 .defd = true from rfl) (.c (show Blk.inn 9 (.loop LoopState.ready none 0 (mkT 63 0 [(6, .ref (.ptr 1 0)), (7, .ref (.ptr 2 0)), (8, .ref (.ptr 3 0)), (15, D.fn (Fn.func 178) [] [.ref (.ptr 4 0), .ref (.ptr 5 0), .ref (.ptr 6 0)])]) { toList := [16] } (ax (sub Tryz.f159 0)) (aj (sub Tryz.f159 0))) = true from rfl) .n)))))))))))))))))))))))) (by first | rfl | (simp only [hw, bS, ofIs, dM, hc0, hc1, Bool.and_false, Bool.false_and, Bool.true_and, Bool.and_self, cond_true, cond_false]; rfl)) (by first | rfl | (simp only [hw, bS, ofIs, dM, hc0, hc1, Bool.and_self, cond_true]; rfl)) <;> (first | assumption | rfl | exact inn_best | exact inn_bool | exact inn_int | (simp_all; done))
theorem vo_last {kk ks ko known : Int} {fs : List (List Dp)} {rs : List Int} {best b0 : List FactT} {some s0 : List Bool} {i : Nat} (hlt : decide ((i : Int) < (fs.length : Int)) = false) : (CW Tryz.prog Γ0 (vaH kk ks ko known fs (aI rs).flatten b0 s0 .ready []) false (sub Tryz.f178 0) { t := ofT fs i, h := vaH kk ks ko known fs (aI rs).flatten best some .ready [], m := [] } (.exit 0) { t := mkT 30 0 [], h := vaH kk ks ko known fs (aI rs).flatten best some .ready [], m := [] }) := by
 exact CW.cast (CW.symX (s' := { t := mkT 30 0 [], h := [.var [int kk, int ks, int ko], .var (List.flatten (aI rs)), .var (List.flatten (aQ best)), .var (List.flatten (aZ some)), .var [ab fs], .var [int kk, int ks, int ko], .var [int known], .defd, .loop LoopState.ready none 0 (mkT 63 0 [(6, .ref (.ptr 1 0)), (7, .ref (.ptr 2 0)), (8, .ref (.ptr 3 0)), (15, D.fn (Fn.func 178) [] [.ref (.ptr 4 0), .ref (.ptr 5 0), .ref (.ptr 6 0)])]) { toList := [16] } (ax (sub Tryz.f159 0)) (aj (sub Tryz.f159 0))], m := [] }) (e := Exit.exit 0) pok [.st (.mask [])] [.b false] (by kernel_rfl) (.c hlt .n)) (by rfl) (by rfl)
theorem vaGo_ok {kk ks ko known : Int} {s : VS} (f : FactT) (h : s.ok) : (bS kk ks ko known s f).ok := by
 unfold bS
 cases ofIs kk ks ko known f
 ·exact h
 ·exact vaIn_ok h
theorem vo_cw {kk ks ko known : Int} {l : List FactT} (hl : ao l) {rs : List Int} {b0 : List FactT} {s0 : List Bool} (ho : VS.ok (b0, s0)) :
  CW Tryz.prog Γ0 (vaH kk ks ko known (l.map FactT.row) (aI rs).flatten b0 s0 .ready []) false (.loop (sub Tryz.f178 0)) { t := ofT (l.map FactT.row) 0, h := vaH kk ks ko known (l.map FactT.row) (aI rs).flatten b0 s0 .ready [], m := [] } (.exit 0)
   { t := mkT 30 0 [], h := vaH kk ks ko known (l.map FactT.row) (aI rs).flatten (l.foldl (bS kk ks ko known) (b0, s0)).1 (l.foldl (bS kk ks ko known) (b0, s0)).2 .ready [], m := [] } := by
 have := CW.each (P := Tryz.prog) (Γ := Γ0) (h0 := vaH kk ks ko known (l.map FactT.row) (aI rs).flatten b0 s0 .ready []) (rd := false) (c := sub Tryz.f178 0) (σ := VS) (ρ := Empty) l (fun f s => .inl (bS kk ks ko known s f))
  (fun i s => { t := ofT (l.map FactT.row) (i : Int), h := vaH kk ks ko known (l.map FactT.row) (aI rs).flatten s.1 s.2 .ready [], m := [] }) (.exit 0) (fun s => { t := mkT 30 0 [], h := vaH kk ks ko known (l.map FactT.row) (aI rs).flatten s.1 s.2 .ready [], m := [] }) (fun r => r.elim)
  (fun _ s => s.ok) (by simp) (fun r => r.elim) ?_ ?_ (b0, s0) ho
 ·rw [br] at this
  exact this
 ·intro i f s hf hs
  have hi := (List.getElem?_eq_some_iff.1 hf).1
  exact ⟨fun s' h => by cases h; exact vaGo_ok f hs, vo_body hs (rowAt hf rfl) (lt_len _ hi) (wrap_succ hi hl)⟩
 ·intro s _
  exact vo_last (fa _ l)
theorem voiter_ev {kk ks ko known : Int} {l : List FactT} (hl : ao l) {rs : List Int} {b0 : List FactT} {s0 : List Bool} (ho : VS.ok (b0, s0)) : (Ev Tryz.prog Γ0 178 [.ref (.yl 8), .ref (.ptr 4 0), .ref (.ptr 5 0), .ref (.ptr 6 0)] (vaH kk ks ko known (l.map FactT.row) (aI rs).flatten b0 s0 .ready []) (.tup []) (vaH kk ks ko known (l.map FactT.row) (aI rs).flatten (l.foldl (bS kk ks ko known) (b0, s0)).1 (l.foldl (bS kk ks ko known) (b0, s0)).2 .ready [])) := by
 have hl0 := (@vo_cw (kk) (ks) (ko) (known) (l) (hl) (rs) (b0) (s0) (ho))
 exact Ev.castH (Ev.of_sym (h' := [.var [int kk, int ks, int ko], .var (List.flatten (aI rs)), .var (List.flatten (aQ (List.foldl (bS kk ks ko known) (b0, s0) l).fst)), .var (List.flatten (aZ (List.foldl (bS kk ks ko known) (b0, s0) l).snd)), .var [ab (List.map FactT.row l)], .var [int kk, int ks, int ko], .var [int known], .defd, .loop LoopState.ready none 0 (mkT 63 0 [(6, .ref (.ptr 1 0)), (7, .ref (.ptr 2 0)), (8, .ref (.ptr 3 0)), (15, D.fn (Fn.func 178) [] [.ref (.ptr 4 0), .ref (.ptr 5 0), .ref (.ptr 6 0)])]) { toList := [16] } (ax (sub Tryz.f159 0)) (aj (sub Tryz.f159 0))]) (d := D.tup []) pok [.sum [0, 1, 2, 3, 7, 8, 9] (Exit.exit 0) { t := mkT 30 0 [], h := [.var [int kk, int ks, int ko], .var (List.flatten (aI rs)), .var (List.flatten (aQ (List.foldl (bS kk ks ko known) (b0, s0) l).fst)), .var (List.flatten (aZ (List.foldl (bS kk ks ko known) (b0, s0) l).snd)), .var [ab (List.map FactT.row l)], .var [int kk, int ks, int ko], .var [int known], .defd, .loop LoopState.ready none 0 (mkT 63 0 [(6, .ref (.ptr 1 0)), (7, .ref (.ptr 2 0)), (8, .ref (.ptr 3 0)), (15, D.fn (Fn.func 178) [] [.ref (.ptr 4 0), .ref (.ptr 5 0), .ref (.ptr 6 0)])]) { toList := [16] } (ax (sub Tryz.f159 0)) (aj (sub Tryz.f159 0))], m := [] }] (by kernel_rfl) (.c hl0 .n)) (by rfl) (by rfl)
noncomputable abbrev vaH0 (kk ks ko known : Int) (fs : List (List Dp)) (rs : List Int) (best : List FactT) (some : List Bool) : List Blk :=
 [.var [int kk, int ks, int ko], .var (aI rs).flatten, .var (aQ best).flatten, .var (aZ some).flatten, .var [ab fs], .var [int kk, int ks, int ko], .var [int known]]
theorem va_rf_cw {kk ks ko known : Int} {l : List FactT} (hl : ao l) {rs : List Int} {b0 : List FactT} {s0 : List Bool} (ho : VS.ok (b0, s0)) : CW Tryz.prog Γ0 [] false (sub Tryz.f159 0) { t := vaT, h := vaH0 kk ks ko known (l.map FactT.row) rs b0 s0, m := [] } .normal
  { t := vaT, h := vaH kk ks ko known (l.map FactT.row) (aI rs).flatten (l.foldl (bS kk ks ko known) (b0, s0)).1 (l.foldl (bS kk ks ko known) (b0, s0)).2 .exhausted [], m := [7] } :=
 CW.rangeFunc (f := 178) (fi := []) (ca := [.ref (.ptr 4 0), .ref (.ptr 5 0), .ref (.ptr 6 0)]) pok (s := { t := vaT, h := vaH0 kk ks ko known (l.map FactT.row) rs b0 s0, m := [] }) (g := .tmp 15) (ps := #[16]) (asg := ax (sub Tryz.f159 0)) (body := aj (sub Tryz.f159 0)) rfl (by kernel_rfl) (voiter_ev hl ho) rfl
theorem va_val {h : List Blk} {off n : Nat} {l : List FactT} {g : FactT} (hb : h[2]? = some (.var (aQ l).flatten)) (hs : l[n]? = some g) (ho : off = n * 8 + 3) : bK Tryz.prog h 3 (.ref (.ptr 2 off)) = some (int g.value) := by
 subst ho
 exact load_arr1 (sz := 8) (j := 3) (row := g.row.map .p) (by kernel_rfl) (by kernel_rfl) hb (by simp [FactT.row]) (by simp [hs]) rfl
theorem va_stI {h : List Blk} {off n : Nat} {l : List Int} {x : Int} (hb : h[1]? = some (.var (aI l).flatten)) (hn : n < l.length) (ho : off = n * 1) : cm Tryz.prog h 3 (.ref (.ptr 1 off)) (int x) = some (h.set 1 (.var (aI (l.set n x)).flatten)) := by
 subst ho
 rw [store_arr (sz := 1) (new := [int x]) rfl (by kernel_rfl) rfl hb (fun r hr => by obtain ⟨_, _, rfl⟩ := List.mem_map.1 hr; rfl) (by simpa using hn), aI, aI, List.map_set]
abbrev maxV (v : Int) : Int := if true = true then if -1 > v then -1 else v else if -1 < v then -1 else v
noncomputable abbrev vlS (kk ks ko known : Int) (fs : List (List Dp)) (rs : List Int) (best : List FactT) (some : List Bool) (i : Int) : AS := { t := mkT 63 0 [(6, .ref (.ptr 1 0)), (7, .ref (.ptr 2 0)), (8, .ref (.ptr 3 0)), (46, int i)], h := vaH kk ks ko known fs (aI rs).flatten best some .exhausted [], m := [7] }
theorem vl_b {kk ks ko known : Int} {fs : List (List Dp)} {rs : List Int} {best : List FactT} {some : List Bool} {g : FactT} {n : Nat} {b : Bool} (hb : best[n]? = .some g) (hs : some[n]? = .some b) (hn : inR (n : Int) 1024 = true) (hr : n < rs.length) (hlt : decide ((n : Int) < 1024) = true) : (CW Tryz.prog Γ0 [] false (sub Tryz.f159 2) (vlS kk ks ko known fs rs best some (n : Int)) .normal (vlS kk ks ko known fs (bif b then (rs.set n (-1)).set n (maxV g.value) else rs.set n (-1)) best some (IntKind.i64.wrap ((n : Int) + 1)))) := by
 cases hc0 : b
 ·refine CW.cast (CW.symX (s' := { t := mkT 63 0 [(6, .ref (.ptr 1 0)), (7, .ref (.ptr 2 0)), (8, .ref (.ptr 3 0)), (46, int (IntKind.wrap IntKind.i64 ((↑n : Int) + 1)))], h := [.var [int kk, int ks, int ko], .var (List.flatten (aI (List.set rs n (-1)))), .var (List.flatten (aQ best)), .var (List.flatten (aZ some)), .var [ab fs], .var [int kk, int ks, int ko], .var [int known], .defd, .loop LoopState.exhausted none 0 (mkT 63 0 [(6, .ref (.ptr 1 0)), (7, .ref (.ptr 2 0)), (8, .ref (.ptr 3 0)), (15, D.fn (Fn.func 178) [] [.ref (.ptr 4 0), .ref (.ptr 5 0), .ref (.ptr 6 0)])]) { toList := [16] } (ax (sub Tryz.f159 0)) (aj (sub Tryz.f159 0))], m := [7] }) (e := Exit.normal) pok [.st (.mask [6, 7, 8, 46])] [.b true, .oh 10050 D.any (vaH kk ks ko known fs (List.flatten (aI (List.set rs n (-1)))) best some LoopState.exhausted []), .ov 53 (bool b), .b false] (by kernel_rfl) (.c hlt (.c hn (.c (show cm Tryz.prog [.var [int kk, int ks, int ko], .var (List.flatten (aI rs)), .var (List.flatten (aQ best)), .var (List.flatten (aZ some)), .var [ab fs], .var [int kk, int ks, int ko], .var [int known], .defd, .loop LoopState.exhausted none 0 (mkT 63 0 [(6, .ref (.ptr 1 0)), (7, .ref (.ptr 2 0)), (8, .ref (.ptr 3 0)), (15, D.fn (Fn.func 178) [] [.ref (.ptr 4 0), .ref (.ptr 5 0), .ref (.ptr 6 0)])]) { toList := [16] } (ax (sub Tryz.f159 0)) (aj (sub Tryz.f159 0))] 3 (.ref (.ptr 1 (0 + Int.toNat (↑n : Int) * 1))) (evalD Γ0 (mkT 63 0 [(6, .ref (.ptr 1 0)), (7, .ref (.ptr 2 0)), (8, .ref (.ptr 3 0)), (11, int (↑n : Int)), (46, int (↑n : Int)), (47, bool (decide ((↑n : Int) < 1024))), (48, int (↑n : Int)), (49, int (↑n : Int)), (50, .ref (.ptr 1 (0 + Int.toNat (↑n : Int) * 1)))]) (Operand.const (Value.int IntKind.i64 (-1)))) = Option.some [.var [int kk, int ks, int ko], .var (List.flatten (aI (List.set rs n (-1)))), .var (List.flatten (aQ best)), .var (List.flatten (aZ some)), .var [ab fs], .var [int kk, int ks, int ko], .var [int known], .defd, .loop LoopState.exhausted none 0 (mkT 63 0 [(6, .ref (.ptr 1 0)), (7, .ref (.ptr 2 0)), (8, .ref (.ptr 3 0)), (15, D.fn (Fn.func 178) [] [.ref (.ptr 4 0), .ref (.ptr 5 0), .ref (.ptr 6 0)])]) { toList := [16] } (ax (sub Tryz.f159 0)) (aj (sub Tryz.f159 0))] from ?_) (.c hn (.c (show bK Tryz.prog [.var [int kk, int ks, int ko], .var (List.flatten (aI (List.set rs n (-1)))), .var (List.flatten (aQ best)), .var (List.flatten (aZ some)), .var [ab fs], .var [int kk, int ks, int ko], .var [int known], .defd, .loop LoopState.exhausted none 0 (mkT 63 0 [(6, .ref (.ptr 1 0)), (7, .ref (.ptr 2 0)), (8, .ref (.ptr 3 0)), (15, D.fn (Fn.func 178) [] [.ref (.ptr 4 0), .ref (.ptr 5 0), .ref (.ptr 6 0)])]) { toList := [16] } (ax (sub Tryz.f159 0)) (aj (sub Tryz.f159 0))] 4 (.ref (.ptr 3 (0 + Int.toNat (↑n : Int) * 1))) = Option.some (bool b) from ?_) (.c hc0 .n))))))) (by first | rfl | (simp only [hc0, cond_true, cond_false]; first | done | rfl)) (by first | rfl | (simp only [hc0, cond_true, cond_false]; first | done | rfl)) <;> (first | assumption | rfl | exact va_some rfl hs (by simp) | exact va_val rfl hb (by simp) | exact va_stI rfl hr (by simp) | exact va_stI rfl (by simpa using hr) (by simp) | (simp_all; done))
 ·refine CW.cast (CW.symX (s' := { t := mkT 63 0 [(6, .ref (.ptr 1 0)), (7, .ref (.ptr 2 0)), (8, .ref (.ptr 3 0)), (46, int (IntKind.wrap IntKind.i64 ((↑n : Int) + 1)))], h := [.var [int kk, int ks, int ko], .var (List.flatten (aI (List.set (List.set rs n (-1)) n (maxV g.value)))), .var (List.flatten (aQ best)), .var (List.flatten (aZ some)), .var [ab fs], .var [int kk, int ks, int ko], .var [int known], .defd, .loop LoopState.exhausted none 0 (mkT 63 0 [(6, .ref (.ptr 1 0)), (7, .ref (.ptr 2 0)), (8, .ref (.ptr 3 0)), (15, D.fn (Fn.func 178) [] [.ref (.ptr 4 0), .ref (.ptr 5 0), .ref (.ptr 6 0)])]) { toList := [16] } (ax (sub Tryz.f159 0)) (aj (sub Tryz.f159 0))], m := [7] }) (e := Exit.normal) pok [.st (.mask [6, 7, 8, 46])] [.b true, .oh 10050 D.any (vaH kk ks ko known fs (List.flatten (aI (List.set rs n (-1)))) best some LoopState.exhausted []), .ov 53 (bool b), .b true, .ov 58 (int g.value), .oh 10060 D.any (vaH kk ks ko known fs (List.flatten (aI (List.set (List.set rs n (-1)) n (maxV g.value)))) best some LoopState.exhausted [])] (by kernel_rfl) (.c hlt (.c hn (.c (show cm Tryz.prog [.var [int kk, int ks, int ko], .var (List.flatten (aI rs)), .var (List.flatten (aQ best)), .var (List.flatten (aZ some)), .var [ab fs], .var [int kk, int ks, int ko], .var [int known], .defd, .loop LoopState.exhausted none 0 (mkT 63 0 [(6, .ref (.ptr 1 0)), (7, .ref (.ptr 2 0)), (8, .ref (.ptr 3 0)), (15, D.fn (Fn.func 178) [] [.ref (.ptr 4 0), .ref (.ptr 5 0), .ref (.ptr 6 0)])]) { toList := [16] } (ax (sub Tryz.f159 0)) (aj (sub Tryz.f159 0))] 3 (.ref (.ptr 1 (0 + Int.toNat (↑n : Int) * 1))) (evalD Γ0 (mkT 63 0 [(6, .ref (.ptr 1 0)), (7, .ref (.ptr 2 0)), (8, .ref (.ptr 3 0)), (11, int (↑n : Int)), (46, int (↑n : Int)), (47, bool (decide ((↑n : Int) < 1024))), (48, int (↑n : Int)), (49, int (↑n : Int)), (50, .ref (.ptr 1 (0 + Int.toNat (↑n : Int) * 1)))]) (Operand.const (Value.int IntKind.i64 (-1)))) = Option.some [.var [int kk, int ks, int ko], .var (List.flatten (aI (List.set rs n (-1)))), .var (List.flatten (aQ best)), .var (List.flatten (aZ some)), .var [ab fs], .var [int kk, int ks, int ko], .var [int known], .defd, .loop LoopState.exhausted none 0 (mkT 63 0 [(6, .ref (.ptr 1 0)), (7, .ref (.ptr 2 0)), (8, .ref (.ptr 3 0)), (15, D.fn (Fn.func 178) [] [.ref (.ptr 4 0), .ref (.ptr 5 0), .ref (.ptr 6 0)])]) { toList := [16] } (ax (sub Tryz.f159 0)) (aj (sub Tryz.f159 0))] from ?_) (.c hn (.c (show bK Tryz.prog [.var [int kk, int ks, int ko], .var (List.flatten (aI (List.set rs n (-1)))), .var (List.flatten (aQ best)), .var (List.flatten (aZ some)), .var [ab fs], .var [int kk, int ks, int ko], .var [int known], .defd, .loop LoopState.exhausted none 0 (mkT 63 0 [(6, .ref (.ptr 1 0)), (7, .ref (.ptr 2 0)), (8, .ref (.ptr 3 0)), (15, D.fn (Fn.func 178) [] [.ref (.ptr 4 0), .ref (.ptr 5 0), .ref (.ptr 6 0)])]) { toList := [16] } (ax (sub Tryz.f159 0)) (aj (sub Tryz.f159 0))] 4 (.ref (.ptr 3 (0 + Int.toNat (↑n : Int) * 1))) = Option.some (bool b) from ?_) (.c hc0 (.c hn (.c (show bK Tryz.prog [.var [int kk, int ks, int ko], .var (List.flatten (aI (List.set rs n (-1)))), .var (List.flatten (aQ best)), .var (List.flatten (aZ some)), .var [ab fs], .var [int kk, int ks, int ko], .var [int known], .defd, .loop LoopState.exhausted none 0 (mkT 63 0 [(6, .ref (.ptr 1 0)), (7, .ref (.ptr 2 0)), (8, .ref (.ptr 3 0)), (15, D.fn (Fn.func 178) [] [.ref (.ptr 4 0), .ref (.ptr 5 0), .ref (.ptr 6 0)])]) { toList := [16] } (ax (sub Tryz.f159 0)) (aj (sub Tryz.f159 0))] 3 (.ref (.ptr 2 (0 + Int.toNat (↑n : Int) * 8 + 3))) = Option.some (int g.value) from ?_) (.c hn (.c (show cm Tryz.prog [.var [int kk, int ks, int ko], .var (List.flatten (aI (List.set rs n (-1)))), .var (List.flatten (aQ best)), .var (List.flatten (aZ some)), .var [ab fs], .var [int kk, int ks, int ko], .var [int known], .defd, .loop LoopState.exhausted none 0 (mkT 63 0 [(6, .ref (.ptr 1 0)), (7, .ref (.ptr 2 0)), (8, .ref (.ptr 3 0)), (15, D.fn (Fn.func 178) [] [.ref (.ptr 4 0), .ref (.ptr 5 0), .ref (.ptr 6 0)])]) { toList := [16] } (ax (sub Tryz.f159 0)) (aj (sub Tryz.f159 0))] 3 (.ref (.ptr 1 (0 + Int.toNat (↑n : Int) * 1))) (int (if true = true then if -1 > g.value then -1 else g.value else if -1 < g.value then -1 else g.value)) = Option.some [.var [int kk, int ks, int ko], .var (List.flatten (aI (List.set (List.set rs n (-1)) n (maxV g.value)))), .var (List.flatten (aQ best)), .var (List.flatten (aZ some)), .var [ab fs], .var [int kk, int ks, int ko], .var [int known], .defd, .loop LoopState.exhausted none 0 (mkT 63 0 [(6, .ref (.ptr 1 0)), (7, .ref (.ptr 2 0)), (8, .ref (.ptr 3 0)), (15, D.fn (Fn.func 178) [] [.ref (.ptr 4 0), .ref (.ptr 5 0), .ref (.ptr 6 0)])]) { toList := [16] } (ax (sub Tryz.f159 0)) (aj (sub Tryz.f159 0))] from ?_) .n))))))))))) (by first | rfl | (simp only [hc0, cond_true, cond_false]; first | done | rfl)) (by first | rfl | (simp only [hc0, cond_true, cond_false]; first | done | rfl)) <;> (first | assumption | rfl | exact va_some rfl hs (by simp) | exact va_val rfl hb (by simp) | exact va_stI rfl hr (by simp) | exact va_stI rfl (by simpa using hr) (by simp) | (simp_all; done))
theorem vl_last {kk ks ko known : Int} {fs : List (List Dp)} {rs : List Int} {best : List FactT} {some : List Bool} : (CW Tryz.prog Γ0 [] false (sub Tryz.f159 2) (vlS kk ks ko known fs rs best some 1024) (.exit 4) { t := mkT 63 0 [(6, .ref (.ptr 1 0))], h := vaH kk ks ko known fs (aI rs).flatten best some .exhausted [], m := [7] }) := by
 exact CW.cast (CW.symX (s' := { t := mkT 63 0 [(6, .ref (.ptr 1 0))], h := [.var [int kk, int ks, int ko], .var (List.flatten (aI rs)), .var (List.flatten (aQ best)), .var (List.flatten (aZ some)), .var [ab fs], .var [int kk, int ks, int ko], .var [int known], .defd, .loop LoopState.exhausted none 0 (mkT 63 0 [(6, .ref (.ptr 1 0)), (7, .ref (.ptr 2 0)), (8, .ref (.ptr 3 0)), (15, D.fn (Fn.func 178) [] [.ref (.ptr 4 0), .ref (.ptr 5 0), .ref (.ptr 6 0)])]) { toList := [16] } (ax (sub Tryz.f159 0)) (aj (sub Tryz.f159 0))], m := [7] }) (e := Exit.exit 4) pok [.st (.mask [6])] [.b false] (by kernel_rfl) (.c (show decide (1024 < 1024) = false from rfl) .n)) (by rfl) (by rfl)
def vlStep (s : VS) (rs : List Int) (n : Nat) : List Int := bif s.2.getD n false then (rs.set n (-1)).set n (maxV (s.1.getD n default).value) else rs.set n (-1)
def vlAll (s : VS) (rs : List Int) : List Int := (List.range 1024).foldl (vlStep s) rs
theorem vl_cw {kk ks ko known : Int} {fs : List (List Dp)} {rs : List Int} {best : List FactT} {some : List Bool} (ho : VS.ok (best, some)) (hr : rs.length = 1024) :
  CW Tryz.prog Γ0 [] false (.loop (sub Tryz.f159 2)) (vlS kk ks ko known fs rs best some 0) (.exit 4) { t := mkT 63 0 [(6, .ref (.ptr 1 0))], h := vaH kk ks ko known fs (aI (vlAll (best, some) rs)).flatten best some .exhausted [], m := [7] } := by
 have := CW.each (P := Tryz.prog) (Γ := Γ0) (h0 := []) (rd := false) (c := sub Tryz.f159 2) (σ := List Int) (ρ := Empty) (List.range 1024) (fun n rs => .inl (vlStep (best, some) rs n))
  (fun i rs => vlS kk ks ko known fs rs best some (i : Int)) (.exit 4) (fun rs => { t := mkT 63 0 [(6, .ref (.ptr 1 0))], h := vaH kk ks ko known fs (aI rs).flatten best some .exhausted [], m := [7] }) (fun r => r.elim)
  (fun _ rs => rs.length = 1024) (by simp) (fun r => r.elim) ?_ ?_ rs hr
 ·rw [br (fun rs n => vlStep (best, some) rs n)] at this
  exact this
 ·intro i n rs hn hs
  obtain ⟨hi, he⟩ := List.getElem?_eq_some_iff.1 hn
  simp only [List.length_range] at hi
  simp only [List.getElem_range] at he
  subst he
  have hb : best[i]? = .some (best.getD i default) := by
   rw [List.getD, List.getElem?_eq_getElem (by rw [ho.1]; omega)]; rfl
  have hc : some[i]? = .some (some.getD i false) := by
   rw [List.getD, List.getElem?_eq_getElem (by rw [ho.2]; omega)]; rfl
  refine ⟨fun s' h => by cases h; unfold vlStep; cases some.getD i false <;> simp [hs], ?_⟩
  have key := vl_b (kk := kk) (ks := ks) (ko := ko) (known := known) (fs := fs) (rs := rs) hb hc (by simp [inR]; omega) (by omega) (by simp; omega)
  rw [wrap_i64 (by omega) (by omega)] at key
  simp only [ae]
  unfold vlStep
  cases hq : some.getD i false <;> rw [hq] at key <;> exact key
 ·intro rs _
  simp only [List.length_range]
  exact vl_last
end Go.Vi
open Go Go.Proofs
namespace Go.Vi
set_option maxRecDepth 100000
set_option maxHeartbeats 4000000
theorem all_int {h : List Blk} {l : List Int} (hb : h[1]? = some (.var (aI l).flatten)) (hl : l.length = 1024) : bK Tryz.prog h 215 (.ref (.ptr 1 0)) = some (.agg (aI l).flatten) :=
 load_all (by kernel_rfl) (by rw [eW (sz := 1) (aI l) (fun r hr => by obtain ⟨_, _, rfl⟩ := List.mem_map.1 hr; rfl)]; simp only [aI, List.length_map, hl]; kernel_rfl) hb
theorem agg_cells {l : List Int} : (D.agg (aI l).flatten).cells = some (aI l).flatten := by
 have : (aI l).flatten.all D.one = true := by
  rw [List.all_eq_true]
  intro d hd
  obtain ⟨r, hr, hd⟩ := List.mem_flatten.1 hd
  obtain ⟨n, _, rfl⟩ := List.mem_map.1 hr
  simp only [List.mem_singleton] at hd
  subst hd; rfl
 simp only [D.cells, this, if_true]
theorem st_int {h : List Blk} {l : List Int} (hb : h[1]? = some (.var (aI l).flatten)) (hl : l.length = 1024) : cm Tryz.prog h 215 (.ref (.ptr 1 0)) (.agg (aI l).flatten) = some (h.set 1 (.var (aI l).flatten)) :=
 store_all agg_cells (by rw [eW (sz := 1) (aI l) (fun r hr => by obtain ⟨_, _, rfl⟩ := List.mem_map.1 hr; rfl)]; simp only [aI, List.length_map, hl]; kernel_rfl) rfl hb
theorem vlAll_len {s : VS} {rs : List Int} (h : rs.length = 1024) : (vlAll s rs).length = 1024 := by
 unfold vlAll
 generalize List.range 1024 = l
 induction l generalizing rs with
 | nil => exact h
 | cons n l ih => exact ih (by unfold vlStep; cases s.2.getD n false <;> simp [h])
noncomputable abbrev vaE (kk ks ko known : Int) (l : List FactT) (rs : List Int) (s : VS) : List Blk := vaH kk ks ko known (l.map FactT.row) (aI (vlAll (l.foldl (bS kk ks ko known) s) rs)).flatten (l.foldl (bS kk ks ko known) s).1 (l.foldl (bS kk ks ko known) s).2 .exhausted []
theorem va_whole {kk ks ko known : Int} {l : List FactT} (hl : ao l) {rs : List Int} {b0 : List FactT} {s0 : List Bool} (ho : VS.ok (b0, s0)) (hf : VS.ok (l.foldl (bS kk ks ko known) (b0, s0))) (hr : rs.length = 1024) (e1 : cK Tryz.prog [.var [int kk, int ks, int ko]] 215 (.ref (.ptr 1 0)) [.var [int kk, int ks, int ko], .var (aI rs).flatten])
  (e2 : cK Tryz.prog [.var [int kk, int ks, int ko], .var (aI rs).flatten] 243 (.ref (.ptr 2 0)) [.var [int kk, int ks, int ko], .var (aI rs).flatten, .var (aQ b0).flatten])
  (e3 : cK Tryz.prog [.var [int kk, int ks, int ko], .var (aI rs).flatten, .var (aQ b0).flatten] 244 (.ref (.ptr 3 0)) [.var [int kk, int ks, int ko], .var (aI rs).flatten, .var (aQ b0).flatten, .var (aZ s0).flatten]) : (CW Tryz.prog Γ0 [] false (bodyC Tryz.f159) { t := mkT 63 0 [(0, ab (l.map FactT.row)), (1, .agg [int kk, int ks, int ko]), (2, int known)], h := [], m := [] } .ret { t := mkT 63 0 [(6, .ref (.ptr 1 0))], h := vaE kk ks ko known l rs (b0, s0), m := [7] }) := by
 have hl0 := (@va_rf_cw (kk) (ks) (ko) (known) (l) (hl) (rs) (b0) (s0) (ho))
 have hl1 := (@vl_cw (kk) (ks) (ko) (known) (List.map FactT.row l) (rs) ((List.foldl (bS kk ks ko known) (b0, s0) l).fst) ((List.foldl (bS kk ks ko known) (b0, s0) l).snd) (hf) (hr))
 refine CW.cast (CW.symX (s' := { t := mkT 63 0 [(6, .ref (.ptr 1 0))], h := [.var [int kk, int ks, int ko], .var (List.flatten (aI (vlAll (List.foldl (bS kk ks ko known) (b0, s0) l) rs))), .var (List.flatten (aQ (List.foldl (bS kk ks ko known) (b0, s0) l).fst)), .var (List.flatten (aZ (List.foldl (bS kk ks ko known) (b0, s0) l).snd)), .var [ab (List.map FactT.row l)], .var [int kk, int ks, int ko], .var [int known], .defd, .loop LoopState.exhausted none 0 (mkT 63 0 [(6, .ref (.ptr 1 0)), (7, .ref (.ptr 2 0)), (8, .ref (.ptr 3 0)), (15, D.fn (Fn.func 178) [] [.ref (.ptr 4 0), .ref (.ptr 5 0), .ref (.ptr 6 0)])]) { toList := [16] } (ax (sub Tryz.f159 0)) (aj (sub Tryz.f159 0))], m := [7] }) (e := Exit.ret) pok [.st (.mask [6])] [.oh 6 (.ref (.ptr 1 0)) [.var [int kk, int ks, int ko], .var (List.flatten (aI rs))], .oh 7 (.ref (.ptr 2 0)) [.var [int kk, int ks, int ko], .var (List.flatten (aI rs)), .var (List.flatten (aQ b0))], .oh 8 (.ref (.ptr 3 0)) [.var [int kk, int ks, int ko], .var (List.flatten (aI rs)), .var (List.flatten (aQ b0)), .var (List.flatten (aZ s0))], .inl, .sum [6, 7, 8, 15] (Exit.normal) { t := mkT 63 0 [(6, .ref (.ptr 1 0)), (7, .ref (.ptr 2 0)), (8, .ref (.ptr 3 0)), (15, D.fn (Fn.func 178) [] [.ref (.ptr 4 0), .ref (.ptr 5 0), .ref (.ptr 6 0)])], h := [.var [int kk, int ks, int ko], .var (List.flatten (aI rs)), .var (List.flatten (aQ (List.foldl (bS kk ks ko known) (b0, s0) l).fst)), .var (List.flatten (aZ (List.foldl (bS kk ks ko known) (b0, s0) l).snd)), .var [ab (List.map FactT.row l)], .var [int kk, int ks, int ko], .var [int known], .defd, .loop LoopState.exhausted none 0 (mkT 63 0 [(6, .ref (.ptr 1 0)), (7, .ref (.ptr 2 0)), (8, .ref (.ptr 3 0)), (15, D.fn (Fn.func 178) [] [.ref (.ptr 4 0), .ref (.ptr 5 0), .ref (.ptr 6 0)])]) { toList := [16] } (ax (sub Tryz.f159 0)) (aj (sub Tryz.f159 0))], m := [7] }, .sum [6, 7, 8, 46] (Exit.exit 4) { t := mkT 63 0 [(6, .ref (.ptr 1 0))], h := [.var [int kk, int ks, int ko], .var (List.flatten (aI (vlAll ((List.foldl (bS kk ks ko known) (b0, s0) l).fst, (List.foldl (bS kk ks ko known) (b0, s0) l).snd) rs))), .var (List.flatten (aQ (List.foldl (bS kk ks ko known) (b0, s0) l).fst)), .var (List.flatten (aZ (List.foldl (bS kk ks ko known) (b0, s0) l).snd)), .var [ab (List.map FactT.row l)], .var [int kk, int ks, int ko], .var [int known], .defd, .loop LoopState.exhausted none 0 (mkT 63 0 [(6, .ref (.ptr 1 0)), (7, .ref (.ptr 2 0)), (8, .ref (.ptr 3 0)), (15, D.fn (Fn.func 178) [] [.ref (.ptr 4 0), .ref (.ptr 5 0), .ref (.ptr 6 0)])]) { toList := [16] } (ax (sub Tryz.f159 0)) (aj (sub Tryz.f159 0))], m := [7] }, .ov 62 (D.agg (List.flatten (aI (vlAll (List.foldl (bS kk ks ko known) (b0, s0) l) rs)))), .oh 10006 D.any (vaE kk ks ko known l rs (b0, s0))] (by kernel_rfl) (.c (show cK Tryz.prog [.var [int kk, int ks, int ko]] 215 (.ref (.ptr 1 0)) [.var [int kk, int ks, int ko], .var (List.flatten (aI rs))] from ?_) (.c (show cK Tryz.prog [.var [int kk, int ks, int ko], .var (List.flatten (aI rs))] 243 (.ref (.ptr 2 0)) [.var [int kk, int ks, int ko], .var (List.flatten (aI rs)), .var (List.flatten (aQ b0))] from ?_) (.c (show cK Tryz.prog [.var [int kk, int ks, int ko], .var (List.flatten (aI rs)), .var (List.flatten (aQ b0))] 244 (.ref (.ptr 3 0)) [.var [int kk, int ks, int ko], .var (List.flatten (aI rs)), .var (List.flatten (aQ b0)), .var (List.flatten (aZ s0))] from ?_) (.c hl0 (.c hl1 (.c (show bK Tryz.prog [.var [int kk, int ks, int ko], .var (List.flatten (aI (vlAll ((List.foldl (bS kk ks ko known) (b0, s0) l).fst, (List.foldl (bS kk ks ko known) (b0, s0) l).snd) rs))), .var (List.flatten (aQ (List.foldl (bS kk ks ko known) (b0, s0) l).fst)), .var (List.flatten (aZ (List.foldl (bS kk ks ko known) (b0, s0) l).snd)), .var [ab (List.map FactT.row l)], .var [int kk, int ks, int ko], .var [int known], .defd, .loop LoopState.exhausted none 0 (mkT 63 0 [(6, .ref (.ptr 1 0)), (7, .ref (.ptr 2 0)), (8, .ref (.ptr 3 0)), (15, D.fn (Fn.func 178) [] [.ref (.ptr 4 0), .ref (.ptr 5 0), .ref (.ptr 6 0)])]) { toList := [16] } (ax (sub Tryz.f159 0)) (aj (sub Tryz.f159 0))] 215 (.ref (.ptr 1 0)) = some (D.agg (List.flatten (aI (vlAll (List.foldl (bS kk ks ko known) (b0, s0) l) rs)))) from ?_) (.c (show cm Tryz.prog [.var [int kk, int ks, int ko], .var (List.flatten (aI (vlAll ((List.foldl (bS kk ks ko known) (b0, s0) l).fst, (List.foldl (bS kk ks ko known) (b0, s0) l).snd) rs))), .var (List.flatten (aQ (List.foldl (bS kk ks ko known) (b0, s0) l).fst)), .var (List.flatten (aZ (List.foldl (bS kk ks ko known) (b0, s0) l).snd)), .var [ab (List.map FactT.row l)], .var [int kk, int ks, int ko], .var [int known], .defd, .loop LoopState.exhausted none 0 (mkT 63 0 [(6, .ref (.ptr 1 0)), (7, .ref (.ptr 2 0)), (8, .ref (.ptr 3 0)), (15, D.fn (Fn.func 178) [] [.ref (.ptr 4 0), .ref (.ptr 5 0), .ref (.ptr 6 0)])]) { toList := [16] } (ax (sub Tryz.f159 0)) (aj (sub Tryz.f159 0))] 215 (.ref (.ptr 1 0)) (D.agg (List.flatten (aI (vlAll (List.foldl (bS kk ks ko known) (b0, s0) l) rs)))) = some [.var [int kk, int ks, int ko], .var (List.flatten (aI (vlAll (List.foldl (bS kk ks ko known) (b0, s0) l) rs))), .var (List.flatten (aQ (List.foldl (bS kk ks ko known) (b0, s0) l).fst)), .var (List.flatten (aZ (List.foldl (bS kk ks ko known) (b0, s0) l).snd)), .var [ab (List.map FactT.row l)], .var [int kk, int ks, int ko], .var [int known], .defd, .loop LoopState.exhausted none 0 (mkT 63 0 [(6, .ref (.ptr 1 0)), (7, .ref (.ptr 2 0)), (8, .ref (.ptr 3 0)), (15, D.fn (Fn.func 178) [] [.ref (.ptr 4 0), .ref (.ptr 5 0), .ref (.ptr 6 0)])]) { toList := [16] } (ax (sub Tryz.f159 0)) (aj (sub Tryz.f159 0))] from ?_) .n)))))))) (by rfl) (by rfl) <;> (first | assumption | exact all_int rfl (vlAll_len hr) | exact st_int rfl (vlAll_len hr) | (simp_all; done))
theorem inn_agg {n : Nat} {l : List Int} : D.inn n (.agg (aI l).flatten) = true := inn_int (n := n) (l := l)
def vZ : VS := (List.replicate 1024 fz, List.replicate 1024 false)
theorem vZ_ok : vZ.ok := ⟨by simp [vZ], by simp [vZ]⟩
theorem vaFold_ok {kk ks ko known : Int} {l : List FactT} {s : VS} (h : s.ok) : (l.foldl (bS kk ks ko known) s).ok := by
 induction l generalizing s with
 | nil => exact h
 | cons f l ih => exact ih (vaGo_ok f h)
def aP (kk ks ko known : Int) (l : List FactT) : List Int := vlAll (l.foldl (bS kk ks ko known) vZ) (List.replicate 1024 0)
theorem ck {kk ks ko known : Int} {l : List FactT} : (aP kk ks ko known l).length = 1024 := vlAll_len (by simp)
theorem values_a {kk ks ko known : Int} {l : List FactT} (hl : ao l) : Ev Tryz.prog Γ0 159 [ab (l.map FactT.row), .agg [int kk, int ks, int ko], int known] [] (.agg (aI (aP kk ks ko known l)).flatten) (shut [7] (vaE kk ks ko known l (List.replicate 1024 0) vZ)) := by
 have hw := va_whole (kk := kk) (ks := ks) (ko := ko) (known := known) hl (rs := List.replicate 1024 0) (b0 := vZ.1) (s0 := vZ.2) vZ_ok (vaFold_ok vZ_ok) (by simp) (by unfold cK; kernel_rfl) (by unfold cK vZ; kernel_rfl) (by unfold cK vZ; kernel_rfl)
 refine Ev.of_cw (fn := Tryz.f159) (by kernel_rfl) (by kernel_rfl) hw ?_
 have hc : bK Tryz.prog (shut [7] (vaE kk ks ko known l (List.replicate 1024 0) vZ)) 215 (.ref (.ptr 1 0)) = some (.agg (aI (aP kk ks ko known l)).flatten) := all_int rfl ck
 have hr : bi Tryz.prog (mkT 63 0 [(6, .ref (.ptr 1 0))]) (shut [7] (vaE kk ks ko known l (List.replicate 1024 0) vZ)) Tryz.f159.results.toList = some [.agg (aI (aP kk ks ko known l)).flatten] := by
  show (match resultD Tryz.prog (mkT 63 0 [(6, .ref (.ptr 1 0))]) (shut [7] (vaE kk ks ko known l (List.replicate 1024 0) vZ)) (.cell 6 215), some [] with
   | some d, some ds => some (d :: ds)
   | _, _ => none) = _
  have : resultD Tryz.prog (mkT 63 0 [(6, .ref (.ptr 1 0))]) (shut [7] (vaE kk ks ko known l (List.replicate 1024 0) vZ)) (.cell 6 215) = some (.agg (aI (aP kk ks ko known l)).flatten) := hc
  rw [this]
 simp only [finF, pre]
 rw [hr]
 rfl
theorem values_ev {kk ks ko known : Int} {l : List FactT} (hl : ao l) (h : List Blk) : Ev Tryz.prog Γ0 159 [ab (l.map FactT.row), .agg [int kk, int ks, int ko], int known] h (.agg (aI (aP kk ks ko known l)).flatten) h :=
 Ev.frame0 rfl (by have := Ev.trim (h := []) (d := .agg (aI (aP kk ks ko known l)).flatten) inn_agg rfl (values_a (kk := kk) (ks := ks) (ko := ko) (known := known) hl); simpa using this) h
end Go.Vi
open Go Go.Proofs
namespace Go.Vi
set_option maxRecDepth 100000
set_option maxHeartbeats 4000000
abbrev am (rs : List (List Dp)) : List (List D) := rs.map (List.map D.p)
theorem ah (rs : List (List Dp)) (f : Ref → D) : (am rs).map (D.mapRL f) = am rs := bp f rs
theorem innL_p (k : Nat) : ∀ r : List Dp, D.innL k (r.map .p) = true
 | [] => rfl
 | _ :: r => by simp [D.innL, D.inn, innL_p k r]
theorem bR (rs : List (List Dp)) (k : Nat) : (am rs).all (D.innL k) = true := by
 rw [List.all_eq_true]
 intro r hr
 obtain ⟨x, _, rfl⟩ := List.mem_map.1 hr
 exact innL_p k x
theorem st_int1 {h : List Blk} {l r : List Int} (hb : h[1]? = some (.var (aI r).flatten)) (hr : r.length = 1024) (hl : l.length = 1024) : cm Tryz.prog h 215 (.ref (.ptr 1 0)) (.agg (aI l).flatten) = some (h.set 1 (.var (aI l).flatten)) :=
 store_all agg_cells (by rw [eW (sz := 1) (aI l) (fun r hr => by obtain ⟨_, _, rfl⟩ := List.mem_map.1 hr; rfl)]; simp only [aI, List.length_map, hl]; kernel_rfl)
  (by rw [eW (sz := 1) (aI l) (fun r hr => by obtain ⟨_, _, rfl⟩ := List.mem_map.1 hr; rfl), eW (sz := 1) (aI r) (fun r hr => by obtain ⟨_, _, rfl⟩ := List.mem_map.1 hr; rfl)]; simp [hl, hr]) hb
structure PtT where
 term : Int
 value : Int
 deriving Inhabited, DecidableEq
def PtT.row (p : PtT) : List Dp := [vi p.term, vi p.value]
theorem pt_load {h : List Blk} {off n : Nat} {l : List Int} {v : Int} (hb : h[1]? = some (.var (aI l).flatten)) (hs : l[n]? = some v) (ho : off = n * 1) : bK Tryz.prog h 3 (.ref (.ptr 1 off)) = some (int v) := by
 subst ho
 exact load_arr1 (sz := 1) (j := 0) (row := [int v]) (by kernel_rfl) (by kernel_rfl) hb (fun r hr => by obtain ⟨_, _, rfl⟩ := List.mem_map.1 hr; rfl) (by simp [hs]) rfl
noncomputable abbrev ptH (kk ks ko : Int) (rs : List Int) (l : List PtT) : List Blk := [.var [int kk, int ks, int ko], .var (aI rs).flatten, .vec (am (l.map PtT.row)) 0 2]
noncomputable abbrev ptS (kk ks ko to : Int) (rs : List Int) (l : List PtT) (x : Int) : AS := { t := mkT 38 0 [(3, int to), (10, .ref (.vec 2 0)), (11, .ref (.ptr 1 0)), (12, int x)], h := ptH kk ks ko rs l, m := [] }
theorem dK (f : Ref → D) (l : List Int) : D.mapRL f (aI l).flatten = (aI l).flatten := by
 induction l with
 | nil => rfl
 | cons n l ih => simp only [aI, List.map_cons, List.flatten_cons, List.cons_append, List.nil_append, D.mapRL, D.mapR] at ih ⊢; rw [ih]
theorem inn_intM {n : Nat} {l : List Int} {f : Ref → D} : Blk.inn n (.var (D.mapRL f (aI l).flatten)) = true := by rw [dK]; exact inn_int
theorem af {n : Nat} {rs : List (List Dp)} {e sz : Nat} : Blk.inn n (.vec (am rs) e sz) = true := bR rs n
def ptF (v : Int) (n : Nat) (l : List PtT) : List PtT := bif decide (v ≥ 0) then l ++ [⟨(n : Int), v⟩] else l
theorem ek (l : List PtT) (n : Nat) (v : Int) : am (l.map PtT.row) ++ [[int (n : Int), int v]] = am ((l ++ [PtT.mk (n : Int) v]).map PtT.row) := by simp [PtT.row]
theorem pt_b {kk ks ko to : Int} {rs : List Int} {l : List PtT} {n : Nat} {v : Int} (hv : rs[n]? = .some v) (hn : inR (n : Int) 1024 = true) (hl : l.length ≤ 2000) (hlt : decide ((n : Int) < if false = true then if 1024 > to then 1024 else to else if 1024 < to then 1024 else to) = true) (hw : IntKind.i64.wrap ((n : Int) + 1) = ((n + 1 : Nat) : Int)) : (CW Tryz.prog Γ0 [] false (sub Tryz.f111 0) (ptS kk ks ko to rs l (n : Int)) .normal (ptS kk ks ko to rs (ptF v n l) ((n + 1 : Nat) : Int))) := by
 cases hc0 : decide (v ≥ 0)
 ·refine CW.cast (CW.symX (s' := { t := mkT 38 0 [(3, int to), (10, .ref (.vec 2 0)), (11, .ref (.ptr 1 0)), (12, int (IntKind.wrap IntKind.i64 ((↑n : Int) + 1)))], h := [.var [int kk, int ks, int ko], .var (D.mapRL (bX 2 0 0) (List.flatten (aI rs))), .vec (am (List.map PtT.row l)) 0 2], m := [] }) (e := Exit.normal) pok [.st (.mask [3, 10, 11, 12]), .st (.ren 2 0), .st (.trimV 3)] [.b true, .ov 27 (int v), .b false] (by kernel_rfl) (.c hlt (.c hn (.c (show bK Tryz.prog [.var [int kk, int ks, int ko], .var (List.flatten (aI rs)), .vec (am (List.map PtT.row l)) 0 2] 3 (.ref (.ptr 1 (0 + Int.toNat (↑n : Int) * 1))) = some (int v) from ?_) (.c hc0 (.c (show List.map (D.mapRL (bX 2 0 0)) (am (List.map PtT.row l)) = am (List.map PtT.row l) from ?_) (.c (show Blk.inn 3 (match 0 == 2 with | true => .vec (am (List.map PtT.row l)) 0 2 | false => keepX (bX 2 0 0) (.var [int kk, int ks, int ko])) = true from rfl) (.c (show Blk.inn 3 (match 0 + 1 == 2 with | true => .vec (am (List.map PtT.row l)) 0 2 | false => keepX (bX 2 0 0) (.var (List.flatten (aI rs)))) = true from ?_) (.c (show Blk.inn 3 (match 0 + 1 + 1 == 2 with | true => .vec (am (List.map PtT.row l)) 0 2 | false => keepX (bX 2 0 0) (.vec (am (List.map PtT.row l)) 0 2)) = true from ?_) .n))))))))) (by first | (simp only []; done) | (simp only [hw, ptF, hc0, cond_true, cond_false, ek, dK]; first | done | rfl)) (by first | (simp only [hw, ptF, hc0, cond_false, dK]; done) | (simp only [hw, ptF, hc0, cond_true, cond_false, ek, dK]; first | done | rfl)) <;> (first | assumption | rfl | exact pt_load rfl hv (by simp) | exact ah _ _ | (rw [ek]; exact ah _ _) | exact inn_int | exact inn_intM | exact af | (rw [ek]; exact af) | exact bR _ _ | (rw [ek]; exact bR _ _) | (simp [bh, D.one, Value.oneCell', roomOk]; omega))
 ·refine CW.cast (CW.symX (s' := { t := mkT 38 0 [(3, int to), (10, .ref (.vec 2 0)), (11, .ref (.ptr 1 0)), (12, int (IntKind.wrap IntKind.i64 ((↑n : Int) + 1)))], h := [.var [int kk, int ks, int ko], .var (D.mapRL (bX 2 1 0) (List.flatten (aI rs))), .vec (am (List.map PtT.row l) ++ [[int (↑n : Int), int v]]) 0 2], m := [] }) (e := Exit.normal) pok [.st (.mask [3, 10, 11, 12]), .st (.ren 2 0), .st (.trimV 3)] [.b true, .ov 27 (int v), .b true, .ov 33 (int v)] (by kernel_rfl) (.c hlt (.c hn (.c (show bK Tryz.prog [.var [int kk, int ks, int ko], .var (List.flatten (aI rs)), .vec (am (List.map PtT.row l)) 0 2] 3 (.ref (.ptr 1 (0 + Int.toNat (↑n : Int) * 1))) = some (int v) from ?_) (.c hc0 (.c hn (.c (show bK Tryz.prog [.var [int kk, int ks, int ko], .var (List.flatten (aI rs)), .vec (am (List.map PtT.row l)) 0 2] 3 (.ref (.ptr 1 (0 + Int.toNat (↑n : Int) * 1))) = some (int v) from ?_) (.c (show (List.all [[int (↑n : Int), int v]] (bh 2) && roomOk (List.length (am (List.map PtT.row l)) + List.length [[int (↑n : Int), int v]]) 16) = true from ?_) (.c (show List.map (D.mapRL (bX 2 1 0)) (am (List.map PtT.row l) ++ [[int (↑n : Int), int v]]) = am (List.map PtT.row l) ++ [[int (↑n : Int), int v]] from ?_) (.c (show [[int (↑n : Int), int v]] = [[int (↑n : Int), int v]] from rfl) (.c (show Blk.inn 3 (match 0 == 2 with | true => .vec (am (List.map PtT.row l) ++ [[int (↑n : Int), int v]]) 0 2 | false => keepX (bX 2 1 0) (.var [int kk, int ks, int ko])) = true from rfl) (.c (show Blk.inn 3 (match 0 + 1 == 2 with | true => .vec (am (List.map PtT.row l) ++ [[int (↑n : Int), int v]]) 0 2 | false => keepX (bX 2 1 0) (.var (List.flatten (aI rs)))) = true from ?_) (.c (show Blk.inn 3 (match 0 + 1 + 1 == 2 with | true => .vec (am (List.map PtT.row l) ++ [[int (↑n : Int), int v]]) 0 2 | false => keepX (bX 2 1 0) (.vec (am (List.map PtT.row l) ++ [[int (↑n : Int), int v]]) 1 2)) = true from ?_) .n))))))))))))) (by first | (simp only []; done) | (simp only [hw, ptF, hc0, cond_true, cond_false, ek, dK]; first | done | rfl)) (by first | (simp only [hw, ptF, hc0, cond_true, dK]; done) | (simp only [hw, ptF, hc0, cond_true, ek, dK]; first | done | rfl)) <;> (first | assumption | rfl | exact pt_load rfl hv (by simp) | exact ah _ _ | (rw [ek]; exact ah _ _) | exact inn_int | exact inn_intM | exact af | (rw [ek]; exact af) | exact bR _ _ | (rw [ek]; exact bR _ _) | (simp [bh, D.one, Value.oneCell', roomOk]; omega))
theorem pt_last {kk ks ko to : Int} {rs : List Int} {l : List PtT} {x : Int} (hlt : decide (x < if false = true then if 1024 > to then 1024 else to else if 1024 < to then 1024 else to) = false) : (CW Tryz.prog Γ0 [] false (sub Tryz.f111 0) (ptS kk ks ko to rs l x) (.exit 0) { t := mkT 38 0 [(10, .ref (.vec 2 0))], h := ptH kk ks ko rs l, m := [] }) := by
 exact CW.cast (CW.symX (s' := { t := mkT 38 0 [(10, .ref (.vec 2 0))], h := [.var [int kk, int ks, int ko], .var (List.flatten (aI rs)), .vec (am (List.map PtT.row l)) 0 2], m := [] }) (e := Exit.exit 0) pok [.st (.mask [10])] [.b false] (by kernel_rfl) (.c hlt .n)) (by rfl) (by rfl)
def ptHi (to : Int) : Int := if to < 1024 then to else 1024
theorem ptHi_eq (to : Int) : (if false = true then if 1024 > to then 1024 else to else if 1024 < to then 1024 else to) = ptHi to := by
 unfold ptHi; simp; split <;> split <;> omega
def ptIn (rs : List Int) (x to : Int) : List PtT := (List.range' x.toNat (ptHi to - x).toNat).foldl (fun l n => ptF (rs.getD n 0) n l) []
theorem ptF_len (v : Int) (n : Nat) (l : List PtT) : (ptF v n l).length ≤ l.length + 1 := by unfold ptF; cases decide (v ≥ 0) <;> simp
theorem pt_cw {kk ks ko to : Int} {rs : List Int} (hr : rs.length = 1024) {x : Int} (hx : 0 ≤ x) :
  CW Tryz.prog Γ0 [] false (.loop (sub Tryz.f111 0)) (ptS kk ks ko to rs [] x) (.exit 0) { t := mkT 38 0 [(10, .ref (.vec 2 0))], h := ptH kk ks ko rs (ptIn rs x to), m := [] } := by
 have hx' : ((x.toNat : Nat) : Int) = x := by omega
 have hh : ptHi to ≤ 1024 := by unfold ptHi; split <;> omega
 have := CW.each (P := Tryz.prog) (Γ := Γ0) (h0 := []) (rd := false) (c := sub Tryz.f111 0) (σ := List PtT) (ρ := Empty) (List.range' x.toNat (ptHi to - x).toNat) (fun n l => .inl (ptF (rs.getD n 0) n l))
  (fun i l => ptS kk ks ko to rs l (x + (i : Int))) (.exit 0) (fun l => { t := mkT 38 0 [(10, .ref (.vec 2 0))], h := ptH kk ks ko rs l, m := [] }) (fun r => r.elim)
  (fun i l => l.length ≤ i) (by simp) (fun r => r.elim) ?_ ?_ [] (by simp)
 ·rw [br (fun l n => ptF (rs.getD n 0) n l)] at this
  simpa [cw, ptIn] using this
 ·intro i n l hn hs
  obtain ⟨hi, he⟩ := List.getElem?_eq_some_iff.1 hn
  simp only [List.length_range'] at hi
  simp only [List.getElem_range', Nat.one_mul] at he
  have hlt : (n : Int) < ptHi to := by omega
  have hb : rs[n]? = some (rs.getD n 0) := by
   rw [List.getD, List.getElem?_eq_getElem (by rw [hr]; omega)]; rfl
  refine ⟨fun s' h => by cases h; have := ptF_len (rs.getD n 0) n l; omega, ?_⟩
  have key := pt_b (kk := kk) (ks := ks) (ko := ko) (to := to) (l := l) hb (by simp [inR]; omega) (by omega) (by rw [ptHi_eq]; simpa using hlt) (by rw [wrap_i64 (by omega) (by omega)]; omega)
  have e1 : x + (i : Int) = (n : Int) := by omega
  have e2 : x + ((i + 1 : Nat) : Int) = ((n + 1 : Nat) : Int) := by omega
  simp only [ae, e1, e2]
  exact key
 ·intro l _
  refine pt_last ?_
  rw [ptHi_eq]
  simp
  omega
def ptLo (frm : Int) : Int := if true = true then if frm > 0 then frm else 0 else if frm < 0 then frm else 0
def aL (kk ks ko frm to known : Int) (l : List FactT) : List PtT := ptIn (aP kk ks ko known l) (ptLo frm) to
theorem ptLo_nn (frm : Int) : 0 ≤ (if true = true then if frm > 0 then frm else 0 else if frm < 0 then frm else 0) := by simp; split <;> omega
theorem points_a {kk ks ko frm to known : Int} {l : List FactT} (hl : ao l) {r0 : List Int} (e1 : cK Tryz.prog [.var [int kk, int ks, int ko]] 215 (.ref (.ptr 1 0)) [.var [int kk, int ks, int ko], .var (aI r0).flatten]) (h0 : r0.length = 1024) (h : List Blk) : (Ev Tryz.prog Γ0 111 [ab (l.map FactT.row), .agg [int kk, int ks, int ko], int frm, int to, int known] h (ab ((aL kk ks ko frm to known l).map PtT.row)) h) := by
 have hl0 := (@pt_cw (kk) (ks) (ko) (to) (aP kk ks ko known l) (by first | assumption | rfl | exact ck | exact ptLo_nn _ | exact st_int1 rfl h0 ck | (simp; done)) (if true = true then if frm > 0 then frm else 0 else if frm < 0 then frm else 0) (by first | assumption | rfl | exact ck | exact ptLo_nn _ | exact st_int1 rfl h0 ck | (simp; done)))
 refine Ev.castH (Ev.sym0 (d := ab (List.map PtT.row (aL kk ks ko frm to known l))) pok [.val (D.agg (List.flatten (aI (aP kk ks ko known l)))), .oh 11 (.ref (.ptr 1 0)) [.var [int kk, int ks, int ko], .var (List.flatten (aI r0))], .oh 10011 D.any [.var [int kk, int ks, int ko], .var (List.flatten (aI (aP kk ks ko known l)))], .nx 1, .st (.nilT 10 2), .sum [3, 10, 11, 12] (Exit.exit 0) { t := mkT 38 0 [(10, .ref (.vec 2 0))], h := [.var [int kk, int ks, int ko], .var (List.flatten (aI (aP kk ks ko known l))), .vec (am (List.map PtT.row (ptIn (aP kk ks ko known l) (if true = true then if frm > 0 then frm else 0 else if frm < 0 then frm else 0) to))) 0 2], m := [] }, .st (.frz 2 (List.map PtT.row (aL kk ks ko frm to known l)))] (by kernel_rfl) (.c (@values_ev (kk) (ks) (ko) (known) (l) (hl) ([.var [int kk, int ks, int ko]])) (.c (show cK Tryz.prog [.var [int kk, int ks, int ko]] 215 (.ref (.ptr 1 0)) [.var [int kk, int ks, int ko], .var (List.flatten (aI r0))] from ?_) (.c (show cm Tryz.prog [.var [int kk, int ks, int ko], .var (List.flatten (aI r0))] 215 (.ref (.ptr 1 0)) (D.agg (List.flatten (aI (aP kk ks ko known l)))) = some [.var [int kk, int ks, int ko], .var (List.flatten (aI (aP kk ks ko known l)))] from ?_) (.c hl0 (.c (show am (List.map PtT.row (ptIn (aP kk ks ko known l) (if true = true then if frm > 0 then frm else 0 else if frm < 0 then frm else 0) to)) = List.map (fun x => List.map D.p x) (List.map PtT.row (aL kk ks ko frm to known l)) from ?_) .n))))) rfl rfl h) (by rfl) (by rfl) <;> (first | assumption | rfl | exact ck | exact ptLo_nn _ | exact st_int1 rfl h0 ck | (simp; done))
theorem points_ev {kk ks ko frm to known : Int} {l : List FactT} (hl : ao l) (h : List Blk) : Ev Tryz.prog Γ0 111 [ab (l.map FactT.row), .agg [int kk, int ks, int ko], int frm, int to, int known] h (ab ((aL kk ks ko frm to known l).map PtT.row)) h :=
 points_a hl (r0 := List.replicate 1024 0) (by unfold cK; kernel_rfl) (by simp) h
end Go.Vi
open Go Go.Proofs Go.Shelf Go.RowKit Go.Sort
namespace Go.Vi
abbrev valsV {α : Type} (enc : α → List Value) (l : List α) : List (List D) := l.map fun x => (enc x).map lit
theorem relL_vlits {w : World} {av : Nat → Prop} {loc : Loc} {h : List Blk} : ∀ {vs ys : List Value}, RelL w av loc h (vs.map lit) ys → ys = vs
  | [], [], _ => rfl
  | [], _ :: _, r => by simp [RelL] at r
  | _ :: _, [], r => by simp [RelL] at r
  | v :: vs, y :: ys, r => by
    simp only [List.map_cons, RelL] at r
    have h1 : y = v := by simpa [Rel, RelP] using r.1
    rw [h1, relL_vlits r.2]
theorem eY {w : World} {av : Nat → Prop} {loc : Loc} {h : List Blk} : ∀ {vs : List Value}, RelL w av loc h (vs.map lit) vs
  | [] => trivial
  | v :: vs => by
    simp only [List.map_cons, RelL]
    exact ⟨by simp [Rel, RelP], eY⟩
theorem valsV_flat {α : Type} (enc : α → List Value) (l : List α) : (valsV enc l).flatten = ((l.map enc).flatten).map lit := by
  induction l with
  | nil => rfl
  | cons a l ih => simp only [valsV, List.map_cons, List.flatten_cons, List.map_append] at ih ⊢; rw [ih]
theorem flatK_list {α : Type} [Inhabited α] (enc : α → List Value) (k : Nat) (hk : ∀ x, (enc x).length = k) (l : List α) : (flatK enc k l.toArray).toList = (l.map enc).flatten := by
  have key : ∀ (l : List α) (t : Nat), t < l.length * k → ((l.map enc).flatten)[t]? = some ((enc (l.toArray[t / k]!))[t % k]!) := by
    intro l
    induction l with
    | nil => intro t h; simp at h
    | cons a l ih =>
      intro t h
      simp only [List.map_cons, List.flatten_cons]
      rcases Nat.lt_or_ge t k with hlt | hge
      · rw [List.getElem?_append_left (by rw [hk]; exact hlt), Nat.div_eq_of_lt hlt, Nat.mod_eq_of_lt hlt]
        have : t < (enc a).length := by rw [hk]; exact hlt
        simp [this]
      · have k0 : 0 < k := by rcases Nat.eq_zero_or_pos k with h0 | h0
                              · subst h0; simp at h
                              · exact h0
        rw [List.getElem?_append_right (by rw [hk]; exact hge), hk]
        obtain ⟨u, rfl⟩ : ∃ u, t = u + k := ⟨t - k, by omega⟩
        have hu : u < l.length * k := by simp only [List.length_cons, Nat.add_mul, Nat.one_mul] at h; omega
        rw [show u + k - k = u by omega, ih u hu, Nat.add_div_right _ k0, Nat.add_mod_right]
        simp
  apply List.ext_getElem?
  intro t
  have hlen : ((l.map enc).flatten).length = l.length * k := by
    clear key
    induction l with
    | nil => simp
    | cons a l ih => simp only [List.map_cons, List.flatten_cons, List.length_append, hk, ih, List.length_cons, Nat.add_mul, Nat.one_mul]; omega
  by_cases ht : t < l.length * k
  · rw [key l t ht]
    simp [flatK, ht]
  · rw [List.getElem?_eq_none (by simp [flatK]; omega), List.getElem?_eq_none (by omega)]
theorem world_grow {w w' : World} (h1 : w.heap.size ≤ w'.heap.size) (h2 : ∀ k, k < w.heap.size → w'.heap[k]? = w.heap[k]?) (h3 : w'.tape = w.tape ∧ w'.os = w.os ∧ w'.output = w.output ∧ w.drawn ≤ w'.drawn) :
    ∃ q os', w' = Sort.grow (w.drewN q) os' := by
  refine ⟨w'.drawn - w.drawn, w'.heap.extract w.heap.size w'.heap.size, ?_⟩
  obtain ⟨heap, tape, drawn, os, output⟩ := w
  obtain ⟨heap', tape', drawn', os', output'⟩ := w'
  obtain ⟨rfl, rfl, rfl, h4⟩ := h3
  simp only [Sort.grow, World.drewN] at h1 h2 h4 ⊢
  congr 1
  · apply Array.ext'
    rw [Array.toList_append, Array.toList_extract]
    apply List.ext_getElem?
    intro i
    by_cases hi : i < heap.size
    · rw [List.getElem?_append_left (by simpa using hi)]
      have := h2 i hi
      rw [← Array.getElem?_toList, ← Array.getElem?_toList] at this
      exact this
    · rw [List.getElem?_append_right (by simpa using Nat.le_of_not_lt hi)]
      simp only [List.extract_eq_take_drop, Array.length_toList]
      by_cases hj : i < heap'.size
      · rw [List.getElem?_take, if_pos (by omega), List.getElem?_drop]
        congr 1; omega
      · rw [List.getElem?_eq_none (by simpa using Nat.le_of_not_lt hj), List.getElem?_eq_none (by simp; omega)]
  · omega
theorem cmpLays_of {P : Program} {Γ : al} {O : Nat → Prop} {α : Type} [Inhabited α] {enc : α → List Value} {k g : Nat} {cf : α → α → Int} {w : World} {loc : Loc} {h : List Blk} (R : Rep Γ O w loc h) {blk : Nat} (hblk : avs O loc h blk)
    (hE : ∀ x y, Ev P Γ g [.agg ((enc x).map lit), .agg ((enc y).map lit)] [] (int (cf x y)) []) (size : Nat) : CmpLays P g #[] enc k cf blk 0 size w := by
  intro m os dk hs x y
  generalize hW : sortWorldK enc k w blk 0 m dk os = W
  have hb : blk < w.heap.size := by
    rcases hblk with ho | ho
    · exact R.obd blk ho
    · exact (R.inb blk ho).1
  have hcell : ∀ b off v, ¬ avs O loc h b → w.cell? ⟨b, off, none⟩ = some v → W.cell? ⟨b, off, none⟩ = some v ∧ ¬ avs (fun _ => False) loc [] b := by
    intro b off v hn hc
    have hne : b ≠ blk := fun e => hn (e ▸ hblk)
    refine ⟨?_, fun ho => ho.elim id (fun h => absurd h cv)⟩
    subst hW
    have hlt : b < w.heap.size := by
      simp only [World.cell?] at hc
      split at hc
      · rename_i hx; exact (Array.getElem?_eq_some_iff.1 hx).1
      · simp at hc
    have : (sortWorldK enc k w blk 0 m dk os).heap[b]? = w.heap[b]? := by
      unfold sortWorldK
      rw [Sort.heap_grow_old _ _ (by simpa [putRowK, Sort.putRow, Sort.mapBlock, Sort.ahead] using hlt)]
      simp [putRowK, Sort.putRow, Sort.mapBlock, Sort.ahead, Array.getElem?_modify, Ne.symm hne]
    simp only [World.cell?, this]
    exact hc
  have R0 : Rep Γ (fun _ => False) W loc [] := by
    refine ⟨fun blk ho => absurd ho cv, fun blk ho => ho.elim, fun b b' x x' k c c' hb => by simp at hb, fun b x hb => by simp at hb, fun g cs hg => ?_⟩
    exact RelCells.mono hcell g 0 cs (R.glo g cs hg)
  have ra : RelL W (avs (fun _ => False) loc []) loc [] [.agg ((enc x).map lit), .agg ((enc y).map lit)] [.agg (enc x).toArray, .agg (enc y).toArray] := by
    refine ⟨⟨_, rfl, eY⟩, ⟨_, rfl, eY⟩, trivial⟩
  refine Calls.mono (callsIn_wide.1 (hE x y (fun _ => False) W loc _ R0 ra)) ?_
  rintro e w' ⟨v, d2, h2, l', rfl, ⟨rfl, rfl⟩, R', E', rd⟩
  refine ⟨?_, world_grow E'.size (fun b hb => E'.same b hb cv) E'.tape⟩
  have : v = .int .i64 (cf x y) := by simpa [Rel, RelP] using rd
  rw [this]
theorem sortFunc_ev' {P : Program} {ρ : Ren} {Γ : al} (ok : POk P) (L : SlLaysF0.n6 P ρ) {α : Type} [Inhabited α] {enc : α → List Value} {k : Nat} (aE : ∀ w, (isAgg (ρ.t 24)).run P w = .ok true w) (zE : ∀ w, (Go.sizeOf (ρ.t 24)).run P w = .ok k w) (hk : ∀ x, (enc x).length = k) (h1 : ∀ x, ∀ v ∈ enc x, v.oneCell' = true)
    {cf : α → α → Int} (hO : Sort.SWO (ltOf cf)) {g : Nat} (hg : eK P g = true) (hE : ∀ x y, Ev P Γ g [.agg ((enc x).map lit), .agg ((enc y).map lit)] [] (int (cf x y)) [])
    {h : List Blk} {b e : Nat} {l : List α} (hb : h[b]? = some (.vec (valsV enc l) e k)) (hl : l.length < 4611686018427387904) (hT : ∀ x ∈ l, ∀ y ∈ l, (ltOf cf) x y = false → (ltOf cf) y x = false → x = y) :
    Ev P Γ (ρ.f 6) [.ref (.vec b e), .p (.v (.func (.func g) #[] #[]))] h (.tup []) (h.set b (.vec (valsV enc (l.mergeSort fun x y => !(ltOf cf) y x)) e k)) := by
  intro O w loc vs R ra
  obtain ⟨y, rfl⟩ : ∃ y, vs = [y, .func (.func g) #[] #[]] := by
    match vs, ra with
    | [y, z], r => exact ⟨y, by have : z = .func (.func g) #[] #[] := by simpa [Rel, RelP, RelL] using r.2
                                rw [this]⟩
    | [], r => simp [RelL] at r
    | [_], r => simp [RelL] at r
    | _ :: _ :: _ :: _, r => simp [RelL] at r
  have r := ra.1
  simp only [Rel, RefRel, hb] at r
  have hv := r.2.2 trivial
  have B := R.blk b _ hb
  simp only [BlkOk] at B
  have hlen : (valsV enc l).length = l.length := by simp [valsV]
  refine callsIn_wide.2 ?_
  cases hlb : loc b with
  | none =>
    rw [hlb] at hv B
    obtain ⟨hn, rfl⟩ := hv
    have hl0 : l = [] := by simpa [valsV] using hn
    subst hl0
    refine Calls.mono (AnyF.slices_SortFunc_none L none 0 _ w) ?_
    rintro e' w' ⟨rfl, rfl⟩
    have hset : h.set b (.vec (valsV enc (([] : List α).mergeSort fun x y => !(ltOf cf) y x)) e k) = h := by
      apply List.ext_getElem?
      intro i
      by_cases hi : i = b
      · subst hi; rw [aY hb, hb]; simp
      · rw [bF _ _ hi]
    refine ⟨.tuple #[], .tup [], _, loc, rfl, ⟨rfl, rfl⟩, ?_, ?_, ?_⟩
    · rw [hset]; exact R
    · rw [hset]; exact Ext.refl _ _ _
    · simp [Rel, RelL]
  | some p =>
    obtain ⟨blk, cap⟩ := p
    rw [hlb] at hv B
    obtain ⟨rfl, hcap⟩ := hv
    simp only at B
    obtain ⟨c, T, fr, ys, hobj, hcs, hle, hfr, hsz, hrel, rest, hcl⟩ := B
    rw [valsV_flat] at hrel
    have hys := relL_vlits hrel
    subst hys
    have hblk : blk < w.heap.size := (Array.getElem?_eq_some_iff.1 hobj).1
    have hown : avs O loc h blk := .inr ⟨b, _, cap, hb, by simp, hlb⟩
    have hH : HoldsK enc k w blk 0 l.toArray := by
      intro j hj
      have hj' : j < l.length * k := by simpa using hj
      have hc : c[j]? = some (flatK enc k l.toArray)[j]! := by
        rw [← Array.getElem?_toList, hcl, ← flatK_list enc k hk l, List.getElem?_append_left (by simpa using hj')]
        rw [Array.getElem?_toList, getElem!_pos _ j (by simpa using hj')]
        exact Array.getElem?_eq_getElem _
      constructor
      · simp [World.cell?, hobj, hc]
      · have := hfr j (Array.getElem?_eq_some_iff.1 hc).1
        obtain ⟨lo, hi⟩ := fr
        simp only [World.frozen?, hobj, Nat.zero_add]
        rw [← Bool.not_eq_true]
        simpa using this
    have eg : ∀ args w, (callFunc g args).run P w = .ok (.enter g args) w := fun args w => by
      unfold eK at hg
      split at hg
      · rename_i fn hfn; exact call_run ok hfn hg args w
      · simp at hg
    rw [hlen]
    refine Calls.mono (AnyQ.slices_SortFunc L k aE zE enc hk h1 cf hO g #[] blk 0 cap l.toArray w eg (cmpLays_of R hown hE _) hH hblk hl) ?_
    rintro e' w' ⟨rfl, d', n, os, hP, hS, rfl⟩
    have hd' : d'.toList = l.mergeSort fun x y => !(ltOf cf) y x := by
      obtain ⟨hsz', _, hperm⟩ := hP
      have e1 : d'.extract 0 l.toArray.size = d' := by rw [← hsz']; exact Array.extract_size
      rw [e1, Array.extract_size] at hperm
      refine List.Perm.eq_of_pairwise (le := fun x y => (!(ltOf cf) y x) = true) ?_ ?_ ?_ (hperm.trans (List.mergeSort_perm _ _).symm)
      · intro a b' ha hb' h1 h2
        simp only [Bool.not_eq_true'] at h1 h2
        have ha' : a ∈ l := by simpa using hperm.mem_iff.1 ha
        have hb2 : b' ∈ l := (List.mergeSort_perm _ _).mem_iff.1 hb'
        exact hT a ha' b' hb2 h2 h1
      · rw [List.pairwise_iff_getElem]
        intro i j hi hj hij
        have hi' : i < d'.size := by simpa using hi
        have hj' : j < d'.size := by simpa using hj
        have := hS i j (Nat.zero_le _) hij (by omega)
        rw [getElem!_pos d' j hj', getElem!_pos d' i hi'] at this
        simpa using this
      · exact List.pairwise_mergeSort (fun a b c h1 h2 => by
          simp only [Bool.not_eq_true'] at h1 h2 ⊢
          exact hO.ntrans _ _ _ h2 h1) (fun a b => by
          cases hab : (ltOf cf) b a
          · simp
          · have : (ltOf cf) a b = false := by
              cases hba : (ltOf cf) a b
              · rfl
              · have := hO.trans _ _ _ hab hba
                rw [hO.irrefl] at this; exact absurd this (by simp)
            simp [this]) l
    have hdA : d' = (l.mergeSort fun x y => !(ltOf cf) y x).toArray := by rw [← hd']
    have hlm : (l.mergeSort fun x y => !(ltOf cf) y x).length = l.length := by simp
    subst hdA
    clear hP hS hd'
    generalize (l.mergeSort fun x y => !(ltOf cf) y x) = m at hlm ⊢
    have hobj' : (sortWorldK enc k w blk 0 n m.toArray os).heap[blk]? = some (.cells (Sort.putCells id 0 (flatK enc k m.toArray) c) T fr) := by
      unfold sortWorldK
      rw [Sort.heap_grow_old _ _ (by simpa [putRowK, Sort.putRow, Sort.mapBlock, Sort.ahead] using hblk)]
      simp [putRowK, Sort.putRow, Sort.mapBlock, Sort.ahead, Array.getElem?_modify, hobj, Sort.onCells]
    have hfl : ((l.map enc).flatten).length = l.length * k := by rw [← flatK_list enc k hk]; simp
    have hcells : (Sort.putCells id 0 (flatK enc k m.toArray) c).toList = (m.map enc).flatten ++ rest := by
      unfold Sort.putCells
      rw [Array.toList_mapIdx, hcl, ← flatK_list enc k hk m]
      apply List.ext_getElem?
      intro i
      rw [List.getElem?_mapIdx]
      by_cases hi : i < l.length * k
      · rw [List.getElem?_append_left (by rw [hfl]; exact hi), List.getElem?_append_left (by simpa [hlm] using hi)]
        have hi2 : i < ((l.map enc).flatten).length := by rw [hfl]; exact hi
        have hi3 : i < (flatK enc k m.toArray).size := by simpa [hlm] using hi
        rw [List.getElem?_eq_getElem hi2, Array.getElem?_toList, Array.getElem?_eq_getElem hi3]
        simp only [Option.map_some, Nat.zero_add, Nat.zero_le, Nat.sub_zero, true_and, id_eq, if_pos hi3]
        rw [getElem!_pos _ i hi3]
      · rw [List.getElem?_append_right (by rw [hfl]; exact Nat.le_of_not_lt hi), List.getElem?_append_right (by simpa [hlm] using Nat.le_of_not_lt hi)]
        simp [hi, hlm, hfl]
    have key := R.step (w' := sortWorldK enc k w blk 0 n m.toArray os) (l' := loc) (h' := h.set b (.vec (valsV enc m) e k)) b (.vec (valsV enc m) e k)
      (by simp [sortWorldK, Sort.grow, putRowK, Sort.putRow, Sort.mapBlock, Sort.ahead]) ⟨rfl, rfl, rfl, by simp [sortWorldK, Sort.grow, putRowK, Sort.putRow, Sort.mapBlock, Sort.ahead]⟩ (fun i hi => bF _ _ hi) (aY hb) (fun _ _ => rfl)
      (fun z hz => by rw [hb] at hz; cases hz; exact ⟨⟨Nat.le_refl _, fun _ => by simp [valsV, hlm], rfl⟩, fun _ => rfl⟩)
      (fun k' hk' hno => by
        have hkb : k' ≠ blk := fun e => hno _ cap hb (by simp) (by rw [hlb, e])
        unfold sortWorldK
        rw [Sort.heap_grow_old _ _ (by simpa [putRowK, Sort.putRow, Sort.mapBlock, Sort.ahead] using hk')]
        simp [putRowK, Sort.putRow, Sort.mapBlock, Sort.ahead, Array.getElem?_modify, Ne.symm hkb])
      (fun k' c' hk' => .inl ⟨_, c', hb, by simp, hk'⟩)
      (fun E => by
        simp only [BlkOk, hlb]
        refine ⟨_, T, fr, (m.map enc).flatten, hobj', ?_, ?_, ?_, ?_, ?_, rest, hcells⟩
        · simpa [Sort.putCells] using hcs
        · simpa [valsV, hlm] using hle
        · simpa [Sort.putCells] using hfr
        · intro r hr
          obtain ⟨x, _, rfl⟩ := List.mem_map.1 hr
          simp [hk]
        · rw [valsV_flat]; exact eY)
    exact ⟨.tuple #[], .tup [], _, loc, rfl, ⟨rfl, rfl⟩, key.1, key.2, by simp [Rel, RelL]⟩
end Go.Vi
open Go Go.Proofs Go.Shelf
namespace Go.Proofs
def Tryz.sortAtt_ren : Go.Shelf.Ren := ⟨fun | 6 => 117 | 15 => 122 | 14 => 162 | 28 => 173 | 29 => 174 | 20 => 200 | 21 => 201 | 22 => 202 | 23 => 203 | 24 => 204 | 25 => 205 | 26 => 206 | 27 => 207 | 46 => 227 | 47 => 211 | 48 => 212 | 49 => 228 | 50 => 229 | 57 => 235 | n => n, fun | 22 => 45 | 24 => 52 | 25 => 144 | 3 => 3 | 39 => 192 | 0 => 0 | 53 => 233 | 55 => 169 | 4 => 4 | 46 => 227 | 45 => 226 | 50 => 150 | 5 => 5 | 9 => 9 | 66 => 251 | 70 => 255 | 76 => 265 | 77 => 266 | n => n, fun | n => n⟩
theorem Tryz.sortAtt : Go.Proofs.SlLaysF0.n6 Tryz.prog Tryz.sortAtt_ren := {
 mixed := by kernel_rfl
 f6 := ⟨Tryz.f117.name, by decide, Tryz.func117.trans (congrArg some (by kernel_rfl))⟩
 f14 := ⟨Tryz.f162.name, by decide, Tryz.func162.trans (congrArg some (by kernel_rfl))⟩
 f15 := Tryz.func122.trans (congrArg some (by kernel_rfl))
 f20 := ⟨Tryz.f200.name, by decide, Tryz.func200.trans (congrArg some (by kernel_rfl))⟩
 f21 := ⟨Tryz.f201.name, by decide, Tryz.func201.trans (congrArg some (by kernel_rfl))⟩
 f22 := ⟨Tryz.f202.name, by decide, Tryz.func202.trans (congrArg some (by kernel_rfl))⟩
 f23 := ⟨Tryz.f203.name, by decide, Tryz.func203.trans (congrArg some (by kernel_rfl))⟩
 f24 := ⟨Tryz.f204.name, by decide, Tryz.func204.trans (congrArg some (by kernel_rfl))⟩
 f25 := ⟨Tryz.f205.name, by decide, Tryz.func205.trans (congrArg some (by kernel_rfl))⟩
 f26 := ⟨Tryz.f206.name, by decide, Tryz.func206.trans (congrArg some (by kernel_rfl))⟩
 f27 := ⟨Tryz.f207.name, by decide, Tryz.func207.trans (congrArg some (by kernel_rfl))⟩
 f28 := Tryz.func173.trans (congrArg some (by kernel_rfl))
 f29 := Tryz.func174.trans (congrArg some (by kernel_rfl))
 f46 := ⟨Tryz.f227.name, by decide, Tryz.func227.trans (congrArg some (by kernel_rfl))⟩
 f47 := Tryz.func211.trans (congrArg some (by kernel_rfl))
 f48 := Tryz.func212.trans (congrArg some (by kernel_rfl))
 f49 := ⟨Tryz.f228.name, by decide, Tryz.func228.trans (congrArg some (by kernel_rfl))⟩
 f50 := ⟨Tryz.f229.name, by decide, Tryz.func229.trans (congrArg some (by kernel_rfl))⟩
 f57 := ⟨Tryz.f235.name, by decide, Tryz.func235.trans (congrArg some (by kernel_rfl))⟩
 t0 := Tryz.underlying0
 a0 := Tryz.isAgg0
 z0 := Tryz.sizeOf0
 v0 := Tryz.zeroValue0
 t3 := Tryz.underlying3
 a3 := Tryz.isAgg3
 z3 := Tryz.sizeOf3
 v3 := Tryz.zeroValue3
 t4 := Tryz.underlying4
 a4 := Tryz.isAgg4
 z4 := Tryz.sizeOf4
 v4 := Tryz.zeroValue4
 t5 := Tryz.underlying5
 a5 := Tryz.isAgg5
 z5 := Tryz.sizeOf5
 v5 := Tryz.zeroValue5
 t9 := Tryz.underlying9
 a9 := Tryz.isAgg9
 z9 := Tryz.sizeOf9
 v9 := Tryz.zeroValue9
 t22 := Tryz.underlying45
 a22 := Tryz.isAgg45
 z22 := Tryz.sizeOf45
 v22 := Tryz.zeroValue45
 t25 := Tryz.underlying144
 a25 := Tryz.isAgg144
 z25 := Tryz.sizeOf144
 v25 := Tryz.zeroValue144
 t39 := Tryz.underlying192
 a39 := Tryz.isAgg192
 z39 := Tryz.sizeOf192
 v39 := Tryz.zeroValue192
 t45 := Tryz.underlying226
 a45 := Tryz.isAgg226
 z45 := Tryz.sizeOf226
 v45 := Tryz.zeroValue226
 t46 := Tryz.underlying227
 a46 := Tryz.isAgg227
 z46 := Tryz.sizeOf227
 v46 := Tryz.zeroValue227
 t50 := Tryz.underlying150
 a50 := Tryz.isAgg150
 z50 := Tryz.sizeOf150
 v50 := Tryz.zeroValue150
 t53 := Tryz.underlying233
 a53 := Tryz.isAgg233
 z53 := Tryz.sizeOf233
 v53 := Tryz.zeroValue233
 t55 := Tryz.underlying169
 a55 := Tryz.isAgg169
 z55 := Tryz.sizeOf169
 v55 := Tryz.zeroValue169
 t66 := Tryz.underlying251
 a66 := Tryz.isAgg251
 z66 := Tryz.sizeOf251
 v66 := Tryz.zeroValue251
 t70 := Tryz.underlying255
 a70 := Tryz.isAgg255
 z70 := Tryz.sizeOf255
 v70 := Tryz.zeroValue255
 t76 := Tryz.underlying265
 a76 := Tryz.isAgg265
 z76 := Tryz.sizeOf265
 v76 := Tryz.zeroValue265
 t77 := Tryz.underlying266
 a77 := Tryz.isAgg266
 z77 := Tryz.sizeOf266
 v77 := Tryz.zeroValue266 }
end Go.Proofs
namespace Go.Vi
open Go.Sort
def ordA (a b : AttT) : Int := orI (aD a.term b.term) (aD a.course b.course)
def leA (a b : AttT) : Bool := !(ltOf ordA) b a
theorem ltA_iff (a b : AttT) : (ltOf ordA) a b = true ↔ a.term < b.term ∨ (a.term = b.term ∧ a.course < b.course) := by
 unfold ltOf ordA orI aD
 simp only [decide_eq_true_eq]
 repeat' split
 all_goals simp_all
 all_goals omega
theorem ltA_fls (a b : AttT) : (ltOf ordA) a b = false ↔ ¬ (a.term < b.term ∨ (a.term = b.term ∧ a.course < b.course)) := by
 rw [← ltA_iff, Bool.not_eq_true]
theorem swoA : SWO (ltOf ordA) where
 irrefl x := by rw [ltA_fls]; omega
 trans x y z h1 h2 := by rw [ltA_iff] at *; omega
 ntrans x y z h1 h2 := by rw [ltA_fls] at *; omega
def encA (a : AttT) : List Value := [.int .i64 a.course, .int .i64 a.term, .int .i64 a.grade, .int .i64 a.campus, .int .i64 a.credits]
abbrev attsV (l : List AttT) : List (List D) := l.map fun a => a.row.map .p
theorem sortAtt_ev {h : List Blk} {b e : Nat} {l : List AttT} (hb : h[b]? = some (.vec (attsV l) e 5)) (hl : l.length < 4611686018427387904) (hT : ∀ x ∈ l, ∀ y ∈ l, x.term = y.term → x.course = y.course → x = y) :
  Ev Tryz.prog Γ0 117 [.ref (.vec b e), .p (.v (.func (.func 79) #[] #[]))] h (.tup []) (h.set b (.vec (attsV (l.mergeSort leA)) e 5)) :=
 sortFunc_ev' (α := AttT) (enc := encA) (k := 5) (cf := ordA) pok Tryz.sortAtt Tryz.isAgg52 Tryz.sizeOf52 (fun _ => rfl) (fun x v hv => by simp [encA] at hv; rcases hv with rfl | rfl | rfl | rfl | rfl <;> rfl) swoA (by kernel_rfl) (fun x y => order_ev []) hb hl
  (fun x hx y hy h1 h2 => by
   rw [ltA_fls] at h1 h2
   exact hT x hx y hy (by omega) (by omega))
end Go.Vi
