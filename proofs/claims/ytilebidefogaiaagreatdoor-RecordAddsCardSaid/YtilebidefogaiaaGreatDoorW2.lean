/- RecordAdds: part of the proof: contracts of the functions that the law reaches, and the law. No conditions beyond the given statement's own. -/
import Derived.Test.YtilebidefogaiaaGreatDoorW1
import Derived.Shelf.Slices.In.SortAlone
import Derived.Shelf.Slices.In.SortNone
import Derived.Sort.EveryDepth
open Go Go.Proofs
namespace Go.Vi
set_option maxRecDepth 100000
set_option maxHeartbeats 4000000
inductive RuleT where
 | mk (op course : Int) (name : ByteArray) (n d : Int) (kids : List RuleT)
mutual
def RuleT.row : RuleT → List Dp
 | .mk op c nm n d ks => [vi op, vi c, vs nm, vi n, vi d, .sl (ruleRows ks)]
def ruleRows : List RuleT → List (List Dp)
 | [] => []
 | k :: ks => k.row :: ruleRows ks
end
theorem eX : ∀ ks : List RuleT, ruleRows ks = ks.map RuleT.row
 | [] => rfl
 | k :: ks => by simp [ruleRows, eX ks]
mutual
def RuleT.ok : RuleT → Prop
 | .mk op c _ n d ks => (I64 op ∧ I64 c ∧ I64 n ∧ I64 d ∧ ao ks) ∧ rulesOk ks
def rulesOk : List RuleT → Prop
 | [] => True
 | k :: ks => k.ok ∧ rulesOk ks
end
theorem rulesOk_mem : ∀ {ks : List RuleT}, rulesOk ks → ∀ k ∈ ks, k.ok
 | [], _, k, hk => by simp at hk
 | a :: ks, h, k, hk => by
  simp only [rulesOk] at h
  rcases List.mem_cons.1 hk with rfl | hk
  ·exact h.1
  ·exact rulesOk_mem h.2 k hk
structure RuF where
 op : Int
 c : Int
 nm : ByteArray
 n : Int
 d : Int
 ks : List (List Dp)
def RuF.row (x : RuF) : List Dp := [vi x.op, vi x.c, vs x.nm, vi x.n, vi x.d, .sl x.ks]
def RuF.l (x : RuF) : List D := [int x.op, int x.c, ai x.nm, int x.n, int x.d, ab x.ks]
def RuF.formed (x : RuF) : Bool := ak x.op x.c x.n x.d x.ks.length
def RuF.ok (x : RuF) : Prop := I64 x.n ∧ I64 x.d
def stopB (n1 dep : Int) (f : Bool) : Bool := decide (n1 > 200) || decide (dep > 16) || !f
abbrev ckT : List D := mkT 23 0 [(2, .ref (.ptr 1 0)), (3, .ref (.ptr 2 0)), (7, .fn (.func 240) [] [.ref (.ptr 4 0), .ref (.ptr 3 0)])]
noncomputable abbrev ckH (r : RuF) (e n : Int) (st : LoopState) (pe : Option Code) : List Blk :=
 [.var r.l, .var [int e], .var [int n], .var r.l, .var [.fn (.func 239) [] [.ref (.ptr 4 0)]], .defd, .loop st pe 0 ckT #[8, 9] (ax (sub Tryz.f226 0)) (aj (sub Tryz.f226 0))]
abbrev ckU (dep : Int) : List D := mkT 23 0 [(2, .ref (.ptr 1 0)), (3, .ref (.ptr 2 0)), (4, int dep), (5, .ref (.ptr 8 0)), (7, .fn (.func 240) [] [.ref (.ptr 4 0), .ref (.ptr 3 0)])]
theorem ck_asg {r0 : RuF} {m dep : Int} {x : RuF} : (CW Tryz.prog Γk (ckH r0 0 m .ready none ++ [.var (x.l)]) true (ax (sub Tryz.f226 0)) { t := e8 ckT [(8, int dep), (9, .agg x.l)], h := ckH r0 0 m .ready none ++ [.var (x.l)], m := [] } .normal { t := ckU dep, h := ckH r0 0 m .ready none ++ [.var (x.l), .var (x.l)], m := [] }) := by
 exact CW.cast (CW.symX (s' := { t := mkT 23 0 [(2, .ref (.ptr 1 0)), (3, .ref (.ptr 2 0)), (4, int dep), (5, .ref (.ptr 8 0)), (7, D.fn (Fn.func 240) [] [.ref (.ptr 4 0), .ref (.ptr 3 0)])], h := [.var [int r0.op, int r0.c, ai r0.nm, int r0.n, int r0.d, ab r0.ks], .var [int 0], .var [int m], .var [int r0.op, int r0.c, ai r0.nm, int r0.n, int r0.d, ab r0.ks], .var [D.fn (Fn.func 239) [] [.ref (.ptr 4 0)]], .defd, .loop LoopState.ready none 0 (mkT 23 0 [(2, .ref (.ptr 1 0)), (3, .ref (.ptr 2 0)), (7, D.fn (Fn.func 240) [] [.ref (.ptr 4 0), .ref (.ptr 3 0)])]) { toList := [8, 9] } (ax (sub Tryz.f226 0)) (aj (sub Tryz.f226 0)), .var [int x.op, int x.c, ai x.nm, int x.n, int x.d, ab x.ks], .var [int x.op, int x.c, ai x.nm, int x.n, int x.d, ab x.ks]], m := [] }) (e := Exit.normal) pok [.st (.mask [2, 3, 4, 5, 7])] [] (by kernel_rfl) .n) (by rfl) (by rfl)
noncomputable def ckFin (r0 : RuF) (m1 : Int) (more : List Blk) (b : Bool) : Exit × AS := match b with
 | true => (.ret, { t := mkT 23 0 [], h := ckH r0 120 m1 .busy none ++ more, m := [] })
 | false => (.normal, { t := mkT 23 0 [], h := ckH r0 0 m1 .busy none ++ more, m := [] })
noncomputable abbrev cP (r0 : RuF) (m : Int) (x : RuF) : List Blk := [.var [int r0.op, int r0.c, ai r0.nm, int r0.n, int r0.d, ab r0.ks], .var [int 0], .var [int (IntKind.wrap IntKind.i64 (m + 1))], .var [int r0.op, int r0.c, ai r0.nm, int r0.n, int r0.d, ab r0.ks], .var [D.fn (Fn.func 239) [] [.ref (.ptr 4 0)]], .defd, .loop LoopState.busy none 0 (mkT 23 0 [(2, .ref (.ptr 1 0)), (3, .ref (.ptr 2 0)), (7, D.fn (Fn.func 240) [] [.ref (.ptr 4 0), .ref (.ptr 3 0)])]) { toList := [8, 9] } (ax (sub Tryz.f226 0)) (aj (sub Tryz.f226 0)), .var [int x.op, int x.c, ai x.nm, int x.n, int x.d, ab x.ks], .var [int x.op, int x.c, ai x.nm, int x.n, int x.d, ab x.ks]]
theorem ck_body {r0 : RuF} {m dep : Int} {x : RuF} (hx : x.ok) : (CW Tryz.prog Γk (ckH r0 0 m .ready none ++ [.var (x.l)]) true (aj (sub Tryz.f226 0)) { t := ckU dep, h := ckH r0 0 m .busy none ++ [.var (x.l), .var (x.l)], m := [] } (ckFin r0 (IntKind.i64.wrap (m + 1)) [.var (x.l), .var (x.l)] (stopB (IntKind.i64.wrap (m + 1)) dep (x.formed))).1 (ckFin r0 (IntKind.i64.wrap (m + 1)) [.var (x.l), .var (x.l)] (stopB (IntKind.i64.wrap (m + 1)) dep (x.formed))).2) := by
 cases hc0 : decide (IntKind.wrap IntKind.i64 (m + 1) > 200) || decide (dep > 16) || !ak x.op x.c x.n x.d (↑(List.length x.ks) : Int)
 ·refine CW.cast (CW.symX (s' := { t := mkT 23 0 [], h := (cP r0 m x), m := [] }) (e := Exit.normal) pok [.st (.mask [])] [.val (bool (ak x.op x.c x.n x.d (↑(List.length x.ks) : Int))), .b false] (by kernel_rfl) (.c (show (!(decide (IntKind.wrap IntKind.i64 (m + 1) > 200) || decide (dep > 16))) = true → Ev Tryz.prog Γk 234 [D.agg [int x.op, int x.c, ai x.nm, int x.n, int x.d, ab x.ks]] (cP r0 m x) (bool (ak x.op x.c x.n x.d (↑(List.length x.ks) : Int))) (cP r0 m x) from (fun hg => (@formed_ev (x.op) (x.c) (x.nm) (x.n) (x.d) (x.ks) (by first | assumption | exact hx.1 | exact hx.2 | rfl) (by first | assumption | exact hx.1 | exact hx.2 | rfl) ((cP r0 m x))))) (.c hc0 .n))) ?_ ?_ <;> (first | (have hs : stopB (IntKind.i64.wrap (m + 1)) dep (x.formed) = true := hc0; (first | (simp only [hs, ckFin]; done) | (simp only [hs, ckFin]; rfl))) | (have hs : stopB (IntKind.i64.wrap (m + 1)) dep (x.formed) = false := hc0; (first | (simp only [hs, ckFin]; done) | (simp only [hs, ckFin]; rfl))))
 ·refine CW.cast (CW.symX (s' := { t := mkT 23 0 [], h := [.var [int r0.op, int r0.c, ai r0.nm, int r0.n, int r0.d, ab r0.ks], .var [int 120], .var [int (IntKind.wrap IntKind.i64 (m + 1))], .var [int r0.op, int r0.c, ai r0.nm, int r0.n, int r0.d, ab r0.ks], .var [D.fn (Fn.func 239) [] [.ref (.ptr 4 0)]], .defd, .loop LoopState.busy none 0 (mkT 23 0 [(2, .ref (.ptr 1 0)), (3, .ref (.ptr 2 0)), (7, D.fn (Fn.func 240) [] [.ref (.ptr 4 0), .ref (.ptr 3 0)])]) { toList := [8, 9] } (ax (sub Tryz.f226 0)) (aj (sub Tryz.f226 0)), .var [int x.op, int x.c, ai x.nm, int x.n, int x.d, ab x.ks], .var [int x.op, int x.c, ai x.nm, int x.n, int x.d, ab x.ks]], m := [] }) (e := Exit.ret) pok [.st (.mask [])] [.val (bool (ak x.op x.c x.n x.d (↑(List.length x.ks) : Int))), .b true] (by kernel_rfl) (.c (show (!(decide (IntKind.wrap IntKind.i64 (m + 1) > 200) || decide (dep > 16))) = true → Ev Tryz.prog Γk 234 [D.agg [int x.op, int x.c, ai x.nm, int x.n, int x.d, ab x.ks]] (cP r0 m x) (bool (ak x.op x.c x.n x.d (↑(List.length x.ks) : Int))) (cP r0 m x) from (fun hg => (@formed_ev (x.op) (x.c) (x.nm) (x.n) (x.d) (x.ks) (by first | assumption | exact hx.1 | exact hx.2 | rfl) (by first | assumption | exact hx.1 | exact hx.2 | rfl) ((cP r0 m x))))) (.c hc0 .n))) ?_ ?_ <;> (first | (have hs : stopB (IntKind.i64.wrap (m + 1)) dep (x.formed) = true := hc0; (first | (simp only [hs, ckFin]; done) | (simp only [hs, ckFin]; rfl))) | (have hs : stopB (IntKind.i64.wrap (m + 1)) dep (x.formed) = false := hc0; (first | (simp only [hs, ckFin]; done) | (simp only [hs, ckFin]; rfl))))
noncomputable def ckSt (r0 : RuF) (m1 : Int) (b : Bool) : List Blk := match b with
 | true => ckH r0 120 m1 .done (some .ret)
 | false => ckH r0 0 m1 .ready none
theorem ckIv_ev {r0 : RuF} {m dep : Int} {x : RuF} (hx : x.ok) : Iv Tryz.prog Γk (.ref (.yl 6)) [int dep, .agg x.l] (ckH r0 0 m .ready none ++ [.var (x.l)]) (bool (!stopB (IntKind.i64.wrap (m + 1)) dep (x.formed)))
  (ckSt r0 (IntKind.i64.wrap (m + 1)) (stopB (IntKind.i64.wrap (m + 1)) dep (x.formed)) ++ [.var (x.l), .var (x.l)]) := by
 have hb := ck_body (r0 := r0) (m := m) (dep := dep) hx
 cases h : stopB (IntKind.i64.wrap (m + 1)) dep (x.formed)
 ·rw [h] at hb
  exact Iv.round (h1 := ckH r0 0 m .ready none ++ [.var (x.l), .var (x.l)]) rfl rfl ck_asg rfl hb rfl
 ·rw [h] at hb
  exact Iv.round (h1 := ckH r0 0 m .ready none ++ [.var (x.l), .var (x.l)]) rfl rfl ck_asg rfl hb rfl
mutual
def RuleT.walk : RuleT → Int → Int → Int × Bool
 | .mk op c _ n d ks, dep, m => match stopB (IntKind.i64.wrap (m + 1)) dep (ak op c n d ks.length) with
  | true => (IntKind.i64.wrap (m + 1), true)
  | false => walkL ks (IntKind.i64.wrap (dep + 1)) (IntKind.i64.wrap (m + 1))
def walkL : List RuleT → Int → Int → Int × Bool
 | [], _, m => (m, false)
 | k :: ks, dep, m => match k.walk dep m with
  | (m', true) => (m', true)
  | (m', false) => walkL ks dep m'
end
abbrev wkF (dep : Int) (k : RuleT) (m : Int) : Int ⊕ Int := match k.walk dep m with
 | (m', true) => .inr m'
 | (m', false) => .inl m'
theorem walkL_forL (dep : Int) : ∀ (ks : List RuleT) (m : Int), forL (wkF dep) ks m = match walkL ks dep m with | (m', true) => .inr m' | (m', false) => .inl m'
 | [], m => by simp [forL, walkL]
 | k :: ks, m => by
  simp only [forL, walkL, wkF]
  cases h : k.walk dep m with
  | mk m' b => cases b with
   | true => rfl
   | false => exact walkL_forL dep ks m'
noncomputable abbrev wkS (x r0 : RuF) (dep m i : Int) : AS := { t := mkT 30 0 [(1, int dep), (2, .ref (.yl 6)), (3, .ref (.ptr 4 0)), (7, bool false), (16, ab x.ks), (17, int x.ks.length), (18, int i)], h := ckH r0 0 m .ready none ++ [.var (x.l)], m := [] }
theorem wk_bodyF {x r0 : RuF} {dep m m0 : Int} {i : Nat} {m' : Int} {y : RuF} (hr : bw (i : Int) x.ks y.row 6) (hlt : decide ((i : Int) < (x.ks.length : Int)) = true) (hw : IntKind.i64.wrap ((i : Int) + 1) = ((i + 1 : Nat) : Int))
  (hk : Ev Tryz.prog Γk 239 [.agg y.l, int (IntKind.i64.wrap (dep + 1)), .ref (.yl 6), .ref (.ptr 4 0)] (ckH r0 0 m .ready none) (bool true) (ckH r0 0 m' .ready none)) : (CW Tryz.prog Γk (ckH r0 0 m0 .ready none) false (sub Tryz.f239 0) (wkS x r0 dep m i) .normal (wkS x r0 dep m' ((i + 1 : Nat) : Int))) := by
 refine CW.cast (CW.symX (s' := { t := mkT 30 0 [(1, int dep), (2, .ref (.yl 6)), (3, .ref (.ptr 4 0)), (7, bool false), (16, ab x.ks), (17, int (↑(List.length x.ks) : Int)), (18, int (IntKind.wrap IntKind.i64 ((↑i : Int) + 1)))], h := [.var [int r0.op, int r0.c, ai r0.nm, int r0.n, int r0.d, ab r0.ks], .var [int 0], .var [int m'], .var [int r0.op, int r0.c, ai r0.nm, int r0.n, int r0.d, ab r0.ks], .var [D.fn (Fn.func 239) [] [.ref (.ptr 4 0)]], .defd, .loop LoopState.ready none 0 (mkT 23 0 [(2, .ref (.ptr 1 0)), (3, .ref (.ptr 2 0)), (7, D.fn (Fn.func 240) [] [.ref (.ptr 4 0), .ref (.ptr 3 0)])]) { toList := [8, 9] } (ax (sub Tryz.f226 0)) (aj (sub Tryz.f226 0)), .var [int x.op, int x.c, ai x.nm, int x.n, int x.d, ab x.ks]], m := [] }) (e := Exit.normal) pok [.st (.mask [1, 2, 3, 7, 16, 17, 18]), .st (.trim 8)] [.b true, .row [vi y.op, vi y.c, vs y.nm, vi y.n, vi y.d, Dp.sl y.ks], .call (bool true) [.var [int r0.op, int r0.c, ai r0.nm, int r0.n, int r0.d, ab r0.ks], .var [int 0], .var [int m'], .var [int r0.op, int r0.c, ai r0.nm, int r0.n, int r0.d, ab r0.ks], .var [D.fn (Fn.func 239) [] [.ref (.ptr 4 0)]], .defd, .loop LoopState.ready none 0 (mkT 23 0 [(2, .ref (.ptr 1 0)), (3, .ref (.ptr 2 0)), (7, D.fn (Fn.func 240) [] [.ref (.ptr 4 0), .ref (.ptr 3 0)])]) { toList := [8, 9] } (ax (sub Tryz.f226 0)) (aj (sub Tryz.f226 0)), .var [int x.op, int x.c, ai x.nm, int x.n, int x.d, ab x.ks], .var [int y.op, int y.c, ai y.nm, int y.n, int y.d, ab y.ks]], .b false] (by kernel_rfl) (.c hlt (.c hr (.c (show Ev Tryz.prog Γk 239 [D.agg [int y.op, int y.c, ai y.nm, int y.n, int y.d, ab y.ks], int (IntKind.wrap IntKind.i64 (dep + 1)), .ref (.yl 6), .ref (.ptr 4 0)] [.var [int r0.op, int r0.c, ai r0.nm, int r0.n, int r0.d, ab r0.ks], .var [int 0], .var [int m], .var [int r0.op, int r0.c, ai r0.nm, int r0.n, int r0.d, ab r0.ks], .var [D.fn (Fn.func 239) [] [.ref (.ptr 4 0)]], .defd, .loop LoopState.ready none 0 (mkT 23 0 [(2, .ref (.ptr 1 0)), (3, .ref (.ptr 2 0)), (7, D.fn (Fn.func 240) [] [.ref (.ptr 4 0), .ref (.ptr 3 0)])]) { toList := [8, 9] } (ax (sub Tryz.f226 0)) (aj (sub Tryz.f226 0)), .var [int x.op, int x.c, ai x.nm, int x.n, int x.d, ab x.ks], .var [int y.op, int y.c, ai y.nm, int y.n, int y.d, ab y.ks]] (bool true) [.var [int r0.op, int r0.c, ai r0.nm, int r0.n, int r0.d, ab r0.ks], .var [int 0], .var [int m'], .var [int r0.op, int r0.c, ai r0.nm, int r0.n, int r0.d, ab r0.ks], .var [D.fn (Fn.func 239) [] [.ref (.ptr 4 0)]], .defd, .loop LoopState.ready none 0 (mkT 23 0 [(2, .ref (.ptr 1 0)), (3, .ref (.ptr 2 0)), (7, D.fn (Fn.func 240) [] [.ref (.ptr 4 0), .ref (.ptr 3 0)])]) { toList := [8, 9] } (ax (sub Tryz.f226 0)) (aj (sub Tryz.f226 0)), .var [int x.op, int x.c, ai x.nm, int x.n, int x.d, ab x.ks], .var [int y.op, int y.c, ai y.nm, int y.n, int y.d, ab y.ks]] from (Ev.castH (Ev.frameX (args := [D.agg [int y.op, int y.c, ai y.nm, int y.n, int y.d, ab y.ks], int (IntKind.wrap IntKind.i64 (dep + 1)), .ref (.yl 6), .ref (.ptr 4 0)]) (H := [.var [int r0.op, int r0.c, ai r0.nm, int r0.n, int r0.d, ab r0.ks], .var [int 0], .var [int m], .var [int r0.op, int r0.c, ai r0.nm, int r0.n, int r0.d, ab r0.ks], .var [D.fn (Fn.func 239) [] [.ref (.ptr 4 0)]], .defd, .loop LoopState.ready none 0 (mkT 23 0 [(2, .ref (.ptr 1 0)), (3, .ref (.ptr 2 0)), (7, D.fn (Fn.func 240) [] [.ref (.ptr 4 0), .ref (.ptr 3 0)])]) { toList := [8, 9] } (ax (sub Tryz.f226 0)) (aj (sub Tryz.f226 0)), .var [int x.op, int x.c, ai x.nm, int x.n, int x.d, ab x.ks], .var [int y.op, int y.c, ai y.nm, int y.n, int y.d, ab y.ks]]) [0, 1, 2, 3, 4, 5, 6] (@hk) (by kernel_rfl) (by kernel_rfl) (by kernel_rfl) trivial trivial) (by kernel_rfl) (by kernel_rfl))) (.c (show (!true) = false from rfl) .n))))) ?_ ?_ <;> (first | rfl | (rw [hw]; rfl))
noncomputable abbrev wkX (x r0 : RuF) (m : Int) : Exit × AS := (.ret, { t := mkT 30 0 [(7, bool false)], h := ckH r0 120 m .done (some .ret) ++ [.var (x.l)], m := [] })
theorem wk_bodyT {x r0 : RuF} {dep m m0 : Int} {i : Nat} {m' : Int} {y : RuF} (hr : bw (i : Int) x.ks y.row 6) (hlt : decide ((i : Int) < (x.ks.length : Int)) = true)
  (hk : Ev Tryz.prog Γk 239 [.agg y.l, int (IntKind.i64.wrap (dep + 1)), .ref (.yl 6), .ref (.ptr 4 0)] (ckH r0 0 m .ready none) (bool false) (ckH r0 120 m' .done (some .ret))) : (CW Tryz.prog Γk (ckH r0 0 m0 .ready none) false (sub Tryz.f239 0) (wkS x r0 dep m i) (wkX x r0 m').1 (wkX x r0 m').2) := by
 exact CW.cast (CW.symX (s' := { t := mkT 30 0 [(7, bool false)], h := [.var [int r0.op, int r0.c, ai r0.nm, int r0.n, int r0.d, ab r0.ks], .var [int 120], .var [int m'], .var [int r0.op, int r0.c, ai r0.nm, int r0.n, int r0.d, ab r0.ks], .var [D.fn (Fn.func 239) [] [.ref (.ptr 4 0)]], .defd, .loop LoopState.done (some Code.ret) 0 (mkT 23 0 [(2, .ref (.ptr 1 0)), (3, .ref (.ptr 2 0)), (7, D.fn (Fn.func 240) [] [.ref (.ptr 4 0), .ref (.ptr 3 0)])]) { toList := [8, 9] } (ax (sub Tryz.f226 0)) (aj (sub Tryz.f226 0)), .var [int x.op, int x.c, ai x.nm, int x.n, int x.d, ab x.ks]], m := [] }) (e := Exit.ret) pok [.st (.mask [7]), .st (.trim 8)] [.b true, .row [vi y.op, vi y.c, vs y.nm, vi y.n, vi y.d, Dp.sl y.ks], .call (bool false) [.var [int r0.op, int r0.c, ai r0.nm, int r0.n, int r0.d, ab r0.ks], .var [int 120], .var [int m'], .var [int r0.op, int r0.c, ai r0.nm, int r0.n, int r0.d, ab r0.ks], .var [D.fn (Fn.func 239) [] [.ref (.ptr 4 0)]], .defd, .loop LoopState.done (some Code.ret) 0 (mkT 23 0 [(2, .ref (.ptr 1 0)), (3, .ref (.ptr 2 0)), (7, D.fn (Fn.func 240) [] [.ref (.ptr 4 0), .ref (.ptr 3 0)])]) { toList := [8, 9] } (ax (sub Tryz.f226 0)) (aj (sub Tryz.f226 0)), .var [int x.op, int x.c, ai x.nm, int x.n, int x.d, ab x.ks], .var [int y.op, int y.c, ai y.nm, int y.n, int y.d, ab y.ks]], .b true] (by kernel_rfl) (.c hlt (.c hr (.c (show Ev Tryz.prog Γk 239 [D.agg [int y.op, int y.c, ai y.nm, int y.n, int y.d, ab y.ks], int (IntKind.wrap IntKind.i64 (dep + 1)), .ref (.yl 6), .ref (.ptr 4 0)] [.var [int r0.op, int r0.c, ai r0.nm, int r0.n, int r0.d, ab r0.ks], .var [int 0], .var [int m], .var [int r0.op, int r0.c, ai r0.nm, int r0.n, int r0.d, ab r0.ks], .var [D.fn (Fn.func 239) [] [.ref (.ptr 4 0)]], .defd, .loop LoopState.ready none 0 (mkT 23 0 [(2, .ref (.ptr 1 0)), (3, .ref (.ptr 2 0)), (7, D.fn (Fn.func 240) [] [.ref (.ptr 4 0), .ref (.ptr 3 0)])]) { toList := [8, 9] } (ax (sub Tryz.f226 0)) (aj (sub Tryz.f226 0)), .var [int x.op, int x.c, ai x.nm, int x.n, int x.d, ab x.ks], .var [int y.op, int y.c, ai y.nm, int y.n, int y.d, ab y.ks]] (bool false) [.var [int r0.op, int r0.c, ai r0.nm, int r0.n, int r0.d, ab r0.ks], .var [int 120], .var [int m'], .var [int r0.op, int r0.c, ai r0.nm, int r0.n, int r0.d, ab r0.ks], .var [D.fn (Fn.func 239) [] [.ref (.ptr 4 0)]], .defd, .loop LoopState.done (some Code.ret) 0 (mkT 23 0 [(2, .ref (.ptr 1 0)), (3, .ref (.ptr 2 0)), (7, D.fn (Fn.func 240) [] [.ref (.ptr 4 0), .ref (.ptr 3 0)])]) { toList := [8, 9] } (ax (sub Tryz.f226 0)) (aj (sub Tryz.f226 0)), .var [int x.op, int x.c, ai x.nm, int x.n, int x.d, ab x.ks], .var [int y.op, int y.c, ai y.nm, int y.n, int y.d, ab y.ks]] from (Ev.castH (Ev.frameX (args := [D.agg [int y.op, int y.c, ai y.nm, int y.n, int y.d, ab y.ks], int (IntKind.wrap IntKind.i64 (dep + 1)), .ref (.yl 6), .ref (.ptr 4 0)]) (H := [.var [int r0.op, int r0.c, ai r0.nm, int r0.n, int r0.d, ab r0.ks], .var [int 0], .var [int m], .var [int r0.op, int r0.c, ai r0.nm, int r0.n, int r0.d, ab r0.ks], .var [D.fn (Fn.func 239) [] [.ref (.ptr 4 0)]], .defd, .loop LoopState.ready none 0 (mkT 23 0 [(2, .ref (.ptr 1 0)), (3, .ref (.ptr 2 0)), (7, D.fn (Fn.func 240) [] [.ref (.ptr 4 0), .ref (.ptr 3 0)])]) { toList := [8, 9] } (ax (sub Tryz.f226 0)) (aj (sub Tryz.f226 0)), .var [int x.op, int x.c, ai x.nm, int x.n, int x.d, ab x.ks], .var [int y.op, int y.c, ai y.nm, int y.n, int y.d, ab y.ks]]) [0, 1, 2, 3, 4, 5, 6] (@hk) (by kernel_rfl) (by kernel_rfl) (by kernel_rfl) trivial trivial) (by kernel_rfl) (by kernel_rfl))) (.c (show (!false) = true from rfl) .n))))) (by rfl) (by rfl)
theorem wk_last {x r0 : RuF} {dep m m0 : Int} {i : Nat} (hlt : decide ((i : Int) < (x.ks.length : Int)) = false) : (CW Tryz.prog Γk (ckH r0 0 m0 .ready none) false (sub Tryz.f239 0) (wkS x r0 dep m i) (.exit 0) { t := mkT 30 0 [(7, bool false)], h := ckH r0 0 m .ready none ++ [.var (x.l)], m := [] }) := by
 exact CW.cast (CW.symX (s' := { t := mkT 30 0 [(7, bool false)], h := [.var [int r0.op, int r0.c, ai r0.nm, int r0.n, int r0.d, ab r0.ks], .var [int 0], .var [int m], .var [int r0.op, int r0.c, ai r0.nm, int r0.n, int r0.d, ab r0.ks], .var [D.fn (Fn.func 239) [] [.ref (.ptr 4 0)]], .defd, .loop LoopState.ready none 0 (mkT 23 0 [(2, .ref (.ptr 1 0)), (3, .ref (.ptr 2 0)), (7, D.fn (Fn.func 240) [] [.ref (.ptr 4 0), .ref (.ptr 3 0)])]) { toList := [8, 9] } (ax (sub Tryz.f226 0)) (aj (sub Tryz.f226 0)), .var [int x.op, int x.c, ai x.nm, int x.n, int x.d, ab x.ks]], m := [] }) (e := Exit.exit 0) pok [.st (.mask [7]), .st (.trim 8)] [.b false] (by kernel_rfl) (.c hlt .n)) (by rfl) (by rfl)
def RuleT.fl : RuleT → RuF
 | .mk op c nm n d ks => ⟨op, c, nm, n, d, ruleRows ks⟩
theorem RuleT.fl_row (r : RuleT) : r.fl.row = r.row := by cases r; rfl
theorem RuleT.fl_ok {r : RuleT} (h : r.ok) : r.fl.ok := by cases r; simp only [RuleT.ok] at h; exact ⟨h.1.2.2.1, h.1.2.2.2.1⟩
noncomputable def wkFin (x r0 : RuF) (p : Int ⊕ Int) : Exit × AS := cw (.exit 0) (fun m' => { t := mkT 30 0 [(7, bool false)], h := ckH r0 0 m' .ready none ++ [.var x.l], m := [] }) (fun m' => wkX x r0 m') p
theorem wk_cw {r0 x : RuF} {ks : List RuleT} (hx : x.ks = ks.map RuleT.row) (hl : ao ks) {dep m m0 : Int} (hk : ∀ k ∈ ks, ∀ m, Ev Tryz.prog Γk 239 [.agg k.fl.l, int (IntKind.i64.wrap (dep + 1)), .ref (.yl 6), .ref (.ptr 4 0)] (ckH r0 0 m .ready none) (bool (!(k.walk (IntKind.i64.wrap (dep + 1)) m).2)) (ckSt r0 (k.walk (IntKind.i64.wrap (dep + 1)) m).1 (k.walk (IntKind.i64.wrap (dep + 1)) m).2)) :
  CW Tryz.prog Γk (ckH r0 0 m0 .ready none) false (.loop (sub Tryz.f239 0)) (wkS x r0 dep m 0) (wkFin x r0 (forL (wkF (IntKind.i64.wrap (dep + 1))) ks m)).1 (wkFin x r0 (forL (wkF (IntKind.i64.wrap (dep + 1))) ks m)).2 := by
 refine CW.each ks (wkF (IntKind.i64.wrap (dep + 1))) (fun i m => wkS x r0 dep m (i : Int)) (.exit 0) _ (fun m' => wkX x r0 m') (fun _ _ => True) (by simp) (fun _ => by simp) ?_ ?_ m trivial
 ·intro i k m hki _
  have hi := (List.getElem?_eq_some_iff.1 hki).1
  have hr : bw (i : Int) x.ks k.fl.row 6 := by rw [hx, k.fl_row]; exact rowAt hki (by cases k; rfl)
  have hlt : decide ((i : Int) < (x.ks.length : Int)) = true := by rw [hx]; exact lt_len _ hi
  have hev := hk k (List.mem_of_getElem? hki) m
  refine ⟨fun _ _ => trivial, ?_⟩
  simp only [wkF]
  cases hw : k.walk (IntKind.i64.wrap (dep + 1)) m with
  | mk m' b =>
   rw [hw] at hev
   cases b with
   | true => exact wk_bodyT hr hlt hev
   | false => exact wk_bodyF hr hlt (wrap_succ hi hl) hev
 ·intro m _
  exact wk_last (by rw [hx]; exact fa _ ks)
theorem walkA {r0 x : RuF} {dep m m' : Int} (hi : Iv Tryz.prog Γk (.ref (.yl 6)) [int dep, .agg x.l] (ckH r0 0 m .ready none ++ [.var x.l]) (bool false) (ckH r0 120 m' .done (some .ret) ++ [.var x.l, .var x.l])) : (Ev Tryz.prog Γk 239 [.agg x.l, int dep, .ref (.yl 6), .ref (.ptr 4 0)] (ckH r0 0 m .ready none) (bool false) (ckH r0 120 m' .done (some .ret))) := by
 exact Ev.castH (Ev.symT (h' := [.var [int r0.op, int r0.c, ai r0.nm, int r0.n, int r0.d, ab r0.ks], .var [int 120], .var [int m'], .var [int r0.op, int r0.c, ai r0.nm, int r0.n, int r0.d, ab r0.ks], .var [D.fn (Fn.func 239) [] [.ref (.ptr 4 0)]], .defd, .loop LoopState.done (some Code.ret) 0 (mkT 23 0 [(2, .ref (.ptr 1 0)), (3, .ref (.ptr 2 0)), (7, D.fn (Fn.func 240) [] [.ref (.ptr 4 0), .ref (.ptr 3 0)])]) { toList := [8, 9] } (ax (sub Tryz.f226 0)) (aj (sub Tryz.f226 0))]) (d := bool false) pok [.inv (bool false) [.var [int r0.op, int r0.c, ai r0.nm, int r0.n, int r0.d, ab r0.ks], .var [int 120], .var [int m'], .var [int r0.op, int r0.c, ai r0.nm, int r0.n, int r0.d, ab r0.ks], .var [D.fn (Fn.func 239) [] [.ref (.ptr 4 0)]], .defd, .loop LoopState.done (some Code.ret) 0 (mkT 23 0 [(2, .ref (.ptr 1 0)), (3, .ref (.ptr 2 0)), (7, D.fn (Fn.func 240) [] [.ref (.ptr 4 0), .ref (.ptr 3 0)])]) { toList := [8, 9] } (ax (sub Tryz.f226 0)) (aj (sub Tryz.f226 0)), .var [int x.op, int x.c, ai x.nm, int x.n, int x.d, ab x.ks], .var [int x.op, int x.c, ai x.nm, int x.n, int x.d, ab x.ks]], .b true] (by kernel_rfl) (.c (@hi) (.c (show (!false) = true from rfl) .n))) (by rfl) (by rfl)
def wkRes : Int ⊕ Int → Int × Bool
 | .inl m => (m, false)
 | .inr m => (m, true)
theorem wkRes_eq (dep : Int) (ks : List RuleT) (m : Int) : wkRes (forL (wkF dep) ks m) = walkL ks dep m := by
 rw [walkL_forL]
 cases walkL ks dep m with
 | mk m' b => cases b <;> rfl
noncomputable abbrev walkB_x0 (r0 : RuF) (x : RuF) (m' : Int) : List Blk := [.var [int r0.op, int r0.c, ai r0.nm, int r0.n, int r0.d, ab r0.ks], .var [int 0], .var [int m'], .var [int r0.op, int r0.c, ai r0.nm, int r0.n, int r0.d, ab r0.ks], .var [D.fn (Fn.func 239) [] [.ref (.ptr 4 0)]], .defd, .loop LoopState.ready none 0 (mkT 23 0 [(2, .ref (.ptr 1 0)), (3, .ref (.ptr 2 0)), (7, D.fn (Fn.func 240) [] [.ref (.ptr 4 0), .ref (.ptr 3 0)])]) { toList := [8, 9] } (ax (sub Tryz.f226 0)) (aj (sub Tryz.f226 0)), .var [int x.op, int x.c, ai x.nm, int x.n, int x.d, ab x.ks], .var [int x.op, int x.c, ai x.nm, int x.n, int x.d, ab x.ks]]
theorem walkB {r0 x : RuF} {ks : List RuleT} (hx : x.ks = ks.map RuleT.row) (hl : ao ks) {dep m m' : Int} (hi : Iv Tryz.prog Γk (.ref (.yl 6)) [int dep, .agg x.l] (ckH r0 0 m .ready none ++ [.var x.l]) (bool true) (ckH r0 0 m' .ready none ++ [.var x.l, .var x.l]))
  (hk : ∀ k ∈ ks, ∀ m, Ev Tryz.prog Γk 239 [.agg k.fl.l, int (IntKind.i64.wrap (dep + 1)), .ref (.yl 6), .ref (.ptr 4 0)] (ckH r0 0 m .ready none) (bool (!(k.walk (IntKind.i64.wrap (dep + 1)) m).2)) (ckSt r0 (k.walk (IntKind.i64.wrap (dep + 1)) m).1 (k.walk (IntKind.i64.wrap (dep + 1)) m).2)) : (Ev Tryz.prog Γk 239 [.agg x.l, int dep, .ref (.yl 6), .ref (.ptr 4 0)] (ckH r0 0 m .ready none) (bool (!(wkRes (forL (wkF (IntKind.i64.wrap (dep + 1))) ks m')).2)) (ckSt r0 (wkRes (forL (wkF (IntKind.i64.wrap (dep + 1))) ks m')).1 (wkRes (forL (wkF (IntKind.i64.wrap (dep + 1))) ks m')).2)) := by
 have hl0 := (@wk_cw (r0) (x) (ks) (hx) (hl) (dep) (m') (m) (hk))
 revert hl0
 cases ho1 : forL (wkF (IntKind.wrap IntKind.i64 (dep + 1))) ks m' with
 | inl o1_0_0 =>
  intro hl0
  refine Ev.castH (Ev.symT (h' := [.var [int r0.op, int r0.c, ai r0.nm, int r0.n, int r0.d, ab r0.ks], .var [int 0], .var [int o1_0_0], .var [int r0.op, int r0.c, ai r0.nm, int r0.n, int r0.d, ab r0.ks], .var [D.fn (Fn.func 239) [] [.ref (.ptr 4 0)]], .defd, .loop LoopState.ready none 0 (mkT 23 0 [(2, .ref (.ptr 1 0)), (3, .ref (.ptr 2 0)), (7, D.fn (Fn.func 240) [] [.ref (.ptr 4 0), .ref (.ptr 3 0)])]) { toList := [8, 9] } (ax (sub Tryz.f226 0)) (aj (sub Tryz.f226 0))]) (d := bool true) pok [.inv (bool true) (walkB_x0 r0 x m'), .b false, .st (.trim 8), .sum [1, 2, 3, 7, 16, 17, 18] (Exit.exit 0) { t := mkT 30 0 [(7, bool false)], h := [.var [int r0.op, int r0.c, ai r0.nm, int r0.n, int r0.d, ab r0.ks], .var [int 0], .var [int o1_0_0], .var [int r0.op, int r0.c, ai r0.nm, int r0.n, int r0.d, ab r0.ks], .var [D.fn (Fn.func 239) [] [.ref (.ptr 4 0)]], .defd, .loop LoopState.ready none 0 (mkT 23 0 [(2, .ref (.ptr 1 0)), (3, .ref (.ptr 2 0)), (7, D.fn (Fn.func 240) [] [.ref (.ptr 4 0), .ref (.ptr 3 0)])]) { toList := [8, 9] } (ax (sub Tryz.f226 0)) (aj (sub Tryz.f226 0)), .var [int x.op, int x.c, ai x.nm, int x.n, int x.d, ab x.ks]], m := [] }] (by kernel_rfl) (.c (@hi) (.c (show (!true) = false from rfl) (.c hl0 .n)))) ?_ ?_ <;> (first | rfl | (simp only [ho1, wkRes, ckSt]; rfl))
 | inr o1_1_0 =>
  intro hl0
  refine Ev.castH (Ev.symT (h' := [.var [int r0.op, int r0.c, ai r0.nm, int r0.n, int r0.d, ab r0.ks], .var [int 120], .var [int o1_1_0], .var [int r0.op, int r0.c, ai r0.nm, int r0.n, int r0.d, ab r0.ks], .var [D.fn (Fn.func 239) [] [.ref (.ptr 4 0)]], .defd, .loop LoopState.done (some Code.ret) 0 (mkT 23 0 [(2, .ref (.ptr 1 0)), (3, .ref (.ptr 2 0)), (7, D.fn (Fn.func 240) [] [.ref (.ptr 4 0), .ref (.ptr 3 0)])]) { toList := [8, 9] } (ax (sub Tryz.f226 0)) (aj (sub Tryz.f226 0))]) (d := bool false) pok [.inv (bool true) (walkB_x0 r0 x m'), .b false, .st (.trim 8), .sum [1, 2, 3, 7, 16, 17, 18] (Exit.ret) { t := mkT 30 0 [(7, bool false)], h := [.var [int r0.op, int r0.c, ai r0.nm, int r0.n, int r0.d, ab r0.ks], .var [int 120], .var [int o1_1_0], .var [int r0.op, int r0.c, ai r0.nm, int r0.n, int r0.d, ab r0.ks], .var [D.fn (Fn.func 239) [] [.ref (.ptr 4 0)]], .defd, .loop LoopState.done (some Code.ret) 0 (mkT 23 0 [(2, .ref (.ptr 1 0)), (3, .ref (.ptr 2 0)), (7, D.fn (Fn.func 240) [] [.ref (.ptr 4 0), .ref (.ptr 3 0)])]) { toList := [8, 9] } (ax (sub Tryz.f226 0)) (aj (sub Tryz.f226 0)), .var [int x.op, int x.c, ai x.nm, int x.n, int x.d, ab x.ks]], m := [] }] (by kernel_rfl) (.c (@hi) (.c (show (!true) = false from rfl) (.c hl0 .n)))) ?_ ?_ <;> (first | rfl | (simp only [ho1, wkRes, ckSt]; rfl))
end Go.Vi
open Go Go.Proofs
namespace Go.Vi
set_option maxRecDepth 100000
set_option maxHeartbeats 4000000
theorem walk_all (r0 : RuF) : ∀ (r : RuleT), r.ok → ∀ (dep m : Int), Ev Tryz.prog Γk 239 [.agg r.fl.l, int dep, .ref (.yl 6), .ref (.ptr 4 0)] (ckH r0 0 m .ready none) (bool (!(r.walk dep m).2)) (ckSt r0 (r.walk dep m).1 (r.walk dep m).2)
 | .mk op c nm n d ks, hr, dep, m => by
  have hok := RuleT.fl_ok hr
  simp only [RuleT.ok] at hr
  have hiv := ckIv_ev (r0 := r0) (m := m) (dep := dep) hok
  have hlen : ((RuleT.mk op c nm n d ks).fl.ks.length : Int) = ks.length := by simp [RuleT.fl, eX]
  have hf : (RuleT.mk op c nm n d ks).fl.formed = ak op c n d ks.length := by
   show ak op c n d ((RuleT.mk op c nm n d ks).fl.ks.length : Int) = _
   rw [hlen]
  rw [hf] at hiv
  simp only [RuleT.walk]
  cases hs : stopB (IntKind.i64.wrap (m + 1)) dep (ak op c n d ks.length) with
  | true =>
   rw [hs] at hiv
   exact walkA hiv
  | false =>
   rw [hs] at hiv
   have := walkB (r0 := r0) (x := (RuleT.mk op c nm n d ks).fl) (ks := ks) (eX ks) hr.1.2.2.2.2 (m := m) (dep := dep) hiv (fun k hk m => walk_all r0 k (rulesOk_mem hr.2 k hk) _ m)
   rw [wkRes_eq] at this
   exact this
termination_by r => SizeOf.sizeOf r
decreasing_by
 have := List.sizeOf_lt_of_mem hk
 simp only [RuleT.mk.sizeOf_spec]
 omega
noncomputable abbrev parts2T_ev_x0 (x : RuF) (m' : Int) : List Blk := [.var [int x.op, int x.c, ai x.nm, int x.n, int x.d, ab x.ks], .var [int 120], .var [int m'], .var [int x.op, int x.c, ai x.nm, int x.n, int x.d, ab x.ks], .var [D.fn (Fn.func 239) [] [.ref (.ptr 4 0)]], .defd, .loop LoopState.done (some Code.ret) 0 (mkT 23 0 [(2, .ref (.ptr 1 0)), (3, .ref (.ptr 2 0)), (7, D.fn (Fn.func 240) [] [.ref (.ptr 4 0), .ref (.ptr 3 0)])]) { toList := [8, 9] } (ax (sub Tryz.f226 0)) (aj (sub Tryz.f226 0))]
theorem parts2T_ev {x : RuF} {m' : Int} (hk : Ev Tryz.prog Γk 239 [.agg x.l, int 1, .ref (.yl 6), .ref (.ptr 4 0)] (ckH x 0 0 .ready none) (bool false) (ckH x 120 m' .done (some .ret))) : (Ev Tryz.prog Γk 240 [.ref (.yl 6), .ref (.ptr 4 0), .ref (.ptr 3 0)] (ckH x 0 0 .ready none) (.tup []) (ckH x 120 m' .done (some .ret))) := by
 exact Ev.castH (Ev.of_sym (h' := (parts2T_ev_x0 x m')) (d := D.tup []) pok [.call (bool false) (parts2T_ev_x0 x m')] (by kernel_rfl) (.c (@hk) .n)) (by rfl) (by rfl)
noncomputable abbrev parts2F_ev_x0 (x : RuF) (m' : Int) : List Blk := [.var [int x.op, int x.c, ai x.nm, int x.n, int x.d, ab x.ks], .var [int 0], .var [int m'], .var [int x.op, int x.c, ai x.nm, int x.n, int x.d, ab x.ks], .var [D.fn (Fn.func 239) [] [.ref (.ptr 4 0)]], .defd, .loop LoopState.ready none 0 (mkT 23 0 [(2, .ref (.ptr 1 0)), (3, .ref (.ptr 2 0)), (7, D.fn (Fn.func 240) [] [.ref (.ptr 4 0), .ref (.ptr 3 0)])]) { toList := [8, 9] } (ax (sub Tryz.f226 0)) (aj (sub Tryz.f226 0))]
theorem parts2F_ev {x : RuF} {m' : Int} (hk : Ev Tryz.prog Γk 239 [.agg x.l, int 1, .ref (.yl 6), .ref (.ptr 4 0)] (ckH x 0 0 .ready none) (bool true) (ckH x 0 m' .ready none)) : (Ev Tryz.prog Γk 240 [.ref (.yl 6), .ref (.ptr 4 0), .ref (.ptr 3 0)] (ckH x 0 0 .ready none) (.tup []) (ckH x 0 m' .ready none)) := by
 exact Ev.castH (Ev.of_sym (h' := (parts2F_ev_x0 x m')) (d := D.tup []) pok [.call (bool true) (parts2F_ev_x0 x m')] (by kernel_rfl) (.c (@hk) .n)) (by rfl) (by rfl)
abbrev ckH0 (r : RuF) : List Blk := [.var r.l, .var [int 0], .var [int 0], .var r.l, .var [.fn (.func 239) [] [.ref (.ptr 4 0)]]]
theorem ckT_rf {x : RuF} {m' : Int} (hk : Ev Tryz.prog Γk 239 [.agg x.l, int 1, .ref (.yl 6), .ref (.ptr 4 0)] (ckH x 0 0 .ready none) (bool false) (ckH x 120 m' .done (some .ret))) :
  CW Tryz.prog Γk [] false (sub Tryz.f226 0) { t := ckT, h := ckH0 x, m := [] } .ret { t := ckT, h := ckH x 120 m' .exhausted (some .ret), m := [5] } :=
 CW.rangeFunc (f := 240) (fi := []) (ca := [.ref (.ptr 4 0), .ref (.ptr 3 0)]) pok (s := { t := ckT, h := ckH0 x, m := [] }) (g := .tmp 7) (ps := #[8, 9]) (asg := ax (sub Tryz.f226 0)) (body := aj (sub Tryz.f226 0)) rfl (by kernel_rfl) (parts2T_ev hk) rfl
theorem ckF_rf {x : RuF} {m' : Int} (hk : Ev Tryz.prog Γk 239 [.agg x.l, int 1, .ref (.yl 6), .ref (.ptr 4 0)] (ckH x 0 0 .ready none) (bool true) (ckH x 0 m' .ready none)) :
  CW Tryz.prog Γk [] false (sub Tryz.f226 0) { t := ckT, h := ckH0 x, m := [] } .normal { t := ckT, h := ckH x 0 m' .exhausted none, m := [5] } :=
 CW.rangeFunc (f := 240) (fi := []) (ca := [.ref (.ptr 4 0), .ref (.ptr 3 0)]) pok (s := { t := ckT, h := ckH0 x, m := [] }) (g := .tmp 7) (ps := #[8, 9]) (asg := ax (sub Tryz.f226 0)) (body := aj (sub Tryz.f226 0)) rfl (by kernel_rfl) (parts2F_ev hk) rfl
def RuleT.bad (r : RuleT) : Bool := (r.walk 1 0).2
noncomputable def ckOut (x : RuF) (p : Int × Bool) : Exit × AS := match p.2 with
 | true => (.ret, { t := ckT, h := ckH x 120 p.1 .exhausted (some .ret), m := [5] })
 | false => (.normal, { t := ckT, h := ckH x 0 p.1 .exhausted none, m := [5] })
theorem ck_rf_cw {r : RuleT} (hr : r.ok) {x : RuF} (hx : x = r.fl) : CW Tryz.prog Γk [] false (sub Tryz.f226 0) { t := ckT, h := ckH0 x, m := [] } (ckOut x (r.walk 1 0)).1 (ckOut x (r.walk 1 0)).2 := by
 subst hx
 have hk := walk_all r.fl r hr 1 0
 unfold ckOut
 cases h : r.walk 1 0 with
 | mk m' b =>
  rw [h] at hk
  cases b with
  | true => exact ckT_rf hk
  | false => exact ckF_rf hk
def cQ (b : Bool) : Int := match b with | true => 120 | false => 0
theorem rcheckA {r : RuleT} (hr : r.ok) {x : RuF} (hx : x = r.fl) (h : List Blk) : (Ev Tryz.prog Γk 226 [.agg x.l] h (int (cQ r.bad)) h) := by
 have hl0 := (@ck_rf_cw (r) (hr) (x) (hx))
 revert hl0
 cases ho1 : RuleT.walk r 1 0 with
 | mk o1_0_0 o1_0_1 =>
  intro hl0
  revert hl0
  cases ho2 : o1_0_1 with
  | false =>
   intro hl0
   exact Ev.castH (Ev.sym0 (d := int 0) pok [.inl, .sum [2, 3, 7] (Exit.normal) { t := mkT 23 0 [(2, .ref (.ptr 1 0)), (3, .ref (.ptr 2 0)), (7, D.fn (Fn.func 240) [] [.ref (.ptr 4 0), .ref (.ptr 3 0)])], h := [.var [int x.op, int x.c, ai x.nm, int x.n, int x.d, ab x.ks], .var [int 0], .var [int o1_0_0], .var [int x.op, int x.c, ai x.nm, int x.n, int x.d, ab x.ks], .var [D.fn (Fn.func 239) [] [.ref (.ptr 4 0)]], .defd, .loop LoopState.exhausted none 0 (mkT 23 0 [(2, .ref (.ptr 1 0)), (3, .ref (.ptr 2 0)), (7, D.fn (Fn.func 240) [] [.ref (.ptr 4 0), .ref (.ptr 3 0)])]) { toList := [8, 9] } (ax (sub Tryz.f226 0)) (aj (sub Tryz.f226 0))], m := [5] }] (by kernel_rfl) (.c hl0 .n) rfl rfl h) (by simp [RuleT.bad, cQ, ho1, ho2]) (by rfl)
  | true =>
   intro hl0
   exact Ev.castH (Ev.sym0 (d := int 120) pok [.inl, .sum [2, 3, 7] (Exit.ret) { t := mkT 23 0 [(2, .ref (.ptr 1 0)), (3, .ref (.ptr 2 0)), (7, D.fn (Fn.func 240) [] [.ref (.ptr 4 0), .ref (.ptr 3 0)])], h := [.var [int x.op, int x.c, ai x.nm, int x.n, int x.d, ab x.ks], .var [int 120], .var [int o1_0_0], .var [int x.op, int x.c, ai x.nm, int x.n, int x.d, ab x.ks], .var [D.fn (Fn.func 239) [] [.ref (.ptr 4 0)]], .defd, .loop LoopState.exhausted (some Code.ret) 0 (mkT 23 0 [(2, .ref (.ptr 1 0)), (3, .ref (.ptr 2 0)), (7, D.fn (Fn.func 240) [] [.ref (.ptr 4 0), .ref (.ptr 3 0)])]) { toList := [8, 9] } (ax (sub Tryz.f226 0)) (aj (sub Tryz.f226 0))], m := [5] }] (by kernel_rfl) (.c hl0 .n) rfl rfl h) (by simp [RuleT.bad, cQ, ho1, ho2]) (by rfl)
theorem rulesCheck_ev {r : RuleT} (hr : r.ok) (h : List Blk) : Ev Tryz.prog Γk 226 [.agg r.fl.l] h (int (cQ r.bad)) h := by
 exact rcheckA hr rfl h
end Go.Vi
open Go Go.Proofs
namespace Go.Vi
set_option maxRecDepth 100000
set_option maxHeartbeats 4000000
structure CourseT where
 name : ByteArray
 number : Int
 credits : Int
 rep : Int
 need : RuleT
 bar : RuleT
def CourseT.row (c : CourseT) : List Dp := [vs c.name, vi c.number, vi c.credits, vi c.rep,
 vi c.need.fl.op, vi c.need.fl.c, vs c.need.fl.nm, vi c.need.fl.n, vi c.need.fl.d, .sl c.need.fl.ks, vi c.bar.fl.op, vi c.bar.fl.c, vs c.bar.fl.nm, vi c.bar.fl.n, vi c.bar.fl.d, .sl c.bar.fl.ks]
def CourseT.ok (c : CourseT) : Prop := c.need.ok ∧ c.bar.ok
def dG (c : CourseT) : Bool := inB c.number 0 4095 && inB c.credits 1 60 && inB c.rep 0 2 && (cQ c.need.bad == 0) && (cQ c.bar.bad == 0)
noncomputable abbrev aC (c : CourseT) : List Blk := [.var [ai c.name, int c.number, int c.credits, int c.rep, int (RuleT.fl c.need).op, int (RuleT.fl c.need).c, ai (RuleT.fl c.need).nm, int (RuleT.fl c.need).n, int (RuleT.fl c.need).d, ab (RuleT.fl c.need).ks, int (RuleT.fl c.bar).op, int (RuleT.fl c.bar).c, ai (RuleT.fl c.bar).nm, int (RuleT.fl c.bar).n, int (RuleT.fl c.bar).d, ab (RuleT.fl c.bar).ks]]
theorem vcourse_ev {c : CourseT} (hc : c.ok) (h : List Blk) : (Ev Tryz.prog Γk 198 [ag c.row] h (bool (dG c)) h) := by
 refine Ev.castH (Ev.sym0 (d := bool (decide (c.number ≥ 0) && decide (c.number ≤ 4095) && (decide (c.credits ≥ 1) && decide (c.credits ≤ 60)) && (decide (c.rep ≥ 0) && decide (c.rep ≤ 2)) && cQ (RuleT.bad c.need) == 0 && cQ (RuleT.bad c.bar) == 0)) pok [.val (bool (decide (c.number ≥ 0) && decide (c.number ≤ 4095))), .val (bool (decide (c.credits ≥ 1) && decide (c.credits ≤ 60))), .val (bool (decide (c.rep ≥ 0) && decide (c.rep ≤ 2))), .val (int (cQ (RuleT.bad c.need))), .val (int (cQ (RuleT.bad c.bar)))] (by kernel_rfl) (.c (Ev.glob0 (Γ' := Γk) (@bin_ev (c.number) (0) (4095) ((aC c)))) (.c (show (decide (c.number ≥ 0) && decide (c.number ≤ 4095)) = true → Ev Tryz.prog Γk 87 [int c.credits, int 1, int 60] (aC c) (bool (decide (c.credits ≥ 1) && decide (c.credits ≤ 60))) (aC c) from (fun hg => (Ev.glob0 (@bin_ev (c.credits) (1) (60) ((aC c)))))) (.c (show (decide (c.number ≥ 0) && decide (c.number ≤ 4095) && (decide (c.credits ≥ 1) && decide (c.credits ≤ 60))) = true → Ev Tryz.prog Γk 87 [int c.rep, int 0, int 2] (aC c) (bool (decide (c.rep ≥ 0) && decide (c.rep ≤ 2))) (aC c) from (fun hg => (Ev.glob0 (@bin_ev (c.rep) (0) (2) ((aC c)))))) (.c (show (decide (c.number ≥ 0) && decide (c.number ≤ 4095) && (decide (c.credits ≥ 1) && decide (c.credits ≤ 60)) && (decide (c.rep ≥ 0) && decide (c.rep ≤ 2))) = true → Ev Tryz.prog Γk 226 [D.agg [int (RuleT.fl c.need).op, int (RuleT.fl c.need).c, ai (RuleT.fl c.need).nm, int (RuleT.fl c.need).n, int (RuleT.fl c.need).d, ab (RuleT.fl c.need).ks]] (aC c) (int (cQ (RuleT.bad c.need))) (aC c) from (fun hg => (@rulesCheck_ev (c.need) ?_ ((aC c))))) (.c (show (decide (c.number ≥ 0) && decide (c.number ≤ 4095) && (decide (c.credits ≥ 1) && decide (c.credits ≤ 60)) && (decide (c.rep ≥ 0) && decide (c.rep ≤ 2)) && cQ (RuleT.bad c.need) == 0) = true → Ev Tryz.prog Γk 226 [D.agg [int (RuleT.fl c.bar).op, int (RuleT.fl c.bar).c, ai (RuleT.fl c.bar).nm, int (RuleT.fl c.bar).n, int (RuleT.fl c.bar).d, ab (RuleT.fl c.bar).ks]] (aC c) (int (cQ (RuleT.bad c.bar))) (aC c) from (fun hg => (@rulesCheck_ev (c.bar) ?_ ((aC c))))) .n))))) rfl rfl h) (by rfl) (by rfl) <;> (first | assumption | exact hc.1 | exact hc.2)
noncomputable abbrev vc197_ev_x0 (c : CourseT) (n : Int) : List Blk := [.var [int n], .var [ai c.name, int c.number, int c.credits, int c.rep, int (RuleT.fl c.need).op, int (RuleT.fl c.need).c, ai (RuleT.fl c.need).nm, int (RuleT.fl c.need).n, int (RuleT.fl c.need).d, ab (RuleT.fl c.need).ks, int (RuleT.fl c.bar).op, int (RuleT.fl c.bar).c, ai (RuleT.fl c.bar).nm, int (RuleT.fl c.bar).n, int (RuleT.fl c.bar).d, ab (RuleT.fl c.bar).ks]]
theorem vc197_ev {c : CourseT} (hc : c.ok) {n : Int} : (Ev Tryz.prog Γk 197 [ag c.row, .ref (.ptr 0 0)] [.var [int n]] (bool (c.number == n && dG c)) [.var [int n]]) := by
 exact Ev.castH (Ev.symT (h' := [.var [int n]]) (d := bool (c.number == n && dG c)) pok [.val (bool (dG c))] (by kernel_rfl) (.c (show (c.number == n) = true → Ev Tryz.prog Γk 198 [D.agg [ai c.name, int c.number, int c.credits, int c.rep, int (RuleT.fl c.need).op, int (RuleT.fl c.need).c, ai (RuleT.fl c.need).nm, int (RuleT.fl c.need).n, int (RuleT.fl c.need).d, ab (RuleT.fl c.need).ks, int (RuleT.fl c.bar).op, int (RuleT.fl c.bar).c, ai (RuleT.fl c.bar).nm, int (RuleT.fl c.bar).n, int (RuleT.fl c.bar).d, ab (RuleT.fl c.bar).ks]] (vc197_ev_x0 c n) (bool (dG c)) (vc197_ev_x0 c n) from (fun hg => (@vcourse_ev (c) (hc) ((vc197_ev_x0 c n))))) .n)) (by rfl) (by rfl)
structure WorldT where
 c : List CourseT
 p : List (List Dp)
 s : List SysT
 f : List FactT
def WorldT.l (w : WorldT) : List D := [ab (w.c.map CourseT.row), ab w.p, ab (w.s.map SysT.row), ab (w.f.map FactT.row)]
abbrev atA (w : WorldT) (kk ks ko term known : Int) : List D := [ab (w.f.map FactT.row), .agg [int kk, int ks, int ko], int term, int known]
abbrev readR (kk ks ko a b : Int) : List (List Dp) := [[vi kk, vi ks, vi ko, vi a, vi b]]
theorem rowAt_getD {α : Type} [Inhabited α] {row : α → List Dp} {l : List α} {v : Int} {sz : Nat} (hs : ∀ x, (row x).length = sz) (h0 : 0 ≤ v) (h1 : v < (l.length : Int)) : bw v (l.map row) (row (l.getD v.toNat default)) sz := by
 obtain ⟨n, rfl⟩ : ∃ n : Nat, v = n := ⟨v.toNat, by omega⟩
 have hn : n < l.length := by omega
 have hx : l[n]? = some l[n] := List.getElem?_eq_getElem hn
 have : l.getD (Int.toNat (n : Int)) default = l[n] := by simp [List.getD, hx]
 rw [this]
 exact rowAt hx (hs _)
def lookB {α : Type} [Inhabited α] (l : List α) (valid : α → Bool) (p : Int × Bool) : Bool := !p.2 || decide (p.1 < 0) || decide (p.1 ≥ (l.length : Int)) || !valid (l.getD p.1.toNat default)
def lookL {α : Type} [Inhabited α] (l : List α) (valid : α → Bool) (z : α) (p : Int × Bool) : α × Bool := match lookB l valid p with
 | true => (z, false)
 | false => (l.getD p.1.toNat default, true)
structure WorldT.ok (w : WorldT) : Prop where
 c : ∀ x ∈ w.c, x.ok
 s : ∀ x ∈ w.s, x.ok
 lf : w.f.length ≤ 69000
 lc : ao w.c
 ls : ao w.s
 i : ∀ f ∈ w.f, f.ok
theorem WorldT.ok.sf {w : WorldT} (h : w.ok) : ao w.f := by have := h.lf; unfold ao; omega
def outB (term : Int) : Bool := !(decide (term ≥ 0) && decide (term ≤ 1023))
def readsT (kk ks ko term : Int) : List (List Dp) := match outB term with
 | true => []
 | false => readR kk ks ko term (IntKind.i64.wrap (term + 1))
def RuleT.zero : RuleT := .mk 0 0 ⟨#[]⟩ 0 0 []
def CourseT.zero : CourseT := ⟨⟨#[]⟩, 0, 0, 0, RuleT.zero, RuleT.zero⟩
instance : Inhabited CourseT := ⟨CourseT.zero⟩
theorem CourseT.zero_ok : CourseT.zero.ok := by
 have : RuleT.zero.ok := ⟨by unfold I64 ao; simp, trivial⟩
 exact ⟨this, this⟩
theorem courses_ok {l : List CourseT} (h : ∀ x ∈ l, x.ok) (n : Nat) : (l.getD n default).ok := by
 rcases Nat.lt_or_ge n l.length with hn | hn
 ·rw [List.getD, List.getElem?_eq_getElem hn]; exact h _ (List.getElem_mem hn)
 ·rw [List.getD, List.getElem?_eq_none hn]; exact CourseT.zero_ok
abbrev crsZ : D := ag CourseT.zero.row
def cg (n : Int) (c : CourseT) : Bool := c.number == n && dG c
noncomputable abbrev lc0_x0 (w : WorldT) (n : Int) : List Blk := [.var [int n], .var [ab (List.map CourseT.row w.c), ab w.p, ab (List.map SysT.row w.s), ab (List.map FactT.row w.f)], .var [int 1, int n, int 0], .var [ai { data := #[] }, int 0, int 0, int 0, int 0, int 0, ai { data := #[] }, int 0, int 0, nq, int 0, int 0, ai { data := #[] }, int 0, int 0, nq]]
theorem lc0 {w : WorldT} {n term known : Int} (ht : (!(decide (term ≥ 0) && decide (term ≤ 1023))) = true) : (Ev Tryz.prog Γk 199 [.agg w.l, ab (w.c.map CourseT.row), .agg [int 1, int n, int 0], int term, int known, .fn (.func 197) [] [.ref (.ptr 0 0)]] [.var [int n]] (.tup [crsZ, ab [], bool false]) [.var [int n]]) := by
 exact Ev.castH (Ev.nilW (Ev.symT (h' := [.var [int n]]) (d := D.tup [D.agg [ai { data := #[] }, int 0, int 0, int 0, int 0, int 0, ai { data := #[] }, int 0, int 0, nq, int 0, int 0, ai { data := #[] }, int 0, int 0, nq], nq, bool false]) pok [.val (bool (decide (term ≥ 0) && decide (term ≤ 1023))), .b true] (by kernel_rfl) (.c (Ev.glob0 (Γ' := Γk) (@bin_ev (term) (0) (1023) ((lc0_x0 w n)))) (.c ht .n)))) (by rfl) (by rfl)
noncomputable abbrev lc1_x0 (w : WorldT) (v : Int) : List D := [D.agg [ai (List.getD w.c (Int.toNat v) default).name, int (List.getD w.c (Int.toNat v) default).number, int (List.getD w.c (Int.toNat v) default).credits, int (List.getD w.c (Int.toNat v) default).rep, int (RuleT.fl (List.getD w.c (Int.toNat v) default).need).op, int (RuleT.fl (List.getD w.c (Int.toNat v) default).need).c, ai (RuleT.fl (List.getD w.c (Int.toNat v) default).need).nm, int (RuleT.fl (List.getD w.c (Int.toNat v) default).need).n, int (RuleT.fl (List.getD w.c (Int.toNat v) default).need).d, ab (RuleT.fl (List.getD w.c (Int.toNat v) default).need).ks, int (RuleT.fl (List.getD w.c (Int.toNat v) default).bar).op, int (RuleT.fl (List.getD w.c (Int.toNat v) default).bar).c, ai (RuleT.fl (List.getD w.c (Int.toNat v) default).bar).nm, int (RuleT.fl (List.getD w.c (Int.toNat v) default).bar).n, int (RuleT.fl (List.getD w.c (Int.toNat v) default).bar).d, ab (RuleT.fl (List.getD w.c (Int.toNat v) default).bar).ks], .ref (.ptr 0 0)]
noncomputable abbrev lc1_x1 (w : WorldT) (n : Int) : List Blk := [.var [int n], .var [ab (List.map CourseT.row w.c), ab w.p, ab (List.map SysT.row w.s), ab (List.map FactT.row w.f)], .var [int 1, int n, int 0], .var [ai { data := #[] }, int 0, int 0, int 0, int 0, int 0, ai { data := #[] }, int 0, int 0, nq, int 0, int 0, ai { data := #[] }, int 0, int 0, nq], .gone]
noncomputable abbrev lc1_x2 (w : WorldT) (n : Int) : List Blk := [.var [int n], .var [ab (List.map CourseT.row w.c), ab w.p, ab (List.map SysT.row w.s), ab (List.map FactT.row w.f)], .var [int 1, int n, int 0], .var [ai { data := #[] }, int 0, int 0, int 0, int 0, int 0, ai { data := #[] }, int 0, int 0, nq, int 0, int 0, ai { data := #[] }, int 0, int 0, nq]]
theorem lc1 {w : WorldT} {n term known v : Int} {b : Bool} (ht : (!(decide (term ≥ 0) && decide (term ≤ 1023))) = false) (hat : ∀ h, Ev Tryz.prog Γk 86 (atA w 1 n 0 term known) h (.tup [int v, bool b]) h) (hs : ∀ x ∈ w.c, x.ok) : (Ev Tryz.prog Γk 199 [.agg w.l, ab (w.c.map CourseT.row), .agg [int 1, int n, int 0], int term, int known, .fn (.func 197) [] [.ref (.ptr 0 0)]] [.var [int n]] (.tup [ag (lookL w.c (cg n) CourseT.zero (v, b)).1.row, ab (readR 1 n 0 term (IntKind.i64.wrap (term + 1))), bool (lookL w.c (cg n) CourseT.zero (v, b)).2]) [.var [int n]]) := by
 cases hc0 : !b || decide (v < 0) || decide (v ≥ (↑(List.length (List.map CourseT.row w.c)) : Int)) || !((List.getD w.c (Int.toNat v) default).number == n && dG (List.getD w.c (Int.toNat v) default))
 ·refine Ev.castH (Ev.nilW (Ev.symT (h' := [.var [int n]]) (d := D.tup [D.agg [ai (List.getD w.c (Int.toNat v) default).name, int (List.getD w.c (Int.toNat v) default).number, int (List.getD w.c (Int.toNat v) default).credits, int (List.getD w.c (Int.toNat v) default).rep, int (RuleT.fl (List.getD w.c (Int.toNat v) default).need).op, int (RuleT.fl (List.getD w.c (Int.toNat v) default).need).c, ai (RuleT.fl (List.getD w.c (Int.toNat v) default).need).nm, int (RuleT.fl (List.getD w.c (Int.toNat v) default).need).n, int (RuleT.fl (List.getD w.c (Int.toNat v) default).need).d, ab (RuleT.fl (List.getD w.c (Int.toNat v) default).need).ks, int (RuleT.fl (List.getD w.c (Int.toNat v) default).bar).op, int (RuleT.fl (List.getD w.c (Int.toNat v) default).bar).c, ai (RuleT.fl (List.getD w.c (Int.toNat v) default).bar).nm, int (RuleT.fl (List.getD w.c (Int.toNat v) default).bar).n, int (RuleT.fl (List.getD w.c (Int.toNat v) default).bar).d, ab (RuleT.fl (List.getD w.c (Int.toNat v) default).bar).ks], ab [[vi 1, vi n, vi 0, vi term, vi (IntKind.wrap IntKind.i64 (term + 1))]], bool true]) pok [.val (bool (decide (term ≥ 0) && decide (term ≤ 1023))), .b false, .nx 1, .st (.frz 4 (readR 1 n 0 term (IntKind.wrap IntKind.i64 (term + 1)))), .val (D.tup [int v, bool b]), .row [vs (List.getD w.c (Int.toNat v) default).name, vi (List.getD w.c (Int.toNat v) default).number, vi (List.getD w.c (Int.toNat v) default).credits, vi (List.getD w.c (Int.toNat v) default).rep, vi (RuleT.fl (List.getD w.c (Int.toNat v) default).need).op, vi (RuleT.fl (List.getD w.c (Int.toNat v) default).need).c, vs (RuleT.fl (List.getD w.c (Int.toNat v) default).need).nm, vi (RuleT.fl (List.getD w.c (Int.toNat v) default).need).n, vi (RuleT.fl (List.getD w.c (Int.toNat v) default).need).d, Dp.sl (RuleT.fl (List.getD w.c (Int.toNat v) default).need).ks, vi (RuleT.fl (List.getD w.c (Int.toNat v) default).bar).op, vi (RuleT.fl (List.getD w.c (Int.toNat v) default).bar).c, vs (RuleT.fl (List.getD w.c (Int.toNat v) default).bar).nm, vi (RuleT.fl (List.getD w.c (Int.toNat v) default).bar).n, vi (RuleT.fl (List.getD w.c (Int.toNat v) default).bar).d, Dp.sl (RuleT.fl (List.getD w.c (Int.toNat v) default).bar).ks], .val (bool ((List.getD w.c (Int.toNat v) default).number == n && dG (List.getD w.c (Int.toNat v) default))), .b false, .row [vs (List.getD w.c (Int.toNat v) default).name, vi (List.getD w.c (Int.toNat v) default).number, vi (List.getD w.c (Int.toNat v) default).credits, vi (List.getD w.c (Int.toNat v) default).rep, vi (RuleT.fl (List.getD w.c (Int.toNat v) default).need).op, vi (RuleT.fl (List.getD w.c (Int.toNat v) default).need).c, vs (RuleT.fl (List.getD w.c (Int.toNat v) default).need).nm, vi (RuleT.fl (List.getD w.c (Int.toNat v) default).need).n, vi (RuleT.fl (List.getD w.c (Int.toNat v) default).need).d, Dp.sl (RuleT.fl (List.getD w.c (Int.toNat v) default).need).ks, vi (RuleT.fl (List.getD w.c (Int.toNat v) default).bar).op, vi (RuleT.fl (List.getD w.c (Int.toNat v) default).bar).c, vs (RuleT.fl (List.getD w.c (Int.toNat v) default).bar).nm, vi (RuleT.fl (List.getD w.c (Int.toNat v) default).bar).n, vi (RuleT.fl (List.getD w.c (Int.toNat v) default).bar).d, Dp.sl (RuleT.fl (List.getD w.c (Int.toNat v) default).bar).ks]] (by kernel_rfl) (.c (Ev.glob0 (Γ' := Γk) (@bin_ev (term) (0) (1023) ((lc1_x2 w n)))) (.c ht (.c (show [[int 1, int n, int 0, int term, int (IntKind.wrap IntKind.i64 (term + 1))]] = [[int 1, int n, int 0, int term, int (IntKind.wrap IntKind.i64 (term + 1))]] from rfl) (.c (@hat ((lc1_x1 w n))) (.c (show (!(!b || decide (v < 0) || decide (v ≥ (↑(List.length (List.map CourseT.row w.c)) : Int)))) = true → bw v (List.map CourseT.row w.c) [vs (List.getD w.c (Int.toNat v) default).name, vi (List.getD w.c (Int.toNat v) default).number, vi (List.getD w.c (Int.toNat v) default).credits, vi (List.getD w.c (Int.toNat v) default).rep, vi (RuleT.fl (List.getD w.c (Int.toNat v) default).need).op, vi (RuleT.fl (List.getD w.c (Int.toNat v) default).need).c, vs (RuleT.fl (List.getD w.c (Int.toNat v) default).need).nm, vi (RuleT.fl (List.getD w.c (Int.toNat v) default).need).n, vi (RuleT.fl (List.getD w.c (Int.toNat v) default).need).d, Dp.sl (RuleT.fl (List.getD w.c (Int.toNat v) default).need).ks, vi (RuleT.fl (List.getD w.c (Int.toNat v) default).bar).op, vi (RuleT.fl (List.getD w.c (Int.toNat v) default).bar).c, vs (RuleT.fl (List.getD w.c (Int.toNat v) default).bar).nm, vi (RuleT.fl (List.getD w.c (Int.toNat v) default).bar).n, vi (RuleT.fl (List.getD w.c (Int.toNat v) default).bar).d, Dp.sl (RuleT.fl (List.getD w.c (Int.toNat v) default).bar).ks] 16 from (fun hg => ?_)) (.c (show (!(!b || decide (v < 0) || decide (v ≥ (↑(List.length (List.map CourseT.row w.c)) : Int)))) = true → Ev Tryz.prog Γk 197 (lc1_x0 w v) (lc1_x1 w n) (bool ((List.getD w.c (Int.toNat v) default).number == n && dG (List.getD w.c (Int.toNat v) default))) (lc1_x1 w n) from (fun hg => (Ev.castH (Ev.frameX (args := (lc1_x0 w v)) (H := (lc1_x1 w n)) [0] (@vc197_ev (List.getD w.c (Int.toNat v) default) ?_ (n)) (by kernel_rfl) (by kernel_rfl) (by kernel_rfl) trivial trivial) (by kernel_rfl) (by kernel_rfl)))) (.c hc0 (.c (show bw v (List.map CourseT.row w.c) [vs (List.getD w.c (Int.toNat v) default).name, vi (List.getD w.c (Int.toNat v) default).number, vi (List.getD w.c (Int.toNat v) default).credits, vi (List.getD w.c (Int.toNat v) default).rep, vi (RuleT.fl (List.getD w.c (Int.toNat v) default).need).op, vi (RuleT.fl (List.getD w.c (Int.toNat v) default).need).c, vs (RuleT.fl (List.getD w.c (Int.toNat v) default).need).nm, vi (RuleT.fl (List.getD w.c (Int.toNat v) default).need).n, vi (RuleT.fl (List.getD w.c (Int.toNat v) default).need).d, Dp.sl (RuleT.fl (List.getD w.c (Int.toNat v) default).need).ks, vi (RuleT.fl (List.getD w.c (Int.toNat v) default).bar).op, vi (RuleT.fl (List.getD w.c (Int.toNat v) default).bar).c, vs (RuleT.fl (List.getD w.c (Int.toNat v) default).bar).nm, vi (RuleT.fl (List.getD w.c (Int.toNat v) default).bar).n, vi (RuleT.fl (List.getD w.c (Int.toNat v) default).bar).d, Dp.sl (RuleT.fl (List.getD w.c (Int.toNat v) default).bar).ks] 16 from ?_) .n)))))))))) (by first | (have hb : lookB w.c (cg n) (v, b) = true := by rw [← hc0]; simp [lookB, cg]); simp only [lookL, hb]; rfl | (have hb : lookB w.c (cg n) (v, b) = false := by rw [← hc0]; simp [lookB, cg]); simp only [lookL, hb]; rfl | rfl) (by first | (have hb : lookB w.c (cg n) (v, b) = true := by rw [← hc0]; simp [lookB, cg]); simp only [lookL, hb]; rfl | (have hb : lookB w.c (cg n) (v, b) = false := by rw [← hc0]; simp [lookB, cg]); simp only [lookL, hb]; rfl | rfl) <;> (first | assumption | exact courses_ok hs _ | (refine rowAt_getD (fun _ => rfl) ?_ ?_ <;> simp_all; done) | (simp_all; done))
 ·refine Ev.castH (Ev.nilW (Ev.symT (h' := [.var [int n]]) (d := D.tup [D.agg [ai { data := #[] }, int 0, int 0, int 0, int 0, int 0, ai { data := #[] }, int 0, int 0, nq, int 0, int 0, ai { data := #[] }, int 0, int 0, nq], ab [[vi 1, vi n, vi 0, vi term, vi (IntKind.wrap IntKind.i64 (term + 1))]], bool false]) pok [.val (bool (decide (term ≥ 0) && decide (term ≤ 1023))), .b false, .nx 1, .st (.frz 4 (readR 1 n 0 term (IntKind.wrap IntKind.i64 (term + 1)))), .val (D.tup [int v, bool b]), .row [vs (List.getD w.c (Int.toNat v) default).name, vi (List.getD w.c (Int.toNat v) default).number, vi (List.getD w.c (Int.toNat v) default).credits, vi (List.getD w.c (Int.toNat v) default).rep, vi (RuleT.fl (List.getD w.c (Int.toNat v) default).need).op, vi (RuleT.fl (List.getD w.c (Int.toNat v) default).need).c, vs (RuleT.fl (List.getD w.c (Int.toNat v) default).need).nm, vi (RuleT.fl (List.getD w.c (Int.toNat v) default).need).n, vi (RuleT.fl (List.getD w.c (Int.toNat v) default).need).d, Dp.sl (RuleT.fl (List.getD w.c (Int.toNat v) default).need).ks, vi (RuleT.fl (List.getD w.c (Int.toNat v) default).bar).op, vi (RuleT.fl (List.getD w.c (Int.toNat v) default).bar).c, vs (RuleT.fl (List.getD w.c (Int.toNat v) default).bar).nm, vi (RuleT.fl (List.getD w.c (Int.toNat v) default).bar).n, vi (RuleT.fl (List.getD w.c (Int.toNat v) default).bar).d, Dp.sl (RuleT.fl (List.getD w.c (Int.toNat v) default).bar).ks], .val (bool ((List.getD w.c (Int.toNat v) default).number == n && dG (List.getD w.c (Int.toNat v) default))), .b true] (by kernel_rfl) (.c (Ev.glob0 (Γ' := Γk) (@bin_ev (term) (0) (1023) ((lc1_x2 w n)))) (.c ht (.c (show [[int 1, int n, int 0, int term, int (IntKind.wrap IntKind.i64 (term + 1))]] = [[int 1, int n, int 0, int term, int (IntKind.wrap IntKind.i64 (term + 1))]] from rfl) (.c (@hat ((lc1_x1 w n))) (.c (show (!(!b || decide (v < 0) || decide (v ≥ (↑(List.length (List.map CourseT.row w.c)) : Int)))) = true → bw v (List.map CourseT.row w.c) [vs (List.getD w.c (Int.toNat v) default).name, vi (List.getD w.c (Int.toNat v) default).number, vi (List.getD w.c (Int.toNat v) default).credits, vi (List.getD w.c (Int.toNat v) default).rep, vi (RuleT.fl (List.getD w.c (Int.toNat v) default).need).op, vi (RuleT.fl (List.getD w.c (Int.toNat v) default).need).c, vs (RuleT.fl (List.getD w.c (Int.toNat v) default).need).nm, vi (RuleT.fl (List.getD w.c (Int.toNat v) default).need).n, vi (RuleT.fl (List.getD w.c (Int.toNat v) default).need).d, Dp.sl (RuleT.fl (List.getD w.c (Int.toNat v) default).need).ks, vi (RuleT.fl (List.getD w.c (Int.toNat v) default).bar).op, vi (RuleT.fl (List.getD w.c (Int.toNat v) default).bar).c, vs (RuleT.fl (List.getD w.c (Int.toNat v) default).bar).nm, vi (RuleT.fl (List.getD w.c (Int.toNat v) default).bar).n, vi (RuleT.fl (List.getD w.c (Int.toNat v) default).bar).d, Dp.sl (RuleT.fl (List.getD w.c (Int.toNat v) default).bar).ks] 16 from (fun hg => (by first | assumption | exact courses_ok hs _ | (refine rowAt_getD (fun _ => rfl) ?_ ?_ <;> simp_all; done) | (simp_all; done)))) (.c (show (!(!b || decide (v < 0) || decide (v ≥ (↑(List.length (List.map CourseT.row w.c)) : Int)))) = true → Ev Tryz.prog Γk 197 (lc1_x0 w v) (lc1_x1 w n) (bool ((List.getD w.c (Int.toNat v) default).number == n && dG (List.getD w.c (Int.toNat v) default))) (lc1_x1 w n) from (fun hg => (Ev.castH (Ev.frameX (args := (lc1_x0 w v)) (H := (lc1_x1 w n)) [0] (@vc197_ev (List.getD w.c (Int.toNat v) default) (by first | assumption | exact courses_ok hs _ | (refine rowAt_getD (fun _ => rfl) ?_ ?_ <;> simp_all; done) | (simp_all; done)) (n)) (by kernel_rfl) (by kernel_rfl) (by kernel_rfl) trivial trivial) (by kernel_rfl) (by kernel_rfl)))) (.c hc0 .n))))))))) ?_ ?_ <;> (first | (have hb : lookB w.c (cg n) (v, b) = true := by rw [← hc0]; simp [lookB, cg]); simp only [lookL, hb]; rfl | (have hb : lookB w.c (cg n) (v, b) = false := by rw [← hc0]; simp [lookB, cg]); simp only [lookL, hb]; rfl | rfl)
def ac (w : WorldT) (n term known : Int) : CourseT × Bool := match outB term with
 | true => (CourseT.zero, false)
 | false => lookL w.c (cg n) CourseT.zero (atR 1 n 0 term known w.f)
theorem lookCrs_ev {w : WorldT} (hw : w.ok) {n term known : Int} : Ev Tryz.prog Γk 199 [.agg w.l, ab (w.c.map CourseT.row), .agg [int 1, int n, int 0], int term, int known, .fn (.func 197) [] [.ref (.ptr 0 0)]] [.var [int n]] (.tup [ag (ac w n term known).1.row, ab (readsT 1 n 0 term), bool (ac w n term known).2]) [.var [int n]] := by
 unfold ac readsT
 cases ht : outB term with
 | true => exact lc0 ht
 | false => exact lc1 ht (fun h => Ev.glob0 (at_ev hw.sf h)) hw.c
noncomputable abbrev course_ev_x0 (w : WorldT) (n : Int) : List Blk := [.var [ab (List.map CourseT.row w.c), ab w.p, ab (List.map SysT.row w.s), ab (List.map FactT.row w.f)], .var [int n], .var [ai { data := #[] }, int 0, int 0, int 0, int 0, int 0, ai { data := #[] }, int 0, int 0, nq, int 0, int 0, ai { data := #[] }, int 0, int 0, nq]]
theorem course_evA {w : WorldT} (hw : w.ok) {n term known : Int} (h : List Blk) : (Ev Tryz.prog Γk 161 [.agg w.l, int n, int term, int known] h (.tup [ag (ac w n term known).1.row, ab (readsT 1 n 0 term), bool (ac w n term known).2]) h) := by
 exact Ev.castH (Ev.sym0 (d := D.tup [D.agg [ai (ac w n term known).fst.name, int (ac w n term known).fst.number, int (ac w n term known).fst.credits, int (ac w n term known).fst.rep, int (RuleT.fl (ac w n term known).fst.need).op, int (RuleT.fl (ac w n term known).fst.need).c, ai (RuleT.fl (ac w n term known).fst.need).nm, int (RuleT.fl (ac w n term known).fst.need).n, int (RuleT.fl (ac w n term known).fst.need).d, ab (RuleT.fl (ac w n term known).fst.need).ks, int (RuleT.fl (ac w n term known).fst.bar).op, int (RuleT.fl (ac w n term known).fst.bar).c, ai (RuleT.fl (ac w n term known).fst.bar).nm, int (RuleT.fl (ac w n term known).fst.bar).n, int (RuleT.fl (ac w n term known).fst.bar).d, ab (RuleT.fl (ac w n term known).fst.bar).ks], ab (readsT 1 n 0 term), bool (ac w n term known).snd]) pok [.val (D.tup [D.agg [ai (ac w n term known).fst.name, int (ac w n term known).fst.number, int (ac w n term known).fst.credits, int (ac w n term known).fst.rep, int (RuleT.fl (ac w n term known).fst.need).op, int (RuleT.fl (ac w n term known).fst.need).c, ai (RuleT.fl (ac w n term known).fst.need).nm, int (RuleT.fl (ac w n term known).fst.need).n, int (RuleT.fl (ac w n term known).fst.need).d, ab (RuleT.fl (ac w n term known).fst.need).ks, int (RuleT.fl (ac w n term known).fst.bar).op, int (RuleT.fl (ac w n term known).fst.bar).c, ai (RuleT.fl (ac w n term known).fst.bar).nm, int (RuleT.fl (ac w n term known).fst.bar).n, int (RuleT.fl (ac w n term known).fst.bar).d, ab (RuleT.fl (ac w n term known).fst.bar).ks], ab (readsT 1 n 0 term), bool (ac w n term known).snd])] (by kernel_rfl) (.c (show Ev Tryz.prog Γk 199 [D.agg (WorldT.l w), ab (List.map CourseT.row w.c), D.agg [int 1, int n, int 0], int term, int known, D.fn (Fn.func 197) [] [.ref (.ptr 1 0)]] (course_ev_x0 w n) (D.tup [D.agg [ai (ac w n term known).fst.name, int (ac w n term known).fst.number, int (ac w n term known).fst.credits, int (ac w n term known).fst.rep, int (RuleT.fl (ac w n term known).fst.need).op, int (RuleT.fl (ac w n term known).fst.need).c, ai (RuleT.fl (ac w n term known).fst.need).nm, int (RuleT.fl (ac w n term known).fst.need).n, int (RuleT.fl (ac w n term known).fst.need).d, ab (RuleT.fl (ac w n term known).fst.need).ks, int (RuleT.fl (ac w n term known).fst.bar).op, int (RuleT.fl (ac w n term known).fst.bar).c, ai (RuleT.fl (ac w n term known).fst.bar).nm, int (RuleT.fl (ac w n term known).fst.bar).n, int (RuleT.fl (ac w n term known).fst.bar).d, ab (RuleT.fl (ac w n term known).fst.bar).ks], ab (readsT 1 n 0 term), bool (ac w n term known).snd]) (course_ev_x0 w n) from (Ev.castH (Ev.frameX (args := [D.agg (WorldT.l w), ab (List.map CourseT.row w.c), D.agg [int 1, int n, int 0], int term, int known, D.fn (Fn.func 197) [] [.ref (.ptr 1 0)]]) (H := (course_ev_x0 w n)) [1] (@lookCrs_ev (w) (hw) (n) (term) (known)) (by kernel_rfl) (by kernel_rfl) (by kernel_rfl) trivial trivial) (by kernel_rfl) (by kernel_rfl))) .n) rfl rfl h) (by rfl) (by rfl)
end Go.Vi
open Go Go.Proofs Go.Shelf
namespace Go.Vi
abbrev intsV (l : List Int) : List (List D) := l.map fun n => [int n]
theorem relL_ints {w : World} {av : Nat → Prop} {loc : Loc} {h : List Blk} : ∀ {l : List Int} {ys : List Value}, RelL w av loc h (intsV l).flatten ys → ys = l.map (Value.int .i64)
 | [], [], _ => rfl
 | [], _ :: _, r => by simp [RelL] at r
 | _ :: _, [], r => by simp [RelL] at r
 | n :: l, y :: ys, r => by
  simp only [intsV, List.map_cons, List.flatten_cons, List.cons_append, List.nil_append, RelL] at r
  have h1 : y = .int .i64 n := by simpa [Rel, RelP] using r.1
  rw [h1, relL_ints (l := l) r.2]; rfl
theorem relL_ints' {w : World} {av : Nat → Prop} {loc : Loc} {h : List Blk} : ∀ {l : List Int}, RelL w av loc h (intsV l).flatten (l.map (Value.int .i64))
 | [] => trivial
 | n :: l => by
  simp only [intsV, List.map_cons, List.flatten_cons, List.cons_append, List.nil_append, RelL]
  exact ⟨by simp [Rel, RelP], relL_ints' (l := l)⟩
theorem sortInt_ev' {P : Program} {ρ : Ren} {Γ : al} (L : Lays.n189 P ρ) {h : List Blk} {b e : Nat} {l : List Int} (hb : h[b]? = some (.vec (intsV l) e 1)) (hl : l.length < 4611686018427387904) :
  Ev P Γ (ρ.f 189) [.ref (.vec b e)] h (.tup []) (h.set b (.vec (intsV (l.mergeSort fun x y => decide (x ≤ y))) e 1)) := by
 intro O w loc vs R ra
 obtain ⟨y, rfl⟩ : ∃ y, vs = [y] := by
  match vs, ra with
  | [y], _ => exact ⟨y, rfl⟩
  | [], r => simp [RelL] at r
  | _ :: _ :: _, r => simp [RelL] at r
 have r := ra.1
 simp only [Rel, RefRel, hb] at r
 have hv := r.2.2 trivial
 have B := R.blk b _ hb
 simp only [BlkOk] at B
 have hlen : (intsV l).length = l.length := by simp [intsV]
 refine callsIn_wide.2 ?_
 cases hlb : loc b with
 | none =>
  rw [hlb] at hv B
  obtain ⟨hn, rfl⟩ := hv
  have hl0 : l = [] := by simpa [intsV] using hn
  subst hl0
  refine Calls.mono (calls_of_every_depth fun D => AnyS.slices_Sort_int_none_alone L D none 0 w) ?_
  rintro e' w' ⟨rfl, rfl⟩
  have hset : h.set b (.vec (intsV ([].mergeSort fun x y => decide (x ≤ y))) e 1) = h := by
   apply List.ext_getElem?
   intro i
   by_cases hi : i = b
   ·subst hi; rw [aY hb, hb]; simp
   ·rw [bF _ _ hi]
  refine ⟨.tuple #[], .tup [], _, loc, rfl, ⟨rfl, rfl⟩, ?_, ?_, ?_⟩
  ·rw [hset]; exact R
  ·rw [hset]; exact Ext.refl _ _ _
  ·simp [Rel, RelL]
 | some p =>
  obtain ⟨blk, cap⟩ := p
  rw [hlb] at hv B
  obtain ⟨rfl, hcap⟩ := hv
  simp only at B
  obtain ⟨c, T, fr, ys, hobj, hcs, hle, hfr, hsz, hrel, rest, hcl⟩ := B
  have hys := relL_ints hrel
  subst hys
  have hblk : blk < w.heap.size := (Array.getElem?_eq_some_iff.1 hobj).1
  have hH : Sort.Holds (Value.int .i64) w blk 0 l.toArray := by
   intro j hj
   have hj' : j < l.length := by simpa using hj
   have hc : c[j]? = some (Value.int .i64 l[j]) := by
    rw [← Array.getElem?_toList, hcl, List.getElem?_append_left (by simpa using hj')]
    simp [hj']
   constructor
   ·simp [World.cell?, hobj, hc, hj']
   ·have := hfr j (Array.getElem?_eq_some_iff.1 hc).1
    obtain ⟨lo, hi⟩ := fr
    simp only [World.frozen?, hobj, Nat.zero_add]
    rw [← Bool.not_eq_true]
    simpa using this
  rw [hlen]
  refine Calls.mono (calls_of_every_depth fun D => AnyS.slices_Sort_int_alone L D blk 0 cap l w hH hblk hl) ?_
  rintro e' w' ⟨rfl, n, os, rfl⟩
  have hlm : (l.mergeSort fun x y => decide (x ≤ y)).length = l.length := by simp
  generalize (l.mergeSort fun x y => decide (x ≤ y)) = m at hlm ⊢
  have hobj' : (Sort.grow (Sort.putRow (Value.int .i64) (Sort.ahead w n) blk 0 m.toArray) os).heap[blk]? = some (.cells (Sort.putCells (Value.int .i64) 0 m.toArray c) T fr) := by
   rw [Sort.heap_grow_old _ _ (by simpa [Sort.putRow, Sort.mapBlock, Sort.ahead] using hblk)]
   simp [Sort.putRow, Sort.mapBlock, Sort.ahead, Array.getElem?_modify, hobj, Sort.onCells]
  have hcells : (Sort.putCells (Value.int .i64) 0 m.toArray c).toList = m.map (Value.int .i64) ++ rest := by
   unfold Sort.putCells
   rw [Array.toList_mapIdx, hcl]
   apply List.ext_getElem?
   intro i
   rw [List.getElem?_mapIdx]
   by_cases hi : i < l.length
   ·rw [List.getElem?_append_left (by simpa using hi), List.getElem?_append_left (by simpa [hlm] using hi)]
    have hm : i < m.length := by omega
    simp [hi, hm]
   ·rw [List.getElem?_append_right (by simpa using Nat.le_of_not_lt hi), List.getElem?_append_right (by simpa [hlm] using Nat.le_of_not_lt hi)]
    simp [hi, hlm]
  have key := R.step (w' := Sort.grow (Sort.putRow (Value.int .i64) (Sort.ahead w n) blk 0 m.toArray) os) (l' := loc) (h' := h.set b (.vec (intsV m) e 1)) b (.vec (intsV m) e 1)
   (by simp [Sort.grow, Sort.putRow, Sort.mapBlock, Sort.ahead]) ⟨rfl, rfl, rfl, by simp [Sort.grow, Sort.putRow, Sort.mapBlock, Sort.ahead]⟩ (fun i hi => bF _ _ hi) (aY hb) (fun _ _ => rfl)
   (fun z hz => by rw [hb] at hz; cases hz; exact ⟨⟨Nat.le_refl _, fun _ => by simp [intsV, hlm], rfl⟩, fun _ => rfl⟩)
   (fun k hk hno => by
    have hkb : k ≠ blk := fun e => hno _ cap hb (by simp) (by rw [hlb, e])
    rw [Sort.heap_grow_old _ _ (by simpa [Sort.putRow, Sort.mapBlock, Sort.ahead] using hk)]
    simp [Sort.putRow, Sort.mapBlock, Sort.ahead, Array.getElem?_modify, Ne.symm hkb])
   (fun k c hk => .inl ⟨_, c, hb, by simp, hk⟩)
   (fun E => by
    simp only [BlkOk, hlb]
    refine ⟨_, T, fr, m.map (Value.int .i64), hobj', ?_, ?_, ?_, ?_, relL_ints', rest, hcells⟩
    ·simpa [Sort.putCells] using hcs
    ·simpa [intsV, hlm] using hle
    ·simpa [Sort.putCells] using hfr
    ·simp [intsV])
  exact ⟨.tuple #[], .tup [], _, loc, rfl, ⟨rfl, rfl⟩, key.1, key.2, by simp [Rel, RelL]⟩
end Go.Vi
namespace Go.Proofs
open Go.Shelf
def Tryz.laysSort_ren : Go.Shelf.Ren := ⟨fun | 189 => 88 | 125 => 122 | 257 => 140 | 128 => 173 | 129 => 174 | 294 => 179 | 295 => 180 | 296 => 181 | 297 => 182 | 298 => 183 | 299 => 184 | 216 => 185 | 300 => 186 | 301 => 187 | 328 => 218 | 329 => 211 | 330 => 212 | 331 => 219 | 332 => 220 | 215 => 123 | 343 => 232 | n => n, fun | 28 => 30 | 3 => 3 | 46 => 192 | 0 => 0 | 51 => 233 | 53 => 169 | 4 => 4 | 183 => 227 | 182 => 226 | 131 => 150 | 5 => 5 | 9 => 9 | 218 => 251 | 222 => 255 | 228 => 265 | 229 => 266 | n => n, fun | n => n⟩
theorem Tryz.laysSort : Go.Proofs.Lays.n189 Tryz.prog Tryz.laysSort_ren := {
 mixed := by kernel_rfl
 f125 := Tryz.func122.trans (congrArg some (by kernel_rfl))
 f128 := Tryz.func173.trans (congrArg some (by kernel_rfl))
 f129 := Tryz.func174.trans (congrArg some (by kernel_rfl))
 f189 := Tryz.func88.trans (congrArg some (by kernel_rfl))
 f215 := Tryz.func123.trans (congrArg some (by kernel_rfl))
 f216 := Tryz.func185.trans (congrArg some (by kernel_rfl))
 f257 := Tryz.func140.trans (congrArg some (by kernel_rfl))
 f294 := Tryz.func179.trans (congrArg some (by kernel_rfl))
 f295 := Tryz.func180.trans (congrArg some (by kernel_rfl))
 f296 := Tryz.func181.trans (congrArg some (by kernel_rfl))
 f297 := Tryz.func182.trans (congrArg some (by kernel_rfl))
 f298 := Tryz.func183.trans (congrArg some (by kernel_rfl))
 f299 := Tryz.func184.trans (congrArg some (by kernel_rfl))
 f300 := Tryz.func186.trans (congrArg some (by kernel_rfl))
 f301 := Tryz.func187.trans (congrArg some (by kernel_rfl))
 f328 := Tryz.func218.trans (congrArg some (by kernel_rfl))
 f329 := Tryz.func211.trans (congrArg some (by kernel_rfl))
 f330 := Tryz.func212.trans (congrArg some (by kernel_rfl))
 f331 := Tryz.func219.trans (congrArg some (by kernel_rfl))
 f332 := Tryz.func220.trans (congrArg some (by kernel_rfl))
 f343 := Tryz.func232.trans (congrArg some (by kernel_rfl))
 t0 := Tryz.underlying0
 a0 := Tryz.isAgg0
 z0 := Tryz.sizeOf0
 v0 := Tryz.zeroValue0
 t3 := Tryz.underlying3
 a3 := Tryz.isAgg3
 z3 := Tryz.sizeOf3
 v3 := Tryz.zeroValue3
 t4 := Tryz.underlying4
 a4 := Tryz.isAgg4
 z4 := Tryz.sizeOf4
 v4 := Tryz.zeroValue4
 t5 := Tryz.underlying5
 a5 := Tryz.isAgg5
 z5 := Tryz.sizeOf5
 v5 := Tryz.zeroValue5
 t9 := Tryz.underlying9
 a9 := Tryz.isAgg9
 z9 := Tryz.sizeOf9
 v9 := Tryz.zeroValue9
 t28 := Tryz.underlying30
 a28 := Tryz.isAgg30
 z28 := Tryz.sizeOf30
 v28 := Tryz.zeroValue30
 t46 := Tryz.underlying192
 a46 := Tryz.isAgg192
 z46 := Tryz.sizeOf192
 v46 := Tryz.zeroValue192
 t51 := Tryz.underlying233
 a51 := Tryz.isAgg233
 z51 := Tryz.sizeOf233
 v51 := Tryz.zeroValue233
 t53 := Tryz.underlying169
 a53 := Tryz.isAgg169
 z53 := Tryz.sizeOf169
 v53 := Tryz.zeroValue169
 t131 := Tryz.underlying150
 a131 := Tryz.isAgg150
 z131 := Tryz.sizeOf150
 v131 := Tryz.zeroValue150
 t182 := Tryz.underlying226
 a182 := Tryz.isAgg226
 z182 := Tryz.sizeOf226
 v182 := Tryz.zeroValue226
 t183 := Tryz.underlying227
 a183 := Tryz.isAgg227
 z183 := Tryz.sizeOf227
 v183 := Tryz.zeroValue227
 t218 := Tryz.underlying251
 a218 := Tryz.isAgg251
 z218 := Tryz.sizeOf251
 v218 := Tryz.zeroValue251
 t222 := Tryz.underlying255
 a222 := Tryz.isAgg255
 z222 := Tryz.sizeOf255
 v222 := Tryz.zeroValue255
 t228 := Tryz.underlying265
 a228 := Tryz.isAgg265
 z228 := Tryz.sizeOf265
 v228 := Tryz.zeroValue265
 t229 := Tryz.underlying266
 a229 := Tryz.isAgg266
 z229 := Tryz.sizeOf266
 v229 := Tryz.zeroValue266 }
end Go.Proofs
namespace Go.Vi
open Go.Shelf
theorem sortInt_ev {h : List Blk} {b e : Nat} {l : List Int} (hb : h[b]? = some (.vec (intsV l) e 1)) (hl : l.length < 4611686018427387904) :
  Ev Tryz.prog Γ0 88 [.ref (.vec b e)] h (.tup []) (h.set b (.vec (intsV (l.mergeSort fun x y => decide (x ≤ y))) e 1)) := sortInt_ev' Tryz.laysSort hb hl
end Go.Vi
open Go
namespace Go.Vi
theorem Ev.post {P : Program} {Γ : al} {f : FuncId} {args : List D} {h h1 h2 : List Blk} {d d2 : D} (az : List Ans) {φ : List Prop} (hE : Ev P Γ f args h d h1) (hp : pre h { t := [d], h := h1, m := [] } az = some ({ t := [d2], h := h2, m := [] }, [], φ)) (hφ : AllP φ) : Ev P Γ f args h d2 h2 := by
 intro O w l vs R ra
 refine CallsIn.mono (hE O w l vs R ra) ?_
 rintro e w' ⟨v, d', h', l', rfl, ⟨rfl, rfl⟩, R', E', r'⟩
 obtain ⟨l2, R2, E2, r2, -⟩ := pre_ok (Γ := Γ) (X := { O := O, w := w, l := l, h := h }) _ _ _ _ _ hp hφ { tmps := #[v], defers := [] } w' ⟨l', R', E', ⟨r', trivial⟩, rfl⟩
 exact ⟨v, d2, h2, l2, rfl, ⟨rfl, rfl⟩, R2, E2, r2.1⟩
end Go.Vi
open Go Go.Proofs
namespace Go.Vi
set_option maxRecDepth 100000
set_option maxHeartbeats 4000000
abbrev nilD0 : D := lit (.slice none 0 0)
abbrev bI (l : List Int) : List (D × D × Nat) := l.zipIdx.map fun p => (int p.1, bool true, p.2)
abbrev setB (l : List Int) : Blk := .map (bI l) l.length
theorem findKV_set (c : Int) : ∀ (l : List Int) (k i : Nat), eu (int c) ((l.zipIdx k).map fun p => (int p.1, bool true, p.2)) i = some (match l.idxOf? c with | some j => some (i + j, bool true) | none => none)
 | [], _, _ => rfl
 | a :: l, k, i => by
  have ih := findKV_set c l (k + 1) (i + 1)
  simp only [List.zipIdx_cons, List.map_cons, eu, keyEq, if_true, List.idxOf?_cons]
  by_cases h : a = c
  ·subst h; simp
  ·have h' : (c == a) = false := by simp; exact fun e => h e.symm
   have h'' : (a == c) = false := by simp; exact h
   rw [h', h'', ih]
   cases l.idxOf? c <;> simp <;> omega
theorem lookup_set {P : Program} {h : List Blk} {t : TypeId} {b : Nat} {l : List Int} {c : Int} {kt et : TypeId} (hk : dY P kt (int c) = true) (ht : P.underlying t = some (.map kt et)) (hz : zeroV P et = some (.bool false)) (hb : h[b]? = some (setB l)) :
  dZ P h t (.ref (.mp b)) (int c) false = some (bool (l.contains c)) := by
 unfold dZ
 simp only [ht, mapOf, hb, hk, if_true, hz, findKV_set c l 0 0]
 cases hi : l.idxOf? c with
 | none =>
  have : l.contains c = false := by
   rw [List.idxOf?_eq_none_iff] at hi
   simpa using hi
  simp only [this]; rfl
 | some j =>
  have : l.contains c = true := by
   have : ¬ l.idxOf? c = none := by rw [hi]; simp
   rw [List.idxOf?_eq_none_iff] at this
   simpa using this
  simp only [this]; rfl
theorem update_set {P : Program} {h : List Blk} {t : TypeId} {b : Nat} {l : List Int} {c : Int} {kt et : TypeId} (hk : dY P kt (int c) = true) (ht : P.underlying t = some (.map kt et)) (hb : h[b]? = some (setB l)) (hn : l.contains c = false) :
  cn P h t (.ref (.mp b)) (int c) (bool true) = some (h.set b (setB (l ++ [c]))) := by
 have hi : l.idxOf? c = none := by rw [List.idxOf?_eq_none_iff]; simpa using hn
 unfold cn
 simp only [ht, hb, hk, if_true, findKV_set c l 0 0, hi]
 simp [setB, bI, List.zipIdx_append]
abbrev nuV (l : List Int) : List (List D) := l.map fun n => [int n]
theorem ci (l : List Int) (f : Ref → D) : (nuV l).map (D.mapRL f) = nuV l := by simp [nuV, D.mapRL, D.mapR, Function.comp_def]
theorem cj (l : List Int) (k : Nat) : (nuV l).all (D.innL k) = true := by simp [nuV, D.innL, D.inn]
theorem bb (l : List Int) (n : Int) : nuV l ++ [[int n]] = nuV (l ++ [n]) := by simp [nuV]
theorem nuV_len (l : List Int) : (nuV l).length = l.length := by simp [nuV]
abbrev nuH (c0 c1 c2 : List (List Dp)) (fs : List (List Dp)) (s : Blk) (v : List (List D)) : List Blk := [.var [ab c0, ab c1, ab c2, ab fs], .var [int 12, int 0, int 0], s, .vec v 0 1]
abbrev nuS (c0 c1 c2 : List (List Dp)) (fs : List (List Dp)) (many : Int) (s : Blk) (v : List (List D)) (i : Int) : AS :=
 { t := mkT 70 0 [(4, .ref (.vec 3 0)), (5, nilD0), (6, .ref (.ptr 1 0)), (7, int many), (9, .ref (.mp 2)), (24, ab fs), (25, int fs.length), (26, int i)], h := nuH c0 c1 c2 fs s v, m := [] }
abbrev nuE (c0 c1 c2 : List (List Dp)) (fs : List (List Dp)) (many : Int) (s : Blk) (v : List (List D)) : AS :=
 { t := mkT 70 0 [(4, .ref (.vec 3 0)), (5, nilD0), (6, .ref (.ptr 1 0))], h := nuH c0 c1 c2 fs s v, m := [] }
def isNew (f : FactT) (l : List Int) : Bool := f.kind == 1 && (f.obj == 0 && (decide (f.sub ≥ 0) && decide (f.sub ≤ 4095) && !l.contains f.sub))
def nuF (many : Int) (f : FactT) (l : List Int) : List Int ⊕ List Int := if decide ((l.length : Int) ≥ many) = true then .inr l else .inl (bif isNew f l then l ++ [f.sub] else l)
theorem dH (l : List Int) (k : Nat) : ((bI l).all fun e => D.inn k e.1 && D.inn k e.2.1) = true := by simp [bI, D.inn]
theorem c5 (l : List Int) (f : Ref → D) : (bI l).map (fun e => (D.mapR f e.1, D.mapR f e.2.1, e.2.2)) = bI l := by simp [bI, D.mapR, Function.comp_def]
theorem aN {many : Int} {f : FactT} {l : List Int} (h : decide (((nuV l).length : Int) ≥ many) = true) : nuF many f l = .inr l := by
 rw [nuV_len] at h; simp only [nuF, h, if_true]
theorem dI {many : Int} {f : FactT} {l : List Int} (h : decide (((nuV l).length : Int) ≥ many) = false) (hn : isNew f l = false) : nuF many f l = .inl l := by
 rw [nuV_len] at h; simp [nuF, h, hn]
theorem dJ {many : Int} {f : FactT} {l : List Int} (h : decide (((nuV l).length : Int) ≥ many) = false) (hn : isNew f l = true) : nuF many f l = .inl (l ++ [f.sub]) := by
 rw [nuV_len] at h; simp [nuF, h, hn]
theorem lk152 {h : List Blk} {l : List Int} {c : Int} (hb : h[2]? = some (setB l)) : dZ Tryz.prog h 152 (.ref (.mp 2)) (int c) false = some (bool (l.contains c)) := lookup_set (kt := 3) (et := 4) (by kernel_rfl) (by kernel_rfl) (by kernel_rfl) hb
theorem up152 {h : List Blk} {l : List Int} {c : Int} (hb : h[2]? = some (setB l)) (hn : (!l.contains c) = true) : cn Tryz.prog h 152 (.ref (.mp 2)) (int c) (bool true) = some (h.set 2 (setB (l ++ [c]))) := update_set (kt := 3) (et := 4) (by kernel_rfl) (by kernel_rfl) hb (by simpa using hn)
noncomputable abbrev dt (c0 : List (List Dp)) (c1 : List (List Dp)) (c2 : List (List Dp)) (fs : List (List Dp)) (l : List Int) (f : FactT) : List Blk := [.var [ab c0, ab c1, ab c2, ab fs], .var [int 12, int 0, int 0], .map (bI l) (List.length l), .vec (nuV l) 0 1, .var [int f.kind, int f.sub, int f.obj, int f.value, int f.frm, int f.til, int f.known, int f.no]]
theorem nu_body {c0 c1 c2 : List (List Dp)} {fs : List (List Dp)} {many : Int} {l : List Int} {i : Nat} {f : FactT} (hr : bw (i : Int) fs f.row 8) (hlt : decide ((i : Int) < (fs.length : Int)) = true) (hw : IntKind.i64.wrap ((i : Int) + 1) = ((i + 1 : Nat) : Int)) (hl : l.length ≤ 70000)
  (hp : ∀ f, (nuV l).map (D.mapRL f) = nuV l) (hi : ∀ k, (nuV l).all (D.innL k) = true) : (CW Tryz.prog Γ0 [] false (sub Tryz.f34 0) (nuS c0 c1 c2 fs many (setB l) (nuV l) i) (ae (fun l' => nuS c0 c1 c2 fs many (setB l') (nuV l') ((i + 1 : Nat) : Int)) (fun l => (.exit 0, nuE c0 c1 c2 fs many (setB l) (nuV l))) (nuF many f l)).1 (ae (fun l' => nuS c0 c1 c2 fs many (setB l') (nuV l') ((i + 1 : Nat) : Int)) (fun l => (.exit 0, nuE c0 c1 c2 fs many (setB l) (nuV l))) (nuF many f l)).2) := by
 cases hc0 : decide ((↑(List.length (nuV l)) : Int) ≥ many)
 ·cases hc1 : f.kind == 1
  ·refine CW.cast (CW.symX (s' := { t := mkT 70 0 [(4, .ref (.vec 3 0)), (5, nq), (6, .ref (.ptr 1 0)), (7, int many), (9, .ref (.mp 2)), (24, ab fs), (25, int (↑(List.length fs) : Int)), (26, int (IntKind.wrap IntKind.i64 ((↑i : Int) + 1)))], h := [.var [ab c0, ab c1, ab c2, ab fs], .var [int 12, int 0, int 0], .map (bI l) (List.length l), .vec (nuV l) 0 1], m := [] }) (e := Exit.normal) pok [.st (.mask [4, 5, 6, 7, 9, 24, 25, 26]), .st (.ren 3 0), .st (.trim 4)] [.b true, .row [vi f.kind, vi f.sub, vi f.obj, vi f.value, vi f.frm, vi f.til, vi f.known, vi f.no], .b false, .g false, .g false, .g false, .g false, .ov 46 (bool false), .g false, .g false, .ov 50 (bool false), .g false, .g false, .g false, .g false, .ov 56 (bool false), .b false] (by kernel_rfl) (.c hlt (.c hr (.c hc0 (.c (show ((f.kind == 1) == true) = false from (by rw [hc1]; rfl)) (.c (show ((f.kind == 1) == true) = false from (by rw [hc1]; rfl)) (.c (show ((f.kind == 1) == true) = false from (by rw [hc1]; rfl)) (.c (show ((f.kind == 1) == true) = false from (by rw [hc1]; rfl)) (.c (show aB (bool (f.kind == 1)) (D.p (Dp.v (Value.tuple { toList := [] }))) (bool false) (bool false) from (aU hc1 rfl)) (.c (show (false == true) = false from rfl) (.c (show (false == true) = false from rfl) (.c (show aB (bool false) (D.p (Dp.v (Value.tuple { toList := [] }))) (bool false) (bool false) from (aU rfl rfl)) (.c (show (false == true) = false from rfl) (.c (show (false == true) = false from rfl) (.c (show (false == true) = false from rfl) (.c (show (false == true) = false from rfl) (.c (show aB (bool false) (D.p (Dp.v (Value.tuple { toList := [] }))) (bool false) (bool false) from (aU rfl rfl)) (.c (show false = false from rfl) (.c (show List.map (D.mapRL (bX 3 0 0)) (nuV l) = nuV l from ?_) (.c (show List.map (fun e => (D.mapR (bX 3 0 0) e.fst, D.mapR (bX 3 0 0) e.snd.fst, e.snd.snd)) (bI l) = bI l from ?_) (.c (show (List.all (bI l) fun e => D.inn 4 e.fst && D.inn 4 e.snd.fst) = true from ?_) (.c (show List.all (nuV l) (D.innL 4) = true from ?_) .n)))))))))))))))))))))) (by first | (rw [aN hc0]; rfl) | (rw [aN hc0]; done) | (rw [dJ hc0] <;> first | (simp only [isNew, hc1, Bool.false_and]; done) | (simp only [ae]; done) | (simp only [ae, hw, bb]; rfl)) | (rw [dI hc0] <;> first | (simp only [isNew, hc1, Bool.false_and]; done) | (simp only [ae]; done) | (simp only [ae, hw]; rfl))) (by first | (rw [aN hc0]; rfl) | (rw [aN hc0]; done) | (rw [dJ hc0] <;> first | (simp only [isNew, hc0, hc1, Bool.and_self, Bool.true_and, Bool.and_true, Bool.and_false, Bool.false_and, cond_true, cond_false]; done) | (simp only [ae, hw]; done) | (simp only [ae, hw]; rfl)) | (rw [dI hc0] <;> first | (simp only [isNew, hc1, Bool.false_and]; done) | (simp only [ae, hw]; done) | (simp only [ae, hw]; rfl))) <;> (first | assumption | exact lk152 (l := l) rfl | exact up152 (l := l) rfl (by assumption) | exact dH _ _ | exact c5 _ _ | exact cj _ _ | exact ci _ _ | (rw [bb]; exact cj _ _) | (rw [bb]; exact ci _ _) | rfl | (simp [bh, D.one, Value.oneCell', roomOk]; omega))
  ·cases hc2 : f.obj == 0
   ·refine CW.cast (CW.symX (s' := { t := mkT 70 0 [(4, .ref (.vec 3 0)), (5, nq), (6, .ref (.ptr 1 0)), (7, int many), (9, .ref (.mp 2)), (24, ab fs), (25, int (↑(List.length fs) : Int)), (26, int (IntKind.wrap IntKind.i64 ((↑i : Int) + 1)))], h := [.var [ab c0, ab c1, ab c2, ab fs], .var [int 12, int 0, int 0], .map (bI l) (List.length l), .vec (nuV l) 0 1], m := [] }) (e := Exit.normal) pok [.st (.mask [4, 5, 6, 7, 9, 24, 25, 26]), .st (.ren 3 0), .st (.trim 4)] [.b true, .row [vi f.kind, vi f.sub, vi f.obj, vi f.value, vi f.frm, vi f.til, vi f.known, vi f.no], .b false, .g true, .g true, .g true, .g true, .ov 46 (bool (f.obj == 0)), .g false, .g false, .ov 50 (bool false), .g false, .g false, .g false, .g false, .ov 56 (bool false), .b false] (by kernel_rfl) (.c hlt (.c hr (.c hc0 (.c (show ((f.kind == 1) == true) = true from (by rw [hc1]; rfl)) (.c (show ((f.kind == 1) == true) = true from (by rw [hc1]; rfl)) (.c (show ((f.kind == 1) == true) = true from (by rw [hc1]; rfl)) (.c (show ((f.kind == 1) == true) = true from (by rw [hc1]; rfl)) (.c (show aB (bool (f.kind == 1)) (bool (f.obj == 0)) (bool false) (bool (f.obj == 0)) from (aS hc1 rfl)) (.c (show ((f.obj == 0) == true) = false from (by rw [hc2]; rfl)) (.c (show ((f.obj == 0) == true) = false from (by rw [hc2]; rfl)) (.c (show aB (bool (f.obj == 0)) (D.p (Dp.v (Value.tuple { toList := [] }))) (bool false) (bool false) from (aU hc2 rfl)) (.c (show (false == true) = false from rfl) (.c (show (false == true) = false from rfl) (.c (show (false == true) = false from rfl) (.c (show (false == true) = false from rfl) (.c (show aB (bool false) (D.p (Dp.v (Value.tuple { toList := [] }))) (bool false) (bool false) from (aU rfl rfl)) (.c (show false = false from rfl) (.c (show List.map (D.mapRL (bX 3 0 0)) (nuV l) = nuV l from ?_) (.c (show List.map (fun e => (D.mapR (bX 3 0 0) e.fst, D.mapR (bX 3 0 0) e.snd.fst, e.snd.snd)) (bI l) = bI l from ?_) (.c (show (List.all (bI l) fun e => D.inn 4 e.fst && D.inn 4 e.snd.fst) = true from ?_) (.c (show List.all (nuV l) (D.innL 4) = true from ?_) .n)))))))))))))))))))))) (by first | (rw [aN hc0]; rfl) | (rw [aN hc0]; done) | (rw [dJ hc0] <;> first | (simp only [isNew, hc1, hc2, Bool.and_false, Bool.false_and]; done) | (simp only [ae]; done) | (simp only [ae, hw, bb]; rfl)) | (rw [dI hc0] <;> first | (simp only [isNew, hc1, hc2, Bool.and_false, Bool.false_and]; done) | (simp only [ae]; done) | (simp only [ae, hw]; rfl))) (by first | (rw [aN hc0]; rfl) | (rw [aN hc0]; done) | (rw [dJ hc0] <;> first | (simp only [isNew, hc0, hc1, hc2, Bool.and_self, Bool.true_and, Bool.and_true, Bool.and_false, Bool.false_and, cond_true, cond_false]; done) | (simp only [ae, hw]; done) | (simp only [ae, hw]; rfl)) | (rw [dI hc0] <;> first | (simp only [isNew, hc1, hc2, Bool.and_false, Bool.false_and]; done) | (simp only [ae, hw]; done) | (simp only [ae, hw]; rfl))) <;> (first | assumption | exact lk152 (l := l) rfl | exact up152 (l := l) rfl (by assumption) | exact dH _ _ | exact c5 _ _ | exact cj _ _ | exact ci _ _ | (rw [bb]; exact cj _ _) | (rw [bb]; exact ci _ _) | rfl | (simp [bh, D.one, Value.oneCell', roomOk]; omega))
   ·cases hc3 : decide (f.sub ≥ 0) && decide (f.sub ≤ 4095)
    ·refine CW.cast (CW.symX (s' := { t := mkT 70 0 [(4, .ref (.vec 3 0)), (5, nq), (6, .ref (.ptr 1 0)), (7, int many), (9, .ref (.mp 2)), (24, ab fs), (25, int (↑(List.length fs) : Int)), (26, int (IntKind.wrap IntKind.i64 ((↑i : Int) + 1)))], h := [.var [ab c0, ab c1, ab c2, ab fs], .var [int 12, int 0, int 0], .map (bI l) (List.length l), .vec (nuV l) 0 1], m := [] }) (e := Exit.normal) pok [.st (.mask [4, 5, 6, 7, 9, 24, 25, 26]), .st (.ren 3 0), .st (.trim 4)] [.b true, .row [vi f.kind, vi f.sub, vi f.obj, vi f.value, vi f.frm, vi f.til, vi f.known, vi f.no], .b false, .g true, .g true, .g true, .g true, .ov 46 (bool (f.obj == 0)), .g true, .g true, .val (bool (decide (f.sub ≥ 0) && decide (f.sub ≤ 4095))), .ov 50 (bool (decide (f.sub ≥ 0) && decide (f.sub ≤ 4095))), .g false, .g false, .g false, .g false, .ov 56 (bool false), .b false] (by kernel_rfl) (.c hlt (.c hr (.c hc0 (.c (show ((f.kind == 1) == true) = true from (by rw [hc1]; rfl)) (.c (show ((f.kind == 1) == true) = true from (by rw [hc1]; rfl)) (.c (show ((f.kind == 1) == true) = true from (by rw [hc1]; rfl)) (.c (show ((f.kind == 1) == true) = true from (by rw [hc1]; rfl)) (.c (show aB (bool (f.kind == 1)) (bool (f.obj == 0)) (bool false) (bool (f.obj == 0)) from (aS hc1 rfl)) (.c (show ((f.obj == 0) == true) = true from (by rw [hc2]; rfl)) (.c (show ((f.obj == 0) == true) = true from (by rw [hc2]; rfl)) (.c (@bin_ev (f.sub) (0) (4095) ((dt c0 c1 c2 fs l f))) (.c (show aB (bool (f.obj == 0)) (bool (decide (f.sub ≥ 0) && decide (f.sub ≤ 4095))) (bool false) (bool (decide (f.sub ≥ 0) && decide (f.sub ≤ 4095))) from (aS hc2 rfl)) (.c (show ((decide (f.sub ≥ 0) && decide (f.sub ≤ 4095)) == true) = false from (by rw [hc3]; rfl)) (.c (show ((decide (f.sub ≥ 0) && decide (f.sub ≤ 4095)) == true) = false from (by rw [hc3]; rfl)) (.c (show ((decide (f.sub ≥ 0) && decide (f.sub ≤ 4095)) == true) = false from (by rw [hc3]; rfl)) (.c (show ((decide (f.sub ≥ 0) && decide (f.sub ≤ 4095)) == true) = false from (by rw [hc3]; rfl)) (.c (show aB (bool (decide (f.sub ≥ 0) && decide (f.sub ≤ 4095))) (D.p (Dp.v (Value.tuple { toList := [] }))) (bool false) (bool false) from (aU hc3 rfl)) (.c (show false = false from rfl) (.c (show List.map (D.mapRL (bX 3 0 0)) (nuV l) = nuV l from ?_) (.c (show List.map (fun e => (D.mapR (bX 3 0 0) e.fst, D.mapR (bX 3 0 0) e.snd.fst, e.snd.snd)) (bI l) = bI l from ?_) (.c (show (List.all (bI l) fun e => D.inn 4 e.fst && D.inn 4 e.snd.fst) = true from ?_) (.c (show List.all (nuV l) (D.innL 4) = true from ?_) .n))))))))))))))))))))))) (by first | (rw [aN hc0]; rfl) | (rw [aN hc0]; done) | (rw [dJ hc0] <;> first | (simp only [isNew, hc1, hc2, hc3, Bool.and_false, Bool.false_and]; done) | (simp only [ae]; done) | (simp only [ae, hw, bb]; rfl)) | (rw [dI hc0] <;> first | (simp only [isNew, hc1, hc2, hc3, Bool.and_false, Bool.false_and]; done) | (simp only [ae]; done) | (simp only [ae, hw]; rfl))) (by first | (rw [aN hc0]; rfl) | (rw [aN hc0]; done) | (rw [dJ hc0] <;> first | (simp only [isNew, hc0, hc1, hc2, hc3, Bool.and_self, Bool.true_and, Bool.and_true, Bool.and_false, Bool.false_and, cond_true, cond_false]; done) | (simp only [ae, hw]; done) | (simp only [ae, hw]; rfl)) | (rw [dI hc0] <;> first | (simp only [isNew, hc1, hc2, hc3, Bool.and_false, Bool.false_and]; done) | (simp only [ae, hw]; done) | (simp only [ae, hw]; rfl))) <;> (first | assumption | exact lk152 (l := l) rfl | exact up152 (l := l) rfl (by assumption) | exact dH _ _ | exact c5 _ _ | exact cj _ _ | exact ci _ _ | (rw [bb]; exact cj _ _) | (rw [bb]; exact ci _ _) | rfl | (simp [bh, D.one, Value.oneCell', roomOk]; omega))
    ·cases hc4 : !List.contains l f.sub
     ·refine CW.cast (CW.symX (s' := { t := mkT 70 0 [(4, .ref (.vec 3 0)), (5, nq), (6, .ref (.ptr 1 0)), (7, int many), (9, .ref (.mp 2)), (24, ab fs), (25, int (↑(List.length fs) : Int)), (26, int (IntKind.wrap IntKind.i64 ((↑i : Int) + 1)))], h := [.var [ab c0, ab c1, ab c2, ab fs], .var [int 12, int 0, int 0], .map (bI l) (List.length l), .vec (nuV l) 0 1], m := [] }) (e := Exit.normal) pok [.st (.mask [4, 5, 6, 7, 9, 24, 25, 26]), .st (.ren 3 0), .st (.trim 4)] [.b true, .row [vi f.kind, vi f.sub, vi f.obj, vi f.value, vi f.frm, vi f.til, vi f.known, vi f.no], .b false, .g true, .g true, .g true, .g true, .ov 46 (bool (f.obj == 0)), .g true, .g true, .val (bool (decide (f.sub ≥ 0) && decide (f.sub ≤ 4095))), .ov 50 (bool (decide (f.sub ≥ 0) && decide (f.sub ≤ 4095))), .g true, .g true, .g true, .ov 54 (bool (List.contains l f.sub)), .g true, .ov 56 (bool !List.contains l f.sub), .b false] (by kernel_rfl) (.c hlt (.c hr (.c hc0 (.c (show ((f.kind == 1) == true) = true from (by rw [hc1]; rfl)) (.c (show ((f.kind == 1) == true) = true from (by rw [hc1]; rfl)) (.c (show ((f.kind == 1) == true) = true from (by rw [hc1]; rfl)) (.c (show ((f.kind == 1) == true) = true from (by rw [hc1]; rfl)) (.c (show aB (bool (f.kind == 1)) (bool (f.obj == 0)) (bool false) (bool (f.obj == 0)) from (aS hc1 rfl)) (.c (show ((f.obj == 0) == true) = true from (by rw [hc2]; rfl)) (.c (show ((f.obj == 0) == true) = true from (by rw [hc2]; rfl)) (.c (@bin_ev (f.sub) (0) (4095) ((dt c0 c1 c2 fs l f))) (.c (show aB (bool (f.obj == 0)) (bool (decide (f.sub ≥ 0) && decide (f.sub ≤ 4095))) (bool false) (bool (decide (f.sub ≥ 0) && decide (f.sub ≤ 4095))) from (aS hc2 rfl)) (.c (show ((decide (f.sub ≥ 0) && decide (f.sub ≤ 4095)) == true) = true from (by rw [hc3]; rfl)) (.c (show ((decide (f.sub ≥ 0) && decide (f.sub ≤ 4095)) == true) = true from (by rw [hc3]; rfl)) (.c (show ((decide (f.sub ≥ 0) && decide (f.sub ≤ 4095)) == true) = true from (by rw [hc3]; rfl)) (.c (show dZ Tryz.prog (dt c0 c1 c2 fs l f) 152 (.ref (.mp 2)) (int f.sub) false = some (bool (List.contains l f.sub)) from ?_) (.c (show ((decide (f.sub ≥ 0) && decide (f.sub ≤ 4095)) == true) = true from (by rw [hc3]; rfl)) (.c (show aB (bool (decide (f.sub ≥ 0) && decide (f.sub ≤ 4095))) (bool !List.contains l f.sub) (bool false) (bool !List.contains l f.sub) from (aS hc3 rfl)) (.c hc4 (.c (show List.map (D.mapRL (bX 3 0 0)) (nuV l) = nuV l from ?_) (.c (show List.map (fun e => (D.mapR (bX 3 0 0) e.fst, D.mapR (bX 3 0 0) e.snd.fst, e.snd.snd)) (bI l) = bI l from ?_) (.c (show (List.all (bI l) fun e => D.inn 4 e.fst && D.inn 4 e.snd.fst) = true from ?_) (.c (show List.all (nuV l) (D.innL 4) = true from ?_) .n)))))))))))))))))))))))) (by first | (rw [aN hc0]; rfl) | (rw [aN hc0]; done) | (rw [dJ hc0] <;> first | (simp only [isNew, hc1, hc2, hc3, hc4, Bool.and_false]; done) | (simp only [ae]; done) | (simp only [ae, hw, bb]; rfl)) | (rw [dI hc0] <;> first | (simp only [isNew, hc1, hc2, hc3, hc4, Bool.and_false]; done) | (simp only [ae]; done) | (simp only [ae, hw]; rfl))) (by first | (rw [aN hc0]; rfl) | (rw [aN hc0]; done) | (rw [dJ hc0] <;> first | (simp only [isNew, hc0, hc1, hc2, hc3, hc4, Bool.and_self, Bool.true_and, Bool.and_true, Bool.and_false, Bool.false_and, cond_true, cond_false]; done) | (simp only [ae, hw]; done) | (simp only [ae, hw]; rfl)) | (rw [dI hc0] <;> first | (simp only [isNew, hc1, hc2, hc3, hc4, Bool.and_false]; done) | (simp only [ae, hw]; done) | (simp only [ae, hw]; rfl))) <;> (first | assumption | exact lk152 (l := l) rfl | exact up152 (l := l) rfl (by assumption) | exact dH _ _ | exact c5 _ _ | exact cj _ _ | exact ci _ _ | (rw [bb]; exact cj _ _) | (rw [bb]; exact ci _ _) | rfl | (simp [bh, D.one, Value.oneCell', roomOk]; omega))
     ·refine CW.cast (CW.symX (s' := { t := mkT 70 0 [(4, .ref (.vec 3 0)), (5, nq), (6, .ref (.ptr 1 0)), (7, int many), (9, .ref (.mp 2)), (24, ab fs), (25, int (↑(List.length fs) : Int)), (26, int (IntKind.wrap IntKind.i64 ((↑i : Int) + 1)))], h := [.var [ab c0, ab c1, ab c2, ab fs], .var [int 12, int 0, int 0], .map (bI (l ++ [f.sub])) (List.length (l ++ [f.sub])), .vec (nuV l ++ [[int f.sub]]) 0 1], m := [] }) (e := Exit.normal) pok [.st (.mask [4, 5, 6, 7, 9, 24, 25, 26]), .st (.ren 3 0), .st (.trim 4)] [.b true, .row [vi f.kind, vi f.sub, vi f.obj, vi f.value, vi f.frm, vi f.til, vi f.known, vi f.no], .b false, .g true, .g true, .g true, .g true, .ov 46 (bool (f.obj == 0)), .g true, .g true, .val (bool (decide (f.sub ≥ 0) && decide (f.sub ≤ 4095))), .ov 50 (bool (decide (f.sub ≥ 0) && decide (f.sub ≤ 4095))), .g true, .g true, .g true, .ov 54 (bool (List.contains l f.sub)), .g true, .ov 56 (bool !List.contains l f.sub), .b true, .oh 10057 D.any (nuH c0 c1 c2 fs (setB (l ++ [f.sub])) (nuV l) ++ [.var (List.map D.p (FactT.row f))])] (by kernel_rfl) (.c hlt (.c hr (.c hc0 (.c (show ((f.kind == 1) == true) = true from (by rw [hc1]; rfl)) (.c (show ((f.kind == 1) == true) = true from (by rw [hc1]; rfl)) (.c (show ((f.kind == 1) == true) = true from (by rw [hc1]; rfl)) (.c (show ((f.kind == 1) == true) = true from (by rw [hc1]; rfl)) (.c (show aB (bool (f.kind == 1)) (bool (f.obj == 0)) (bool false) (bool (f.obj == 0)) from (aS hc1 rfl)) (.c (show ((f.obj == 0) == true) = true from (by rw [hc2]; rfl)) (.c (show ((f.obj == 0) == true) = true from (by rw [hc2]; rfl)) (.c (@bin_ev (f.sub) (0) (4095) ((dt c0 c1 c2 fs l f))) (.c (show aB (bool (f.obj == 0)) (bool (decide (f.sub ≥ 0) && decide (f.sub ≤ 4095))) (bool false) (bool (decide (f.sub ≥ 0) && decide (f.sub ≤ 4095))) from (aS hc2 rfl)) (.c (show ((decide (f.sub ≥ 0) && decide (f.sub ≤ 4095)) == true) = true from (by rw [hc3]; rfl)) (.c (show ((decide (f.sub ≥ 0) && decide (f.sub ≤ 4095)) == true) = true from (by rw [hc3]; rfl)) (.c (show ((decide (f.sub ≥ 0) && decide (f.sub ≤ 4095)) == true) = true from (by rw [hc3]; rfl)) (.c (show dZ Tryz.prog (dt c0 c1 c2 fs l f) 152 (.ref (.mp 2)) (int f.sub) false = some (bool (List.contains l f.sub)) from ?_) (.c (show ((decide (f.sub ≥ 0) && decide (f.sub ≤ 4095)) == true) = true from (by rw [hc3]; rfl)) (.c (show aB (bool (decide (f.sub ≥ 0) && decide (f.sub ≤ 4095))) (bool !List.contains l f.sub) (bool false) (bool !List.contains l f.sub) from (aS hc3 rfl)) (.c hc4 (.c (show cn Tryz.prog (dt c0 c1 c2 fs l f) 152 (.ref (.mp 2)) (int f.sub) (evalD Γ0 (D.any :: D.any :: D.any :: D.any :: .ref (.vec 3 0) :: nq :: .ref (.ptr 1 0) :: int many :: D.any :: .ref (.mp 2) :: D.any :: .ref (.ptr 4 0) :: int f.sub :: D.any :: D.any :: D.any :: D.any :: D.any :: D.any :: D.any :: D.any :: D.any :: D.any :: D.any :: ab fs :: int (↑(List.length fs) : Int) :: int (↑i : Int) :: bool (decide ((↑i : Int) < (↑(List.length fs) : Int))) :: D.ep [vi f.kind, vi f.sub, vi f.obj, vi f.value, vi f.frm, vi f.til, vi f.known, vi f.no] :: D.agg [int f.kind, int f.sub, int f.obj, int f.value, int f.frm, int f.til, int f.known, int f.no] :: .ref (.vec 3 0) :: int (↑(List.length (nuV l)) : Int) :: int many :: bool (decide ((↑(List.length (nuV l)) : Int) ≥ many)) :: .ref (.ptr 4 0) :: .ref (.ptr 4 1) :: int f.sub :: .ref (.ptr 4 0) :: .ref (.ptr 4 0) :: int f.kind :: bool (f.kind == 1) :: bool (f.kind == 1) :: .ref (.ptr 4 0) :: .ref (.ptr 4 2) :: int f.obj :: bool (f.obj == 0) :: bool (f.obj == 0) :: bool (f.obj == 0) :: mkT 22 0 [(0, int f.sub), (1, bool (decide (f.sub ≥ 0) && decide (f.sub ≤ 4095))), (2, bool (decide (f.sub ≥ 0) && decide (f.sub ≤ 4095))), (3, bool (decide (f.sub ≥ 0) && decide (f.sub ≤ 4095))), (4, .ref (.mp 2)), (5, int f.sub), (6, bool (List.contains l f.sub)), (7, bool !List.contains l f.sub), (8, bool !List.contains l f.sub), (9, .ref (.mp 2)), (10, int f.sub)]) (Operand.const (Value.bool true))) = some [.var [ab c0, ab c1, ab c2, ab fs], .var [int 12, int 0, int 0], .map (bI (l ++ [f.sub])) (List.length (l ++ [f.sub])), .vec (nuV l) 0 1, .var [int f.kind, int f.sub, int f.obj, int f.value, int f.frm, int f.til, int f.known, int f.no]] from ?_) (.c (show (List.all [[int f.sub]] (bh 1) && roomOk (List.length (nuV l) + List.length [[int f.sub]]) 8) = true from ?_) (.c (show List.map (D.mapRL (bX 3 1 0)) (nuV l ++ [[int f.sub]]) = nuV l ++ [[int f.sub]] from ?_) (.c (show List.map (fun e => (D.mapR (bX 3 1 0) e.fst, D.mapR (bX 3 1 0) e.snd.fst, e.snd.snd)) (bI (l ++ [f.sub])) = bI (l ++ [f.sub]) from ?_) (.c (show [[int f.sub]] = [[int f.sub]] from rfl) (.c (show (List.all (bI (l ++ [f.sub])) fun e => D.inn 4 e.fst && D.inn 4 e.snd.fst) = true from ?_) (.c (show List.all (nuV l ++ [[int f.sub]]) (D.innL 4) = true from ?_) .n))))))))))))))))))))))))))) (by first | (rw [aN hc0]; rfl) | (rw [aN hc0]; done) | (rw [dJ hc0] <;> first | (simp only [isNew, hc1, hc2, hc3, hc4, Bool.and_self]; done) | (simp only [ae]; done) | (simp only [ae, hw, bb]; rfl)) | (rw [dI hc0] <;> first | (simp only [isNew, hc0, hc1, hc2, hc3, hc4, Bool.and_self, Bool.true_and, Bool.and_true, Bool.and_false, Bool.false_and, cond_true, cond_false]; done) | (simp only [ae, hw]; done) | (simp only [ae, hw]; rfl))) (by first | (rw [aN hc0]; rfl) | (rw [aN hc0]; done) | (rw [dJ hc0] <;> first | (simp only [isNew, hc1, hc2, hc3, hc4, Bool.and_self]; done) | (simp only [ae, hw, bb]; done) | (simp only [ae, hw, bb]; rfl)) | (rw [dI hc0] <;> first | (simp only [isNew, hc0, hc1, hc2, hc3, hc4, Bool.and_self, Bool.true_and, Bool.and_true, Bool.and_false, Bool.false_and, cond_true, cond_false]; done) | (simp only [ae, hw]; done) | (simp only [ae, hw]; rfl))) <;> (first | assumption | exact lk152 (l := l) rfl | exact up152 (l := l) rfl (by assumption) | exact dH _ _ | exact c5 _ _ | exact cj _ _ | exact ci _ _ | (rw [bb]; exact cj _ _) | (rw [bb]; exact ci _ _) | rfl | (simp [bh, D.one, Value.oneCell', roomOk]; omega))
 ·refine CW.cast (CW.symX (s' := { t := mkT 70 0 [(4, .ref (.vec 3 0)), (5, nq), (6, .ref (.ptr 1 0))], h := [.var [ab c0, ab c1, ab c2, ab fs], .var [int 12, int 0, int 0], .map (bI l) (List.length l), .vec (nuV l) 0 1], m := [] }) (e := Exit.exit 0) pok [.st (.mask [4, 5, 6]), .st (.trim 4)] [.b true, .row [vi f.kind, vi f.sub, vi f.obj, vi f.value, vi f.frm, vi f.til, vi f.known, vi f.no], .b true] (by kernel_rfl) (.c hlt (.c hr (.c hc0 (.c (show (List.all (bI l) fun e => D.inn 4 e.fst && D.inn 4 e.snd.fst) = true from (by first | assumption | exact lk152 (l := l) rfl | exact up152 (l := l) rfl (by assumption) | exact dH _ _ | exact c5 _ _ | exact cj _ _ | exact ci _ _ | (rw [bb]; exact cj _ _) | (rw [bb]; exact ci _ _) | rfl | (simp [bh, D.one, Value.oneCell', roomOk]; omega))) (.c (show List.all (nuV l) (D.innL 4) = true from (by first | assumption | exact lk152 (l := l) rfl | exact up152 (l := l) rfl (by assumption) | exact dH _ _ | exact c5 _ _ | exact cj _ _ | exact ci _ _ | (rw [bb]; exact cj _ _) | (rw [bb]; exact ci _ _) | rfl | (simp [bh, D.one, Value.oneCell', roomOk]; omega))) .n)))))) ?_ ?_ <;> (first | (rw [aN hc0]; rfl) | (rw [aN hc0]; done) | (rw [dJ hc0] <;> first | (simp only [isNew, hc0, Bool.and_self, Bool.true_and, Bool.and_true, Bool.and_false, Bool.false_and, cond_true, cond_false]; done) | (simp only [ae, hw, bb]; done) | (simp only [ae, hw, bb]; rfl)) | (rw [dI hc0] <;> first | (simp only [isNew, hc0, Bool.and_self, Bool.true_and, Bool.and_true, Bool.and_false, Bool.false_and, cond_true, cond_false]; done) | (simp only [ae, hw]; done) | (simp only [ae, hw]; rfl)))
theorem nu_last {c0 c1 c2 : List (List Dp)} {fs : List (List Dp)} {many : Int} {s : Blk} {v : List (List D)} {i : Nat} (hlt : decide ((i : Int) < (fs.length : Int)) = false) : (CW Tryz.prog Γ0 [] false (sub Tryz.f34 0) (nuS c0 c1 c2 fs many s v i) (.exit 0) (nuE c0 c1 c2 fs many s v)) := by
 exact CW.cast (CW.symX (s' := { t := mkT 70 0 [(4, .ref (.vec 3 0)), (5, nq), (6, .ref (.ptr 1 0))], h := [.var [ab c0, ab c1, ab c2, ab fs], .var [int 12, int 0, int 0], s, .vec v 0 1], m := [] }) (e := Exit.exit 0) pok [.st (.mask [4, 5, 6])] [.b false] (by kernel_rfl) (.c hlt .n)) (by rfl) (by rfl)
def nuG (r : List Int ⊕ List Int) : List Int := match r with | .inl l => l | .inr l => l
theorem nuF_len {many : Int} {f : FactT} {l l' : List Int} (h : nuF many f l = .inl l') : l'.length ≤ l.length + 1 := by
 unfold nuF at h
 split at h
 ·simp at h
 ·simp at h; subst h
  cases isNew f l <;> simp
theorem nu_cw {c0 c1 c2 : List (List Dp)} {many : Int} {fs : List FactT} (hf : fs.length ≤ 69000) :
  CW Tryz.prog Γ0 [] false (.loop (sub Tryz.f34 0)) (nuS c0 c1 c2 (fs.map FactT.row) many (setB []) (nuV []) 0) (.exit 0) (nuE c0 c1 c2 (fs.map FactT.row) many (setB (nuG (forL (nuF many) fs []))) (nuV (nuG (forL (nuF many) fs [])))) := by
 have := CW.each (P := Tryz.prog) (Γ := Γ0) (h0 := []) (rd := false) (c := sub Tryz.f34 0) fs (nuF many) (fun i l => nuS c0 c1 c2 (fs.map FactT.row) many (setB l) (nuV l) (i : Int)) (.exit 0) (fun l => nuE c0 c1 c2 (fs.map FactT.row) many (setB l) (nuV l)) (fun l => (.exit 0, nuE c0 c1 c2 (fs.map FactT.row) many (setB l) (nuV l)))
  (fun i l => l.length ≤ i) (by simp) (by simp) ?_ ?_ [] (by simp)
 ·cases h : forL (nuF many) fs [] <;> rw [h] at this <;> exact this
 ·intro i f l hfi hl
  have hi := (List.getElem?_eq_some_iff.1 hfi).1
  refine ⟨fun l' h => ?_, nu_body (rowAt hfi rfl) (lt_len _ hi) (wrap_succ hi (by omega)) (by omega) (ci l) (cj l)⟩
  have := nuF_len h
  omega
 ·intro l hl
  exact nu_last (fa _ fs)
theorem nu_frz (l : List Int) : nuV l = (l.map fun n => [vi n]).map (List.map D.p) := by simp [nuV]
theorem sort4_ev {x0 x1 x2 : Blk} {l : List Int} (hl : l.length < 4611686018427387904) : Ev Tryz.prog Γ0 88 [.ref (.vec 3 0)] [x0, x1, x2, .vec (nuV l) 0 1] (.tup []) [x0, x1, x2, .vec (nuV (l.mergeSort fun x y => decide (x ≤ y))) 0 1] :=
 sortInt_ev (h := [x0, x1, x2, .vec (nuV l) 0 1]) (b := 3) rfl hl
theorem forL_nu_len {many : Int} : ∀ (fs : List FactT) (l : List Int), (nuG (forL (nuF many) fs l)).length ≤ l.length + fs.length
 | [], l => by simp [forL, nuG]
 | f :: fs, l => by
  simp only [forL]
  cases h : nuF many f l with
  | inl l' =>
   have := nuF_len h
   have := forL_nu_len (many := many) fs l'
   simp only [List.length_cons]; omega
  | inr l' =>
   have : l' = l := by
    unfold nuF at h; split at h
    ·simp at h; exact h.symm
    ·simp at h
   subst this
   simp only [nuG]; omega
theorem nums_len {many : Int} {fs : List FactT} (hf : fs.length ≤ 69000) : (nuG (forL (nuF many) fs [])).length < 4611686018427387904 := by
 have := forL_nu_len (many := many) fs []
 simp at this; omega
def numsOf (many : Int) (fs : List FactT) : List Int := nuG (forL (nuF many) fs [])
def manyOf (fs : List FactT) (known : Int) : Int := (atR 12 0 0 0 known fs).1
def numbersR (fs : List FactT) (known : Int) : List Int := (numsOf (manyOf fs known) fs).mergeSort fun x y => decide (x ≤ y)
noncomputable abbrev nuB (c0 c1 c2 : List (List Dp)) (fs : List FactT) (known : Int) (r : Blk) : List Blk := [.var [ab c0, ab c1, ab c2, ab (fs.map FactT.row)], .var [int 12, int 0, int 0], setB (nuG (forL (nuF (atR 12 0 0 0 known fs).1) fs [])), .gone, r]
noncomputable abbrev numbers_a_x0 (c0 : List (List Dp)) (c1 : List (List Dp)) (c2 : List (List Dp)) (fs : List FactT) (known : Int) : List Blk := [.var [ab c0, ab c1, ab c2, ab (List.map FactT.row fs)], .var [int 12, int 0, int 0], .map (bI (nuG (forL (nuF (atR 12 0 0 0 known fs).fst) fs []))) (List.length (nuG (forL (nuF (atR 12 0 0 0 known fs).fst) fs []))), .vec (nuV (nuG (forL (nuF (atR 12 0 0 0 known fs).fst) fs []))) 0 1]
noncomputable abbrev numbers_a_x1 (c0 : List (List Dp)) (c1 : List (List Dp)) (c2 : List (List Dp)) (fs : List FactT) : List Blk := [.var [ab c0, ab c1, ab c2, ab (List.map FactT.row fs)], .var [int 12, int 0, int 0]]
theorem numbers_a {c0 c1 c2 : List (List Dp)} {fs : List FactT} (hf : fs.length ≤ 69000) (hs : ao fs) {known : Int} : (Ev Tryz.prog Γ0 34 [.agg [ab c0, ab c1, ab c2, ab (fs.map FactT.row)], int known] [] (.tup [ab ((numbersR fs known).map fun n => [vi n]), .ref (.vec 4 0)]) (nuB c0 c1 c2 fs known (.vec [[int 12, int 0, int 0, int 0, int 1]] 0 5))) := by
 have hl0 := (@nu_cw (c0) (c1) (c2) ((atR 12 0 0 0 known fs).fst) (fs) (hf))
 refine Ev.castH (Ev.of_sym (h' := [.var [ab c0, ab c1, ab c2, ab (List.map FactT.row fs)], .var [int 12, int 0, int 0], .map (bI (nuG (forL (nuF (atR 12 0 0 0 known fs).fst) fs []))) (List.length (nuG (forL (nuF (atR 12 0 0 0 known fs).fst) fs []))), .gone, .vec [[int 12, int 0, int 0, int 0, int 1]] 0 5]) (d := D.tup [ab (List.map (fun n => [vi n]) (numbersR fs known)), .ref (.vec 4 0)]) pok [.val (D.tup [int (atR 12 0 0 0 known fs).fst, bool (atR 12 0 0 0 known fs).snd]), .nx 2, .st (.nilT 4 1), .sum [4, 5, 6, 7, 9, 24, 25, 26] (Exit.exit 0) { t := mkT 70 0 [(4, .ref (.vec 3 0)), (5, nq), (6, .ref (.ptr 1 0))], h := (numbers_a_x0 c0 c1 c2 fs known), m := [] }, .call (D.tup []) [.var [ab c0, ab c1, ab c2, ab (List.map FactT.row fs)], .var [int 12, int 0, int 0], .map (bI (nuG (forL (nuF (atR 12 0 0 0 known fs).fst) fs []))) (List.length (nuG (forL (nuF (atR 12 0 0 0 known fs).fst) fs []))), .vec (nuV (List.mergeSort (nuG (forL (nuF (atR 12 0 0 0 known fs).fst) fs [])) fun x y => decide (x ≤ y))) 0 1], .st (.frz 3 (List.map (fun n => [vi n]) (numbersR fs known)))] (by kernel_rfl) (.c (@at_ev (12) (0) (0) (0) (known) (fs) (hs) ((numbers_a_x1 c0 c1 c2 fs))) (.c hl0 (.c (@sort4_ev (.var [ab c0, ab c1, ab c2, ab (List.map FactT.row fs)]) (.var [int 12, int 0, int 0]) (.map (bI (nuG (forL (nuF (atR 12 0 0 0 known fs).fst) fs []))) (List.length (nuG (forL (nuF (atR 12 0 0 0 known fs).fst) fs [])))) (nuG (forL (nuF (atR 12 0 0 0 known fs).fst) fs [])) ?_) (.c (show nuV (List.mergeSort (nuG (forL (nuF (atR 12 0 0 0 known fs).fst) fs [])) fun x y => decide (x ≤ y)) = List.map (fun x => List.map D.p x) (List.map (fun n => [vi n]) (numbersR fs known)) from ?_) (.c (show List.map (fun e => (D.mapR (aJ 3 0 (List.map (fun n => [vi n]) (numbersR fs known))) e.fst, D.mapR (aJ 3 0 (List.map (fun n => [vi n]) (numbersR fs known))) e.snd.fst, e.snd.snd)) (bI (nuG (forL (nuF (atR 12 0 0 0 known fs).fst) fs []))) = bI (nuG (forL (nuF (atR 12 0 0 0 known fs).fst) fs [])) from ?_) (.e (D.agg [int 12, int 0, int 0]) .n))))))) (by rfl) (by rfl) <;> (first | assumption | exact nums_len hf | exact c5 _ _ | exact nu_frz _)
theorem numbers_b {c0 c1 c2 : List (List Dp)} {fs : List FactT} (hf : fs.length ≤ 69000) (hs : ao fs) {known : Int} : Ev Tryz.prog Γ0 34 [.agg [ab c0, ab c1, ab c2, ab (fs.map FactT.row)], int known] [] (.tup [ab ((numbersR fs known).map fun n => [vi n]), .ref (.vec 0 0)]) [.vec [[int 12, int 0, int 0, int 0, int 1]] 0 5] :=
 Ev.castH ((numbers_a (c0 := c0) (c1 := c1) (c2 := c2) (known := known) hf hs).keepB [4] (by kernel_rfl) ⟨rfl, trivial⟩) (by kernel_rfl) (by kernel_rfl)
theorem numbers_evA {c0 c1 c2 : List (List Dp)} {fs : List FactT} (hf : fs.length ≤ 69000) (hs : ao fs) {known : Int} (h : List Blk) : Ev Tryz.prog Γ0 34 [.agg [ab c0, ab c1, ab c2, ab (fs.map FactT.row)], int known] h (.tup [ab ((numbersR fs known).map fun n => [vi n]), .ref (.vec h.length 0)]) (h ++ [.vec [[int 12, int 0, int 0, int 0, int 1]] 0 5]) :=
 (numbers_b (c0 := c0) (c1 := c1) (c2 := c2) (known := known) hf hs).frameN (by kernel_rfl) rfl h
end Go.Vi
