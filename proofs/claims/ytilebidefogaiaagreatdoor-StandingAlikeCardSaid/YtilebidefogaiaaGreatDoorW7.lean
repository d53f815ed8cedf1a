/- StandingAlike: part of the proof. -/
import Derived.Test.YtilebidefogaiaaGreatDoorW6
import Derived.LaidHandle
open Go Go.Proofs
namespace Go.Vi
set_option maxRecDepth 100000
set_option maxHeartbeats 4000000
def nwN (n d : Int) : Int := IntKind.u64.wrap (Int.tdiv (n.natAbs : Int) (Nat.gcd d.natAbs n.natAbs : Int))
def nwD (n d : Int) : Int := IntKind.u64.wrap (Int.tdiv (d.natAbs : Int) (Nat.gcd d.natAbs n.natAbs : Int))
def nwBig (n d : Int) : Bool := decide (nwN n d > 1073741824) || decide (nwD n d > 1073741824)
def nwSg (n d : Int) : Bool := !(decide (n < 0) == decide (d < 0))
def newR (n d : Int) : Int × Int × Int := match d == 0 with
 | true => (0, 0, 1)
 | false => match nwBig n d with
  | true => (0, 0, 2)
  | false => match nwSg n d with
   | true => (IntKind.i64.wrap (0 - IntKind.i64.wrap (nwN n d)), IntKind.i64.wrap (nwD n d), 0)
   | false => (IntKind.i64.wrap (nwN n d), IntKind.i64.wrap (nwD n d), 0)
theorem nw_ne {n d : Int} (h : (d == 0) = false) : ((Nat.gcd d.natAbs n.natAbs : Nat) : Int) ≠ 0 := by
 have : d ≠ 0 := by simpa using h
 intro h0
 have : Nat.gcd d.natAbs n.natAbs = 0 := by exact_mod_cast h0
 have := Nat.eq_zero_of_gcd_eq_zero_left this
 omega
theorem rnew_ev {n d : Int} (hn : I64 n) (hd : I64 d) (h : List Blk) : (Ev Tryz.prog Γ0 109 [int n, int d] h (.tup [.agg [int (newR n d).1, int (newR n d).2.1], int (newR n d).2.2]) h) := by
 cases hc0 : d == 0
 ·cases hc1 : decide (IntKind.wrap IntKind.u64 (Int.tdiv (↑(Int.natAbs n) : Int) (↑(Nat.gcd (Int.natAbs d) (Int.natAbs n)) : Int)) > 1073741824) || decide (IntKind.wrap IntKind.u64 (Int.tdiv (↑(Int.natAbs d) : Int) (↑(Nat.gcd (Int.natAbs d) (Int.natAbs n)) : Int)) > 1073741824)
  ·cases hc2 : !decide (n < 0) == decide (d < 0)
   ·refine Ev.castH (Ev.sym0 (d := D.tup [D.agg [int (IntKind.wrap IntKind.i64 (IntKind.wrap IntKind.u64 (Int.tdiv (↑(Int.natAbs n) : Int) (↑(Nat.gcd (Int.natAbs d) (Int.natAbs n)) : Int)))), int (IntKind.wrap IntKind.i64 (IntKind.wrap IntKind.u64 (Int.tdiv (↑(Int.natAbs d) : Int) (↑(Nat.gcd (Int.natAbs d) (Int.natAbs n)) : Int))))], int 0]) pok [.b false, .val (u64 (↑(Nat.gcd (Int.natAbs d) (Int.natAbs n)) : Int)), .val (u64 (↑(Int.natAbs n) : Int)), .val (u64 (↑(Int.natAbs d) : Int)), .b false, .b false] (by kernel_rfl) (.c hc0 (.c (@common_ev (n) (d) (hn) (hd) ([.var [int 0, int 0]])) (.c (@size_ev (n) (hn) ([.var [int 0, int 0]])) (.c (show (!decide ((↑(Nat.gcd (Int.natAbs d) (Int.natAbs n)) : Int) = 0)) = true from ?_) (.c (@size_ev (d) (hd) ([.var [int 0, int 0]])) (.c (show (!decide ((↑(Nat.gcd (Int.natAbs d) (Int.natAbs n)) : Int) = 0)) = true from ?_) (.c hc1 (.c hc2 .n)))))))) rfl rfl h) (by first | (have z0 : (d == 0) = true := hc0; simp only [newR, z0]; first | done | rfl) | (have z0 : (d == 0) = false := hc0; have z1 : nwBig n d = true := hc1; simp only [newR, z0, z1]; first | done | rfl) | (have z0 : (d == 0) = false := hc0; have z1 : nwBig n d = false := hc1; have z2 : nwSg n d = true := hc2; simp only [newR, z0, z1, z2]; first | done | rfl) | (have z0 : (d == 0) = false := hc0; have z1 : nwBig n d = false := hc1; have z2 : nwSg n d = false := hc2; simp only [newR, z0, z1, z2]; first | done | rfl)) (by rfl) <;> (first | assumption | rfl | (have h9 := nw_ne (n := n) (by assumption); simp []; done) | (simp_all; done))
   ·refine Ev.castH (Ev.sym0 (d := D.tup [D.agg [int (IntKind.wrap IntKind.i64 (0 - IntKind.wrap IntKind.i64 (IntKind.wrap IntKind.u64 (Int.tdiv (↑(Int.natAbs n) : Int) (↑(Nat.gcd (Int.natAbs d) (Int.natAbs n)) : Int))))), int (IntKind.wrap IntKind.i64 (IntKind.wrap IntKind.u64 (Int.tdiv (↑(Int.natAbs d) : Int) (↑(Nat.gcd (Int.natAbs d) (Int.natAbs n)) : Int))))], int 0]) pok [.b false, .val (u64 (↑(Nat.gcd (Int.natAbs d) (Int.natAbs n)) : Int)), .val (u64 (↑(Int.natAbs n) : Int)), .val (u64 (↑(Int.natAbs d) : Int)), .b false, .b true] (by kernel_rfl) (.c hc0 (.c (@common_ev (n) (d) (hn) (hd) ([.var [int 0, int 0]])) (.c (@size_ev (n) (hn) ([.var [int 0, int 0]])) (.c (show (!decide ((↑(Nat.gcd (Int.natAbs d) (Int.natAbs n)) : Int) = 0)) = true from ?_) (.c (@size_ev (d) (hd) ([.var [int 0, int 0]])) (.c (show (!decide ((↑(Nat.gcd (Int.natAbs d) (Int.natAbs n)) : Int) = 0)) = true from ?_) (.c hc1 (.c hc2 .n)))))))) rfl rfl h) (by first | (have z0 : (d == 0) = true := hc0; simp only [newR, z0]; first | done | rfl) | (have z0 : (d == 0) = false := hc0; have z1 : nwBig n d = true := hc1; simp only [newR, z0, z1]; first | done | rfl) | (have z0 : (d == 0) = false := hc0; have z1 : nwBig n d = false := hc1; have z2 : nwSg n d = true := hc2; simp only [newR, z0, z1, z2]; first | done | rfl) | (have z0 : (d == 0) = false := hc0; have z1 : nwBig n d = false := hc1; have z2 : nwSg n d = false := hc2; simp only [newR, z0, z1, z2]; first | done | rfl)) (by rfl) <;> (first | assumption | rfl | (have h9 := nw_ne (n := n) (by assumption); simp []; done) | (simp_all; done))
  ·refine Ev.castH (Ev.sym0 (d := D.tup [D.agg [int 0, int 0], int 2]) pok [.b false, .val (u64 (↑(Nat.gcd (Int.natAbs d) (Int.natAbs n)) : Int)), .val (u64 (↑(Int.natAbs n) : Int)), .val (u64 (↑(Int.natAbs d) : Int)), .b true] (by kernel_rfl) (.c hc0 (.c (@common_ev (n) (d) (hn) (hd) ([.var [int 0, int 0]])) (.c (@size_ev (n) (hn) ([.var [int 0, int 0]])) (.c (show (!decide ((↑(Nat.gcd (Int.natAbs d) (Int.natAbs n)) : Int) = 0)) = true from ?_) (.c (@size_ev (d) (hd) ([.var [int 0, int 0]])) (.c (show (!decide ((↑(Nat.gcd (Int.natAbs d) (Int.natAbs n)) : Int) = 0)) = true from ?_) (.c hc1 .n))))))) rfl rfl h) (by first | (have z0 : (d == 0) = true := hc0; simp only [newR, z0]; first | done | rfl) | (have z0 : (d == 0) = false := hc0; have z1 : nwBig n d = true := hc1; simp only [newR, z0, z1]; first | done | rfl) | (have z0 : (d == 0) = false := hc0; have z1 : nwBig n d = false := hc1; have z2 : nwSg n d = true := hc2; simp only [newR, z0, z1, z2]; first | done | rfl) | (have z0 : (d == 0) = false := hc0; have z1 : nwBig n d = false := hc1; have z2 : nwSg n d = false := hc2; simp only [newR, z0, z1, z2]; first | done | rfl)) (by rfl) <;> (first | assumption | rfl | (have h9 := nw_ne (n := n) (by assumption); simp []; done) | (simp_all; done))
 ·exact Ev.castH (Ev.sym0 (d := D.tup [D.agg [int 0, int 0], int 1]) pok [.b true] (by kernel_rfl) (.c hc0 .n) rfl rfl h) (by first | (have z0 : (d == 0) = true := hc0; simp only [newR, z0]; first | done | rfl) | (have z0 : (d == 0) = false := hc0; have z1 : nwBig n d = true := hc1; simp only [newR, z0, z1]; first | done | rfl) | (have z0 : (d == 0) = false := hc0; have z1 : nwBig n d = false := hc1; have z2 : nwSg n d = true := hc2; simp only [newR, z0, z1, z2]; first | done | rfl) | (have z0 : (d == 0) = false := hc0; have z1 : nwBig n d = false := hc1; have z2 : nwSg n d = false := hc2; simp only [newR, z0, z1, z2]; first | done | rfl)) (by rfl)
abbrev suT : List D := mkT 26 0 [(2, .ref (.ptr 0 0)), (3, .ref (.ptr 1 0)), (13, .fn (.func 158) [] [.ref (.ptr 2 0)])]
noncomputable abbrev suL (st : LoopState) : Blk := .loop st none 0 suT #[14, 15] (rfAsg (sub Tryz.f108 0)) (rfBody (sub Tryz.f108 0))
noncomputable abbrev suH (c p : Int) (l : List (List Dp)) (st : LoopState) (more : List Blk) : List Blk := [.var [int c], .var [int p], .var [rD l], .defd, suL st] ++ more
abbrev suU (g c : Int) : List D := mkT 26 0 [(2, .ref (.ptr 0 0)), (3, .ref (.ptr 1 0)), (5, int g), (6, int c)]
def suF (s : Int × Int) (a : AttT) : Int × Int := (IntKind.i64.wrap (s.1 + a.credits), IntKind.i64.wrap (s.2 + IntKind.i64.wrap (a.grade * a.credits)))
theorem su_asg {c p g x : Int} {l : List (List Dp)} {r : List D} : (CW Tryz.prog Γ0 (suH c p l .ready [.var r]) true (rfAsg (sub Tryz.f108 0)) { t := setAll suT [(14, int g), (15, int x)], h := suH c p l .ready [.var r], m := [] } .normal { t := suU g x, h := suH c p l .ready [.var r], m := [] }) := by
 exact CW.cast (CW.symX (s' := { t := mkT 26 0 [(2, .ref (.ptr 0 0)), (3, .ref (.ptr 1 0)), (5, int g), (6, int x)], h := [.var [int c], .var [int p], .var [rD l], .defd, .loop LoopState.ready none 0 (mkT 26 0 [(2, .ref (.ptr 0 0)), (3, .ref (.ptr 1 0)), (13, D.fn (Fn.func 158) [] [.ref (.ptr 2 0)])]) { toList := [14, 15] } (rfAsg (sub Tryz.f108 0)) (rfBody (sub Tryz.f108 0)), .var r], m := [] }) (e := Exit.normal) pok [.st (.mask [2, 3, 5, 6])] [] (by kernel_rfl) .n) (by rfl) (by rfl)
theorem su_body {c p g x : Int} {l : List (List Dp)} {r : List D} : (CW Tryz.prog Γ0 (suH c p l .ready [.var r]) true (rfBody (sub Tryz.f108 0)) { t := suU g x, h := suH c p l .busy [.var r], m := [] } .normal { t := mkT 26 0 [], h := suH (IntKind.i64.wrap (c + x)) (IntKind.i64.wrap (p + IntKind.i64.wrap (g * x))) l .busy [.var r], m := [] }) := by
 exact CW.cast (CW.symX (s' := { t := mkT 26 0 [], h := [.var [int (IntKind.wrap IntKind.i64 (c + x))], .var [int (IntKind.wrap IntKind.i64 (p + IntKind.wrap IntKind.i64 (g * x)))], .var [rD l], .defd, .loop LoopState.busy none 0 (mkT 26 0 [(2, .ref (.ptr 0 0)), (3, .ref (.ptr 1 0)), (13, D.fn (Fn.func 158) [] [.ref (.ptr 2 0)])]) { toList := [14, 15] } (rfAsg (sub Tryz.f108 0)) (rfBody (sub Tryz.f108 0)), .var r], m := [] }) (e := Exit.normal) pok [.st (.mask [])] [] (by kernel_rfl) .n) (by rfl) (by rfl)
theorem suIv_ev {c p g x : Int} {l : List (List Dp)} {r : List D} : Iv Tryz.prog Γ0 (.ref (.yl 4)) [int g, int x] (suH c p l .ready [.var r]) (bool true) (suH (IntKind.i64.wrap (c + x)) (IntKind.i64.wrap (p + IntKind.i64.wrap (g * x))) l .ready [.var r]) :=
 Iv.round (h1 := suH c p l .ready [.var r]) rfl rfl su_asg rfl su_body rfl
abbrev swT (fs : List (List Dp)) (i : Int) : List D := mkT 19 0 [(0, .ref (.yl 4)), (5, rD fs), (6, int fs.length), (7, int i)]
theorem sw_body {c p c0 p0 : Int} {l : List (List Dp)} {a : AttT} {i : Nat} (hr : RowAt (i : Int) l a.row 5) (hlt : decide ((i : Int) < (l.length : Int)) = true) (hw : IntKind.i64.wrap ((i : Int) + 1) = ((i + 1 : Nat) : Int)) : (CW Tryz.prog Γ0 (suH c0 p0 l .ready []) false (sub Tryz.f158 0) { t := swT l i, h := suH c p l .ready [], m := [] } .normal { t := swT l ((i + 1 : Nat) : Int), h := suH (suF (c, p) a).1 (suF (c, p) a).2 l .ready [], m := [] }) := by
 refine CW.cast (CW.symX (s' := { t := mkT 19 0 [(0, .ref (.yl 4)), (5, rD l), (6, int (↑(List.length l) : Int)), (7, int (IntKind.wrap IntKind.i64 ((↑i : Int) + 1)))], h := [.var [int (IntKind.wrap IntKind.i64 (c + a.credits))], .var [int (IntKind.wrap IntKind.i64 (p + IntKind.wrap IntKind.i64 (a.grade * a.credits)))], .var [rD l], .defd, .loop LoopState.ready none 0 (mkT 26 0 [(2, .ref (.ptr 0 0)), (3, .ref (.ptr 1 0)), (13, D.fn (Fn.func 158) [] [.ref (.ptr 2 0)])]) { toList := [14, 15] } (rfAsg (sub Tryz.f108 0)) (rfBody (sub Tryz.f108 0))], m := [] }) (e := Exit.normal) pok [.st (.mask [0, 5, 6, 7]), .st (.trim 5)] [.b true, .row (AttT.row a), .inv (bool true) [.var [int (IntKind.wrap IntKind.i64 (c + a.credits))], .var [int (IntKind.wrap IntKind.i64 (p + IntKind.wrap IntKind.i64 (a.grade * a.credits)))], .var [rD l], .defd, .loop LoopState.ready none 0 (mkT 26 0 [(2, .ref (.ptr 0 0)), (3, .ref (.ptr 1 0)), (13, D.fn (Fn.func 158) [] [.ref (.ptr 2 0)])]) { toList := [14, 15] } (rfAsg (sub Tryz.f108 0)) (rfBody (sub Tryz.f108 0)), .var [int a.course, int a.term, int a.grade, int a.campus, int a.credits]], .b false] (by kernel_rfl) (.c hlt (.c hr (.c (@suIv_ev (c) (p) (a.grade) (a.credits) (l) ([int a.course, int a.term, int a.grade, int a.campus, int a.credits])) (.c (show (!true) = false from rfl) .n))))) ?_ ?_ <;> (first | rfl | (simp only [hw]; rfl))
theorem sw_last {c p c0 p0 : Int} {l : List (List Dp)} {i : Nat} (hlt : decide ((i : Int) < (l.length : Int)) = false) : (CW Tryz.prog Γ0 (suH c0 p0 l .ready []) false (sub Tryz.f158 0) { t := swT l i, h := suH c p l .ready [], m := [] } (.exit 0) { t := mkT 19 0 [], h := suH c p l .ready [], m := [] }) := by
 exact CW.cast (CW.symX (s' := { t := mkT 19 0 [], h := [.var [int c], .var [int p], .var [rD l], .defd, .loop LoopState.ready none 0 (mkT 26 0 [(2, .ref (.ptr 0 0)), (3, .ref (.ptr 1 0)), (13, D.fn (Fn.func 158) [] [.ref (.ptr 2 0)])]) { toList := [14, 15] } (rfAsg (sub Tryz.f108 0)) (rfBody (sub Tryz.f108 0))], m := [] }) (e := Exit.exit 0) pok [.st (.mask [])] [.b false] (by kernel_rfl) (.c hlt .n)) (by rfl) (by rfl)
theorem sw_cw {c0 p0 : Int} {l : List AttT} (hl : Short l) :
  CW Tryz.prog Γ0 (suH c0 p0 (l.map AttT.row) .ready []) false (.loop (sub Tryz.f158 0)) { t := swT (l.map AttT.row) 0, h := suH c0 p0 (l.map AttT.row) .ready [], m := [] } (.exit 0)
   { t := mkT 19 0 [], h := suH (l.foldl suF (c0, p0)).1 (l.foldl suF (c0, p0)).2 (l.map AttT.row) .ready [], m := [] } := by
 have := CW.each (P := Tryz.prog) (Γ := Γ0) (h0 := suH c0 p0 (l.map AttT.row) .ready []) (rd := false) (c := sub Tryz.f158 0) (σ := Int × Int) (ρ := Empty) l (fun f s => .inl (suF s f))
  (fun i s => { t := swT (l.map AttT.row) (i : Int), h := suH s.1 s.2 (l.map AttT.row) .ready [], m := [] }) (.exit 0) (fun s => { t := mkT 19 0 [], h := suH s.1 s.2 (l.map AttT.row) .ready [], m := [] }) (fun r => r.elim)
  (fun _ _ => True) (by simp) (fun r => r.elim) ?_ ?_ (c0, p0) trivial
 ·rw [forL_fold] at this
  exact this
 ·intro i f s hf _
  have hi := (List.getElem?_eq_some_iff.1 hf).1
  exact ⟨fun _ _ => trivial, sw_body (rowAt hf rfl) (lt_len _ hi) (wrap_succ hi hl)⟩
 ·intro s _
  exact sw_last (ge_len _ l)
theorem switer_ev {c0 p0 : Int} {l : List AttT} (hl : Short l) : (Ev Tryz.prog Γ0 158 [.ref (.yl 4), .ref (.ptr 2 0)] (suH c0 p0 (l.map AttT.row) .ready []) (.tup []) (suH (l.foldl suF (c0, p0)).1 (l.foldl suF (c0, p0)).2 (l.map AttT.row) .ready [])) := by
 have hl0 := (@sw_cw (c0) (p0) (l) (hl))
 exact Ev.castH (Ev.of_sym (h' := [.var [int (List.foldl suF (c0, p0) l).fst], .var [int (List.foldl suF (c0, p0) l).snd], .var [rD (List.map AttT.row l)], .defd, .loop LoopState.ready none 0 (mkT 26 0 [(2, .ref (.ptr 0 0)), (3, .ref (.ptr 1 0)), (13, D.fn (Fn.func 158) [] [.ref (.ptr 2 0)])]) { toList := [14, 15] } (rfAsg (sub Tryz.f108 0)) (rfBody (sub Tryz.f108 0))]) (d := D.tup []) pok [.sum [0, 5, 6, 7] (Exit.exit 0) { t := mkT 19 0 [], h := [.var [int (List.foldl suF (c0, p0) l).fst], .var [int (List.foldl suF (c0, p0) l).snd], .var [rD (List.map AttT.row l)], .defd, .loop LoopState.ready none 0 (mkT 26 0 [(2, .ref (.ptr 0 0)), (3, .ref (.ptr 1 0)), (13, D.fn (Fn.func 158) [] [.ref (.ptr 2 0)])]) { toList := [14, 15] } (rfAsg (sub Tryz.f108 0)) (rfBody (sub Tryz.f108 0))], m := [] }] (by kernel_rfl) (.c hl0 .n)) (by rfl) (by rfl)
theorem su_rf_cw {c0 p0 : Int} {l : List AttT} (hl : Short l) : CW Tryz.prog Γ0 [] false (sub Tryz.f108 0) { t := suT, h := [.var [int c0], .var [int p0], .var [rD (l.map AttT.row)]], m := [] } .normal
  { t := suT, h := suH (l.foldl suF (c0, p0)).1 (l.foldl suF (c0, p0)).2 (l.map AttT.row) .exhausted [], m := [3] } := by
 exact CW.rangeFunc (f := 158) (fi := []) (ca := [.ref (.ptr 2 0)]) pok (s := { t := suT, h := [.var [int c0], .var [int p0], .var [rD (l.map AttT.row)]], m := [] }) (g := .tmp 13) (ps := #[14, 15]) (asg := rfAsg (sub Tryz.f108 0)) (body := rfBody (sub Tryz.f108 0)) rfl (by kernel_rfl) (switer_ev hl) rfl
def sumsR (l : List AttT) : Int × Int × Int := match aErr l != 0 with
 | true => (0, 0, aErr l)
 | false => ((l.foldl suF (0, 0)).1, (l.foldl suF (0, 0)).2, 0)
theorem sums_ev {l : List AttT} (hl : Short l) (h : List Blk) : (Ev Tryz.prog Γ0 108 [rD (l.map AttT.row)] h (.tup [int (sumsR l).1, int (sumsR l).2.1, int (sumsR l).2.2]) h) := by
 cases hc0 : aErr l != 0
 ·have hl1 := (@su_rf_cw (0) (0) (l) (hl))
  exact Ev.castH (Ev.sym0 (d := D.tup [int (List.foldl suF (0, 0) l).fst, int (List.foldl suF (0, 0) l).snd, int 0]) pok [.val (int (aErr l)), .b false, .inl, .sum [2, 3, 13] (Exit.normal) { t := mkT 26 0 [(2, .ref (.ptr 0 0)), (3, .ref (.ptr 1 0)), (13, D.fn (Fn.func 158) [] [.ref (.ptr 2 0)])], h := [.var [int (List.foldl suF (0, 0) l).fst], .var [int (List.foldl suF (0, 0) l).snd], .var [rD (List.map AttT.row l)], .defd, .loop LoopState.exhausted none 0 (mkT 26 0 [(2, .ref (.ptr 0 0)), (3, .ref (.ptr 1 0)), (13, D.fn (Fn.func 158) [] [.ref (.ptr 2 0)])]) { toList := [14, 15] } (rfAsg (sub Tryz.f108 0)) (rfBody (sub Tryz.f108 0))], m := [3] }] (by kernel_rfl) (.c (@acheck_ev (l) (hl) ([.var [int 0], .var [int 0]])) (.c hc0 (.c hl1 (.e (int (List.foldl suF (0, 0) l).fst) (.e (int (List.foldl suF (0, 0) l).snd) (.e (int (List.foldl suF (0, 0) l).snd) .n)))))) rfl rfl h) (by simp only [sumsR, hc0]; first | done | rfl) (by rfl)
 ·exact Ev.castH (Ev.sym0 (d := D.tup [int 0, int 0, int (aErr l)]) pok [.val (int (aErr l)), .b true] (by kernel_rfl) (.c (@acheck_ev (l) (hl) ([.var [int 0], .var [int 0]])) (.c hc0 .n)) rfl rfl h) (by simp only [sumsR, hc0]; first | done | rfl) (by rfl)
theorem i64_wrap (x : Int) : I64 (IntKind.i64.wrap x) := by
 unfold I64
 rw [IntKind.wrap_i64]
 omega
theorem suF_i64 (s : Int × Int) (a : AttT) : I64 (suF s a).1 ∧ I64 (suF s a).2 := ⟨i64_wrap _, i64_wrap _⟩
theorem suFold_i64 : ∀ (l : List AttT) (s : Int × Int), I64 s.1 ∧ I64 s.2 → I64 (l.foldl suF s).1 ∧ I64 (l.foldl suF s).2
 | [], _, h => h
 | a :: l, s, _ => suFold_i64 l (suF s a) (suF_i64 s a)
theorem i64_0 : I64 0 := by unfold I64; omega
theorem sumsR_i64 (l : List AttT) : I64 (sumsR l).1 ∧ I64 (sumsR l).2.1 := by
 unfold sumsR
 cases aErr l != 0
 ·exact suFold_i64 l (0, 0) ⟨i64_0, i64_0⟩
 ·exact ⟨i64_0, i64_0⟩
def meanX (c p e : Int) : Int × Int × Int := match e != 0 with
 | true => (0, 0, e)
 | false => match c == 0 with
  | true => (0, 1, 0)
  | false => newR p c
def meanR (l : List AttT) : Int × Int × Int := meanX (sumsR l).1 (sumsR l).2.1 (sumsR l).2.2
theorem mean_a {l : List AttT} {c p e : Int} (hc : I64 c) (hp : I64 p) (hs : ∀ h, Ev Tryz.prog Γ0 108 [rD (l.map AttT.row)] h (.tup [int c, int p, int e]) h) (h : List Blk) : (Ev Tryz.prog Γ0 55 [rD (l.map AttT.row)] h (.tup [.agg [int (meanX c p e).1, int (meanX c p e).2.1], int (meanX c p e).2.2]) h) := by
 cases hc0 : e != 0
 ·cases hc1 : c == 0
  ·exact Ev.castH (Ev.sym0 (d := D.tup [D.agg [int (newR p c).fst, int (newR p c).snd.fst], int (newR p c).snd.snd]) pok [.val (D.tup [int c, int p, int e]), .b false, .b false, .val (D.tup [D.agg [int (newR p c).fst, int (newR p c).snd.fst], int (newR p c).snd.snd])] (by kernel_rfl) (.c (@hs ([.var [int 0, int 0]])) (.c hc0 (.c hc1 (.c (@rnew_ev (p) (c) (hp) (hc) ([.var [int 0, int 0]])) .n)))) rfl rfl h) (by simp only [meanX, hc0, hc1]; first | done | rfl) (by rfl)
  ·exact Ev.castH (Ev.sym0 (d := D.tup [D.agg [int 0, int 1], int 0]) pok [.val (D.tup [int c, int p, int e]), .b false, .b true] (by kernel_rfl) (.c (@hs ([.var [int 0, int 0]])) (.c hc0 (.c hc1 .n))) rfl rfl h) (by simp only [meanX, hc0, hc1]; first | done | rfl) (by rfl)
 ·exact Ev.castH (Ev.sym0 (d := D.tup [D.agg [int 0, int 0], int e]) pok [.val (D.tup [int c, int p, int e]), .b true] (by kernel_rfl) (.c (@hs ([.var [int 0, int 0]])) (.c hc0 .n)) rfl rfl h) (by simp only [meanX, hc0]; first | done | rfl) (by rfl)
theorem avmean_ev {l : List AttT} (hl : Short l) (h : List Blk) : Ev Tryz.prog Γ0 55 [rD (l.map AttT.row)] h (.tup [.agg [int (meanR l).1, int (meanR l).2.1], int (meanR l).2.2]) h :=
 mean_a (sumsR_i64 l).1 (sumsR_i64 l).2 (fun h => sums_ev hl h) h
theorem newR_i64 (n d : Int) : I64 (newR n d).1 ∧ I64 (newR n d).2.1 := by
 unfold newR
 split
 ·exact ⟨i64_0, i64_0⟩
 ·split
  ·exact ⟨i64_0, i64_0⟩
  ·split <;> exact ⟨i64_wrap _, i64_wrap _⟩
theorem meanR_i64 (l : List AttT) : I64 (meanR l).1 ∧ I64 (meanR l).2.1 := by
 unfold meanR meanX
 split
 ·exact ⟨i64_0, i64_0⟩
 ·split
  ·exact ⟨i64_0, by unfold I64; simp⟩
  ·exact newR_i64 _ _
abbrev eaT : List D := mkT 21 0 [(2, .ref (.ptr 0 0)), (12, .fn (.func 158) [] [.ref (.ptr 1 0)])]
noncomputable abbrev eaL (st : LoopState) : Blk := .loop st none 0 eaT #[13, 14] (rfAsg (sub Tryz.f54 0)) (rfBody (sub Tryz.f54 0))
noncomputable abbrev eaH (c : Int) (l : List (List Dp)) (st : LoopState) (more : List Blk) : List Blk := [.var [int c], .var [rD l], .defd, eaL st] ++ more
abbrev eaU (g c : Int) : List D := mkT 21 0 [(2, .ref (.ptr 0 0)), (4, int g), (5, int c)]
def eaG (c g x : Int) : Int := match decide (g > 0) with | true => IntKind.i64.wrap (c + x) | false => c
def eaF (c : Int) (a : AttT) : Int := eaG c a.grade a.credits
theorem ea_asg {c g x : Int} {l : List (List Dp)} {r : List D} : (CW Tryz.prog Γ0 (eaH c l .ready [.var r]) true (rfAsg (sub Tryz.f54 0)) { t := setAll eaT [(13, int g), (14, int x)], h := eaH c l .ready [.var r], m := [] } .normal { t := eaU g x, h := eaH c l .ready [.var r], m := [] }) := by
 exact CW.cast (CW.symX (s' := { t := mkT 21 0 [(2, .ref (.ptr 0 0)), (4, int g), (5, int x)], h := [.var [int c], .var [rD l], .defd, .loop LoopState.ready none 0 (mkT 21 0 [(2, .ref (.ptr 0 0)), (12, D.fn (Fn.func 158) [] [.ref (.ptr 1 0)])]) { toList := [13, 14] } (rfAsg (sub Tryz.f54 0)) (rfBody (sub Tryz.f54 0)), .var r], m := [] }) (e := Exit.normal) pok [.st (.mask [2, 4, 5])] [] (by kernel_rfl) .n) (by rfl) (by rfl)
theorem ea_body {c g x : Int} {l : List (List Dp)} {r : List D} : (CW Tryz.prog Γ0 (eaH c l .ready [.var r]) true (rfBody (sub Tryz.f54 0)) { t := eaU g x, h := eaH c l .busy [.var r], m := [] } .normal { t := mkT 21 0 [], h := eaH (eaG c g x) l .busy [.var r], m := [] }) := by
 cases hc0 : decide (g > 0)
 ·exact CW.cast (CW.symX (s' := { t := mkT 21 0 [], h := [.var [int c], .var [rD l], .defd, .loop LoopState.busy none 0 (mkT 21 0 [(2, .ref (.ptr 0 0)), (12, D.fn (Fn.func 158) [] [.ref (.ptr 1 0)])]) { toList := [13, 14] } (rfAsg (sub Tryz.f54 0)) (rfBody (sub Tryz.f54 0)), .var r], m := [] }) (e := Exit.normal) pok [.st (.mask [])] [.b false] (by kernel_rfl) (.c hc0 .n)) (by simp only []; first | done | rfl) (by simp only [eaG, hc0]; first | done | rfl)
 ·exact CW.cast (CW.symX (s' := { t := mkT 21 0 [], h := [.var [int (IntKind.wrap IntKind.i64 (c + x))], .var [rD l], .defd, .loop LoopState.busy none 0 (mkT 21 0 [(2, .ref (.ptr 0 0)), (12, D.fn (Fn.func 158) [] [.ref (.ptr 1 0)])]) { toList := [13, 14] } (rfAsg (sub Tryz.f54 0)) (rfBody (sub Tryz.f54 0)), .var r], m := [] }) (e := Exit.normal) pok [.st (.mask [])] [.b true] (by kernel_rfl) (.c hc0 .n)) (by simp only []; first | done | rfl) (by simp only [eaG, hc0]; first | done | rfl)
theorem eaIv_ev {c g x : Int} {l : List (List Dp)} {r : List D} : Iv Tryz.prog Γ0 (.ref (.yl 3)) [int g, int x] (eaH c l .ready [.var r]) (bool true) (eaH (eaG c g x) l .ready [.var r]) :=
 Iv.round (h1 := eaH c l .ready [.var r]) rfl rfl ea_asg rfl ea_body rfl
abbrev ewT (fs : List (List Dp)) (i : Int) : List D := mkT 19 0 [(0, .ref (.yl 3)), (5, rD fs), (6, int fs.length), (7, int i)]
theorem ew_body {c c0 : Int} {l : List (List Dp)} {a : AttT} {i : Nat} (hr : RowAt (i : Int) l a.row 5) (hlt : decide ((i : Int) < (l.length : Int)) = true) (hw : IntKind.i64.wrap ((i : Int) + 1) = ((i + 1 : Nat) : Int)) : (CW Tryz.prog Γ0 (eaH c0 l .ready []) false (sub Tryz.f158 0) { t := ewT l i, h := eaH c l .ready [], m := [] } .normal { t := ewT l ((i + 1 : Nat) : Int), h := eaH (eaF c a) l .ready [], m := [] }) := by
 refine CW.cast (CW.symX (s' := { t := mkT 19 0 [(0, .ref (.yl 3)), (5, rD l), (6, int (↑(List.length l) : Int)), (7, int (IntKind.wrap IntKind.i64 ((↑i : Int) + 1)))], h := [.var [int (eaG c a.grade a.credits)], .var [rD l], .defd, .loop LoopState.ready none 0 (mkT 21 0 [(2, .ref (.ptr 0 0)), (12, D.fn (Fn.func 158) [] [.ref (.ptr 1 0)])]) { toList := [13, 14] } (rfAsg (sub Tryz.f54 0)) (rfBody (sub Tryz.f54 0))], m := [] }) (e := Exit.normal) pok [.st (.mask [0, 5, 6, 7]), .st (.trim 4)] [.b true, .row (AttT.row a), .inv (bool true) [.var [int (eaG c a.grade a.credits)], .var [rD l], .defd, .loop LoopState.ready none 0 (mkT 21 0 [(2, .ref (.ptr 0 0)), (12, D.fn (Fn.func 158) [] [.ref (.ptr 1 0)])]) { toList := [13, 14] } (rfAsg (sub Tryz.f54 0)) (rfBody (sub Tryz.f54 0)), .var [int a.course, int a.term, int a.grade, int a.campus, int a.credits]], .b false] (by kernel_rfl) (.c hlt (.c hr (.c (@eaIv_ev (c) (a.grade) (a.credits) (l) ([int a.course, int a.term, int a.grade, int a.campus, int a.credits])) (.c (show (!true) = false from rfl) .n))))) ?_ ?_ <;> (first | rfl | (simp only [hw]; rfl))
theorem ew_last {c c0 : Int} {l : List (List Dp)} {i : Nat} (hlt : decide ((i : Int) < (l.length : Int)) = false) : (CW Tryz.prog Γ0 (eaH c0 l .ready []) false (sub Tryz.f158 0) { t := ewT l i, h := eaH c l .ready [], m := [] } (.exit 0) { t := mkT 19 0 [], h := eaH c l .ready [], m := [] }) := by
 exact CW.cast (CW.symX (s' := { t := mkT 19 0 [], h := [.var [int c], .var [rD l], .defd, .loop LoopState.ready none 0 (mkT 21 0 [(2, .ref (.ptr 0 0)), (12, D.fn (Fn.func 158) [] [.ref (.ptr 1 0)])]) { toList := [13, 14] } (rfAsg (sub Tryz.f54 0)) (rfBody (sub Tryz.f54 0))], m := [] }) (e := Exit.exit 0) pok [.st (.mask [])] [.b false] (by kernel_rfl) (.c hlt .n)) (by rfl) (by rfl)
theorem ew_cw {c0 : Int} {l : List AttT} (hl : Short l) :
  CW Tryz.prog Γ0 (eaH c0 (l.map AttT.row) .ready []) false (.loop (sub Tryz.f158 0)) { t := ewT (l.map AttT.row) 0, h := eaH c0 (l.map AttT.row) .ready [], m := [] } (.exit 0)
   { t := mkT 19 0 [], h := eaH (l.foldl eaF c0) (l.map AttT.row) .ready [], m := [] } := by
 have := CW.each (P := Tryz.prog) (Γ := Γ0) (h0 := eaH c0 (l.map AttT.row) .ready []) (rd := false) (c := sub Tryz.f158 0) (σ := Int) (ρ := Empty) l (fun f s => .inl (eaF s f))
  (fun i s => { t := ewT (l.map AttT.row) (i : Int), h := eaH s (l.map AttT.row) .ready [], m := [] }) (.exit 0) (fun s => { t := mkT 19 0 [], h := eaH s (l.map AttT.row) .ready [], m := [] }) (fun r => r.elim)
  (fun _ _ => True) (by simp) (fun r => r.elim) ?_ ?_ c0 trivial
 ·rw [forL_fold] at this
  exact this
 ·intro i f s hf _
  have hi := (List.getElem?_eq_some_iff.1 hf).1
  exact ⟨fun _ _ => trivial, ew_body (rowAt hf rfl) (lt_len _ hi) (wrap_succ hi hl)⟩
 ·intro s _
  exact ew_last (ge_len _ l)
theorem ewiter_ev {c0 : Int} {l : List AttT} (hl : Short l) : (Ev Tryz.prog Γ0 158 [.ref (.yl 3), .ref (.ptr 1 0)] (eaH c0 (l.map AttT.row) .ready []) (.tup []) (eaH (l.foldl eaF c0) (l.map AttT.row) .ready [])) := by
 have hl0 := (@ew_cw (c0) (l) (hl))
 exact Ev.castH (Ev.of_sym (h' := [.var [int (List.foldl eaF c0 l)], .var [rD (List.map AttT.row l)], .defd, .loop LoopState.ready none 0 (mkT 21 0 [(2, .ref (.ptr 0 0)), (12, D.fn (Fn.func 158) [] [.ref (.ptr 1 0)])]) { toList := [13, 14] } (rfAsg (sub Tryz.f54 0)) (rfBody (sub Tryz.f54 0))]) (d := D.tup []) pok [.sum [0, 5, 6, 7] (Exit.exit 0) { t := mkT 19 0 [], h := [.var [int (List.foldl eaF c0 l)], .var [rD (List.map AttT.row l)], .defd, .loop LoopState.ready none 0 (mkT 21 0 [(2, .ref (.ptr 0 0)), (12, D.fn (Fn.func 158) [] [.ref (.ptr 1 0)])]) { toList := [13, 14] } (rfAsg (sub Tryz.f54 0)) (rfBody (sub Tryz.f54 0))], m := [] }] (by kernel_rfl) (.c hl0 .n)) (by rfl) (by rfl)
theorem ea_rf_cw {c0 : Int} {l : List AttT} (hl : Short l) : CW Tryz.prog Γ0 [] false (sub Tryz.f54 0) { t := eaT, h := [.var [int c0], .var [rD (l.map AttT.row)]], m := [] } .normal
  { t := eaT, h := eaH (l.foldl eaF c0) (l.map AttT.row) .exhausted [], m := [2] } := by
 exact CW.rangeFunc (f := 158) (fi := []) (ca := [.ref (.ptr 1 0)]) pok (s := { t := eaT, h := [.var [int c0], .var [rD (l.map AttT.row)]], m := [] }) (g := .tmp 12) (ps := #[13, 14]) (asg := rfAsg (sub Tryz.f54 0)) (body := rfBody (sub Tryz.f54 0)) rfl (by kernel_rfl) (ewiter_ev hl) rfl
def earnR (l : List AttT) : Int × Int := match aErr l != 0 with
 | true => (0, aErr l)
 | false => (l.foldl eaF 0, 0)
theorem avearn_ev {l : List AttT} (hl : Short l) (h : List Blk) : (Ev Tryz.prog Γ0 54 [rD (l.map AttT.row)] h (.tup [int (earnR l).1, int (earnR l).2]) h) := by
 cases hc0 : aErr l != 0
 ·have hl1 := (@ea_rf_cw (0) (l) (hl))
  exact Ev.castH (Ev.sym0 (d := D.tup [int (List.foldl eaF 0 l), int 0]) pok [.val (int (aErr l)), .b false, .inl, .sum [2, 12] (Exit.normal) { t := mkT 21 0 [(2, .ref (.ptr 0 0)), (12, D.fn (Fn.func 158) [] [.ref (.ptr 1 0)])], h := [.var [int (List.foldl eaF 0 l)], .var [rD (List.map AttT.row l)], .defd, .loop LoopState.exhausted none 0 (mkT 21 0 [(2, .ref (.ptr 0 0)), (12, D.fn (Fn.func 158) [] [.ref (.ptr 1 0)])]) { toList := [13, 14] } (rfAsg (sub Tryz.f54 0)) (rfBody (sub Tryz.f54 0))], m := [2] }] (by kernel_rfl) (.c (@acheck_ev (l) (hl) ([.var [int 0]])) (.c hc0 (.c hl1 .n))) rfl rfl h) (by simp only [earnR, hc0]; first | done | rfl) (by rfl)
 ·exact Ev.castH (Ev.sym0 (d := D.tup [int 0, int (aErr l)]) pok [.val (int (aErr l)), .b true] (by kernel_rfl) (.c (@acheck_ev (l) (hl) ([.var [int 0]])) (.c hc0 .n)) rfl rfl h) (by simp only [earnR, hc0]; first | done | rfl) (by rfl)
end Go.Vi
open Go Go.Proofs
namespace Go.Vi
set_option maxRecDepth 100000
set_option maxHeartbeats 4000000
abbrev vwH (w : WorldT) (term known : Int) (rs : List ReadT) (e : Nat) : List Blk := [.var [.ref (.vec 1 e), rD (w.c.map CourseT.row), rD w.p, rD (w.s.map SysT.row), rD (w.f.map FactT.row), int term, int known], .vec (vecR (rdR rs)) e 5]
theorem vwadd_ev {w : WorldT} {term known : Int} {rs qs : List ReadT} (hb : rs.length + qs.length ≤ 1000000000) : (Ev Tryz.prog Γk 144 [.ref (.ptr 0 0), rD (rdR qs)] (vwH w term known rs 0) (.tup []) (vwH w term known (rs ++ qs) 1)) := by
 refine Ev.castH (Ev.of_sym (h' := [.var [.ref (.vec 1 1), rD (List.map CourseT.row w.c), rD w.p, rD (List.map SysT.row w.s), rD (List.map FactT.row w.f), int term, int known], .vec (vecR (rdR rs) ++ List.map (fun x => List.map D.p x) (rdR qs)) 1 5]) (d := D.tup []) pok [] (by kernel_rfl) (.c (show (List.all (List.map (fun x => List.map D.p x) (rdR qs)) (rowOk 5) && roomOk (List.length (vecR (rdR rs)) + List.length (List.map (fun x => List.map D.p x) (rdR qs))) 40) = true from (by first | assumption | rfl | omega | (simp only [rd_ok, roomOk, Bool.true_and, Bool.and_eq_true, decide_eq_true_eq, List.length_map]; omega))) .n)) ?_ ?_ <;> (first | rfl | (simp only [vwH, rdR, vecR, List.map_append]; rfl) | (simp only [vwH, rdR, vecR, List.map_append]; done))
noncomputable abbrev vwsys_ev_x0 (w : WorldT) (term : Int) (known : Int) (rs : List ReadT) : List Blk := [.var [.ref (.vec 1 0), rD (List.map CourseT.row w.c), rD w.p, rD (List.map SysT.row w.s), rD (List.map FactT.row w.f), int term, int known], .vec (vecR (rdR rs)) 0 5, .var [nq, nq, nq, nq], .var [nq, nq, nq, nq]]
noncomputable abbrev vwsys_ev_x1 (w : WorldT) (term : Int) (known : Int) (rs : List ReadT) : List Blk := [.var [.ref (.vec 1 0), rD (List.map CourseT.row w.c), rD w.p, rD (List.map SysT.row w.s), rD (List.map FactT.row w.f), int term, int known], .vec (vecR (rdR rs)) 0 5, .var [nq, nq, nq, nq]]
noncomputable abbrev vwsys_ev_x2 (w : WorldT) (term : Int) (known : Int) : List D := [D.agg [rD (List.map CourseT.row w.c), rD w.p, rD (List.map SysT.row w.s), rD (List.map FactT.row w.f)], int term, int known]
theorem vwsys_ev {w : WorldT} (hw : w.ok) {term known : Int} {rs : List ReadT} (hb : rs.length ≤ 999999000) : (Ev Tryz.prog Γk 98 [.ref (.ptr 0 0)] (vwH w term known rs 0) (ag (systemR w term known).1.row) (vwH w term known (rs ++ rdT 4 0 0 term) 1)) := by
 refine Ev.castH (Ev.post (d2 := D.agg [rD (List.map Cls.row (systemR w term known).fst.classes), rD (List.map FeeT.row (systemR w term known).fst.fees), rD (List.map Cls.row (systemR w term known).fst.honours), rD (List.map ClauseT.row (systemR w term known).fst.clauses)]) (h2 := [.var [.ref (.vec 1 1), rD (List.map CourseT.row w.c), rD w.p, rD (List.map SysT.row w.s), rD (List.map FactT.row w.f), int term, int known], .vec (vecR (rdR (rs ++ rdT 4 0 0 term))) 1 5]) (φ := [Blk.inn 2 (.var [.ref (.vec 1 1), rD (List.map CourseT.row w.c), rD w.p, rD (List.map SysT.row w.s), rD (List.map FactT.row w.f), int term, int known]) = true, Blk.inn 2 (.vec (vecR (rdR (rs ++ rdT 4 0 0 term))) 1 5) = true]) [.st (.trimV 2)] (Ev.of_sym (h' := [.var [.ref (.vec 1 1), rD (List.map CourseT.row w.c), rD w.p, rD (List.map SysT.row w.s), rD (List.map FactT.row w.f), int term, int known], .vec (vecR (rdR (rs ++ rdT 4 0 0 term))) 1 5, .var [rD (List.map Cls.row (systemR w term known).fst.classes), rD (List.map FeeT.row (systemR w term known).fst.fees), rD (List.map Cls.row (systemR w term known).fst.honours), rD (List.map ClauseT.row (systemR w term known).fst.clauses)], .var [rD (List.map Cls.row (systemR w term known).fst.classes), rD (List.map FeeT.row (systemR w term known).fst.fees), rD (List.map Cls.row (systemR w term known).fst.honours), rD (List.map ClauseT.row (systemR w term known).fst.clauses)]]) (d := D.agg [rD (List.map Cls.row (systemR w term known).fst.classes), rD (List.map FeeT.row (systemR w term known).fst.fees), rD (List.map Cls.row (systemR w term known).fst.honours), rD (List.map ClauseT.row (systemR w term known).fst.clauses)]) pok [.val (D.tup [(ag (SysT.row (systemR w term known).fst)), rD (rdR (rdT 4 0 0 term))]), .call (D.tup []) [.var [.ref (.vec 1 1), rD (List.map CourseT.row w.c), rD w.p, rD (List.map SysT.row w.s), rD (List.map FactT.row w.f), int term, int known], .vec (vecR (rdR (rs ++ rdT 4 0 0 term))) 1 5, .var [nq, nq, nq, nq], .var [rD (List.map Cls.row (systemR w term known).fst.classes), rD (List.map FeeT.row (systemR w term known).fst.fees), rD (List.map Cls.row (systemR w term known).fst.honours), rD (List.map ClauseT.row (systemR w term known).fst.clauses)]]] (by kernel_rfl) (.c (@system2_ev (w) (hw) (term) (known) ((vwsys_ev_x1 w term known rs))) (.e (.ref (.ptr 0 0)) (.e (.ref (.ptr 0 0)) (.e (.ref (.ptr 0 1)) (.e (.ref (.ptr 0 1)) (.e (D.agg (WorldT.l w)) (.e (D.agg (WorldT.l w)) (.e (.ref (.ptr 0 0)) (.e (.ref (.ptr 0 0)) (.e (.ref (.ptr 0 5)) (.e (.ref (.ptr 0 5)) (.e (int term) (.e (int term) (.e (.ref (.ptr 0 0)) (.e (.ref (.ptr 0 0)) (.e (.ref (.ptr 0 6)) (.e (.ref (.ptr 0 6)) (.e (int known) (.e (int known) (.c (show (vwsys_ev_x1 w term known rs) = (vwsys_ev_x1 w term known rs) from rfl) (.c (@system2_ev (w) (hw) (term) (known) ((vwsys_ev_x1 w term known rs))) (.c (@system2_ev (w) (hw) (term) (known) ((vwsys_ev_x0 w term known rs))) (.c (show Ev Tryz.prog Γk 144 [.ref (.ptr 0 0), rD (rdR (rdT 4 0 0 term))] [.var [.ref (.vec 1 0), rD (List.map CourseT.row w.c), rD w.p, rD (List.map SysT.row w.s), rD (List.map FactT.row w.f), int term, int known], .vec (vecR (rdR rs)) 0 5, .var [nq, nq, nq, nq], .var [rD (List.map Cls.row (systemR w term known).fst.classes), rD (List.map FeeT.row (systemR w term known).fst.fees), rD (List.map Cls.row (systemR w term known).fst.honours), rD (List.map ClauseT.row (systemR w term known).fst.clauses)]] (D.tup []) [.var [.ref (.vec 1 1), rD (List.map CourseT.row w.c), rD w.p, rD (List.map SysT.row w.s), rD (List.map FactT.row w.f), int term, int known], .vec (vecR (rdR (rs ++ rdT 4 0 0 term))) 1 5, .var [nq, nq, nq, nq], .var [rD (List.map Cls.row (systemR w term known).fst.classes), rD (List.map FeeT.row (systemR w term known).fst.fees), rD (List.map Cls.row (systemR w term known).fst.honours), rD (List.map ClauseT.row (systemR w term known).fst.clauses)]] from (Ev.castH (Ev.frameX (args := [.ref (.ptr 0 0), rD (rdR (rdT 4 0 0 term))]) (H := [.var [.ref (.vec 1 0), rD (List.map CourseT.row w.c), rD w.p, rD (List.map SysT.row w.s), rD (List.map FactT.row w.f), int term, int known], .vec (vecR (rdR rs)) 0 5, .var [nq, nq, nq, nq], .var [rD (List.map Cls.row (systemR w term known).fst.classes), rD (List.map FeeT.row (systemR w term known).fst.fees), rD (List.map Cls.row (systemR w term known).fst.honours), rD (List.map ClauseT.row (systemR w term known).fst.clauses)]]) [0, 1] (@vwadd_ev (w) (term) (known) (rs) (rdT 4 0 0 term) (by first | assumption | rfl | omega | exact vecR_inn _ _ | exact inn_vecR | (have := rdT_len 4 0 0 term; omega) | (simp; omega))) (by kernel_rfl) (by kernel_rfl) (by kernel_rfl) ⟨?_, trivial⟩ ⟨?_, trivial⟩) (by kernel_rfl) (by kernel_rfl))) .n)))))))))))))))))))))))) (by kernel_rfl) ⟨rfl, (by first | assumption | rfl | omega | exact vecR_inn _ _ | exact inn_vecR | (have := rdT_len 4 0 0 term; omega) | (simp; omega)), trivial⟩) (by first | rfl | (simp only [vwH, rdR, vecR, List.map_append]; rfl) | (simp only [vwH, rdR, vecR, List.map_append]; done)) (by first | rfl | (simp only [vwH, rdR, vecR, List.map_append]; rfl) | (simp only [vwH, rdR, vecR, List.map_append]; done)) <;> (first | rfl | exact mapRL_rows _ _ | first | assumption | rfl | omega | exact vecR_inn _ _ | exact inn_vecR | (have := rdT_len 4 0 0 term; omega) | (simp; omega))
abbrev minE (x : Int) : Int := if false = true then if 10000 > x then 10000 else x else if 10000 < x then 10000 else x
structure VwX where
 earn : Int
 n : Int
 d : Int
 e : Int
 q : List ReadT
def vwX (q1 q2 : List ReadT) (e1 e2 ea earn n d e : Int) : VwX := match e1 != 0 with
 | true => ⟨0, 0, 0, e1, q1⟩
 | false => match e2 != 0 with
  | true => ⟨0, 0, 0, e2, q1 ++ q2⟩
  | false => match ea != 0 with
   | true => ⟨0, 0, 0, ea, q1 ++ q2⟩
   | false => ⟨minE earn, n, d, e, q1 ++ q2⟩
noncomputable abbrev vwcnt_a_x0 (w : WorldT) (term : Int) (known : Int) (rs : List ReadT) (r : RecT) (q1 : List ReadT) (q2 : List ReadT) : List Blk := [.var [.ref (.vec 1 2), rD (List.map CourseT.row w.c), rD w.p, rD (List.map SysT.row w.s), rD (List.map FactT.row w.f), int term, int known], .vec (vecR (rdR (rs ++ q1 ++ q2))) 2 5, .var [int 0, int 0], .var [int r.st, rD (List.map AttT.row r.a)]]
noncomputable abbrev vwcnt_a_x1 (w : WorldT) (term : Int) (known : Int) (rs : List ReadT) (r : RecT) (q1 : List ReadT) : List Blk := [.var [.ref (.vec 1 1), rD (List.map CourseT.row w.c), rD w.p, rD (List.map SysT.row w.s), rD (List.map FactT.row w.f), int term, int known], .vec (vecR (rdR (rs ++ q1))) 1 5, .var [int 0, int 0], .var [int r.st, rD (List.map AttT.row r.a)]]
noncomputable abbrev vwcnt_a_x2 (w : WorldT) (term : Int) (known : Int) (rs : List ReadT) (r : RecT) : List Blk := [.var [.ref (.vec 1 0), rD (List.map CourseT.row w.c), rD w.p, rD (List.map SysT.row w.s), rD (List.map FactT.row w.f), int term, int known], .vec (vecR (rdR rs)) 0 5, .var [int 0, int 0], .var [int r.st, rD (List.map AttT.row r.a)]]
noncomputable abbrev vwcnt_a_x3 (w : WorldT) (term : Int) (known : Int) (rs : List ReadT) : List Blk := [.var [.ref (.vec 1 0), rD (List.map CourseT.row w.c), rD w.p, rD (List.map SysT.row w.s), rD (List.map FactT.row w.f), int term, int known], .vec (vecR (rdR rs)) 0 5, .var [int 0, int 0], .var [int 0, nq]]
noncomputable abbrev vwcnt_a_x4 (w : WorldT) (term : Int) (known : Int) (rs : List ReadT) : List Blk := [.var [.ref (.vec 1 0), rD (List.map CourseT.row w.c), rD w.p, rD (List.map SysT.row w.s), rD (List.map FactT.row w.f), int term, int known], .vec (vecR (rdR rs)) 0 5, .var [int 0, int 0]]
noncomputable abbrev vwcnt_a_x5 (w : WorldT) (term : Int) (known : Int) (r : RecT) : List D := [D.agg [rD (List.map CourseT.row w.c), rD w.p, rD (List.map SysT.row w.s), rD (List.map FactT.row w.f)], D.agg [int r.st, rD (List.map AttT.row r.a)], int term, int known]
noncomputable abbrev vwcnt_a_x6 (w : WorldT) (term : Int) (known : Int) (st : Int) : List D := [D.agg [rD (List.map CourseT.row w.c), rD w.p, rD (List.map SysT.row w.s), rD (List.map FactT.row w.f)], int st, int term, int known]
theorem vwcnt_a {w : WorldT} {term known st : Int} {rs : List ReadT} {r : RecT} {q1 q2 : List ReadT} {L : List AttT} {e1 e2 ea earn n d e : Int} (hb : rs.length + q1.length + q2.length ≤ 1000000000)
 (h1 : ∀ h, Ev Tryz.prog Γk 23 [.agg w.l, int st, int term, int known] h (.tup [.agg r.l, rD (rdR q1), int e1]) h)
 (h2 : ∀ h, Ev Tryz.prog Γk 53 [.agg w.l, .agg r.l, int term, int known] h (.tup [rD (L.map AttT.row), rD (rdR q2), int e2]) h)
 (h3 : ∀ h, Ev Tryz.prog Γk 54 [rD (L.map AttT.row)] h (.tup [int earn, int ea]) h)
 (h4 : ∀ h, Ev Tryz.prog Γk 55 [rD (L.map AttT.row)] h (.tup [.agg [int n, int d], int e]) h) : (Ev Tryz.prog Γk 99 [.ref (.ptr 0 0), int st] (vwH w term known rs 0) (.tup [int (vwX q1 q2 e1 e2 ea earn n d e).earn, .agg [int (vwX q1 q2 e1 e2 ea earn n d e).n, int (vwX q1 q2 e1 e2 ea earn n d e).d], int (vwX q1 q2 e1 e2 ea earn n d e).e]) (vwH w term known (rs ++ (vwX q1 q2 e1 e2 ea earn n d e).q) 1)) := by
 cases hc0 : e1 != 0
 ·cases hc1 : e2 != 0
  ·cases hc2 : ea != 0
   ·refine Ev.castH (Ev.post (d2 := D.tup [int (if false = true then if 10000 > earn then 10000 else earn else if 10000 < earn then 10000 else earn), D.agg [int n, int d], int e]) (h2 := [.var [.ref (.vec 1 1), rD (List.map CourseT.row w.c), rD w.p, rD (List.map SysT.row w.s), rD (List.map FactT.row w.f), int term, int known], .vec (vecR (rdR (rs ++ q1 ++ q2))) 1 5]) (φ := [List.map (D.mapRL (renR 1 2 1)) (vecR (rdR (rs ++ q1 ++ q2))) = vecR (rdR (rs ++ q1 ++ q2)), Blk.inn 2 (match 0 == 1 with | true => .vec (vecR (rdR (rs ++ q1 ++ q2))) 1 5 | false => keepX (renR 1 2 1) (.var [.ref (.vec 1 2), rD (List.map CourseT.row w.c), rD w.p, rD (List.map SysT.row w.s), rD (List.map FactT.row w.f), int term, int known])) = true, Blk.inn 2 (match 0 + 1 == 1 with | true => .vec (vecR (rdR (rs ++ q1 ++ q2))) 1 5 | false => keepX (renR 1 2 1) (.vec (vecR (rdR (rs ++ q1 ++ q2))) 2 5)) = true]) [.st (.ren 1 1), .st (.trimV 2)] (Ev.of_sym (h' := [.var [.ref (.vec 1 2), rD (List.map CourseT.row w.c), rD w.p, rD (List.map SysT.row w.s), rD (List.map FactT.row w.f), int term, int known], .vec (vecR (rdR (rs ++ q1 ++ q2))) 2 5, .var [int n, int d], .var [int r.st, rD (List.map AttT.row r.a)]]) (d := D.tup [int (if false = true then if 10000 > earn then 10000 else earn else if 10000 < earn then 10000 else earn), D.agg [int n, int d], int e]) pok [.val (D.tup [D.agg [int r.st, rD (List.map AttT.row r.a)], rD (rdR q1), int e1]), .call (D.tup []) (vwcnt_a_x1 w term known rs r q1), .b false, .val (D.tup [rD (List.map AttT.row L), rD (rdR q2), int e2]), .call (D.tup []) (vwcnt_a_x0 w term known rs r q1 q2), .b false, .val (D.tup [int earn, int ea]), .b false, .val (D.tup [D.agg [int n, int d], int e])] (by kernel_rfl) (.c (@h1 ((vwcnt_a_x4 w term known rs))) (.e (.ref (.ptr 0 0)) (.e (.ref (.ptr 0 0)) (.e (.ref (.ptr 0 1)) (.e (.ref (.ptr 0 1)) (.e (D.agg (WorldT.l w)) (.e (D.agg (WorldT.l w)) (.e (.ref (.ptr 0 0)) (.e (.ref (.ptr 0 0)) (.e (.ref (.ptr 0 5)) (.e (.ref (.ptr 0 5)) (.e (int term) (.e (int term) (.e (.ref (.ptr 0 0)) (.e (.ref (.ptr 0 0)) (.e (.ref (.ptr 0 6)) (.e (.ref (.ptr 0 6)) (.e (int known) (.e (int known) (.c (show (vwcnt_a_x4 w term known rs) = (vwcnt_a_x4 w term known rs) from rfl) (.c (@h1 ((vwcnt_a_x4 w term known rs))) (.c (@h1 ((vwcnt_a_x3 w term known rs))) (.c (show Ev Tryz.prog Γk 144 [.ref (.ptr 0 0), rD (rdR q1)] (vwcnt_a_x2 w term known rs r) (D.tup []) (vwcnt_a_x1 w term known rs r q1) from (Ev.castH (Ev.frameX (args := [.ref (.ptr 0 0), rD (rdR q1)]) (H := (vwcnt_a_x2 w term known rs r)) [0, 1] (@vwadd_ev (w) (term) (known) (rs) (q1) (by first | assumption | rfl | omega | exact vecR_map _ _ | exact vecR_inn _ _ | exact inn_vecR | (simp; omega))) (by kernel_rfl) (by kernel_rfl) (by kernel_rfl) ⟨?_, trivial⟩ ⟨?_, trivial⟩) (by kernel_rfl) (by kernel_rfl))) (.c hc0 (.c (@h2 ((vwcnt_a_x1 w term known rs r q1))) (.c (show Ev Tryz.prog Γk 144 [.ref (.ptr 0 0), rD (rdR q2)] (vwcnt_a_x1 w term known rs r q1) (D.tup []) (vwcnt_a_x0 w term known rs r q1 q2) from (Ev.castH (Ev.frameX (args := [.ref (.ptr 0 0), rD (rdR q2)]) (H := (vwcnt_a_x1 w term known rs r q1)) [0, 1] (Ev.upX [0, 1] (@vwadd_ev (w) (term) (known) (rs ++ q1) (q2) (by first | assumption | rfl | omega | exact vecR_map _ _ | exact vecR_inn _ _ | exact inn_vecR | (simp; omega))) (by kernel_rfl) ⟨?_, trivial⟩ ⟨?_, trivial⟩) (by kernel_rfl) (by kernel_rfl) (by kernel_rfl) ⟨?_, trivial⟩ ⟨?_, trivial⟩) (by kernel_rfl) (by kernel_rfl))) (.c hc1 (.c (@h3 ((vwcnt_a_x0 w term known rs r q1 q2))) (.c hc2 (.c (@h4 ((vwcnt_a_x0 w term known rs r q1 q2))) (.e (D.agg [int n, int d]) .n)))))))))))))))))))))))))))))))) (by kernel_rfl) ⟨(by first | assumption | rfl | omega | exact vecR_map _ _ | exact vecR_inn _ _ | exact inn_vecR | (simp; omega)), rfl, (by first | assumption | rfl | omega | exact vecR_map _ _ | exact vecR_inn _ _ | exact inn_vecR | (simp; omega)), trivial⟩) (by first | (simp only [vwX, hc0, hc1, hc2]; first | done | rfl) | (simp only [vwX, vwH, rdR, vecR, List.map_append, List.append_assoc, hc0, hc1, hc2]; first | done | rfl)) (by first | (simp only [vwX, vwH, rdR, vecR, List.map_append, hc0, hc1, hc2]; first | done | rfl) | (simp only [vwX, vwH, rdR, vecR, List.map_append, List.append_assoc, hc0, hc1, hc2]; first | done | rfl)) <;> (first | rfl | exact mapRL_rows _ _ | first | assumption | rfl | omega | exact vecR_map _ _ | exact vecR_inn _ _ | exact inn_vecR | (simp; omega))
   ·refine Ev.castH (Ev.post (d2 := D.tup [int 0, D.agg [int 0, int 0], int ea]) (h2 := [.var [.ref (.vec 1 1), rD (List.map CourseT.row w.c), rD w.p, rD (List.map SysT.row w.s), rD (List.map FactT.row w.f), int term, int known], .vec (vecR (rdR (rs ++ q1 ++ q2))) 1 5]) (φ := [List.map (D.mapRL (renR 1 2 1)) (vecR (rdR (rs ++ q1 ++ q2))) = vecR (rdR (rs ++ q1 ++ q2)), Blk.inn 2 (match 0 == 1 with | true => .vec (vecR (rdR (rs ++ q1 ++ q2))) 1 5 | false => keepX (renR 1 2 1) (.var [.ref (.vec 1 2), rD (List.map CourseT.row w.c), rD w.p, rD (List.map SysT.row w.s), rD (List.map FactT.row w.f), int term, int known])) = true, Blk.inn 2 (match 0 + 1 == 1 with | true => .vec (vecR (rdR (rs ++ q1 ++ q2))) 1 5 | false => keepX (renR 1 2 1) (.vec (vecR (rdR (rs ++ q1 ++ q2))) 2 5)) = true]) [.st (.ren 1 1), .st (.trimV 2)] (Ev.of_sym (h' := (vwcnt_a_x0 w term known rs r q1 q2)) (d := D.tup [int 0, D.agg [int 0, int 0], int ea]) pok [.val (D.tup [D.agg [int r.st, rD (List.map AttT.row r.a)], rD (rdR q1), int e1]), .call (D.tup []) (vwcnt_a_x1 w term known rs r q1), .b false, .val (D.tup [rD (List.map AttT.row L), rD (rdR q2), int e2]), .call (D.tup []) (vwcnt_a_x0 w term known rs r q1 q2), .b false, .val (D.tup [int earn, int ea]), .b true] (by kernel_rfl) (.c (@h1 ((vwcnt_a_x4 w term known rs))) (.e (.ref (.ptr 0 0)) (.e (.ref (.ptr 0 0)) (.e (.ref (.ptr 0 1)) (.e (.ref (.ptr 0 1)) (.e (D.agg (WorldT.l w)) (.e (D.agg (WorldT.l w)) (.e (.ref (.ptr 0 0)) (.e (.ref (.ptr 0 0)) (.e (.ref (.ptr 0 5)) (.e (.ref (.ptr 0 5)) (.e (int term) (.e (int term) (.e (.ref (.ptr 0 0)) (.e (.ref (.ptr 0 0)) (.e (.ref (.ptr 0 6)) (.e (.ref (.ptr 0 6)) (.e (int known) (.e (int known) (.c (show (vwcnt_a_x4 w term known rs) = (vwcnt_a_x4 w term known rs) from rfl) (.c (@h1 ((vwcnt_a_x4 w term known rs))) (.c (@h1 ((vwcnt_a_x3 w term known rs))) (.c (show Ev Tryz.prog Γk 144 [.ref (.ptr 0 0), rD (rdR q1)] (vwcnt_a_x2 w term known rs r) (D.tup []) (vwcnt_a_x1 w term known rs r q1) from (Ev.castH (Ev.frameX (args := [.ref (.ptr 0 0), rD (rdR q1)]) (H := (vwcnt_a_x2 w term known rs r)) [0, 1] (@vwadd_ev (w) (term) (known) (rs) (q1) (by first | assumption | rfl | omega | exact vecR_map _ _ | exact vecR_inn _ _ | exact inn_vecR | (simp; omega))) (by kernel_rfl) (by kernel_rfl) (by kernel_rfl) ⟨?_, trivial⟩ ⟨?_, trivial⟩) (by kernel_rfl) (by kernel_rfl))) (.c hc0 (.c (@h2 ((vwcnt_a_x1 w term known rs r q1))) (.c (show Ev Tryz.prog Γk 144 [.ref (.ptr 0 0), rD (rdR q2)] (vwcnt_a_x1 w term known rs r q1) (D.tup []) (vwcnt_a_x0 w term known rs r q1 q2) from (Ev.castH (Ev.frameX (args := [.ref (.ptr 0 0), rD (rdR q2)]) (H := (vwcnt_a_x1 w term known rs r q1)) [0, 1] (Ev.upX [0, 1] (@vwadd_ev (w) (term) (known) (rs ++ q1) (q2) (by first | assumption | rfl | omega | exact vecR_map _ _ | exact vecR_inn _ _ | exact inn_vecR | (simp; omega))) (by kernel_rfl) ⟨?_, trivial⟩ ⟨?_, trivial⟩) (by kernel_rfl) (by kernel_rfl) (by kernel_rfl) ⟨?_, trivial⟩ ⟨?_, trivial⟩) (by kernel_rfl) (by kernel_rfl))) (.c hc1 (.c (@h3 ((vwcnt_a_x0 w term known rs r q1 q2))) (.c hc2 (.e (D.agg [int 0, int 0]) .n))))))))))))))))))))))))))))))) (by kernel_rfl) ⟨(by first | assumption | rfl | omega | exact vecR_map _ _ | exact vecR_inn _ _ | exact inn_vecR | (simp; omega)), rfl, (by first | assumption | rfl | omega | exact vecR_map _ _ | exact vecR_inn _ _ | exact inn_vecR | (simp; omega)), trivial⟩) (by first | (simp only [vwX, hc0, hc1, hc2]; first | done | rfl) | (simp only [vwX, vwH, rdR, vecR, List.map_append, List.append_assoc, hc0, hc1, hc2]; first | done | rfl)) (by first | (simp only [vwX, vwH, rdR, vecR, List.map_append, hc0, hc1, hc2]; first | done | rfl) | (simp only [vwX, vwH, rdR, vecR, List.map_append, List.append_assoc, hc0, hc1, hc2]; first | done | rfl)) <;> (first | rfl | exact mapRL_rows _ _ | first | assumption | rfl | omega | exact vecR_map _ _ | exact vecR_inn _ _ | exact inn_vecR | (simp; omega))
  ·refine Ev.castH (Ev.post (d2 := D.tup [int 0, D.agg [int 0, int 0], int e2]) (h2 := [.var [.ref (.vec 1 1), rD (List.map CourseT.row w.c), rD w.p, rD (List.map SysT.row w.s), rD (List.map FactT.row w.f), int term, int known], .vec (vecR (rdR (rs ++ q1 ++ q2))) 1 5]) (φ := [List.map (D.mapRL (renR 1 2 1)) (vecR (rdR (rs ++ q1 ++ q2))) = vecR (rdR (rs ++ q1 ++ q2)), Blk.inn 2 (match 0 == 1 with | true => .vec (vecR (rdR (rs ++ q1 ++ q2))) 1 5 | false => keepX (renR 1 2 1) (.var [.ref (.vec 1 2), rD (List.map CourseT.row w.c), rD w.p, rD (List.map SysT.row w.s), rD (List.map FactT.row w.f), int term, int known])) = true, Blk.inn 2 (match 0 + 1 == 1 with | true => .vec (vecR (rdR (rs ++ q1 ++ q2))) 1 5 | false => keepX (renR 1 2 1) (.vec (vecR (rdR (rs ++ q1 ++ q2))) 2 5)) = true]) [.st (.ren 1 1), .st (.trimV 2)] (Ev.of_sym (h' := (vwcnt_a_x0 w term known rs r q1 q2)) (d := D.tup [int 0, D.agg [int 0, int 0], int e2]) pok [.val (D.tup [D.agg [int r.st, rD (List.map AttT.row r.a)], rD (rdR q1), int e1]), .call (D.tup []) (vwcnt_a_x1 w term known rs r q1), .b false, .val (D.tup [rD (List.map AttT.row L), rD (rdR q2), int e2]), .call (D.tup []) (vwcnt_a_x0 w term known rs r q1 q2), .b true] (by kernel_rfl) (.c (@h1 ((vwcnt_a_x4 w term known rs))) (.e (.ref (.ptr 0 0)) (.e (.ref (.ptr 0 0)) (.e (.ref (.ptr 0 1)) (.e (.ref (.ptr 0 1)) (.e (D.agg (WorldT.l w)) (.e (D.agg (WorldT.l w)) (.e (.ref (.ptr 0 0)) (.e (.ref (.ptr 0 0)) (.e (.ref (.ptr 0 5)) (.e (.ref (.ptr 0 5)) (.e (int term) (.e (int term) (.e (.ref (.ptr 0 0)) (.e (.ref (.ptr 0 0)) (.e (.ref (.ptr 0 6)) (.e (.ref (.ptr 0 6)) (.e (int known) (.e (int known) (.c (show (vwcnt_a_x4 w term known rs) = (vwcnt_a_x4 w term known rs) from rfl) (.c (@h1 ((vwcnt_a_x4 w term known rs))) (.c (@h1 ((vwcnt_a_x3 w term known rs))) (.c (show Ev Tryz.prog Γk 144 [.ref (.ptr 0 0), rD (rdR q1)] (vwcnt_a_x2 w term known rs r) (D.tup []) (vwcnt_a_x1 w term known rs r q1) from (Ev.castH (Ev.frameX (args := [.ref (.ptr 0 0), rD (rdR q1)]) (H := (vwcnt_a_x2 w term known rs r)) [0, 1] (@vwadd_ev (w) (term) (known) (rs) (q1) (by first | assumption | rfl | omega | exact vecR_map _ _ | exact vecR_inn _ _ | exact inn_vecR | (simp; omega))) (by kernel_rfl) (by kernel_rfl) (by kernel_rfl) ⟨?_, trivial⟩ ⟨?_, trivial⟩) (by kernel_rfl) (by kernel_rfl))) (.c hc0 (.c (@h2 ((vwcnt_a_x1 w term known rs r q1))) (.c (show Ev Tryz.prog Γk 144 [.ref (.ptr 0 0), rD (rdR q2)] (vwcnt_a_x1 w term known rs r q1) (D.tup []) (vwcnt_a_x0 w term known rs r q1 q2) from (Ev.castH (Ev.frameX (args := [.ref (.ptr 0 0), rD (rdR q2)]) (H := (vwcnt_a_x1 w term known rs r q1)) [0, 1] (Ev.upX [0, 1] (@vwadd_ev (w) (term) (known) (rs ++ q1) (q2) (by first | assumption | rfl | omega | exact vecR_map _ _ | exact vecR_inn _ _ | exact inn_vecR | (simp; omega))) (by kernel_rfl) ⟨?_, trivial⟩ ⟨?_, trivial⟩) (by kernel_rfl) (by kernel_rfl) (by kernel_rfl) ⟨?_, trivial⟩ ⟨?_, trivial⟩) (by kernel_rfl) (by kernel_rfl))) (.c hc1 (.e (D.agg [int 0, int 0]) .n))))))))))))))))))))))))))))) (by kernel_rfl) ⟨(by first | assumption | rfl | omega | exact vecR_map _ _ | exact vecR_inn _ _ | exact inn_vecR | (simp; omega)), rfl, (by first | assumption | rfl | omega | exact vecR_map _ _ | exact vecR_inn _ _ | exact inn_vecR | (simp; omega)), trivial⟩) (by first | (simp only [vwX, hc0, hc1]; first | done | rfl) | (simp only [vwX, vwH, rdR, vecR, List.map_append, List.append_assoc, hc0, hc1]; first | done | rfl)) (by first | (simp only [vwX, vwH, rdR, vecR, List.map_append, hc0, hc1]; first | done | rfl) | (simp only [vwX, vwH, rdR, vecR, List.map_append, List.append_assoc, hc0, hc1]; first | done | rfl)) <;> (first | rfl | exact mapRL_rows _ _ | first | assumption | rfl | omega | exact vecR_map _ _ | exact vecR_inn _ _ | exact inn_vecR | (simp; omega))
 ·refine Ev.castH (Ev.post (d2 := D.tup [int 0, D.agg [int 0, int 0], int e1]) (h2 := [.var [.ref (.vec 1 1), rD (List.map CourseT.row w.c), rD w.p, rD (List.map SysT.row w.s), rD (List.map FactT.row w.f), int term, int known], .vec (vecR (rdR (rs ++ q1))) 1 5]) (φ := [List.map (D.mapRL (renR 1 1 1)) (vecR (rdR (rs ++ q1))) = vecR (rdR (rs ++ q1)), Blk.inn 2 (match 0 == 1 with | true => .vec (vecR (rdR (rs ++ q1))) 1 5 | false => keepX (renR 1 1 1) (.var [.ref (.vec 1 1), rD (List.map CourseT.row w.c), rD w.p, rD (List.map SysT.row w.s), rD (List.map FactT.row w.f), int term, int known])) = true, Blk.inn 2 (match 0 + 1 == 1 with | true => .vec (vecR (rdR (rs ++ q1))) 1 5 | false => keepX (renR 1 1 1) (.vec (vecR (rdR (rs ++ q1))) 1 5)) = true]) [.st (.ren 1 1), .st (.trimV 2)] (Ev.of_sym (h' := (vwcnt_a_x1 w term known rs r q1)) (d := D.tup [int 0, D.agg [int 0, int 0], int e1]) pok [.val (D.tup [D.agg [int r.st, rD (List.map AttT.row r.a)], rD (rdR q1), int e1]), .call (D.tup []) (vwcnt_a_x1 w term known rs r q1), .b true] (by kernel_rfl) (.c (@h1 ((vwcnt_a_x4 w term known rs))) (.e (.ref (.ptr 0 0)) (.e (.ref (.ptr 0 0)) (.e (.ref (.ptr 0 1)) (.e (.ref (.ptr 0 1)) (.e (D.agg (WorldT.l w)) (.e (D.agg (WorldT.l w)) (.e (.ref (.ptr 0 0)) (.e (.ref (.ptr 0 0)) (.e (.ref (.ptr 0 5)) (.e (.ref (.ptr 0 5)) (.e (int term) (.e (int term) (.e (.ref (.ptr 0 0)) (.e (.ref (.ptr 0 0)) (.e (.ref (.ptr 0 6)) (.e (.ref (.ptr 0 6)) (.e (int known) (.e (int known) (.c (show (vwcnt_a_x4 w term known rs) = (vwcnt_a_x4 w term known rs) from rfl) (.c (@h1 ((vwcnt_a_x4 w term known rs))) (.c (@h1 ((vwcnt_a_x3 w term known rs))) (.c (show Ev Tryz.prog Γk 144 [.ref (.ptr 0 0), rD (rdR q1)] (vwcnt_a_x2 w term known rs r) (D.tup []) (vwcnt_a_x1 w term known rs r q1) from (Ev.castH (Ev.frameX (args := [.ref (.ptr 0 0), rD (rdR q1)]) (H := (vwcnt_a_x2 w term known rs r)) [0, 1] (@vwadd_ev (w) (term) (known) (rs) (q1) ?_) (by kernel_rfl) (by kernel_rfl) (by kernel_rfl) ⟨(by first | rfl | exact mapRL_rows _ _ | first | assumption | rfl | omega | exact vecR_map _ _ | exact vecR_inn _ _ | exact inn_vecR | (simp; omega)), trivial⟩ ⟨(by first | rfl | exact mapRL_rows _ _ | first | assumption | rfl | omega | exact vecR_map _ _ | exact vecR_inn _ _ | exact inn_vecR | (simp; omega)), trivial⟩) (by kernel_rfl) (by kernel_rfl))) (.c hc0 (.e (D.agg [int 0, int 0]) .n)))))))))))))))))))))))))) (by kernel_rfl) ⟨?_, rfl, ?_, trivial⟩) (by first | (simp only [vwX, hc0]; first | done | rfl) | (simp only [vwX, vwH, rdR, vecR, List.map_append, List.append_assoc, hc0]; first | done | rfl)) (by first | (simp only [vwX, vwH, rdR, vecR, List.map_append, hc0]; first | done | rfl) | (simp only [vwX, vwH, rdR, vecR, List.map_append, List.append_assoc, hc0]; first | done | rfl)) <;> (first | assumption | rfl | omega | exact vecR_map _ _ | exact vecR_inn _ _ | exact inn_vecR | (simp; omega))
def vwcR (w : WorldT) (st term known : Int) : VwX :=
 vwX (rofR w st term known).2.1 (rcntR w (rofR w st term known).1 term known).2.1 (rofR w st term known).2.2 (rcntR w (rofR w st term known).1 term known).2.2
  (earnR (rcntR w (rofR w st term known).1 term known).1).2 (earnR (rcntR w (rofR w st term known).1 term known).1).1
  (meanR (rcntR w (rofR w st term known).1 term known).1).1 (meanR (rcntR w (rofR w st term known).1 term known).1).2.1 (meanR (rcntR w (rofR w st term known).1 term known).1).2.2
theorem recA_len {w : WorldT} (hw : w.ok) {known st term : Int} : (recA w known st term).length ≤ 70656000 := by
 have := recRaw_len hw (known := known) (st := st) (term := term)
 unfold recA
 simpa using this
theorem rofR_len {w : WorldT} (hw : w.ok) {st term known : Int} : (rofR w st term known).1.a.length ≤ 70656000 ∧ (rofR w st term known).2.1.length ≤ 70725001 := by
 unfold rofR
 split
 ·simp
 ·exact ⟨recA_len hw, recReads_len hw⟩
theorem cgF_len (m : IM) (e : AttT × Nat) (out : List AttT) : (cgF m e out).length ≤ out.length + 1 := by
 unfold cgF; cases cgHit m e.2 e.1 <;> simp
theorem cgFold_len (m : IM) : ∀ (l : List (AttT × Nat)) (out : List AttT), (l.foldl (fun out e => cgF m e out) out).length ≤ out.length + l.length
 | [], _ => by simp
 | e :: l, out => by
  have h1 := cgFold_len m l (cgF m e out)
  have h2 := cgF_len m e out
  simp only [List.foldl_cons, List.length_cons]; omega
theorem cgAll_len (l : List AttT) (m : IM) : (cgAll l m).length ≤ l.length := by
 have := cgFold_len m l.zipIdx []
 simpa [cgAll] using this
theorem cntA_le (l : List AttT) (rp : List Int) : (cntA l rp).1.length ≤ l.length := by
 unfold cntA
 cases decide (aErr l = 0)
 ·simp
 ·cases decide (rp.length = l.length)
  ·simp
  ·simp only [cond_true]
   split
   ·exact cgAll_len _ _
   ·simp
theorem rcX_len (b : Bool) (e : Int) (L : List AttT) (rr : List ReadT) : (rcX b e L rr).1.length ≤ L.length ∧ (rcX b e L rr).2.1.length ≤ rr.length := by
 unfold rcX
 split
 ·simp
 ·split <;> simp
theorem rcntR_len {w : WorldT} {r : RecT} {term known : Int} : (rcntR w r term known).1.length ≤ r.a.length ∧ (rcntR w r term known).2.1.length ≤ r.a.length := by
 unfold rcntR
 have h1 := rcX_len (rcBad r term) (cntA r.a (repR w known term r.a)).2 (cntA r.a (repR w known term r.a)).1 (repQ term r.a)
 have h2 := cntA_le r.a (repR w known term r.a)
 have h3 := repQ_len term r.a
 omega
theorem vwcnt_ev {w : WorldT} (hw : w.ok) {term known st : Int} {rs : List ReadT} (hb : rs.length ≤ 100000000) : Ev Tryz.prog Γk 99 [.ref (.ptr 0 0), int st] (vwH w term known rs 0) (.tup [int (vwcR w st term known).earn, .agg [int (vwcR w st term known).n, int (vwcR w st term known).d], int (vwcR w st term known).e]) (vwH w term known (rs ++ (vwcR w st term known).q) 1) := by
 have hl := rofR_len hw (st := st) (term := term) (known := known)
 have hc := rcntR_len (w := w) (r := (rofR w st term known).1) (term := term) (known := known)
 have hs : Short (rcntR w (rofR w st term known).1 term known).1 := by unfold Short; omega
 exact vwcnt_a (by omega) (fun h => rof_ev hw h) (fun h => rcnt_ev hw (by omega) h) (fun h => Ev.glob0 (avearn_ev hs h)) (fun h => Ev.glob0 (avmean_ev hs h))
end Go.Vi
open Go Go.Proofs
namespace Go.Vi
set_option maxRecDepth 100000
set_option maxHeartbeats 4000000
def ofBad (kind st obj term : Int) : Bool := kind != 2 && kind != 3 && kind != 4 || decide (st < 0) || decide (st ≥ 20000) || decide (term < 0) || decide (term ≥ 1024) || (kind == 3 && !amt obj)
structure OfX where
 ans : Int
 q : List ReadT
 e : Int
def ofX (kind st obj term : Int) (q1 : List ReadT) (x : VwX) (fe cl ho : Int × Int) : OfX := match ofBad kind st obj term with
 | true => ⟨0, [], 1⟩
 | false => match kind == 3 with
  | true => ⟨fe.1, q1, fe.2⟩
  | false => match x.e != 0 with
   | true => ⟨0, q1 ++ x.q, x.e⟩
   | false => match kind == 2 with
    | true => ⟨cl.1, q1 ++ x.q, cl.2⟩
    | false => ⟨ho.1, q1 ++ x.q, ho.2⟩
noncomputable abbrev sof_a_x0 (w : WorldT) (term : Int) (known : Int) (s : SysT) (q1 : List ReadT) (q2 : List ReadT) (n : Int) (d : Int) : List Blk := [.var [rD (List.map CourseT.row w.c), rD w.p, rD (List.map SysT.row w.s), rD (List.map FactT.row w.f)], .var [.ref (.vec 2 2), rD (List.map CourseT.row w.c), rD w.p, rD (List.map SysT.row w.s), rD (List.map FactT.row w.f), int term, int known], .vec (vecR (rdR (q1 ++ q2))) 2 5, .var [rD (List.map Cls.row s.classes), rD (List.map FeeT.row s.fees), rD (List.map Cls.row s.honours), rD (List.map ClauseT.row s.clauses)], .var [int n, int d]]
noncomputable abbrev sof_a_x1 (w : WorldT) (term : Int) (known : Int) (s : SysT) (q1 : List ReadT) (q2 : List ReadT) : List Blk := [.var [rD (List.map CourseT.row w.c), rD w.p, rD (List.map SysT.row w.s), rD (List.map FactT.row w.f)], .var [.ref (.vec 2 2), rD (List.map CourseT.row w.c), rD w.p, rD (List.map SysT.row w.s), rD (List.map FactT.row w.f), int term, int known], .vec (vecR (rdR (q1 ++ q2))) 2 5, .var [rD (List.map Cls.row s.classes), rD (List.map FeeT.row s.fees), rD (List.map Cls.row s.honours), rD (List.map ClauseT.row s.clauses)]]
noncomputable abbrev sof_a_x2 (w : WorldT) (term : Int) (known : Int) (s : SysT) (q1 : List ReadT) : List Blk := [.var [rD (List.map CourseT.row w.c), rD w.p, rD (List.map SysT.row w.s), rD (List.map FactT.row w.f)], .var [.ref (.vec 2 1), rD (List.map CourseT.row w.c), rD w.p, rD (List.map SysT.row w.s), rD (List.map FactT.row w.f), int term, int known], .vec (vecR (rdR q1)) 1 5, .var [rD (List.map Cls.row s.classes), rD (List.map FeeT.row s.fees), rD (List.map Cls.row s.honours), rD (List.map ClauseT.row s.clauses)]]
noncomputable abbrev sof_a_x3 (w : WorldT) (term : Int) (known : Int) (q1 : List ReadT) : List Blk := [.var [rD (List.map CourseT.row w.c), rD w.p, rD (List.map SysT.row w.s), rD (List.map FactT.row w.f)], .var [.ref (.vec 2 1), rD (List.map CourseT.row w.c), rD w.p, rD (List.map SysT.row w.s), rD (List.map FactT.row w.f), int term, int known], .vec (vecR (rdR q1)) 1 5]
noncomputable abbrev sof_a_x4 (w : WorldT) (term : Int) (known : Int) : List Blk := [.var [rD (List.map CourseT.row w.c), rD w.p, rD (List.map SysT.row w.s), rD (List.map FactT.row w.f)], .var [.ref (.vec 2 0), rD (List.map CourseT.row w.c), rD w.p, rD (List.map SysT.row w.s), rD (List.map FactT.row w.f), int term, int known], .vec [] 0 5]
noncomputable abbrev sof_a_x5 (w : WorldT) : List Blk := [.var [rD (List.map CourseT.row w.c), rD w.p, rD (List.map SysT.row w.s), rD (List.map FactT.row w.f)]]
theorem sof_a {w : WorldT} {kind st obj term known : Int} {s : SysT} {q1 q2 : List ReadT} {en n d e f1 f2 c1 c2 h1 h2 : Int}
 (hs : Ev Tryz.prog Γk 98 [.ref (.ptr 0 0)] (vwH w term known [] 0) (ag s.row) (vwH w term known q1 1))
 (hc : Ev Tryz.prog Γk 99 [.ref (.ptr 0 0), int st] (vwH w term known q1 0) (.tup [int en, .agg [int n, int d], int e]) (vwH w term known (q1 ++ q2) 1))
 (hf : ∀ h, Ev Tryz.prog Γk 41 [ag s.row, int obj] h (.tup [int f1, int f2]) h)
 (hk : ∀ h, Ev Tryz.prog Γk 37 [ag s.row, int en, .agg [int n, int d]] h (.tup [int c1, int c2]) h)
 (hh : ∀ h, Ev Tryz.prog Γk 39 [ag s.row, int en, .agg [int n, int d]] h (.tup [int h1, int h2]) h) (h : List Blk) : (Ev Tryz.prog Γk 46 [.agg w.l, int kind, int st, int obj, int term, int known] h (.tup [int (ofX kind st obj term q1 ⟨en, n, d, e, q2⟩ (f1, f2) (c1, c2) (h1, h2)).ans, rD (rdR (ofX kind st obj term q1 ⟨en, n, d, e, q2⟩ (f1, f2) (c1, c2) (h1, h2)).q), int (ofX kind st obj term q1 ⟨en, n, d, e, q2⟩ (f1, f2) (c1, c2) (h1, h2)).e]) h) := by
 cases hc0 : kind != 2 && kind != 3 && kind != 4 || decide (st < 0) || decide (st ≥ 20000) || decide (term < 0) || decide (term ≥ 1024) || kind == 3 && !amt obj
 ·cases hc1 : kind == 3
  ·cases hc2 : e != 0
   ·cases hc3 : kind == 2
    ·refine Ev.castH (Ev.nilW (Ev.sym0 (d := D.tup [int h1, rD (rdR (q1 ++ q2)), int h2]) pok [.val (bool (amt obj)), .b false, .nx 1, .st (.nilC 1 0 5), .call ((ag (SysT.row s))) (sof_a_x3 w term known q1), .b false, .call (D.tup [int en, D.agg [int n, int d], int e]) (sof_a_x1 w term known s q1 q2), .b false, .b false, .val (D.tup [int h1, int h2]), .st (.frz 2 (rdR (q1 ++ q2)))] (by kernel_rfl) (.c (show (!(kind != 2 && kind != 3 && kind != 4 || decide (st < 0) || decide (st ≥ 20000) || decide (term < 0) || decide (term ≥ 1024)) && kind == 3) = true → Ev Tryz.prog Γk 91 [int obj] (sof_a_x5 w) (bool (amt obj)) (sof_a_x5 w) from (fun hg => (Ev.glob0 (@amount_ev (obj) ((sof_a_x5 w)))))) (.c hc0 (.c (show Ev Tryz.prog Γk 98 [.ref (.ptr 1 0)] (sof_a_x4 w term known) ((ag (SysT.row s))) (sof_a_x3 w term known q1) from (Ev.castH (Ev.frameX (args := [.ref (.ptr 1 0)]) (H := (sof_a_x4 w term known)) [1, 2] (@hs) (by kernel_rfl) (by kernel_rfl) (by kernel_rfl) ⟨?_, trivial⟩ ⟨?_, trivial⟩) (by kernel_rfl) (by kernel_rfl))) (.c hc1 (.c (show Ev Tryz.prog Γk 99 [.ref (.ptr 1 0), int st] (sof_a_x2 w term known s q1) (D.tup [int en, D.agg [int n, int d], int e]) (sof_a_x1 w term known s q1 q2) from (Ev.castH (Ev.frameX (args := [.ref (.ptr 1 0), int st]) (H := (sof_a_x2 w term known s q1)) [1, 2] (Ev.upX [0, 1] (@hc) (by kernel_rfl) ⟨?_, trivial⟩ ⟨?_, trivial⟩) (by kernel_rfl) (by kernel_rfl) (by kernel_rfl) ⟨?_, trivial⟩ ⟨?_, trivial⟩) (by kernel_rfl) (by kernel_rfl))) (.c hc2 (.c hc3 (.c (@hh ((sof_a_x0 w term known s q1 q2 n d))) (.c (show vecR (rdR (q1 ++ q2)) = List.map (fun x => List.map D.p x) (rdR (q1 ++ q2)) from (by first | assumption | rfl | omega | exact vecR_map _ _ | exact inn_vecR | (simp; omega))) .n))))))))) rfl rfl h)) (by first | (have z0 : ofBad kind st obj term = true := hc0; simp only [ofX, z0]; first | done | rfl) | (have z0 : ofBad kind st obj term = false := hc0; simp only [ofX, z0, hc1]; first | done | rfl) | (have z0 : ofBad kind st obj term = false := hc0; simp only [ofX, z0, hc1, hc2]; first | done | rfl) | (have z0 : ofBad kind st obj term = false := hc0; simp only [ofX, z0, hc1, hc2, hc3]; first | done | rfl)) (by rfl) <;> (first | rfl | exact mapRL_rows _ _ | first | assumption | rfl | omega | exact vecR_map _ _ | exact inn_vecR | (simp; omega))
    ·refine Ev.castH (Ev.nilW (Ev.sym0 (d := D.tup [int c1, rD (rdR (q1 ++ q2)), int c2]) pok [.val (bool (amt obj)), .b false, .nx 1, .st (.nilC 1 0 5), .call ((ag (SysT.row s))) (sof_a_x3 w term known q1), .b false, .call (D.tup [int en, D.agg [int n, int d], int e]) (sof_a_x1 w term known s q1 q2), .b false, .b true, .val (D.tup [int c1, int c2]), .st (.frz 2 (rdR (q1 ++ q2)))] (by kernel_rfl) (.c (show (!(kind != 2 && kind != 3 && kind != 4 || decide (st < 0) || decide (st ≥ 20000) || decide (term < 0) || decide (term ≥ 1024)) && kind == 3) = true → Ev Tryz.prog Γk 91 [int obj] (sof_a_x5 w) (bool (amt obj)) (sof_a_x5 w) from (fun hg => (Ev.glob0 (@amount_ev (obj) ((sof_a_x5 w)))))) (.c hc0 (.c (show Ev Tryz.prog Γk 98 [.ref (.ptr 1 0)] (sof_a_x4 w term known) ((ag (SysT.row s))) (sof_a_x3 w term known q1) from (Ev.castH (Ev.frameX (args := [.ref (.ptr 1 0)]) (H := (sof_a_x4 w term known)) [1, 2] (@hs) (by kernel_rfl) (by kernel_rfl) (by kernel_rfl) ⟨?_, trivial⟩ ⟨?_, trivial⟩) (by kernel_rfl) (by kernel_rfl))) (.c hc1 (.c (show Ev Tryz.prog Γk 99 [.ref (.ptr 1 0), int st] (sof_a_x2 w term known s q1) (D.tup [int en, D.agg [int n, int d], int e]) (sof_a_x1 w term known s q1 q2) from (Ev.castH (Ev.frameX (args := [.ref (.ptr 1 0), int st]) (H := (sof_a_x2 w term known s q1)) [1, 2] (Ev.upX [0, 1] (@hc) (by kernel_rfl) ⟨?_, trivial⟩ ⟨?_, trivial⟩) (by kernel_rfl) (by kernel_rfl) (by kernel_rfl) ⟨?_, trivial⟩ ⟨?_, trivial⟩) (by kernel_rfl) (by kernel_rfl))) (.c hc2 (.c hc3 (.c (@hk ((sof_a_x0 w term known s q1 q2 n d))) (.c (show vecR (rdR (q1 ++ q2)) = List.map (fun x => List.map D.p x) (rdR (q1 ++ q2)) from (by first | assumption | rfl | omega | exact vecR_map _ _ | exact inn_vecR | (simp; omega))) .n))))))))) rfl rfl h)) (by first | (have z0 : ofBad kind st obj term = true := hc0; simp only [ofX, z0]; first | done | rfl) | (have z0 : ofBad kind st obj term = false := hc0; simp only [ofX, z0, hc1]; first | done | rfl) | (have z0 : ofBad kind st obj term = false := hc0; simp only [ofX, z0, hc1, hc2]; first | done | rfl) | (have z0 : ofBad kind st obj term = false := hc0; simp only [ofX, z0, hc1, hc2, hc3]; first | done | rfl)) (by rfl) <;> (first | rfl | exact mapRL_rows _ _ | first | assumption | rfl | omega | exact vecR_map _ _ | exact inn_vecR | (simp; omega))
   ·refine Ev.castH (Ev.nilW (Ev.sym0 (d := D.tup [int 0, rD (rdR (q1 ++ q2)), int e]) pok [.val (bool (amt obj)), .b false, .nx 1, .st (.nilC 1 0 5), .call ((ag (SysT.row s))) (sof_a_x3 w term known q1), .b false, .call (D.tup [int en, D.agg [int n, int d], int e]) (sof_a_x1 w term known s q1 q2), .b true, .st (.frz 2 (rdR (q1 ++ q2)))] (by kernel_rfl) (.c (show (!(kind != 2 && kind != 3 && kind != 4 || decide (st < 0) || decide (st ≥ 20000) || decide (term < 0) || decide (term ≥ 1024)) && kind == 3) = true → Ev Tryz.prog Γk 91 [int obj] (sof_a_x5 w) (bool (amt obj)) (sof_a_x5 w) from (fun hg => (Ev.glob0 (@amount_ev (obj) ((sof_a_x5 w)))))) (.c hc0 (.c (show Ev Tryz.prog Γk 98 [.ref (.ptr 1 0)] (sof_a_x4 w term known) ((ag (SysT.row s))) (sof_a_x3 w term known q1) from (Ev.castH (Ev.frameX (args := [.ref (.ptr 1 0)]) (H := (sof_a_x4 w term known)) [1, 2] (@hs) (by kernel_rfl) (by kernel_rfl) (by kernel_rfl) ⟨?_, trivial⟩ ⟨?_, trivial⟩) (by kernel_rfl) (by kernel_rfl))) (.c hc1 (.c (show Ev Tryz.prog Γk 99 [.ref (.ptr 1 0), int st] (sof_a_x2 w term known s q1) (D.tup [int en, D.agg [int n, int d], int e]) (sof_a_x1 w term known s q1 q2) from (Ev.castH (Ev.frameX (args := [.ref (.ptr 1 0), int st]) (H := (sof_a_x2 w term known s q1)) [1, 2] (Ev.upX [0, 1] (@hc) (by kernel_rfl) ⟨?_, trivial⟩ ⟨?_, trivial⟩) (by kernel_rfl) (by kernel_rfl) (by kernel_rfl) ⟨?_, trivial⟩ ⟨?_, trivial⟩) (by kernel_rfl) (by kernel_rfl))) (.c hc2 (.c (show vecR (rdR (q1 ++ q2)) = List.map (fun x => List.map D.p x) (rdR (q1 ++ q2)) from (by first | assumption | rfl | omega | exact vecR_map _ _ | exact inn_vecR | (simp; omega))) .n))))))) rfl rfl h)) (by first | (have z0 : ofBad kind st obj term = true := hc0; simp only [ofX, z0]; first | done | rfl) | (have z0 : ofBad kind st obj term = false := hc0; simp only [ofX, z0, hc1]; first | done | rfl) | (have z0 : ofBad kind st obj term = false := hc0; simp only [ofX, z0, hc1, hc2]; first | done | rfl) | (have z0 : ofBad kind st obj term = false := hc0; simp only [ofX, z0, hc1, hc2, hc3]; first | done | rfl)) (by rfl) <;> (first | rfl | exact mapRL_rows _ _ | first | assumption | rfl | omega | exact vecR_map _ _ | exact inn_vecR | (simp; omega))
  ·refine Ev.castH (Ev.nilW (Ev.sym0 (d := D.tup [int f1, rD (rdR q1), int f2]) pok [.val (bool (amt obj)), .b false, .nx 1, .st (.nilC 1 0 5), .call ((ag (SysT.row s))) (sof_a_x3 w term known q1), .b true, .val (D.tup [int f1, int f2]), .st (.frz 2 (rdR q1))] (by kernel_rfl) (.c (show (!(kind != 2 && kind != 3 && kind != 4 || decide (st < 0) || decide (st ≥ 20000) || decide (term < 0) || decide (term ≥ 1024)) && kind == 3) = true → Ev Tryz.prog Γk 91 [int obj] (sof_a_x5 w) (bool (amt obj)) (sof_a_x5 w) from (fun hg => (Ev.glob0 (@amount_ev (obj) ((sof_a_x5 w)))))) (.c hc0 (.c (show Ev Tryz.prog Γk 98 [.ref (.ptr 1 0)] (sof_a_x4 w term known) ((ag (SysT.row s))) (sof_a_x3 w term known q1) from (Ev.castH (Ev.frameX (args := [.ref (.ptr 1 0)]) (H := (sof_a_x4 w term known)) [1, 2] (@hs) (by kernel_rfl) (by kernel_rfl) (by kernel_rfl) ⟨?_, trivial⟩ ⟨?_, trivial⟩) (by kernel_rfl) (by kernel_rfl))) (.c hc1 (.c (@hf ((sof_a_x2 w term known s q1))) (.c (show vecR (rdR q1) = List.map (fun x => List.map D.p x) (rdR q1) from (by first | assumption | rfl | omega | exact vecR_map _ _ | exact inn_vecR | (simp; omega))) .n)))))) rfl rfl h)) (by first | (have z0 : ofBad kind st obj term = true := hc0; simp only [ofX, z0]; first | done | rfl) | (have z0 : ofBad kind st obj term = false := hc0; simp only [ofX, z0, hc1]; first | done | rfl) | (have z0 : ofBad kind st obj term = false := hc0; simp only [ofX, z0, hc1, hc2]; first | done | rfl) | (have z0 : ofBad kind st obj term = false := hc0; simp only [ofX, z0, hc1, hc2, hc3]; first | done | rfl)) (by rfl) <;> (first | rfl | exact mapRL_rows _ _ | first | assumption | rfl | omega | exact vecR_map _ _ | exact inn_vecR | (simp; omega))
 ·exact Ev.castH (Ev.nilW (Ev.sym0 (d := D.tup [int 0, nq, int 1]) pok [.val (bool (amt obj)), .b true] (by kernel_rfl) (.c (show (!(kind != 2 && kind != 3 && kind != 4 || decide (st < 0) || decide (st ≥ 20000) || decide (term < 0) || decide (term ≥ 1024)) && kind == 3) = true → Ev Tryz.prog Γk 91 [int obj] (sof_a_x5 w) (bool (amt obj)) (sof_a_x5 w) from (fun hg => (Ev.glob0 (@amount_ev (obj) ((sof_a_x5 w)))))) (.c hc0 .n)) rfl rfl h)) (by first | (have z0 : ofBad kind st obj term = true := hc0; simp only [ofX, z0]; first | done | rfl) | (have z0 : ofBad kind st obj term = false := hc0; simp only [ofX, z0, hc1]; first | done | rfl) | (have z0 : ofBad kind st obj term = false := hc0; simp only [ofX, z0, hc1, hc2]; first | done | rfl) | (have z0 : ofBad kind st obj term = false := hc0; simp only [ofX, z0, hc1, hc2, hc3]; first | done | rfl)) (by rfl)
end Go.Vi
open Go Go.Proofs
namespace Go.Vi
set_option maxRecDepth 100000
set_option maxHeartbeats 4000000
theorem few2_ev {s : SysT} (h : List Blk) : Ev Tryz.prog Γ0 36 [ag s.row] h (bool (few s.sys)) h := few_ev s.sys h
abbrev fwS (w : WorldT) (i : Int) : AS := { t := mkT 45 0 [(1, .ref (.ptr 0 0)), (3, int i)], h := [.var w.l], m := [] }
abbrev fwX : Unit → Exit × AS := fun _ => (.ret, { t := mkT 45 0 [(2, bool false)], h := [], m := [] })
def fwF (s : SysT) (_ : Unit) : Unit ⊕ Unit := bif few s.sys then .inl () else .inr ()
theorem not_t {b : Bool} (h : (!b) = false) : b = true := by cases b <;> simp_all
theorem not_f {b : Bool} (h : (!b) = true) : b = false := by cases b <;> simp_all
attribute [local irreducible] few
noncomputable abbrev fw_body_x0 (w : WorldT) : List Blk := [.var [rD (List.map CourseT.row w.c), rD w.p, rD (List.map SysT.row w.s), rD (List.map FactT.row w.f)]]
theorem fw_body {w : WorldT} {s : SysT} {i : Nat} (hr : RowAt (i : Int) (w.s.map SysT.row) s.row 4) (hlt : decide ((i : Int) < ((w.s.map SysT.row).length : Int)) = true) (hw : IntKind.i64.wrap ((i : Int) + 1) = ((i + 1 : Nat) : Int)) : (CW Tryz.prog Γ0 [] false (sub Tryz.f45 0) (fwS w i) (bodyFin (fun _ => fwS w ((i + 1 : Nat) : Int)) fwX (fwF s ())).1 (bodyFin (fun _ => fwS w ((i + 1 : Nat) : Int)) fwX (fwF s ())).2) := by
 cases hc0 : !few (SysT.sys s)
 ·refine CW.cast (CW.symX (s' := { t := mkT 45 0 [(1, .ref (.ptr 0 0)), (3, int (IntKind.wrap IntKind.i64 ((↑i : Int) + 1)))], h := (fw_body_x0 w), m := [] }) (e := Exit.normal) pok [.st (.mask [1, 3])] [.b true, .row [Dp.sl (List.map Cls.row s.classes), Dp.sl (List.map FeeT.row s.fees), Dp.sl (List.map Cls.row s.honours), Dp.sl (List.map ClauseT.row s.clauses)], .val (bool (few (SysT.sys s))), .b false] (by kernel_rfl) (.c hlt (.c hr (.c (@few2_ev (s) ((fw_body_x0 w))) (.c hc0 .n))))) ?_ ?_ <;> (first | (have hh : few (SysT.sys s) = true := not_t hc0; simp only [fwF, hh, cond_true, bodyFin, hw]; first | done | rfl) | (have hh : few (SysT.sys s) = false := not_f hc0; simp only [fwF, hh, cond_false, bodyFin]; first | done | rfl))
 ·refine CW.cast (CW.symX (s' := { t := mkT 45 0 [(2, bool false)], h := [], m := [] }) (e := Exit.ret) pok [.st (.mask [2]), .st (.trim 0)] [.b true, .row [Dp.sl (List.map Cls.row s.classes), Dp.sl (List.map FeeT.row s.fees), Dp.sl (List.map Cls.row s.honours), Dp.sl (List.map ClauseT.row s.clauses)], .val (bool (few (SysT.sys s))), .b true] (by kernel_rfl) (.c hlt (.c hr (.c (@few2_ev (s) ((fw_body_x0 w))) (.c hc0 .n))))) ?_ ?_ <;> (first | (have hh : few (SysT.sys s) = true := not_t hc0; simp only [fwF, hh, cond_true, bodyFin, hw]; first | done | rfl) | (have hh : few (SysT.sys s) = false := not_f hc0; simp only [fwF, hh, cond_false, bodyFin]; first | done | rfl))
theorem fw_last {w : WorldT} {i : Nat} (hlt : decide ((i : Int) < ((w.s.map SysT.row).length : Int)) = false) : (CW Tryz.prog Γ0 [] false (sub Tryz.f45 0) (fwS w i) (.exit 0) { t := mkT 45 0 [], h := [], m := [] }) := by
 exact CW.cast (CW.symX (s' := { t := mkT 45 0 [], h := [], m := [] }) (e := Exit.exit 0) pok [.st (.mask []), .st (.trim 0)] [.b false] (by kernel_rfl) (.c hlt .n)) (by rfl) (by rfl)
def fwFin (w : WorldT) : Exit × AS := eachFin (.exit 0) (fun _ : Unit => { t := mkT 45 0 [], h := [], m := [] }) fwX (forL fwF w.s ())
theorem fw_cw {w : WorldT} (hl : Short w.s) :
  CW Tryz.prog Γ0 [] false (.loop (sub Tryz.f45 0)) (fwS w 0) (fwFin w).1 (fwFin w).2 := by
 have := CW.each (P := Tryz.prog) (Γ := Γ0) (h0 := []) (rd := false) (c := sub Tryz.f45 0) w.s fwF (fun i _ => fwS w (i : Int)) (.exit 0) (fun _ : Unit => { t := mkT 45 0 [], h := [], m := [] }) fwX (fun _ _ => True) (by simp) (fun _ => by simp) ?_ ?_ () trivial
 ·exact this
 ·intro i s u hp _
  have hi := (List.getElem?_eq_some_iff.1 hp).1
  exact ⟨fun _ _ => trivial, fw_body (rowAt hp rfl) (lt_len SysT.row hi) (wrap_succ hi hl)⟩
 ·intro u _
  exact fw_last (ge_len SysT.row w.s)
def fewBig (w : WorldT) : Bool := decide ((w.f.map FactT.row).length > (40 : Int)) || decide ((w.c.map CourseT.row).length > (12 : Int)) || decide (w.p.length > (6 : Int)) || decide ((w.s.map SysT.row).length > (6 : Int))
def fewW (w : WorldT) : Bool := match fewBig w with
 | true => false
 | false => match forL fwF w.s () with
  | .inl _ => true
  | .inr _ => false
theorem fewW_ev {w : WorldT} (hl : Short w.s) (h : List Blk) : (Ev Tryz.prog Γ0 45 [.agg w.l] h (bool (fewW w)) h) := by
 cases hc0 : decide ((↑(List.length (List.map FactT.row w.f)) : Int) > 40) || decide ((↑(List.length (List.map CourseT.row w.c)) : Int) > 12) || decide ((↑(List.length w.p) : Int) > 6) || decide ((↑(List.length (List.map SysT.row w.s)) : Int) > 6)
 ·have hl1 := (@fw_cw (w) (hl))
  unfold fwFin at hl1
  revert hl1
  cases ho2 : forL fwF w.s () with
  | inl o2_0_0 =>
   intro hl1
   exact Ev.castH (Ev.sym0 (d := bool true) pok [.b false, .sum [1, 3] (Exit.exit 0) { t := mkT 45 0 [], h := [], m := [] }] (by kernel_rfl) (.c hc0 (.c hl1 .n)) rfl rfl h) (by first | (have z0 : fewBig w = true := hc0; simp only [fewW, z0]; first | done | rfl) | (have z0 : fewBig w = false := hc0; simp only [fewW, z0, hc0, ho2]; first | done | rfl)) (by rfl)
  | inr o2_1_0 =>
   intro hl1
   exact Ev.castH (Ev.sym0 (d := bool false) pok [.b false, .sum [1, 3] (Exit.ret) { t := mkT 45 0 [(2, bool false)], h := [], m := [] }] (by kernel_rfl) (.c hc0 (.c hl1 .n)) rfl rfl h) (by first | (have z0 : fewBig w = true := hc0; simp only [fewW, z0]; first | done | rfl) | (have z0 : fewBig w = false := hc0; simp only [fewW, z0, hc0, ho2]; first | done | rfl)) (by rfl)
 ·exact Ev.castH (Ev.sym0 (d := bool false) pok [.b true] (by kernel_rfl) (.c hc0 .n) rfl rfl h) (by first | (have z0 : fewBig w = true := hc0; simp only [fewW, z0]; first | done | rfl) | (have z0 : fewBig w = false := hc0; simp only [fewW, z0, hc0]; first | done | rfl)) (by rfl)
end Go.Vi
open Go Go.Proofs
namespace Go.Vi
set_option maxRecDepth 100000
theorem sys_ok {w : WorldT} (hw : w.ok) {term known : Int} : (systemR w term known).1.ok := by
 have hz : SysT.zero.ok := ⟨by simp [SysT.zero, SysT.sys], by simp [SysT.zero, SysT.sys], by simp [SysT.zero, SysT.sys], by simp [SysT.zero, SysT.sys, Short], by simp [SysT.zero, SysT.sys, Short], by simp [SysT.zero, SysT.sys, Short], by simp [SysT.zero, SysT.sys, Short]⟩
 unfold systemR
 split
 ·exact hz
 ·unfold lookL
  split
  ·exact hz
  ·rename_i h
   exact hw.s _ (lookB_mem h).1
theorem vwX_i64 {q1 q2 : List ReadT} {e1 e2 ea earn n d e : Int} (hn : I64 n) (hd : I64 d) : I64 (vwX q1 q2 e1 e2 ea earn n d e).n ∧ I64 (vwX q1 q2 e1 e2 ea earn n d e).d := by
 unfold vwX
 split
 ·exact ⟨i64_0, i64_0⟩
 ·split
  ·exact ⟨i64_0, i64_0⟩
  ·split
   ·exact ⟨i64_0, i64_0⟩
   ·exact ⟨hn, hd⟩
abbrev sysW (w : WorldT) (term known : Int) : SysT := (systemR w term known).1
def sofR (w : WorldT) (kind st obj term known : Int) : OfX :=
 ofX kind st obj term (rdT 4 0 0 term) (vwcR w st term known) (feeR (sysW w term known).sys obj)
  (ofR (sysW w term known).sys (sysW w term known).sys.classes (vwcR w st term known).earn (vwcR w st term known).n (vwcR w st term known).d)
  (ofR (sysW w term known).sys (sysW w term known).sys.honours (vwcR w st term known).earn (vwcR w st term known).n (vwcR w st term known).d)
theorem sof_ev {w : WorldT} (hw : w.ok) {kind st obj term known : Int} (h : List Blk) : Ev Tryz.prog Γk 46 [.agg w.l, int kind, int st, int obj, int term, int known] h (.tup [int (sofR w kind st obj term known).ans, rD (rdR (sofR w kind st obj term known).q), int (sofR w kind st obj term known).e]) h := by
 have hi : I64 (vwcR w st term known).n ∧ I64 (vwcR w st term known).d := vwX_i64 (meanR_i64 _).1 (meanR_i64 _).2
 have hl := rdT_len 4 0 0 term
 have hs : (sysW w term known).sys.ok := sys_ok hw
 exact sof_a (s := sysW w term known) (q1 := rdT 4 0 0 term) (q2 := (vwcR w st term known).q)
  (vwsys_ev hw (rs := []) (by simp)) (vwcnt_ev hw (by omega)) (fun h => Ev.glob0 (fee_ev hs obj h)) (fun h => Ev.glob0 (class_ev hs hi.1 hi.2 h)) (fun h => Ev.glob0 (honour_ev hs hi.1 hi.2 h)) h
end Go.Vi
open Go Go.Proofs
namespace Go.Vi
set_option maxRecDepth 100000
structure WorldT.ok0 (w : WorldT) : Prop where
 c : ∀ x ∈ w.c, x.ok
 s : ∀ x ∈ w.s, x.ok
 lc : Short w.c
 ls : Short w.s
 i : ∀ f ∈ w.f, f.ok
theorem fewW_len {w : WorldT} (h : fewW w = true) : w.f.length ≤ 40 := by
 have h1 : fewBig w = false := by
  cases hb : fewBig w
  ·rfl
  ·simp [fewW, hb] at h
 simp only [fewBig, Bool.or_eq_false_iff, decide_eq_false_iff_not, List.length_map] at h1
 omega
end Go.Vi
open Go Go.Proofs
namespace Go.Vi
open Go.ChangeShapes Go.WideShapes Go.ChangeAt Go.RowKit Go.Proofs.YtilebidefogaiaaGreatDoor
set_option maxRecDepth 100000
theorem cells22 : Tryz.prog.cellsOf 22 = 1 := by kernel_rfl
theorem cells23 : Tryz.prog.cellsOf 23 = 1 := by kernel_rfl
theorem cells24 : Tryz.prog.cellsOf 24 = 1 := by kernel_rfl
theorem cells26 : Tryz.prog.cellsOf 26 = 3 := by kernel_rfl
theorem cells27 : Tryz.prog.cellsOf 27 = 1 := by kernel_rfl
theorem cells29 : Tryz.prog.cellsOf 29 = 4 := by kernel_rfl
theorem cells56 : Tryz.prog.cellsOf 56 = 3 := by kernel_rfl
theorem cells58 : Tryz.prog.cellsOf 58 = 2 := by kernel_rfl
theorem cells60 : Tryz.prog.cellsOf 60 = 8 := by kernel_rfl
theorem cells102' : Tryz.prog.cellsOf 102 = 4 := by kernel_rfl
theorem cells109 : Tryz.prog.cellsOf 109 = 1 := by kernel_rfl
theorem cells111 : Tryz.prog.cellsOf 111 = 6 := by kernel_rfl
theorem cells113 : Tryz.prog.cellsOf 113 = 16 := by kernel_rfl
theorem bytes76 : Tryz.prog.bytesOf 76 = 96 := by kernel_rfl
theorem bytes111 : Tryz.prog.bytesOf 111 = 72 := by kernel_rfl
theorem bytes113 : Tryz.prog.bytesOf 113 = 184 := by kernel_rfl
theorem shp_key {n : Nat} {ds : List Dp} (h : Shp Tryz.prog n 56 ds) : ∃ a b c, ds = [vi a, vi b, vi c] ∧ I64 a ∧ I64 b ∧ I64 c := by
 cases n with
 | zero => exact h.elim
 | succ n =>
  simp only [Shp, Tryz.underlying56, List.forall_mem_cons, cells3, cells56] at h
  obtain ⟨hl, h1, h2, h3, _⟩ := h
  obtain ⟨a, e1, ha⟩ := shp_int h1
  obtain ⟨b, e2, hb⟩ := shp_int h2
  obtain ⟨c, e3, hc⟩ := shp_int h3
  match ds, hl with
  | [p, q, r], _ =>
   simp at e1 e2 e3
   subst e1; subst e2; subst e3
   exact ⟨a, b, c, rfl, ha, hb, hc⟩
theorem shp_span {n : Nat} {ds : List Dp} (h : Shp Tryz.prog n 58 ds) : ∃ a b, ds = [vi a, vi b] ∧ I64 a ∧ I64 b := by
 cases n with
 | zero => exact h.elim
 | succ n =>
  simp only [Shp, Tryz.underlying58, List.forall_mem_cons, cells3, cells58] at h
  obtain ⟨hl, h1, h2, _⟩ := h
  obtain ⟨a, e1, ha⟩ := shp_int h1
  obtain ⟨b, e2, hb⟩ := shp_int h2
  match ds, hl with
  | [p, q], _ =>
   simp at e1 e2
   subst e1; subst e2
   exact ⟨a, b, rfl, ha, hb⟩
theorem shp_fact {n : Nat} {ds : List Dp} (h : Shp Tryz.prog n 60 ds) : ∃ f : FactT, ds = f.row ∧ f.ok := by
 cases n with
 | zero => exact h.elim
 | succ n =>
  simp only [Shp, Tryz.underlying60, List.forall_mem_cons, cells3, cells56, cells58, cells60] at h
  obtain ⟨hl, h1, h2, h3, h4, h5, _⟩ := h
  obtain ⟨a, b, c, e1, ha, hb, hc⟩ := shp_key h1
  obtain ⟨d, e2, hd⟩ := shp_int h2
  obtain ⟨x, y, e3, hx, hy⟩ := shp_span h3
  obtain ⟨k, e4, hk⟩ := shp_int h4
  obtain ⟨m, e5, hm⟩ := shp_int h5
  match ds, hl with
  | [p1, p2, p3, p4, p5, p6, p7, p8], _ =>
   simp at e1 e2 e3 e4 e5
   obtain ⟨rfl, rfl, rfl⟩ := e1
   obtain ⟨rfl, rfl⟩ := e3
   subst e2; subst e4; subst e5
   exact ⟨⟨a, b, c, d, x, y, k, m⟩, rfl, ha, hb, hc, hd, hx, hy, hk, hm⟩
theorem shp_facts {n : Nat} {ds : List Dp} (h : Shp Tryz.prog n 27 ds) : ∃ l : List FactT, ds = [.sl (l.map FactT.row)] ∧ (∀ c ∈ l, c.ok) := by
 cases n with
 | zero => exact h.elim
 | succ n =>
  simp only [Shp, Tryz.underlying27] at h
  obtain ⟨es, rfl, _, he⟩ := h
  obtain ⟨l, rfl, hl⟩ := map_of (row := FactT.row) (ok := FactT.ok) (fun r hr => shp_fact (he r hr))
  exact ⟨l, rfl, hl⟩
theorem rulesOk_of : ∀ {ks : List RuleT}, (∀ k ∈ ks, k.ok) → rulesOk ks
 | [], _ => trivial
 | k :: ks, h => ⟨h k (List.mem_cons_self ..), rulesOk_of fun x hx => h x (List.mem_cons_of_mem _ hx)⟩
theorem shp_rule : ∀ {n : Nat} {ds : List Dp}, Shp Tryz.prog n 111 ds → ∃ r : RuleT, ds = r.row ∧ r.ok
 | 0, _, h => h.elim
 | 1, _, h => by
  simp only [Shp, Tryz.underlying111, List.forall_mem_cons] at h
  exact h.2.1.elim
 | n + 2, ds, h => by
  rw [Shp, Tryz.underlying111] at h
  simp only [List.forall_mem_cons, cells3, cells9, cells109, cells111] at h
  obtain ⟨hl, h1, h2, h3, h4, h5, h6, _⟩ := h
  obtain ⟨a, e1, ha⟩ := shp_int h1
  obtain ⟨b, e2, hb⟩ := shp_int h2
  obtain ⟨s, e3⟩ := shp_str h3
  obtain ⟨c, e4, hc⟩ := shp_int h4
  obtain ⟨d, e5, hd⟩ := shp_int h5
  rw [Shp, Tryz.underlying109] at h6
  simp only [bytes111] at h6
  obtain ⟨es, e6, hb6, he⟩ := h6
  obtain ⟨l, rfl, hk⟩ := map_of (row := RuleT.row) (ok := RuleT.ok) (fun r hr => shp_rule (he r hr))
  have hs : Short l := by have := short_of hb6 (by omega); simpa [Short] using this
  match ds, hl with
  | [p1, p2, p3, p4, p5, p6], _ =>
   simp at e1 e2 e3 e4 e5 e6
   subst e1; subst e2; subst e3; subst e4; subst e5; subst e6
   refine ⟨.mk a b s c d l, ?_, ?_⟩
   ·rw [RuleT.row, ruleRows_eq]
   ·rw [RuleT.ok]; exact ⟨⟨ha, hb, hc, hd, hs⟩, rulesOk_of hk⟩
theorem shp_course {n : Nat} {ds : List Dp} (h : Shp Tryz.prog n 113 ds) : ∃ c : CourseT, ds = c.row ∧ c.ok := by
 cases n with
 | zero => exact h.elim
 | succ n =>
  rw [Shp, Tryz.underlying113] at h
  simp only [List.forall_mem_cons, cells3, cells9, cells111, cells113] at h
  obtain ⟨hl, h1, h2, h3, h4, h5, h6, _⟩ := h
  obtain ⟨s, e1⟩ := shp_str h1
  obtain ⟨a, e2, _⟩ := shp_int h2
  obtain ⟨b, e3, _⟩ := shp_int h3
  obtain ⟨c, e4, _⟩ := shp_int h4
  obtain ⟨r, e5, hr⟩ := shp_rule h5
  obtain ⟨t, e6, ht⟩ := shp_rule h6
  rw [← RuleT.fl_row] at e5 e6
  match ds, hl with
  | [p1, p2, p3, p4, p5, p6, p7, p8, p9, p10, p11, p12, p13, p14, p15, p16], _ =>
   simp [RuF.row] at e1 e2 e3 e4 e5 e6
   obtain ⟨rfl, rfl, rfl, rfl, rfl, rfl⟩ := e5
   obtain ⟨rfl, rfl, rfl, rfl, rfl, rfl⟩ := e6
   subst e1; subst e2; subst e3; subst e4
   exact ⟨⟨s, a, b, c, r, t⟩, rfl, hr, ht⟩
theorem shp_courses {n : Nat} {ds : List Dp} (h : Shp Tryz.prog n 22 ds) : ∃ l : List CourseT, ds = [.sl (l.map CourseT.row)] ∧ (∀ c ∈ l, c.ok) ∧ Short l := by
 cases n with
 | zero => exact h.elim
 | succ n =>
  simp only [Shp, Tryz.underlying22, bytes113] at h
  obtain ⟨es, rfl, hb, he⟩ := h
  obtain ⟨l, rfl, hl⟩ := map_of (row := CourseT.row) (ok := CourseT.ok) (fun r hr => shp_course (he r hr))
  exact ⟨l, rfl, hl, by have := short_of hb (by omega); simpa [Short] using this⟩
theorem shp_clauseT {n : Nat} {ds : List Dp} (h : Shp Tryz.prog n 102 ds) : ∃ c : ClauseT, ds = c.row ∧ True := by
 cases n with
 | zero => exact h.elim
 | succ n =>
  simp only [Shp, Tryz.underlying102, List.forall_mem_cons, cells3, cells102'] at h
  obtain ⟨hl, h1, h2, h3, h4, _⟩ := h
  obtain ⟨a, e1, _⟩ := shp_int h1
  obtain ⟨b, e2, _⟩ := shp_int h2
  obtain ⟨c, e3, _⟩ := shp_int h3
  obtain ⟨d, e4, _⟩ := shp_int h4
  match ds, hl with
  | [p, q, r, t], _ =>
   simp at e1 e2 e3 e4
   subst e1; subst e2; subst e3; subst e4
   exact ⟨⟨a, b, c, d⟩, rfl, trivial⟩
theorem shp_sysT {n : Nat} {ds : List Dp} (h : Shp Tryz.prog n 76 ds) : ∃ s : SysT, ds = s.row ∧ s.ok := by
 cases n with
 | zero => exact h.elim
 | succ n =>
  simp only [Shp, Tryz.underlying76, List.forall_mem_cons, cells72, cells73, cells74, cells76] at h
  obtain ⟨hl, h1, h2, h3, h4, _⟩ := h
  obtain ⟨a, e1, a1, a2⟩ := shp_classes h1
  obtain ⟨b, e2, b1, b2⟩ := shp_fees h2
  obtain ⟨c, e3, c1, c2⟩ := shp_classes h3
  have h5 : ∃ l : List ClauseT, (List.take 1 (List.drop 3 ds)) = [.sl (l.map ClauseT.row)] ∧ Short l := by
   cases n with
   | zero => exact h4.elim
   | succ n =>
    simp only [Shp, Tryz.underlying74, bytes102] at h4
    obtain ⟨es, e, hb, he⟩ := h4
    obtain ⟨l, rfl, _⟩ := map_of (row := ClauseT.row) (ok := fun _ => True) (fun r hr => shp_clauseT (he r hr))
    exact ⟨l, e, by have := short_of hb (by omega); simpa [Short] using this⟩
  obtain ⟨d, e4, d1⟩ := h5
  match ds, hl with
  | [p, q, r, t], _ =>
   simp at e1 e2 e3 e4
   subst e1; subst e2; subst e3; subst e4
   exact ⟨⟨a, b, c, d⟩, rfl, ⟨a1, c1, b1, a2, c2, b2, by simpa [Short, SysT.sys] using d1⟩⟩
theorem shp_systems {n : Nat} {ds : List Dp} (h : Shp Tryz.prog n 24 ds) : ∃ l : List SysT, ds = [.sl (l.map SysT.row)] ∧ (∀ c ∈ l, c.ok) ∧ Short l := by
 cases n with
 | zero => exact h.elim
 | succ n =>
  simp only [Shp, Tryz.underlying24, bytes76] at h
  obtain ⟨es, rfl, hb, he⟩ := h
  obtain ⟨l, rfl, hl⟩ := map_of (row := SysT.row) (ok := SysT.ok) (fun r hr => shp_sysT (he r hr))
  exact ⟨l, rfl, hl, by have := short_of hb (by omega); simpa [Short] using this⟩
theorem shp_progs {n : Nat} {ds : List Dp} (h : Shp Tryz.prog n 23 ds) : ∃ l, ds = [.sl l] := by
 cases n with
 | zero => exact h.elim
 | succ n =>
  simp only [Shp, Tryz.underlying23] at h
  obtain ⟨es, rfl, _⟩ := h
  exact ⟨es, rfl⟩
theorem shp_world {n : Nat} {ds : List Dp} (h : Shp Tryz.prog n 29 ds) : ∃ w : WorldT, ds.map .p = w.l ∧ w.ok0 := by
 cases n with
 | zero => exact h.elim
 | succ n =>
  rw [Shp, Tryz.underlying29] at h
  simp only [List.forall_mem_cons, cells26, cells27, cells29] at h
  obtain ⟨hl, h1, h2, _⟩ := h
  obtain ⟨f, e4, hf⟩ := shp_facts h2
  cases n with
  | zero => exact h1.elim
  | succ n =>
   rw [Shp, Tryz.underlying26] at h1
   simp only [List.forall_mem_cons, cells22, cells23, cells24, cells26] at h1
   obtain ⟨_, g1, g2, g3, _⟩ := h1
   obtain ⟨c, e1, c1, c2⟩ := shp_courses g1
   obtain ⟨p, e2⟩ := shp_progs g2
   obtain ⟨s, e3, s1, s2⟩ := shp_systems g3
   match ds, hl with
   | [x, y, z, t], _ =>
    simp at e1 e2 e3 e4
    subst e1; subst e2; subst e3; subst e4
    exact ⟨⟨c, p, s, f⟩, rfl, ⟨c1, s1, c2, s2, hf⟩⟩
end Go.Vi
open Go Go.Proofs
namespace Go.Vi
open Go.ChangeShapes Go.WideShapes Go.ChangeAt Go.RowKit Go.Proofs.YtilebidefogaiaaGreatDoor
set_option maxRecDepth 100000
def plainW : List TypeId := [3, 4, 9, 22, 23, 24, 26, 27, 29, 30, 35, 56, 58, 60, 72, 73, 74, 76, 87, 91, 102, 109, 111, 113, 294, 296, 298, 300]
theorem plain29 : plainB Tryz.prog plainW = true := by kernel_rfl
theorem arg_world {H : Type} {enc : TypeId × Value → H} {W : World} {base : Nat} {v : Value} {d : DataW H} {p : List MemPlace}
  (hok : Value.okWide Tryz.prog W .any base 29 v) (h : DataW.Trod enc Tryz.prog W 0 (fun _ => true) true 29 v d p) (hw : (d.weights Tryz.prog 29).all (· ≤ reachBytes) = true) :
  ∃ w : WorldT, w.ok0 ∧ Rel W (avs (fun _ => False) (fun _ => none) []) (fun _ => none) [] (.agg w.l) v := by
 unfold Value.okWide at hok
 rw [Tryz.underlying29] at hok
 obtain ⟨cs, rfl, _, _⟩ := hok
 obtain ⟨fuel, hf⟩ := h
 obtain ⟨ds, h1, h2⟩ := open_plain plain29 av_start fuel 29 _ d p (by decide) hf hw
 obtain ⟨w, e, hw0⟩ := shp_world h1
 refine ⟨w, hw0, ?_⟩
 rw [← e]
 simp only [Rel]
 exact ⟨cs, rfl, h2.relL⟩
end Go.Vi
open Go Go.Proofs
namespace Go.Vi
open Go.ChangeShapes Go.WideShapes Go.ChangeAt Go.RowKit Go.Proofs.YtilebidefogaiaaGreatDoor
set_option maxRecDepth 100000
def lookF (P : Program) (ks : List Nat) (bs : List UInt8) : Option Nat := ks.find? fun k => match P.funcs[k]? with
 | some fn => (fn.name.toUTF8.data.toList == bs) && (P.funcNamed fn.name == some k)
 | none => false
theorem utf8_inj {s t : String} (h : s.toUTF8.data.toList = t.toUTF8.data.toList) : s = t := by
 have h1 : s.toUTF8 = t.toUTF8 := by
  cases hs : s.toUTF8; cases ht : t.toUTF8
  rw [hs, ht] at h
  congr 1
  exact Array.toList_inj.1 h
 exact String.toByteArray_inj.1 h1
theorem lookF_tells {P : Program} {ks : List Nat} {t : TypeId} {v : Value} {b : UInt8} {r : List UInt8} {k : Nat} (hv : funcToken P (t, v) = b :: r) (hk : lookF P ks (b :: r) = some k) : v = .func (.func k) #[] #[] := by
 obtain ⟨f, fn, rfl, h1, h2, h3⟩ := funcToken_tells hv
 have h4 := List.find?_some hk
 split at h4
 ·rename_i fn' hfn
  simp only [Bool.and_eq_true, beq_iff_eq] at h4
  have : fn.name = fn'.name := utf8_inj (h3.trans h4.1.symm)
  rw [this, h4.2] at h2
  cases h2
  rfl
 ·simp at h4
def expect (P : Program) (ks : List Nat) : Nat → TypeId → DataW (List UInt8) → Option (List Value)
 | 0, _, _ => none
 | n + 1, t, d => match P.underlying t with
  | some .bool => match d with
   | .lit (.bool b) => some [.bool b]
   | _ => none
  | some (.func ..) => match d with
   | .nil => some [.nilFunc]
   | .held (b :: r) => (lookF P ks (b :: r)).map fun k => [.func (.func k) #[] #[]]
   | _ => none
  | some (.struct fs) => match d with
   | .agg ds => if contigB P fs.toList 0 (P.cellsOf t) then (zipE (fun f d => expect P ks n f d) (fs.toList.map (·.type)) ds) else none
   | _ => none
  | some (.array m e) => match d with
   | .agg ds => if decide (P.cellsOf t = m * P.cellsOf e) = true then zipE (fun f d => expect P ks n f d) (List.replicate m e) ds else none
   | _ => none
  | _ => none
where
 zipE (g : TypeId → DataW (List UInt8) → Option (List Value)) : List TypeId → List (DataW (List UInt8)) → Option (List Value)
  | [], [] => some []
  | t :: ts, d :: ds => (g t d).bind fun a => (zipE g ts ds).map fun b => a ++ b
  | _, _ => none
theorem fields_of {P : Program} {g : TypeId → DataW (List UInt8) → Option (List Value)} {tr : TypeId → List Value → Option (DataW (List UInt8) × List MemPlace)} {cs : List Value}
  (hg : ∀ t d ys, g t d = some ys → ∀ c p, tr t c = some (d, p) → c = ys) : ∀ (fs : List Field) (acc : Nat) (xs : List (DataW (List UInt8) × List MemPlace)) (ys : List Value),
  (fs.mapM fun f => tr f.type ((cs.drop f.offset).take (P.cellsOf f.type))) = some xs → contigB P fs acc cs.length = true → expect.zipE g (fs.map (·.type)) (xs.map (·.1)) = some ys → cs.drop acc = ys
 | [], acc, xs, ys, hm, hc, hz => by
  simp at hm
  subst hm
  simp [expect.zipE] at hz
  subst hz
  simp [contigB] at hc
  simp [hc]
 | f :: fs, acc, xs, ys, hm, hc, hz => by
  simp only [List.mapM_cons, Option.bind_eq_bind, Option.bind_eq_some_iff, Option.pure_def, Option.some.injEq] at hm
  obtain ⟨x, hx, xs', hxs, rfl⟩ := hm
  simp only [contigB, Bool.and_eq_true, beq_iff_eq] at hc
  simp only [List.map_cons, expect.zipE, Option.bind_eq_some_iff, Option.map_eq_some_iff] at hz
  obtain ⟨a, ha, b, hb, rfl⟩ := hz
  have h1 := hg _ _ _ ha _ x.2 (by rw [hx])
  have h2 := fields_of hg fs _ xs' b hxs hc.2 hb
  rw [← h1, ← h2, hc.1, ← List.drop_drop, List.take_append_drop]
theorem elems_of {e : TypeId} {c : Nat} {g : TypeId → DataW (List UInt8) → Option (List Value)} {tr : TypeId → List Value → Option (DataW (List UInt8) × List MemPlace)} {cs : List Value}
  (hg : ∀ t d ys, g t d = some ys → ∀ c p, tr t c = some (d, p) → c = ys) : ∀ (n k : Nat) (xs : List (DataW (List UInt8) × List MemPlace)) (ys : List Value),
  ((List.range' k n).mapM fun i => tr e ((cs.drop (i * c)).take c)) = some xs → cs.length = (k + n) * c → expect.zipE g (List.replicate n e) (xs.map (·.1)) = some ys → cs.drop (k * c) = ys
 | 0, k, xs, ys, hm, hc, hz => by
  simp at hm
  subst hm
  simp [expect.zipE] at hz
  subst hz
  exact List.drop_eq_nil_of_le (by rw [hc]; simp)
 | n + 1, k, xs, ys, hm, hc, hz => by
  rw [List.range'_succ] at hm
  simp only [List.mapM_cons, Option.bind_eq_bind, Option.bind_eq_some_iff, Option.pure_def, Option.some.injEq] at hm
  obtain ⟨x, hx, xs', hxs, rfl⟩ := hm
  rw [List.replicate_succ] at hz
  simp only [List.map_cons, expect.zipE, Option.bind_eq_some_iff, Option.map_eq_some_iff] at hz
  obtain ⟨a, ha, b, hb, rfl⟩ := hz
  have h1 := hg _ _ _ ha _ x.2 (by rw [hx])
  have h2 := elems_of hg n (k + 1) xs' b hxs (by rw [hc]; congr 1; omega) hb
  rw [← h1, ← h2, Nat.add_mul, Nat.one_mul, ← List.drop_drop, List.take_append_drop]
theorem expect_of {P : Program} {ks : List Nat} {w : World} {sp : Nat → Bool} : ∀ (n : Nat) (t : TypeId) (d : DataW (List UInt8)) (ys : List Value), expect P ks n t d = some ys → ∀ (fuel : Nat) (cs : List Value) (p : List MemPlace), DataW.trod (funcToken P) P w 0 sp true fuel t cs = some (d, p) → cs = ys
 | 0, _, _, _, h => by simp [expect] at h
 | n + 1, t, d, ys, h => by
  intro fuel cs p ht
  cases fuel with
  | zero => simp [DataW.trod] at ht
  | succ fuel =>
   unfold expect at h
   unfold DataW.trod at ht
   cases hu : P.underlying t with
   | none => rw [hu] at h; simp at h
   | some td =>
    rw [hu] at h ht
    cases td with
    | bool =>
     simp only at h ht
     split at h
     ·split at ht <;> simp_all
     ·simp at h
    | func a b c =>
     simp only at h ht
     split at h
     ·split at ht <;> simp_all
     ·rename_i b r
      obtain ⟨k, hk, rfl⟩ := Option.map_eq_some_iff.1 h
      split at ht
      all_goals (try (simp_all; done))
      ·rename_i fn first captured _ _
       simp only [if_true, Option.some.injEq, Prod.mk.injEq, DataW.held.injEq] at ht
       rw [lookF_tells ht.1 hk]
     ·simp at h
    | struct fs =>
     simp only at h ht
     split at h
     ·split at h
      ·rename_i hc
       split at ht
       ·rename_i hl
        obtain ⟨xs, hxs, he⟩ := Option.map_eq_some_iff.1 ht
        simp only [Prod.mk.injEq, DataW.agg.injEq] at he
        obtain ⟨rfl, _⟩ := he
        have := fields_of (tr := fun t c => DataW.trod (funcToken P) P w 0 sp true fuel t c) (fun t d ys hg c p hp => expect_of n t d ys hg fuel c p hp) fs.toList 0 xs ys hxs (by rw [hl]; exact hc) h
        simpa using this
       ·simp at ht
      ·simp at h
     ·simp at h
    | array m e =>
     simp only at h ht
     split at h
     ·split at ht
      ·rename_i hl
       obtain ⟨xs, hxs, he⟩ := Option.map_eq_some_iff.1 ht
       simp only [Prod.mk.injEq, DataW.agg.injEq] at he
       obtain ⟨rfl, _⟩ := he
       split at h
       ·rename_i hc
        rw [List.range_eq_range'] at hxs
        have := elems_of (tr := fun t c => DataW.trod (funcToken P) P w 0 sp true fuel t c) (fun t d ys hg c p hp => expect_of n t d ys hg fuel c p hp) m 0 xs ys hxs (by rw [hl, Nat.zero_add]; exact of_decide_eq_true hc) h
        simpa using this
       ·simp at h
      ·simp at ht
     ·simp at h
    | _ => simp at h
end Go.Vi
open Go Go.Proofs
namespace Go.Vi
open Go.ChangeShapes Go.WideShapes Go.ChangeAt Go.RowKit Go.Proofs.YtilebidefogaiaaGreatDoor
set_option maxRecDepth 100000
def kindsKs : List Nat := [257, 258, 259, 260, 261, 262, 263, 264, 265, 267, 269, 270, 271, 272, 273, 274, 266, 275]
def kindsW : DataW Unit := match (Rows.laid_sizar_rules_kinds : DataW Unit) with
 | .iface _ d => d
 | d => d
theorem kinds_named : Tryz.prog.globalNamed "sizar/rules.kinds" = some 0 := by kernel_rfl
noncomputable def kindsT : TypeId := ((Tryz.prog.globals[0]?).map (·.type)).getD 0
theorem kinds_type : (Tryz.prog.globals[0]?).map (·.type) = some kindsT := by kernel_rfl
theorem kinds_expect : expect Tryz.prog kindsKs 4 kindsT kindsW.funcsOut = some kindsCells := by kernel_rfl
theorem kinds_cells {W : World} (h : laidMetH Tryz.prog [("sizar/rules.kinds", Rows.laid_sizar_rules_kinds)] W) : ∃ cs : Array Value, W.var? Tryz.prog "sizar/rules.kinds" = some cs ∧ cs.toList = kindsCells := by
 obtain ⟨g, t, cs, fuel, p, h1, h2, h3, h4⟩ := laidMetH.funcs h (n := "sizar/rules.kinds") (d := kindsW) (List.mem_singleton.2 rfl)
 rw [kinds_named] at h1
 cases h1
 rw [kinds_type] at h2
 cases h2
 exact ⟨cs, h3, expect_of 4 _ _ _ kinds_expect fuel _ _ h4⟩
theorem relCells_v {w : World} {av : Nat → Prop} {blk : Nat} {cs : Array Value} (hb : ∀ off, w.cell? ⟨blk, off, none⟩ = cs[off]?) (hav : ∀ k, ¬ av k) : ∀ (ys : List Value) (off : Nat), cs.toList.drop off = ys → RelCells w av blk off (ys.map .v)
 | [], _, _ => by simp [RelCells]
 | y :: ys, off, h => by
  have h1 : cs[off]? = some y := by
   have := congrArg List.head? h
   rw [List.head?_drop] at this
   simpa using this
  have h2 : cs.toList.drop (off + 1) = ys := by
   rw [← List.drop_drop, h]; rfl
  simp only [List.map_cons, RelCells]
  exact ⟨⟨hav blk, y, by rw [hb, h1], by simp [RelP]⟩, relCells_v hb hav ys (off + 1) h2⟩
theorem kindsD_eq : kindsD = kindsCells.map .v := rfl
theorem kinds_glo {W : World} (h : laidMetH Tryz.prog [("sizar/rules.kinds", Rows.laid_sizar_rules_kinds)] W) : ∀ g cs, Γk g = some cs → RelCells W (avs (fun _ => False) (fun _ => none) []) g 0 cs := by
 intro g cs hg
 obtain ⟨xs, h1, h2⟩ := kinds_cells h
 have h0 : g = 0 ∧ cs = kindsD := by
  unfold Γk at hg
  split at hg
  ·exact ⟨rfl, (Option.some.inj hg).symm⟩
  ·simp at hg
 obtain ⟨rfl, rfl⟩ := h0
 rw [kindsD_eq]
 refine relCells_v (cs := xs) (fun off => ?_) av_start _ 0 (by rw [List.drop_zero, h2])
 rw [World.var?, kinds_named] at h1
 simp only [Option.bind_some] at h1
 unfold World.cell?
 split at h1
 ·rename_i c a b hh
  cases h1
  simp only [hh]
  rfl
 ·simp at h1
end Go.Vi
