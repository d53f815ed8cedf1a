/- StandingAlike: part of the proof. -/
import Derived.Test.YtilebidefogaiaaGreatDoorW3
import Derived.Shelf.SlSortCmp.NoneTotal
import Derived.Sort.EveryDepth
import Derived.Ground.SlsfProg
open Go Go.Proofs
namespace Go.Vi
set_option maxRecDepth 100000
set_option maxHeartbeats 4000000
def vaLo (f : FactT) : Int := if true = true then if f.frm > 0 then f.frm else 0 else if f.frm < 0 then f.frm else 0
def vaF (f : FactT) (s : VS) : VS := vaIn f (vaLo f) s
theorem vaIn_ok {f : FactT} {x : Int} {s : VS} (h : s.ok) : (vaIn f x s).ok := by
 unfold vaIn
 generalize List.range' x.toNat (vaHi f - x).toNat = l
 induction l generalizing s with
 | nil => exact h
 | cons n l ih => exact ih (vaStep_ok n h)
theorem vaIv_ev {kk ks ko known : Int} {fs : List (List Dp)} {rs : List D} {best : List FactT} {some : List Bool} (ho : VS.ok (best, some)) {f : FactT} : Iv Tryz.prog Γ0 (.ref (.yl 8)) [ag f.row] (vaH kk ks ko known fs rs best some .ready [.var (f.row.map .p)]) (bool true) (vaH kk ks ko known fs rs (vaF f (best, some)).1 (vaF f (best, some)).2 .ready [.var (f.row.map .p), .var (f.row.map .p)]) :=
 Iv.round (h1 := vaH kk ks ko known fs rs best some .ready [.var (f.row.map .p), .var (f.row.map .p)]) rfl rfl va_asg rfl (va_body ho) rfl
def vaGo (kk ks ko known : Int) (s : VS) (f : FactT) : VS := bif ofIs kk ks ko known f then vaF f s else s
theorem innL_flat {n : Nat} : ∀ {es : List (List D)}, (∀ r ∈ es, D.innL n r = true) → D.innL n es.flatten = true
 | [], _ => rfl
 | e :: es, h => by
  have key : ∀ (xs ys : List D), D.innL n xs = true → D.innL n ys = true → D.innL n (xs ++ ys) = true := by
   intro xs ys h1 h2
   induction xs with
   | nil => exact h2
   | cons x xs ih => simp only [D.innL, Bool.and_eq_true, List.cons_append] at h1 ⊢; exact ⟨h1.1, ih h1.2⟩
  rw [List.flatten_cons]
  exact key _ _ (h e (by simp)) (innL_flat fun r hr => h r (by simp [hr]))
theorem inn_best {n : Nat} {l : List FactT} : Blk.inn n (.var (bestC l).flatten) = true := innL_flat fun r hr => by obtain ⟨_, _, rfl⟩ := List.mem_map.1 hr; rfl
theorem inn_bool {n : Nat} {l : List Bool} : Blk.inn n (.var (boolC l).flatten) = true := innL_flat fun r hr => by obtain ⟨_, _, rfl⟩ := List.mem_map.1 hr; rfl
theorem inn_int {n : Nat} {l : List Int} : Blk.inn n (.var (intC l).flatten) = true := innL_flat fun r hr => by obtain ⟨_, _, rfl⟩ := List.mem_map.1 hr; rfl
theorem vo_body {kk ks ko known : Int} {fs : List (List Dp)} {rs : List Int} {best b0 : List FactT} {some s0 : List Bool} (ho : VS.ok (best, some)) {f : FactT} {i : Nat} (hr : RowAt (i : Int) fs f.row 8) (hlt : decide ((i : Int) < (fs.length : Int)) = true) (hw : IntKind.i64.wrap ((i : Int) + 1) = ((i + 1 : Nat) : Int)) : (CW Tryz.prog Γ0 (vaH kk ks ko known fs (intC rs).flatten b0 s0 .ready []) false (sub Tryz.f178 0) { t := ofT fs i, h := vaH kk ks ko known fs (intC rs).flatten best some .ready [], m := [] } .normal { t := ofT fs ((i + 1 : Nat) : Int), h := vaH kk ks ko known fs (intC rs).flatten (vaGo kk ks ko known (best, some) f).1 (vaGo kk ks ko known (best, some) f).2 .ready [], m := [] }) := by
 cases hc0 : f.kind == kk && (f.sub == ks && (f.obj == ko && true))
 ·refine CW.cast (CW.symX (s' := { t := mkT 30 0 [(0, .ref (.yl 8)), (1, .ref (.ptr 4 0)), (2, .ref (.ptr 5 0)), (3, .ref (.ptr 6 0)), (7, rD fs), (8, int (↑(List.length fs) : Int)), (9, int (IntKind.wrap IntKind.i64 ((↑i : Int) + 1)))], h := [.var [int kk, int ks, int ko], .var (List.flatten (intC rs)), .var (List.flatten (bestC best)), .var (List.flatten (boolC some)), .var [rD fs], .var [int kk, int ks, int ko], .var [int known], .defd, .loop LoopState.ready none 0 (mkT 63 0 [(6, .ref (.ptr 1 0)), (7, .ref (.ptr 2 0)), (8, .ref (.ptr 3 0)), (15, D.fn (Fn.func 178) [] [.ref (.ptr 4 0), .ref (.ptr 5 0), .ref (.ptr 6 0)])]) { toList := [16] } (rfAsg (sub Tryz.f159 0)) (rfBody (sub Tryz.f159 0))], m := [] }) (e := Exit.normal) pok [.st (.mask [0, 1, 2, 3, 7, 8, 9]), .st (.trimV 9)] [.b true, .row [vi f.kind, vi f.sub, vi f.obj, vi f.value, vi f.frm, vi f.til, vi f.known, vi f.no], .g false, .g false, .g false, .g false, .ov 22 (bool false), .g false, .g false, .g false, .g false, .ov 28 (bool false), .b false] (by kernel_rfl) (.c hlt (.c hr (.c (show ((f.kind == kk && (f.sub == ks && (f.obj == ko && true))) == true) = false from (by rw [hc0]; rfl)) (.c (show ((f.kind == kk && (f.sub == ks && (f.obj == ko && true))) == true) = false from (by rw [hc0]; rfl)) (.c (show ((f.kind == kk && (f.sub == ks && (f.obj == ko && true))) == true) = false from (by rw [hc0]; rfl)) (.c (show ((f.kind == kk && (f.sub == ks && (f.obj == ko && true))) == true) = false from (by rw [hc0]; rfl)) (.c (show PickIs (bool (f.kind == kk && (f.sub == ks && (f.obj == ko && true)))) (D.p (Dp.v (Value.tuple { toList := [] }))) (bool false) (bool false) from (pickIs_f hc0 rfl)) (.c (show (false == true) = false from rfl) (.c (show (false == true) = false from rfl) (.c (show (false == true) = false from rfl) (.c (show (false == true) = false from rfl) (.c (show PickIs (bool false) (D.p (Dp.v (Value.tuple { toList := [] }))) (bool false) (bool false) from (pickIs_f rfl rfl)) (.c (show false = false from rfl) (.c (show Blk.inn 9 (.var [int kk, int ks, int ko]) = true from rfl) (.c (show Blk.inn 9 (.var (List.flatten (intC rs))) = true from ?_) (.c (show Blk.inn 9 (.var (List.flatten (bestC best))) = true from ?_) (.c (show Blk.inn 9 (.var (List.flatten (boolC some))) = true from ?_) (.c (show Blk.inn 9 (.var [rD fs]) = true from rfl) (.c (show Blk.inn 9 (.var [int kk, int ks, int ko]) = true from rfl) (.c (show Blk.inn 9 (.var [int known]) = true from rfl) (.c (show Blk.inn 9 .defd = true from rfl) (.c (show Blk.inn 9 (.loop LoopState.ready none 0 (mkT 63 0 [(6, .ref (.ptr 1 0)), (7, .ref (.ptr 2 0)), (8, .ref (.ptr 3 0)), (15, D.fn (Fn.func 178) [] [.ref (.ptr 4 0), .ref (.ptr 5 0), .ref (.ptr 6 0)])]) { toList := [16] } (rfAsg (sub Tryz.f159 0)) (rfBody (sub Tryz.f159 0))) = true from rfl) .n))))))))))))))))))))))) (by first | rfl | (simp only [hw, vaGo, ofIs, keyIs, hc0, Bool.and_false, Bool.false_and, Bool.true_and, Bool.and_self, cond_true, cond_false]; rfl)) (by first | rfl | (simp only [hw, vaGo, ofIs, keyIs, hc0, Bool.false_and, cond_false]; rfl)) <;> (first | assumption | rfl | exact inn_best | exact inn_bool | exact inn_int | (simp_all; done))
 ·cases hc1 : decide (f.known ≤ known)
  ·refine CW.cast (CW.symX (s' := { t := mkT 30 0 [(0, .ref (.yl 8)), (1, .ref (.ptr 4 0)), (2, .ref (.ptr 5 0)), (3, .ref (.ptr 6 0)), (7, rD fs), (8, int (↑(List.length fs) : Int)), (9, int (IntKind.wrap IntKind.i64 ((↑i : Int) + 1)))], h := [.var [int kk, int ks, int ko], .var (List.flatten (intC rs)), .var (List.flatten (bestC best)), .var (List.flatten (boolC some)), .var [rD fs], .var [int kk, int ks, int ko], .var [int known], .defd, .loop LoopState.ready none 0 (mkT 63 0 [(6, .ref (.ptr 1 0)), (7, .ref (.ptr 2 0)), (8, .ref (.ptr 3 0)), (15, D.fn (Fn.func 178) [] [.ref (.ptr 4 0), .ref (.ptr 5 0), .ref (.ptr 6 0)])]) { toList := [16] } (rfAsg (sub Tryz.f159 0)) (rfBody (sub Tryz.f159 0))], m := [] }) (e := Exit.normal) pok [.st (.mask [0, 1, 2, 3, 7, 8, 9]), .st (.trimV 9)] [.b true, .row [vi f.kind, vi f.sub, vi f.obj, vi f.value, vi f.frm, vi f.til, vi f.known, vi f.no], .g true, .g true, .g true, .g true, .ov 22 (bool (decide (f.known ≤ known))), .g false, .g false, .g false, .g false, .ov 28 (bool false), .b false] (by kernel_rfl) (.c hlt (.c hr (.c (show ((f.kind == kk && (f.sub == ks && (f.obj == ko && true))) == true) = true from (by rw [hc0]; rfl)) (.c (show ((f.kind == kk && (f.sub == ks && (f.obj == ko && true))) == true) = true from (by rw [hc0]; rfl)) (.c (show ((f.kind == kk && (f.sub == ks && (f.obj == ko && true))) == true) = true from (by rw [hc0]; rfl)) (.c (show ((f.kind == kk && (f.sub == ks && (f.obj == ko && true))) == true) = true from (by rw [hc0]; rfl)) (.c (show PickIs (bool (f.kind == kk && (f.sub == ks && (f.obj == ko && true)))) (bool (decide (f.known ≤ known))) (bool false) (bool (decide (f.known ≤ known))) from (pickIs_t hc0 rfl)) (.c (show (decide (f.known ≤ known) == true) = false from (by rw [hc1]; rfl)) (.c (show (decide (f.known ≤ known) == true) = false from (by rw [hc1]; rfl)) (.c (show (decide (f.known ≤ known) == true) = false from (by rw [hc1]; rfl)) (.c (show (decide (f.known ≤ known) == true) = false from (by rw [hc1]; rfl)) (.c (show PickIs (bool (decide (f.known ≤ known))) (D.p (Dp.v (Value.tuple { toList := [] }))) (bool false) (bool false) from (pickIs_f hc1 rfl)) (.c (show false = false from rfl) (.c (show Blk.inn 9 (.var [int kk, int ks, int ko]) = true from rfl) (.c (show Blk.inn 9 (.var (List.flatten (intC rs))) = true from ?_) (.c (show Blk.inn 9 (.var (List.flatten (bestC best))) = true from ?_) (.c (show Blk.inn 9 (.var (List.flatten (boolC some))) = true from ?_) (.c (show Blk.inn 9 (.var [rD fs]) = true from rfl) (.c (show Blk.inn 9 (.var [int kk, int ks, int ko]) = true from rfl) (.c (show Blk.inn 9 (.var [int known]) = true from rfl) (.c (show Blk.inn 9 .defd = true from rfl) (.c (show Blk.inn 9 (.loop LoopState.ready none 0 (mkT 63 0 [(6, .ref (.ptr 1 0)), (7, .ref (.ptr 2 0)), (8, .ref (.ptr 3 0)), (15, D.fn (Fn.func 178) [] [.ref (.ptr 4 0), .ref (.ptr 5 0), .ref (.ptr 6 0)])]) { toList := [16] } (rfAsg (sub Tryz.f159 0)) (rfBody (sub Tryz.f159 0))) = true from rfl) .n))))))))))))))))))))))) (by first | rfl | (simp only [hw, vaGo, ofIs, keyIs, hc0, hc1, Bool.and_false, Bool.false_and, Bool.true_and, Bool.and_self, cond_true, cond_false]; rfl)) (by first | rfl | (simp only [hw, vaGo, ofIs, keyIs, hc0, hc1, Bool.and_false, cond_false]; rfl)) <;> (first | assumption | rfl | exact inn_best | exact inn_bool | exact inn_int | (simp_all; done))
  ·refine CW.cast (CW.symX (s' := { t := mkT 30 0 [(0, .ref (.yl 8)), (1, .ref (.ptr 4 0)), (2, .ref (.ptr 5 0)), (3, .ref (.ptr 6 0)), (7, rD fs), (8, int (↑(List.length fs) : Int)), (9, int (IntKind.wrap IntKind.i64 ((↑i : Int) + 1)))], h := [.var [int kk, int ks, int ko], .var (List.flatten (intC rs)), .var (List.flatten (bestC (vaF f (best, some)).fst)), .var (List.flatten (boolC (vaF f (best, some)).snd)), .var [rD fs], .var [int kk, int ks, int ko], .var [int known], .defd, .loop LoopState.ready none 0 (mkT 63 0 [(6, .ref (.ptr 1 0)), (7, .ref (.ptr 2 0)), (8, .ref (.ptr 3 0)), (15, D.fn (Fn.func 178) [] [.ref (.ptr 4 0), .ref (.ptr 5 0), .ref (.ptr 6 0)])]) { toList := [16] } (rfAsg (sub Tryz.f159 0)) (rfBody (sub Tryz.f159 0))], m := [] }) (e := Exit.normal) pok [.st (.mask [0, 1, 2, 3, 7, 8, 9]), .st (.trimV 9)] [.b true, .row [vi f.kind, vi f.sub, vi f.obj, vi f.value, vi f.frm, vi f.til, vi f.known, vi f.no], .g true, .g true, .g true, .g true, .ov 22 (bool (decide (f.known ≤ known))), .g true, .g true, .g true, .inv (bool true) [.var [int kk, int ks, int ko], .var (List.flatten (intC rs)), .var (List.flatten (bestC (vaF f (best, some)).fst)), .var (List.flatten (boolC (vaF f (best, some)).snd)), .var [rD fs], .var [int kk, int ks, int ko], .var [int known], .defd, .loop LoopState.ready none 0 (mkT 63 0 [(6, .ref (.ptr 1 0)), (7, .ref (.ptr 2 0)), (8, .ref (.ptr 3 0)), (15, D.fn (Fn.func 178) [] [.ref (.ptr 4 0), .ref (.ptr 5 0), .ref (.ptr 6 0)])]) { toList := [16] } (rfAsg (sub Tryz.f159 0)) (rfBody (sub Tryz.f159 0)), .var [int f.kind, int f.sub, int f.obj, int f.value, int f.frm, int f.til, int f.known, int f.no], .var [int f.kind, int f.sub, int f.obj, int f.value, int f.frm, int f.til, int f.known, int f.no]], .g true, .ov 28 (bool !true), .b false] (by kernel_rfl) (.c hlt (.c hr (.c (show ((f.kind == kk && (f.sub == ks && (f.obj == ko && true))) == true) = true from (by rw [hc0]; rfl)) (.c (show ((f.kind == kk && (f.sub == ks && (f.obj == ko && true))) == true) = true from (by rw [hc0]; rfl)) (.c (show ((f.kind == kk && (f.sub == ks && (f.obj == ko && true))) == true) = true from (by rw [hc0]; rfl)) (.c (show ((f.kind == kk && (f.sub == ks && (f.obj == ko && true))) == true) = true from (by rw [hc0]; rfl)) (.c (show PickIs (bool (f.kind == kk && (f.sub == ks && (f.obj == ko && true)))) (bool (decide (f.known ≤ known))) (bool false) (bool (decide (f.known ≤ known))) from (pickIs_t hc0 rfl)) (.c (show (decide (f.known ≤ known) == true) = true from (by rw [hc1]; rfl)) (.c (show (decide (f.known ≤ known) == true) = true from (by rw [hc1]; rfl)) (.c (show (decide (f.known ≤ known) == true) = true from (by rw [hc1]; rfl)) (.c (@vaIv_ev (kk) (ks) (ko) (known) (fs) (List.flatten (intC rs)) (best) (some) (ho) (f)) (.c (show (decide (f.known ≤ known) == true) = true from (by rw [hc1]; rfl)) (.c (show PickIs (bool (decide (f.known ≤ known))) (bool !true) (bool false) (bool !true) from (pickIs_t hc1 rfl)) (.c (show (!true) = false from rfl) (.c (show Blk.inn 9 (.var [int kk, int ks, int ko]) = true from rfl) (.c (show Blk.inn 9 (.var (List.flatten (intC rs))) = true from ?_) (.c (show Blk.inn 9 (.var (List.flatten (bestC (vaF f (best, some)).fst))) = true from ?_) (.c (show Blk.inn 9 (.var (List.flatten (boolC (vaF f (best, some)).snd))) = true from ?_) (.c (show Blk.inn 9 (.var [rD fs]) = true from rfl) (.c (show Blk.inn 9 (.var [int kk, int ks, int ko]) = true from rfl) (.c (show Blk.inn 9 (.var [int known]) = true from rfl) (.c (show Blk.inn 9 .defd = true from rfl) (.c (show Blk.inn 9 (.loop LoopState.ready none 0 (mkT 63 0 [(6, .ref (.ptr 1 0)), (7, .ref (.ptr 2 0)), (8, .ref (.ptr 3 0)), (15, D.fn (Fn.func 178) [] [.ref (.ptr 4 0), .ref (.ptr 5 0), .ref (.ptr 6 0)])]) { toList := [16] } (rfAsg (sub Tryz.f159 0)) (rfBody (sub Tryz.f159 0))) = true from rfl) .n)))))))))))))))))))))))) (by first | rfl | (simp only [hw, vaGo, ofIs, keyIs, hc0, hc1, Bool.and_false, Bool.false_and, Bool.true_and, Bool.and_self, cond_true, cond_false]; rfl)) (by first | rfl | (simp only [hw, vaGo, ofIs, keyIs, hc0, hc1, Bool.and_self, cond_true]; rfl)) <;> (first | assumption | rfl | exact inn_best | exact inn_bool | exact inn_int | (simp_all; done))
theorem vo_last {kk ks ko known : Int} {fs : List (List Dp)} {rs : List Int} {best b0 : List FactT} {some s0 : List Bool} {i : Nat} (hlt : decide ((i : Int) < (fs.length : Int)) = false) : (CW Tryz.prog Γ0 (vaH kk ks ko known fs (intC rs).flatten b0 s0 .ready []) false (sub Tryz.f178 0) { t := ofT fs i, h := vaH kk ks ko known fs (intC rs).flatten best some .ready [], m := [] } (.exit 0) { t := mkT 30 0 [], h := vaH kk ks ko known fs (intC rs).flatten best some .ready [], m := [] }) := by
 exact CW.cast (CW.symX (s' := { t := mkT 30 0 [], h := [.var [int kk, int ks, int ko], .var (List.flatten (intC rs)), .var (List.flatten (bestC best)), .var (List.flatten (boolC some)), .var [rD fs], .var [int kk, int ks, int ko], .var [int known], .defd, .loop LoopState.ready none 0 (mkT 63 0 [(6, .ref (.ptr 1 0)), (7, .ref (.ptr 2 0)), (8, .ref (.ptr 3 0)), (15, D.fn (Fn.func 178) [] [.ref (.ptr 4 0), .ref (.ptr 5 0), .ref (.ptr 6 0)])]) { toList := [16] } (rfAsg (sub Tryz.f159 0)) (rfBody (sub Tryz.f159 0))], m := [] }) (e := Exit.exit 0) pok [.st (.mask [])] [.b false] (by kernel_rfl) (.c hlt .n)) (by rfl) (by rfl)
theorem vaGo_ok {kk ks ko known : Int} {s : VS} (f : FactT) (h : s.ok) : (vaGo kk ks ko known s f).ok := by
 unfold vaGo
 cases ofIs kk ks ko known f
 ·exact h
 ·exact vaIn_ok h
theorem vo_cw {kk ks ko known : Int} {l : List FactT} (hl : Short l) {rs : List Int} {b0 : List FactT} {s0 : List Bool} (ho : VS.ok (b0, s0)) :
  CW Tryz.prog Γ0 (vaH kk ks ko known (l.map FactT.row) (intC rs).flatten b0 s0 .ready []) false (.loop (sub Tryz.f178 0)) { t := ofT (l.map FactT.row) 0, h := vaH kk ks ko known (l.map FactT.row) (intC rs).flatten b0 s0 .ready [], m := [] } (.exit 0)
   { t := mkT 30 0 [], h := vaH kk ks ko known (l.map FactT.row) (intC rs).flatten (l.foldl (vaGo kk ks ko known) (b0, s0)).1 (l.foldl (vaGo kk ks ko known) (b0, s0)).2 .ready [], m := [] } := by
 have := CW.each (P := Tryz.prog) (Γ := Γ0) (h0 := vaH kk ks ko known (l.map FactT.row) (intC rs).flatten b0 s0 .ready []) (rd := false) (c := sub Tryz.f178 0) (σ := VS) (ρ := Empty) l (fun f s => .inl (vaGo kk ks ko known s f))
  (fun i s => { t := ofT (l.map FactT.row) (i : Int), h := vaH kk ks ko known (l.map FactT.row) (intC rs).flatten s.1 s.2 .ready [], m := [] }) (.exit 0) (fun s => { t := mkT 30 0 [], h := vaH kk ks ko known (l.map FactT.row) (intC rs).flatten s.1 s.2 .ready [], m := [] }) (fun r => r.elim)
  (fun _ s => s.ok) (by simp) (fun r => r.elim) ?_ ?_ (b0, s0) ho
 ·rw [forL_fold] at this
  exact this
 ·intro i f s hf hs
  have hi := (List.getElem?_eq_some_iff.1 hf).1
  exact ⟨fun s' h => by cases h; exact vaGo_ok f hs, vo_body hs (rowAt hf rfl) (lt_len _ hi) (wrap_succ hi hl)⟩
 ·intro s _
  exact vo_last (ge_len _ l)
theorem voiter_ev {kk ks ko known : Int} {l : List FactT} (hl : Short l) {rs : List Int} {b0 : List FactT} {s0 : List Bool} (ho : VS.ok (b0, s0)) : (Ev Tryz.prog Γ0 178 [.ref (.yl 8), .ref (.ptr 4 0), .ref (.ptr 5 0), .ref (.ptr 6 0)] (vaH kk ks ko known (l.map FactT.row) (intC rs).flatten b0 s0 .ready []) (.tup []) (vaH kk ks ko known (l.map FactT.row) (intC rs).flatten (l.foldl (vaGo kk ks ko known) (b0, s0)).1 (l.foldl (vaGo kk ks ko known) (b0, s0)).2 .ready [])) := by
 have hl0 := (@vo_cw (kk) (ks) (ko) (known) (l) (hl) (rs) (b0) (s0) (ho))
 exact Ev.castH (Ev.of_sym (h' := [.var [int kk, int ks, int ko], .var (List.flatten (intC rs)), .var (List.flatten (bestC (List.foldl (vaGo kk ks ko known) (b0, s0) l).fst)), .var (List.flatten (boolC (List.foldl (vaGo kk ks ko known) (b0, s0) l).snd)), .var [rD (List.map FactT.row l)], .var [int kk, int ks, int ko], .var [int known], .defd, .loop LoopState.ready none 0 (mkT 63 0 [(6, .ref (.ptr 1 0)), (7, .ref (.ptr 2 0)), (8, .ref (.ptr 3 0)), (15, D.fn (Fn.func 178) [] [.ref (.ptr 4 0), .ref (.ptr 5 0), .ref (.ptr 6 0)])]) { toList := [16] } (rfAsg (sub Tryz.f159 0)) (rfBody (sub Tryz.f159 0))]) (d := D.tup []) pok [.sum [0, 1, 2, 3, 7, 8, 9] (Exit.exit 0) { t := mkT 30 0 [], h := [.var [int kk, int ks, int ko], .var (List.flatten (intC rs)), .var (List.flatten (bestC (List.foldl (vaGo kk ks ko known) (b0, s0) l).fst)), .var (List.flatten (boolC (List.foldl (vaGo kk ks ko known) (b0, s0) l).snd)), .var [rD (List.map FactT.row l)], .var [int kk, int ks, int ko], .var [int known], .defd, .loop LoopState.ready none 0 (mkT 63 0 [(6, .ref (.ptr 1 0)), (7, .ref (.ptr 2 0)), (8, .ref (.ptr 3 0)), (15, D.fn (Fn.func 178) [] [.ref (.ptr 4 0), .ref (.ptr 5 0), .ref (.ptr 6 0)])]) { toList := [16] } (rfAsg (sub Tryz.f159 0)) (rfBody (sub Tryz.f159 0))], m := [] }] (by kernel_rfl) (.c hl0 .n)) (by rfl) (by rfl)
noncomputable abbrev vaH0 (kk ks ko known : Int) (fs : List (List Dp)) (rs : List Int) (best : List FactT) (some : List Bool) : List Blk :=
 [.var [int kk, int ks, int ko], .var (intC rs).flatten, .var (bestC best).flatten, .var (boolC some).flatten, .var [rD fs], .var [int kk, int ks, int ko], .var [int known]]
theorem va_rf_cw {kk ks ko known : Int} {l : List FactT} (hl : Short l) {rs : List Int} {b0 : List FactT} {s0 : List Bool} (ho : VS.ok (b0, s0)) : CW Tryz.prog Γ0 [] false (sub Tryz.f159 0) { t := vaT, h := vaH0 kk ks ko known (l.map FactT.row) rs b0 s0, m := [] } .normal
  { t := vaT, h := vaH kk ks ko known (l.map FactT.row) (intC rs).flatten (l.foldl (vaGo kk ks ko known) (b0, s0)).1 (l.foldl (vaGo kk ks ko known) (b0, s0)).2 .exhausted [], m := [7] } :=
 CW.rangeFunc (f := 178) (fi := []) (ca := [.ref (.ptr 4 0), .ref (.ptr 5 0), .ref (.ptr 6 0)]) pok (s := { t := vaT, h := vaH0 kk ks ko known (l.map FactT.row) rs b0 s0, m := [] }) (g := .tmp 15) (ps := #[16]) (asg := rfAsg (sub Tryz.f159 0)) (body := rfBody (sub Tryz.f159 0)) rfl (by kernel_rfl) (voiter_ev hl ho) rfl
theorem va_val {h : List Blk} {off n : Nat} {l : List FactT} {g : FactT} (hb : h[2]? = some (.var (bestC l).flatten)) (hs : l[n]? = some g) (ho : off = n * 8 + 3) : loadD Tryz.prog h 3 (.ref (.ptr 2 off)) = some (int g.value) := by
 subst ho
 exact load_arr1 (sz := 8) (j := 3) (row := g.row.map .p) (by kernel_rfl) (by kernel_rfl) hb (by simp [FactT.row]) (by simp [hs]) rfl
theorem va_stI {h : List Blk} {off n : Nat} {l : List Int} {x : Int} (hb : h[1]? = some (.var (intC l).flatten)) (hn : n < l.length) (ho : off = n * 1) : storeD Tryz.prog h 3 (.ref (.ptr 1 off)) (int x) = some (h.set 1 (.var (intC (l.set n x)).flatten)) := by
 subst ho
 rw [store_arr (sz := 1) (new := [int x]) rfl (by kernel_rfl) rfl hb (fun r hr => by obtain ⟨_, _, rfl⟩ := List.mem_map.1 hr; rfl) (by simpa using hn), intC, intC, List.map_set]
abbrev maxV (v : Int) : Int := if true = true then if -1 > v then -1 else v else if -1 < v then -1 else v
noncomputable abbrev vlS (kk ks ko known : Int) (fs : List (List Dp)) (rs : List Int) (best : List FactT) (some : List Bool) (i : Int) : AS := { t := mkT 63 0 [(6, .ref (.ptr 1 0)), (7, .ref (.ptr 2 0)), (8, .ref (.ptr 3 0)), (46, int i)], h := vaH kk ks ko known fs (intC rs).flatten best some .exhausted [], m := [7] }
theorem vl_b {kk ks ko known : Int} {fs : List (List Dp)} {rs : List Int} {best : List FactT} {some : List Bool} {g : FactT} {n : Nat} {b : Bool} (hb : best[n]? = .some g) (hs : some[n]? = .some b) (hn : inR (n : Int) 1024 = true) (hr : n < rs.length) (hlt : decide ((n : Int) < 1024) = true) : (CW Tryz.prog Γ0 [] false (sub Tryz.f159 2) (vlS kk ks ko known fs rs best some (n : Int)) .normal (vlS kk ks ko known fs (bif b then (rs.set n (-1)).set n (maxV g.value) else rs.set n (-1)) best some (IntKind.i64.wrap ((n : Int) + 1)))) := by
 cases hc0 : b
 ·refine CW.cast (CW.symX (s' := { t := mkT 63 0 [(6, .ref (.ptr 1 0)), (7, .ref (.ptr 2 0)), (8, .ref (.ptr 3 0)), (46, int (IntKind.wrap IntKind.i64 ((↑n : Int) + 1)))], h := [.var [int kk, int ks, int ko], .var (List.flatten (intC (List.set rs n (-1)))), .var (List.flatten (bestC best)), .var (List.flatten (boolC some)), .var [rD fs], .var [int kk, int ks, int ko], .var [int known], .defd, .loop LoopState.exhausted none 0 (mkT 63 0 [(6, .ref (.ptr 1 0)), (7, .ref (.ptr 2 0)), (8, .ref (.ptr 3 0)), (15, D.fn (Fn.func 178) [] [.ref (.ptr 4 0), .ref (.ptr 5 0), .ref (.ptr 6 0)])]) { toList := [16] } (rfAsg (sub Tryz.f159 0)) (rfBody (sub Tryz.f159 0))], m := [7] }) (e := Exit.normal) pok [.st (.mask [6, 7, 8, 46])] [.b true, .oh 10050 D.any (vaH kk ks ko known fs (List.flatten (intC (List.set rs n (-1)))) best some LoopState.exhausted []), .ov 53 (bool b), .b false] (by kernel_rfl) (.c hlt (.c hn (.c (show storeD Tryz.prog [.var [int kk, int ks, int ko], .var (List.flatten (intC rs)), .var (List.flatten (bestC best)), .var (List.flatten (boolC some)), .var [rD fs], .var [int kk, int ks, int ko], .var [int known], .defd, .loop LoopState.exhausted none 0 (mkT 63 0 [(6, .ref (.ptr 1 0)), (7, .ref (.ptr 2 0)), (8, .ref (.ptr 3 0)), (15, D.fn (Fn.func 178) [] [.ref (.ptr 4 0), .ref (.ptr 5 0), .ref (.ptr 6 0)])]) { toList := [16] } (rfAsg (sub Tryz.f159 0)) (rfBody (sub Tryz.f159 0))] 3 (.ref (.ptr 1 (0 + Int.toNat (↑n : Int) * 1))) (evalD Γ0 (mkT 63 0 [(6, .ref (.ptr 1 0)), (7, .ref (.ptr 2 0)), (8, .ref (.ptr 3 0)), (11, int (↑n : Int)), (46, int (↑n : Int)), (47, bool (decide ((↑n : Int) < 1024))), (48, int (↑n : Int)), (49, int (↑n : Int)), (50, .ref (.ptr 1 (0 + Int.toNat (↑n : Int) * 1)))]) (Operand.const (Value.int IntKind.i64 (-1)))) = Option.some [.var [int kk, int ks, int ko], .var (List.flatten (intC (List.set rs n (-1)))), .var (List.flatten (bestC best)), .var (List.flatten (boolC some)), .var [rD fs], .var [int kk, int ks, int ko], .var [int known], .defd, .loop LoopState.exhausted none 0 (mkT 63 0 [(6, .ref (.ptr 1 0)), (7, .ref (.ptr 2 0)), (8, .ref (.ptr 3 0)), (15, D.fn (Fn.func 178) [] [.ref (.ptr 4 0), .ref (.ptr 5 0), .ref (.ptr 6 0)])]) { toList := [16] } (rfAsg (sub Tryz.f159 0)) (rfBody (sub Tryz.f159 0))] from ?_) (.c hn (.c (show loadD Tryz.prog [.var [int kk, int ks, int ko], .var (List.flatten (intC (List.set rs n (-1)))), .var (List.flatten (bestC best)), .var (List.flatten (boolC some)), .var [rD fs], .var [int kk, int ks, int ko], .var [int known], .defd, .loop LoopState.exhausted none 0 (mkT 63 0 [(6, .ref (.ptr 1 0)), (7, .ref (.ptr 2 0)), (8, .ref (.ptr 3 0)), (15, D.fn (Fn.func 178) [] [.ref (.ptr 4 0), .ref (.ptr 5 0), .ref (.ptr 6 0)])]) { toList := [16] } (rfAsg (sub Tryz.f159 0)) (rfBody (sub Tryz.f159 0))] 4 (.ref (.ptr 3 (0 + Int.toNat (↑n : Int) * 1))) = Option.some (bool b) from ?_) (.c hc0 .n))))))) (by first | rfl | (simp only [hc0, cond_true, cond_false]; first | done | rfl)) (by first | rfl | (simp only [hc0, cond_true, cond_false]; first | done | rfl)) <;> (first | assumption | rfl | exact va_some rfl hs (by simp) | exact va_val rfl hb (by simp) | exact va_stI rfl hr (by simp) | exact va_stI rfl (by simpa using hr) (by simp) | (simp_all; done))
 ·refine CW.cast (CW.symX (s' := { t := mkT 63 0 [(6, .ref (.ptr 1 0)), (7, .ref (.ptr 2 0)), (8, .ref (.ptr 3 0)), (46, int (IntKind.wrap IntKind.i64 ((↑n : Int) + 1)))], h := [.var [int kk, int ks, int ko], .var (List.flatten (intC (List.set (List.set rs n (-1)) n (maxV g.value)))), .var (List.flatten (bestC best)), .var (List.flatten (boolC some)), .var [rD fs], .var [int kk, int ks, int ko], .var [int known], .defd, .loop LoopState.exhausted none 0 (mkT 63 0 [(6, .ref (.ptr 1 0)), (7, .ref (.ptr 2 0)), (8, .ref (.ptr 3 0)), (15, D.fn (Fn.func 178) [] [.ref (.ptr 4 0), .ref (.ptr 5 0), .ref (.ptr 6 0)])]) { toList := [16] } (rfAsg (sub Tryz.f159 0)) (rfBody (sub Tryz.f159 0))], m := [7] }) (e := Exit.normal) pok [.st (.mask [6, 7, 8, 46])] [.b true, .oh 10050 D.any (vaH kk ks ko known fs (List.flatten (intC (List.set rs n (-1)))) best some LoopState.exhausted []), .ov 53 (bool b), .b true, .ov 58 (int g.value), .oh 10060 D.any (vaH kk ks ko known fs (List.flatten (intC (List.set (List.set rs n (-1)) n (maxV g.value)))) best some LoopState.exhausted [])] (by kernel_rfl) (.c hlt (.c hn (.c (show storeD Tryz.prog [.var [int kk, int ks, int ko], .var (List.flatten (intC rs)), .var (List.flatten (bestC best)), .var (List.flatten (boolC some)), .var [rD fs], .var [int kk, int ks, int ko], .var [int known], .defd, .loop LoopState.exhausted none 0 (mkT 63 0 [(6, .ref (.ptr 1 0)), (7, .ref (.ptr 2 0)), (8, .ref (.ptr 3 0)), (15, D.fn (Fn.func 178) [] [.ref (.ptr 4 0), .ref (.ptr 5 0), .ref (.ptr 6 0)])]) { toList := [16] } (rfAsg (sub Tryz.f159 0)) (rfBody (sub Tryz.f159 0))] 3 (.ref (.ptr 1 (0 + Int.toNat (↑n : Int) * 1))) (evalD Γ0 (mkT 63 0 [(6, .ref (.ptr 1 0)), (7, .ref (.ptr 2 0)), (8, .ref (.ptr 3 0)), (11, int (↑n : Int)), (46, int (↑n : Int)), (47, bool (decide ((↑n : Int) < 1024))), (48, int (↑n : Int)), (49, int (↑n : Int)), (50, .ref (.ptr 1 (0 + Int.toNat (↑n : Int) * 1)))]) (Operand.const (Value.int IntKind.i64 (-1)))) = Option.some [.var [int kk, int ks, int ko], .var (List.flatten (intC (List.set rs n (-1)))), .var (List.flatten (bestC best)), .var (List.flatten (boolC some)), .var [rD fs], .var [int kk, int ks, int ko], .var [int known], .defd, .loop LoopState.exhausted none 0 (mkT 63 0 [(6, .ref (.ptr 1 0)), (7, .ref (.ptr 2 0)), (8, .ref (.ptr 3 0)), (15, D.fn (Fn.func 178) [] [.ref (.ptr 4 0), .ref (.ptr 5 0), .ref (.ptr 6 0)])]) { toList := [16] } (rfAsg (sub Tryz.f159 0)) (rfBody (sub Tryz.f159 0))] from ?_) (.c hn (.c (show loadD Tryz.prog [.var [int kk, int ks, int ko], .var (List.flatten (intC (List.set rs n (-1)))), .var (List.flatten (bestC best)), .var (List.flatten (boolC some)), .var [rD fs], .var [int kk, int ks, int ko], .var [int known], .defd, .loop LoopState.exhausted none 0 (mkT 63 0 [(6, .ref (.ptr 1 0)), (7, .ref (.ptr 2 0)), (8, .ref (.ptr 3 0)), (15, D.fn (Fn.func 178) [] [.ref (.ptr 4 0), .ref (.ptr 5 0), .ref (.ptr 6 0)])]) { toList := [16] } (rfAsg (sub Tryz.f159 0)) (rfBody (sub Tryz.f159 0))] 4 (.ref (.ptr 3 (0 + Int.toNat (↑n : Int) * 1))) = Option.some (bool b) from ?_) (.c hc0 (.c hn (.c (show loadD Tryz.prog [.var [int kk, int ks, int ko], .var (List.flatten (intC (List.set rs n (-1)))), .var (List.flatten (bestC best)), .var (List.flatten (boolC some)), .var [rD fs], .var [int kk, int ks, int ko], .var [int known], .defd, .loop LoopState.exhausted none 0 (mkT 63 0 [(6, .ref (.ptr 1 0)), (7, .ref (.ptr 2 0)), (8, .ref (.ptr 3 0)), (15, D.fn (Fn.func 178) [] [.ref (.ptr 4 0), .ref (.ptr 5 0), .ref (.ptr 6 0)])]) { toList := [16] } (rfAsg (sub Tryz.f159 0)) (rfBody (sub Tryz.f159 0))] 3 (.ref (.ptr 2 (0 + Int.toNat (↑n : Int) * 8 + 3))) = Option.some (int g.value) from ?_) (.c hn (.c (show storeD Tryz.prog [.var [int kk, int ks, int ko], .var (List.flatten (intC (List.set rs n (-1)))), .var (List.flatten (bestC best)), .var (List.flatten (boolC some)), .var [rD fs], .var [int kk, int ks, int ko], .var [int known], .defd, .loop LoopState.exhausted none 0 (mkT 63 0 [(6, .ref (.ptr 1 0)), (7, .ref (.ptr 2 0)), (8, .ref (.ptr 3 0)), (15, D.fn (Fn.func 178) [] [.ref (.ptr 4 0), .ref (.ptr 5 0), .ref (.ptr 6 0)])]) { toList := [16] } (rfAsg (sub Tryz.f159 0)) (rfBody (sub Tryz.f159 0))] 3 (.ref (.ptr 1 (0 + Int.toNat (↑n : Int) * 1))) (int (if true = true then if -1 > g.value then -1 else g.value else if -1 < g.value then -1 else g.value)) = Option.some [.var [int kk, int ks, int ko], .var (List.flatten (intC (List.set (List.set rs n (-1)) n (maxV g.value)))), .var (List.flatten (bestC best)), .var (List.flatten (boolC some)), .var [rD fs], .var [int kk, int ks, int ko], .var [int known], .defd, .loop LoopState.exhausted none 0 (mkT 63 0 [(6, .ref (.ptr 1 0)), (7, .ref (.ptr 2 0)), (8, .ref (.ptr 3 0)), (15, D.fn (Fn.func 178) [] [.ref (.ptr 4 0), .ref (.ptr 5 0), .ref (.ptr 6 0)])]) { toList := [16] } (rfAsg (sub Tryz.f159 0)) (rfBody (sub Tryz.f159 0))] from ?_) .n))))))))))) (by first | rfl | (simp only [hc0, cond_true, cond_false]; first | done | rfl)) (by first | rfl | (simp only [hc0, cond_true, cond_false]; first | done | rfl)) <;> (first | assumption | rfl | exact va_some rfl hs (by simp) | exact va_val rfl hb (by simp) | exact va_stI rfl hr (by simp) | exact va_stI rfl (by simpa using hr) (by simp) | (simp_all; done))
theorem vl_last {kk ks ko known : Int} {fs : List (List Dp)} {rs : List Int} {best : List FactT} {some : List Bool} : (CW Tryz.prog Γ0 [] false (sub Tryz.f159 2) (vlS kk ks ko known fs rs best some 1024) (.exit 4) { t := mkT 63 0 [(6, .ref (.ptr 1 0))], h := vaH kk ks ko known fs (intC rs).flatten best some .exhausted [], m := [7] }) := by
 exact CW.cast (CW.symX (s' := { t := mkT 63 0 [(6, .ref (.ptr 1 0))], h := [.var [int kk, int ks, int ko], .var (List.flatten (intC rs)), .var (List.flatten (bestC best)), .var (List.flatten (boolC some)), .var [rD fs], .var [int kk, int ks, int ko], .var [int known], .defd, .loop LoopState.exhausted none 0 (mkT 63 0 [(6, .ref (.ptr 1 0)), (7, .ref (.ptr 2 0)), (8, .ref (.ptr 3 0)), (15, D.fn (Fn.func 178) [] [.ref (.ptr 4 0), .ref (.ptr 5 0), .ref (.ptr 6 0)])]) { toList := [16] } (rfAsg (sub Tryz.f159 0)) (rfBody (sub Tryz.f159 0))], m := [7] }) (e := Exit.exit 4) pok [.st (.mask [6])] [.b false] (by kernel_rfl) (.c (show decide (1024 < 1024) = false from rfl) .n)) (by rfl) (by rfl)
def vlStep (s : VS) (rs : List Int) (n : Nat) : List Int := bif s.2.getD n false then (rs.set n (-1)).set n (maxV (s.1.getD n default).value) else rs.set n (-1)
def vlAll (s : VS) (rs : List Int) : List Int := (List.range 1024).foldl (vlStep s) rs
theorem vl_cw {kk ks ko known : Int} {fs : List (List Dp)} {rs : List Int} {best : List FactT} {some : List Bool} (ho : VS.ok (best, some)) (hr : rs.length = 1024) :
  CW Tryz.prog Γ0 [] false (.loop (sub Tryz.f159 2)) (vlS kk ks ko known fs rs best some 0) (.exit 4) { t := mkT 63 0 [(6, .ref (.ptr 1 0))], h := vaH kk ks ko known fs (intC (vlAll (best, some) rs)).flatten best some .exhausted [], m := [7] } := by
 have := CW.each (P := Tryz.prog) (Γ := Γ0) (h0 := []) (rd := false) (c := sub Tryz.f159 2) (σ := List Int) (ρ := Empty) (List.range 1024) (fun n rs => .inl (vlStep (best, some) rs n))
  (fun i rs => vlS kk ks ko known fs rs best some (i : Int)) (.exit 4) (fun rs => { t := mkT 63 0 [(6, .ref (.ptr 1 0))], h := vaH kk ks ko known fs (intC rs).flatten best some .exhausted [], m := [7] }) (fun r => r.elim)
  (fun _ rs => rs.length = 1024) (by simp) (fun r => r.elim) ?_ ?_ rs hr
 ·rw [forL_fold (fun rs n => vlStep (best, some) rs n)] at this
  exact this
 ·intro i n rs hn hs
  obtain ⟨hi, he⟩ := List.getElem?_eq_some_iff.1 hn
  simp only [List.length_range] at hi
  simp only [List.getElem_range] at he
  subst he
  have hb : best[i]? = .some (best.getD i default) := by
   rw [List.getD, List.getElem?_eq_getElem (by rw [ho.1]; omega)]; rfl
  have hc : some[i]? = .some (some.getD i false) := by
   rw [List.getD, List.getElem?_eq_getElem (by rw [ho.2]; omega)]; rfl
  refine ⟨fun s' h => by cases h; unfold vlStep; cases some.getD i false <;> simp [hs], ?_⟩
  have key := vl_b (kk := kk) (ks := ks) (ko := ko) (known := known) (fs := fs) (rs := rs) hb hc (by simp [inR]; omega) (by omega) (by simp; omega)
  rw [wrap_i64 (by omega) (by omega)] at key
  simp only [bodyFin]
  unfold vlStep
  cases hq : some.getD i false <;> rw [hq] at key <;> exact key
 ·intro rs _
  simp only [List.length_range]
  exact vl_last
end Go.Vi
open Go Go.Proofs
namespace Go.Vi
set_option maxRecDepth 100000
set_option maxHeartbeats 4000000
theorem all_int {h : List Blk} {l : List Int} (hb : h[1]? = some (.var (intC l).flatten)) (hl : l.length = 1024) : loadD Tryz.prog h 215 (.ref (.ptr 1 0)) = some (.agg (intC l).flatten) :=
 load_all (by kernel_rfl) (by rw [flat_len (sz := 1) (intC l) (fun r hr => by obtain ⟨_, _, rfl⟩ := List.mem_map.1 hr; rfl)]; simp only [intC, List.length_map, hl]; kernel_rfl) hb
theorem agg_cells {l : List Int} : (D.agg (intC l).flatten).cells = some (intC l).flatten := by
 have : (intC l).flatten.all D.one = true := by
  rw [List.all_eq_true]
  intro d hd
  obtain ⟨r, hr, hd⟩ := List.mem_flatten.1 hd
  obtain ⟨n, _, rfl⟩ := List.mem_map.1 hr
  simp only [List.mem_singleton] at hd
  subst hd; rfl
 simp only [D.cells, this, if_true]
theorem st_int {h : List Blk} {l : List Int} (hb : h[1]? = some (.var (intC l).flatten)) (hl : l.length = 1024) : storeD Tryz.prog h 215 (.ref (.ptr 1 0)) (.agg (intC l).flatten) = some (h.set 1 (.var (intC l).flatten)) :=
 store_all agg_cells (by rw [flat_len (sz := 1) (intC l) (fun r hr => by obtain ⟨_, _, rfl⟩ := List.mem_map.1 hr; rfl)]; simp only [intC, List.length_map, hl]; kernel_rfl) rfl hb
theorem vlAll_len {s : VS} {rs : List Int} (h : rs.length = 1024) : (vlAll s rs).length = 1024 := by
 unfold vlAll
 generalize List.range 1024 = l
 induction l generalizing rs with
 | nil => exact h
 | cons n l ih => exact ih (by unfold vlStep; cases s.2.getD n false <;> simp [h])
noncomputable abbrev vaE (kk ks ko known : Int) (l : List FactT) (rs : List Int) (s : VS) : List Blk := vaH kk ks ko known (l.map FactT.row) (intC (vlAll (l.foldl (vaGo kk ks ko known) s) rs)).flatten (l.foldl (vaGo kk ks ko known) s).1 (l.foldl (vaGo kk ks ko known) s).2 .exhausted []
theorem va_whole {kk ks ko known : Int} {l : List FactT} (hl : Short l) {rs : List Int} {b0 : List FactT} {s0 : List Bool} (ho : VS.ok (b0, s0)) (hf : VS.ok (l.foldl (vaGo kk ks ko known) (b0, s0))) (hr : rs.length = 1024) (e1 : AllocIs Tryz.prog [.var [int kk, int ks, int ko]] 215 (.ref (.ptr 1 0)) [.var [int kk, int ks, int ko], .var (intC rs).flatten])
  (e2 : AllocIs Tryz.prog [.var [int kk, int ks, int ko], .var (intC rs).flatten] 243 (.ref (.ptr 2 0)) [.var [int kk, int ks, int ko], .var (intC rs).flatten, .var (bestC b0).flatten])
  (e3 : AllocIs Tryz.prog [.var [int kk, int ks, int ko], .var (intC rs).flatten, .var (bestC b0).flatten] 244 (.ref (.ptr 3 0)) [.var [int kk, int ks, int ko], .var (intC rs).flatten, .var (bestC b0).flatten, .var (boolC s0).flatten]) : (CW Tryz.prog Γ0 [] false (bodyC Tryz.f159) { t := mkT 63 0 [(0, rD (l.map FactT.row)), (1, .agg [int kk, int ks, int ko]), (2, int known)], h := [], m := [] } .ret { t := mkT 63 0 [(6, .ref (.ptr 1 0))], h := vaE kk ks ko known l rs (b0, s0), m := [7] }) := by
 have hl0 := (@va_rf_cw (kk) (ks) (ko) (known) (l) (hl) (rs) (b0) (s0) (ho))
 have hl1 := (@vl_cw (kk) (ks) (ko) (known) (List.map FactT.row l) (rs) ((List.foldl (vaGo kk ks ko known) (b0, s0) l).fst) ((List.foldl (vaGo kk ks ko known) (b0, s0) l).snd) (hf) (hr))
 refine CW.cast (CW.symX (s' := { t := mkT 63 0 [(6, .ref (.ptr 1 0))], h := [.var [int kk, int ks, int ko], .var (List.flatten (intC (vlAll (List.foldl (vaGo kk ks ko known) (b0, s0) l) rs))), .var (List.flatten (bestC (List.foldl (vaGo kk ks ko known) (b0, s0) l).fst)), .var (List.flatten (boolC (List.foldl (vaGo kk ks ko known) (b0, s0) l).snd)), .var [rD (List.map FactT.row l)], .var [int kk, int ks, int ko], .var [int known], .defd, .loop LoopState.exhausted none 0 (mkT 63 0 [(6, .ref (.ptr 1 0)), (7, .ref (.ptr 2 0)), (8, .ref (.ptr 3 0)), (15, D.fn (Fn.func 178) [] [.ref (.ptr 4 0), .ref (.ptr 5 0), .ref (.ptr 6 0)])]) { toList := [16] } (rfAsg (sub Tryz.f159 0)) (rfBody (sub Tryz.f159 0))], m := [7] }) (e := Exit.ret) pok [.st (.mask [6])] [.oh 6 (.ref (.ptr 1 0)) [.var [int kk, int ks, int ko], .var (List.flatten (intC rs))], .oh 7 (.ref (.ptr 2 0)) [.var [int kk, int ks, int ko], .var (List.flatten (intC rs)), .var (List.flatten (bestC b0))], .oh 8 (.ref (.ptr 3 0)) [.var [int kk, int ks, int ko], .var (List.flatten (intC rs)), .var (List.flatten (bestC b0)), .var (List.flatten (boolC s0))], .inl, .sum [6, 7, 8, 15] (Exit.normal) { t := mkT 63 0 [(6, .ref (.ptr 1 0)), (7, .ref (.ptr 2 0)), (8, .ref (.ptr 3 0)), (15, D.fn (Fn.func 178) [] [.ref (.ptr 4 0), .ref (.ptr 5 0), .ref (.ptr 6 0)])], h := [.var [int kk, int ks, int ko], .var (List.flatten (intC rs)), .var (List.flatten (bestC (List.foldl (vaGo kk ks ko known) (b0, s0) l).fst)), .var (List.flatten (boolC (List.foldl (vaGo kk ks ko known) (b0, s0) l).snd)), .var [rD (List.map FactT.row l)], .var [int kk, int ks, int ko], .var [int known], .defd, .loop LoopState.exhausted none 0 (mkT 63 0 [(6, .ref (.ptr 1 0)), (7, .ref (.ptr 2 0)), (8, .ref (.ptr 3 0)), (15, D.fn (Fn.func 178) [] [.ref (.ptr 4 0), .ref (.ptr 5 0), .ref (.ptr 6 0)])]) { toList := [16] } (rfAsg (sub Tryz.f159 0)) (rfBody (sub Tryz.f159 0))], m := [7] }, .sum [6, 7, 8, 46] (Exit.exit 4) { t := mkT 63 0 [(6, .ref (.ptr 1 0))], h := [.var [int kk, int ks, int ko], .var (List.flatten (intC (vlAll ((List.foldl (vaGo kk ks ko known) (b0, s0) l).fst, (List.foldl (vaGo kk ks ko known) (b0, s0) l).snd) rs))), .var (List.flatten (bestC (List.foldl (vaGo kk ks ko known) (b0, s0) l).fst)), .var (List.flatten (boolC (List.foldl (vaGo kk ks ko known) (b0, s0) l).snd)), .var [rD (List.map FactT.row l)], .var [int kk, int ks, int ko], .var [int known], .defd, .loop LoopState.exhausted none 0 (mkT 63 0 [(6, .ref (.ptr 1 0)), (7, .ref (.ptr 2 0)), (8, .ref (.ptr 3 0)), (15, D.fn (Fn.func 178) [] [.ref (.ptr 4 0), .ref (.ptr 5 0), .ref (.ptr 6 0)])]) { toList := [16] } (rfAsg (sub Tryz.f159 0)) (rfBody (sub Tryz.f159 0))], m := [7] }, .ov 62 (D.agg (List.flatten (intC (vlAll (List.foldl (vaGo kk ks ko known) (b0, s0) l) rs)))), .oh 10006 D.any (vaE kk ks ko known l rs (b0, s0))] (by kernel_rfl) (.c (show AllocIs Tryz.prog [.var [int kk, int ks, int ko]] 215 (.ref (.ptr 1 0)) [.var [int kk, int ks, int ko], .var (List.flatten (intC rs))] from ?_) (.c (show AllocIs Tryz.prog [.var [int kk, int ks, int ko], .var (List.flatten (intC rs))] 243 (.ref (.ptr 2 0)) [.var [int kk, int ks, int ko], .var (List.flatten (intC rs)), .var (List.flatten (bestC b0))] from ?_) (.c (show AllocIs Tryz.prog [.var [int kk, int ks, int ko], .var (List.flatten (intC rs)), .var (List.flatten (bestC b0))] 244 (.ref (.ptr 3 0)) [.var [int kk, int ks, int ko], .var (List.flatten (intC rs)), .var (List.flatten (bestC b0)), .var (List.flatten (boolC s0))] from ?_) (.c hl0 (.c hl1 (.c (show loadD Tryz.prog [.var [int kk, int ks, int ko], .var (List.flatten (intC (vlAll ((List.foldl (vaGo kk ks ko known) (b0, s0) l).fst, (List.foldl (vaGo kk ks ko known) (b0, s0) l).snd) rs))), .var (List.flatten (bestC (List.foldl (vaGo kk ks ko known) (b0, s0) l).fst)), .var (List.flatten (boolC (List.foldl (vaGo kk ks ko known) (b0, s0) l).snd)), .var [rD (List.map FactT.row l)], .var [int kk, int ks, int ko], .var [int known], .defd, .loop LoopState.exhausted none 0 (mkT 63 0 [(6, .ref (.ptr 1 0)), (7, .ref (.ptr 2 0)), (8, .ref (.ptr 3 0)), (15, D.fn (Fn.func 178) [] [.ref (.ptr 4 0), .ref (.ptr 5 0), .ref (.ptr 6 0)])]) { toList := [16] } (rfAsg (sub Tryz.f159 0)) (rfBody (sub Tryz.f159 0))] 215 (.ref (.ptr 1 0)) = some (D.agg (List.flatten (intC (vlAll (List.foldl (vaGo kk ks ko known) (b0, s0) l) rs)))) from ?_) (.c (show storeD Tryz.prog [.var [int kk, int ks, int ko], .var (List.flatten (intC (vlAll ((List.foldl (vaGo kk ks ko known) (b0, s0) l).fst, (List.foldl (vaGo kk ks ko known) (b0, s0) l).snd) rs))), .var (List.flatten (bestC (List.foldl (vaGo kk ks ko known) (b0, s0) l).fst)), .var (List.flatten (boolC (List.foldl (vaGo kk ks ko known) (b0, s0) l).snd)), .var [rD (List.map FactT.row l)], .var [int kk, int ks, int ko], .var [int known], .defd, .loop LoopState.exhausted none 0 (mkT 63 0 [(6, .ref (.ptr 1 0)), (7, .ref (.ptr 2 0)), (8, .ref (.ptr 3 0)), (15, D.fn (Fn.func 178) [] [.ref (.ptr 4 0), .ref (.ptr 5 0), .ref (.ptr 6 0)])]) { toList := [16] } (rfAsg (sub Tryz.f159 0)) (rfBody (sub Tryz.f159 0))] 215 (.ref (.ptr 1 0)) (D.agg (List.flatten (intC (vlAll (List.foldl (vaGo kk ks ko known) (b0, s0) l) rs)))) = some [.var [int kk, int ks, int ko], .var (List.flatten (intC (vlAll (List.foldl (vaGo kk ks ko known) (b0, s0) l) rs))), .var (List.flatten (bestC (List.foldl (vaGo kk ks ko known) (b0, s0) l).fst)), .var (List.flatten (boolC (List.foldl (vaGo kk ks ko known) (b0, s0) l).snd)), .var [rD (List.map FactT.row l)], .var [int kk, int ks, int ko], .var [int known], .defd, .loop LoopState.exhausted none 0 (mkT 63 0 [(6, .ref (.ptr 1 0)), (7, .ref (.ptr 2 0)), (8, .ref (.ptr 3 0)), (15, D.fn (Fn.func 178) [] [.ref (.ptr 4 0), .ref (.ptr 5 0), .ref (.ptr 6 0)])]) { toList := [16] } (rfAsg (sub Tryz.f159 0)) (rfBody (sub Tryz.f159 0))] from ?_) .n)))))))) (by rfl) (by rfl) <;> (first | assumption | exact all_int rfl (vlAll_len hr) | exact st_int rfl (vlAll_len hr) | (simp_all; done))
theorem inn_agg {n : Nat} {l : List Int} : D.inn n (.agg (intC l).flatten) = true := inn_int (n := n) (l := l)
def vZ : VS := (List.replicate 1024 fz, List.replicate 1024 false)
theorem vZ_ok : vZ.ok := ⟨by simp [vZ], by simp [vZ]⟩
theorem vaFold_ok {kk ks ko known : Int} {l : List FactT} {s : VS} (h : s.ok) : (l.foldl (vaGo kk ks ko known) s).ok := by
 induction l generalizing s with
 | nil => exact h
 | cons f l ih => exact ih (vaGo_ok f h)
def valuesR (kk ks ko known : Int) (l : List FactT) : List Int := vlAll (l.foldl (vaGo kk ks ko known) vZ) (List.replicate 1024 0)
theorem valuesR_len {kk ks ko known : Int} {l : List FactT} : (valuesR kk ks ko known l).length = 1024 := vlAll_len (by simp)
theorem values_a {kk ks ko known : Int} {l : List FactT} (hl : Short l) : Ev Tryz.prog Γ0 159 [rD (l.map FactT.row), .agg [int kk, int ks, int ko], int known] [] (.agg (intC (valuesR kk ks ko known l)).flatten) (shut [7] (vaE kk ks ko known l (List.replicate 1024 0) vZ)) := by
 have hw := va_whole (kk := kk) (ks := ks) (ko := ko) (known := known) hl (rs := List.replicate 1024 0) (b0 := vZ.1) (s0 := vZ.2) vZ_ok (vaFold_ok vZ_ok) (by simp) (by unfold AllocIs; kernel_rfl) (by unfold AllocIs vZ; kernel_rfl) (by unfold AllocIs vZ; kernel_rfl)
 refine Ev.of_cw (fn := Tryz.f159) (by kernel_rfl) (by kernel_rfl) hw ?_
 have hc : loadD Tryz.prog (shut [7] (vaE kk ks ko known l (List.replicate 1024 0) vZ)) 215 (.ref (.ptr 1 0)) = some (.agg (intC (valuesR kk ks ko known l)).flatten) := all_int rfl valuesR_len
 have hr : resultsD Tryz.prog (mkT 63 0 [(6, .ref (.ptr 1 0))]) (shut [7] (vaE kk ks ko known l (List.replicate 1024 0) vZ)) Tryz.f159.results.toList = some [.agg (intC (valuesR kk ks ko known l)).flatten] := by
  show (match resultD Tryz.prog (mkT 63 0 [(6, .ref (.ptr 1 0))]) (shut [7] (vaE kk ks ko known l (List.replicate 1024 0) vZ)) (.cell 6 215), some [] with
   | some d, some ds => some (d :: ds)
   | _, _ => none) = _
  have : resultD Tryz.prog (mkT 63 0 [(6, .ref (.ptr 1 0))]) (shut [7] (vaE kk ks ko known l (List.replicate 1024 0) vZ)) (.cell 6 215) = some (.agg (intC (valuesR kk ks ko known l)).flatten) := hc
  rw [this]
 simp only [finF, pre]
 rw [hr]
 rfl
theorem values_ev {kk ks ko known : Int} {l : List FactT} (hl : Short l) (h : List Blk) : Ev Tryz.prog Γ0 159 [rD (l.map FactT.row), .agg [int kk, int ks, int ko], int known] h (.agg (intC (valuesR kk ks ko known l)).flatten) h :=
 Ev.frame0 rfl (by have := Ev.trim (h := []) (d := .agg (intC (valuesR kk ks ko known l)).flatten) inn_agg rfl (values_a (kk := kk) (ks := ks) (ko := ko) (known := known) hl); simpa using this) h
end Go.Vi
open Go Go.Proofs
namespace Go.Vi
set_option maxRecDepth 100000
set_option maxHeartbeats 4000000
abbrev vecR (rs : List (List Dp)) : List (List D) := rs.map (List.map D.p)
theorem vecR_map (rs : List (List Dp)) (f : Ref → D) : (vecR rs).map (D.mapRL f) = vecR rs := mapRL_rows f rs
theorem innL_p (k : Nat) : ∀ r : List Dp, D.innL k (r.map .p) = true
 | [] => rfl
 | _ :: r => by simp [D.innL, D.inn, innL_p k r]
theorem vecR_inn (rs : List (List Dp)) (k : Nat) : (vecR rs).all (D.innL k) = true := by
 rw [List.all_eq_true]
 intro r hr
 obtain ⟨x, _, rfl⟩ := List.mem_map.1 hr
 exact innL_p k x
theorem st_int1 {h : List Blk} {l r : List Int} (hb : h[1]? = some (.var (intC r).flatten)) (hr : r.length = 1024) (hl : l.length = 1024) : storeD Tryz.prog h 215 (.ref (.ptr 1 0)) (.agg (intC l).flatten) = some (h.set 1 (.var (intC l).flatten)) :=
 store_all agg_cells (by rw [flat_len (sz := 1) (intC l) (fun r hr => by obtain ⟨_, _, rfl⟩ := List.mem_map.1 hr; rfl)]; simp only [intC, List.length_map, hl]; kernel_rfl)
  (by rw [flat_len (sz := 1) (intC l) (fun r hr => by obtain ⟨_, _, rfl⟩ := List.mem_map.1 hr; rfl), flat_len (sz := 1) (intC r) (fun r hr => by obtain ⟨_, _, rfl⟩ := List.mem_map.1 hr; rfl)]; simp [hl, hr]) hb
structure PtT where
 term : Int
 value : Int
 deriving Inhabited, DecidableEq
def PtT.row (p : PtT) : List Dp := [vi p.term, vi p.value]
theorem pt_load {h : List Blk} {off n : Nat} {l : List Int} {v : Int} (hb : h[1]? = some (.var (intC l).flatten)) (hs : l[n]? = some v) (ho : off = n * 1) : loadD Tryz.prog h 3 (.ref (.ptr 1 off)) = some (int v) := by
 subst ho
 exact load_arr1 (sz := 1) (j := 0) (row := [int v]) (by kernel_rfl) (by kernel_rfl) hb (fun r hr => by obtain ⟨_, _, rfl⟩ := List.mem_map.1 hr; rfl) (by simp [hs]) rfl
noncomputable abbrev ptH (kk ks ko : Int) (rs : List Int) (l : List PtT) : List Blk := [.var [int kk, int ks, int ko], .var (intC rs).flatten, .vec (vecR (l.map PtT.row)) 0 2]
noncomputable abbrev ptS (kk ks ko to : Int) (rs : List Int) (l : List PtT) (x : Int) : AS := { t := mkT 38 0 [(3, int to), (10, .ref (.vec 2 0)), (11, .ref (.ptr 1 0)), (12, int x)], h := ptH kk ks ko rs l, m := [] }
theorem mapRL_int (f : Ref → D) (l : List Int) : D.mapRL f (intC l).flatten = (intC l).flatten := by
 induction l with
 | nil => rfl
 | cons n l ih => simp only [intC, List.map_cons, List.flatten_cons, List.cons_append, List.nil_append, D.mapRL, D.mapR] at ih ⊢; rw [ih]
theorem inn_intM {n : Nat} {l : List Int} {f : Ref → D} : Blk.inn n (.var (D.mapRL f (intC l).flatten)) = true := by rw [mapRL_int]; exact inn_int
theorem inn_vecR {n : Nat} {rs : List (List Dp)} {e sz : Nat} : Blk.inn n (.vec (vecR rs) e sz) = true := vecR_inn rs n
def ptF (v : Int) (n : Nat) (l : List PtT) : List PtT := bif decide (v ≥ 0) then l ++ [⟨(n : Int), v⟩] else l
theorem ptF_row (l : List PtT) (n : Nat) (v : Int) : vecR (l.map PtT.row) ++ [[int (n : Int), int v]] = vecR ((l ++ [PtT.mk (n : Int) v]).map PtT.row) := by simp [PtT.row]
theorem pt_b {kk ks ko to : Int} {rs : List Int} {l : List PtT} {n : Nat} {v : Int} (hv : rs[n]? = .some v) (hn : inR (n : Int) 1024 = true) (hl : l.length ≤ 2000) (hlt : decide ((n : Int) < if false = true then if 1024 > to then 1024 else to else if 1024 < to then 1024 else to) = true) (hw : IntKind.i64.wrap ((n : Int) + 1) = ((n + 1 : Nat) : Int)) : (CW Tryz.prog Γ0 [] false (sub Tryz.f111 0) (ptS kk ks ko to rs l (n : Int)) .normal (ptS kk ks ko to rs (ptF v n l) ((n + 1 : Nat) : Int))) := by
 cases hc0 : decide (v ≥ 0)
 ·refine CW.cast (CW.symX (s' := { t := mkT 38 0 [(3, int to), (10, .ref (.vec 2 0)), (11, .ref (.ptr 1 0)), (12, int (IntKind.wrap IntKind.i64 ((↑n : Int) + 1)))], h := [.var [int kk, int ks, int ko], .var (D.mapRL (renR 2 0 0) (List.flatten (intC rs))), .vec (vecR (List.map PtT.row l)) 0 2], m := [] }) (e := Exit.normal) pok [.st (.mask [3, 10, 11, 12]), .st (.ren 2 0), .st (.trimV 3)] [.b true, .ov 27 (int v), .b false] (by kernel_rfl) (.c hlt (.c hn (.c (show loadD Tryz.prog [.var [int kk, int ks, int ko], .var (List.flatten (intC rs)), .vec (vecR (List.map PtT.row l)) 0 2] 3 (.ref (.ptr 1 (0 + Int.toNat (↑n : Int) * 1))) = some (int v) from ?_) (.c hc0 (.c (show List.map (D.mapRL (renR 2 0 0)) (vecR (List.map PtT.row l)) = vecR (List.map PtT.row l) from ?_) (.c (show Blk.inn 3 (match 0 == 2 with | true => .vec (vecR (List.map PtT.row l)) 0 2 | false => keepX (renR 2 0 0) (.var [int kk, int ks, int ko])) = true from rfl) (.c (show Blk.inn 3 (match 0 + 1 == 2 with | true => .vec (vecR (List.map PtT.row l)) 0 2 | false => keepX (renR 2 0 0) (.var (List.flatten (intC rs)))) = true from ?_) (.c (show Blk.inn 3 (match 0 + 1 + 1 == 2 with | true => .vec (vecR (List.map PtT.row l)) 0 2 | false => keepX (renR 2 0 0) (.vec (vecR (List.map PtT.row l)) 0 2)) = true from ?_) .n))))))))) (by first | (simp only []; done) | (simp only [hw, ptF, hc0, cond_true, cond_false, ptF_row, mapRL_int]; first | done | rfl)) (by first | (simp only [hw, ptF, hc0, cond_false, mapRL_int]; done) | (simp only [hw, ptF, hc0, cond_true, cond_false, ptF_row, mapRL_int]; first | done | rfl)) <;> (first | assumption | rfl | exact pt_load rfl hv (by simp) | exact vecR_map _ _ | (rw [ptF_row]; exact vecR_map _ _) | exact inn_int | exact inn_intM | exact inn_vecR | (rw [ptF_row]; exact inn_vecR) | exact vecR_inn _ _ | (rw [ptF_row]; exact vecR_inn _ _) | (simp [rowOk, D.one, Value.oneCell', roomOk]; omega))
 ·refine CW.cast (CW.symX (s' := { t := mkT 38 0 [(3, int to), (10, .ref (.vec 2 0)), (11, .ref (.ptr 1 0)), (12, int (IntKind.wrap IntKind.i64 ((↑n : Int) + 1)))], h := [.var [int kk, int ks, int ko], .var (D.mapRL (renR 2 1 0) (List.flatten (intC rs))), .vec (vecR (List.map PtT.row l) ++ [[int (↑n : Int), int v]]) 0 2], m := [] }) (e := Exit.normal) pok [.st (.mask [3, 10, 11, 12]), .st (.ren 2 0), .st (.trimV 3)] [.b true, .ov 27 (int v), .b true, .ov 33 (int v)] (by kernel_rfl) (.c hlt (.c hn (.c (show loadD Tryz.prog [.var [int kk, int ks, int ko], .var (List.flatten (intC rs)), .vec (vecR (List.map PtT.row l)) 0 2] 3 (.ref (.ptr 1 (0 + Int.toNat (↑n : Int) * 1))) = some (int v) from ?_) (.c hc0 (.c hn (.c (show loadD Tryz.prog [.var [int kk, int ks, int ko], .var (List.flatten (intC rs)), .vec (vecR (List.map PtT.row l)) 0 2] 3 (.ref (.ptr 1 (0 + Int.toNat (↑n : Int) * 1))) = some (int v) from ?_) (.c (show (List.all [[int (↑n : Int), int v]] (rowOk 2) && roomOk (List.length (vecR (List.map PtT.row l)) + List.length [[int (↑n : Int), int v]]) 16) = true from ?_) (.c (show List.map (D.mapRL (renR 2 1 0)) (vecR (List.map PtT.row l) ++ [[int (↑n : Int), int v]]) = vecR (List.map PtT.row l) ++ [[int (↑n : Int), int v]] from ?_) (.c (show [[int (↑n : Int), int v]] = [[int (↑n : Int), int v]] from rfl) (.c (show Blk.inn 3 (match 0 == 2 with | true => .vec (vecR (List.map PtT.row l) ++ [[int (↑n : Int), int v]]) 0 2 | false => keepX (renR 2 1 0) (.var [int kk, int ks, int ko])) = true from rfl) (.c (show Blk.inn 3 (match 0 + 1 == 2 with | true => .vec (vecR (List.map PtT.row l) ++ [[int (↑n : Int), int v]]) 0 2 | false => keepX (renR 2 1 0) (.var (List.flatten (intC rs)))) = true from ?_) (.c (show Blk.inn 3 (match 0 + 1 + 1 == 2 with | true => .vec (vecR (List.map PtT.row l) ++ [[int (↑n : Int), int v]]) 0 2 | false => keepX (renR 2 1 0) (.vec (vecR (List.map PtT.row l) ++ [[int (↑n : Int), int v]]) 1 2)) = true from ?_) .n))))))))))))) (by first | (simp only []; done) | (simp only [hw, ptF, hc0, cond_true, cond_false, ptF_row, mapRL_int]; first | done | rfl)) (by first | (simp only [hw, ptF, hc0, cond_true, mapRL_int]; done) | (simp only [hw, ptF, hc0, cond_true, ptF_row, mapRL_int]; first | done | rfl)) <;> (first | assumption | rfl | exact pt_load rfl hv (by simp) | exact vecR_map _ _ | (rw [ptF_row]; exact vecR_map _ _) | exact inn_int | exact inn_intM | exact inn_vecR | (rw [ptF_row]; exact inn_vecR) | exact vecR_inn _ _ | (rw [ptF_row]; exact vecR_inn _ _) | (simp [rowOk, D.one, Value.oneCell', roomOk]; omega))
theorem pt_last {kk ks ko to : Int} {rs : List Int} {l : List PtT} {x : Int} (hlt : decide (x < if false = true then if 1024 > to then 1024 else to else if 1024 < to then 1024 else to) = false) : (CW Tryz.prog Γ0 [] false (sub Tryz.f111 0) (ptS kk ks ko to rs l x) (.exit 0) { t := mkT 38 0 [(10, .ref (.vec 2 0))], h := ptH kk ks ko rs l, m := [] }) := by
 exact CW.cast (CW.symX (s' := { t := mkT 38 0 [(10, .ref (.vec 2 0))], h := [.var [int kk, int ks, int ko], .var (List.flatten (intC rs)), .vec (vecR (List.map PtT.row l)) 0 2], m := [] }) (e := Exit.exit 0) pok [.st (.mask [10])] [.b false] (by kernel_rfl) (.c hlt .n)) (by rfl) (by rfl)
def ptHi (to : Int) : Int := if to < 1024 then to else 1024
theorem ptHi_eq (to : Int) : (if false = true then if 1024 > to then 1024 else to else if 1024 < to then 1024 else to) = ptHi to := by
 unfold ptHi; simp; split <;> split <;> omega
def ptIn (rs : List Int) (x to : Int) : List PtT := (List.range' x.toNat (ptHi to - x).toNat).foldl (fun l n => ptF (rs.getD n 0) n l) []
theorem ptF_len (v : Int) (n : Nat) (l : List PtT) : (ptF v n l).length ≤ l.length + 1 := by unfold ptF; cases decide (v ≥ 0) <;> simp
theorem pt_cw {kk ks ko to : Int} {rs : List Int} (hr : rs.length = 1024) {x : Int} (hx : 0 ≤ x) :
  CW Tryz.prog Γ0 [] false (.loop (sub Tryz.f111 0)) (ptS kk ks ko to rs [] x) (.exit 0) { t := mkT 38 0 [(10, .ref (.vec 2 0))], h := ptH kk ks ko rs (ptIn rs x to), m := [] } := by
 have hx' : ((x.toNat : Nat) : Int) = x := by omega
 have hh : ptHi to ≤ 1024 := by unfold ptHi; split <;> omega
 have := CW.each (P := Tryz.prog) (Γ := Γ0) (h0 := []) (rd := false) (c := sub Tryz.f111 0) (σ := List PtT) (ρ := Empty) (List.range' x.toNat (ptHi to - x).toNat) (fun n l => .inl (ptF (rs.getD n 0) n l))
  (fun i l => ptS kk ks ko to rs l (x + (i : Int))) (.exit 0) (fun l => { t := mkT 38 0 [(10, .ref (.vec 2 0))], h := ptH kk ks ko rs l, m := [] }) (fun r => r.elim)
  (fun i l => l.length ≤ i) (by simp) (fun r => r.elim) ?_ ?_ [] (by simp)
 ·rw [forL_fold (fun l n => ptF (rs.getD n 0) n l)] at this
  simpa [eachFin, ptIn] using this
 ·intro i n l hn hs
  obtain ⟨hi, he⟩ := List.getElem?_eq_some_iff.1 hn
  simp only [List.length_range'] at hi
  simp only [List.getElem_range', Nat.one_mul] at he
  have hlt : (n : Int) < ptHi to := by omega
  have hb : rs[n]? = some (rs.getD n 0) := by
   rw [List.getD, List.getElem?_eq_getElem (by rw [hr]; omega)]; rfl
  refine ⟨fun s' h => by cases h; have := ptF_len (rs.getD n 0) n l; omega, ?_⟩
  have key := pt_b (kk := kk) (ks := ks) (ko := ko) (to := to) (l := l) hb (by simp [inR]; omega) (by omega) (by rw [ptHi_eq]; simpa using hlt) (by rw [wrap_i64 (by omega) (by omega)]; omega)
  have e1 : x + (i : Int) = (n : Int) := by omega
  have e2 : x + ((i + 1 : Nat) : Int) = ((n + 1 : Nat) : Int) := by omega
  simp only [bodyFin, e1, e2]
  exact key
 ·intro l _
  refine pt_last ?_
  rw [ptHi_eq]
  simp
  omega
def ptLo (frm : Int) : Int := if true = true then if frm > 0 then frm else 0 else if frm < 0 then frm else 0
def pointsR (kk ks ko frm to known : Int) (l : List FactT) : List PtT := ptIn (valuesR kk ks ko known l) (ptLo frm) to
theorem ptLo_nn (frm : Int) : 0 ≤ (if true = true then if frm > 0 then frm else 0 else if frm < 0 then frm else 0) := by simp; split <;> omega
theorem points_a {kk ks ko frm to known : Int} {l : List FactT} (hl : Short l) {r0 : List Int} (e1 : AllocIs Tryz.prog [.var [int kk, int ks, int ko]] 215 (.ref (.ptr 1 0)) [.var [int kk, int ks, int ko], .var (intC r0).flatten]) (h0 : r0.length = 1024) (h : List Blk) : (Ev Tryz.prog Γ0 111 [rD (l.map FactT.row), .agg [int kk, int ks, int ko], int frm, int to, int known] h (rD ((pointsR kk ks ko frm to known l).map PtT.row)) h) := by
 have hl0 := (@pt_cw (kk) (ks) (ko) (to) (valuesR kk ks ko known l) (by first | assumption | rfl | exact valuesR_len | exact ptLo_nn _ | exact st_int1 rfl h0 valuesR_len | (simp; done)) (if true = true then if frm > 0 then frm else 0 else if frm < 0 then frm else 0) (by first | assumption | rfl | exact valuesR_len | exact ptLo_nn _ | exact st_int1 rfl h0 valuesR_len | (simp; done)))
 refine Ev.castH (Ev.sym0 (d := rD (List.map PtT.row (pointsR kk ks ko frm to known l))) pok [.val (D.agg (List.flatten (intC (valuesR kk ks ko known l)))), .oh 11 (.ref (.ptr 1 0)) [.var [int kk, int ks, int ko], .var (List.flatten (intC r0))], .oh 10011 D.any [.var [int kk, int ks, int ko], .var (List.flatten (intC (valuesR kk ks ko known l)))], .nx 1, .st (.nilT 10 2), .sum [3, 10, 11, 12] (Exit.exit 0) { t := mkT 38 0 [(10, .ref (.vec 2 0))], h := [.var [int kk, int ks, int ko], .var (List.flatten (intC (valuesR kk ks ko known l))), .vec (vecR (List.map PtT.row (ptIn (valuesR kk ks ko known l) (if true = true then if frm > 0 then frm else 0 else if frm < 0 then frm else 0) to))) 0 2], m := [] }, .st (.frz 2 (List.map PtT.row (pointsR kk ks ko frm to known l)))] (by kernel_rfl) (.c (@values_ev (kk) (ks) (ko) (known) (l) (hl) ([.var [int kk, int ks, int ko]])) (.c (show AllocIs Tryz.prog [.var [int kk, int ks, int ko]] 215 (.ref (.ptr 1 0)) [.var [int kk, int ks, int ko], .var (List.flatten (intC r0))] from ?_) (.c (show storeD Tryz.prog [.var [int kk, int ks, int ko], .var (List.flatten (intC r0))] 215 (.ref (.ptr 1 0)) (D.agg (List.flatten (intC (valuesR kk ks ko known l)))) = some [.var [int kk, int ks, int ko], .var (List.flatten (intC (valuesR kk ks ko known l)))] from ?_) (.c hl0 (.c (show vecR (List.map PtT.row (ptIn (valuesR kk ks ko known l) (if true = true then if frm > 0 then frm else 0 else if frm < 0 then frm else 0) to)) = List.map (fun x => List.map D.p x) (List.map PtT.row (pointsR kk ks ko frm to known l)) from ?_) .n))))) rfl rfl h) (by rfl) (by rfl) <;> (first | assumption | rfl | exact valuesR_len | exact ptLo_nn _ | exact st_int1 rfl h0 valuesR_len | (simp; done))
theorem points_ev {kk ks ko frm to known : Int} {l : List FactT} (hl : Short l) (h : List Blk) : Ev Tryz.prog Γ0 111 [rD (l.map FactT.row), .agg [int kk, int ks, int ko], int frm, int to, int known] h (rD ((pointsR kk ks ko frm to known l).map PtT.row)) h :=
 points_a hl (r0 := List.replicate 1024 0) (by unfold AllocIs; kernel_rfl) (by simp) h
end Go.Vi
open Go Go.Proofs Go.Shelf Go.RowKit Go.Sort
namespace Go.Vi
abbrev valsV {α : Type} (enc : α → List Value) (l : List α) : List (List D) := l.map fun x => (enc x).map lit
theorem relL_vlits {w : World} {av : Nat → Prop} {loc : Loc} {h : List Blk} : ∀ {vs ys : List Value}, RelL w av loc h (vs.map lit) ys → ys = vs
  | [], [], _ => rfl
  | [], _ :: _, r => by simp [RelL] at r
  | _ :: _, [], r => by simp [RelL] at r
  | v :: vs, y :: ys, r => by
    simp only [List.map_cons, RelL] at r
    have h1 : y = v := by simpa [Rel, RelP] using r.1
    rw [h1, relL_vlits r.2]
theorem relL_vlits' {w : World} {av : Nat → Prop} {loc : Loc} {h : List Blk} : ∀ {vs : List Value}, RelL w av loc h (vs.map lit) vs
  | [] => trivial
  | v :: vs => by
    simp only [List.map_cons, RelL]
    exact ⟨by simp [Rel, RelP], relL_vlits'⟩
theorem valsV_flat {α : Type} (enc : α → List Value) (l : List α) : (valsV enc l).flatten = ((l.map enc).flatten).map lit := by
  induction l with
  | nil => rfl
  | cons a l ih => simp only [valsV, List.map_cons, List.flatten_cons, List.map_append] at ih ⊢; rw [ih]
theorem flatK_list {α : Type} [Inhabited α] (enc : α → List Value) (k : Nat) (hk : ∀ x, (enc x).length = k) (l : List α) : (flatK enc k l.toArray).toList = (l.map enc).flatten := by
  have key : ∀ (l : List α) (t : Nat), t < l.length * k → ((l.map enc).flatten)[t]? = some ((enc (l.toArray[t / k]!))[t % k]!) := by
    intro l
    induction l with
    | nil => intro t h; simp at h
    | cons a l ih =>
      intro t h
      simp only [List.map_cons, List.flatten_cons]
      rcases Nat.lt_or_ge t k with hlt | hge
      · rw [List.getElem?_append_left (by rw [hk]; exact hlt), Nat.div_eq_of_lt hlt, Nat.mod_eq_of_lt hlt]
        have : t < (enc a).length := by rw [hk]; exact hlt
        simp [this]
      · have k0 : 0 < k := by rcases Nat.eq_zero_or_pos k with h0 | h0
                              · subst h0; simp at h
                              · exact h0
        rw [List.getElem?_append_right (by rw [hk]; exact hge), hk]
        obtain ⟨u, rfl⟩ : ∃ u, t = u + k := ⟨t - k, by omega⟩
        have hu : u < l.length * k := by simp only [List.length_cons, Nat.add_mul, Nat.one_mul] at h; omega
        rw [show u + k - k = u by omega, ih u hu, Nat.add_div_right _ k0, Nat.add_mod_right]
        simp
  apply List.ext_getElem?
  intro t
  have hlen : ((l.map enc).flatten).length = l.length * k := by
    clear key
    induction l with
    | nil => simp
    | cons a l ih => simp only [List.map_cons, List.flatten_cons, List.length_append, hk, ih, List.length_cons, Nat.add_mul, Nat.one_mul]; omega
  by_cases ht : t < l.length * k
  · rw [key l t ht]
    simp [flatK, ht]
  · rw [List.getElem?_eq_none (by simp [flatK]; omega), List.getElem?_eq_none (by omega)]
theorem world_grow {w w' : World} (h1 : w.heap.size ≤ w'.heap.size) (h2 : ∀ k, k < w.heap.size → w'.heap[k]? = w.heap[k]?) (h3 : w'.tape = w.tape ∧ w'.os = w.os ∧ w'.output = w.output ∧ w.drawn ≤ w'.drawn) :
    ∃ q os', w' = Sort.grow (w.drewN q) os' := by
  refine ⟨w'.drawn - w.drawn, w'.heap.extract w.heap.size w'.heap.size, ?_⟩
  obtain ⟨heap, tape, drawn, os, output⟩ := w
  obtain ⟨heap', tape', drawn', os', output'⟩ := w'
  obtain ⟨rfl, rfl, rfl, h4⟩ := h3
  simp only [Sort.grow, World.drewN] at h1 h2 h4 ⊢
  congr 1
  · apply Array.ext'
    rw [Array.toList_append, Array.toList_extract]
    apply List.ext_getElem?
    intro i
    by_cases hi : i < heap.size
    · rw [List.getElem?_append_left (by simpa using hi)]
      have := h2 i hi
      rw [← Array.getElem?_toList, ← Array.getElem?_toList] at this
      exact this
    · rw [List.getElem?_append_right (by simpa using Nat.le_of_not_lt hi)]
      simp only [List.extract_eq_take_drop, Array.length_toList]
      by_cases hj : i < heap'.size
      · rw [List.getElem?_take, if_pos (by omega), List.getElem?_drop]
        congr 1; omega
      · rw [List.getElem?_eq_none (by simpa using Nat.le_of_not_lt hj), List.getElem?_eq_none (by simp; omega)]
  · omega
theorem cmpLays_of {P : Program} {Γ : Glob} {O : Nat → Prop} {α : Type} [Inhabited α] {enc : α → List Value} {k g : Nat} {cf : α → α → Int} {w : World} {loc : Loc} {h : List Blk} (R : Rep Γ O w loc h) {blk : Nat} (hblk : avs O loc h blk)
    (hE : ∀ x y, Ev P Γ g [.agg ((enc x).map lit), .agg ((enc y).map lit)] [] (int (cf x y)) []) (size : Nat) : CmpLays P g #[] enc k cf blk 0 size w := by
  intro m os dk hs x y
  generalize hW : sortWorldK enc k w blk 0 m dk os = W
  have hb : blk < w.heap.size := by
    rcases hblk with ho | ho
    · exact R.obd blk ho
    · exact (R.inb blk ho).1
  have hcell : ∀ b off v, ¬ avs O loc h b → w.cell? ⟨b, off, none⟩ = some v → W.cell? ⟨b, off, none⟩ = some v ∧ ¬ avs (fun _ => False) loc [] b := by
    intro b off v hn hc
    have hne : b ≠ blk := fun e => hn (e ▸ hblk)
    refine ⟨?_, fun ho => ho.elim id (fun h => absurd h own_nil)⟩
    subst hW
    have hlt : b < w.heap.size := by
      simp only [World.cell?] at hc
      split at hc
      · rename_i hx; exact (Array.getElem?_eq_some_iff.1 hx).1
      · simp at hc
    have : (sortWorldK enc k w blk 0 m dk os).heap[b]? = w.heap[b]? := by
      unfold sortWorldK
      rw [Sort.heap_grow_old _ _ (by simpa [putRowK, Sort.putRow, Sort.mapBlock, Sort.ahead] using hlt)]
      simp [putRowK, Sort.putRow, Sort.mapBlock, Sort.ahead, Array.getElem?_modify, Ne.symm hne]
    simp only [World.cell?, this]
    exact hc
  have R0 : Rep Γ (fun _ => False) W loc [] := by
    refine ⟨fun blk ho => absurd ho own_nil, fun blk ho => ho.elim, fun b b' x x' k c c' hb => by simp at hb, fun b x hb => by simp at hb, fun g cs hg => ?_⟩
    exact RelCells.mono hcell g 0 cs (R.glo g cs hg)
  have ra : RelL W (avs (fun _ => False) loc []) loc [] [.agg ((enc x).map lit), .agg ((enc y).map lit)] [.agg (enc x).toArray, .agg (enc y).toArray] := by
    refine ⟨⟨_, rfl, relL_vlits'⟩, ⟨_, rfl, relL_vlits'⟩, trivial⟩
  refine Calls.mono (callsIn_wide.1 (hE x y (fun _ => False) W loc _ R0 ra)) ?_
  rintro e w' ⟨v, d2, h2, l', rfl, ⟨rfl, rfl⟩, R', E', rd⟩
  refine ⟨?_, world_grow E'.size (fun b hb => E'.same b hb own_nil) E'.tape⟩
  have : v = .int .i64 (cf x y) := by simpa [Rel, RelP] using rd
  rw [this]
theorem sortFunc_ev' {P : Program} {ρ : Ren} {Γ : Glob} (ok : POk P) (L : SlLaysF0.n6 P ρ) {α : Type} [Inhabited α] {enc : α → List Value} {k : Nat} (aE : ∀ w, (isAgg (ρ.t 24)).run P w = .ok true w) (zE : ∀ w, (Go.sizeOf (ρ.t 24)).run P w = .ok k w) (hk : ∀ x, (enc x).length = k) (h1 : ∀ x, ∀ v ∈ enc x, v.oneCell' = true)
    {cf : α → α → Int} (hO : Sort.SWO (ltOf cf)) {g : Nat} (hg : funOk P g = true) (hE : ∀ x y, Ev P Γ g [.agg ((enc x).map lit), .agg ((enc y).map lit)] [] (int (cf x y)) [])
    {h : List Blk} {b e : Nat} {l : List α} (hb : h[b]? = some (.vec (valsV enc l) e k)) (hl : l.length < 4611686018427387904) (hT : ∀ x ∈ l, ∀ y ∈ l, (ltOf cf) x y = false → (ltOf cf) y x = false → x = y) :
    Ev P Γ (ρ.f 6) [.ref (.vec b e), .p (.v (.func (.func g) #[] #[]))] h (.tup []) (h.set b (.vec (valsV enc (l.mergeSort fun x y => !(ltOf cf) y x)) e k)) := by
  intro O w loc vs R ra
  obtain ⟨y, rfl⟩ : ∃ y, vs = [y, .func (.func g) #[] #[]] := by
    match vs, ra with
    | [y, z], r => exact ⟨y, by have : z = .func (.func g) #[] #[] := by simpa [Rel, RelP, RelL] using r.2
                                rw [this]⟩
    | [], r => simp [RelL] at r
    | [_], r => simp [RelL] at r
    | _ :: _ :: _ :: _, r => simp [RelL] at r
  have r := ra.1
  simp only [Rel, RefRel, hb] at r
  have hv := r.2.2 trivial
  have B := R.blk b _ hb
  simp only [BlkOk] at B
  have hlen : (valsV enc l).length = l.length := by simp [valsV]
  refine callsIn_wide.2 ?_
  cases hlb : loc b with
  | none =>
    rw [hlb] at hv B
    obtain ⟨hn, rfl⟩ := hv
    have hl0 : l = [] := by simpa [valsV] using hn
    subst hl0
    refine Calls.mono (AnyF.slices_SortFunc_none L none 0 _ w) ?_
    rintro e' w' ⟨rfl, rfl⟩
    have hset : h.set b (.vec (valsV enc (([] : List α).mergeSort fun x y => !(ltOf cf) y x)) e k) = h := by
      apply List.ext_getElem?
      intro i
      by_cases hi : i = b
      · subst hi; rw [get_set_eq hb, hb]; simp
      · rw [get_set_ne _ _ hi]
    refine ⟨.tuple #[], .tup [], _, loc, rfl, ⟨rfl, rfl⟩, ?_, ?_, ?_⟩
    · rw [hset]; exact R
    · rw [hset]; exact Ext.refl _ _ _
    · simp [Rel, RelL]
  | some p =>
    obtain ⟨blk, cap⟩ := p
    rw [hlb] at hv B
    obtain ⟨rfl, hcap⟩ := hv
    simp only at B
    obtain ⟨c, T, fr, ys, hobj, hcs, hle, hfr, hsz, hrel, rest, hcl⟩ := B
    rw [valsV_flat] at hrel
    have hys := relL_vlits hrel
    subst hys
    have hblk : blk < w.heap.size := (Array.getElem?_eq_some_iff.1 hobj).1
    have hown : avs O loc h blk := .inr ⟨b, _, cap, hb, by simp, hlb⟩
    have hH : HoldsK enc k w blk 0 l.toArray := by
      intro j hj
      have hj' : j < l.length * k := by simpa using hj
      have hc : c[j]? = some (flatK enc k l.toArray)[j]! := by
        rw [← Array.getElem?_toList, hcl, ← flatK_list enc k hk l, List.getElem?_append_left (by simpa using hj')]
        rw [Array.getElem?_toList, getElem!_pos _ j (by simpa using hj')]
        exact Array.getElem?_eq_getElem _
      constructor
      · simp [World.cell?, hobj, hc]
      · have := hfr j (Array.getElem?_eq_some_iff.1 hc).1
        obtain ⟨lo, hi⟩ := fr
        simp only [World.frozen?, hobj, Nat.zero_add]
        rw [← Bool.not_eq_true]
        simpa using this
    have eg : ∀ args w, (callFunc g args).run P w = .ok (.enter g args) w := fun args w => by
      unfold funOk at hg
      split at hg
      · rename_i fn hfn; exact call_run ok hfn hg args w
      · simp at hg
    rw [hlen]
    refine Calls.mono (AnyQ.slices_SortFunc L k aE zE enc hk h1 cf hO g #[] blk 0 cap l.toArray w eg (cmpLays_of R hown hE _) hH hblk hl) ?_
    rintro e' w' ⟨rfl, d', n, os, hP, hS, rfl⟩
    have hd' : d'.toList = l.mergeSort fun x y => !(ltOf cf) y x := by
      obtain ⟨hsz', _, hperm⟩ := hP
      have e1 : d'.extract 0 l.toArray.size = d' := by rw [← hsz']; exact Array.extract_size
      rw [e1, Array.extract_size] at hperm
      refine List.Perm.eq_of_pairwise (le := fun x y => (!(ltOf cf) y x) = true) ?_ ?_ ?_ (hperm.trans (List.mergeSort_perm _ _).symm)
      · intro a b' ha hb' h1 h2
        simp only [Bool.not_eq_true'] at h1 h2
        have ha' : a ∈ l := by simpa using hperm.mem_iff.1 ha
        have hb2 : b' ∈ l := (List.mergeSort_perm _ _).mem_iff.1 hb'
        exact hT a ha' b' hb2 h2 h1
      · rw [List.pairwise_iff_getElem]
        intro i j hi hj hij
        have hi' : i < d'.size := by simpa using hi
        have hj' : j < d'.size := by simpa using hj
        have := hS i j (Nat.zero_le _) hij (by omega)
        rw [getElem!_pos d' j hj', getElem!_pos d' i hi'] at this
        simpa using this
      · exact List.pairwise_mergeSort (fun a b c h1 h2 => by
          simp only [Bool.not_eq_true'] at h1 h2 ⊢
          exact hO.ntrans _ _ _ h2 h1) (fun a b => by
          cases hab : (ltOf cf) b a
          · simp
          · have : (ltOf cf) a b = false := by
              cases hba : (ltOf cf) a b
              · rfl
              · have := hO.trans _ _ _ hab hba
                rw [hO.irrefl] at this; exact absurd this (by simp)
            simp [this]) l
    have hdA : d' = (l.mergeSort fun x y => !(ltOf cf) y x).toArray := by rw [← hd']
    have hlm : (l.mergeSort fun x y => !(ltOf cf) y x).length = l.length := by simp
    subst hdA
    clear hP hS hd'
    generalize (l.mergeSort fun x y => !(ltOf cf) y x) = m at hlm ⊢
    have hobj' : (sortWorldK enc k w blk 0 n m.toArray os).heap[blk]? = some (.cells (Sort.putCells id 0 (flatK enc k m.toArray) c) T fr) := by
      unfold sortWorldK
      rw [Sort.heap_grow_old _ _ (by simpa [putRowK, Sort.putRow, Sort.mapBlock, Sort.ahead] using hblk)]
      simp [putRowK, Sort.putRow, Sort.mapBlock, Sort.ahead, Array.getElem?_modify, hobj, Sort.onCells]
    have hfl : ((l.map enc).flatten).length = l.length * k := by rw [← flatK_list enc k hk]; simp
    have hcells : (Sort.putCells id 0 (flatK enc k m.toArray) c).toList = (m.map enc).flatten ++ rest := by
      unfold Sort.putCells
      rw [Array.toList_mapIdx, hcl, ← flatK_list enc k hk m]
      apply List.ext_getElem?
      intro i
      rw [List.getElem?_mapIdx]
      by_cases hi : i < l.length * k
      · rw [List.getElem?_append_left (by rw [hfl]; exact hi), List.getElem?_append_left (by simpa [hlm] using hi)]
        have hi2 : i < ((l.map enc).flatten).length := by rw [hfl]; exact hi
        have hi3 : i < (flatK enc k m.toArray).size := by simpa [hlm] using hi
        rw [List.getElem?_eq_getElem hi2, Array.getElem?_toList, Array.getElem?_eq_getElem hi3]
        simp only [Option.map_some, Nat.zero_add, Nat.zero_le, Nat.sub_zero, true_and, id_eq, if_pos hi3]
        rw [getElem!_pos _ i hi3]
      · rw [List.getElem?_append_right (by rw [hfl]; exact Nat.le_of_not_lt hi), List.getElem?_append_right (by simpa [hlm] using Nat.le_of_not_lt hi)]
        simp [hi, hlm, hfl]
    have key := R.step (w' := sortWorldK enc k w blk 0 n m.toArray os) (l' := loc) (h' := h.set b (.vec (valsV enc m) e k)) b (.vec (valsV enc m) e k)
      (by simp [sortWorldK, Sort.grow, putRowK, Sort.putRow, Sort.mapBlock, Sort.ahead]) ⟨rfl, rfl, rfl, by simp [sortWorldK, Sort.grow, putRowK, Sort.putRow, Sort.mapBlock, Sort.ahead]⟩ (fun i hi => get_set_ne _ _ hi) (get_set_eq hb) (fun _ _ => rfl)
      (fun z hz => by rw [hb] at hz; cases hz; exact ⟨⟨Nat.le_refl _, fun _ => by simp [valsV, hlm], rfl⟩, fun _ => rfl⟩)
      (fun k' hk' hno => by
        have hkb : k' ≠ blk := fun e => hno _ cap hb (by simp) (by rw [hlb, e])
        unfold sortWorldK
        rw [Sort.heap_grow_old _ _ (by simpa [putRowK, Sort.putRow, Sort.mapBlock, Sort.ahead] using hk')]
        simp [putRowK, Sort.putRow, Sort.mapBlock, Sort.ahead, Array.getElem?_modify, Ne.symm hkb])
      (fun k' c' hk' => .inl ⟨_, c', hb, by simp, hk'⟩)
      (fun E => by
        simp only [BlkOk, hlb]
        refine ⟨_, T, fr, (m.map enc).flatten, hobj', ?_, ?_, ?_, ?_, ?_, rest, hcells⟩
        · simpa [Sort.putCells] using hcs
        · simpa [valsV, hlm] using hle
        · simpa [Sort.putCells] using hfr
        · intro r hr
          obtain ⟨x, _, rfl⟩ := List.mem_map.1 hr
          simp [hk]
        · rw [valsV_flat]; exact relL_vlits')
    exact ⟨.tuple #[], .tup [], _, loc, rfl, ⟨rfl, rfl⟩, key.1, key.2, by simp [Rel, RelL]⟩
end Go.Vi
open Go Go.Proofs Go.Shelf
namespace Go.Proofs
def Tryz.sortAtt_ren : Go.Shelf.Ren := ⟨fun | 6 => 117 | 15 => 122 | 14 => 162 | 28 => 173 | 29 => 174 | 20 => 200 | 21 => 201 | 22 => 202 | 23 => 203 | 24 => 204 | 25 => 205 | 26 => 206 | 27 => 207 | 46 => 227 | 47 => 211 | 48 => 212 | 49 => 228 | 50 => 229 | 57 => 235 | n => n, fun | 22 => 45 | 24 => 52 | 25 => 144 | 3 => 3 | 39 => 192 | 0 => 0 | 53 => 233 | 55 => 169 | 4 => 4 | 46 => 227 | 45 => 226 | 50 => 150 | 5 => 5 | 9 => 9 | 66 => 251 | 70 => 255 | 76 => 265 | 77 => 266 | n => n, fun | n => n⟩
theorem Tryz.sortAtt : Go.Proofs.SlLaysF0.n6 Tryz.prog Tryz.sortAtt_ren := {
 mixed := by kernel_rfl
 f6 := ⟨Tryz.f117.name, by decide, Tryz.func117.trans (congrArg some (by kernel_rfl))⟩
 f14 := ⟨Tryz.f162.name, by decide, Tryz.func162.trans (congrArg some (by kernel_rfl))⟩
 f15 := Tryz.func122.trans (congrArg some (by kernel_rfl))
 f20 := ⟨Tryz.f200.name, by decide, Tryz.func200.trans (congrArg some (by kernel_rfl))⟩
 f21 := ⟨Tryz.f201.name, by decide, Tryz.func201.trans (congrArg some (by kernel_rfl))⟩
 f22 := ⟨Tryz.f202.name, by decide, Tryz.func202.trans (congrArg some (by kernel_rfl))⟩
 f23 := ⟨Tryz.f203.name, by decide, Tryz.func203.trans (congrArg some (by kernel_rfl))⟩
 f24 := ⟨Tryz.f204.name, by decide, Tryz.func204.trans (congrArg some (by kernel_rfl))⟩
 f25 := ⟨Tryz.f205.name, by decide, Tryz.func205.trans (congrArg some (by kernel_rfl))⟩
 f26 := ⟨Tryz.f206.name, by decide, Tryz.func206.trans (congrArg some (by kernel_rfl))⟩
 f27 := ⟨Tryz.f207.name, by decide, Tryz.func207.trans (congrArg some (by kernel_rfl))⟩
 f28 := Tryz.func173.trans (congrArg some (by kernel_rfl))
 f29 := Tryz.func174.trans (congrArg some (by kernel_rfl))
 f46 := ⟨Tryz.f227.name, by decide, Tryz.func227.trans (congrArg some (by kernel_rfl))⟩
 f47 := Tryz.func211.trans (congrArg some (by kernel_rfl))
 f48 := Tryz.func212.trans (congrArg some (by kernel_rfl))
 f49 := ⟨Tryz.f228.name, by decide, Tryz.func228.trans (congrArg some (by kernel_rfl))⟩
 f50 := ⟨Tryz.f229.name, by decide, Tryz.func229.trans (congrArg some (by kernel_rfl))⟩
 f57 := ⟨Tryz.f235.name, by decide, Tryz.func235.trans (congrArg some (by kernel_rfl))⟩
 t0 := Tryz.underlying0
 a0 := Tryz.isAgg0
 z0 := Tryz.sizeOf0
 v0 := Tryz.zeroValue0
 t3 := Tryz.underlying3
 a3 := Tryz.isAgg3
 z3 := Tryz.sizeOf3
 v3 := Tryz.zeroValue3
 t4 := Tryz.underlying4
 a4 := Tryz.isAgg4
 z4 := Tryz.sizeOf4
 v4 := Tryz.zeroValue4
 t5 := Tryz.underlying5
 a5 := Tryz.isAgg5
 z5 := Tryz.sizeOf5
 v5 := Tryz.zeroValue5
 t9 := Tryz.underlying9
 a9 := Tryz.isAgg9
 z9 := Tryz.sizeOf9
 v9 := Tryz.zeroValue9
 t22 := Tryz.underlying45
 a22 := Tryz.isAgg45
 z22 := Tryz.sizeOf45
 v22 := Tryz.zeroValue45
 t25 := Tryz.underlying144
 a25 := Tryz.isAgg144
 z25 := Tryz.sizeOf144
 v25 := Tryz.zeroValue144
 t39 := Tryz.underlying192
 a39 := Tryz.isAgg192
 z39 := Tryz.sizeOf192
 v39 := Tryz.zeroValue192
 t45 := Tryz.underlying226
 a45 := Tryz.isAgg226
 z45 := Tryz.sizeOf226
 v45 := Tryz.zeroValue226
 t46 := Tryz.underlying227
 a46 := Tryz.isAgg227
 z46 := Tryz.sizeOf227
 v46 := Tryz.zeroValue227
 t50 := Tryz.underlying150
 a50 := Tryz.isAgg150
 z50 := Tryz.sizeOf150
 v50 := Tryz.zeroValue150
 t53 := Tryz.underlying233
 a53 := Tryz.isAgg233
 z53 := Tryz.sizeOf233
 v53 := Tryz.zeroValue233
 t55 := Tryz.underlying169
 a55 := Tryz.isAgg169
 z55 := Tryz.sizeOf169
 v55 := Tryz.zeroValue169
 t66 := Tryz.underlying251
 a66 := Tryz.isAgg251
 z66 := Tryz.sizeOf251
 v66 := Tryz.zeroValue251
 t70 := Tryz.underlying255
 a70 := Tryz.isAgg255
 z70 := Tryz.sizeOf255
 v70 := Tryz.zeroValue255
 t76 := Tryz.underlying265
 a76 := Tryz.isAgg265
 z76 := Tryz.sizeOf265
 v76 := Tryz.zeroValue265
 t77 := Tryz.underlying266
 a77 := Tryz.isAgg266
 z77 := Tryz.sizeOf266
 v77 := Tryz.zeroValue266 }
end Go.Proofs
namespace Go.Vi
open Go.Sort
def ordA (a b : AttT) : Int := orI (cmpI a.term b.term) (cmpI a.course b.course)
def leA (a b : AttT) : Bool := !(ltOf ordA) b a
theorem ltA_iff (a b : AttT) : (ltOf ordA) a b = true ↔ a.term < b.term ∨ (a.term = b.term ∧ a.course < b.course) := by
 unfold ltOf ordA orI cmpI
 simp only [decide_eq_true_eq]
 repeat' split
 all_goals simp_all
 all_goals omega
theorem ltA_fls (a b : AttT) : (ltOf ordA) a b = false ↔ ¬ (a.term < b.term ∨ (a.term = b.term ∧ a.course < b.course)) := by
 rw [← ltA_iff, Bool.not_eq_true]
theorem swoA : SWO (ltOf ordA) where
 irrefl x := by rw [ltA_fls]; omega
 trans x y z h1 h2 := by rw [ltA_iff] at *; omega
 ntrans x y z h1 h2 := by rw [ltA_fls] at *; omega
def encA (a : AttT) : List Value := [.int .i64 a.course, .int .i64 a.term, .int .i64 a.grade, .int .i64 a.campus, .int .i64 a.credits]
abbrev attsV (l : List AttT) : List (List D) := l.map fun a => a.row.map .p
theorem sortAtt_ev {h : List Blk} {b e : Nat} {l : List AttT} (hb : h[b]? = some (.vec (attsV l) e 5)) (hl : l.length < 4611686018427387904) (hT : ∀ x ∈ l, ∀ y ∈ l, x.term = y.term → x.course = y.course → x = y) :
  Ev Tryz.prog Γ0 117 [.ref (.vec b e), .p (.v (.func (.func 79) #[] #[]))] h (.tup []) (h.set b (.vec (attsV (l.mergeSort leA)) e 5)) :=
 sortFunc_ev' (α := AttT) (enc := encA) (k := 5) (cf := ordA) pok Tryz.sortAtt Tryz.isAgg52 Tryz.sizeOf52 (fun _ => rfl) (fun x v hv => by simp [encA] at hv; rcases hv with rfl | rfl | rfl | rfl | rfl <;> rfl) swoA (by kernel_rfl) (fun x y => order_ev []) hb hl
  (fun x hx y hy h1 h2 => by
   rw [ltA_fls] at h1 h2
   exact hT x hx y hy (by omega) (by omega))
end Go.Vi
open Go Go.Proofs
namespace Go.Vi
set_option maxRecDepth 100000
set_option maxHeartbeats 4000000
structure ReadT where
 kind : Int
 sub : Int
 obj : Int
 frm : Int
 til : Int
 deriving Inhabited, DecidableEq
def ReadT.row (r : ReadT) : List Dp := [vi r.kind, vi r.sub, vi r.obj, vi r.frm, vi r.til]
abbrev rdR (l : List ReadT) : List (List Dp) := l.map ReadT.row
theorem rd_ok (l : List ReadT) : (vecR (rdR l)).all (rowOk 5) = true := by
 rw [List.all_eq_true]
 intro r hr
 obtain ⟨x, hx, rfl⟩ := List.mem_map.1 hr
 obtain ⟨y, _, rfl⟩ := List.mem_map.1 hx
 rfl
abbrev lkH (w : WorldT) (known : Int) (rs : List ReadT) (e : Nat) : List Blk := [.var [.ref (.vec 1 e), rD (w.c.map CourseT.row), rD w.p, rD (w.s.map SysT.row), rD (w.f.map FactT.row), int known], .vec (vecR (rdR rs)) e 5]
theorem lkadd_ev {w : WorldT} {known : Int} {rs qs : List ReadT} (hb : rs.length + qs.length ≤ 1000000000) : (Ev Tryz.prog Γk 119 [.ref (.ptr 0 0), rD (rdR qs)] (lkH w known rs 0) (.tup []) (lkH w known (rs ++ qs) 1)) := by
 refine Ev.castH (Ev.of_sym (h' := [.var [.ref (.vec 1 1), rD (List.map CourseT.row w.c), rD w.p, rD (List.map SysT.row w.s), rD (List.map FactT.row w.f), int known], .vec (vecR (rdR rs) ++ List.map (fun x => List.map D.p x) (rdR qs)) 1 5]) (d := D.tup []) pok [] (by kernel_rfl) (.c (show (List.all (List.map (fun x => List.map D.p x) (rdR qs)) (rowOk 5) && roomOk (List.length (vecR (rdR rs)) + List.length (List.map (fun x => List.map D.p x) (rdR qs))) 40) = true from (by first | assumption | rfl | omega | (simp only [rd_ok, roomOk, Bool.true_and, Bool.and_eq_true, decide_eq_true_eq, List.length_map]; omega))) .n)) ?_ ?_ <;> (first | rfl | (simp only [lkH, rdR, vecR, List.map_append]; rfl) | (simp only [lkH, rdR, vecR, List.map_append]; done))
theorem lkadd1_ev {w : WorldT} {known : Int} {rs : List ReadT} {q : ReadT} (hb : rs.length ≤ 999999999) : (Ev Tryz.prog Γk 119 [.ref (.ptr 0 0), .ref (.vec 2 0)] (lkH w known rs 0 ++ [.vec [[int q.kind, int q.sub, int q.obj, int q.frm, int q.til]] 0 5]) (.tup []) (lkH w known (rs ++ [q]) 1 ++ [.vec [[int q.kind, int q.sub, int q.obj, int q.frm, int q.til]] 0 5])) := by
 refine Ev.castH (Ev.of_sym (h' := [.var [.ref (.vec 1 1), rD (List.map CourseT.row w.c), rD w.p, rD (List.map SysT.row w.s), rD (List.map FactT.row w.f), int known], .vec (vecR (rdR rs) ++ [[int q.kind, int q.sub, int q.obj, int q.frm, int q.til]]) 1 5, .vec [[int q.kind, int q.sub, int q.obj, int q.frm, int q.til]] 0 5]) (d := D.tup []) pok [] (by kernel_rfl) (.c (show (List.all [[int q.kind, int q.sub, int q.obj, int q.frm, int q.til]] (rowOk 5) && roomOk (List.length (vecR (rdR rs)) + List.length [[int q.kind, int q.sub, int q.obj, int q.frm, int q.til]]) 40) = true from (by first | assumption | rfl | omega | (simp [rowOk, D.one, Value.oneCell', roomOk]; omega))) .n)) ?_ ?_ <;> (first | rfl | (simp only [lkH, rdR, vecR, List.map_append]; rfl) | (simp only [lkH, rdR, vecR, List.map_append]; done))
def rdN : ReadT := ⟨12, 0, 0, 0, 1⟩
theorem numbers2_ev {w : WorldT} (hw : w.ok) {known : Int} (h : List Blk) : Ev Tryz.prog Γk 34 [.agg w.l, int known] h (.tup [rD ((numbersR w.f known).map fun n => [vi n]), .ref (.vec h.length 0)]) (h ++ [.vec (vecR (rdR [rdN])) 0 5]) :=
 Ev.glob0 (numbers_evA hw.lf hw.sf h)
def rdT (kk ks ko term : Int) : List ReadT := match outB term with
 | true => []
 | false => [⟨kk, ks, ko, term, IntKind.i64.wrap (term + 1)⟩]
theorem rdT_row (kk ks ko term : Int) : readsT kk ks ko term = rdR (rdT kk ks ko term) := by
 unfold readsT rdT
 cases outB term <;> rfl
theorem rdT_len (kk ks ko term : Int) : (rdT kk ks ko term).length ≤ 1 := by unfold rdT; cases outB term <;> simp
theorem course2_ev {w : WorldT} (hw : w.ok) {n term known : Int} (h : List Blk) : Ev Tryz.prog Γk 161 [.agg w.l, int n, int term, int known] h (.tup [ag (courseR w n term known).1.row, rD (rdR (rdT 1 n 0 term)), bool (courseR w n term known).2]) h := by
 rw [← rdT_row]; exact course_evA hw h
theorem system2_ev {w : WorldT} (hw : w.ok) {term known : Int} (h : List Blk) : Ev Tryz.prog Γk 52 [.agg w.l, int term, int known] h (.tup [ag (systemR w term known).1.row, rD (rdR (rdT 4 0 0 term))]) h := by
 rw [← rdT_row]; exact system_evA hw h
noncomputable abbrev lknum_ev_x0 (w : WorldT) (known : Int) (rs : List ReadT) : List Blk := [.var [.ref (.vec 1 1), rD (List.map CourseT.row w.c), rD w.p, rD (List.map SysT.row w.s), rD (List.map FactT.row w.f), int known], .vec (vecR (rdR (rs ++ [rdN]))) 1 5, .vec [[int rdN.kind, int rdN.sub, int rdN.obj, int rdN.frm, int rdN.til]] 0 5]
noncomputable abbrev lknum_ev_x1 (w : WorldT) (known : Int) (rs : List ReadT) : List Blk := [.var [.ref (.vec 1 0), rD (List.map CourseT.row w.c), rD w.p, rD (List.map SysT.row w.s), rD (List.map FactT.row w.f), int known], .vec (vecR (rdR rs)) 0 5, .vec [[int rdN.kind, int rdN.sub, int rdN.obj, int rdN.frm, int rdN.til]] 0 5]
noncomputable abbrev lknum_ev_x2 (w : WorldT) (known : Int) (rs : List ReadT) : List Blk := [.var [.ref (.vec 1 0), rD (List.map CourseT.row w.c), rD w.p, rD (List.map SysT.row w.s), rD (List.map FactT.row w.f), int known], .vec (vecR (rdR rs)) 0 5]
theorem lknum_ev {w : WorldT} (hw : w.ok) {known : Int} {rs : List ReadT} (hb : rs.length ≤ 999999000) : (Ev Tryz.prog Γk 62 [.ref (.ptr 0 0)] (lkH w known rs 0) (rD ((numbersR w.f known).map fun n => [vi n])) (lkH w known (rs ++ [rdN]) 1)) := by
 refine Ev.castH (Ev.post (d2 := rD (List.map (fun n => [vi n]) (numbersR w.f known))) (h2 := [.var [.ref (.vec 1 1), rD (List.map CourseT.row w.c), rD w.p, rD (List.map SysT.row w.s), rD (List.map FactT.row w.f), int known], .vec (vecR (rdR (rs ++ [rdN]))) 1 5]) (φ := [Blk.inn 2 (.var [.ref (.vec 1 1), rD (List.map CourseT.row w.c), rD w.p, rD (List.map SysT.row w.s), rD (List.map FactT.row w.f), int known]) = true, Blk.inn 2 (.vec (vecR (rdR (rs ++ [rdN]))) 1 5) = true]) [.st (.trimV 2)] (Ev.of_sym (h' := (lknum_ev_x0 w known rs)) (d := rD (List.map (fun n => [vi n]) (numbersR w.f known))) pok [.call (D.tup [rD (List.map (fun n => [vi n]) (numbersR w.f known)), .ref (.vec 2 0)]) (lknum_ev_x1 w known rs), .call (D.tup []) (lknum_ev_x0 w known rs)] (by kernel_rfl) (.c (@numbers2_ev (w) (hw) (known) ((lknum_ev_x2 w known rs))) (.e (.ref (.ptr 0 0)) (.e (.ref (.ptr 0 1)) (.e (D.agg (WorldT.l w)) (.e (.ref (.ptr 0 0)) (.e (.ref (.ptr 0 5)) (.e (int known) (.c (@lkadd1_ev (w) (known) (rs) (rdN) ?_) .n))))))))) (by kernel_rfl) ⟨rfl, ?_, trivial⟩) (by first | rfl | (simp only [lkH, rdR, vecR, List.map_append]; rfl) | (simp only [lkH, rdR, vecR, List.map_append]; done)) (by first | rfl | (simp only [lkH, rdR, vecR, List.map_append]; rfl) | (simp only [lkH, rdR, vecR, List.map_append]; done)) <;> (first | assumption | rfl | omega | exact vecR_inn _ _ | exact inn_vecR | (simp; omega) | (simp only [rd_ok, roomOk, Bool.true_and, Bool.and_eq_true, decide_eq_true_eq, List.length_map]; omega))
noncomputable abbrev lkcourse_ev_x0 (w : WorldT) (known : Int) (rs : List ReadT) : List Blk := [.var [.ref (.vec 1 0), rD (List.map CourseT.row w.c), rD w.p, rD (List.map SysT.row w.s), rD (List.map FactT.row w.f), int known], .vec (vecR (rdR rs)) 0 5, .var [strD { data := #[] }, int 0, int 0, int 0, int 0, int 0, strD { data := #[] }, int 0, int 0, nq, int 0, int 0, strD { data := #[] }, int 0, int 0, nq], .var [strD { data := #[] }, int 0, int 0, int 0, int 0, int 0, strD { data := #[] }, int 0, int 0, nq, int 0, int 0, strD { data := #[] }, int 0, int 0, nq]]
noncomputable abbrev lkcourse_ev_x1 (w : WorldT) (known : Int) (rs : List ReadT) : List Blk := [.var [.ref (.vec 1 0), rD (List.map CourseT.row w.c), rD w.p, rD (List.map SysT.row w.s), rD (List.map FactT.row w.f), int known], .vec (vecR (rdR rs)) 0 5, .var [strD { data := #[] }, int 0, int 0, int 0, int 0, int 0, strD { data := #[] }, int 0, int 0, nq, int 0, int 0, strD { data := #[] }, int 0, int 0, nq]]
noncomputable abbrev lkcourse_ev_x2 (w : WorldT) (known : Int) (n : Int) (term : Int) : List D := [D.agg [rD (List.map CourseT.row w.c), rD w.p, rD (List.map SysT.row w.s), rD (List.map FactT.row w.f)], int n, int term, int known]
theorem lkcourse_ev {w : WorldT} (hw : w.ok) {known n term : Int} {rs : List ReadT} (hb : rs.length ≤ 999999000) : (Ev Tryz.prog Γk 116 [.ref (.ptr 0 0), int n, int term] (lkH w known rs 0) (ag (courseR w n term known).1.row) (lkH w known (rs ++ rdT 1 n 0 term) 1)) := by
 refine Ev.castH (Ev.post (d2 := D.agg [strD (courseR w n term known).fst.name, int (courseR w n term known).fst.number, int (courseR w n term known).fst.credits, int (courseR w n term known).fst.rep, int (RuleT.fl (courseR w n term known).fst.need).op, int (RuleT.fl (courseR w n term known).fst.need).c, strD (RuleT.fl (courseR w n term known).fst.need).nm, int (RuleT.fl (courseR w n term known).fst.need).n, int (RuleT.fl (courseR w n term known).fst.need).d, rD (RuleT.fl (courseR w n term known).fst.need).ks, int (RuleT.fl (courseR w n term known).fst.bar).op, int (RuleT.fl (courseR w n term known).fst.bar).c, strD (RuleT.fl (courseR w n term known).fst.bar).nm, int (RuleT.fl (courseR w n term known).fst.bar).n, int (RuleT.fl (courseR w n term known).fst.bar).d, rD (RuleT.fl (courseR w n term known).fst.bar).ks]) (h2 := [.var [.ref (.vec 1 1), rD (List.map CourseT.row w.c), rD w.p, rD (List.map SysT.row w.s), rD (List.map FactT.row w.f), int known], .vec (vecR (rdR (rs ++ rdT 1 n 0 term))) 1 5]) (φ := [Blk.inn 2 (.var [.ref (.vec 1 1), rD (List.map CourseT.row w.c), rD w.p, rD (List.map SysT.row w.s), rD (List.map FactT.row w.f), int known]) = true, Blk.inn 2 (.vec (vecR (rdR (rs ++ rdT 1 n 0 term))) 1 5) = true]) [.st (.trimV 2)] (Ev.of_sym (h' := [.var [.ref (.vec 1 1), rD (List.map CourseT.row w.c), rD w.p, rD (List.map SysT.row w.s), rD (List.map FactT.row w.f), int known], .vec (vecR (rdR (rs ++ rdT 1 n 0 term))) 1 5, .var [strD (courseR w n term known).fst.name, int (courseR w n term known).fst.number, int (courseR w n term known).fst.credits, int (courseR w n term known).fst.rep, int (RuleT.fl (courseR w n term known).fst.need).op, int (RuleT.fl (courseR w n term known).fst.need).c, strD (RuleT.fl (courseR w n term known).fst.need).nm, int (RuleT.fl (courseR w n term known).fst.need).n, int (RuleT.fl (courseR w n term known).fst.need).d, rD (RuleT.fl (courseR w n term known).fst.need).ks, int (RuleT.fl (courseR w n term known).fst.bar).op, int (RuleT.fl (courseR w n term known).fst.bar).c, strD (RuleT.fl (courseR w n term known).fst.bar).nm, int (RuleT.fl (courseR w n term known).fst.bar).n, int (RuleT.fl (courseR w n term known).fst.bar).d, rD (RuleT.fl (courseR w n term known).fst.bar).ks], .var [strD (courseR w n term known).fst.name, int (courseR w n term known).fst.number, int (courseR w n term known).fst.credits, int (courseR w n term known).fst.rep, int (RuleT.fl (courseR w n term known).fst.need).op, int (RuleT.fl (courseR w n term known).fst.need).c, strD (RuleT.fl (courseR w n term known).fst.need).nm, int (RuleT.fl (courseR w n term known).fst.need).n, int (RuleT.fl (courseR w n term known).fst.need).d, rD (RuleT.fl (courseR w n term known).fst.need).ks, int (RuleT.fl (courseR w n term known).fst.bar).op, int (RuleT.fl (courseR w n term known).fst.bar).c, strD (RuleT.fl (courseR w n term known).fst.bar).nm, int (RuleT.fl (courseR w n term known).fst.bar).n, int (RuleT.fl (courseR w n term known).fst.bar).d, rD (RuleT.fl (courseR w n term known).fst.bar).ks]]) (d := D.agg [strD (courseR w n term known).fst.name, int (courseR w n term known).fst.number, int (courseR w n term known).fst.credits, int (courseR w n term known).fst.rep, int (RuleT.fl (courseR w n term known).fst.need).op, int (RuleT.fl (courseR w n term known).fst.need).c, strD (RuleT.fl (courseR w n term known).fst.need).nm, int (RuleT.fl (courseR w n term known).fst.need).n, int (RuleT.fl (courseR w n term known).fst.need).d, rD (RuleT.fl (courseR w n term known).fst.need).ks, int (RuleT.fl (courseR w n term known).fst.bar).op, int (RuleT.fl (courseR w n term known).fst.bar).c, strD (RuleT.fl (courseR w n term known).fst.bar).nm, int (RuleT.fl (courseR w n term known).fst.bar).n, int (RuleT.fl (courseR w n term known).fst.bar).d, rD (RuleT.fl (courseR w n term known).fst.bar).ks]) pok [.val (D.tup [D.agg [strD (courseR w n term known).fst.name, int (courseR w n term known).fst.number, int (courseR w n term known).fst.credits, int (courseR w n term known).fst.rep, int (RuleT.fl (courseR w n term known).fst.need).op, int (RuleT.fl (courseR w n term known).fst.need).c, strD (RuleT.fl (courseR w n term known).fst.need).nm, int (RuleT.fl (courseR w n term known).fst.need).n, int (RuleT.fl (courseR w n term known).fst.need).d, rD (RuleT.fl (courseR w n term known).fst.need).ks, int (RuleT.fl (courseR w n term known).fst.bar).op, int (RuleT.fl (courseR w n term known).fst.bar).c, strD (RuleT.fl (courseR w n term known).fst.bar).nm, int (RuleT.fl (courseR w n term known).fst.bar).n, int (RuleT.fl (courseR w n term known).fst.bar).d, rD (RuleT.fl (courseR w n term known).fst.bar).ks], rD (rdR (rdT 1 n 0 term)), bool (courseR w n term known).snd]), .call (D.tup []) [.var [.ref (.vec 1 1), rD (List.map CourseT.row w.c), rD w.p, rD (List.map SysT.row w.s), rD (List.map FactT.row w.f), int known], .vec (vecR (rdR (rs ++ rdT 1 n 0 term))) 1 5, .var [strD { data := #[] }, int 0, int 0, int 0, int 0, int 0, strD { data := #[] }, int 0, int 0, nq, int 0, int 0, strD { data := #[] }, int 0, int 0, nq], .var [strD (courseR w n term known).fst.name, int (courseR w n term known).fst.number, int (courseR w n term known).fst.credits, int (courseR w n term known).fst.rep, int (RuleT.fl (courseR w n term known).fst.need).op, int (RuleT.fl (courseR w n term known).fst.need).c, strD (RuleT.fl (courseR w n term known).fst.need).nm, int (RuleT.fl (courseR w n term known).fst.need).n, int (RuleT.fl (courseR w n term known).fst.need).d, rD (RuleT.fl (courseR w n term known).fst.need).ks, int (RuleT.fl (courseR w n term known).fst.bar).op, int (RuleT.fl (courseR w n term known).fst.bar).c, strD (RuleT.fl (courseR w n term known).fst.bar).nm, int (RuleT.fl (courseR w n term known).fst.bar).n, int (RuleT.fl (courseR w n term known).fst.bar).d, rD (RuleT.fl (courseR w n term known).fst.bar).ks]]] (by kernel_rfl) (.c (@course2_ev (w) (hw) (n) (term) (known) ((lkcourse_ev_x1 w known rs))) (.e (.ref (.ptr 0 0)) (.e (.ref (.ptr 0 0)) (.e (.ref (.ptr 0 1)) (.e (.ref (.ptr 0 1)) (.e (D.agg (WorldT.l w)) (.e (D.agg (WorldT.l w)) (.e (.ref (.ptr 0 0)) (.e (.ref (.ptr 0 0)) (.e (.ref (.ptr 0 5)) (.e (.ref (.ptr 0 5)) (.e (int known) (.e (int known) (.c (show (lkcourse_ev_x1 w known rs) = (lkcourse_ev_x1 w known rs) from rfl) (.c (@course2_ev (w) (hw) (n) (term) (known) ((lkcourse_ev_x1 w known rs))) (.c (@course2_ev (w) (hw) (n) (term) (known) ((lkcourse_ev_x0 w known rs))) (.c (show Ev Tryz.prog Γk 119 [.ref (.ptr 0 0), rD (rdR (rdT 1 n 0 term))] [.var [.ref (.vec 1 0), rD (List.map CourseT.row w.c), rD w.p, rD (List.map SysT.row w.s), rD (List.map FactT.row w.f), int known], .vec (vecR (rdR rs)) 0 5, .var [strD { data := #[] }, int 0, int 0, int 0, int 0, int 0, strD { data := #[] }, int 0, int 0, nq, int 0, int 0, strD { data := #[] }, int 0, int 0, nq], .var [strD (courseR w n term known).fst.name, int (courseR w n term known).fst.number, int (courseR w n term known).fst.credits, int (courseR w n term known).fst.rep, int (RuleT.fl (courseR w n term known).fst.need).op, int (RuleT.fl (courseR w n term known).fst.need).c, strD (RuleT.fl (courseR w n term known).fst.need).nm, int (RuleT.fl (courseR w n term known).fst.need).n, int (RuleT.fl (courseR w n term known).fst.need).d, rD (RuleT.fl (courseR w n term known).fst.need).ks, int (RuleT.fl (courseR w n term known).fst.bar).op, int (RuleT.fl (courseR w n term known).fst.bar).c, strD (RuleT.fl (courseR w n term known).fst.bar).nm, int (RuleT.fl (courseR w n term known).fst.bar).n, int (RuleT.fl (courseR w n term known).fst.bar).d, rD (RuleT.fl (courseR w n term known).fst.bar).ks]] (D.tup []) [.var [.ref (.vec 1 1), rD (List.map CourseT.row w.c), rD w.p, rD (List.map SysT.row w.s), rD (List.map FactT.row w.f), int known], .vec (vecR (rdR (rs ++ rdT 1 n 0 term))) 1 5, .var [strD { data := #[] }, int 0, int 0, int 0, int 0, int 0, strD { data := #[] }, int 0, int 0, nq, int 0, int 0, strD { data := #[] }, int 0, int 0, nq], .var [strD (courseR w n term known).fst.name, int (courseR w n term known).fst.number, int (courseR w n term known).fst.credits, int (courseR w n term known).fst.rep, int (RuleT.fl (courseR w n term known).fst.need).op, int (RuleT.fl (courseR w n term known).fst.need).c, strD (RuleT.fl (courseR w n term known).fst.need).nm, int (RuleT.fl (courseR w n term known).fst.need).n, int (RuleT.fl (courseR w n term known).fst.need).d, rD (RuleT.fl (courseR w n term known).fst.need).ks, int (RuleT.fl (courseR w n term known).fst.bar).op, int (RuleT.fl (courseR w n term known).fst.bar).c, strD (RuleT.fl (courseR w n term known).fst.bar).nm, int (RuleT.fl (courseR w n term known).fst.bar).n, int (RuleT.fl (courseR w n term known).fst.bar).d, rD (RuleT.fl (courseR w n term known).fst.bar).ks]] from (Ev.castH (Ev.frameX (args := [.ref (.ptr 0 0), rD (rdR (rdT 1 n 0 term))]) (H := [.var [.ref (.vec 1 0), rD (List.map CourseT.row w.c), rD w.p, rD (List.map SysT.row w.s), rD (List.map FactT.row w.f), int known], .vec (vecR (rdR rs)) 0 5, .var [strD { data := #[] }, int 0, int 0, int 0, int 0, int 0, strD { data := #[] }, int 0, int 0, nq, int 0, int 0, strD { data := #[] }, int 0, int 0, nq], .var [strD (courseR w n term known).fst.name, int (courseR w n term known).fst.number, int (courseR w n term known).fst.credits, int (courseR w n term known).fst.rep, int (RuleT.fl (courseR w n term known).fst.need).op, int (RuleT.fl (courseR w n term known).fst.need).c, strD (RuleT.fl (courseR w n term known).fst.need).nm, int (RuleT.fl (courseR w n term known).fst.need).n, int (RuleT.fl (courseR w n term known).fst.need).d, rD (RuleT.fl (courseR w n term known).fst.need).ks, int (RuleT.fl (courseR w n term known).fst.bar).op, int (RuleT.fl (courseR w n term known).fst.bar).c, strD (RuleT.fl (courseR w n term known).fst.bar).nm, int (RuleT.fl (courseR w n term known).fst.bar).n, int (RuleT.fl (courseR w n term known).fst.bar).d, rD (RuleT.fl (courseR w n term known).fst.bar).ks]]) [0, 1] (@lkadd_ev (w) (known) (rs) (rdT 1 n 0 term) (by first | assumption | rfl | omega | exact vecR_inn _ _ | exact inn_vecR | (have := rdT_len 1 n 0 term; omega) | (simp; omega))) (by kernel_rfl) (by kernel_rfl) (by kernel_rfl) ⟨?_, trivial⟩ ⟨?_, trivial⟩) (by kernel_rfl) (by kernel_rfl))) .n)))))))))))))))))) (by kernel_rfl) ⟨rfl, (by first | assumption | rfl | omega | exact vecR_inn _ _ | exact inn_vecR | (have := rdT_len 1 n 0 term; omega) | (simp; omega)), trivial⟩) (by first | rfl | (simp only [lkH, rdR, vecR, List.map_append]; rfl) | (simp only [lkH, rdR, vecR, List.map_append]; done)) (by first | rfl | (simp only [lkH, rdR, vecR, List.map_append]; rfl) | (simp only [lkH, rdR, vecR, List.map_append]; done)) <;> (first | rfl | exact mapRL_rows _ _ | first | assumption | rfl | omega | exact vecR_inn _ _ | exact inn_vecR | (have := rdT_len 1 n 0 term; omega) | (simp; omega))
noncomputable abbrev lkgrades_ev_x0 (w : WorldT) (known : Int) (st : Int) (n : Int) (term : Int) (rs : List ReadT) : List Blk := [.var [.ref (.vec 1 1), rD (List.map CourseT.row w.c), rD w.p, rD (List.map SysT.row w.s), rD (List.map FactT.row w.f), int known], .vec (vecR (rdR (rs ++ [{ kind := 5, sub := st, obj := n, frm := 0, til := term }]))) 1 5, .var [int 5, int st, int n], .vec [[int 5, int st, int n, int 0, int term]] 0 5]
theorem lkgrades_ev {w : WorldT} (hw : w.ok) {known st n term : Int} {rs : List ReadT} (hb : rs.length ≤ 999999000) : (Ev Tryz.prog Γk 115 [.ref (.ptr 0 0), int st, int n, int term] (lkH w known rs 0) (rD ((pointsR 5 st n 0 term known w.f).map PtT.row)) (lkH w known (rs ++ [⟨5, st, n, 0, term⟩]) 1)) := by
 refine Ev.castH (Ev.post (d2 := rD (List.map PtT.row (pointsR 5 st n 0 term known w.f))) (h2 := [.var [.ref (.vec 1 1), rD (List.map CourseT.row w.c), rD w.p, rD (List.map SysT.row w.s), rD (List.map FactT.row w.f), int known], .vec (vecR (rdR (rs ++ [{ kind := 5, sub := st, obj := n, frm := 0, til := term }]))) 1 5]) (φ := [Blk.inn 2 (.var [.ref (.vec 1 1), rD (List.map CourseT.row w.c), rD w.p, rD (List.map SysT.row w.s), rD (List.map FactT.row w.f), int known]) = true, Blk.inn 2 (.vec (vecR (rdR (rs ++ [{ kind := 5, sub := st, obj := n, frm := 0, til := term }]))) 1 5) = true]) [.st (.trimV 2)] (Ev.of_sym (h' := (lkgrades_ev_x0 w known st n term rs)) (d := rD (List.map PtT.row (pointsR 5 st n 0 term known w.f))) pok [.call (D.tup []) (lkgrades_ev_x0 w known st n term rs), .val (rD (List.map PtT.row (pointsR 5 st n 0 term known w.f)))] (by kernel_rfl) (.c (show Ev Tryz.prog Γk 119 [.ref (.ptr 0 0), .ref (.vec 3 0)] [.var [.ref (.vec 1 0), rD (List.map CourseT.row w.c), rD w.p, rD (List.map SysT.row w.s), rD (List.map FactT.row w.f), int known], .vec (vecR (rdR rs)) 0 5, .var [int 5, int st, int n], .vec [[int 5, int st, int n, int 0, int term]] 0 5] (D.tup []) (lkgrades_ev_x0 w known st n term rs) from (Ev.castH (Ev.frameX (args := [.ref (.ptr 0 0), .ref (.vec 3 0)]) (H := [.var [.ref (.vec 1 0), rD (List.map CourseT.row w.c), rD w.p, rD (List.map SysT.row w.s), rD (List.map FactT.row w.f), int known], .vec (vecR (rdR rs)) 0 5, .var [int 5, int st, int n], .vec [[int 5, int st, int n, int 0, int term]] 0 5]) [0, 1, 3] (@lkadd1_ev (w) (known) (rs) ({ kind := 5, sub := st, obj := n, frm := 0, til := term }) (by first | assumption | rfl | omega | exact vecR_inn _ _ | exact inn_vecR | exact hw.sf | (simp; omega) | (simp [rowOk, D.one, Value.oneCell', roomOk]; omega))) (by kernel_rfl) (by kernel_rfl) (by kernel_rfl) ⟨?_, ?_, trivial⟩ ⟨?_, ?_, trivial⟩) (by kernel_rfl) (by kernel_rfl))) (.e (.ref (.ptr 0 0)) (.e (.ref (.ptr 0 0)) (.e (.ref (.ptr 0 0)) (.e (.ref (.ptr 0 0)) (.e (D.agg [int 5, int st, int n]) (.c (Ev.glob0 (Γ' := Γk) (@points_ev (5) (st) (n) (0) (term) (known) (w.f) (by first | assumption | rfl | omega | exact vecR_inn _ _ | exact inn_vecR | exact hw.sf | (simp; omega) | (simp [rowOk, D.one, Value.oneCell', roomOk]; omega)) ((lkgrades_ev_x0 w known st n term rs)))) .n)))))))) (by kernel_rfl) ⟨rfl, (by first | assumption | rfl | omega | exact vecR_inn _ _ | exact inn_vecR | exact hw.sf | (simp; omega) | (simp [rowOk, D.one, Value.oneCell', roomOk]; omega)), trivial⟩) (by first | rfl | (simp only [lkH, rdR, vecR, List.map_append]; rfl) | (simp only [lkH, rdR, vecR, List.map_append]; done)) (by first | rfl | (simp only [lkH, rdR, vecR, List.map_append]; rfl) | (simp only [lkH, rdR, vecR, List.map_append]; done)) <;> (first | rfl | exact mapRL_rows _ _ | first | assumption | rfl | omega | exact vecR_inn _ _ | exact inn_vecR | exact hw.sf | (simp; omega) | (simp [rowOk, D.one, Value.oneCell', roomOk]; omega))
end Go.Vi
