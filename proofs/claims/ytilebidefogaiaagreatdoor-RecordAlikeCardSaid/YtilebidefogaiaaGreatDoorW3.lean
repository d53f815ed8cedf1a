/- RecordAlike: part of the proof: contracts of the functions that the law reaches, and the law. No conditions beyond the given statement's own. -/
import Derived.Test.YtilebidefogaiaaGreatDoorW2
import Derived.Shelf.SlSortCmp.NoneTotal
import Derived.Sort.EveryDepth
import Derived.Ground.SlsfProg
open List renaming range' → EL, cons_append → GZ, flatten_cons → EC, mem_map → D3, length → Dw, flatten → DK, getElem?_eq_some_iff → DA, foldl → D1, map → Dt, set → Gg, range → Et, getD → D9, getElem?_eq_getElem → DT, length_map → Fh, all_eq_true → Ed, replicate → D5, map_cons → EH, all → FC, map_append → Ey, getElem?_append_left → DP, getElem?_append_right → Ep, length_cons → Ef, ext_getElem? → Gf, getElem?_eq_none → ET, mergeSort_perm → GI
open Go.Vi.VS renaming ok → IB
open Go.Proofs.Tryz renaming prog → Du, f178 → Ha, f159 → D2, f111 → Ii
open Go.Vi.D renaming innL → FP, fn → EO, tup → Es, agg → EB, one → GO, mapRL → El
open Bool renaming and_eq_true → DB, and_false → ED, false_and → Ex, true_and → E5, and_self → Fe, not_eq_true → Gs, not_eq_true' → EU
open Go.Vi.Blk renaming inn → DL
open Go.IntKind renaming i64 → Dz, wrap → DG
open Go.Vi.CW renaming cast → DU, symX → DV
open Go.LoopState renaming ready → D4, exhausted → Er
open Go.Fn renaming func → DW
open Go.Exit renaming normal → DQ, exit → Ea
open Go.Value renaming tuple → Gd, oneCell' → Ez
open Go.Vi.FactT renaming row → DE
open Go.Vi.Ev renaming castH → DI, of_sym → FT
open Int renaming toNat → DN
open Go.Operand renaming const → H6
open Option renaming some → FG
open Nat renaming one_mul → I5, le_of_not_lt → FZ
open Go.Sort renaming grow → Hb, heap_grow_old → GS, putRow → Fj, mapBlock → Fi, ahead → Fs, putCells → FK
open Array renaming getElem?_toList → Eu, getElem?_eq_some_iff → Fo, getElem?_modify → Gi, getElem?_eq_getElem → Eh, extract_size → I7
open Go.World renaming cell? → IC
open Go.Calls renaming mono → I6
open Go.Proofs.SlLaysF0 renaming n6 → H7
open Go.Vi.CourseT renaming row → DF
open Go.Vi.SysT renaming row → DJ
open Go.Vi.WorldT renaming l → Eb
open Go.Vi.RuleT renaming fl → DC
open Go Go.Proofs
namespace Go.Vi
set_option maxRecDepth 100000
set_option maxHeartbeats 4000000
def BA (f : FactT) : Int := if true = true then if f.frm > 0 then f.frm else 0 else if f.frm < 0 then f.frm else 0
def vaF (f : FactT) (s : VS) : VS := wE f (BA f) s
theorem BB {f : FactT} {x : Int} {s : VS} (h : s.ok) : (wE f x s).ok := by
 unfold wE
 generalize EL x.toNat (uA f - x).toNat = l
 induction l generalizing s with
 | nil => exact h
 | cons n l ih => exact ih (vaStep_ok n h)
theorem BC {kk ks ko known : Int} {fs : List (List Dp)} {rs : List D} {best : List FactT} {some : List Bool} (ho : IB (best, some)) {f : FactT} : Iv Du Γ0 (.ref (.yl 8)) [ag f.row] (vaH kk ks ko known fs rs best some .ready [.var (f.row.map .p)]) (bool true) (vaH kk ks ko known fs rs (vaF f (best, some)).1 (vaF f (best, some)).2 .ready [.var (f.row.map .p), .var (f.row.map .p)]) :=
 Iv.round (h1 := vaH kk ks ko known fs rs best some .ready [.var (f.row.map .p), .var (f.row.map .p)]) rfl rfl va_asg rfl (Bz ho) rfl
def vaGo (kk ks ko known : Int) (s : VS) (f : FactT) : VS := bif ofIs kk ks ko known f then vaF f s else s
theorem ia {n : Nat} : ∀ {es : List (List D)}, (∀ r ∈ es, FP n r = true) → FP n es.flatten = true
 | [], _ => rfl
 | e :: es, h => by
  have key : ∀ (xs ys : List D), FP n xs = true → FP n ys = true → FP n (xs ++ ys) = true := by
   intro xs ys h1 h2
   induction xs with
   | nil => exact h2
   | cons x xs ih => simp only [FP, DB, GZ] at h1 ⊢; exact ⟨h1.1, ih h1.2⟩
  rw [EC]
  exact key _ _ (h e (by simp)) (ia fun r hr => h r (by simp [hr]))
theorem oi {n : Nat} {l : List FactT} : DL n (.var (cg l).flatten) = true := ia fun r hr => by obtain ⟨_, _, rfl⟩ := D3.1 hr; rfl
theorem oj {n : Nat} {l : List Bool} : DL n (.var (cH l).flatten) = true := ia fun r hr => by obtain ⟨_, _, rfl⟩ := D3.1 hr; rfl
theorem gq {n : Nat} {l : List Int} : DL n (.var (ba l).flatten) = true := ia fun r hr => by obtain ⟨_, _, rfl⟩ := D3.1 hr; rfl
theorem vo_body {kk ks ko known : Int} {fs : List (List Dp)} {rs : List Int} {best b0 : List FactT} {some s0 : List Bool} (ho : IB (best, some)) {f : FactT} {i : Nat} (hr : aM (i : Int) fs f.row 8) (hlt : decide ((i : Int) < (fs.length : Int)) = true) (hw : Dz.wrap ((i : Int) + 1) = ((i + 1 : Nat) : Int)) : (CW Du Γ0 (vaH kk ks ko known fs (ba rs).flatten b0 s0 .ready []) false (sub Ha 0) { t := ofT fs i, h := vaH kk ks ko known fs (ba rs).flatten best some .ready [], m := [] } .normal { t := ofT fs ((i + 1 : Nat) : Int), h := vaH kk ks ko known fs (ba rs).flatten (vaGo kk ks ko known (best, some) f).1 (vaGo kk ks ko known (best, some) f).2 .ready [], m := [] }) := by
 cases hc0 : f.kind == kk && (f.sub == ks && (f.obj == ko && true))
 ·refine DU (DV (s' := { t := mkT 30 0 [(0, .ref (.yl 8)), (1, .ref (.ptr 4 0)), (2, .ref (.ptr 5 0)), (3, .ref (.ptr 6 0)), (7, ab fs), (8, int (↑(Dw fs) : Int)), (9, int (DG Dz ((↑i : Int) + 1)))], h := [.var [int kk, int ks, int ko], .var (DK (ba rs)), .var (DK (cg best)), .var (DK (cH some)), .var [ab fs], .var [int kk, int ks, int ko], .var [int known], .defd, .loop D4 none 0 (mkT 63 0 [(6, .ref (.ptr 1 0)), (7, .ref (.ptr 2 0)), (8, .ref (.ptr 3 0)), (15, EO (DW 178) [] [.ref (.ptr 4 0), .ref (.ptr 5 0), .ref (.ptr 6 0)])]) { toList := [16] } (aC (sub D2 0)) (ak (sub D2 0))], m := [] }) (e := DQ) pok [.st (.mask [0, 1, 2, 3, 7, 8, 9]), .st (.trimV 9)] [.b true, .row [vi f.kind, vi f.sub, vi f.obj, vi f.value, vi f.frm, vi f.til, vi f.known, vi f.no], .g false, .g false, .g false, .g false, .ov 22 (bool false), .g false, .g false, .g false, .g false, .ov 28 (bool false), .b false] (by kernel_rfl) (.c hlt (.c hr (.c (show ((f.kind == kk && (f.sub == ks && (f.obj == ko && true))) == true) = false from (by rw [hc0]; rfl)) (.c (show ((f.kind == kk && (f.sub == ks && (f.obj == ko && true))) == true) = false from (by rw [hc0]; rfl)) (.c (show ((f.kind == kk && (f.sub == ks && (f.obj == ko && true))) == true) = false from (by rw [hc0]; rfl)) (.c (show ((f.kind == kk && (f.sub == ks && (f.obj == ko && true))) == true) = false from (by rw [hc0]; rfl)) (.c (show aX (bool (f.kind == kk && (f.sub == ks && (f.obj == ko && true)))) (D.p (Dp.v (Gd { toList := [] }))) (bool false) (bool false) from (bU hc0 rfl)) (.c (show (false == true) = false from rfl) (.c (show (false == true) = false from rfl) (.c (show (false == true) = false from rfl) (.c (show (false == true) = false from rfl) (.c (show aX (bool false) (D.p (Dp.v (Gd { toList := [] }))) (bool false) (bool false) from (bU rfl rfl)) (.c (show false = false from rfl) (.c (show DL 9 (.var [int kk, int ks, int ko]) = true from rfl) (.c (show DL 9 (.var (DK (ba rs))) = true from ?_) (.c (show DL 9 (.var (DK (cg best))) = true from ?_) (.c (show DL 9 (.var (DK (cH some))) = true from ?_) (.c (show DL 9 (.var [ab fs]) = true from rfl) (.c (show DL 9 (.var [int kk, int ks, int ko]) = true from rfl) (.c (show DL 9 (.var [int known]) = true from rfl) (.c (show DL 9 .defd = true from rfl) (.c (show DL 9 (.loop D4 none 0 (mkT 63 0 [(6, .ref (.ptr 1 0)), (7, .ref (.ptr 2 0)), (8, .ref (.ptr 3 0)), (15, EO (DW 178) [] [.ref (.ptr 4 0), .ref (.ptr 5 0), .ref (.ptr 6 0)])]) { toList := [16] } (aC (sub D2 0)) (ak (sub D2 0))) = true from rfl) .n))))))))))))))))))))))) (by first | rfl | (simp only [hw, vaGo, ofIs, l6, hc0, ED, Ex, E5, Fe, cond_true, cond_false]; rfl)) (by first | rfl | (simp only [hw, vaGo, ofIs, l6, hc0, Ex, cond_false]; rfl)) <;> (first | assumption | rfl | exact oi | exact oj | exact gq | (simp_all; done))
 ·cases hc1 : decide (f.known ≤ known)
  ·refine DU (DV (s' := { t := mkT 30 0 [(0, .ref (.yl 8)), (1, .ref (.ptr 4 0)), (2, .ref (.ptr 5 0)), (3, .ref (.ptr 6 0)), (7, ab fs), (8, int (↑(Dw fs) : Int)), (9, int (DG Dz ((↑i : Int) + 1)))], h := [.var [int kk, int ks, int ko], .var (DK (ba rs)), .var (DK (cg best)), .var (DK (cH some)), .var [ab fs], .var [int kk, int ks, int ko], .var [int known], .defd, .loop D4 none 0 (mkT 63 0 [(6, .ref (.ptr 1 0)), (7, .ref (.ptr 2 0)), (8, .ref (.ptr 3 0)), (15, EO (DW 178) [] [.ref (.ptr 4 0), .ref (.ptr 5 0), .ref (.ptr 6 0)])]) { toList := [16] } (aC (sub D2 0)) (ak (sub D2 0))], m := [] }) (e := DQ) pok [.st (.mask [0, 1, 2, 3, 7, 8, 9]), .st (.trimV 9)] [.b true, .row [vi f.kind, vi f.sub, vi f.obj, vi f.value, vi f.frm, vi f.til, vi f.known, vi f.no], .g true, .g true, .g true, .g true, .ov 22 (bool (decide (f.known ≤ known))), .g false, .g false, .g false, .g false, .ov 28 (bool false), .b false] (by kernel_rfl) (.c hlt (.c hr (.c (show ((f.kind == kk && (f.sub == ks && (f.obj == ko && true))) == true) = true from (by rw [hc0]; rfl)) (.c (show ((f.kind == kk && (f.sub == ks && (f.obj == ko && true))) == true) = true from (by rw [hc0]; rfl)) (.c (show ((f.kind == kk && (f.sub == ks && (f.obj == ko && true))) == true) = true from (by rw [hc0]; rfl)) (.c (show ((f.kind == kk && (f.sub == ks && (f.obj == ko && true))) == true) = true from (by rw [hc0]; rfl)) (.c (show aX (bool (f.kind == kk && (f.sub == ks && (f.obj == ko && true)))) (bool (decide (f.known ≤ known))) (bool false) (bool (decide (f.known ≤ known))) from (bz hc0 rfl)) (.c (show (decide (f.known ≤ known) == true) = false from (by rw [hc1]; rfl)) (.c (show (decide (f.known ≤ known) == true) = false from (by rw [hc1]; rfl)) (.c (show (decide (f.known ≤ known) == true) = false from (by rw [hc1]; rfl)) (.c (show (decide (f.known ≤ known) == true) = false from (by rw [hc1]; rfl)) (.c (show aX (bool (decide (f.known ≤ known))) (D.p (Dp.v (Gd { toList := [] }))) (bool false) (bool false) from (bU hc1 rfl)) (.c (show false = false from rfl) (.c (show DL 9 (.var [int kk, int ks, int ko]) = true from rfl) (.c (show DL 9 (.var (DK (ba rs))) = true from ?_) (.c (show DL 9 (.var (DK (cg best))) = true from ?_) (.c (show DL 9 (.var (DK (cH some))) = true from ?_) (.c (show DL 9 (.var [ab fs]) = true from rfl) (.c (show DL 9 (.var [int kk, int ks, int ko]) = true from rfl) (.c (show DL 9 (.var [int known]) = true from rfl) (.c (show DL 9 .defd = true from rfl) (.c (show DL 9 (.loop D4 none 0 (mkT 63 0 [(6, .ref (.ptr 1 0)), (7, .ref (.ptr 2 0)), (8, .ref (.ptr 3 0)), (15, EO (DW 178) [] [.ref (.ptr 4 0), .ref (.ptr 5 0), .ref (.ptr 6 0)])]) { toList := [16] } (aC (sub D2 0)) (ak (sub D2 0))) = true from rfl) .n))))))))))))))))))))))) (by first | rfl | (simp only [hw, vaGo, ofIs, l6, hc0, hc1, ED, Ex, E5, Fe, cond_true, cond_false]; rfl)) (by first | rfl | (simp only [hw, vaGo, ofIs, l6, hc0, hc1, ED, cond_false]; rfl)) <;> (first | assumption | rfl | exact oi | exact oj | exact gq | (simp_all; done))
  ·let v0 := DK (cg (vaF f (best, some)).fst)
   let v1 := DK (cH (vaF f (best, some)).snd)
   let v2 : List D := [.ref (.ptr 4 0), .ref (.ptr 5 0), .ref (.ptr 6 0)]
   let v3 : List D := [int f.kind, int f.sub, int f.obj, int f.value, int f.frm, int f.til, int f.known, int f.no]
   refine DU (DV (s' := { t := mkT 30 0 [(0, .ref (.yl 8)), (1, .ref (.ptr 4 0)), (2, .ref (.ptr 5 0)), (3, .ref (.ptr 6 0)), (7, ab fs), (8, int (↑(Dw fs) : Int)), (9, int (DG Dz ((↑i : Int) + 1)))], h := [.var [int kk, int ks, int ko], .var (DK (ba rs)), .var v0, .var v1, .var [ab fs], .var [int kk, int ks, int ko], .var [int known], .defd, .loop D4 none 0 (mkT 63 0 [(6, .ref (.ptr 1 0)), (7, .ref (.ptr 2 0)), (8, .ref (.ptr 3 0)), (15, EO (DW 178) [] v2)]) { toList := [16] } (aC (sub D2 0)) (ak (sub D2 0))], m := [] }) (e := DQ) pok [.st (.mask [0, 1, 2, 3, 7, 8, 9]), .st (.trimV 9)] [.b true, .row [vi f.kind, vi f.sub, vi f.obj, vi f.value, vi f.frm, vi f.til, vi f.known, vi f.no], .g true, .g true, .g true, .g true, .ov 22 (bool (decide (f.known ≤ known))), .g true, .g true, .g true, .inv (bool true) [.var [int kk, int ks, int ko], .var (DK (ba rs)), .var v0, .var v1, .var [ab fs], .var [int kk, int ks, int ko], .var [int known], .defd, .loop D4 none 0 (mkT 63 0 [(6, .ref (.ptr 1 0)), (7, .ref (.ptr 2 0)), (8, .ref (.ptr 3 0)), (15, EO (DW 178) [] v2)]) { toList := [16] } (aC (sub D2 0)) (ak (sub D2 0)), .var v3, .var v3], .g true, .ov 28 (bool !true), .b false] (by kernel_rfl) (.c hlt (.c hr (.c (show ((f.kind == kk && (f.sub == ks && (f.obj == ko && true))) == true) = true from (by subst v0 v1 v2 v3; rw [hc0]; rfl)) (.c (show ((f.kind == kk && (f.sub == ks && (f.obj == ko && true))) == true) = true from (by subst v0 v1 v2 v3; rw [hc0]; rfl)) (.c (show ((f.kind == kk && (f.sub == ks && (f.obj == ko && true))) == true) = true from (by subst v0 v1 v2 v3; rw [hc0]; rfl)) (.c (show ((f.kind == kk && (f.sub == ks && (f.obj == ko && true))) == true) = true from (by subst v0 v1 v2 v3; rw [hc0]; rfl)) (.c (show aX (bool (f.kind == kk && (f.sub == ks && (f.obj == ko && true)))) (bool (decide (f.known ≤ known))) (bool false) (bool (decide (f.known ≤ known))) from (bz hc0 rfl)) (.c (show (decide (f.known ≤ known) == true) = true from (by subst v0 v1 v2 v3; rw [hc1]; rfl)) (.c (show (decide (f.known ≤ known) == true) = true from (by subst v0 v1 v2 v3; rw [hc1]; rfl)) (.c (show (decide (f.known ≤ known) == true) = true from (by subst v0 v1 v2 v3; rw [hc1]; rfl)) (.c (@BC kk ks ko known fs (DK (ba rs)) best some ho f) (.c (show (decide (f.known ≤ known) == true) = true from (by subst v0 v1 v2 v3; rw [hc1]; rfl)) (.c (show aX (bool (decide (f.known ≤ known))) (bool !true) (bool false) (bool !true) from (bz hc1 rfl)) (.c (show (!true) = false from rfl) (.c (show DL 9 (.var [int kk, int ks, int ko]) = true from rfl) (.c (show DL 9 (.var (DK (ba rs))) = true from ?_) (.c (show DL 9 (.var v0) = true from ?_) (.c (show DL 9 (.var v1) = true from ?_) (.c (show DL 9 (.var [ab fs]) = true from rfl) (.c (show DL 9 (.var [int kk, int ks, int ko]) = true from rfl) (.c (show DL 9 (.var [int known]) = true from rfl) (.c (show DL 9 .defd = true from rfl) (.c (show DL 9 (.loop D4 none 0 (mkT 63 0 [(6, .ref (.ptr 1 0)), (7, .ref (.ptr 2 0)), (8, .ref (.ptr 3 0)), (15, EO (DW 178) [] v2)]) { toList := [16] } (aC (sub D2 0)) (ak (sub D2 0))) = true from rfl) .n)))))))))))))))))))))))) (by subst v0 v1 v2 v3; first | rfl | (simp only [hw, vaGo, ofIs, l6, hc0, hc1, ED, Ex, E5, Fe, cond_true, cond_false]; rfl)) (by subst v0 v1 v2 v3; first | rfl | (simp only [hw, vaGo, ofIs, l6, hc0, hc1, Fe, cond_true]; rfl)) <;> subst v0 v1 v2 v3 <;> (first | assumption | rfl | exact oi | exact oj | exact gq | (simp_all; done))
theorem BD {kk ks ko known : Int} {fs : List (List Dp)} {rs : List Int} {best b0 : List FactT} {some s0 : List Bool} {i : Nat} (hlt : decide ((i : Int) < (fs.length : Int)) = false) : (CW Du Γ0 (vaH kk ks ko known fs (ba rs).flatten b0 s0 .ready []) false (sub Ha 0) { t := ofT fs i, h := vaH kk ks ko known fs (ba rs).flatten best some .ready [], m := [] } (.exit 0) { t := mkT 30 0 [], h := vaH kk ks ko known fs (ba rs).flatten best some .ready [], m := [] }) := by
 exact DU (DV (s' := { t := mkT 30 0 [], h := [.var [int kk, int ks, int ko], .var (DK (ba rs)), .var (DK (cg best)), .var (DK (cH some)), .var [ab fs], .var [int kk, int ks, int ko], .var [int known], .defd, .loop D4 none 0 (mkT 63 0 [(6, .ref (.ptr 1 0)), (7, .ref (.ptr 2 0)), (8, .ref (.ptr 3 0)), (15, EO (DW 178) [] [.ref (.ptr 4 0), .ref (.ptr 5 0), .ref (.ptr 6 0)])]) { toList := [16] } (aC (sub D2 0)) (ak (sub D2 0))], m := [] }) (e := Ea 0) pok [.st (.mask [])] [.b false] (by kernel_rfl) (.c hlt .n)) (by rfl) (by rfl)
theorem vaGo_ok {kk ks ko known : Int} {s : VS} (f : FactT) (h : s.ok) : (vaGo kk ks ko known s f).ok := by
 unfold vaGo
 cases ofIs kk ks ko known f
 ·exact h
 ·exact BB h
theorem vo_cw {kk ks ko known : Int} {l : List FactT} (hl : aj l) {rs : List Int} {b0 : List FactT} {s0 : List Bool} (ho : IB (b0, s0)) :
  CW Du Γ0 (vaH kk ks ko known (l.map DE) (ba rs).flatten b0 s0 .ready []) false (.loop (sub Ha 0)) { t := ofT (l.map DE) 0, h := vaH kk ks ko known (l.map DE) (ba rs).flatten b0 s0 .ready [], m := [] } (.exit 0)
   { t := mkT 30 0 [], h := vaH kk ks ko known (l.map DE) (ba rs).flatten (l.foldl (vaGo kk ks ko known) (b0, s0)).1 (l.foldl (vaGo kk ks ko known) (b0, s0)).2 .ready [], m := [] } := by
 have := CW.each (P := Du) (Γ := Γ0) (h0 := vaH kk ks ko known (l.map DE) (ba rs).flatten b0 s0 .ready []) (rd := false) (c := sub Ha 0) (σ := VS) (ρ := Empty) l (fun f s => .inl (vaGo kk ks ko known s f))
  (fun i s => { t := ofT (l.map DE) (i : Int), h := vaH kk ks ko known (l.map DE) (ba rs).flatten s.1 s.2 .ready [], m := [] }) (.exit 0) (fun s => { t := mkT 30 0 [], h := vaH kk ks ko known (l.map DE) (ba rs).flatten s.1 s.2 .ready [], m := [] }) (fun r => r.elim)
  (fun _ s => s.ok) (by simp) (fun r => r.elim) ?_ ?_ (b0, s0) ho
 ·rw [aY] at this
  exact this
 ·intro i f s hf hs
  have hi := (DA.1 hf).1
  exact ⟨fun s' h => by cases h; exact vaGo_ok f hs, vo_body hs (rowAt hf rfl) (lt_len _ hi) (wrap_succ hi hl)⟩
 ·intro s _
  exact BD (bS _ l)
theorem wG {kk ks ko known : Int} {l : List FactT} (hl : aj l) {rs : List Int} {b0 : List FactT} {s0 : List Bool} (ho : IB (b0, s0)) : (Ev Du Γ0 178 [.ref (.yl 8), .ref (.ptr 4 0), .ref (.ptr 5 0), .ref (.ptr 6 0)] (vaH kk ks ko known (l.map DE) (ba rs).flatten b0 s0 .ready []) (.tup []) (vaH kk ks ko known (l.map DE) (ba rs).flatten (l.foldl (vaGo kk ks ko known) (b0, s0)).1 (l.foldl (vaGo kk ks ko known) (b0, s0)).2 .ready [])) := by
 have hl0 := (@vo_cw (kk) (ks) (ko) (known) (l) (hl) (rs) (b0) (s0) (ho))
 let v0 : List Blk := [.var [int kk, int ks, int ko], .var (DK (ba rs)), .var (DK (cg (D1 (vaGo kk ks ko known) (b0, s0) l).fst)), .var (DK (cH (D1 (vaGo kk ks ko known) (b0, s0) l).snd)), .var [ab (Dt DE l)], .var [int kk, int ks, int ko], .var [int known], .defd, .loop D4 none 0 (mkT 63 0 [(6, .ref (.ptr 1 0)), (7, .ref (.ptr 2 0)), (8, .ref (.ptr 3 0)), (15, EO (DW 178) [] [.ref (.ptr 4 0), .ref (.ptr 5 0), .ref (.ptr 6 0)])]) { toList := [16] } (aC (sub D2 0)) (ak (sub D2 0))]
 exact DI (FT (h' := v0) (d := Es []) pok [.sum [0, 1, 2, 3, 7, 8, 9] (Ea 0) { t := mkT 30 0 [], h := v0, m := [] }] (by kernel_rfl) (.c hl0 .n)) (by rfl) (by rfl)
noncomputable abbrev vaH0 (kk ks ko known : Int) (fs : List (List Dp)) (rs : List Int) (best : List FactT) (some : List Bool) : List Blk :=
 [.var [int kk, int ks, int ko], .var (ba rs).flatten, .var (cg best).flatten, .var (cH some).flatten, .var [ab fs], .var [int kk, int ks, int ko], .var [int known]]
theorem yW {kk ks ko known : Int} {l : List FactT} (hl : aj l) {rs : List Int} {b0 : List FactT} {s0 : List Bool} (ho : IB (b0, s0)) : CW Du Γ0 [] false (sub D2 0) { t := vaT, h := vaH0 kk ks ko known (l.map DE) rs b0 s0, m := [] } .normal
  { t := vaT, h := vaH kk ks ko known (l.map DE) (ba rs).flatten (l.foldl (vaGo kk ks ko known) (b0, s0)).1 (l.foldl (vaGo kk ks ko known) (b0, s0)).2 .exhausted [], m := [7] } :=
 CW.rangeFunc (f := 178) (fi := []) (ca := [.ref (.ptr 4 0), .ref (.ptr 5 0), .ref (.ptr 6 0)]) pok (s := { t := vaT, h := vaH0 kk ks ko known (l.map DE) rs b0 s0, m := [] }) (g := .tmp 15) (ps := #[16]) (asg := aC (sub D2 0)) (body := ak (sub D2 0)) rfl (by kernel_rfl) (wG hl ho) rfl
theorem An {h : List Blk} {off n : Nat} {l : List FactT} {g : FactT} (hb : h[2]? = some (.var (cg l).flatten)) (hs : l[n]? = some g) (ho : off = n * 8 + 3) : bn Du h 3 (.ref (.ptr 2 off)) = some (int g.value) := by
 subst ho
 exact kQ (sz := 8) (j := 3) (row := g.row.map .p) (by kernel_rfl) (by kernel_rfl) hb (by simp [DE]) (by simp [hs]) rfl
theorem tq {h : List Blk} {off n : Nat} {l : List Int} {x : Int} (hb : h[1]? = some (.var (ba l).flatten)) (hn : n < l.length) (ho : off = n * 1) : bM Du h 3 (.ref (.ptr 1 off)) (int x) = some (h.set 1 (.var (ba (l.set n x)).flatten)) := by
 subst ho
 rw [kR (sz := 1) (new := [int x]) rfl (by kernel_rfl) rfl hb (fun r hr => by obtain ⟨_, _, rfl⟩ := D3.1 hr; rfl) (by simpa using hn), ba, ba, List.map_set]
abbrev maxV (v : Int) : Int := if true = true then if -1 > v then -1 else v else if -1 < v then -1 else v
noncomputable abbrev vlS (kk ks ko known : Int) (fs : List (List Dp)) (rs : List Int) (best : List FactT) (some : List Bool) (i : Int) : AS := { t := mkT 63 0 [(6, .ref (.ptr 1 0)), (7, .ref (.ptr 2 0)), (8, .ref (.ptr 3 0)), (46, int i)], h := vaH kk ks ko known fs (ba rs).flatten best some .exhausted [], m := [7] }
theorem vl_b {kk ks ko known : Int} {fs : List (List Dp)} {rs : List Int} {best : List FactT} {some : List Bool} {g : FactT} {n : Nat} {b : Bool} (hb : best[n]? = .some g) (hs : some[n]? = .some b) (hn : inR (n : Int) 1024 = true) (hr : n < rs.length) (hlt : decide ((n : Int) < 1024) = true) : (CW Du Γ0 [] false (sub D2 2) (vlS kk ks ko known fs rs best some (n : Int)) .normal (vlS kk ks ko known fs (bif b then (rs.set n (-1)).set n (maxV g.value) else rs.set n (-1)) best some (Dz.wrap ((n : Int) + 1)))) := by
 cases hc0 : b
 ·let v0 : List Blk := [.var [int kk, int ks, int ko], .var (DK (ba (Gg rs n (-1)))), .var (DK (cg best)), .var (DK (cH some)), .var [ab fs], .var [int kk, int ks, int ko], .var [int known], .defd, .loop Er none 0 (mkT 63 0 [(6, .ref (.ptr 1 0)), (7, .ref (.ptr 2 0)), (8, .ref (.ptr 3 0)), (15, EO (DW 178) [] [.ref (.ptr 4 0), .ref (.ptr 5 0), .ref (.ptr 6 0)])]) { toList := [16] } (aC (sub D2 0)) (ak (sub D2 0))]
  refine DU (DV (s' := { t := mkT 63 0 [(6, .ref (.ptr 1 0)), (7, .ref (.ptr 2 0)), (8, .ref (.ptr 3 0)), (46, int (DG Dz ((↑n : Int) + 1)))], h := v0, m := [7] }) (e := DQ) pok [.st (.mask [6, 7, 8, 46])] [.b true, .oh 10050 D.any (vaH kk ks ko known fs (DK (ba (Gg rs n (-1)))) best some Er []), .ov 53 (bool b), .b false] (by kernel_rfl) (.c hlt (.c hn (.c (show bM Du [.var [int kk, int ks, int ko], .var (DK (ba rs)), .var (DK (cg best)), .var (DK (cH some)), .var [ab fs], .var [int kk, int ks, int ko], .var [int known], .defd, .loop Er none 0 (mkT 63 0 [(6, .ref (.ptr 1 0)), (7, .ref (.ptr 2 0)), (8, .ref (.ptr 3 0)), (15, EO (DW 178) [] [.ref (.ptr 4 0), .ref (.ptr 5 0), .ref (.ptr 6 0)])]) { toList := [16] } (aC (sub D2 0)) (ak (sub D2 0))] 3 (.ref (.ptr 1 (0 + DN (↑n : Int) * 1))) (evalD Γ0 (mkT 63 0 [(6, .ref (.ptr 1 0)), (7, .ref (.ptr 2 0)), (8, .ref (.ptr 3 0)), (11, int (↑n : Int)), (46, int (↑n : Int)), (47, bool (decide ((↑n : Int) < 1024))), (48, int (↑n : Int)), (49, int (↑n : Int)), (50, .ref (.ptr 1 (0 + DN (↑n : Int) * 1)))]) (H6 (Value.int Dz (-1)))) = FG v0 from ?_) (.c hn (.c (show bn Du v0 4 (.ref (.ptr 3 (0 + DN (↑n : Int) * 1))) = FG (bool b) from ?_) (.c hc0 .n))))))) (by subst v0; first | rfl | (simp only [hc0, cond_true, cond_false]; first | done | rfl)) (by subst v0; first | rfl | (simp only [hc0, cond_true, cond_false]; first | done | rfl)) <;> subst v0 <;> (first | assumption | rfl | exact og rfl hs (by simp) | exact An rfl hb (by simp) | exact tq rfl hr (by simp) | exact tq rfl (by simpa using hr) (by simp) | (simp_all; done))
 ·let v2 : List D := [.ref (.ptr 4 0), .ref (.ptr 5 0), .ref (.ptr 6 0)]
  let v3 := DK (ba (Gg (Gg rs n (-1)) n (maxV g.value)))
  let v4 := DK (cg best)
  let v5 := DK (cH some)
  let v0 : List Blk := [.var [int kk, int ks, int ko], .var (DK (ba (Gg rs n (-1)))), .var v4, .var v5, .var [ab fs], .var [int kk, int ks, int ko], .var [int known], .defd, .loop Er none 0 (mkT 63 0 [(6, .ref (.ptr 1 0)), (7, .ref (.ptr 2 0)), (8, .ref (.ptr 3 0)), (15, EO (DW 178) [] v2)]) { toList := [16] } (aC (sub D2 0)) (ak (sub D2 0))]
  let v1 : List Blk := [.var [int kk, int ks, int ko], .var v3, .var v4, .var v5, .var [ab fs], .var [int kk, int ks, int ko], .var [int known], .defd, .loop Er none 0 (mkT 63 0 [(6, .ref (.ptr 1 0)), (7, .ref (.ptr 2 0)), (8, .ref (.ptr 3 0)), (15, EO (DW 178) [] v2)]) { toList := [16] } (aC (sub D2 0)) (ak (sub D2 0))]
  refine DU (DV (s' := { t := mkT 63 0 [(6, .ref (.ptr 1 0)), (7, .ref (.ptr 2 0)), (8, .ref (.ptr 3 0)), (46, int (DG Dz ((↑n : Int) + 1)))], h := v1, m := [7] }) (e := DQ) pok [.st (.mask [6, 7, 8, 46])] [.b true, .oh 10050 D.any (vaH kk ks ko known fs (DK (ba (Gg rs n (-1)))) best some Er []), .ov 53 (bool b), .b true, .ov 58 (int g.value), .oh 10060 D.any (vaH kk ks ko known fs v3 best some Er [])] (by kernel_rfl) (.c hlt (.c hn (.c (show bM Du [.var [int kk, int ks, int ko], .var (DK (ba rs)), .var v4, .var v5, .var [ab fs], .var [int kk, int ks, int ko], .var [int known], .defd, .loop Er none 0 (mkT 63 0 [(6, .ref (.ptr 1 0)), (7, .ref (.ptr 2 0)), (8, .ref (.ptr 3 0)), (15, EO (DW 178) [] v2)]) { toList := [16] } (aC (sub D2 0)) (ak (sub D2 0))] 3 (.ref (.ptr 1 (0 + DN (↑n : Int) * 1))) (evalD Γ0 (mkT 63 0 [(6, .ref (.ptr 1 0)), (7, .ref (.ptr 2 0)), (8, .ref (.ptr 3 0)), (11, int (↑n : Int)), (46, int (↑n : Int)), (47, bool (decide ((↑n : Int) < 1024))), (48, int (↑n : Int)), (49, int (↑n : Int)), (50, .ref (.ptr 1 (0 + DN (↑n : Int) * 1)))]) (H6 (Value.int Dz (-1)))) = FG v0 from ?_) (.c hn (.c (show bn Du v0 4 (.ref (.ptr 3 (0 + DN (↑n : Int) * 1))) = FG (bool b) from ?_) (.c hc0 (.c hn (.c (show bn Du v0 3 (.ref (.ptr 2 (0 + DN (↑n : Int) * 8 + 3))) = FG (int g.value) from ?_) (.c hn (.c (show bM Du v0 3 (.ref (.ptr 1 (0 + DN (↑n : Int) * 1))) (int (if true = true then if -1 > g.value then -1 else g.value else if -1 < g.value then -1 else g.value)) = FG v1 from ?_) .n))))))))))) (by subst v2 v3 v4 v5 v0 v1; first | rfl | (simp only [hc0, cond_true, cond_false]; first | done | rfl)) (by subst v2 v3 v4 v5 v0 v1; first | rfl | (simp only [hc0, cond_true, cond_false]; first | done | rfl)) <;> subst v2 v3 v4 v5 v0 v1 <;> (first | assumption | rfl | exact og rfl hs (by simp) | exact An rfl hb (by simp) | exact tq rfl hr (by simp) | exact tq rfl (by simpa using hr) (by simp) | (simp_all; done))
theorem BE {kk ks ko known : Int} {fs : List (List Dp)} {rs : List Int} {best : List FactT} {some : List Bool} : (CW Du Γ0 [] false (sub D2 2) (vlS kk ks ko known fs rs best some 1024) (.exit 4) { t := mkT 63 0 [(6, .ref (.ptr 1 0))], h := vaH kk ks ko known fs (ba rs).flatten best some .exhausted [], m := [7] }) := by
 exact DU (DV (s' := { t := mkT 63 0 [(6, .ref (.ptr 1 0))], h := [.var [int kk, int ks, int ko], .var (DK (ba rs)), .var (DK (cg best)), .var (DK (cH some)), .var [ab fs], .var [int kk, int ks, int ko], .var [int known], .defd, .loop Er none 0 (mkT 63 0 [(6, .ref (.ptr 1 0)), (7, .ref (.ptr 2 0)), (8, .ref (.ptr 3 0)), (15, EO (DW 178) [] [.ref (.ptr 4 0), .ref (.ptr 5 0), .ref (.ptr 6 0)])]) { toList := [16] } (aC (sub D2 0)) (ak (sub D2 0))], m := [7] }) (e := Ea 4) pok [.st (.mask [6])] [.b false] (by kernel_rfl) (.c (show decide (1024 < 1024) = false from rfl) .n)) (by rfl) (by rfl)
def vlStep (s : VS) (rs : List Int) (n : Nat) : List Int := bif s.2.getD n false then (rs.set n (-1)).set n (maxV (s.1.getD n default).value) else rs.set n (-1)
def qm (s : VS) (rs : List Int) : List Int := (Et 1024).foldl (vlStep s) rs
theorem vl_cw {kk ks ko known : Int} {fs : List (List Dp)} {rs : List Int} {best : List FactT} {some : List Bool} (ho : IB (best, some)) (hr : rs.length = 1024) :
  CW Du Γ0 [] false (.loop (sub D2 2)) (vlS kk ks ko known fs rs best some 0) (.exit 4) { t := mkT 63 0 [(6, .ref (.ptr 1 0))], h := vaH kk ks ko known fs (ba (qm (best, some) rs)).flatten best some .exhausted [], m := [7] } := by
 have := CW.each (P := Du) (Γ := Γ0) (h0 := []) (rd := false) (c := sub D2 2) (σ := List Int) (ρ := Empty) (Et 1024) (fun n rs => .inl (vlStep (best, some) rs n))
  (fun i rs => vlS kk ks ko known fs rs best some (i : Int)) (.exit 4) (fun rs => { t := mkT 63 0 [(6, .ref (.ptr 1 0))], h := vaH kk ks ko known fs (ba rs).flatten best some .exhausted [], m := [7] }) (fun r => r.elim)
  (fun _ rs => rs.length = 1024) (by simp) (fun r => r.elim) ?_ ?_ rs hr
 ·rw [aY (fun rs n => vlStep (best, some) rs n)] at this
  exact this
 ·intro i n rs hn hs
  obtain ⟨hi, he⟩ := DA.1 hn
  simp only [List.length_range] at hi
  simp only [List.getElem_range] at he
  subst he
  have hb : best[i]? = .some (best.getD i default) := by
   rw [D9, DT (by rw [ho.1]; omega)]; rfl
  have hc : some[i]? = .some (some.getD i false) := by
   rw [D9, DT (by rw [ho.2]; omega)]; rfl
  refine ⟨fun s' h => by cases h; unfold vlStep; cases some.getD i false <;> simp [hs], ?_⟩
  have key := vl_b (kk := kk) (ks := ks) (ko := ko) (known := known) (fs := fs) (rs := rs) hb hc (by simp [inR]; omega) (by omega) (by simp; omega)
  rw [wrap_i64 (by omega) (by omega)] at key
  simp only [ad]
  unfold vlStep
  cases hq : some.getD i false <;> rw [hq] at key <;> exact key
 ·intro rs _
  simp only [List.length_range]
  exact BE
end Go.Vi
open Go Go.Proofs
namespace Go.Vi
set_option maxRecDepth 100000
set_option maxHeartbeats 4000000
theorem wH {h : List Blk} {l : List Int} (hb : h[1]? = some (.var (ba l).flatten)) (hl : l.length = 1024) : bn Du h 215 (.ref (.ptr 1 0)) = some (.agg (ba l).flatten) :=
 yB (by kernel_rfl) (by rw [eX (sz := 1) (ba l) (fun r hr => by obtain ⟨_, _, rfl⟩ := D3.1 hr; rfl)]; simp only [ba, Fh, hl]; kernel_rfl) hb
theorem qn {l : List Int} : (EB (ba l).flatten).cells = some (ba l).flatten := by
 have : (ba l).flatten.all GO = true := by
  rw [Ed]
  intro d hd
  obtain ⟨r, hr, hd⟩ := List.mem_flatten.1 hd
  obtain ⟨n, _, rfl⟩ := D3.1 hr
  simp only [List.mem_singleton] at hd
  subst hd; rfl
 simp only [D.cells, this, if_true]
theorem st_int {h : List Blk} {l : List Int} (hb : h[1]? = some (.var (ba l).flatten)) (hl : l.length = 1024) : bM Du h 215 (.ref (.ptr 1 0)) (.agg (ba l).flatten) = some (h.set 1 (.var (ba l).flatten)) :=
 pQ qn (by rw [eX (sz := 1) (ba l) (fun r hr => by obtain ⟨_, _, rfl⟩ := D3.1 hr; rfl)]; simp only [ba, Fh, hl]; kernel_rfl) rfl hb
theorem lk {s : VS} {rs : List Int} (h : rs.length = 1024) : (qm s rs).length = 1024 := by
 unfold qm
 generalize Et 1024 = l
 induction l generalizing rs with
 | nil => exact h
 | cons n l ih => exact ih (by unfold vlStep; cases s.2.getD n false <;> simp [h])
noncomputable abbrev vaE (kk ks ko known : Int) (l : List FactT) (rs : List Int) (s : VS) : List Blk := vaH kk ks ko known (l.map DE) (ba (qm (l.foldl (vaGo kk ks ko known) s) rs)).flatten (l.foldl (vaGo kk ks ko known) s).1 (l.foldl (vaGo kk ks ko known) s).2 .exhausted []
theorem yX {kk ks ko known : Int} {l : List FactT} (hl : aj l) {rs : List Int} {b0 : List FactT} {s0 : List Bool} (ho : IB (b0, s0)) (hf : IB (l.foldl (vaGo kk ks ko known) (b0, s0))) (hr : rs.length = 1024) (e1 : cO Du [.var [int kk, int ks, int ko]] 215 (.ref (.ptr 1 0)) [.var [int kk, int ks, int ko], .var (ba rs).flatten])
  (e2 : cO Du [.var [int kk, int ks, int ko], .var (ba rs).flatten] 243 (.ref (.ptr 2 0)) [.var [int kk, int ks, int ko], .var (ba rs).flatten, .var (cg b0).flatten])
  (e3 : cO Du [.var [int kk, int ks, int ko], .var (ba rs).flatten, .var (cg b0).flatten] 244 (.ref (.ptr 3 0)) [.var [int kk, int ks, int ko], .var (ba rs).flatten, .var (cg b0).flatten, .var (cH s0).flatten]) : (CW Du Γ0 [] false (i3 D2) { t := mkT 63 0 [(0, ab (l.map DE)), (1, .agg [int kk, int ks, int ko]), (2, int known)], h := [], m := [] } .ret { t := mkT 63 0 [(6, .ref (.ptr 1 0))], h := vaE kk ks ko known l rs (b0, s0), m := [7] }) := by
 have hl0 := (@yW (kk) (ks) (ko) (known) (l) (hl) (rs) (b0) (s0) (ho))
 have hl1 := (@vl_cw (kk) (ks) (ko) (known) (Dt DE l) (rs) ((D1 (vaGo kk ks ko known) (b0, s0) l).fst) ((D1 (vaGo kk ks ko known) (b0, s0) l).snd) (hf) (hr))
 let v2 := D1 (vaGo kk ks ko known) (b0, s0) l
 let v3 : List Blk := [.var [int kk, int ks, int ko], .var (DK (ba rs)), .var (DK (cg b0))]
 let v4 : List D := [.ref (.ptr 4 0), .ref (.ptr 5 0), .ref (.ptr 6 0)]
 let v5 : List Blk := [.var [int kk, int ks, int ko], .var (DK (ba rs)), .var (DK (cg b0)), .var (DK (cH s0))]
 let v6 : List Blk := [.var [int kk, int ks, int ko], .var (DK (ba rs))]
 let v7 := DK (ba (qm v2 rs))
 let v8 := DK (cg v2.fst)
 let v9 := DK (cH v2.snd)
 let v10 : List D := [ab (Dt DE l)]
 let v0 : List Blk := [.var [int kk, int ks, int ko], .var (DK (ba (qm (v2.fst, v2.snd) rs))), .var v8, .var v9, .var v10, .var [int kk, int ks, int ko], .var [int known], .defd, .loop Er none 0 (mkT 63 0 [(6, .ref (.ptr 1 0)), (7, .ref (.ptr 2 0)), (8, .ref (.ptr 3 0)), (15, EO (DW 178) [] v4)]) { toList := [16] } (aC (sub D2 0)) (ak (sub D2 0))]
 let v1 : List Blk := [.var [int kk, int ks, int ko], .var v7, .var v8, .var v9, .var v10, .var [int kk, int ks, int ko], .var [int known], .defd, .loop Er none 0 (mkT 63 0 [(6, .ref (.ptr 1 0)), (7, .ref (.ptr 2 0)), (8, .ref (.ptr 3 0)), (15, EO (DW 178) [] v4)]) { toList := [16] } (aC (sub D2 0)) (ak (sub D2 0))]
 refine DU (DV (s' := { t := mkT 63 0 [(6, .ref (.ptr 1 0))], h := v1, m := [7] }) (e := Exit.ret) pok [.st (.mask [6])] [.oh 6 (.ref (.ptr 1 0)) v6, .oh 7 (.ref (.ptr 2 0)) v3, .oh 8 (.ref (.ptr 3 0)) v5, .inl, .sum [6, 7, 8, 15] (DQ) { t := mkT 63 0 [(6, .ref (.ptr 1 0)), (7, .ref (.ptr 2 0)), (8, .ref (.ptr 3 0)), (15, EO (DW 178) [] v4)], h := [.var [int kk, int ks, int ko], .var (DK (ba rs)), .var v8, .var v9, .var v10, .var [int kk, int ks, int ko], .var [int known], .defd, .loop Er none 0 (mkT 63 0 [(6, .ref (.ptr 1 0)), (7, .ref (.ptr 2 0)), (8, .ref (.ptr 3 0)), (15, EO (DW 178) [] v4)]) { toList := [16] } (aC (sub D2 0)) (ak (sub D2 0))], m := [7] }, .sum [6, 7, 8, 46] (Ea 4) { t := mkT 63 0 [(6, .ref (.ptr 1 0))], h := v0, m := [7] }, .ov 62 (EB v7), .oh 10006 D.any (vaE kk ks ko known l rs (b0, s0))] (by kernel_rfl) (.c (show cO Du [.var [int kk, int ks, int ko]] 215 (.ref (.ptr 1 0)) v6 from ?_) (.c (show cO Du v6 243 (.ref (.ptr 2 0)) v3 from ?_) (.c (show cO Du v3 244 (.ref (.ptr 3 0)) v5 from ?_) (.c hl0 (.c hl1 (.c (show bn Du v0 215 (.ref (.ptr 1 0)) = some (EB v7) from ?_) (.c (show bM Du v0 215 (.ref (.ptr 1 0)) (EB v7) = some v1 from ?_) .n)))))))) (by rfl) (by rfl) <;> subst v2 v3 v4 v5 v6 v7 v8 v9 v10 v0 v1 <;> (first | assumption | exact wH rfl (lk hr) | exact st_int rfl (lk hr) | (simp_all; done))
theorem BF {n : Nat} {l : List Int} : D.inn n (.agg (ba l).flatten) = true := gq (n := n) (l := l)
def vZ : VS := (D5 1024 fz, D5 1024 false)
theorem BG : vZ.ok := ⟨by simp [vZ], by simp [vZ]⟩
theorem wI {kk ks ko known : Int} {l : List FactT} {s : VS} (h : s.ok) : (l.foldl (vaGo kk ks ko known) s).ok := by
 induction l generalizing s with
 | nil => exact h
 | cons f l ih => exact ih (vaGo_ok f h)
def valuesR (kk ks ko known : Int) (l : List FactT) : List Int := qm (l.foldl (vaGo kk ks ko known) vZ) (D5 1024 0)
theorem cn {kk ks ko known : Int} {l : List FactT} : (valuesR kk ks ko known l).length = 1024 := lk (by simp)
theorem yY {kk ks ko known : Int} {l : List FactT} (hl : aj l) : Ev Du Γ0 159 [ab (l.map DE), .agg [int kk, int ks, int ko], int known] [] (.agg (ba (valuesR kk ks ko known l)).flatten) (oP [7] (vaE kk ks ko known l (D5 1024 0) vZ)) := by
 have hw := yX (kk := kk) (ks := ks) (ko := ko) (known := known) hl (rs := D5 1024 0) (b0 := vZ.1) (s0 := vZ.2) BG (wI BG) (by simp) (by unfold cO; kernel_rfl) (by unfold cO vZ; kernel_rfl) (by unfold cO vZ; kernel_rfl)
 refine Ev.of_cw (fn := D2) (by kernel_rfl) (by kernel_rfl) hw ?_
 have hc : bn Du (oP [7] (vaE kk ks ko known l (D5 1024 0) vZ)) 215 (.ref (.ptr 1 0)) = some (.agg (ba (valuesR kk ks ko known l)).flatten) := wH rfl cn
 have hr : bl Du (mkT 63 0 [(6, .ref (.ptr 1 0))]) (oP [7] (vaE kk ks ko known l (D5 1024 0) vZ)) D2.results.toList = some [.agg (ba (valuesR kk ks ko known l)).flatten] := by
  show (match iD Du (mkT 63 0 [(6, .ref (.ptr 1 0))]) (oP [7] (vaE kk ks ko known l (D5 1024 0) vZ)) (.cell 6 215), some [] with
   | some d, some ds => some (d :: ds)
   | _, _ => none) = _
  have : iD Du (mkT 63 0 [(6, .ref (.ptr 1 0))]) (oP [7] (vaE kk ks ko known l (D5 1024 0) vZ)) (.cell 6 215) = some (.agg (ba (valuesR kk ks ko known l)).flatten) := hc
  rw [this]
 simp only [finF, pre]
 rw [hr]
 rfl
theorem qo {kk ks ko known : Int} {l : List FactT} (hl : aj l) (h : List Blk) : Ev Du Γ0 159 [ab (l.map DE), .agg [int kk, int ks, int ko], int known] h (.agg (ba (valuesR kk ks ko known l)).flatten) h :=
 Ev.frame0 rfl (by have := Ev.trim (h := []) (d := .agg (ba (valuesR kk ks ko known l)).flatten) BF rfl (yY (kk := kk) (ks := ks) (ko := ko) (known := known) hl); simpa using this) h
end Go.Vi
open Go Go.Proofs
namespace Go.Vi
set_option maxRecDepth 100000
set_option maxHeartbeats 4000000
abbrev ai (rs : List (List Dp)) : List (List D) := rs.map (Dt D.p)
theorem af (rs : List (List Dp)) (f : Ref → D) : (ai rs).map (El f) = ai rs := al f rs
theorem Ao (k : Nat) : ∀ r : List Dp, FP k (r.map .p) = true
 | [] => rfl
 | _ :: r => by simp [FP, D.inn, Ao k r]
theorem bF (rs : List (List Dp)) (k : Nat) : (ai rs).all (FP k) = true := by
 rw [Ed]
 intro r hr
 obtain ⟨x, _, rfl⟩ := D3.1 hr
 exact Ao k x
theorem rV {h : List Blk} {l r : List Int} (hb : h[1]? = some (.var (ba r).flatten)) (hr : r.length = 1024) (hl : l.length = 1024) : bM Du h 215 (.ref (.ptr 1 0)) (.agg (ba l).flatten) = some (h.set 1 (.var (ba l).flatten)) :=
 pQ qn (by rw [eX (sz := 1) (ba l) (fun r hr => by obtain ⟨_, _, rfl⟩ := D3.1 hr; rfl)]; simp only [ba, Fh, hl]; kernel_rfl)
  (by rw [eX (sz := 1) (ba l) (fun r hr => by obtain ⟨_, _, rfl⟩ := D3.1 hr; rfl), eX (sz := 1) (ba r) (fun r hr => by obtain ⟨_, _, rfl⟩ := D3.1 hr; rfl)]; simp [hl, hr]) hb
structure PtT where
 term : Int
 value : Int
 deriving Inhabited, DecidableEq
def PtT.row (p : PtT) : List Dp := [vi p.term, vi p.value]
theorem wJ {h : List Blk} {off n : Nat} {l : List Int} {v : Int} (hb : h[1]? = some (.var (ba l).flatten)) (hs : l[n]? = some v) (ho : off = n * 1) : bn Du h 3 (.ref (.ptr 1 off)) = some (int v) := by
 subst ho
 exact kQ (sz := 1) (j := 0) (row := [int v]) (by kernel_rfl) (by kernel_rfl) hb (fun r hr => by obtain ⟨_, _, rfl⟩ := D3.1 hr; rfl) (by simp [hs]) rfl
noncomputable abbrev ptH (kk ks ko : Int) (rs : List Int) (l : List PtT) : List Blk := [.var [int kk, int ks, int ko], .var (ba rs).flatten, .vec (ai (l.map PtT.row)) 0 2]
noncomputable abbrev ptS (kk ks ko to : Int) (rs : List Int) (l : List PtT) (x : Int) : AS := { t := mkT 38 0 [(3, int to), (10, .ref (.vec 2 0)), (11, .ref (.ptr 1 0)), (12, int x)], h := ptH kk ks ko rs l, m := [] }
theorem dR (f : Ref → D) (l : List Int) : El f (ba l).flatten = (ba l).flatten := by
 induction l with
 | nil => rfl
 | cons n l ih => simp only [ba, EH, EC, GZ, List.nil_append, El, D.mapR] at ih ⊢; rw [ih]
theorem tt {n : Nat} {l : List Int} {f : Ref → D} : DL n (.var (El f (ba l).flatten)) = true := by rw [dR]; exact gq
theorem ah {n : Nat} {rs : List (List Dp)} {e sz : Nat} : DL n (.vec (ai rs) e sz) = true := bF rs n
def ptF (v : Int) (n : Nat) (l : List PtT) : List PtT := bif decide (v ≥ 0) then l ++ [⟨(n : Int), v⟩] else l
theorem em (l : List PtT) (n : Nat) (v : Int) : ai (l.map PtT.row) ++ [[int (n : Int), int v]] = ai ((l ++ [PtT.mk (n : Int) v]).map PtT.row) := by simp [PtT.row]
theorem pt_b {kk ks ko to : Int} {rs : List Int} {l : List PtT} {n : Nat} {v : Int} (hv : rs[n]? = .some v) (hn : inR (n : Int) 1024 = true) (hl : l.length ≤ 2000) (hlt : decide ((n : Int) < if false = true then if 1024 > to then 1024 else to else if 1024 < to then 1024 else to) = true) (hw : Dz.wrap ((n : Int) + 1) = ((n + 1 : Nat) : Int)) : (CW Du Γ0 [] false (sub Ii 0) (ptS kk ks ko to rs l (n : Int)) .normal (ptS kk ks ko to rs (ptF v n l) ((n + 1 : Nat) : Int))) := by
 cases hc0 : decide (v ≥ 0)
 ·refine DU (DV (s' := { t := mkT 38 0 [(3, int to), (10, .ref (.vec 2 0)), (11, .ref (.ptr 1 0)), (12, int (DG Dz ((↑n : Int) + 1)))], h := [.var [int kk, int ks, int ko], .var (El (au 2 0 0) (DK (ba rs))), .vec (ai (Dt PtT.row l)) 0 2], m := [] }) (e := DQ) pok [.st (.mask [3, 10, 11, 12]), .st (.ren 2 0), .st (.trimV 3)] [.b true, .ov 27 (int v), .b false] (by kernel_rfl) (.c hlt (.c hn (.c (show bn Du [.var [int kk, int ks, int ko], .var (DK (ba rs)), .vec (ai (Dt PtT.row l)) 0 2] 3 (.ref (.ptr 1 (0 + DN (↑n : Int) * 1))) = some (int v) from ?_) (.c hc0 (.c (show Dt (El (au 2 0 0)) (ai (Dt PtT.row l)) = ai (Dt PtT.row l) from ?_) (.c (show DL 3 (match 0 == 2 with | true => .vec (ai (Dt PtT.row l)) 0 2 | false => keepX (au 2 0 0) (.var [int kk, int ks, int ko])) = true from rfl) (.c (show DL 3 (match 0 + 1 == 2 with | true => .vec (ai (Dt PtT.row l)) 0 2 | false => keepX (au 2 0 0) (.var (DK (ba rs)))) = true from ?_) (.c (show DL 3 (match 0 + 1 + 1 == 2 with | true => .vec (ai (Dt PtT.row l)) 0 2 | false => keepX (au 2 0 0) (.vec (ai (Dt PtT.row l)) 0 2)) = true from ?_) .n))))))))) (by first | (simp only []; done) | (simp only [hw, ptF, hc0, cond_true, cond_false, em, dR]; first | done | rfl)) (by first | (simp only [hw, ptF, hc0, cond_false, dR]; done) | (simp only [hw, ptF, hc0, cond_true, cond_false, em, dR]; first | done | rfl)) <;> (first | assumption | rfl | exact wJ rfl hv (by simp) | exact af _ _ | (rw [em]; exact af _ _) | exact gq | exact tt | exact ah | (rw [em]; exact ah) | exact bF _ _ | (rw [em]; exact bF _ _) | (simp [bw, GO, Ez, roomOk]; omega))
 ·let v0 : List Blk := [.var [int kk, int ks, int ko], .var (DK (ba rs)), .vec (ai (Dt PtT.row l)) 0 2]
  refine DU (DV (s' := { t := mkT 38 0 [(3, int to), (10, .ref (.vec 2 0)), (11, .ref (.ptr 1 0)), (12, int (DG Dz ((↑n : Int) + 1)))], h := [.var [int kk, int ks, int ko], .var (El (au 2 1 0) (DK (ba rs))), .vec (ai (Dt PtT.row l) ++ [[int (↑n : Int), int v]]) 0 2], m := [] }) (e := DQ) pok [.st (.mask [3, 10, 11, 12]), .st (.ren 2 0), .st (.trimV 3)] [.b true, .ov 27 (int v), .b true, .ov 33 (int v)] (by kernel_rfl) (.c hlt (.c hn (.c (show bn Du v0 3 (.ref (.ptr 1 (0 + DN (↑n : Int) * 1))) = some (int v) from ?_) (.c hc0 (.c hn (.c (show bn Du v0 3 (.ref (.ptr 1 (0 + DN (↑n : Int) * 1))) = some (int v) from ?_) (.c (show (FC [[int (↑n : Int), int v]] (bw 2) && roomOk (Dw (ai (Dt PtT.row l)) + Dw [[int (↑n : Int), int v]]) 16) = true from ?_) (.c (show Dt (El (au 2 1 0)) (ai (Dt PtT.row l) ++ [[int (↑n : Int), int v]]) = ai (Dt PtT.row l) ++ [[int (↑n : Int), int v]] from ?_) (.c (show [[int (↑n : Int), int v]] = [[int (↑n : Int), int v]] from rfl) (.c (show DL 3 (match 0 == 2 with | true => .vec (ai (Dt PtT.row l) ++ [[int (↑n : Int), int v]]) 0 2 | false => keepX (au 2 1 0) (.var [int kk, int ks, int ko])) = true from rfl) (.c (show DL 3 (match 0 + 1 == 2 with | true => .vec (ai (Dt PtT.row l) ++ [[int (↑n : Int), int v]]) 0 2 | false => keepX (au 2 1 0) (.var (DK (ba rs)))) = true from ?_) (.c (show DL 3 (match 0 + 1 + 1 == 2 with | true => .vec (ai (Dt PtT.row l) ++ [[int (↑n : Int), int v]]) 0 2 | false => keepX (au 2 1 0) (.vec (ai (Dt PtT.row l) ++ [[int (↑n : Int), int v]]) 1 2)) = true from ?_) .n))))))))))))) (by subst v0; first | (simp only []; done) | (simp only [hw, ptF, hc0, cond_true, cond_false, em, dR]; first | done | rfl)) (by subst v0; first | (simp only [hw, ptF, hc0, cond_true, dR]; done) | (simp only [hw, ptF, hc0, cond_true, em, dR]; first | done | rfl)) <;> subst v0 <;> (first | assumption | rfl | exact wJ rfl hv (by simp) | exact af _ _ | (rw [em]; exact af _ _) | exact gq | exact tt | exact ah | (rw [em]; exact ah) | exact bF _ _ | (rw [em]; exact bF _ _) | (simp [bw, GO, Ez, roomOk]; omega))
theorem BH {kk ks ko to : Int} {rs : List Int} {l : List PtT} {x : Int} (hlt : decide (x < if false = true then if 1024 > to then 1024 else to else if 1024 < to then 1024 else to) = false) : (CW Du Γ0 [] false (sub Ii 0) (ptS kk ks ko to rs l x) (.exit 0) { t := mkT 38 0 [(10, .ref (.vec 2 0))], h := ptH kk ks ko rs l, m := [] }) := by
 exact DU (DV (s' := { t := mkT 38 0 [(10, .ref (.vec 2 0))], h := [.var [int kk, int ks, int ko], .var (DK (ba rs)), .vec (ai (Dt PtT.row l)) 0 2], m := [] }) (e := Ea 0) pok [.st (.mask [10])] [.b false] (by kernel_rfl) (.c hlt .n)) (by rfl) (by rfl)
def tu (to : Int) : Int := if to < 1024 then to else 1024
theorem wK (to : Int) : (if false = true then if 1024 > to then 1024 else to else if 1024 < to then 1024 else to) = tu to := by
 unfold tu; simp; split <;> split <;> omega
def Ap (rs : List Int) (x to : Int) : List PtT := (EL x.toNat (tu to - x).toNat).foldl (fun l n => ptF (rs.getD n 0) n l) []
theorem wL (v : Int) (n : Nat) (l : List PtT) : (ptF v n l).length ≤ l.length + 1 := by unfold ptF; cases decide (v ≥ 0) <;> simp
theorem pt_cw {kk ks ko to : Int} {rs : List Int} (hr : rs.length = 1024) {x : Int} (hx : 0 ≤ x) :
  CW Du Γ0 [] false (.loop (sub Ii 0)) (ptS kk ks ko to rs [] x) (.exit 0) { t := mkT 38 0 [(10, .ref (.vec 2 0))], h := ptH kk ks ko rs (Ap rs x to), m := [] } := by
 have hx' : ((x.toNat : Nat) : Int) = x := by omega
 have hh : tu to ≤ 1024 := by unfold tu; split <;> omega
 have := CW.each (P := Du) (Γ := Γ0) (h0 := []) (rd := false) (c := sub Ii 0) (σ := List PtT) (ρ := Empty) (EL x.toNat (tu to - x).toNat) (fun n l => .inl (ptF (rs.getD n 0) n l))
  (fun i l => ptS kk ks ko to rs l (x + (i : Int))) (.exit 0) (fun l => { t := mkT 38 0 [(10, .ref (.vec 2 0))], h := ptH kk ks ko rs l, m := [] }) (fun r => r.elim)
  (fun i l => l.length ≤ i) (by simp) (fun r => r.elim) ?_ ?_ [] (by simp)
 ·rw [aY (fun l n => ptF (rs.getD n 0) n l)] at this
  simpa [ck, Ap] using this
 ·intro i n l hn hs
  obtain ⟨hi, he⟩ := DA.1 hn
  simp only [List.length_range'] at hi
  simp only [List.getElem_range', I5] at he
  have hlt : (n : Int) < tu to := by omega
  have hb : rs[n]? = some (rs.getD n 0) := by
   rw [D9, DT (by rw [hr]; omega)]; rfl
  refine ⟨fun s' h => by cases h; have := wL (rs.getD n 0) n l; omega, ?_⟩
  have key := pt_b (kk := kk) (ks := ks) (ko := ko) (to := to) (l := l) hb (by simp [inR]; omega) (by omega) (by rw [wK]; simpa using hlt) (by rw [wrap_i64 (by omega) (by omega)]; omega)
  have e1 : x + (i : Int) = (n : Int) := by omega
  have e2 : x + ((i + 1 : Nat) : Int) = ((n + 1 : Nat) : Int) := by omega
  simp only [ad, e1, e2]
  exact key
 ·intro l _
  refine BH ?_
  rw [wK]
  simp
  omega
def ptLo (frm : Int) : Int := if true = true then if frm > 0 then frm else 0 else if frm < 0 then frm else 0
def bi (kk ks ko frm to known : Int) (l : List FactT) : List PtT := Ap (valuesR kk ks ko known l) (ptLo frm) to
theorem ol (frm : Int) : 0 ≤ (if true = true then if frm > 0 then frm else 0 else if frm < 0 then frm else 0) := by simp; split <;> omega
theorem yZ {kk ks ko frm to known : Int} {l : List FactT} (hl : aj l) {r0 : List Int} (e1 : cO Du [.var [int kk, int ks, int ko]] 215 (.ref (.ptr 1 0)) [.var [int kk, int ks, int ko], .var (ba r0).flatten]) (h0 : r0.length = 1024) (h : List Blk) : (Ev Du Γ0 111 [ab (l.map DE), .agg [int kk, int ks, int ko], int frm, int to, int known] h (ab ((bi kk ks ko frm to known l).map PtT.row)) h) := by
 have hl0 := (@pt_cw (kk) (ks) (ko) (to) (valuesR kk ks ko known l) (by first | assumption | rfl | exact cn | exact ol _ | exact rV rfl h0 cn | (simp; done)) (if true = true then if frm > 0 then frm else 0 else if frm < 0 then frm else 0) (by first | assumption | rfl | exact cn | exact ol _ | exact rV rfl h0 cn | (simp; done)))
 let v0 := DK (ba (valuesR kk ks ko known l))
 let v1 := Dt PtT.row (Ap (valuesR kk ks ko known l) (if true = true then if frm > 0 then frm else 0 else if frm < 0 then frm else 0) to)
 let v2 : List Blk := [.var [int kk, int ks, int ko], .var (DK (ba r0))]
 let v3 := Dt PtT.row (bi kk ks ko frm to known l)
 refine DI (Ev.sym0 (d := ab v3) pok [.val (EB v0), .oh 11 (.ref (.ptr 1 0)) v2, .oh 10011 D.any [.var [int kk, int ks, int ko], .var v0], .nx 1, .st (.nilT 10 2), .sum [3, 10, 11, 12] (Ea 0) { t := mkT 38 0 [(10, .ref (.vec 2 0))], h := [.var [int kk, int ks, int ko], .var v0, .vec (ai v1) 0 2], m := [] }, .st (.frz 2 v3)] (by kernel_rfl) (.c (@qo kk ks ko known l hl ([.var [int kk, int ks, int ko]])) (.c (show cO Du [.var [int kk, int ks, int ko]] 215 (.ref (.ptr 1 0)) v2 from ?_) (.c (show bM Du v2 215 (.ref (.ptr 1 0)) (EB v0) = some [.var [int kk, int ks, int ko], .var v0] from ?_) (.c hl0 (.c (show ai v1 = Dt (fun x => Dt D.p x) v3 from ?_) .n))))) rfl rfl h) (by rfl) (by rfl) <;> subst v0 v1 v2 v3 <;> (first | assumption | rfl | exact cn | exact ol _ | exact rV rfl h0 cn | (simp; done))
theorem qp {kk ks ko frm to known : Int} {l : List FactT} (hl : aj l) (h : List Blk) : Ev Du Γ0 111 [ab (l.map DE), .agg [int kk, int ks, int ko], int frm, int to, int known] h (ab ((bi kk ks ko frm to known l).map PtT.row)) h :=
 yZ hl (r0 := D5 1024 0) (by unfold cO; kernel_rfl) (by simp) h
end Go.Vi
open Go Go.Proofs Go.Shelf Go.RowKit Go.Sort
namespace Go.Vi
abbrev jH {α : Type} (enc : α → List Value) (l : List α) : List (List D) := l.map fun x => (enc x).map lit
theorem mW {w : World} {av : Nat → Prop} {loc : Loc} {h : List Blk} : ∀ {vs ys : List Value}, RelL w av loc h (vs.map lit) ys → ys = vs
  | [], [], _ => rfl
  | [], _ :: _, r => by simp [RelL] at r
  | _ :: _, [], r => by simp [RelL] at r
  | v :: vs, y :: ys, r => by
    simp only [EH, RelL] at r
    have h1 : y = v := by simpa [Rel, RelP] using r.1
    rw [h1, mW r.2]
theorem eZ {w : World} {av : Nat → Prop} {loc : Loc} {h : List Blk} : ∀ {vs : List Value}, RelL w av loc h (vs.map lit) vs
  | [] => trivial
  | v :: vs => by
    simp only [EH, RelL]
    exact ⟨by simp [Rel, RelP], eZ⟩
theorem mX {α : Type} (enc : α → List Value) (l : List α) : (jH enc l).flatten = ((l.map enc).flatten).map lit := by
  induction l with
  | nil => rfl
  | cons a l ih => simp only [jH, EH, EC, Ey] at ih ⊢; rw [ih]
theorem jb {α : Type} [Inhabited α] (enc : α → List Value) (k : Nat) (hk : ∀ x, (enc x).length = k) (l : List α) : (flatK enc k l.toArray).toList = (l.map enc).flatten := by
  have key : ∀ (l : List α) (t : Nat), t < l.length * k → ((l.map enc).flatten)[t]? = some ((enc (l.toArray[t / k]!))[t % k]!) := by
    intro l
    induction l with
    | nil => intro t h; simp at h
    | cons a l ih =>
      intro t h
      simp only [EH, EC]
      rcases Nat.lt_or_ge t k with hlt | hge
      · rw [DP (by rw [hk]; exact hlt), Nat.div_eq_of_lt hlt, Nat.mod_eq_of_lt hlt]
        have : t < (enc a).length := by rw [hk]; exact hlt
        simp [this]
      · have k0 : 0 < k := by rcases Nat.eq_zero_or_pos k with h0 | h0
                              · subst h0; simp at h
                              · exact h0
        rw [Ep (by rw [hk]; exact hge), hk]
        obtain ⟨u, rfl⟩ : ∃ u, t = u + k := ⟨t - k, by omega⟩
        have hu : u < l.length * k := by simp only [Ef, Nat.add_mul, I5] at h; omega
        rw [show u + k - k = u by omega, ih u hu, Nat.add_div_right _ k0, Nat.add_mod_right]
        simp
  apply Gf
  intro t
  have hlen : ((l.map enc).flatten).length = l.length * k := by
    clear key
    induction l with
    | nil => simp
    | cons a l ih => simp only [EH, EC, List.length_append, hk, ih, Ef, Nat.add_mul, I5]; omega
  by_cases ht : t < l.length * k
  · rw [key l t ht]
    simp [flatK, ht]
  · rw [ET (by simp [flatK]; omega), ET (by omega)]
theorem uB {w w' : World} (h1 : w.heap.size ≤ w'.heap.size) (h2 : ∀ k, k < w.heap.size → w'.heap[k]? = w.heap[k]?) (h3 : w'.tape = w.tape ∧ w'.os = w.os ∧ w'.output = w.output ∧ w.drawn ≤ w'.drawn) :
    ∃ q os', w' = Hb (w.drewN q) os' := by
  refine ⟨w'.drawn - w.drawn, w'.heap.extract w.heap.size w'.heap.size, ?_⟩
  obtain ⟨heap, tape, drawn, os, output⟩ := w
  obtain ⟨heap', tape', drawn', os', output'⟩ := w'
  obtain ⟨rfl, rfl, rfl, h4⟩ := h3
  simp only [Hb, World.drewN] at h1 h2 h4 ⊢
  congr 1
  · apply Array.ext'
    rw [Array.toList_append, Array.toList_extract]
    apply Gf
    intro i
    by_cases hi : i < heap.size
    · rw [DP (by simpa using hi)]
      have := h2 i hi
      rw [← Eu, ← Eu] at this
      exact this
    · rw [Ep (by simpa using FZ hi)]
      simp only [List.extract_eq_take_drop, Array.length_toList]
      by_cases hj : i < heap'.size
      · rw [List.getElem?_take, if_pos (by omega), List.getElem?_drop]
        congr 1; omega
      · rw [ET (by simpa using FZ hj), ET (by simp; omega)]
  · omega
theorem uC {P : Program} {Γ : am} {O : Nat → Prop} {α : Type} [Inhabited α] {enc : α → List Value} {k g : Nat} {cf : α → α → Int} {w : World} {loc : Loc} {h : List Blk} (R : Rep Γ O w loc h) {blk : Nat} (hblk : avs O loc h blk)
    (hE : ∀ x y, Ev P Γ g [.agg ((enc x).map lit), .agg ((enc y).map lit)] [] (int (cf x y)) []) (size : Nat) : CmpLays P g #[] enc k cf blk 0 size w := by
  intro m os dk hs x y
  generalize hW : sortWorldK enc k w blk 0 m dk os = W
  have hb : blk < w.heap.size := by
    rcases hblk with ho | ho
    · exact R.obd blk ho
    · exact (R.inb blk ho).1
  have hcell : ∀ b off v, ¬ avs O loc h b → w.cell? ⟨b, off, none⟩ = some v → W.cell? ⟨b, off, none⟩ = some v ∧ ¬ avs (fun _ => False) loc [] b := by
    intro b off v hn hc
    have hne : b ≠ blk := fun e => hn (e ▸ hblk)
    refine ⟨?_, fun ho => ho.elim id (fun h => absurd h cA)⟩
    subst hW
    have hlt : b < w.heap.size := by
      simp only [IC] at hc
      split at hc
      · rename_i hx; exact (Fo.1 hx).1
      · simp at hc
    have : (sortWorldK enc k w blk 0 m dk os).heap[b]? = w.heap[b]? := by
      unfold sortWorldK
      rw [GS _ _ (by simpa [putRowK, Fj, Fi, Fs] using hlt)]
      simp [putRowK, Fj, Fi, Fs, Gi, Ne.symm hne]
    simp only [IC, this]
    exact hc
  have R0 : Rep Γ (fun _ => False) W loc [] := by
    refine ⟨fun blk ho => absurd ho cA, fun blk ho => ho.elim, fun b b' x x' k c c' hb => by simp at hb, fun b x hb => by simp at hb, fun g cs hg => ?_⟩
    exact RelCells.mono hcell g 0 cs (R.glo g cs hg)
  have ra : RelL W (avs (fun _ => False) loc []) loc [] [.agg ((enc x).map lit), .agg ((enc y).map lit)] [.agg (enc x).toArray, .agg (enc y).toArray] := by
    refine ⟨⟨_, rfl, eZ⟩, ⟨_, rfl, eZ⟩, trivial⟩
  refine I6 (callsIn_wide.1 (hE x y (fun _ => False) W loc _ R0 ra)) ?_
  rintro e w' ⟨v, d2, h2, l', rfl, ⟨rfl, rfl⟩, R', E', rd⟩
  refine ⟨?_, uB E'.size (fun b hb => E'.same b hb cA) E'.tape⟩
  have : v = .int .i64 (cf x y) := by simpa [Rel, RelP] using rd
  rw [this]
theorem jy {P : Program} {ρ : Ren} {Γ : am} (ok : POk P) (L : SlLaysF0.n6 P ρ) {α : Type} [Inhabited α] {enc : α → List Value} {k : Nat} (aE : ∀ w, (isAgg (ρ.t 24)).run P w = .ok true w) (zE : ∀ w, (Go.sizeOf (ρ.t 24)).run P w = .ok k w) (hk : ∀ x, (enc x).length = k) (h1 : ∀ x, ∀ v ∈ enc x, v.oneCell' = true)
    {cf : α → α → Int} (hO : Sort.SWO (ltOf cf)) {g : Nat} (hg : ez P g = true) (hE : ∀ x y, Ev P Γ g [.agg ((enc x).map lit), .agg ((enc y).map lit)] [] (int (cf x y)) [])
    {h : List Blk} {b e : Nat} {l : List α} (hb : h[b]? = some (.vec (jH enc l) e k)) (hl : l.length < 4611686018427387904) (hT : ∀ x ∈ l, ∀ y ∈ l, (ltOf cf) x y = false → (ltOf cf) y x = false → x = y) :
    Ev P Γ (ρ.f 6) [.ref (.vec b e), .p (.v (.func (.func g) #[] #[]))] h (.tup []) (h.set b (.vec (jH enc (l.mergeSort fun x y => !(ltOf cf) y x)) e k)) := by
  intro O w loc vs R ra
  obtain ⟨y, rfl⟩ : ∃ y, vs = [y, .func (.func g) #[] #[]] := by
    match vs, ra with
    | [y, z], r => exact ⟨y, by have : z = .func (.func g) #[] #[] := by simpa [Rel, RelP, RelL] using r.2
                                rw [this]⟩
    | [], r => simp [RelL] at r
    | [_], r => simp [RelL] at r
    | _ :: _ :: _ :: _, r => simp [RelL] at r
  have r := ra.1
  simp only [Rel, RefRel, hb] at r
  have hv := r.2.2 trivial
  have B := R.blk b _ hb
  simp only [BlkOk] at B
  have hlen : (jH enc l).length = l.length := by simp [jH]
  refine callsIn_wide.2 ?_
  cases hlb : loc b with
  | none =>
    rw [hlb] at hv B
    obtain ⟨hn, rfl⟩ := hv
    have hl0 : l = [] := by simpa [jH] using hn
    subst hl0
    refine I6 (AnyF.slices_SortFunc_none L none 0 _ w) ?_
    rintro e' w' ⟨rfl, rfl⟩
    have hset : h.set b (.vec (jH enc (([] : List α).mergeSort fun x y => !(ltOf cf) y x)) e k) = h := by
      apply Gf
      intro i
      by_cases hi : i = b
      · subst hi; rw [bc hb, hb]; simp
      · rw [bJ _ _ hi]
    refine ⟨.tuple #[], .tup [], _, loc, rfl, ⟨rfl, rfl⟩, ?_, ?_, ?_⟩
    · rw [hset]; exact R
    · rw [hset]; exact Ext.refl _ _ _
    · simp [Rel, RelL]
  | some p =>
    obtain ⟨blk, cap⟩ := p
    rw [hlb] at hv B
    obtain ⟨rfl, hcap⟩ := hv
    simp only at B
    obtain ⟨c, T, fr, ys, hobj, hcs, hle, hfr, hsz, hrel, rest, hcl⟩ := B
    rw [mX] at hrel
    have hys := mW hrel
    subst hys
    have hblk : blk < w.heap.size := (Fo.1 hobj).1
    have hown : avs O loc h blk := .inr ⟨b, _, cap, hb, by simp, hlb⟩
    have hH : HoldsK enc k w blk 0 l.toArray := by
      intro j hj
      have hj' : j < l.length * k := by simpa using hj
      have hc : c[j]? = some (flatK enc k l.toArray)[j]! := by
        rw [← Eu, hcl, ← jb enc k hk l, DP (by simpa using hj')]
        rw [Eu, getElem!_pos _ j (by simpa using hj')]
        exact Eh _
      constructor
      · simp [IC, hobj, hc]
      · have := hfr j (Fo.1 hc).1
        obtain ⟨lo, hi⟩ := fr
        simp only [World.frozen?, hobj, Nat.zero_add]
        rw [← Gs]
        simpa using this
    have eg : ∀ args w, (callFunc g args).run P w = .ok (.enter g args) w := fun args w => by
      unfold ez at hg
      split at hg
      · rename_i fn hfn; exact call_run ok hfn hg args w
      · simp at hg
    rw [hlen]
    refine I6 (AnyQ.slices_SortFunc L k aE zE enc hk h1 cf hO g #[] blk 0 cap l.toArray w eg (uC R hown hE _) hH hblk hl) ?_
    rintro e' w' ⟨rfl, d', n, os, hP, hS, rfl⟩
    have hd' : d'.toList = l.mergeSort fun x y => !(ltOf cf) y x := by
      obtain ⟨hsz', _, hperm⟩ := hP
      have e1 : d'.extract 0 l.toArray.size = d' := by rw [← hsz']; exact I7
      rw [e1, I7] at hperm
      refine List.Perm.eq_of_pairwise (le := fun x y => (!(ltOf cf) y x) = true) ?_ ?_ ?_ (hperm.trans (GI _ _).symm)
      · intro a b' ha hb' h1 h2
        simp only [EU] at h1 h2
        have ha' : a ∈ l := by simpa using hperm.mem_iff.1 ha
        have hb2 : b' ∈ l := (GI _ _).mem_iff.1 hb'
        exact hT a ha' b' hb2 h2 h1
      · rw [List.pairwise_iff_getElem]
        intro i j hi hj hij
        have hi' : i < d'.size := by simpa using hi
        have hj' : j < d'.size := by simpa using hj
        have := hS i j (Nat.zero_le _) hij (by omega)
        rw [getElem!_pos d' j hj', getElem!_pos d' i hi'] at this
        simpa using this
      · exact List.pairwise_mergeSort (fun a b c h1 h2 => by
          simp only [EU] at h1 h2 ⊢
          exact hO.ntrans _ _ _ h2 h1) (fun a b => by
          cases hab : (ltOf cf) b a
          · simp
          · have : (ltOf cf) a b = false := by
              cases hba : (ltOf cf) a b
              · rfl
              · have := hO.trans _ _ _ hab hba
                rw [hO.irrefl] at this; exact absurd this (by simp)
            simp [this]) l
    have hdA : d' = (l.mergeSort fun x y => !(ltOf cf) y x).toArray := by rw [← hd']
    have hlm : (l.mergeSort fun x y => !(ltOf cf) y x).length = l.length := by simp
    subst hdA
    clear hP hS hd'
    generalize (l.mergeSort fun x y => !(ltOf cf) y x) = m at hlm ⊢
    have hobj' : (sortWorldK enc k w blk 0 n m.toArray os).heap[blk]? = some (.cells (FK id 0 (flatK enc k m.toArray) c) T fr) := by
      unfold sortWorldK
      rw [GS _ _ (by simpa [putRowK, Fj, Fi, Fs] using hblk)]
      simp [putRowK, Fj, Fi, Fs, Gi, hobj, Sort.onCells]
    have hfl : ((l.map enc).flatten).length = l.length * k := by rw [← jb enc k hk]; simp
    have hcells : (FK id 0 (flatK enc k m.toArray) c).toList = (m.map enc).flatten ++ rest := by
      unfold FK
      rw [Array.toList_mapIdx, hcl, ← jb enc k hk m]
      apply Gf
      intro i
      rw [List.getElem?_mapIdx]
      by_cases hi : i < l.length * k
      · rw [DP (by rw [hfl]; exact hi), DP (by simpa [hlm] using hi)]
        have hi2 : i < ((l.map enc).flatten).length := by rw [hfl]; exact hi
        have hi3 : i < (flatK enc k m.toArray).size := by simpa [hlm] using hi
        rw [DT hi2, Eu, Eh hi3]
        simp only [Option.map_some, Nat.zero_add, Nat.zero_le, Nat.sub_zero, true_and, id_eq, if_pos hi3]
        rw [getElem!_pos _ i hi3]
      · rw [Ep (by rw [hfl]; exact FZ hi), Ep (by simpa [hlm] using FZ hi)]
        simp [hi, hlm, hfl]
    have key := R.step (w' := sortWorldK enc k w blk 0 n m.toArray os) (l' := loc) (h' := h.set b (.vec (jH enc m) e k)) b (.vec (jH enc m) e k)
      (by simp [sortWorldK, Hb, putRowK, Fj, Fi, Fs]) ⟨rfl, rfl, rfl, by simp [sortWorldK, Hb, putRowK, Fj, Fi, Fs]⟩ (fun i hi => bJ _ _ hi) (bc hb) (fun _ _ => rfl)
      (fun z hz => by rw [hb] at hz; cases hz; exact ⟨⟨Nat.le_refl _, fun _ => by simp [jH, hlm], rfl⟩, fun _ => rfl⟩)
      (fun k' hk' hno => by
        have hkb : k' ≠ blk := fun e => hno _ cap hb (by simp) (by rw [hlb, e])
        unfold sortWorldK
        rw [GS _ _ (by simpa [putRowK, Fj, Fi, Fs] using hk')]
        simp [putRowK, Fj, Fi, Fs, Gi, Ne.symm hkb])
      (fun k' c' hk' => .inl ⟨_, c', hb, by simp, hk'⟩)
      (fun E => by
        simp only [BlkOk, hlb]
        refine ⟨_, T, fr, (m.map enc).flatten, hobj', ?_, ?_, ?_, ?_, ?_, rest, hcells⟩
        · simpa [FK] using hcs
        · simpa [jH, hlm] using hle
        · simpa [FK] using hfr
        · intro r hr
          obtain ⟨x, _, rfl⟩ := D3.1 hr
          simp [hk]
        · rw [mX]; exact eZ)
    exact ⟨.tuple #[], .tup [], _, loc, rfl, ⟨rfl, rfl⟩, key.1, key.2, by simp [Rel, RelL]⟩
end Go.Vi
open Go Go.Proofs Go.Shelf
namespace Go.Proofs
def Tryz.sortAtt_ren : Go.Shelf.Ren := ⟨fun | 6 => 117 | 15 => 122 | 14 => 162 | 28 => 173 | 29 => 174 | 20 => 200 | 21 => 201 | 22 => 202 | 23 => 203 | 24 => 204 | 25 => 205 | 26 => 206 | 27 => 207 | 46 => 227 | 47 => 211 | 48 => 212 | 49 => 228 | 50 => 229 | 57 => 235 | n => n, fun | 22 => 45 | 24 => 52 | 25 => 144 | 3 => 3 | 39 => 192 | 0 => 0 | 53 => 233 | 55 => 169 | 4 => 4 | 46 => 227 | 45 => 226 | 50 => 150 | 5 => 5 | 9 => 9 | 66 => 251 | 70 => 255 | 76 => 265 | 77 => 266 | n => n, fun | n => n⟩
theorem Tryz.sortAtt : H7 Du Tryz.sortAtt_ren := {
 mixed := by kernel_rfl
 f6 := ⟨Tryz.f117.name, by decide, Tryz.func117.trans (congrArg some (by kernel_rfl))⟩
 f14 := ⟨Tryz.f162.name, by decide, Tryz.func162.trans (congrArg some (by kernel_rfl))⟩
 f15 := Tryz.func122.trans (congrArg some (by kernel_rfl))
 f20 := ⟨Tryz.f200.name, by decide, Tryz.func200.trans (congrArg some (by kernel_rfl))⟩
 f21 := ⟨Tryz.f201.name, by decide, Tryz.func201.trans (congrArg some (by kernel_rfl))⟩
 f22 := ⟨Tryz.f202.name, by decide, Tryz.func202.trans (congrArg some (by kernel_rfl))⟩
 f23 := ⟨Tryz.f203.name, by decide, Tryz.func203.trans (congrArg some (by kernel_rfl))⟩
 f24 := ⟨Tryz.f204.name, by decide, Tryz.func204.trans (congrArg some (by kernel_rfl))⟩
 f25 := ⟨Tryz.f205.name, by decide, Tryz.func205.trans (congrArg some (by kernel_rfl))⟩
 f26 := ⟨Tryz.f206.name, by decide, Tryz.func206.trans (congrArg some (by kernel_rfl))⟩
 f27 := ⟨Tryz.f207.name, by decide, Tryz.func207.trans (congrArg some (by kernel_rfl))⟩
 f28 := Tryz.func173.trans (congrArg some (by kernel_rfl))
 f29 := Tryz.func174.trans (congrArg some (by kernel_rfl))
 f46 := ⟨Tryz.f227.name, by decide, Tryz.func227.trans (congrArg some (by kernel_rfl))⟩
 f47 := Tryz.func211.trans (congrArg some (by kernel_rfl))
 f48 := Tryz.func212.trans (congrArg some (by kernel_rfl))
 f49 := ⟨Tryz.f228.name, by decide, Tryz.func228.trans (congrArg some (by kernel_rfl))⟩
 f50 := ⟨Tryz.f229.name, by decide, Tryz.func229.trans (congrArg some (by kernel_rfl))⟩
 f57 := ⟨Tryz.f235.name, by decide, Tryz.func235.trans (congrArg some (by kernel_rfl))⟩
 t0 := Tryz.underlying0
 a0 := Tryz.isAgg0
 z0 := Tryz.sizeOf0
 v0 := Tryz.zeroValue0
 t3 := Tryz.underlying3
 a3 := Tryz.isAgg3
 z3 := Tryz.sizeOf3
 v3 := Tryz.zeroValue3
 t4 := Tryz.underlying4
 a4 := Tryz.isAgg4
 z4 := Tryz.sizeOf4
 v4 := Tryz.zeroValue4
 t5 := Tryz.underlying5
 a5 := Tryz.isAgg5
 z5 := Tryz.sizeOf5
 v5 := Tryz.zeroValue5
 t9 := Tryz.underlying9
 a9 := Tryz.isAgg9
 z9 := Tryz.sizeOf9
 v9 := Tryz.zeroValue9
 t22 := Tryz.underlying45
 a22 := Tryz.isAgg45
 z22 := Tryz.sizeOf45
 v22 := Tryz.zeroValue45
 t25 := Tryz.underlying144
 a25 := Tryz.isAgg144
 z25 := Tryz.sizeOf144
 v25 := Tryz.zeroValue144
 t39 := Tryz.underlying192
 a39 := Tryz.isAgg192
 z39 := Tryz.sizeOf192
 v39 := Tryz.zeroValue192
 t45 := Tryz.underlying226
 a45 := Tryz.isAgg226
 z45 := Tryz.sizeOf226
 v45 := Tryz.zeroValue226
 t46 := Tryz.underlying227
 a46 := Tryz.isAgg227
 z46 := Tryz.sizeOf227
 v46 := Tryz.zeroValue227
 t50 := Tryz.underlying150
 a50 := Tryz.isAgg150
 z50 := Tryz.sizeOf150
 v50 := Tryz.zeroValue150
 t53 := Tryz.underlying233
 a53 := Tryz.isAgg233
 z53 := Tryz.sizeOf233
 v53 := Tryz.zeroValue233
 t55 := Tryz.underlying169
 a55 := Tryz.isAgg169
 z55 := Tryz.sizeOf169
 v55 := Tryz.zeroValue169
 t66 := Tryz.underlying251
 a66 := Tryz.isAgg251
 z66 := Tryz.sizeOf251
 v66 := Tryz.zeroValue251
 t70 := Tryz.underlying255
 a70 := Tryz.isAgg255
 z70 := Tryz.sizeOf255
 v70 := Tryz.zeroValue255
 t76 := Tryz.underlying265
 a76 := Tryz.isAgg265
 z76 := Tryz.sizeOf265
 v76 := Tryz.zeroValue265
 t77 := Tryz.underlying266
 a77 := Tryz.isAgg266
 z77 := Tryz.sizeOf266
 v77 := Tryz.zeroValue266 }
end Go.Proofs
namespace Go.Vi
open Go.Sort
def BI (a b : AttT) : Int := orI (aW a.term b.term) (aW a.course b.course)
def leA (a b : AttT) : Bool := !(ltOf BI) b a
theorem wM (a b : AttT) : (ltOf BI) a b = true ↔ a.term < b.term ∨ (a.term = b.term ∧ a.course < b.course) := by
 unfold ltOf BI orI aW
 simp only [decide_eq_true_eq]
 repeat' split
 all_goals simp_all
 all_goals omega
theorem om (a b : AttT) : (ltOf BI) a b = false ↔ ¬ (a.term < b.term ∨ (a.term = b.term ∧ a.course < b.course)) := by
 rw [← wM, Gs]
theorem swoA : SWO (ltOf BI) where
 irrefl x := by rw [om]; omega
 trans x y z h1 h2 := by rw [wM] at *; omega
 ntrans x y z h1 h2 := by rw [om] at *; omega
def encA (a : AttT) : List Value := [.int .i64 a.course, .int .i64 a.term, .int .i64 a.grade, .int .i64 a.campus, .int .i64 a.credits]
abbrev BJ (l : List AttT) : List (List D) := l.map fun a => a.row.map .p
theorem uD {h : List Blk} {b e : Nat} {l : List AttT} (hb : h[b]? = some (.vec (BJ l) e 5)) (hl : l.length < 4611686018427387904) (hT : ∀ x ∈ l, ∀ y ∈ l, x.term = y.term → x.course = y.course → x = y) :
  Ev Du Γ0 117 [.ref (.vec b e), .p (.v (.func (.func 79) #[] #[]))] h (.tup []) (h.set b (.vec (BJ (l.mergeSort leA)) e 5)) :=
 jy (α := AttT) (enc := encA) (k := 5) (cf := BI) pok Tryz.sortAtt Tryz.isAgg52 Tryz.sizeOf52 (fun _ => rfl) (fun x v hv => by simp [encA] at hv; rcases hv with rfl | rfl | rfl | rfl | rfl <;> rfl) swoA (by kernel_rfl) (fun x y => yJ []) hb hl
  (fun x hx y hy h1 h2 => by
   rw [om] at h1 h2
   exact hT x hx y hy (by omega) (by omega))
end Go.Vi
open Go Go.Proofs
namespace Go.Vi
set_option maxRecDepth 100000
set_option maxHeartbeats 4000000
structure ReadT where
 kind : Int
 sub : Int
 obj : Int
 frm : Int
 til : Int
 deriving Inhabited, DecidableEq
def ReadT.row (r : ReadT) : List Dp := [vi r.kind, vi r.sub, vi r.obj, vi r.frm, vi r.til]
abbrev rdR (l : List ReadT) : List (List Dp) := l.map ReadT.row
theorem rd_ok (l : List ReadT) : (ai (rdR l)).all (bw 5) = true := by
 rw [Ed]
 intro r hr
 obtain ⟨x, hx, rfl⟩ := D3.1 hr
 obtain ⟨y, _, rfl⟩ := D3.1 hx
 rfl
abbrev lkH (w : WorldT) (known : Int) (rs : List ReadT) (e : Nat) : List Blk := [.var [.ref (.vec 1 e), ab (w.c.map DF), ab w.p, ab (w.s.map DJ), ab (w.f.map DE), int known], .vec (ai (rdR rs)) e 5]
theorem tw {w : WorldT} {known : Int} {rs qs : List ReadT} (hb : rs.length + qs.length ≤ 1000000000) : (Ev Du Γk 119 [.ref (.ptr 0 0), ab (rdR qs)] (lkH w known rs 0) (.tup []) (lkH w known (rs ++ qs) 1)) := by
 refine DI (FT (h' := [.var [.ref (.vec 1 1), ab (Dt DF w.c), ab w.p, ab (Dt DJ w.s), ab (Dt DE w.f), int known], .vec (ai (rdR rs) ++ Dt (fun x => Dt D.p x) (rdR qs)) 1 5]) (d := Es []) pok [] (by kernel_rfl) (.c (show (FC (Dt (fun x => Dt D.p x) (rdR qs)) (bw 5) && roomOk (Dw (ai (rdR rs)) + Dw (Dt (fun x => Dt D.p x) (rdR qs))) 40) = true from (by first | assumption | rfl | omega | (simp only [rd_ok, roomOk, E5, DB, decide_eq_true_eq, Fh]; omega))) .n)) ?_ ?_ <;> (first | rfl | (simp only [lkH, rdR, ai, Ey]; rfl) | (simp only [lkH, rdR, ai, Ey]; done))
theorem qr {w : WorldT} {known : Int} {rs : List ReadT} {q : ReadT} (hb : rs.length ≤ 999999999) : (Ev Du Γk 119 [.ref (.ptr 0 0), .ref (.vec 2 0)] (lkH w known rs 0 ++ [.vec [[int q.kind, int q.sub, int q.obj, int q.frm, int q.til]] 0 5]) (.tup []) (lkH w known (rs ++ [q]) 1 ++ [.vec [[int q.kind, int q.sub, int q.obj, int q.frm, int q.til]] 0 5])) := by
 let v0 : List D := [int q.kind, int q.sub, int q.obj, int q.frm, int q.til]
 refine DI (FT (h' := [.var [.ref (.vec 1 1), ab (Dt DF w.c), ab w.p, ab (Dt DJ w.s), ab (Dt DE w.f), int known], .vec (ai (rdR rs) ++ [v0]) 1 5, .vec [v0] 0 5]) (d := Es []) pok [] (by kernel_rfl) (.c (show (FC [v0] (bw 5) && roomOk (Dw (ai (rdR rs)) + Dw [v0]) 40) = true from (by subst v0; first | assumption | rfl | omega | (simp [bw, GO, Ez, roomOk]; omega))) .n)) ?_ ?_ <;> subst v0 <;> (first | rfl | (simp only [lkH, rdR, ai, Ey]; rfl) | (simp only [lkH, rdR, ai, Ey]; done))
def rdN : ReadT := ⟨12, 0, 0, 0, 1⟩
theorem rW {w : WorldT} (hw : w.ok) {known : Int} (h : List Blk) : Ev Du Γk 34 [.agg w.l, int known] h (.tup [ab ((ae w.f known).map fun n => [vi n]), .ref (.vec h.length 0)]) (h ++ [.vec (ai (rdR [rdN])) 0 5]) :=
 Ev.glob0 (lj hw.lf hw.sf h)
def rdT (kk ks ko term : Int) : List ReadT := match outB term with
 | true => []
 | false => [⟨kk, ks, ko, term, Dz.wrap (term + 1)⟩]
theorem BK (kk ks ko term : Int) : lg kk ks ko term = rdR (rdT kk ks ko term) := by
 unfold lg rdT
 cases outB term <;> rfl
theorem rdT_len (kk ks ko term : Int) : (rdT kk ks ko term).length ≤ 1 := by unfold rdT; cases outB term <;> simp
theorem jc {w : WorldT} (hw : w.ok) {n term known : Int} (h : List Blk) : Ev Du Γk 161 [.agg w.l, int n, int term, int known] h (.tup [ag (ac w n term known).1.row, ab (rdR (rdT 1 n 0 term)), bool (ac w n term known).2]) h := by
 rw [← BK]; exact uz hw h
noncomputable abbrev lm (w : WorldT) (known : Int) (rs : List ReadT) : List Blk := [.var [.ref (.vec 1 1), ab (Dt DF w.c), ab w.p, ab (Dt DJ w.s), ab (Dt DE w.f), int known], .vec (ai (rdR (rs ++ [rdN]))) 1 5, .vec [[int rdN.kind, int rdN.sub, int rdN.obj, int rdN.frm, int rdN.til]] 0 5]
noncomputable abbrev rX (w : WorldT) (known : Int) (rs : List ReadT) : List Blk := [.var [.ref (.vec 1 0), ab (Dt DF w.c), ab w.p, ab (Dt DJ w.s), ab (Dt DE w.f), int known], .vec (ai (rdR rs)) 0 5, .vec [[int rdN.kind, int rdN.sub, int rdN.obj, int rdN.frm, int rdN.til]] 0 5]
noncomputable abbrev rY (w : WorldT) (known : Int) (rs : List ReadT) : List Blk := [.var [.ref (.vec 1 0), ab (Dt DF w.c), ab w.p, ab (Dt DJ w.s), ab (Dt DE w.f), int known], .vec (ai (rdR rs)) 0 5]
theorem oo {w : WorldT} (hw : w.ok) {known : Int} {rs : List ReadT} (hb : rs.length ≤ 999999000) : (Ev Du Γk 62 [.ref (.ptr 0 0)] (lkH w known rs 0) (ab ((ae w.f known).map fun n => [vi n])) (lkH w known (rs ++ [rdN]) 1)) := by
 let v0 : List D := [.ref (.vec 1 1), ab (Dt DF w.c), ab w.p, ab (Dt DJ w.s), ab (Dt DE w.f), int known]
 refine DI (Ev.post (d2 := ab (Dt (fun n => [vi n]) (ae w.f known))) (h2 := [.var v0, .vec (ai (rdR (rs ++ [rdN]))) 1 5]) (φ := [DL 2 (.var v0) = true, DL 2 (.vec (ai (rdR (rs ++ [rdN]))) 1 5) = true]) [.st (.trimV 2)] (FT (h' := (lm w known rs)) (d := ab (Dt (fun n => [vi n]) (ae w.f known))) pok [.call (Es [ab (Dt (fun n => [vi n]) (ae w.f known)), .ref (.vec 2 0)]) (rX w known rs), .call (Es []) (lm w known rs)] (by kernel_rfl) (.c (@rW w hw known (rY w known rs)) (.e (.ref (.ptr 0 0)) (.e (.ref (.ptr 0 1)) (.e (EB (Eb w)) (.e (.ref (.ptr 0 0)) (.e (.ref (.ptr 0 5)) (.e (int known) (.c (@qr w known rs rdN ?_) .n))))))))) (by kernel_rfl) ⟨rfl, ?_, trivial⟩) (by subst v0; first | rfl | (simp only [lkH, rdR, ai, Ey]; rfl) | (simp only [lkH, rdR, ai, Ey]; done)) (by subst v0; first | rfl | (simp only [lkH, rdR, ai, Ey]; rfl) | (simp only [lkH, rdR, ai, Ey]; done)) <;> subst v0 <;> (first | assumption | rfl | omega | exact bF _ _ | exact ah | (simp; omega) | (simp only [rd_ok, roomOk, E5, DB, decide_eq_true_eq, Fh]; omega))
noncomputable abbrev l8 (w : WorldT) (known : Int) (rs : List ReadT) : List Blk := [.var [.ref (.vec 1 0), ab (Dt DF w.c), ab w.p, ab (Dt DJ w.s), ab (Dt DE w.f), int known], .vec (ai (rdR rs)) 0 5, .var [aA { data := #[] }, int 0, int 0, int 0, int 0, int 0, aA { data := #[] }, int 0, int 0, nq, int 0, int 0, aA { data := #[] }, int 0, int 0, nq], .var [aA { data := #[] }, int 0, int 0, int 0, int 0, int 0, aA { data := #[] }, int 0, int 0, nq, int 0, int 0, aA { data := #[] }, int 0, int 0, nq]]
noncomputable abbrev cY (w : WorldT) (known : Int) (rs : List ReadT) : List Blk := [.var [.ref (.vec 1 0), ab (Dt DF w.c), ab w.p, ab (Dt DJ w.s), ab (Dt DE w.f), int known], .vec (ai (rdR rs)) 0 5, .var [aA { data := #[] }, int 0, int 0, int 0, int 0, int 0, aA { data := #[] }, int 0, int 0, nq, int 0, int 0, aA { data := #[] }, int 0, int 0, nq]]
noncomputable abbrev xX (w : WorldT) (known : Int) (n : Int) (term : Int) : List D := [EB [ab (Dt DF w.c), ab w.p, ab (Dt DJ w.s), ab (Dt DE w.f)], int n, int term, int known]
theorem ln {w : WorldT} (hw : w.ok) {known n term : Int} {rs : List ReadT} (hb : rs.length ≤ 999999000) : (Ev Du Γk 116 [.ref (.ptr 0 0), int n, int term] (lkH w known rs 0) (ag (ac w n term known).1.row) (lkH w known (rs ++ rdT 1 n 0 term) 1)) := by
 let v1 : List Blk := [.var [.ref (.vec 1 0), ab (Dt DF w.c), ab w.p, ab (Dt DJ w.s), ab (Dt DE w.f), int known], .vec (ai (rdR rs)) 0 5, .var [aA { data := #[] }, int 0, int 0, int 0, int 0, int 0, aA { data := #[] }, int 0, int 0, nq, int 0, int 0, aA { data := #[] }, int 0, int 0, nq], .var [aA (ac w n term known).fst.name, int (ac w n term known).fst.number, int (ac w n term known).fst.credits, int (ac w n term known).fst.rep, int (DC (ac w n term known).fst.need).op, int (DC (ac w n term known).fst.need).c, aA (DC (ac w n term known).fst.need).nm, int (DC (ac w n term known).fst.need).n, int (DC (ac w n term known).fst.need).d, ab (DC (ac w n term known).fst.need).ks, int (DC (ac w n term known).fst.bar).op, int (DC (ac w n term known).fst.bar).c, aA (DC (ac w n term known).fst.bar).nm, int (DC (ac w n term known).fst.bar).n, int (DC (ac w n term known).fst.bar).d, ab (DC (ac w n term known).fst.bar).ks]]
 let v2 : List D := [.ref (.vec 1 1), ab (Dt DF w.c), ab w.p, ab (Dt DJ w.s), ab (Dt DE w.f), int known]
 let v0 : List Blk := [.var v2, .vec (ai (rdR (rs ++ rdT 1 n 0 term))) 1 5, .var [aA { data := #[] }, int 0, int 0, int 0, int 0, int 0, aA { data := #[] }, int 0, int 0, nq, int 0, int 0, aA { data := #[] }, int 0, int 0, nq], .var [aA (ac w n term known).fst.name, int (ac w n term known).fst.number, int (ac w n term known).fst.credits, int (ac w n term known).fst.rep, int (DC (ac w n term known).fst.need).op, int (DC (ac w n term known).fst.need).c, aA (DC (ac w n term known).fst.need).nm, int (DC (ac w n term known).fst.need).n, int (DC (ac w n term known).fst.need).d, ab (DC (ac w n term known).fst.need).ks, int (DC (ac w n term known).fst.bar).op, int (DC (ac w n term known).fst.bar).c, aA (DC (ac w n term known).fst.bar).nm, int (DC (ac w n term known).fst.bar).n, int (DC (ac w n term known).fst.bar).d, ab (DC (ac w n term known).fst.bar).ks]]
 refine DI (Ev.post (d2 := EB [aA (ac w n term known).fst.name, int (ac w n term known).fst.number, int (ac w n term known).fst.credits, int (ac w n term known).fst.rep, int (DC (ac w n term known).fst.need).op, int (DC (ac w n term known).fst.need).c, aA (DC (ac w n term known).fst.need).nm, int (DC (ac w n term known).fst.need).n, int (DC (ac w n term known).fst.need).d, ab (DC (ac w n term known).fst.need).ks, int (DC (ac w n term known).fst.bar).op, int (DC (ac w n term known).fst.bar).c, aA (DC (ac w n term known).fst.bar).nm, int (DC (ac w n term known).fst.bar).n, int (DC (ac w n term known).fst.bar).d, ab (DC (ac w n term known).fst.bar).ks]) (h2 := [.var v2, .vec (ai (rdR (rs ++ rdT 1 n 0 term))) 1 5]) (φ := [DL 2 (.var v2) = true, DL 2 (.vec (ai (rdR (rs ++ rdT 1 n 0 term))) 1 5) = true]) [.st (.trimV 2)] (FT (h' := [.var v2, .vec (ai (rdR (rs ++ rdT 1 n 0 term))) 1 5, .var [aA (ac w n term known).fst.name, int (ac w n term known).fst.number, int (ac w n term known).fst.credits, int (ac w n term known).fst.rep, int (DC (ac w n term known).fst.need).op, int (DC (ac w n term known).fst.need).c, aA (DC (ac w n term known).fst.need).nm, int (DC (ac w n term known).fst.need).n, int (DC (ac w n term known).fst.need).d, ab (DC (ac w n term known).fst.need).ks, int (DC (ac w n term known).fst.bar).op, int (DC (ac w n term known).fst.bar).c, aA (DC (ac w n term known).fst.bar).nm, int (DC (ac w n term known).fst.bar).n, int (DC (ac w n term known).fst.bar).d, ab (DC (ac w n term known).fst.bar).ks], .var [aA (ac w n term known).fst.name, int (ac w n term known).fst.number, int (ac w n term known).fst.credits, int (ac w n term known).fst.rep, int (DC (ac w n term known).fst.need).op, int (DC (ac w n term known).fst.need).c, aA (DC (ac w n term known).fst.need).nm, int (DC (ac w n term known).fst.need).n, int (DC (ac w n term known).fst.need).d, ab (DC (ac w n term known).fst.need).ks, int (DC (ac w n term known).fst.bar).op, int (DC (ac w n term known).fst.bar).c, aA (DC (ac w n term known).fst.bar).nm, int (DC (ac w n term known).fst.bar).n, int (DC (ac w n term known).fst.bar).d, ab (DC (ac w n term known).fst.bar).ks]]) (d := EB [aA (ac w n term known).fst.name, int (ac w n term known).fst.number, int (ac w n term known).fst.credits, int (ac w n term known).fst.rep, int (DC (ac w n term known).fst.need).op, int (DC (ac w n term known).fst.need).c, aA (DC (ac w n term known).fst.need).nm, int (DC (ac w n term known).fst.need).n, int (DC (ac w n term known).fst.need).d, ab (DC (ac w n term known).fst.need).ks, int (DC (ac w n term known).fst.bar).op, int (DC (ac w n term known).fst.bar).c, aA (DC (ac w n term known).fst.bar).nm, int (DC (ac w n term known).fst.bar).n, int (DC (ac w n term known).fst.bar).d, ab (DC (ac w n term known).fst.bar).ks]) pok [.val (Es [EB [aA (ac w n term known).fst.name, int (ac w n term known).fst.number, int (ac w n term known).fst.credits, int (ac w n term known).fst.rep, int (DC (ac w n term known).fst.need).op, int (DC (ac w n term known).fst.need).c, aA (DC (ac w n term known).fst.need).nm, int (DC (ac w n term known).fst.need).n, int (DC (ac w n term known).fst.need).d, ab (DC (ac w n term known).fst.need).ks, int (DC (ac w n term known).fst.bar).op, int (DC (ac w n term known).fst.bar).c, aA (DC (ac w n term known).fst.bar).nm, int (DC (ac w n term known).fst.bar).n, int (DC (ac w n term known).fst.bar).d, ab (DC (ac w n term known).fst.bar).ks], ab (rdR (rdT 1 n 0 term)), bool (ac w n term known).snd]), .call (Es []) v0] (by kernel_rfl) (.c (@jc w hw n term known (cY w known rs)) (.e (.ref (.ptr 0 0)) (.e (.ref (.ptr 0 0)) (.e (.ref (.ptr 0 1)) (.e (.ref (.ptr 0 1)) (.e (EB (Eb w)) (.e (EB (Eb w)) (.e (.ref (.ptr 0 0)) (.e (.ref (.ptr 0 0)) (.e (.ref (.ptr 0 5)) (.e (.ref (.ptr 0 5)) (.e (int known) (.e (int known) (.c (show (cY w known rs) = (cY w known rs) from rfl) (.c (@jc w hw n term known (cY w known rs)) (.c (@jc w hw n term known (l8 w known rs)) (.c (show Ev Du Γk 119 [.ref (.ptr 0 0), ab (rdR (rdT 1 n 0 term))] v1 (Es []) v0 from (DI (Ev.frameX (args := [.ref (.ptr 0 0), ab (rdR (rdT 1 n 0 term))]) (H := v1) [0, 1] (@tw w known rs (rdT 1 n 0 term) (by subst v1 v2 v0; first | assumption | rfl | omega | exact bF _ _ | exact ah | (have := rdT_len 1 n 0 term; omega) | (simp; omega))) (by kernel_rfl) (by kernel_rfl) (by kernel_rfl) ⟨?_, trivial⟩ ⟨?_, trivial⟩) (by kernel_rfl) (by kernel_rfl))) .n)))))))))))))))))) (by kernel_rfl) ⟨rfl, (by subst v1 v2 v0; first | assumption | rfl | omega | exact bF _ _ | exact ah | (have := rdT_len 1 n 0 term; omega) | (simp; omega)), trivial⟩) (by subst v1 v2 v0; first | rfl | (simp only [lkH, rdR, ai, Ey]; rfl) | (simp only [lkH, rdR, ai, Ey]; done)) (by subst v1 v2 v0; first | rfl | (simp only [lkH, rdR, ai, Ey]; rfl) | (simp only [lkH, rdR, ai, Ey]; done)) <;> subst v1 v2 v0 <;> (first | rfl | exact al _ _ | first | assumption | rfl | omega | exact bF _ _ | exact ah | (have := rdT_len 1 n 0 term; omega) | (simp; omega))
noncomputable abbrev cZ (w : WorldT) (known : Int) (st : Int) (n : Int) (term : Int) (rs : List ReadT) : List Blk := [.var [.ref (.vec 1 1), ab (Dt DF w.c), ab w.p, ab (Dt DJ w.s), ab (Dt DE w.f), int known], .vec (ai (rdR (rs ++ [{ kind := 5, sub := st, obj := n, frm := 0, til := term }]))) 1 5, .var [int 5, int st, int n], .vec [[int 5, int st, int n, int 0, int term]] 0 5]
theorem rZ {w : WorldT} (hw : w.ok) {known st n term : Int} {rs : List ReadT} (hb : rs.length ≤ 999999000) : (Ev Du Γk 115 [.ref (.ptr 0 0), int st, int n, int term] (lkH w known rs 0) (ab ((bi 5 st n 0 term known w.f).map PtT.row)) (lkH w known (rs ++ [⟨5, st, n, 0, term⟩]) 1)) := by
 let v0 : List Blk := [.var [.ref (.vec 1 0), ab (Dt DF w.c), ab w.p, ab (Dt DJ w.s), ab (Dt DE w.f), int known], .vec (ai (rdR rs)) 0 5, .var [int 5, int st, int n], .vec [[int 5, int st, int n, int 0, int term]] 0 5]
 let v1 : List D := [.ref (.vec 1 1), ab (Dt DF w.c), ab w.p, ab (Dt DJ w.s), ab (Dt DE w.f), int known]
 let v2 := Dt PtT.row (bi 5 st n 0 term known w.f)
 refine DI (Ev.post (d2 := ab v2) (h2 := [.var v1, .vec (ai (rdR (rs ++ [{ kind := 5, sub := st, obj := n, frm := 0, til := term }]))) 1 5]) (φ := [DL 2 (.var v1) = true, DL 2 (.vec (ai (rdR (rs ++ [{ kind := 5, sub := st, obj := n, frm := 0, til := term }]))) 1 5) = true]) [.st (.trimV 2)] (FT (h' := (cZ w known st n term rs)) (d := ab v2) pok [.call (Es []) (cZ w known st n term rs), .val (ab v2)] (by kernel_rfl) (.c (show Ev Du Γk 119 [.ref (.ptr 0 0), .ref (.vec 3 0)] v0 (Es []) (cZ w known st n term rs) from (DI (Ev.frameX (args := [.ref (.ptr 0 0), .ref (.vec 3 0)]) (H := v0) [0, 1, 3] (@qr w known rs ({ kind := 5, sub := st, obj := n, frm := 0, til := term }) (by subst v0 v1 v2; first | assumption | rfl | omega | exact bF _ _ | exact ah | exact hw.sf | (simp; omega) | (simp [bw, GO, Ez, roomOk]; omega))) (by kernel_rfl) (by kernel_rfl) (by kernel_rfl) ⟨?_, ?_, trivial⟩ ⟨?_, ?_, trivial⟩) (by kernel_rfl) (by kernel_rfl))) (.e (.ref (.ptr 0 0)) (.e (.ref (.ptr 0 0)) (.e (.ref (.ptr 0 0)) (.e (.ref (.ptr 0 0)) (.e (EB [int 5, int st, int n]) (.c (Ev.glob0 (Γ' := Γk) (@qp 5 st n 0 term known (w.f) (by subst v0 v1 v2; first | assumption | rfl | omega | exact bF _ _ | exact ah | exact hw.sf | (simp; omega) | (simp [bw, GO, Ez, roomOk]; omega)) (cZ w known st n term rs))) .n)))))))) (by kernel_rfl) ⟨rfl, (by subst v0 v1 v2; first | assumption | rfl | omega | exact bF _ _ | exact ah | exact hw.sf | (simp; omega) | (simp [bw, GO, Ez, roomOk]; omega)), trivial⟩) (by subst v0 v1 v2; first | rfl | (simp only [lkH, rdR, ai, Ey]; rfl) | (simp only [lkH, rdR, ai, Ey]; done)) (by subst v0 v1 v2; first | rfl | (simp only [lkH, rdR, ai, Ey]; rfl) | (simp only [lkH, rdR, ai, Ey]; done)) <;> subst v0 v1 v2 <;> (first | rfl | exact al _ _ | first | assumption | rfl | omega | exact bF _ _ | exact ah | exact hw.sf | (simp; omega) | (simp [bw, GO, Ez, roomOk]; omega))
end Go.Vi
