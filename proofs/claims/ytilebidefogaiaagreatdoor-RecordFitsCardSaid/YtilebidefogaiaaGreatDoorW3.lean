/- RecordFits: part of the proof: contracts of the functions that the law reaches, and the law. No conditions beyond the given statement's own. -/
import Derived.Test.YtilebidefogaiaaGreatDoorW2
import Derived.Shelf.SlSortCmp.NoneTotal
import Derived.Sort.EveryDepth
import Derived.Ground.SlsfProg
open List renaming range' → EZ, cons_append → GK, flatten_cons → Eo, mem_map → DL, length → Dh, flatten → Dx, getElem?_eq_some_iff → Dm, foldl → DJ, map → De, set → F2, range → Ef, getD → DS, getElem?_eq_getElem → DF, length_map → EW, all_eq_true → DX, replicate → DQ, map_cons → En, all → Fk, map_append → Ek, getElem?_append_left → DB, getElem?_append_right → Eb, length_cons → DZ, ext_getElem? → F1, getElem?_eq_none → EH, mergeSort_perm → FE
open Go.Vi.VS renaming ok → Ie
open Go.Proofs.Tryz renaming prog → Dg, f178 → GU, f159 → DK, f111 → HW
open Go.Vi.D renaming innL → Fw, fn → EA, tup → Em, agg → EB, one → Gx, mapRL → D6
open Bool renaming and_eq_true → Dl, and_false → Ep, false_and → Ej, true_and → EM, and_self → EU, not_eq_true → Gd, not_eq_true' → EL
open Go.Vi.Blk renaming inn → Dy
open Go.IntKind renaming i64 → Dj, wrap → Dr
open Go.Vi.CW renaming cast → DN, symX → DP
open Go.LoopState renaming ready → DM, exhausted → Ee
open Go.Fn renaming func → DG
open Go.Exit renaming normal → DE, exit → Ea
open Go.Value renaming tuple → FZ, oneCell' → El
open Go.Vi.FactT renaming row → Ds
open Go.Vi.Ev renaming castH → Dv, of_sym → FC
open Int renaming toNat → Dz
open Go.Operand renaming const → HO
open Option renaming some → Fm
open Nat renaming one_mul → IE, le_of_not_lt → FJ
open Go.Sort renaming grow → GV, heap_grow_old → GC, putRow → E5, mapBlock → EX, ahead → Fe, putCells → Ft
open Array renaming getElem?_toList → Eh, getElem?_eq_some_iff → Fa, getElem?_modify → F4, getElem?_eq_getElem → D4, extract_size → IH
open Go.World renaming cell? → Ig
open Go.Calls renaming mono → IG
open Go.Proofs.SlLaysF0 renaming n6 → HP
open Go.Vi.CourseT renaming row → Dt
open Go.Vi.SysT renaming row → Dw
open Go.Vi.WorldT renaming l → DY
open Go.Vi.RuleT renaming fl → Dn
open Go Go.Proofs
namespace Go.Vi
set_option maxRecDepth 100000
set_option maxHeartbeats 4000000
def Bk (f : FactT) : Int := if true = true then if f.frm > 0 then f.frm else 0 else if f.frm < 0 then f.frm else 0
def vaF (f : FactT) (s : VS) : VS := wo f (Bk f) s
theorem Bl {f : FactT} {x : Int} {s : VS} (h : s.ok) : (wo f x s).ok := by
 unfold wo
 generalize EZ x.toNat (uq f - x).toNat = l
 induction l generalizing s with
 | nil => exact h
 | cons n l ih => exact ih (vaStep_ok n h)
theorem Bm {kk ks ko known : Int} {fs : List (List Dp)} {rs : List D} {best : List FactT} {some : List Bool} (ho : Ie (best, some)) {f : FactT} : Iv Dg Γ0 (.ref (.yl 8)) [ag f.row] (vaH kk ks ko known fs rs best some .ready [.var (f.row.map .p)]) (bool true) (vaH kk ks ko known fs rs (vaF f (best, some)).1 (vaF f (best, some)).2 .ready [.var (f.row.map .p), .var (f.row.map .p)]) :=
 Iv.round (h1 := vaH kk ks ko known fs rs best some .ready [.var (f.row.map .p), .var (f.row.map .p)]) rfl rfl va_asg rfl (Bj ho) rfl
def fe (kk ks ko known : Int) (s : VS) (f : FactT) : VS := bif ofIs kk ks ko known f then vaF f s else s
theorem hG {n : Nat} : ∀ {es : List (List D)}, (∀ r ∈ es, Fw n r = true) → Fw n es.flatten = true
 | [], _ => rfl
 | e :: es, h => by
  have key : ∀ (xs ys : List D), Fw n xs = true → Fw n ys = true → Fw n (xs ++ ys) = true := by
   intro xs ys h1 h2
   induction xs with
   | nil => exact h2
   | cons x xs ih => simp only [Fw, Dl, GK] at h1 ⊢; exact ⟨h1.1, ih h1.2⟩
  rw [Eo]
  exact key _ _ (h e (by simp)) (hG fun r hr => h r (by simp [hr]))
theorem ob {n : Nat} {l : List FactT} : Dy n (.var (co l).flatten) = true := hG fun r hr => by obtain ⟨_, _, rfl⟩ := DL.1 hr; rfl
theorem oc {n : Nat} {l : List Bool} : Dy n (.var (cN l).flatten) = true := hG fun r hr => by obtain ⟨_, _, rfl⟩ := DL.1 hr; rfl
theorem gk {n : Nat} {l : List Int} : Dy n (.var (bd l).flatten) = true := hG fun r hr => by obtain ⟨_, _, rfl⟩ := DL.1 hr; rfl
theorem vo_body {kk ks ko known : Int} {fs : List (List Dp)} {rs : List Int} {best b0 : List FactT} {some s0 : List Bool} (ho : Ie (best, some)) {f : FactT} {i : Nat} (hr : aM (i : Int) fs f.row 8) (hlt : decide ((i : Int) < (fs.length : Int)) = true) (hw : Dj.wrap ((i : Int) + 1) = ((i + 1 : Nat) : Int)) : (CW Dg Γ0 (vaH kk ks ko known fs (bd rs).flatten b0 s0 .ready []) false (sub GU 0) { t := ofT fs i, h := vaH kk ks ko known fs (bd rs).flatten best some .ready [], m := [] } .normal { t := ofT fs ((i + 1 : Nat) : Int), h := vaH kk ks ko known fs (bd rs).flatten (fe kk ks ko known (best, some) f).1 (fe kk ks ko known (best, some) f).2 .ready [], m := [] }) := by
 cases hc0 : f.kind == kk && (f.sub == ks && (f.obj == ko && true))
 ·refine DN (DP (s' := { t := mkT 30 0 [(0, .ref (.yl 8)), (1, .ref (.ptr 4 0)), (2, .ref (.ptr 5 0)), (3, .ref (.ptr 6 0)), (7, ab fs), (8, int (↑(Dh fs) : Int)), (9, int (Dr Dj ((↑i : Int) + 1)))], h := [.var [int kk, int ks, int ko], .var (Dx (bd rs)), .var (Dx (co best)), .var (Dx (cN some)), .var [ab fs], .var [int kk, int ks, int ko], .var [int known], .defd, .loop DM none 0 (mkT 63 0 [(6, .ref (.ptr 1 0)), (7, .ref (.ptr 2 0)), (8, .ref (.ptr 3 0)), (15, EA (DG 178) [] [.ref (.ptr 4 0), .ref (.ptr 5 0), .ref (.ptr 6 0)])]) { toList := [16] } (aC (sub DK 0)) (aj (sub DK 0))], m := [] }) (e := DE) pok [.st (.mask [0, 1, 2, 3, 7, 8, 9]), .st (.trimV 9)] [.b true, .row [vi f.kind, vi f.sub, vi f.obj, vi f.value, vi f.frm, vi f.til, vi f.known, vi f.no], .g false, .g false, .g false, .g false, .ov 22 (bool false), .g false, .g false, .g false, .g false, .ov 28 (bool false), .b false] (by kernel_rfl) (.c hlt (.c hr (.c (show ((f.kind == kk && (f.sub == ks && (f.obj == ko && true))) == true) = false from (by rw [hc0]; rfl)) (.c (show ((f.kind == kk && (f.sub == ks && (f.obj == ko && true))) == true) = false from (by rw [hc0]; rfl)) (.c (show ((f.kind == kk && (f.sub == ks && (f.obj == ko && true))) == true) = false from (by rw [hc0]; rfl)) (.c (show ((f.kind == kk && (f.sub == ks && (f.obj == ko && true))) == true) = false from (by rw [hc0]; rfl)) (.c (show aZ (bool (f.kind == kk && (f.sub == ks && (f.obj == ko && true)))) (D.p (Dp.v (FZ { toList := [] }))) (bool false) (bool false) from (b9 hc0 rfl)) (.c (show (false == true) = false from rfl) (.c (show (false == true) = false from rfl) (.c (show (false == true) = false from rfl) (.c (show (false == true) = false from rfl) (.c (show aZ (bool false) (D.p (Dp.v (FZ { toList := [] }))) (bool false) (bool false) from (b9 rfl rfl)) (.c (show false = false from rfl) (.c (show Dy 9 (.var [int kk, int ks, int ko]) = true from rfl) (.c (show Dy 9 (.var (Dx (bd rs))) = true from ?_) (.c (show Dy 9 (.var (Dx (co best))) = true from ?_) (.c (show Dy 9 (.var (Dx (cN some))) = true from ?_) (.c (show Dy 9 (.var [ab fs]) = true from rfl) (.c (show Dy 9 (.var [int kk, int ks, int ko]) = true from rfl) (.c (show Dy 9 (.var [int known]) = true from rfl) (.c (show Dy 9 .defd = true from rfl) (.c (show Dy 9 (.loop DM none 0 (mkT 63 0 [(6, .ref (.ptr 1 0)), (7, .ref (.ptr 2 0)), (8, .ref (.ptr 3 0)), (15, EA (DG 178) [] [.ref (.ptr 4 0), .ref (.ptr 5 0), .ref (.ptr 6 0)])]) { toList := [16] } (aC (sub DK 0)) (aj (sub DK 0))) = true from rfl) .n))))))))))))))))))))))) (by first | rfl | (simp only [hw, fe, ofIs, lR, hc0, Ep, Ej, EM, EU, cond_true, cond_false]; rfl)) (by first | rfl | (simp only [hw, fe, ofIs, lR, hc0, Ej, cond_false]; rfl)) <;> (first | assumption | rfl | exact ob | exact oc | exact gk | (simp_all; done))
 ·cases hc1 : decide (f.known ≤ known)
  ·refine DN (DP (s' := { t := mkT 30 0 [(0, .ref (.yl 8)), (1, .ref (.ptr 4 0)), (2, .ref (.ptr 5 0)), (3, .ref (.ptr 6 0)), (7, ab fs), (8, int (↑(Dh fs) : Int)), (9, int (Dr Dj ((↑i : Int) + 1)))], h := [.var [int kk, int ks, int ko], .var (Dx (bd rs)), .var (Dx (co best)), .var (Dx (cN some)), .var [ab fs], .var [int kk, int ks, int ko], .var [int known], .defd, .loop DM none 0 (mkT 63 0 [(6, .ref (.ptr 1 0)), (7, .ref (.ptr 2 0)), (8, .ref (.ptr 3 0)), (15, EA (DG 178) [] [.ref (.ptr 4 0), .ref (.ptr 5 0), .ref (.ptr 6 0)])]) { toList := [16] } (aC (sub DK 0)) (aj (sub DK 0))], m := [] }) (e := DE) pok [.st (.mask [0, 1, 2, 3, 7, 8, 9]), .st (.trimV 9)] [.b true, .row [vi f.kind, vi f.sub, vi f.obj, vi f.value, vi f.frm, vi f.til, vi f.known, vi f.no], .g true, .g true, .g true, .g true, .ov 22 (bool (decide (f.known ≤ known))), .g false, .g false, .g false, .g false, .ov 28 (bool false), .b false] (by kernel_rfl) (.c hlt (.c hr (.c (show ((f.kind == kk && (f.sub == ks && (f.obj == ko && true))) == true) = true from (by rw [hc0]; rfl)) (.c (show ((f.kind == kk && (f.sub == ks && (f.obj == ko && true))) == true) = true from (by rw [hc0]; rfl)) (.c (show ((f.kind == kk && (f.sub == ks && (f.obj == ko && true))) == true) = true from (by rw [hc0]; rfl)) (.c (show ((f.kind == kk && (f.sub == ks && (f.obj == ko && true))) == true) = true from (by rw [hc0]; rfl)) (.c (show aZ (bool (f.kind == kk && (f.sub == ks && (f.obj == ko && true)))) (bool (decide (f.known ≤ known))) (bool false) (bool (decide (f.known ≤ known))) from (bJ hc0 rfl)) (.c (show (decide (f.known ≤ known) == true) = false from (by rw [hc1]; rfl)) (.c (show (decide (f.known ≤ known) == true) = false from (by rw [hc1]; rfl)) (.c (show (decide (f.known ≤ known) == true) = false from (by rw [hc1]; rfl)) (.c (show (decide (f.known ≤ known) == true) = false from (by rw [hc1]; rfl)) (.c (show aZ (bool (decide (f.known ≤ known))) (D.p (Dp.v (FZ { toList := [] }))) (bool false) (bool false) from (b9 hc1 rfl)) (.c (show false = false from rfl) (.c (show Dy 9 (.var [int kk, int ks, int ko]) = true from rfl) (.c (show Dy 9 (.var (Dx (bd rs))) = true from ?_) (.c (show Dy 9 (.var (Dx (co best))) = true from ?_) (.c (show Dy 9 (.var (Dx (cN some))) = true from ?_) (.c (show Dy 9 (.var [ab fs]) = true from rfl) (.c (show Dy 9 (.var [int kk, int ks, int ko]) = true from rfl) (.c (show Dy 9 (.var [int known]) = true from rfl) (.c (show Dy 9 .defd = true from rfl) (.c (show Dy 9 (.loop DM none 0 (mkT 63 0 [(6, .ref (.ptr 1 0)), (7, .ref (.ptr 2 0)), (8, .ref (.ptr 3 0)), (15, EA (DG 178) [] [.ref (.ptr 4 0), .ref (.ptr 5 0), .ref (.ptr 6 0)])]) { toList := [16] } (aC (sub DK 0)) (aj (sub DK 0))) = true from rfl) .n))))))))))))))))))))))) (by first | rfl | (simp only [hw, fe, ofIs, lR, hc0, hc1, Ep, Ej, EM, EU, cond_true, cond_false]; rfl)) (by first | rfl | (simp only [hw, fe, ofIs, lR, hc0, hc1, Ep, cond_false]; rfl)) <;> (first | assumption | rfl | exact ob | exact oc | exact gk | (simp_all; done))
  ·let v0 := Dx (co (vaF f (best, some)).fst)
   let v1 := Dx (cN (vaF f (best, some)).snd)
   let v2 : List D := [.ref (.ptr 4 0), .ref (.ptr 5 0), .ref (.ptr 6 0)]
   let v3 : List D := [int f.kind, int f.sub, int f.obj, int f.value, int f.frm, int f.til, int f.known, int f.no]
   refine DN (DP (s' := { t := mkT 30 0 [(0, .ref (.yl 8)), (1, .ref (.ptr 4 0)), (2, .ref (.ptr 5 0)), (3, .ref (.ptr 6 0)), (7, ab fs), (8, int (↑(Dh fs) : Int)), (9, int (Dr Dj ((↑i : Int) + 1)))], h := [.var [int kk, int ks, int ko], .var (Dx (bd rs)), .var v0, .var v1, .var [ab fs], .var [int kk, int ks, int ko], .var [int known], .defd, .loop DM none 0 (mkT 63 0 [(6, .ref (.ptr 1 0)), (7, .ref (.ptr 2 0)), (8, .ref (.ptr 3 0)), (15, EA (DG 178) [] v2)]) { toList := [16] } (aC (sub DK 0)) (aj (sub DK 0))], m := [] }) (e := DE) pok [.st (.mask [0, 1, 2, 3, 7, 8, 9]), .st (.trimV 9)] [.b true, .row [vi f.kind, vi f.sub, vi f.obj, vi f.value, vi f.frm, vi f.til, vi f.known, vi f.no], .g true, .g true, .g true, .g true, .ov 22 (bool (decide (f.known ≤ known))), .g true, .g true, .g true, .inv (bool true) [.var [int kk, int ks, int ko], .var (Dx (bd rs)), .var v0, .var v1, .var [ab fs], .var [int kk, int ks, int ko], .var [int known], .defd, .loop DM none 0 (mkT 63 0 [(6, .ref (.ptr 1 0)), (7, .ref (.ptr 2 0)), (8, .ref (.ptr 3 0)), (15, EA (DG 178) [] v2)]) { toList := [16] } (aC (sub DK 0)) (aj (sub DK 0)), .var v3, .var v3], .g true, .ov 28 (bool !true), .b false] (by kernel_rfl) (.c hlt (.c hr (.c (show ((f.kind == kk && (f.sub == ks && (f.obj == ko && true))) == true) = true from (by subst v0 v1 v2 v3; rw [hc0]; rfl)) (.c (show ((f.kind == kk && (f.sub == ks && (f.obj == ko && true))) == true) = true from (by subst v0 v1 v2 v3; rw [hc0]; rfl)) (.c (show ((f.kind == kk && (f.sub == ks && (f.obj == ko && true))) == true) = true from (by subst v0 v1 v2 v3; rw [hc0]; rfl)) (.c (show ((f.kind == kk && (f.sub == ks && (f.obj == ko && true))) == true) = true from (by subst v0 v1 v2 v3; rw [hc0]; rfl)) (.c (show aZ (bool (f.kind == kk && (f.sub == ks && (f.obj == ko && true)))) (bool (decide (f.known ≤ known))) (bool false) (bool (decide (f.known ≤ known))) from (bJ hc0 rfl)) (.c (show (decide (f.known ≤ known) == true) = true from (by subst v0 v1 v2 v3; rw [hc1]; rfl)) (.c (show (decide (f.known ≤ known) == true) = true from (by subst v0 v1 v2 v3; rw [hc1]; rfl)) (.c (show (decide (f.known ≤ known) == true) = true from (by subst v0 v1 v2 v3; rw [hc1]; rfl)) (.c (@Bm kk ks ko known fs (Dx (bd rs)) best some ho f) (.c (show (decide (f.known ≤ known) == true) = true from (by subst v0 v1 v2 v3; rw [hc1]; rfl)) (.c (show aZ (bool (decide (f.known ≤ known))) (bool !true) (bool false) (bool !true) from (bJ hc1 rfl)) (.c (show (!true) = false from rfl) (.c (show Dy 9 (.var [int kk, int ks, int ko]) = true from rfl) (.c (show Dy 9 (.var (Dx (bd rs))) = true from ?_) (.c (show Dy 9 (.var v0) = true from ?_) (.c (show Dy 9 (.var v1) = true from ?_) (.c (show Dy 9 (.var [ab fs]) = true from rfl) (.c (show Dy 9 (.var [int kk, int ks, int ko]) = true from rfl) (.c (show Dy 9 (.var [int known]) = true from rfl) (.c (show Dy 9 .defd = true from rfl) (.c (show Dy 9 (.loop DM none 0 (mkT 63 0 [(6, .ref (.ptr 1 0)), (7, .ref (.ptr 2 0)), (8, .ref (.ptr 3 0)), (15, EA (DG 178) [] v2)]) { toList := [16] } (aC (sub DK 0)) (aj (sub DK 0))) = true from rfl) .n)))))))))))))))))))))))) (by subst v0 v1 v2 v3; first | rfl | (simp only [hw, fe, ofIs, lR, hc0, hc1, Ep, Ej, EM, EU, cond_true, cond_false]; rfl)) (by subst v0 v1 v2 v3; first | rfl | (simp only [hw, fe, ofIs, lR, hc0, hc1, EU, cond_true]; rfl)) <;> subst v0 v1 v2 v3 <;> (first | assumption | rfl | exact ob | exact oc | exact gk | (simp_all; done))
theorem Bn {kk ks ko known : Int} {fs : List (List Dp)} {rs : List Int} {best b0 : List FactT} {some s0 : List Bool} {i : Nat} (hlt : decide ((i : Int) < (fs.length : Int)) = false) : (CW Dg Γ0 (vaH kk ks ko known fs (bd rs).flatten b0 s0 .ready []) false (sub GU 0) { t := ofT fs i, h := vaH kk ks ko known fs (bd rs).flatten best some .ready [], m := [] } (.exit 0) { t := mkT 30 0 [], h := vaH kk ks ko known fs (bd rs).flatten best some .ready [], m := [] }) := by
 exact DN (DP (s' := { t := mkT 30 0 [], h := [.var [int kk, int ks, int ko], .var (Dx (bd rs)), .var (Dx (co best)), .var (Dx (cN some)), .var [ab fs], .var [int kk, int ks, int ko], .var [int known], .defd, .loop DM none 0 (mkT 63 0 [(6, .ref (.ptr 1 0)), (7, .ref (.ptr 2 0)), (8, .ref (.ptr 3 0)), (15, EA (DG 178) [] [.ref (.ptr 4 0), .ref (.ptr 5 0), .ref (.ptr 6 0)])]) { toList := [16] } (aC (sub DK 0)) (aj (sub DK 0))], m := [] }) (e := Ea 0) pok [.st (.mask [])] [.b false] (by kernel_rfl) (.c hlt .n)) (by rfl) (by rfl)
theorem vaGo_ok {kk ks ko known : Int} {s : VS} (f : FactT) (h : s.ok) : (fe kk ks ko known s f).ok := by
 unfold fe
 cases ofIs kk ks ko known f
 ·exact h
 ·exact Bl h
theorem vo_cw {kk ks ko known : Int} {l : List FactT} (hl : al l) {rs : List Int} {b0 : List FactT} {s0 : List Bool} (ho : Ie (b0, s0)) :
  CW Dg Γ0 (vaH kk ks ko known (l.map Ds) (bd rs).flatten b0 s0 .ready []) false (.loop (sub GU 0)) { t := ofT (l.map Ds) 0, h := vaH kk ks ko known (l.map Ds) (bd rs).flatten b0 s0 .ready [], m := [] } (.exit 0)
   { t := mkT 30 0 [], h := vaH kk ks ko known (l.map Ds) (bd rs).flatten (l.foldl (fe kk ks ko known) (b0, s0)).1 (l.foldl (fe kk ks ko known) (b0, s0)).2 .ready [], m := [] } := by
 have := CW.each (P := Dg) (Γ := Γ0) (h0 := vaH kk ks ko known (l.map Ds) (bd rs).flatten b0 s0 .ready []) (rd := false) (c := sub GU 0) (σ := VS) (ρ := Empty) l (fun f s => .inl (fe kk ks ko known s f))
  (fun i s => { t := ofT (l.map Ds) (i : Int), h := vaH kk ks ko known (l.map Ds) (bd rs).flatten s.1 s.2 .ready [], m := [] }) (.exit 0) (fun s => { t := mkT 30 0 [], h := vaH kk ks ko known (l.map Ds) (bd rs).flatten s.1 s.2 .ready [], m := [] }) (fun r => r.elim)
  (fun _ s => s.ok) (by simp) (fun r => r.elim) ?_ ?_ (b0, s0) ho
 ·rw [bh] at this
  exact this
 ·intro i f s hf hs
  have hi := (Dm.1 hf).1
  exact ⟨fun s' h => by cases h; exact vaGo_ok f hs, vo_body hs (rowAt hf rfl) (lt_len _ hi) (wrap_succ hi hl)⟩
 ·intro s _
  exact Bn (cw _ l)
theorem wq {kk ks ko known : Int} {l : List FactT} (hl : al l) {rs : List Int} {b0 : List FactT} {s0 : List Bool} (ho : Ie (b0, s0)) : (Ev Dg Γ0 178 [.ref (.yl 8), .ref (.ptr 4 0), .ref (.ptr 5 0), .ref (.ptr 6 0)] (vaH kk ks ko known (l.map Ds) (bd rs).flatten b0 s0 .ready []) (.tup []) (vaH kk ks ko known (l.map Ds) (bd rs).flatten (l.foldl (fe kk ks ko known) (b0, s0)).1 (l.foldl (fe kk ks ko known) (b0, s0)).2 .ready [])) := by
 have hl0 := (@vo_cw (kk) (ks) (ko) (known) (l) (hl) (rs) (b0) (s0) (ho))
 let v0 : List Blk := [.var [int kk, int ks, int ko], .var (Dx (bd rs)), .var (Dx (co (DJ (fe kk ks ko known) (b0, s0) l).fst)), .var (Dx (cN (DJ (fe kk ks ko known) (b0, s0) l).snd)), .var [ab (De Ds l)], .var [int kk, int ks, int ko], .var [int known], .defd, .loop DM none 0 (mkT 63 0 [(6, .ref (.ptr 1 0)), (7, .ref (.ptr 2 0)), (8, .ref (.ptr 3 0)), (15, EA (DG 178) [] [.ref (.ptr 4 0), .ref (.ptr 5 0), .ref (.ptr 6 0)])]) { toList := [16] } (aC (sub DK 0)) (aj (sub DK 0))]
 exact Dv (FC (h' := v0) (d := Em []) pok [.sum [0, 1, 2, 3, 7, 8, 9] (Ea 0) { t := mkT 30 0 [], h := v0, m := [] }] (by kernel_rfl) (.c hl0 .n)) (by rfl) (by rfl)
noncomputable abbrev vaH0 (kk ks ko known : Int) (fs : List (List Dp)) (rs : List Int) (best : List FactT) (some : List Bool) : List Blk :=
 [.var [int kk, int ks, int ko], .var (bd rs).flatten, .var (co best).flatten, .var (cN some).flatten, .var [ab fs], .var [int kk, int ks, int ko], .var [int known]]
theorem yL {kk ks ko known : Int} {l : List FactT} (hl : al l) {rs : List Int} {b0 : List FactT} {s0 : List Bool} (ho : Ie (b0, s0)) : CW Dg Γ0 [] false (sub DK 0) { t := vaT, h := vaH0 kk ks ko known (l.map Ds) rs b0 s0, m := [] } .normal
  { t := vaT, h := vaH kk ks ko known (l.map Ds) (bd rs).flatten (l.foldl (fe kk ks ko known) (b0, s0)).1 (l.foldl (fe kk ks ko known) (b0, s0)).2 .exhausted [], m := [7] } :=
 CW.rangeFunc (f := 178) (fi := []) (ca := [.ref (.ptr 4 0), .ref (.ptr 5 0), .ref (.ptr 6 0)]) pok (s := { t := vaT, h := vaH0 kk ks ko known (l.map Ds) rs b0 s0, m := [] }) (g := .tmp 15) (ps := #[16]) (asg := aC (sub DK 0)) (body := aj (sub DK 0)) rfl (by kernel_rfl) (wq hl ho) rfl
theorem zY {h : List Blk} {off n : Nat} {l : List FactT} {g : FactT} (hb : h[2]? = some (.var (co l).flatten)) (hs : l[n]? = some g) (ho : off = n * 8 + 3) : bp Dg h 3 (.ref (.ptr 2 off)) = some (int g.value) := by
 subst ho
 exact kI (sz := 8) (j := 3) (row := g.row.map .p) (by kernel_rfl) (by kernel_rfl) hb (by simp [Ds]) (by simp [hs]) rfl
theorem tc {h : List Blk} {off n : Nat} {l : List Int} {x : Int} (hb : h[1]? = some (.var (bd l).flatten)) (hn : n < l.length) (ho : off = n * 1) : bS Dg h 3 (.ref (.ptr 1 off)) (int x) = some (h.set 1 (.var (bd (l.set n x)).flatten)) := by
 subst ho
 rw [kJ (sz := 1) (new := [int x]) rfl (by kernel_rfl) rfl hb (fun r hr => by obtain ⟨_, _, rfl⟩ := DL.1 hr; rfl) (by simpa using hn), bd, bd, List.map_set]
abbrev C7 (v : Int) : Int := if true = true then if -1 > v then -1 else v else if -1 < v then -1 else v
noncomputable abbrev vlS (kk ks ko known : Int) (fs : List (List Dp)) (rs : List Int) (best : List FactT) (some : List Bool) (i : Int) : AS := { t := mkT 63 0 [(6, .ref (.ptr 1 0)), (7, .ref (.ptr 2 0)), (8, .ref (.ptr 3 0)), (46, int i)], h := vaH kk ks ko known fs (bd rs).flatten best some .exhausted [], m := [7] }
theorem vl_b {kk ks ko known : Int} {fs : List (List Dp)} {rs : List Int} {best : List FactT} {some : List Bool} {g : FactT} {n : Nat} {b : Bool} (hb : best[n]? = .some g) (hs : some[n]? = .some b) (hn : inR (n : Int) 1024 = true) (hr : n < rs.length) (hlt : decide ((n : Int) < 1024) = true) : (CW Dg Γ0 [] false (sub DK 2) (vlS kk ks ko known fs rs best some (n : Int)) .normal (vlS kk ks ko known fs (bif b then (rs.set n (-1)).set n (C7 g.value) else rs.set n (-1)) best some (Dj.wrap ((n : Int) + 1)))) := by
 cases hc0 : b
 ·let v0 : List Blk := [.var [int kk, int ks, int ko], .var (Dx (bd (F2 rs n (-1)))), .var (Dx (co best)), .var (Dx (cN some)), .var [ab fs], .var [int kk, int ks, int ko], .var [int known], .defd, .loop Ee none 0 (mkT 63 0 [(6, .ref (.ptr 1 0)), (7, .ref (.ptr 2 0)), (8, .ref (.ptr 3 0)), (15, EA (DG 178) [] [.ref (.ptr 4 0), .ref (.ptr 5 0), .ref (.ptr 6 0)])]) { toList := [16] } (aC (sub DK 0)) (aj (sub DK 0))]
  refine DN (DP (s' := { t := mkT 63 0 [(6, .ref (.ptr 1 0)), (7, .ref (.ptr 2 0)), (8, .ref (.ptr 3 0)), (46, int (Dr Dj ((↑n : Int) + 1)))], h := v0, m := [7] }) (e := DE) pok [.st (.mask [6, 7, 8, 46])] [.b true, .oh 10050 D.any (vaH kk ks ko known fs (Dx (bd (F2 rs n (-1)))) best some Ee []), .ov 53 (bool b), .b false] (by kernel_rfl) (.c hlt (.c hn (.c (show bS Dg [.var [int kk, int ks, int ko], .var (Dx (bd rs)), .var (Dx (co best)), .var (Dx (cN some)), .var [ab fs], .var [int kk, int ks, int ko], .var [int known], .defd, .loop Ee none 0 (mkT 63 0 [(6, .ref (.ptr 1 0)), (7, .ref (.ptr 2 0)), (8, .ref (.ptr 3 0)), (15, EA (DG 178) [] [.ref (.ptr 4 0), .ref (.ptr 5 0), .ref (.ptr 6 0)])]) { toList := [16] } (aC (sub DK 0)) (aj (sub DK 0))] 3 (.ref (.ptr 1 (0 + Dz (↑n : Int) * 1))) (evalD Γ0 (mkT 63 0 [(6, .ref (.ptr 1 0)), (7, .ref (.ptr 2 0)), (8, .ref (.ptr 3 0)), (11, int (↑n : Int)), (46, int (↑n : Int)), (47, bool (decide ((↑n : Int) < 1024))), (48, int (↑n : Int)), (49, int (↑n : Int)), (50, .ref (.ptr 1 (0 + Dz (↑n : Int) * 1)))]) (HO (Value.int Dj (-1)))) = Fm v0 from ?_) (.c hn (.c (show bp Dg v0 4 (.ref (.ptr 3 (0 + Dz (↑n : Int) * 1))) = Fm (bool b) from ?_) (.c hc0 .n))))))) (by subst v0; first | rfl | (simp only [hc0, cond_true, cond_false]; first | done | rfl)) (by subst v0; first | rfl | (simp only [hc0, cond_true, cond_false]; first | done | rfl)) <;> subst v0 <;> (first | assumption | rfl | exact oa rfl hs (by simp) | exact zY rfl hb (by simp) | exact tc rfl hr (by simp) | exact tc rfl (by simpa using hr) (by simp) | (simp_all; done))
 ·let v2 : List D := [.ref (.ptr 4 0), .ref (.ptr 5 0), .ref (.ptr 6 0)]
  let v3 := Dx (bd (F2 (F2 rs n (-1)) n (C7 g.value)))
  let v4 := Dx (co best)
  let v5 := Dx (cN some)
  let v0 : List Blk := [.var [int kk, int ks, int ko], .var (Dx (bd (F2 rs n (-1)))), .var v4, .var v5, .var [ab fs], .var [int kk, int ks, int ko], .var [int known], .defd, .loop Ee none 0 (mkT 63 0 [(6, .ref (.ptr 1 0)), (7, .ref (.ptr 2 0)), (8, .ref (.ptr 3 0)), (15, EA (DG 178) [] v2)]) { toList := [16] } (aC (sub DK 0)) (aj (sub DK 0))]
  let v1 : List Blk := [.var [int kk, int ks, int ko], .var v3, .var v4, .var v5, .var [ab fs], .var [int kk, int ks, int ko], .var [int known], .defd, .loop Ee none 0 (mkT 63 0 [(6, .ref (.ptr 1 0)), (7, .ref (.ptr 2 0)), (8, .ref (.ptr 3 0)), (15, EA (DG 178) [] v2)]) { toList := [16] } (aC (sub DK 0)) (aj (sub DK 0))]
  refine DN (DP (s' := { t := mkT 63 0 [(6, .ref (.ptr 1 0)), (7, .ref (.ptr 2 0)), (8, .ref (.ptr 3 0)), (46, int (Dr Dj ((↑n : Int) + 1)))], h := v1, m := [7] }) (e := DE) pok [.st (.mask [6, 7, 8, 46])] [.b true, .oh 10050 D.any (vaH kk ks ko known fs (Dx (bd (F2 rs n (-1)))) best some Ee []), .ov 53 (bool b), .b true, .ov 58 (int g.value), .oh 10060 D.any (vaH kk ks ko known fs v3 best some Ee [])] (by kernel_rfl) (.c hlt (.c hn (.c (show bS Dg [.var [int kk, int ks, int ko], .var (Dx (bd rs)), .var v4, .var v5, .var [ab fs], .var [int kk, int ks, int ko], .var [int known], .defd, .loop Ee none 0 (mkT 63 0 [(6, .ref (.ptr 1 0)), (7, .ref (.ptr 2 0)), (8, .ref (.ptr 3 0)), (15, EA (DG 178) [] v2)]) { toList := [16] } (aC (sub DK 0)) (aj (sub DK 0))] 3 (.ref (.ptr 1 (0 + Dz (↑n : Int) * 1))) (evalD Γ0 (mkT 63 0 [(6, .ref (.ptr 1 0)), (7, .ref (.ptr 2 0)), (8, .ref (.ptr 3 0)), (11, int (↑n : Int)), (46, int (↑n : Int)), (47, bool (decide ((↑n : Int) < 1024))), (48, int (↑n : Int)), (49, int (↑n : Int)), (50, .ref (.ptr 1 (0 + Dz (↑n : Int) * 1)))]) (HO (Value.int Dj (-1)))) = Fm v0 from ?_) (.c hn (.c (show bp Dg v0 4 (.ref (.ptr 3 (0 + Dz (↑n : Int) * 1))) = Fm (bool b) from ?_) (.c hc0 (.c hn (.c (show bp Dg v0 3 (.ref (.ptr 2 (0 + Dz (↑n : Int) * 8 + 3))) = Fm (int g.value) from ?_) (.c hn (.c (show bS Dg v0 3 (.ref (.ptr 1 (0 + Dz (↑n : Int) * 1))) (int (if true = true then if -1 > g.value then -1 else g.value else if -1 < g.value then -1 else g.value)) = Fm v1 from ?_) .n))))))))))) (by subst v2 v3 v4 v5 v0 v1; first | rfl | (simp only [hc0, cond_true, cond_false]; first | done | rfl)) (by subst v2 v3 v4 v5 v0 v1; first | rfl | (simp only [hc0, cond_true, cond_false]; first | done | rfl)) <;> subst v2 v3 v4 v5 v0 v1 <;> (first | assumption | rfl | exact oa rfl hs (by simp) | exact zY rfl hb (by simp) | exact tc rfl hr (by simp) | exact tc rfl (by simpa using hr) (by simp) | (simp_all; done))
theorem Bo {kk ks ko known : Int} {fs : List (List Dp)} {rs : List Int} {best : List FactT} {some : List Bool} : (CW Dg Γ0 [] false (sub DK 2) (vlS kk ks ko known fs rs best some 1024) (.exit 4) { t := mkT 63 0 [(6, .ref (.ptr 1 0))], h := vaH kk ks ko known fs (bd rs).flatten best some .exhausted [], m := [7] }) := by
 exact DN (DP (s' := { t := mkT 63 0 [(6, .ref (.ptr 1 0))], h := [.var [int kk, int ks, int ko], .var (Dx (bd rs)), .var (Dx (co best)), .var (Dx (cN some)), .var [ab fs], .var [int kk, int ks, int ko], .var [int known], .defd, .loop Ee none 0 (mkT 63 0 [(6, .ref (.ptr 1 0)), (7, .ref (.ptr 2 0)), (8, .ref (.ptr 3 0)), (15, EA (DG 178) [] [.ref (.ptr 4 0), .ref (.ptr 5 0), .ref (.ptr 6 0)])]) { toList := [16] } (aC (sub DK 0)) (aj (sub DK 0))], m := [7] }) (e := Ea 4) pok [.st (.mask [6])] [.b false] (by kernel_rfl) (.c (show decide (1024 < 1024) = false from rfl) .n)) (by rfl) (by rfl)
def vlStep (s : VS) (rs : List Int) (n : Nat) : List Int := bif s.2.getD n false then (rs.set n (-1)).set n (C7 (s.1.getD n default).value) else rs.set n (-1)
def qi (s : VS) (rs : List Int) : List Int := (Ef 1024).foldl (vlStep s) rs
theorem vl_cw {kk ks ko known : Int} {fs : List (List Dp)} {rs : List Int} {best : List FactT} {some : List Bool} (ho : Ie (best, some)) (hr : rs.length = 1024) :
  CW Dg Γ0 [] false (.loop (sub DK 2)) (vlS kk ks ko known fs rs best some 0) (.exit 4) { t := mkT 63 0 [(6, .ref (.ptr 1 0))], h := vaH kk ks ko known fs (bd (qi (best, some) rs)).flatten best some .exhausted [], m := [7] } := by
 have := CW.each (P := Dg) (Γ := Γ0) (h0 := []) (rd := false) (c := sub DK 2) (σ := List Int) (ρ := Empty) (Ef 1024) (fun n rs => .inl (vlStep (best, some) rs n))
  (fun i rs => vlS kk ks ko known fs rs best some (i : Int)) (.exit 4) (fun rs => { t := mkT 63 0 [(6, .ref (.ptr 1 0))], h := vaH kk ks ko known fs (bd rs).flatten best some .exhausted [], m := [7] }) (fun r => r.elim)
  (fun _ rs => rs.length = 1024) (by simp) (fun r => r.elim) ?_ ?_ rs hr
 ·rw [bh (fun rs n => vlStep (best, some) rs n)] at this
  exact this
 ·intro i n rs hn hs
  obtain ⟨hi, he⟩ := Dm.1 hn
  simp only [List.length_range] at hi
  simp only [List.getElem_range] at he
  subst he
  have hb : best[i]? = .some (best.getD i default) := by
   rw [DS, DF (by rw [ho.1]; omega)]; rfl
  have hc : some[i]? = .some (some.getD i false) := by
   rw [DS, DF (by rw [ho.2]; omega)]; rfl
  refine ⟨fun s' h => by cases h; unfold vlStep; cases some.getD i false <;> simp [hs], ?_⟩
  have key := vl_b (kk := kk) (ks := ks) (ko := ko) (known := known) (fs := fs) (rs := rs) hb hc (by simp [inR]; omega) (by omega) (by simp; omega)
  rw [wrap_i64 (by omega) (by omega)] at key
  simp only [ad]
  unfold vlStep
  cases hq : some.getD i false <;> rw [hq] at key <;> exact key
 ·intro rs _
  simp only [List.length_range]
  exact Bo
end Go.Vi
open Go Go.Proofs
namespace Go.Vi
set_option maxRecDepth 100000
set_option maxHeartbeats 4000000
theorem wr {h : List Blk} {l : List Int} (hb : h[1]? = some (.var (bd l).flatten)) (hl : l.length = 1024) : bp Dg h 215 (.ref (.ptr 1 0)) = some (.agg (bd l).flatten) :=
 yq (by kernel_rfl) (by rw [eS (sz := 1) (bd l) (fun r hr => by obtain ⟨_, _, rfl⟩ := DL.1 hr; rfl)]; simp only [bd, EW, hl]; kernel_rfl) hb
theorem qj {l : List Int} : (EB (bd l).flatten).cells = some (bd l).flatten := by
 have : (bd l).flatten.all Gx = true := by
  rw [DX]
  intro d hd
  obtain ⟨r, hr, hd⟩ := List.mem_flatten.1 hd
  obtain ⟨n, _, rfl⟩ := DL.1 hr
  simp only [List.mem_singleton] at hd
  subst hd; rfl
 simp only [D.cells, this, if_true]
theorem st_int {h : List Blk} {l : List Int} (hb : h[1]? = some (.var (bd l).flatten)) (hl : l.length = 1024) : bS Dg h 215 (.ref (.ptr 1 0)) (.agg (bd l).flatten) = some (h.set 1 (.var (bd l).flatten)) :=
 pO qj (by rw [eS (sz := 1) (bd l) (fun r hr => by obtain ⟨_, _, rfl⟩ := DL.1 hr; rfl)]; simp only [bd, EW, hl]; kernel_rfl) rfl hb
theorem kW {s : VS} {rs : List Int} (h : rs.length = 1024) : (qi s rs).length = 1024 := by
 unfold qi
 generalize Ef 1024 = l
 induction l generalizing rs with
 | nil => exact h
 | cons n l ih => exact ih (by unfold vlStep; cases s.2.getD n false <;> simp [h])
noncomputable abbrev vaE (kk ks ko known : Int) (l : List FactT) (rs : List Int) (s : VS) : List Blk := vaH kk ks ko known (l.map Ds) (bd (qi (l.foldl (fe kk ks ko known) s) rs)).flatten (l.foldl (fe kk ks ko known) s).1 (l.foldl (fe kk ks ko known) s).2 .exhausted []
theorem yM {kk ks ko known : Int} {l : List FactT} (hl : al l) {rs : List Int} {b0 : List FactT} {s0 : List Bool} (ho : Ie (b0, s0)) (hf : Ie (l.foldl (fe kk ks ko known) (b0, s0))) (hr : rs.length = 1024) (e1 : cU Dg [.var [int kk, int ks, int ko]] 215 (.ref (.ptr 1 0)) [.var [int kk, int ks, int ko], .var (bd rs).flatten])
  (e2 : cU Dg [.var [int kk, int ks, int ko], .var (bd rs).flatten] 243 (.ref (.ptr 2 0)) [.var [int kk, int ks, int ko], .var (bd rs).flatten, .var (co b0).flatten])
  (e3 : cU Dg [.var [int kk, int ks, int ko], .var (bd rs).flatten, .var (co b0).flatten] 244 (.ref (.ptr 3 0)) [.var [int kk, int ks, int ko], .var (bd rs).flatten, .var (co b0).flatten, .var (cN s0).flatten]) : (CW Dg Γ0 [] false (iW DK) { t := mkT 63 0 [(0, ab (l.map Ds)), (1, .agg [int kk, int ks, int ko]), (2, int known)], h := [], m := [] } .ret { t := mkT 63 0 [(6, .ref (.ptr 1 0))], h := vaE kk ks ko known l rs (b0, s0), m := [7] }) := by
 have hl0 := (@yL (kk) (ks) (ko) (known) (l) (hl) (rs) (b0) (s0) (ho))
 have hl1 := (@vl_cw (kk) (ks) (ko) (known) (De Ds l) (rs) ((DJ (fe kk ks ko known) (b0, s0) l).fst) ((DJ (fe kk ks ko known) (b0, s0) l).snd) (hf) (hr))
 let v2 := DJ (fe kk ks ko known) (b0, s0) l
 let v3 : List Blk := [.var [int kk, int ks, int ko], .var (Dx (bd rs)), .var (Dx (co b0))]
 let v4 : List D := [.ref (.ptr 4 0), .ref (.ptr 5 0), .ref (.ptr 6 0)]
 let v5 : List Blk := [.var [int kk, int ks, int ko], .var (Dx (bd rs)), .var (Dx (co b0)), .var (Dx (cN s0))]
 let v6 : List Blk := [.var [int kk, int ks, int ko], .var (Dx (bd rs))]
 let v7 := Dx (bd (qi v2 rs))
 let v8 := Dx (co v2.fst)
 let v9 := Dx (cN v2.snd)
 let v10 : List D := [ab (De Ds l)]
 let v0 : List Blk := [.var [int kk, int ks, int ko], .var (Dx (bd (qi (v2.fst, v2.snd) rs))), .var v8, .var v9, .var v10, .var [int kk, int ks, int ko], .var [int known], .defd, .loop Ee none 0 (mkT 63 0 [(6, .ref (.ptr 1 0)), (7, .ref (.ptr 2 0)), (8, .ref (.ptr 3 0)), (15, EA (DG 178) [] v4)]) { toList := [16] } (aC (sub DK 0)) (aj (sub DK 0))]
 let v1 : List Blk := [.var [int kk, int ks, int ko], .var v7, .var v8, .var v9, .var v10, .var [int kk, int ks, int ko], .var [int known], .defd, .loop Ee none 0 (mkT 63 0 [(6, .ref (.ptr 1 0)), (7, .ref (.ptr 2 0)), (8, .ref (.ptr 3 0)), (15, EA (DG 178) [] v4)]) { toList := [16] } (aC (sub DK 0)) (aj (sub DK 0))]
 refine DN (DP (s' := { t := mkT 63 0 [(6, .ref (.ptr 1 0))], h := v1, m := [7] }) (e := Exit.ret) pok [.st (.mask [6])] [.oh 6 (.ref (.ptr 1 0)) v6, .oh 7 (.ref (.ptr 2 0)) v3, .oh 8 (.ref (.ptr 3 0)) v5, .inl, .sum [6, 7, 8, 15] (DE) { t := mkT 63 0 [(6, .ref (.ptr 1 0)), (7, .ref (.ptr 2 0)), (8, .ref (.ptr 3 0)), (15, EA (DG 178) [] v4)], h := [.var [int kk, int ks, int ko], .var (Dx (bd rs)), .var v8, .var v9, .var v10, .var [int kk, int ks, int ko], .var [int known], .defd, .loop Ee none 0 (mkT 63 0 [(6, .ref (.ptr 1 0)), (7, .ref (.ptr 2 0)), (8, .ref (.ptr 3 0)), (15, EA (DG 178) [] v4)]) { toList := [16] } (aC (sub DK 0)) (aj (sub DK 0))], m := [7] }, .sum [6, 7, 8, 46] (Ea 4) { t := mkT 63 0 [(6, .ref (.ptr 1 0))], h := v0, m := [7] }, .ov 62 (EB v7), .oh 10006 D.any (vaE kk ks ko known l rs (b0, s0))] (by kernel_rfl) (.c (show cU Dg [.var [int kk, int ks, int ko]] 215 (.ref (.ptr 1 0)) v6 from ?_) (.c (show cU Dg v6 243 (.ref (.ptr 2 0)) v3 from ?_) (.c (show cU Dg v3 244 (.ref (.ptr 3 0)) v5 from ?_) (.c hl0 (.c hl1 (.c (show bp Dg v0 215 (.ref (.ptr 1 0)) = some (EB v7) from ?_) (.c (show bS Dg v0 215 (.ref (.ptr 1 0)) (EB v7) = some v1 from ?_) .n)))))))) (by rfl) (by rfl) <;> subst v2 v3 v4 v5 v6 v7 v8 v9 v10 v0 v1 <;> (first | assumption | exact wr rfl (kW hr) | exact st_int rfl (kW hr) | (simp_all; done))
theorem Bp {n : Nat} {l : List Int} : D.inn n (.agg (bd l).flatten) = true := gk (n := n) (l := l)
def vZ : VS := (DQ 1024 fz, DQ 1024 false)
theorem Bq : vZ.ok := ⟨by simp [vZ], by simp [vZ]⟩
theorem ws {kk ks ko known : Int} {l : List FactT} {s : VS} (h : s.ok) : (l.foldl (fe kk ks ko known) s).ok := by
 induction l generalizing s with
 | nil => exact h
 | cons f l ih => exact ih (vaGo_ok f h)
def b6 (kk ks ko known : Int) (l : List FactT) : List Int := qi (l.foldl (fe kk ks ko known) vZ) (DQ 1024 0)
theorem cv {kk ks ko known : Int} {l : List FactT} : (b6 kk ks ko known l).length = 1024 := kW (by simp)
theorem yN {kk ks ko known : Int} {l : List FactT} (hl : al l) : Ev Dg Γ0 159 [ab (l.map Ds), .agg [int kk, int ks, int ko], int known] [] (.agg (bd (b6 kk ks ko known l)).flatten) (oL [7] (vaE kk ks ko known l (DQ 1024 0) vZ)) := by
 have hw := yM (kk := kk) (ks := ks) (ko := ko) (known := known) hl (rs := DQ 1024 0) (b0 := vZ.1) (s0 := vZ.2) Bq (ws Bq) (by simp) (by unfold cU; kernel_rfl) (by unfold cU vZ; kernel_rfl) (by unfold cU vZ; kernel_rfl)
 refine Ev.of_cw (fn := DK) (by kernel_rfl) (by kernel_rfl) hw ?_
 have hc : bp Dg (oL [7] (vaE kk ks ko known l (DQ 1024 0) vZ)) 215 (.ref (.ptr 1 0)) = some (.agg (bd (b6 kk ks ko known l)).flatten) := wr rfl cv
 have hr : bm Dg (mkT 63 0 [(6, .ref (.ptr 1 0))]) (oL [7] (vaE kk ks ko known l (DQ 1024 0) vZ)) DK.results.toList = some [.agg (bd (b6 kk ks ko known l)).flatten] := by
  show (match iy Dg (mkT 63 0 [(6, .ref (.ptr 1 0))]) (oL [7] (vaE kk ks ko known l (DQ 1024 0) vZ)) (.cell 6 215), some [] with
   | some d, some ds => some (d :: ds)
   | _, _ => none) = _
  have : iy Dg (mkT 63 0 [(6, .ref (.ptr 1 0))]) (oL [7] (vaE kk ks ko known l (DQ 1024 0) vZ)) (.cell 6 215) = some (.agg (bd (b6 kk ks ko known l)).flatten) := hc
  rw [this]
 simp only [finF, pre]
 rw [hr]
 rfl
theorem qk {kk ks ko known : Int} {l : List FactT} (hl : al l) (h : List Blk) : Ev Dg Γ0 159 [ab (l.map Ds), .agg [int kk, int ks, int ko], int known] h (.agg (bd (b6 kk ks ko known l)).flatten) h :=
 Ev.frame0 rfl (by have := Ev.trim (h := []) (d := .agg (bd (b6 kk ks ko known l)).flatten) Bp rfl (yN (kk := kk) (ks := ks) (ko := ko) (known := known) hl); simpa using this) h
end Go.Vi
open Go Go.Proofs
namespace Go.Vi
set_option maxRecDepth 100000
set_option maxHeartbeats 4000000
abbrev ai (rs : List (List Dp)) : List (List D) := rs.map (De D.p)
theorem ae (rs : List (List Dp)) (f : Ref → D) : (ai rs).map (D6 f) = ai rs := ak f rs
theorem zZ (k : Nat) : ∀ r : List Dp, Fw k (r.map .p) = true
 | [] => rfl
 | _ :: r => by simp [Fw, D.inn, zZ k r]
theorem bL (rs : List (List Dp)) (k : Nat) : (ai rs).all (Fw k) = true := by
 rw [DX]
 intro r hr
 obtain ⟨x, _, rfl⟩ := DL.1 hr
 exact zZ k x
theorem rJ {h : List Blk} {l r : List Int} (hb : h[1]? = some (.var (bd r).flatten)) (hr : r.length = 1024) (hl : l.length = 1024) : bS Dg h 215 (.ref (.ptr 1 0)) (.agg (bd l).flatten) = some (h.set 1 (.var (bd l).flatten)) :=
 pO qj (by rw [eS (sz := 1) (bd l) (fun r hr => by obtain ⟨_, _, rfl⟩ := DL.1 hr; rfl)]; simp only [bd, EW, hl]; kernel_rfl)
  (by rw [eS (sz := 1) (bd l) (fun r hr => by obtain ⟨_, _, rfl⟩ := DL.1 hr; rfl), eS (sz := 1) (bd r) (fun r hr => by obtain ⟨_, _, rfl⟩ := DL.1 hr; rfl)]; simp [hl, hr]) hb
structure PtT where
 term : Int
 value : Int
 deriving Inhabited, DecidableEq
def PtT.row (p : PtT) : List Dp := [vi p.term, vi p.value]
theorem wt {h : List Blk} {off n : Nat} {l : List Int} {v : Int} (hb : h[1]? = some (.var (bd l).flatten)) (hs : l[n]? = some v) (ho : off = n * 1) : bp Dg h 3 (.ref (.ptr 1 off)) = some (int v) := by
 subst ho
 exact kI (sz := 1) (j := 0) (row := [int v]) (by kernel_rfl) (by kernel_rfl) hb (fun r hr => by obtain ⟨_, _, rfl⟩ := DL.1 hr; rfl) (by simp [hs]) rfl
noncomputable abbrev ptH (kk ks ko : Int) (rs : List Int) (l : List PtT) : List Blk := [.var [int kk, int ks, int ko], .var (bd rs).flatten, .vec (ai (l.map PtT.row)) 0 2]
noncomputable abbrev ptS (kk ks ko to : Int) (rs : List Int) (l : List PtT) (x : Int) : AS := { t := mkT 38 0 [(3, int to), (10, .ref (.vec 2 0)), (11, .ref (.ptr 1 0)), (12, int x)], h := ptH kk ks ko rs l, m := [] }
theorem dU (f : Ref → D) (l : List Int) : D6 f (bd l).flatten = (bd l).flatten := by
 induction l with
 | nil => rfl
 | cons n l ih => simp only [bd, En, Eo, GK, List.nil_append, D6, D.mapR] at ih ⊢; rw [ih]
theorem te {n : Nat} {l : List Int} {f : Ref → D} : Dy n (.var (D6 f (bd l).flatten)) = true := by rw [dU]; exact gk
theorem af {n : Nat} {rs : List (List Dp)} {e sz : Nat} : Dy n (.vec (ai rs) e sz) = true := bL rs n
def ptF (v : Int) (n : Nat) (l : List PtT) : List PtT := bif decide (v ≥ 0) then l ++ [⟨(n : Int), v⟩] else l
theorem ej (l : List PtT) (n : Nat) (v : Int) : ai (l.map PtT.row) ++ [[int (n : Int), int v]] = ai ((l ++ [PtT.mk (n : Int) v]).map PtT.row) := by simp [PtT.row]
theorem pt_b {kk ks ko to : Int} {rs : List Int} {l : List PtT} {n : Nat} {v : Int} (hv : rs[n]? = .some v) (hn : inR (n : Int) 1024 = true) (hl : l.length ≤ 2000) (hlt : decide ((n : Int) < if false = true then if 1024 > to then 1024 else to else if 1024 < to then 1024 else to) = true) (hw : Dj.wrap ((n : Int) + 1) = ((n + 1 : Nat) : Int)) : (CW Dg Γ0 [] false (sub HW 0) (ptS kk ks ko to rs l (n : Int)) .normal (ptS kk ks ko to rs (ptF v n l) ((n + 1 : Nat) : Int))) := by
 cases hc0 : decide (v ≥ 0)
 ·refine DN (DP (s' := { t := mkT 38 0 [(3, int to), (10, .ref (.vec 2 0)), (11, .ref (.ptr 1 0)), (12, int (Dr Dj ((↑n : Int) + 1)))], h := [.var [int kk, int ks, int ko], .var (D6 (au 2 0 0) (Dx (bd rs))), .vec (ai (De PtT.row l)) 0 2], m := [] }) (e := DE) pok [.st (.mask [3, 10, 11, 12]), .st (.ren 2 0), .st (.trimV 3)] [.b true, .ov 27 (int v), .b false] (by kernel_rfl) (.c hlt (.c hn (.c (show bp Dg [.var [int kk, int ks, int ko], .var (Dx (bd rs)), .vec (ai (De PtT.row l)) 0 2] 3 (.ref (.ptr 1 (0 + Dz (↑n : Int) * 1))) = some (int v) from ?_) (.c hc0 (.c (show De (D6 (au 2 0 0)) (ai (De PtT.row l)) = ai (De PtT.row l) from ?_) (.c (show Dy 3 (match 0 == 2 with | true => .vec (ai (De PtT.row l)) 0 2 | false => keepX (au 2 0 0) (.var [int kk, int ks, int ko])) = true from rfl) (.c (show Dy 3 (match 0 + 1 == 2 with | true => .vec (ai (De PtT.row l)) 0 2 | false => keepX (au 2 0 0) (.var (Dx (bd rs)))) = true from ?_) (.c (show Dy 3 (match 0 + 1 + 1 == 2 with | true => .vec (ai (De PtT.row l)) 0 2 | false => keepX (au 2 0 0) (.vec (ai (De PtT.row l)) 0 2)) = true from ?_) .n))))))))) (by first | (simp only []; done) | (simp only [hw, ptF, hc0, cond_true, cond_false, ej, dU]; first | done | rfl)) (by first | (simp only [hw, ptF, hc0, cond_false, dU]; done) | (simp only [hw, ptF, hc0, cond_true, cond_false, ej, dU]; first | done | rfl)) <;> (first | assumption | rfl | exact wt rfl hv (by simp) | exact ae _ _ | (rw [ej]; exact ae _ _) | exact gk | exact te | exact af | (rw [ej]; exact af) | exact bL _ _ | (rw [ej]; exact bL _ _) | (simp [bC, Gx, El, roomOk]; omega))
 ·let v0 : List Blk := [.var [int kk, int ks, int ko], .var (Dx (bd rs)), .vec (ai (De PtT.row l)) 0 2]
  refine DN (DP (s' := { t := mkT 38 0 [(3, int to), (10, .ref (.vec 2 0)), (11, .ref (.ptr 1 0)), (12, int (Dr Dj ((↑n : Int) + 1)))], h := [.var [int kk, int ks, int ko], .var (D6 (au 2 1 0) (Dx (bd rs))), .vec (ai (De PtT.row l) ++ [[int (↑n : Int), int v]]) 0 2], m := [] }) (e := DE) pok [.st (.mask [3, 10, 11, 12]), .st (.ren 2 0), .st (.trimV 3)] [.b true, .ov 27 (int v), .b true, .ov 33 (int v)] (by kernel_rfl) (.c hlt (.c hn (.c (show bp Dg v0 3 (.ref (.ptr 1 (0 + Dz (↑n : Int) * 1))) = some (int v) from ?_) (.c hc0 (.c hn (.c (show bp Dg v0 3 (.ref (.ptr 1 (0 + Dz (↑n : Int) * 1))) = some (int v) from ?_) (.c (show (Fk [[int (↑n : Int), int v]] (bC 2) && roomOk (Dh (ai (De PtT.row l)) + Dh [[int (↑n : Int), int v]]) 16) = true from ?_) (.c (show De (D6 (au 2 1 0)) (ai (De PtT.row l) ++ [[int (↑n : Int), int v]]) = ai (De PtT.row l) ++ [[int (↑n : Int), int v]] from ?_) (.c (show [[int (↑n : Int), int v]] = [[int (↑n : Int), int v]] from rfl) (.c (show Dy 3 (match 0 == 2 with | true => .vec (ai (De PtT.row l) ++ [[int (↑n : Int), int v]]) 0 2 | false => keepX (au 2 1 0) (.var [int kk, int ks, int ko])) = true from rfl) (.c (show Dy 3 (match 0 + 1 == 2 with | true => .vec (ai (De PtT.row l) ++ [[int (↑n : Int), int v]]) 0 2 | false => keepX (au 2 1 0) (.var (Dx (bd rs)))) = true from ?_) (.c (show Dy 3 (match 0 + 1 + 1 == 2 with | true => .vec (ai (De PtT.row l) ++ [[int (↑n : Int), int v]]) 0 2 | false => keepX (au 2 1 0) (.vec (ai (De PtT.row l) ++ [[int (↑n : Int), int v]]) 1 2)) = true from ?_) .n))))))))))))) (by subst v0; first | (simp only []; done) | (simp only [hw, ptF, hc0, cond_true, cond_false, ej, dU]; first | done | rfl)) (by subst v0; first | (simp only [hw, ptF, hc0, cond_true, dU]; done) | (simp only [hw, ptF, hc0, cond_true, ej, dU]; first | done | rfl)) <;> subst v0 <;> (first | assumption | rfl | exact wt rfl hv (by simp) | exact ae _ _ | (rw [ej]; exact ae _ _) | exact gk | exact te | exact af | (rw [ej]; exact af) | exact bL _ _ | (rw [ej]; exact bL _ _) | (simp [bC, Gx, El, roomOk]; omega))
theorem Br {kk ks ko to : Int} {rs : List Int} {l : List PtT} {x : Int} (hlt : decide (x < if false = true then if 1024 > to then 1024 else to else if 1024 < to then 1024 else to) = false) : (CW Dg Γ0 [] false (sub HW 0) (ptS kk ks ko to rs l x) (.exit 0) { t := mkT 38 0 [(10, .ref (.vec 2 0))], h := ptH kk ks ko rs l, m := [] }) := by
 exact DN (DP (s' := { t := mkT 38 0 [(10, .ref (.vec 2 0))], h := [.var [int kk, int ks, int ko], .var (Dx (bd rs)), .vec (ai (De PtT.row l)) 0 2], m := [] }) (e := Ea 0) pok [.st (.mask [10])] [.b false] (by kernel_rfl) (.c hlt .n)) (by rfl) (by rfl)
def ur (to : Int) : Int := if to < 1024 then to else 1024
theorem wu (to : Int) : (if false = true then if 1024 > to then 1024 else to else if 1024 < to then 1024 else to) = ur to := by
 unfold ur; simp; split <;> split <;> omega
def z6 (rs : List Int) (x to : Int) : List PtT := (EZ x.toNat (ur to - x).toNat).foldl (fun l n => ptF (rs.getD n 0) n l) []
theorem ww (v : Int) (n : Nat) (l : List PtT) : (ptF v n l).length ≤ l.length + 1 := by unfold ptF; cases decide (v ≥ 0) <;> simp
theorem pt_cw {kk ks ko to : Int} {rs : List Int} (hr : rs.length = 1024) {x : Int} (hx : 0 ≤ x) :
  CW Dg Γ0 [] false (.loop (sub HW 0)) (ptS kk ks ko to rs [] x) (.exit 0) { t := mkT 38 0 [(10, .ref (.vec 2 0))], h := ptH kk ks ko rs (z6 rs x to), m := [] } := by
 have hx' : ((x.toNat : Nat) : Int) = x := by omega
 have hh : ur to ≤ 1024 := by unfold ur; split <;> omega
 have := CW.each (P := Dg) (Γ := Γ0) (h0 := []) (rd := false) (c := sub HW 0) (σ := List PtT) (ρ := Empty) (EZ x.toNat (ur to - x).toNat) (fun n l => .inl (ptF (rs.getD n 0) n l))
  (fun i l => ptS kk ks ko to rs l (x + (i : Int))) (.exit 0) (fun l => { t := mkT 38 0 [(10, .ref (.vec 2 0))], h := ptH kk ks ko rs l, m := [] }) (fun r => r.elim)
  (fun i l => l.length ≤ i) (by simp) (fun r => r.elim) ?_ ?_ [] (by simp)
 ·rw [bh (fun l n => ptF (rs.getD n 0) n l)] at this
  simpa [cG, z6] using this
 ·intro i n l hn hs
  obtain ⟨hi, he⟩ := Dm.1 hn
  simp only [List.length_range'] at hi
  simp only [List.getElem_range', IE] at he
  have hlt : (n : Int) < ur to := by omega
  have hb : rs[n]? = some (rs.getD n 0) := by
   rw [DS, DF (by rw [hr]; omega)]; rfl
  refine ⟨fun s' h => by cases h; have := ww (rs.getD n 0) n l; omega, ?_⟩
  have key := pt_b (kk := kk) (ks := ks) (ko := ko) (to := to) (l := l) hb (by simp [inR]; omega) (by omega) (by rw [wu]; simpa using hlt) (by rw [wrap_i64 (by omega) (by omega)]; omega)
  have e1 : x + (i : Int) = (n : Int) := by omega
  have e2 : x + ((i + 1 : Nat) : Int) = ((n + 1 : Nat) : Int) := by omega
  simp only [ad, e1, e2]
  exact key
 ·intro l _
  refine Br ?_
  rw [wu]
  simp
  omega
def ptLo (frm : Int) : Int := if true = true then if frm > 0 then frm else 0 else if frm < 0 then frm else 0
def cg (kk ks ko frm to known : Int) (l : List FactT) : List PtT := z6 (b6 kk ks ko known l) (ptLo frm) to
theorem od (frm : Int) : 0 ≤ (if true = true then if frm > 0 then frm else 0 else if frm < 0 then frm else 0) := by simp; split <;> omega
theorem yO {kk ks ko frm to known : Int} {l : List FactT} (hl : al l) {r0 : List Int} (e1 : cU Dg [.var [int kk, int ks, int ko]] 215 (.ref (.ptr 1 0)) [.var [int kk, int ks, int ko], .var (bd r0).flatten]) (h0 : r0.length = 1024) (h : List Blk) : (Ev Dg Γ0 111 [ab (l.map Ds), .agg [int kk, int ks, int ko], int frm, int to, int known] h (ab ((cg kk ks ko frm to known l).map PtT.row)) h) := by
 have hl0 := (@pt_cw (kk) (ks) (ko) (to) (b6 kk ks ko known l) (by first | assumption | rfl | exact cv | exact od _ | exact rJ rfl h0 cv | (simp; done)) (if true = true then if frm > 0 then frm else 0 else if frm < 0 then frm else 0) (by first | assumption | rfl | exact cv | exact od _ | exact rJ rfl h0 cv | (simp; done)))
 let v0 := Dx (bd (b6 kk ks ko known l))
 let v1 := De PtT.row (z6 (b6 kk ks ko known l) (if true = true then if frm > 0 then frm else 0 else if frm < 0 then frm else 0) to)
 let v2 : List Blk := [.var [int kk, int ks, int ko], .var (Dx (bd r0))]
 let v3 := De PtT.row (cg kk ks ko frm to known l)
 refine Dv (Ev.sym0 (d := ab v3) pok [.val (EB v0), .oh 11 (.ref (.ptr 1 0)) v2, .oh 10011 D.any [.var [int kk, int ks, int ko], .var v0], .nx 1, .st (.nilT 10 2), .sum [3, 10, 11, 12] (Ea 0) { t := mkT 38 0 [(10, .ref (.vec 2 0))], h := [.var [int kk, int ks, int ko], .var v0, .vec (ai v1) 0 2], m := [] }, .st (.frz 2 v3)] (by kernel_rfl) (.c (@qk kk ks ko known l hl ([.var [int kk, int ks, int ko]])) (.c (show cU Dg [.var [int kk, int ks, int ko]] 215 (.ref (.ptr 1 0)) v2 from ?_) (.c (show bS Dg v2 215 (.ref (.ptr 1 0)) (EB v0) = some [.var [int kk, int ks, int ko], .var v0] from ?_) (.c hl0 (.c (show ai v1 = De (fun x => De D.p x) v3 from ?_) .n))))) rfl rfl h) (by rfl) (by rfl) <;> subst v0 v1 v2 v3 <;> (first | assumption | rfl | exact cv | exact od _ | exact rJ rfl h0 cv | (simp; done))
theorem wx {kk ks ko frm to known : Int} {l : List FactT} (hl : al l) (h : List Blk) : Ev Dg Γ0 111 [ab (l.map Ds), .agg [int kk, int ks, int ko], int frm, int to, int known] h (ab ((cg kk ks ko frm to known l).map PtT.row)) h :=
 yO hl (r0 := DQ 1024 0) (by unfold cU; kernel_rfl) (by simp) h
end Go.Vi
open Go Go.Proofs Go.Shelf Go.RowKit Go.Sort
namespace Go.Vi
abbrev jz {α : Type} (enc : α → List Value) (l : List α) : List (List D) := l.map fun x => (enc x).map lit
theorem mN {w : World} {av : Nat → Prop} {loc : Loc} {h : List Blk} : ∀ {vs ys : List Value}, RelL w av loc h (vs.map lit) ys → ys = vs
  | [], [], _ => rfl
  | [], _ :: _, r => by simp [RelL] at r
  | _ :: _, [], r => by simp [RelL] at r
  | v :: vs, y :: ys, r => by
    simp only [En, RelL] at r
    have h1 : y = v := by simpa [Rel, RelP] using r.1
    rw [h1, mN r.2]
theorem eU {w : World} {av : Nat → Prop} {loc : Loc} {h : List Blk} : ∀ {vs : List Value}, RelL w av loc h (vs.map lit) vs
  | [] => trivial
  | v :: vs => by
    simp only [En, RelL]
    exact ⟨by simp [Rel, RelP], eU⟩
theorem mO {α : Type} (enc : α → List Value) (l : List α) : (jz enc l).flatten = ((l.map enc).flatten).map lit := by
  induction l with
  | nil => rfl
  | cons a l ih => simp only [jz, En, Eo, Ek] at ih ⊢; rw [ih]
theorem i6 {α : Type} [Inhabited α] (enc : α → List Value) (k : Nat) (hk : ∀ x, (enc x).length = k) (l : List α) : (flatK enc k l.toArray).toList = (l.map enc).flatten := by
  have key : ∀ (l : List α) (t : Nat), t < l.length * k → ((l.map enc).flatten)[t]? = some ((enc (l.toArray[t / k]!))[t % k]!) := by
    intro l
    induction l with
    | nil => intro t h; simp at h
    | cons a l ih =>
      intro t h
      simp only [En, Eo]
      rcases Nat.lt_or_ge t k with hlt | hge
      · rw [DB (by rw [hk]; exact hlt), Nat.div_eq_of_lt hlt, Nat.mod_eq_of_lt hlt]
        have : t < (enc a).length := by rw [hk]; exact hlt
        simp [this]
      · have k0 : 0 < k := by rcases Nat.eq_zero_or_pos k with h0 | h0
                              · subst h0; simp at h
                              · exact h0
        rw [Eb (by rw [hk]; exact hge), hk]
        obtain ⟨u, rfl⟩ : ∃ u, t = u + k := ⟨t - k, by omega⟩
        have hu : u < l.length * k := by simp only [DZ, Nat.add_mul, IE] at h; omega
        rw [show u + k - k = u by omega, ih u hu, Nat.add_div_right _ k0, Nat.add_mod_right]
        simp
  apply F1
  intro t
  have hlen : ((l.map enc).flatten).length = l.length * k := by
    clear key
    induction l with
    | nil => simp
    | cons a l ih => simp only [En, Eo, List.length_append, hk, ih, DZ, Nat.add_mul, IE]; omega
  by_cases ht : t < l.length * k
  · rw [key l t ht]
    simp [flatK, ht]
  · rw [EH (by simp [flatK]; omega), EH (by omega)]
theorem ut {w w' : World} (h1 : w.heap.size ≤ w'.heap.size) (h2 : ∀ k, k < w.heap.size → w'.heap[k]? = w.heap[k]?) (h3 : w'.tape = w.tape ∧ w'.os = w.os ∧ w'.output = w.output ∧ w.drawn ≤ w'.drawn) :
    ∃ q os', w' = GV (w.drewN q) os' := by
  refine ⟨w'.drawn - w.drawn, w'.heap.extract w.heap.size w'.heap.size, ?_⟩
  obtain ⟨heap, tape, drawn, os, output⟩ := w
  obtain ⟨heap', tape', drawn', os', output'⟩ := w'
  obtain ⟨rfl, rfl, rfl, h4⟩ := h3
  simp only [GV, World.drewN] at h1 h2 h4 ⊢
  congr 1
  · apply Array.ext'
    rw [Array.toList_append, Array.toList_extract]
    apply F1
    intro i
    by_cases hi : i < heap.size
    · rw [DB (by simpa using hi)]
      have := h2 i hi
      rw [← Eh, ← Eh] at this
      exact this
    · rw [Eb (by simpa using FJ hi)]
      simp only [List.extract_eq_take_drop, Array.length_toList]
      by_cases hj : i < heap'.size
      · rw [List.getElem?_take, if_pos (by omega), List.getElem?_drop]
        congr 1; omega
      · rw [EH (by simpa using FJ hj), EH (by simp; omega)]
  · omega
theorem uu {P : Program} {Γ : am} {O : Nat → Prop} {α : Type} [Inhabited α] {enc : α → List Value} {k g : Nat} {cf : α → α → Int} {w : World} {loc : Loc} {h : List Blk} (R : Rep Γ O w loc h) {blk : Nat} (hblk : avs O loc h blk)
    (hE : ∀ x y, Ev P Γ g [.agg ((enc x).map lit), .agg ((enc y).map lit)] [] (int (cf x y)) []) (size : Nat) : CmpLays P g #[] enc k cf blk 0 size w := by
  intro m os dk hs x y
  generalize hW : sortWorldK enc k w blk 0 m dk os = W
  have hb : blk < w.heap.size := by
    rcases hblk with ho | ho
    · exact R.obd blk ho
    · exact (R.inb blk ho).1
  have hcell : ∀ b off v, ¬ avs O loc h b → w.cell? ⟨b, off, none⟩ = some v → W.cell? ⟨b, off, none⟩ = some v ∧ ¬ avs (fun _ => False) loc [] b := by
    intro b off v hn hc
    have hne : b ≠ blk := fun e => hn (e ▸ hblk)
    refine ⟨?_, fun ho => ho.elim id (fun h => absurd h cF)⟩
    subst hW
    have hlt : b < w.heap.size := by
      simp only [Ig] at hc
      split at hc
      · rename_i hx; exact (Fa.1 hx).1
      · simp at hc
    have : (sortWorldK enc k w blk 0 m dk os).heap[b]? = w.heap[b]? := by
      unfold sortWorldK
      rw [GC _ _ (by simpa [putRowK, E5, EX, Fe] using hlt)]
      simp [putRowK, E5, EX, Fe, F4, Ne.symm hne]
    simp only [Ig, this]
    exact hc
  have R0 : Rep Γ (fun _ => False) W loc [] := by
    refine ⟨fun blk ho => absurd ho cF, fun blk ho => ho.elim, fun b b' x x' k c c' hb => by simp at hb, fun b x hb => by simp at hb, fun g cs hg => ?_⟩
    exact RelCells.mono hcell g 0 cs (R.glo g cs hg)
  have ra : RelL W (avs (fun _ => False) loc []) loc [] [.agg ((enc x).map lit), .agg ((enc y).map lit)] [.agg (enc x).toArray, .agg (enc y).toArray] := by
    refine ⟨⟨_, rfl, eU⟩, ⟨_, rfl, eU⟩, trivial⟩
  refine IG (callsIn_wide.1 (hE x y (fun _ => False) W loc _ R0 ra)) ?_
  rintro e w' ⟨v, d2, h2, l', rfl, ⟨rfl, rfl⟩, R', E', rd⟩
  refine ⟨?_, ut E'.size (fun b hb => E'.same b hb cF) E'.tape⟩
  have : v = .int .i64 (cf x y) := by simpa [Rel, RelP] using rd
  rw [this]
theorem jt {P : Program} {ρ : Ren} {Γ : am} (ok : POk P) (L : SlLaysF0.n6 P ρ) {α : Type} [Inhabited α] {enc : α → List Value} {k : Nat} (aE : ∀ w, (isAgg (ρ.t 24)).run P w = .ok true w) (zE : ∀ w, (Go.sizeOf (ρ.t 24)).run P w = .ok k w) (hk : ∀ x, (enc x).length = k) (h1 : ∀ x, ∀ v ∈ enc x, v.oneCell' = true)
    {cf : α → α → Int} (hO : Sort.SWO (ltOf cf)) {g : Nat} (hg : eu P g = true) (hE : ∀ x y, Ev P Γ g [.agg ((enc x).map lit), .agg ((enc y).map lit)] [] (int (cf x y)) [])
    {h : List Blk} {b e : Nat} {l : List α} (hb : h[b]? = some (.vec (jz enc l) e k)) (hl : l.length < 4611686018427387904) (hT : ∀ x ∈ l, ∀ y ∈ l, (ltOf cf) x y = false → (ltOf cf) y x = false → x = y) :
    Ev P Γ (ρ.f 6) [.ref (.vec b e), .p (.v (.func (.func g) #[] #[]))] h (.tup []) (h.set b (.vec (jz enc (l.mergeSort fun x y => !(ltOf cf) y x)) e k)) := by
  intro O w loc vs R ra
  obtain ⟨y, rfl⟩ : ∃ y, vs = [y, .func (.func g) #[] #[]] := by
    match vs, ra with
    | [y, z], r => exact ⟨y, by have : z = .func (.func g) #[] #[] := by simpa [Rel, RelP, RelL] using r.2
                                rw [this]⟩
    | [], r => simp [RelL] at r
    | [_], r => simp [RelL] at r
    | _ :: _ :: _ :: _, r => simp [RelL] at r
  have r := ra.1
  simp only [Rel, RefRel, hb] at r
  have hv := r.2.2 trivial
  have B := R.blk b _ hb
  simp only [BlkOk] at B
  have hlen : (jz enc l).length = l.length := by simp [jz]
  refine callsIn_wide.2 ?_
  cases hlb : loc b with
  | none =>
    rw [hlb] at hv B
    obtain ⟨hn, rfl⟩ := hv
    have hl0 : l = [] := by simpa [jz] using hn
    subst hl0
    refine IG (AnyF.slices_SortFunc_none L none 0 _ w) ?_
    rintro e' w' ⟨rfl, rfl⟩
    have hset : h.set b (.vec (jz enc (([] : List α).mergeSort fun x y => !(ltOf cf) y x)) e k) = h := by
      apply F1
      intro i
      by_cases hi : i = b
      · subst hi; rw [bf hb, hb]; simp
      · rw [bO _ _ hi]
    refine ⟨.tuple #[], .tup [], _, loc, rfl, ⟨rfl, rfl⟩, ?_, ?_, ?_⟩
    · rw [hset]; exact R
    · rw [hset]; exact Ext.refl _ _ _
    · simp [Rel, RelL]
  | some p =>
    obtain ⟨blk, cap⟩ := p
    rw [hlb] at hv B
    obtain ⟨rfl, hcap⟩ := hv
    simp only at B
    obtain ⟨c, T, fr, ys, hobj, hcs, hle, hfr, hsz, hrel, rest, hcl⟩ := B
    rw [mO] at hrel
    have hys := mN hrel
    subst hys
    have hblk : blk < w.heap.size := (Fa.1 hobj).1
    have hown : avs O loc h blk := .inr ⟨b, _, cap, hb, by simp, hlb⟩
    have hH : HoldsK enc k w blk 0 l.toArray := by
      intro j hj
      have hj' : j < l.length * k := by simpa using hj
      have hc : c[j]? = some (flatK enc k l.toArray)[j]! := by
        rw [← Eh, hcl, ← i6 enc k hk l, DB (by simpa using hj')]
        rw [Eh, getElem!_pos _ j (by simpa using hj')]
        exact D4 _
      constructor
      · simp [Ig, hobj, hc]
      · have := hfr j (Fa.1 hc).1
        obtain ⟨lo, hi⟩ := fr
        simp only [World.frozen?, hobj, Nat.zero_add]
        rw [← Gd]
        simpa using this
    have eg : ∀ args w, (callFunc g args).run P w = .ok (.enter g args) w := fun args w => by
      unfold eu at hg
      split at hg
      · rename_i fn hfn; exact call_run ok hfn hg args w
      · simp at hg
    rw [hlen]
    refine IG (AnyQ.slices_SortFunc L k aE zE enc hk h1 cf hO g #[] blk 0 cap l.toArray w eg (uu R hown hE _) hH hblk hl) ?_
    rintro e' w' ⟨rfl, d', n, os, hP, hS, rfl⟩
    have hd' : d'.toList = l.mergeSort fun x y => !(ltOf cf) y x := by
      obtain ⟨hsz', _, hperm⟩ := hP
      have e1 : d'.extract 0 l.toArray.size = d' := by rw [← hsz']; exact IH
      rw [e1, IH] at hperm
      refine List.Perm.eq_of_pairwise (le := fun x y => (!(ltOf cf) y x) = true) ?_ ?_ ?_ (hperm.trans (FE _ _).symm)
      · intro a b' ha hb' h1 h2
        simp only [EL] at h1 h2
        have ha' : a ∈ l := by simpa using hperm.mem_iff.1 ha
        have hb2 : b' ∈ l := (FE _ _).mem_iff.1 hb'
        exact hT a ha' b' hb2 h2 h1
      · rw [List.pairwise_iff_getElem]
        intro i j hi hj hij
        have hi' : i < d'.size := by simpa using hi
        have hj' : j < d'.size := by simpa using hj
        have := hS i j (Nat.zero_le _) hij (by omega)
        rw [getElem!_pos d' j hj', getElem!_pos d' i hi'] at this
        simpa using this
      · exact List.pairwise_mergeSort (fun a b c h1 h2 => by
          simp only [EL] at h1 h2 ⊢
          exact hO.ntrans _ _ _ h2 h1) (fun a b => by
          cases hab : (ltOf cf) b a
          · simp
          · have : (ltOf cf) a b = false := by
              cases hba : (ltOf cf) a b
              · rfl
              · have := hO.trans _ _ _ hab hba
                rw [hO.irrefl] at this; exact absurd this (by simp)
            simp [this]) l
    have hdA : d' = (l.mergeSort fun x y => !(ltOf cf) y x).toArray := by rw [← hd']
    have hlm : (l.mergeSort fun x y => !(ltOf cf) y x).length = l.length := by simp
    subst hdA
    clear hP hS hd'
    generalize (l.mergeSort fun x y => !(ltOf cf) y x) = m at hlm ⊢
    have hobj' : (sortWorldK enc k w blk 0 n m.toArray os).heap[blk]? = some (.cells (Ft id 0 (flatK enc k m.toArray) c) T fr) := by
      unfold sortWorldK
      rw [GC _ _ (by simpa [putRowK, E5, EX, Fe] using hblk)]
      simp [putRowK, E5, EX, Fe, F4, hobj, Sort.onCells]
    have hfl : ((l.map enc).flatten).length = l.length * k := by rw [← i6 enc k hk]; simp
    have hcells : (Ft id 0 (flatK enc k m.toArray) c).toList = (m.map enc).flatten ++ rest := by
      unfold Ft
      rw [Array.toList_mapIdx, hcl, ← i6 enc k hk m]
      apply F1
      intro i
      rw [List.getElem?_mapIdx]
      by_cases hi : i < l.length * k
      · rw [DB (by rw [hfl]; exact hi), DB (by simpa [hlm] using hi)]
        have hi2 : i < ((l.map enc).flatten).length := by rw [hfl]; exact hi
        have hi3 : i < (flatK enc k m.toArray).size := by simpa [hlm] using hi
        rw [DF hi2, Eh, D4 hi3]
        simp only [Option.map_some, Nat.zero_add, Nat.zero_le, Nat.sub_zero, true_and, id_eq, if_pos hi3]
        rw [getElem!_pos _ i hi3]
      · rw [Eb (by rw [hfl]; exact FJ hi), Eb (by simpa [hlm] using FJ hi)]
        simp [hi, hlm, hfl]
    have key := R.step (w' := sortWorldK enc k w blk 0 n m.toArray os) (l' := loc) (h' := h.set b (.vec (jz enc m) e k)) b (.vec (jz enc m) e k)
      (by simp [sortWorldK, GV, putRowK, E5, EX, Fe]) ⟨rfl, rfl, rfl, by simp [sortWorldK, GV, putRowK, E5, EX, Fe]⟩ (fun i hi => bO _ _ hi) (bf hb) (fun _ _ => rfl)
      (fun z hz => by rw [hb] at hz; cases hz; exact ⟨⟨Nat.le_refl _, fun _ => by simp [jz, hlm], rfl⟩, fun _ => rfl⟩)
      (fun k' hk' hno => by
        have hkb : k' ≠ blk := fun e => hno _ cap hb (by simp) (by rw [hlb, e])
        unfold sortWorldK
        rw [GC _ _ (by simpa [putRowK, E5, EX, Fe] using hk')]
        simp [putRowK, E5, EX, Fe, F4, Ne.symm hkb])
      (fun k' c' hk' => .inl ⟨_, c', hb, by simp, hk'⟩)
      (fun E => by
        simp only [BlkOk, hlb]
        refine ⟨_, T, fr, (m.map enc).flatten, hobj', ?_, ?_, ?_, ?_, ?_, rest, hcells⟩
        · simpa [Ft] using hcs
        · simpa [jz, hlm] using hle
        · simpa [Ft] using hfr
        · intro r hr
          obtain ⟨x, _, rfl⟩ := DL.1 hr
          simp [hk]
        · rw [mO]; exact eU)
    exact ⟨.tuple #[], .tup [], _, loc, rfl, ⟨rfl, rfl⟩, key.1, key.2, by simp [Rel, RelL]⟩
end Go.Vi
open Go Go.Proofs Go.Shelf
namespace Go.Proofs
def Tryz.sortAtt_ren : Go.Shelf.Ren := ⟨fun | 6 => 117 | 15 => 122 | 14 => 162 | 28 => 173 | 29 => 174 | 20 => 200 | 21 => 201 | 22 => 202 | 23 => 203 | 24 => 204 | 25 => 205 | 26 => 206 | 27 => 207 | 46 => 227 | 47 => 211 | 48 => 212 | 49 => 228 | 50 => 229 | 57 => 235 | n => n, fun | 22 => 45 | 24 => 52 | 25 => 144 | 3 => 3 | 39 => 192 | 0 => 0 | 53 => 233 | 55 => 169 | 4 => 4 | 46 => 227 | 45 => 226 | 50 => 150 | 5 => 5 | 9 => 9 | 66 => 251 | 70 => 255 | 76 => 265 | 77 => 266 | n => n, fun | n => n⟩
theorem Tryz.sortAtt : HP Dg Tryz.sortAtt_ren := {
 mixed := by kernel_rfl
 f6 := ⟨Tryz.f117.name, by decide, Tryz.func117.trans (congrArg some (by kernel_rfl))⟩
 f14 := ⟨Tryz.f162.name, by decide, Tryz.func162.trans (congrArg some (by kernel_rfl))⟩
 f15 := Tryz.func122.trans (congrArg some (by kernel_rfl))
 f20 := ⟨Tryz.f200.name, by decide, Tryz.func200.trans (congrArg some (by kernel_rfl))⟩
 f21 := ⟨Tryz.f201.name, by decide, Tryz.func201.trans (congrArg some (by kernel_rfl))⟩
 f22 := ⟨Tryz.f202.name, by decide, Tryz.func202.trans (congrArg some (by kernel_rfl))⟩
 f23 := ⟨Tryz.f203.name, by decide, Tryz.func203.trans (congrArg some (by kernel_rfl))⟩
 f24 := ⟨Tryz.f204.name, by decide, Tryz.func204.trans (congrArg some (by kernel_rfl))⟩
 f25 := ⟨Tryz.f205.name, by decide, Tryz.func205.trans (congrArg some (by kernel_rfl))⟩
 f26 := ⟨Tryz.f206.name, by decide, Tryz.func206.trans (congrArg some (by kernel_rfl))⟩
 f27 := ⟨Tryz.f207.name, by decide, Tryz.func207.trans (congrArg some (by kernel_rfl))⟩
 f28 := Tryz.func173.trans (congrArg some (by kernel_rfl))
 f29 := Tryz.func174.trans (congrArg some (by kernel_rfl))
 f46 := ⟨Tryz.f227.name, by decide, Tryz.func227.trans (congrArg some (by kernel_rfl))⟩
 f47 := Tryz.func211.trans (congrArg some (by kernel_rfl))
 f48 := Tryz.func212.trans (congrArg some (by kernel_rfl))
 f49 := ⟨Tryz.f228.name, by decide, Tryz.func228.trans (congrArg some (by kernel_rfl))⟩
 f50 := ⟨Tryz.f229.name, by decide, Tryz.func229.trans (congrArg some (by kernel_rfl))⟩
 f57 := ⟨Tryz.f235.name, by decide, Tryz.func235.trans (congrArg some (by kernel_rfl))⟩
 t0 := Tryz.underlying0
 a0 := Tryz.isAgg0
 z0 := Tryz.sizeOf0
 v0 := Tryz.zeroValue0
 t3 := Tryz.underlying3
 a3 := Tryz.isAgg3
 z3 := Tryz.sizeOf3
 v3 := Tryz.zeroValue3
 t4 := Tryz.underlying4
 a4 := Tryz.isAgg4
 z4 := Tryz.sizeOf4
 v4 := Tryz.zeroValue4
 t5 := Tryz.underlying5
 a5 := Tryz.isAgg5
 z5 := Tryz.sizeOf5
 v5 := Tryz.zeroValue5
 t9 := Tryz.underlying9
 a9 := Tryz.isAgg9
 z9 := Tryz.sizeOf9
 v9 := Tryz.zeroValue9
 t22 := Tryz.underlying45
 a22 := Tryz.isAgg45
 z22 := Tryz.sizeOf45
 v22 := Tryz.zeroValue45
 t25 := Tryz.underlying144
 a25 := Tryz.isAgg144
 z25 := Tryz.sizeOf144
 v25 := Tryz.zeroValue144
 t39 := Tryz.underlying192
 a39 := Tryz.isAgg192
 z39 := Tryz.sizeOf192
 v39 := Tryz.zeroValue192
 t45 := Tryz.underlying226
 a45 := Tryz.isAgg226
 z45 := Tryz.sizeOf226
 v45 := Tryz.zeroValue226
 t46 := Tryz.underlying227
 a46 := Tryz.isAgg227
 z46 := Tryz.sizeOf227
 v46 := Tryz.zeroValue227
 t50 := Tryz.underlying150
 a50 := Tryz.isAgg150
 z50 := Tryz.sizeOf150
 v50 := Tryz.zeroValue150
 t53 := Tryz.underlying233
 a53 := Tryz.isAgg233
 z53 := Tryz.sizeOf233
 v53 := Tryz.zeroValue233
 t55 := Tryz.underlying169
 a55 := Tryz.isAgg169
 z55 := Tryz.sizeOf169
 v55 := Tryz.zeroValue169
 t66 := Tryz.underlying251
 a66 := Tryz.isAgg251
 z66 := Tryz.sizeOf251
 v66 := Tryz.zeroValue251
 t70 := Tryz.underlying255
 a70 := Tryz.isAgg255
 z70 := Tryz.sizeOf255
 v70 := Tryz.zeroValue255
 t76 := Tryz.underlying265
 a76 := Tryz.isAgg265
 z76 := Tryz.sizeOf265
 v76 := Tryz.zeroValue265
 t77 := Tryz.underlying266
 a77 := Tryz.isAgg266
 z77 := Tryz.sizeOf266
 v77 := Tryz.zeroValue266 }
end Go.Proofs
namespace Go.Vi
open Go.Sort
def uL (a b : AttT) : Int := orI (aR a.term b.term) (aR a.course b.course)
def leA (a b : AttT) : Bool := !(ltOf uL) b a
theorem rK (a b : AttT) : (ltOf uL) a b = true ↔ a.term < b.term ∨ (a.term = b.term ∧ a.course < b.course) := by
 unfold ltOf uL orI aR
 simp only [decide_eq_true_eq]
 repeat' split
 all_goals simp_all
 all_goals omega
theorem oe (a b : AttT) : (ltOf uL) a b = false ↔ ¬ (a.term < b.term ∨ (a.term = b.term ∧ a.course < b.course)) := by
 rw [← rK, Gd]
theorem swoA : SWO (ltOf uL) where
 irrefl x := by rw [oe]; omega
 trans x y z h1 h2 := by rw [rK] at *; omega
 ntrans x y z h1 h2 := by rw [oe] at *; omega
def encA (a : AttT) : List Value := [.int .i64 a.course, .int .i64 a.term, .int .i64 a.grade, .int .i64 a.campus, .int .i64 a.credits]
abbrev Bs (l : List AttT) : List (List D) := l.map fun a => a.row.map .p
theorem uv {h : List Blk} {b e : Nat} {l : List AttT} (hb : h[b]? = some (.vec (Bs l) e 5)) (hl : l.length < 4611686018427387904) (hT : ∀ x ∈ l, ∀ y ∈ l, x.term = y.term → x.course = y.course → x = y) :
  Ev Dg Γ0 117 [.ref (.vec b e), .p (.v (.func (.func 79) #[] #[]))] h (.tup []) (h.set b (.vec (Bs (l.mergeSort leA)) e 5)) :=
 jt (α := AttT) (enc := encA) (k := 5) (cf := uL) pok Tryz.sortAtt Tryz.isAgg52 Tryz.sizeOf52 (fun _ => rfl) (fun x v hv => by simp [encA] at hv; rcases hv with rfl | rfl | rfl | rfl | rfl <;> rfl) swoA (by kernel_rfl) (fun x y => gX []) hb hl
  (fun x hx y hy h1 h2 => by
   rw [oe] at h1 h2
   exact hT x hx y hy (by omega) (by omega))
end Go.Vi
open Go Go.Proofs
namespace Go.Vi
set_option maxRecDepth 100000
set_option maxHeartbeats 4000000
structure ReadT where
 kind : Int
 sub : Int
 obj : Int
 frm : Int
 til : Int
 deriving Inhabited, DecidableEq
def ReadT.row (r : ReadT) : List Dp := [vi r.kind, vi r.sub, vi r.obj, vi r.frm, vi r.til]
abbrev rdR (l : List ReadT) : List (List Dp) := l.map ReadT.row
theorem rd_ok (l : List ReadT) : (ai (rdR l)).all (bC 5) = true := by
 rw [DX]
 intro r hr
 obtain ⟨x, hx, rfl⟩ := DL.1 hr
 obtain ⟨y, _, rfl⟩ := DL.1 hx
 rfl
abbrev lkH (w : WorldT) (known : Int) (rs : List ReadT) (e : Nat) : List Blk := [.var [.ref (.vec 1 e), ab (w.c.map Dt), ab w.p, ab (w.s.map Dw), ab (w.f.map Ds), int known], .vec (ai (rdR rs)) e 5]
theorem tf {w : WorldT} {known : Int} {rs qs : List ReadT} (hb : rs.length + qs.length ≤ 1000000000) : (Ev Dg Γk 119 [.ref (.ptr 0 0), ab (rdR qs)] (lkH w known rs 0) (.tup []) (lkH w known (rs ++ qs) 1)) := by
 refine Dv (FC (h' := [.var [.ref (.vec 1 1), ab (De Dt w.c), ab w.p, ab (De Dw w.s), ab (De Ds w.f), int known], .vec (ai (rdR rs) ++ De (fun x => De D.p x) (rdR qs)) 1 5]) (d := Em []) pok [] (by kernel_rfl) (.c (show (Fk (De (fun x => De D.p x) (rdR qs)) (bC 5) && roomOk (Dh (ai (rdR rs)) + Dh (De (fun x => De D.p x) (rdR qs))) 40) = true from (by first | assumption | rfl | omega | (simp only [rd_ok, roomOk, EM, Dl, decide_eq_true_eq, EW]; omega))) .n)) ?_ ?_ <;> (first | rfl | (simp only [lkH, rdR, ai, Ek]; rfl) | (simp only [lkH, rdR, ai, Ek]; done))
theorem ql {w : WorldT} {known : Int} {rs : List ReadT} {q : ReadT} (hb : rs.length ≤ 999999999) : (Ev Dg Γk 119 [.ref (.ptr 0 0), .ref (.vec 2 0)] (lkH w known rs 0 ++ [.vec [[int q.kind, int q.sub, int q.obj, int q.frm, int q.til]] 0 5]) (.tup []) (lkH w known (rs ++ [q]) 1 ++ [.vec [[int q.kind, int q.sub, int q.obj, int q.frm, int q.til]] 0 5])) := by
 let v0 : List D := [int q.kind, int q.sub, int q.obj, int q.frm, int q.til]
 refine Dv (FC (h' := [.var [.ref (.vec 1 1), ab (De Dt w.c), ab w.p, ab (De Dw w.s), ab (De Ds w.f), int known], .vec (ai (rdR rs) ++ [v0]) 1 5, .vec [v0] 0 5]) (d := Em []) pok [] (by kernel_rfl) (.c (show (Fk [v0] (bC 5) && roomOk (Dh (ai (rdR rs)) + Dh [v0]) 40) = true from (by subst v0; first | assumption | rfl | omega | (simp [bC, Gx, El, roomOk]; omega))) .n)) ?_ ?_ <;> subst v0 <;> (first | rfl | (simp only [lkH, rdR, ai, Ek]; rfl) | (simp only [lkH, rdR, ai, Ek]; done))
def rdN : ReadT := ⟨12, 0, 0, 0, 1⟩
theorem rL {w : WorldT} (hw : w.ok) {known : Int} (h : List Blk) : Ev Dg Γk 34 [.agg w.l, int known] h (.tup [ab ((ah w.f known).map fun n => [vi n]), .ref (.vec h.length 0)]) (h ++ [.vec (ai (rdR [rdN])) 0 5]) :=
 Ev.glob0 (kV hw.lf hw.sf h)
def rdT (kk ks ko term : Int) : List ReadT := match outB term with
 | true => []
 | false => [⟨kk, ks, ko, term, Dj.wrap (term + 1)⟩]
theorem Bt (kk ks ko term : Int) : kT kk ks ko term = rdR (rdT kk ks ko term) := by
 unfold kT rdT
 cases outB term <;> rfl
theorem rdT_len (kk ks ko term : Int) : (rdT kk ks ko term).length ≤ 1 := by unfold rdT; cases outB term <;> simp
theorem i7 {w : WorldT} (hw : w.ok) {n term known : Int} (h : List Blk) : Ev Dg Γk 161 [.agg w.l, int n, int term, int known] h (.tup [ag (ac w n term known).1.row, ab (rdR (rdT 1 n 0 term)), bool (ac w n term known).2]) h := by
 rw [← Bt]; exact uo hw h
noncomputable abbrev kX (w : WorldT) (known : Int) (rs : List ReadT) : List Blk := [.var [.ref (.vec 1 1), ab (De Dt w.c), ab w.p, ab (De Dw w.s), ab (De Ds w.f), int known], .vec (ai (rdR (rs ++ [rdN]))) 1 5, .vec [[int rdN.kind, int rdN.sub, int rdN.obj, int rdN.frm, int rdN.til]] 0 5]
noncomputable abbrev rM (w : WorldT) (known : Int) (rs : List ReadT) : List Blk := [.var [.ref (.vec 1 0), ab (De Dt w.c), ab w.p, ab (De Dw w.s), ab (De Ds w.f), int known], .vec (ai (rdR rs)) 0 5, .vec [[int rdN.kind, int rdN.sub, int rdN.obj, int rdN.frm, int rdN.til]] 0 5]
noncomputable abbrev rN (w : WorldT) (known : Int) (rs : List ReadT) : List Blk := [.var [.ref (.vec 1 0), ab (De Dt w.c), ab w.p, ab (De Dw w.s), ab (De Ds w.f), int known], .vec (ai (rdR rs)) 0 5]
theorem og {w : WorldT} (hw : w.ok) {known : Int} {rs : List ReadT} (hb : rs.length ≤ 999999000) : (Ev Dg Γk 62 [.ref (.ptr 0 0)] (lkH w known rs 0) (ab ((ah w.f known).map fun n => [vi n])) (lkH w known (rs ++ [rdN]) 1)) := by
 let v0 : List D := [.ref (.vec 1 1), ab (De Dt w.c), ab w.p, ab (De Dw w.s), ab (De Ds w.f), int known]
 refine Dv (Ev.post (d2 := ab (De (fun n => [vi n]) (ah w.f known))) (h2 := [.var v0, .vec (ai (rdR (rs ++ [rdN]))) 1 5]) (φ := [Dy 2 (.var v0) = true, Dy 2 (.vec (ai (rdR (rs ++ [rdN]))) 1 5) = true]) [.st (.trimV 2)] (FC (h' := (kX w known rs)) (d := ab (De (fun n => [vi n]) (ah w.f known))) pok [.call (Em [ab (De (fun n => [vi n]) (ah w.f known)), .ref (.vec 2 0)]) (rM w known rs), .call (Em []) (kX w known rs)] (by kernel_rfl) (.c (@rL w hw known (rN w known rs)) (.e (.ref (.ptr 0 0)) (.e (.ref (.ptr 0 1)) (.e (EB (DY w)) (.e (.ref (.ptr 0 0)) (.e (.ref (.ptr 0 5)) (.e (int known) (.c (@ql w known rs rdN ?_) .n))))))))) (by kernel_rfl) ⟨rfl, ?_, trivial⟩) (by subst v0; first | rfl | (simp only [lkH, rdR, ai, Ek]; rfl) | (simp only [lkH, rdR, ai, Ek]; done)) (by subst v0; first | rfl | (simp only [lkH, rdR, ai, Ek]; rfl) | (simp only [lkH, rdR, ai, Ek]; done)) <;> subst v0 <;> (first | assumption | rfl | omega | exact bL _ _ | exact af | (simp; omega) | (simp only [rd_ok, roomOk, EM, Dl, decide_eq_true_eq, EW]; omega))
noncomputable abbrev lT (w : WorldT) (known : Int) (rs : List ReadT) : List Blk := [.var [.ref (.vec 1 0), ab (De Dt w.c), ab w.p, ab (De Dw w.s), ab (De Ds w.f), int known], .vec (ai (rdR rs)) 0 5, .var [aA { data := #[] }, int 0, int 0, int 0, int 0, int 0, aA { data := #[] }, int 0, int 0, nq, int 0, int 0, aA { data := #[] }, int 0, int 0, nq], .var [aA { data := #[] }, int 0, int 0, int 0, int 0, int 0, aA { data := #[] }, int 0, int 0, nq, int 0, int 0, aA { data := #[] }, int 0, int 0, nq]]
noncomputable abbrev c7 (w : WorldT) (known : Int) (rs : List ReadT) : List Blk := [.var [.ref (.vec 1 0), ab (De Dt w.c), ab w.p, ab (De Dw w.s), ab (De Ds w.f), int known], .vec (ai (rdR rs)) 0 5, .var [aA { data := #[] }, int 0, int 0, int 0, int 0, int 0, aA { data := #[] }, int 0, int 0, nq, int 0, int 0, aA { data := #[] }, int 0, int 0, nq]]
noncomputable abbrev xN (w : WorldT) (known : Int) (n : Int) (term : Int) : List D := [EB [ab (De Dt w.c), ab w.p, ab (De Dw w.s), ab (De Ds w.f)], int n, int term, int known]
theorem kY {w : WorldT} (hw : w.ok) {known n term : Int} {rs : List ReadT} (hb : rs.length ≤ 999999000) : (Ev Dg Γk 116 [.ref (.ptr 0 0), int n, int term] (lkH w known rs 0) (ag (ac w n term known).1.row) (lkH w known (rs ++ rdT 1 n 0 term) 1)) := by
 let v1 : List Blk := [.var [.ref (.vec 1 0), ab (De Dt w.c), ab w.p, ab (De Dw w.s), ab (De Ds w.f), int known], .vec (ai (rdR rs)) 0 5, .var [aA { data := #[] }, int 0, int 0, int 0, int 0, int 0, aA { data := #[] }, int 0, int 0, nq, int 0, int 0, aA { data := #[] }, int 0, int 0, nq], .var [aA (ac w n term known).fst.name, int (ac w n term known).fst.number, int (ac w n term known).fst.credits, int (ac w n term known).fst.rep, int (Dn (ac w n term known).fst.need).op, int (Dn (ac w n term known).fst.need).c, aA (Dn (ac w n term known).fst.need).nm, int (Dn (ac w n term known).fst.need).n, int (Dn (ac w n term known).fst.need).d, ab (Dn (ac w n term known).fst.need).ks, int (Dn (ac w n term known).fst.bar).op, int (Dn (ac w n term known).fst.bar).c, aA (Dn (ac w n term known).fst.bar).nm, int (Dn (ac w n term known).fst.bar).n, int (Dn (ac w n term known).fst.bar).d, ab (Dn (ac w n term known).fst.bar).ks]]
 let v2 : List D := [.ref (.vec 1 1), ab (De Dt w.c), ab w.p, ab (De Dw w.s), ab (De Ds w.f), int known]
 let v0 : List Blk := [.var v2, .vec (ai (rdR (rs ++ rdT 1 n 0 term))) 1 5, .var [aA { data := #[] }, int 0, int 0, int 0, int 0, int 0, aA { data := #[] }, int 0, int 0, nq, int 0, int 0, aA { data := #[] }, int 0, int 0, nq], .var [aA (ac w n term known).fst.name, int (ac w n term known).fst.number, int (ac w n term known).fst.credits, int (ac w n term known).fst.rep, int (Dn (ac w n term known).fst.need).op, int (Dn (ac w n term known).fst.need).c, aA (Dn (ac w n term known).fst.need).nm, int (Dn (ac w n term known).fst.need).n, int (Dn (ac w n term known).fst.need).d, ab (Dn (ac w n term known).fst.need).ks, int (Dn (ac w n term known).fst.bar).op, int (Dn (ac w n term known).fst.bar).c, aA (Dn (ac w n term known).fst.bar).nm, int (Dn (ac w n term known).fst.bar).n, int (Dn (ac w n term known).fst.bar).d, ab (Dn (ac w n term known).fst.bar).ks]]
 refine Dv (Ev.post (d2 := EB [aA (ac w n term known).fst.name, int (ac w n term known).fst.number, int (ac w n term known).fst.credits, int (ac w n term known).fst.rep, int (Dn (ac w n term known).fst.need).op, int (Dn (ac w n term known).fst.need).c, aA (Dn (ac w n term known).fst.need).nm, int (Dn (ac w n term known).fst.need).n, int (Dn (ac w n term known).fst.need).d, ab (Dn (ac w n term known).fst.need).ks, int (Dn (ac w n term known).fst.bar).op, int (Dn (ac w n term known).fst.bar).c, aA (Dn (ac w n term known).fst.bar).nm, int (Dn (ac w n term known).fst.bar).n, int (Dn (ac w n term known).fst.bar).d, ab (Dn (ac w n term known).fst.bar).ks]) (h2 := [.var v2, .vec (ai (rdR (rs ++ rdT 1 n 0 term))) 1 5]) (φ := [Dy 2 (.var v2) = true, Dy 2 (.vec (ai (rdR (rs ++ rdT 1 n 0 term))) 1 5) = true]) [.st (.trimV 2)] (FC (h' := [.var v2, .vec (ai (rdR (rs ++ rdT 1 n 0 term))) 1 5, .var [aA (ac w n term known).fst.name, int (ac w n term known).fst.number, int (ac w n term known).fst.credits, int (ac w n term known).fst.rep, int (Dn (ac w n term known).fst.need).op, int (Dn (ac w n term known).fst.need).c, aA (Dn (ac w n term known).fst.need).nm, int (Dn (ac w n term known).fst.need).n, int (Dn (ac w n term known).fst.need).d, ab (Dn (ac w n term known).fst.need).ks, int (Dn (ac w n term known).fst.bar).op, int (Dn (ac w n term known).fst.bar).c, aA (Dn (ac w n term known).fst.bar).nm, int (Dn (ac w n term known).fst.bar).n, int (Dn (ac w n term known).fst.bar).d, ab (Dn (ac w n term known).fst.bar).ks], .var [aA (ac w n term known).fst.name, int (ac w n term known).fst.number, int (ac w n term known).fst.credits, int (ac w n term known).fst.rep, int (Dn (ac w n term known).fst.need).op, int (Dn (ac w n term known).fst.need).c, aA (Dn (ac w n term known).fst.need).nm, int (Dn (ac w n term known).fst.need).n, int (Dn (ac w n term known).fst.need).d, ab (Dn (ac w n term known).fst.need).ks, int (Dn (ac w n term known).fst.bar).op, int (Dn (ac w n term known).fst.bar).c, aA (Dn (ac w n term known).fst.bar).nm, int (Dn (ac w n term known).fst.bar).n, int (Dn (ac w n term known).fst.bar).d, ab (Dn (ac w n term known).fst.bar).ks]]) (d := EB [aA (ac w n term known).fst.name, int (ac w n term known).fst.number, int (ac w n term known).fst.credits, int (ac w n term known).fst.rep, int (Dn (ac w n term known).fst.need).op, int (Dn (ac w n term known).fst.need).c, aA (Dn (ac w n term known).fst.need).nm, int (Dn (ac w n term known).fst.need).n, int (Dn (ac w n term known).fst.need).d, ab (Dn (ac w n term known).fst.need).ks, int (Dn (ac w n term known).fst.bar).op, int (Dn (ac w n term known).fst.bar).c, aA (Dn (ac w n term known).fst.bar).nm, int (Dn (ac w n term known).fst.bar).n, int (Dn (ac w n term known).fst.bar).d, ab (Dn (ac w n term known).fst.bar).ks]) pok [.val (Em [EB [aA (ac w n term known).fst.name, int (ac w n term known).fst.number, int (ac w n term known).fst.credits, int (ac w n term known).fst.rep, int (Dn (ac w n term known).fst.need).op, int (Dn (ac w n term known).fst.need).c, aA (Dn (ac w n term known).fst.need).nm, int (Dn (ac w n term known).fst.need).n, int (Dn (ac w n term known).fst.need).d, ab (Dn (ac w n term known).fst.need).ks, int (Dn (ac w n term known).fst.bar).op, int (Dn (ac w n term known).fst.bar).c, aA (Dn (ac w n term known).fst.bar).nm, int (Dn (ac w n term known).fst.bar).n, int (Dn (ac w n term known).fst.bar).d, ab (Dn (ac w n term known).fst.bar).ks], ab (rdR (rdT 1 n 0 term)), bool (ac w n term known).snd]), .call (Em []) v0] (by kernel_rfl) (.c (@i7 w hw n term known (c7 w known rs)) (.e (.ref (.ptr 0 0)) (.e (.ref (.ptr 0 0)) (.e (.ref (.ptr 0 1)) (.e (.ref (.ptr 0 1)) (.e (EB (DY w)) (.e (EB (DY w)) (.e (.ref (.ptr 0 0)) (.e (.ref (.ptr 0 0)) (.e (.ref (.ptr 0 5)) (.e (.ref (.ptr 0 5)) (.e (int known) (.e (int known) (.c (show (c7 w known rs) = (c7 w known rs) from rfl) (.c (@i7 w hw n term known (c7 w known rs)) (.c (@i7 w hw n term known (lT w known rs)) (.c (show Ev Dg Γk 119 [.ref (.ptr 0 0), ab (rdR (rdT 1 n 0 term))] v1 (Em []) v0 from (Dv (Ev.frameX (args := [.ref (.ptr 0 0), ab (rdR (rdT 1 n 0 term))]) (H := v1) [0, 1] (@tf w known rs (rdT 1 n 0 term) (by subst v1 v2 v0; first | assumption | rfl | omega | exact bL _ _ | exact af | (have := rdT_len 1 n 0 term; omega) | (simp; omega))) (by kernel_rfl) (by kernel_rfl) (by kernel_rfl) ⟨?_, trivial⟩ ⟨?_, trivial⟩) (by kernel_rfl) (by kernel_rfl))) .n)))))))))))))))))) (by kernel_rfl) ⟨rfl, (by subst v1 v2 v0; first | assumption | rfl | omega | exact bL _ _ | exact af | (have := rdT_len 1 n 0 term; omega) | (simp; omega)), trivial⟩) (by subst v1 v2 v0; first | rfl | (simp only [lkH, rdR, ai, Ek]; rfl) | (simp only [lkH, rdR, ai, Ek]; done)) (by subst v1 v2 v0; first | rfl | (simp only [lkH, rdR, ai, Ek]; rfl) | (simp only [lkH, rdR, ai, Ek]; done)) <;> subst v1 v2 v0 <;> (first | rfl | exact ak _ _ | first | assumption | rfl | omega | exact bL _ _ | exact af | (have := rdT_len 1 n 0 term; omega) | (simp; omega))
noncomputable abbrev c8 (w : WorldT) (known : Int) (st : Int) (n : Int) (term : Int) (rs : List ReadT) : List Blk := [.var [.ref (.vec 1 1), ab (De Dt w.c), ab w.p, ab (De Dw w.s), ab (De Ds w.f), int known], .vec (ai (rdR (rs ++ [{ kind := 5, sub := st, obj := n, frm := 0, til := term }]))) 1 5, .var [int 5, int st, int n], .vec [[int 5, int st, int n, int 0, int term]] 0 5]
theorem rO {w : WorldT} (hw : w.ok) {known st n term : Int} {rs : List ReadT} (hb : rs.length ≤ 999999000) : (Ev Dg Γk 115 [.ref (.ptr 0 0), int st, int n, int term] (lkH w known rs 0) (ab ((cg 5 st n 0 term known w.f).map PtT.row)) (lkH w known (rs ++ [⟨5, st, n, 0, term⟩]) 1)) := by
 let v0 : List Blk := [.var [.ref (.vec 1 0), ab (De Dt w.c), ab w.p, ab (De Dw w.s), ab (De Ds w.f), int known], .vec (ai (rdR rs)) 0 5, .var [int 5, int st, int n], .vec [[int 5, int st, int n, int 0, int term]] 0 5]
 let v1 : List D := [.ref (.vec 1 1), ab (De Dt w.c), ab w.p, ab (De Dw w.s), ab (De Ds w.f), int known]
 let v2 := De PtT.row (cg 5 st n 0 term known w.f)
 refine Dv (Ev.post (d2 := ab v2) (h2 := [.var v1, .vec (ai (rdR (rs ++ [{ kind := 5, sub := st, obj := n, frm := 0, til := term }]))) 1 5]) (φ := [Dy 2 (.var v1) = true, Dy 2 (.vec (ai (rdR (rs ++ [{ kind := 5, sub := st, obj := n, frm := 0, til := term }]))) 1 5) = true]) [.st (.trimV 2)] (FC (h' := (c8 w known st n term rs)) (d := ab v2) pok [.call (Em []) (c8 w known st n term rs), .val (ab v2)] (by kernel_rfl) (.c (show Ev Dg Γk 119 [.ref (.ptr 0 0), .ref (.vec 3 0)] v0 (Em []) (c8 w known st n term rs) from (Dv (Ev.frameX (args := [.ref (.ptr 0 0), .ref (.vec 3 0)]) (H := v0) [0, 1, 3] (@ql w known rs ({ kind := 5, sub := st, obj := n, frm := 0, til := term }) (by subst v0 v1 v2; first | assumption | rfl | omega | exact bL _ _ | exact af | exact hw.sf | (simp; omega) | (simp [bC, Gx, El, roomOk]; omega))) (by kernel_rfl) (by kernel_rfl) (by kernel_rfl) ⟨?_, ?_, trivial⟩ ⟨?_, ?_, trivial⟩) (by kernel_rfl) (by kernel_rfl))) (.e (.ref (.ptr 0 0)) (.e (.ref (.ptr 0 0)) (.e (.ref (.ptr 0 0)) (.e (.ref (.ptr 0 0)) (.e (EB [int 5, int st, int n]) (.c (Ev.glob0 (Γ' := Γk) (@wx 5 st n 0 term known (w.f) (by subst v0 v1 v2; first | assumption | rfl | omega | exact bL _ _ | exact af | exact hw.sf | (simp; omega) | (simp [bC, Gx, El, roomOk]; omega)) (c8 w known st n term rs))) .n)))))))) (by kernel_rfl) ⟨rfl, (by subst v0 v1 v2; first | assumption | rfl | omega | exact bL _ _ | exact af | exact hw.sf | (simp; omega) | (simp [bC, Gx, El, roomOk]; omega)), trivial⟩) (by subst v0 v1 v2; first | rfl | (simp only [lkH, rdR, ai, Ek]; rfl) | (simp only [lkH, rdR, ai, Ek]; done)) (by subst v0 v1 v2; first | rfl | (simp only [lkH, rdR, ai, Ek]; rfl) | (simp only [lkH, rdR, ai, Ek]; done)) <;> subst v0 v1 v2 <;> (first | rfl | exact ak _ _ | first | assumption | rfl | omega | exact bL _ _ | exact af | exact hw.sf | (simp; omega) | (simp [bC, Gx, El, roomOk]; omega))
end Go.Vi
