/- RecordOfSpecUpto: part of the proof: contracts of the functions that the law reaches, and the law. No conditions beyond the given statement's own. -/
import Derived.Test.YtilebidefogaiaaGreatDoorW6
import Derived.Test.YtilebidefogaiaaGreatDoorCards
import Derived.Test.YtilebidefogaiaaGreatDoorTie
import Derived.WalkKit
import Derived.ProofKit
import Derived.OpenShut
import Derived.Deep.DeepHandedRow
import Derived.Lib.LaidTab
open Go.Vi.CourseT renaming row → Cp
open Go.Vi.SysT renaming row → CD
open Go.Vi.FactT renaming row → Ch
open List renaming map → B6, length → Cb, all → Cx, getElem?_eq_some_iff → Ce, length_nil → EE, length_map → DR, foldl_cons → DG, length_cons → Di, forall_mem_cons → C5
open Go.IntKind renaming i64 → B8, wrap → Cc
open Go.Proofs.Tryz renaming prog → B7, f68 → Gx, f26 → EY
open Go.Vi.D renaming mapRL → C6, p → Ei, one → Fa, tup → DC, agg → Db
open Go.Value renaming tuple → Dd, oneCell' → CX
open Go.Vi.CW renaming cast → Ct, symX → Cu
open Go.Exit renaming normal → Cq, exit → CE
open Go.Vi.Blk renaming inn → Cz
open Go.Vi.WorldT renaming l → Dy
open Bool renaming and_true → C3, and_false → Cw, true_and → CN, false_and → Cs, and_eq_true → Cd, eq_iff_iff → Eu, or_eq_false_iff → D2, not_eq_false' → Fw
open Go.Vi.Ev renaming castH → Cj, sym0 → Cn, glob0 → CZ
open Go.Vi.AttT renaming row → Ci
open Int renaming tmod → Fp, tdiv → Fq
open Go.Vi.RuleT renaming fl → B9
open Go.Vi.PtT renaming row → Dn
open Go Go.Proofs
namespace Go.Vi
set_option maxRecDepth 100000
set_option maxHeartbeats 4000000
abbrev n8H (w : WorldT) (l : List Int) : List Blk := [.var w.l, .var [int 12, int 0, int 0], .vec (nuV l) 0 1]
abbrev n8S (w : WorldT) (many : Int) (l : List Int) (i : Int) : AS := { t := mkT 71 0 [(2, .ref (.ptr 0 0)), (6, .ref (.ptr 1 0)), (7, int many), (9, .ref (.vec 2 0)), (10, int i)], h := n8H w l, m := [] }
abbrev n8E (w : WorldT) (l : List Int) : AS := { t := mkT 71 0 [(6, .ref (.ptr 1 0)), (9, .ref (.vec 2 0))], h := n8H w l, m := [] }
def n8F (many : Int) (f : FactT) (l : List Int) : List Int ⊕ List Int := bif decide ((l.length : Int) < many) then .inl (bif isNew f l then l ++ [f.sub] else l) else .inr l
theorem zT (many : Int) : n8F many = nuF many := by
 funext f l
 unfold n8F nuF
 by_cases h : (l.length : Int) < many
 ·rw [if_neg (by simp; omega)]; simp [h]
 ·rw [if_pos (by simp; omega)]; simp [h]
abbrev n8K (w : WorldT) (l : List Int) (f : FactT) : List Blk := [.var [ab (w.c.map Cp), ab w.p, ab (w.s.map CD), ab (w.f.map Ch)], .var [int 12, int 0, int 0], .vec (nuV l) 0 1, .var [int f.kind, int f.sub, int f.obj]]
theorem xd : ∀ l : List Int, eH (nuV l) = some (bA l)
 | [] => rfl
 | x :: l => by
  have := xd l
  simp only [nuV, List.map_cons] at this ⊢
  unfold eH
  rw [this]; rfl
theorem zU {w : WorldT} {l : List Int} {f : FactT} : tA (n8K w l f) [D.ref (.vec 2 0), int f.sub] = [ab (bA l), int f.sub] := by
 have e : frzV (.ref (.vec 2 0)) 0 (some (.vec (nuV l) 0 1)) = ab (bA l) := by
  unfold frzV; simp only [xd]
 show [frzV (.ref (.vec 2 0)) 0 (some (.vec (nuV l) 0 1)), int f.sub] = _
 rw [e]
noncomputable abbrev iR (w : WorldT) (l : List Int) (f : FactT) : List Blk := [.var [ab (B6 Cp w.c), ab w.p, ab (B6 CD w.s), ab (B6 Ch w.f)], .var [int 12, int 0, int 0], .vec (nuV l) 0 1, .var [int f.kind, int f.sub, int f.obj]]
theorem BW {w : WorldT} {many : Int} {l : List Int} {i : Nat} {f : FactT} {c : Bool} (hr : aH (i : Int) (w.f.map Ch) f.row 8) (hlt : decide ((i : Int) < ((w.f.map Ch).length : Int)) = true) (hm : decide (((nuV l).length : Int) < many) = true) (hw : B8.wrap ((i : Int) + 1) = ((i + 1 : Nat) : Int)) (hl : l.length ≤ 70000)
 (hc : Ev B7 Γ0 126 [.ref (.vec 2 0), int f.sub] (n8K w l f) (bool c) (n8K w l f))
 (hp : ∀ f, (nuV l).map (C6 f) = nuV l) (hi : ∀ k, (nuV l).all (D.innL k) = true) : (CW B7 Γ0 [] false (sub Gx 0) (n8S w many l i) .normal (n8S w many (bif (f.kind == 1 && (f.obj == 0 && (decide (f.sub ≥ 0) && decide (f.sub ≤ 4095) && !c))) then l ++ [f.sub] else l) ((i + 1 : Nat) : Int))) := by
 cases hc0 : f.kind == 1
 ·let v0 := Cb (B6 Ch w.f)
  let v1 := Ei (Dp.v (Dd { toList := [] }))
  refine Ct (Cu (s' := { t := mkT 71 0 [(2, .ref (.ptr 0 0)), (6, .ref (.ptr 1 0)), (7, int many), (9, .ref (.vec 2 0)), (10, int (Cc B8 ((↑i : Int) + 1)))], h := [.var [ab (B6 Cp w.c), ab w.p, ab (B6 CD w.s), ab (B6 Ch w.f)], .var [int 12, int 0, int 0], .vec (nuV l) 0 1], m := [] }) (e := Cq) pok [.st (.mask [2, 6, 7, 9, 10]), .st (.ren 2 0), .st (.trimV 3)] [.g true, .g true, .g true, .g true, .ov 32 (bool (decide ((↑(Cb (nuV l)) : Int) < many))), .b true, .row [vi f.kind, vi f.sub, vi f.obj, vi f.value, vi f.frm, vi f.til, vi f.known, vi f.no], .g false, .g false, .g false, .ov 48 (bool false), .g false, .g false, .g false, .ov 53 (bool false), .g false, .g false, .g false, .g false, .g false, .ov 60 (bool false), .b false] (by kernel_rfl) (.c (show (decide ((↑i : Int) < (↑v0 : Int)) == true) = true from (by subst v0 v1; rw [hlt]; rfl)) (.c (show (decide ((↑i : Int) < (↑v0 : Int)) == true) = true from (by subst v0 v1; rw [hlt]; rfl)) (.c (show (decide ((↑i : Int) < (↑v0 : Int)) == true) = true from (by subst v0 v1; rw [hlt]; rfl)) (.c (show (decide ((↑i : Int) < (↑v0 : Int)) == true) = true from (by subst v0 v1; rw [hlt]; rfl)) (.c (show ae (bool (decide ((↑i : Int) < (↑v0 : Int)))) (bool (decide ((↑(Cb (nuV l)) : Int) < many))) (bool false) (bool (decide ((↑(Cb (nuV l)) : Int) < many))) from (af hlt rfl)) (.c hm (.c hr (.c (show ((f.kind == 1) == true) = false from (by subst v0 v1; rw [hc0]; rfl)) (.c (show ((f.kind == 1) == true) = false from (by subst v0 v1; rw [hc0]; rfl)) (.c (show ((f.kind == 1) == true) = false from (by subst v0 v1; rw [hc0]; rfl)) (.c (show ae (bool (f.kind == 1)) v1 (bool false) (bool false) from (ai hc0 rfl)) (.c (show (false == true) = false from rfl) (.c (show (false == true) = false from rfl) (.c (show (false == true) = false from rfl) (.c (show ae (bool false) v1 (bool false) (bool false) from (ai rfl rfl)) (.c (show (false == true) = false from rfl) (.c (show (false == true) = false from rfl) (.c (show (false == true) = false from rfl) (.c (show (false == true) = false from rfl) (.c (show (false == true) = false from rfl) (.c (show ae (bool false) v1 (bool false) (bool false) from (ai rfl rfl)) (.c (show false = false from rfl) (.c (show B6 (C6 (aS 2 0 0)) (nuV l) = nuV l from ?_) (.c (show Cz 3 (match 0 == 2 with | true => .vec (nuV l) 0 1 | false => keepX (aS 2 0 0) (.var (Dy w))) = true from rfl) (.c (show Cz 3 (match 0 + 1 == 2 with | true => .vec (nuV l) 0 1 | false => keepX (aS 2 0 0) (.var [int 12, int 0, int 0])) = true from rfl) (.c (show Cz 3 (match 0 + 1 + 1 == 2 with | true => .vec (nuV l) 0 1 | false => keepX (aS 2 0 0) (.vec (nuV l) 0 1)) = true from ?_) .n))))))))))))))))))))))))))) (by subst v0 v1; first | rfl | (simp only [hw, aF, hc0, C3, Cw, CN, Cs, cond_true, cond_false]; first | done | rfl)) (by subst v0 v1; first | rfl | (simp only [hw, Cs, cond_false]; first | done | rfl)) <;> subst v0 v1 <;> (first | assumption | rfl | exact aU _ _ | exact aV _ _ | (rw [aF]; exact aU _ _) | (rw [aF]; exact aV _ _) | (simp [aO, Fa, CX, roomOk]; omega))
 ·cases hc1 : f.obj == 0
  ·let v0 := Cb (B6 Ch w.f)
   refine Ct (Cu (s' := { t := mkT 71 0 [(2, .ref (.ptr 0 0)), (6, .ref (.ptr 1 0)), (7, int many), (9, .ref (.vec 2 0)), (10, int (Cc B8 ((↑i : Int) + 1)))], h := [.var [ab (B6 Cp w.c), ab w.p, ab (B6 CD w.s), ab (B6 Ch w.f)], .var [int 12, int 0, int 0], .vec (nuV l) 0 1], m := [] }) (e := Cq) pok [.st (.mask [2, 6, 7, 9, 10]), .st (.ren 2 0), .st (.trimV 3)] [.g true, .g true, .g true, .g true, .ov 32 (bool (decide ((↑(Cb (nuV l)) : Int) < many))), .b true, .row [vi f.kind, vi f.sub, vi f.obj, vi f.value, vi f.frm, vi f.til, vi f.known, vi f.no], .g true, .g true, .g true, .ov 48 (bool (f.obj == 0)), .g false, .g false, .g false, .ov 53 (bool false), .g false, .g false, .g false, .g false, .g false, .ov 60 (bool false), .b false] (by kernel_rfl) (.c (show (decide ((↑i : Int) < (↑v0 : Int)) == true) = true from (by subst v0; rw [hlt]; rfl)) (.c (show (decide ((↑i : Int) < (↑v0 : Int)) == true) = true from (by subst v0; rw [hlt]; rfl)) (.c (show (decide ((↑i : Int) < (↑v0 : Int)) == true) = true from (by subst v0; rw [hlt]; rfl)) (.c (show (decide ((↑i : Int) < (↑v0 : Int)) == true) = true from (by subst v0; rw [hlt]; rfl)) (.c (show ae (bool (decide ((↑i : Int) < (↑v0 : Int)))) (bool (decide ((↑(Cb (nuV l)) : Int) < many))) (bool false) (bool (decide ((↑(Cb (nuV l)) : Int) < many))) from (af hlt rfl)) (.c hm (.c hr (.c (show ((f.kind == 1) == true) = true from (by subst v0; rw [hc0]; rfl)) (.c (show ((f.kind == 1) == true) = true from (by subst v0; rw [hc0]; rfl)) (.c (show ((f.kind == 1) == true) = true from (by subst v0; rw [hc0]; rfl)) (.c (show ae (bool (f.kind == 1)) (bool (f.obj == 0)) (bool false) (bool (f.obj == 0)) from (af hc0 rfl)) (.c (show ((f.obj == 0) == true) = false from (by subst v0; rw [hc1]; rfl)) (.c (show ((f.obj == 0) == true) = false from (by subst v0; rw [hc1]; rfl)) (.c (show ((f.obj == 0) == true) = false from (by subst v0; rw [hc1]; rfl)) (.c (show ae (bool (f.obj == 0)) (Ei (Dp.v (Dd { toList := [] }))) (bool false) (bool false) from (ai hc1 rfl)) (.c (show (false == true) = false from rfl) (.c (show (false == true) = false from rfl) (.c (show (false == true) = false from rfl) (.c (show (false == true) = false from rfl) (.c (show (false == true) = false from rfl) (.c (show ae (bool false) (Ei (Dp.v (Dd { toList := [] }))) (bool false) (bool false) from (ai rfl rfl)) (.c (show false = false from rfl) (.c (show B6 (C6 (aS 2 0 0)) (nuV l) = nuV l from ?_) (.c (show Cz 3 (match 0 == 2 with | true => .vec (nuV l) 0 1 | false => keepX (aS 2 0 0) (.var (Dy w))) = true from rfl) (.c (show Cz 3 (match 0 + 1 == 2 with | true => .vec (nuV l) 0 1 | false => keepX (aS 2 0 0) (.var [int 12, int 0, int 0])) = true from rfl) (.c (show Cz 3 (match 0 + 1 + 1 == 2 with | true => .vec (nuV l) 0 1 | false => keepX (aS 2 0 0) (.vec (nuV l) 0 1)) = true from ?_) .n))))))))))))))))))))))))))) (by subst v0; first | rfl | (simp only [hw, aF, hc0, hc1, C3, Cw, CN, Cs, cond_true, cond_false]; first | done | rfl)) (by subst v0; first | rfl | (simp only [hw, Cw, Cs, cond_false]; first | done | rfl)) <;> subst v0 <;> (first | assumption | rfl | exact aU _ _ | exact aV _ _ | (rw [aF]; exact aU _ _) | (rw [aF]; exact aV _ _) | (simp [aO, Fa, CX, roomOk]; omega))
  ·cases hc2 : decide (f.sub ≥ 0) && decide (f.sub ≤ 4095)
   ·let v0 := Cb (B6 Ch w.f)
    refine Ct (Cu (s' := { t := mkT 71 0 [(2, .ref (.ptr 0 0)), (6, .ref (.ptr 1 0)), (7, int many), (9, .ref (.vec 2 0)), (10, int (Cc B8 ((↑i : Int) + 1)))], h := [.var [ab (B6 Cp w.c), ab w.p, ab (B6 CD w.s), ab (B6 Ch w.f)], .var [int 12, int 0, int 0], .vec (nuV l) 0 1], m := [] }) (e := Cq) pok [.st (.mask [2, 6, 7, 9, 10]), .st (.ren 2 0), .st (.trimV 3)] [.g true, .g true, .g true, .g true, .ov 32 (bool (decide ((↑(Cb (nuV l)) : Int) < many))), .b true, .row [vi f.kind, vi f.sub, vi f.obj, vi f.value, vi f.frm, vi f.til, vi f.known, vi f.no], .g true, .g true, .g true, .ov 48 (bool (f.obj == 0)), .g true, .g true, .g true, .val (bool (decide (f.sub ≥ 0) && decide (f.sub ≤ 4095))), .ov 53 (bool (decide (f.sub ≥ 0) && decide (f.sub ≤ 4095))), .g false, .g false, .g false, .g false, .g false, .ov 60 (bool false), .b false] (by kernel_rfl) (.c (show (decide ((↑i : Int) < (↑v0 : Int)) == true) = true from (by subst v0; rw [hlt]; rfl)) (.c (show (decide ((↑i : Int) < (↑v0 : Int)) == true) = true from (by subst v0; rw [hlt]; rfl)) (.c (show (decide ((↑i : Int) < (↑v0 : Int)) == true) = true from (by subst v0; rw [hlt]; rfl)) (.c (show (decide ((↑i : Int) < (↑v0 : Int)) == true) = true from (by subst v0; rw [hlt]; rfl)) (.c (show ae (bool (decide ((↑i : Int) < (↑v0 : Int)))) (bool (decide ((↑(Cb (nuV l)) : Int) < many))) (bool false) (bool (decide ((↑(Cb (nuV l)) : Int) < many))) from (af hlt rfl)) (.c hm (.c hr (.c (show ((f.kind == 1) == true) = true from (by subst v0; rw [hc0]; rfl)) (.c (show ((f.kind == 1) == true) = true from (by subst v0; rw [hc0]; rfl)) (.c (show ((f.kind == 1) == true) = true from (by subst v0; rw [hc0]; rfl)) (.c (show ae (bool (f.kind == 1)) (bool (f.obj == 0)) (bool false) (bool (f.obj == 0)) from (af hc0 rfl)) (.c (show ((f.obj == 0) == true) = true from (by subst v0; rw [hc1]; rfl)) (.c (show ((f.obj == 0) == true) = true from (by subst v0; rw [hc1]; rfl)) (.c (show ((f.obj == 0) == true) = true from (by subst v0; rw [hc1]; rfl)) (.c (@dE (f.sub) 0 4095 (iR w l f)) (.c (show ae (bool (f.obj == 0)) (bool (decide (f.sub ≥ 0) && decide (f.sub ≤ 4095))) (bool false) (bool (decide (f.sub ≥ 0) && decide (f.sub ≤ 4095))) from (af hc1 rfl)) (.c (show ((decide (f.sub ≥ 0) && decide (f.sub ≤ 4095)) == true) = false from (by subst v0; rw [hc2]; rfl)) (.c (show ((decide (f.sub ≥ 0) && decide (f.sub ≤ 4095)) == true) = false from (by subst v0; rw [hc2]; rfl)) (.c (show ((decide (f.sub ≥ 0) && decide (f.sub ≤ 4095)) == true) = false from (by subst v0; rw [hc2]; rfl)) (.c (show ((decide (f.sub ≥ 0) && decide (f.sub ≤ 4095)) == true) = false from (by subst v0; rw [hc2]; rfl)) (.c (show ((decide (f.sub ≥ 0) && decide (f.sub ≤ 4095)) == true) = false from (by subst v0; rw [hc2]; rfl)) (.c (show ae (bool (decide (f.sub ≥ 0) && decide (f.sub ≤ 4095))) (Ei (Dp.v (Dd { toList := [] }))) (bool false) (bool false) from (ai hc2 rfl)) (.c (show false = false from rfl) (.c (show B6 (C6 (aS 2 0 0)) (nuV l) = nuV l from ?_) (.c (show Cz 3 (match 0 == 2 with | true => .vec (nuV l) 0 1 | false => keepX (aS 2 0 0) (.var (Dy w))) = true from rfl) (.c (show Cz 3 (match 0 + 1 == 2 with | true => .vec (nuV l) 0 1 | false => keepX (aS 2 0 0) (.var [int 12, int 0, int 0])) = true from rfl) (.c (show Cz 3 (match 0 + 1 + 1 == 2 with | true => .vec (nuV l) 0 1 | false => keepX (aS 2 0 0) (.vec (nuV l) 0 1)) = true from ?_) .n)))))))))))))))))))))))))))) (by subst v0; first | rfl | (simp only [hw, aF, hc0, hc1, hc2, C3, Cw, CN, Cs, cond_true, cond_false]; first | done | rfl)) (by subst v0; first | rfl | (simp only [hw, Cw, Cs, cond_false]; first | done | rfl)) <;> subst v0 <;> (first | assumption | rfl | exact aU _ _ | exact aV _ _ | (rw [aF]; exact aU _ _) | (rw [aF]; exact aV _ _) | (simp [aO, Fa, CX, roomOk]; omega))
   ·cases hc3 : !c
    ·let v0 := Cb (B6 Ch w.f)
     refine Ct (Cu (s' := { t := mkT 71 0 [(2, .ref (.ptr 0 0)), (6, .ref (.ptr 1 0)), (7, int many), (9, .ref (.vec 2 0)), (10, int (Cc B8 ((↑i : Int) + 1)))], h := [.var [ab (B6 Cp w.c), ab w.p, ab (B6 CD w.s), ab (B6 Ch w.f)], .var [int 12, int 0, int 0], .vec (nuV l) 0 1], m := [] }) (e := Cq) pok [.st (.mask [2, 6, 7, 9, 10]), .st (.ren 2 0), .st (.trimV 3)] [.g true, .g true, .g true, .g true, .ov 32 (bool (decide ((↑(Cb (nuV l)) : Int) < many))), .b true, .row [vi f.kind, vi f.sub, vi f.obj, vi f.value, vi f.frm, vi f.til, vi f.known, vi f.no], .g true, .g true, .g true, .ov 48 (bool (f.obj == 0)), .g true, .g true, .g true, .val (bool (decide (f.sub ≥ 0) && decide (f.sub ≤ 4095))), .ov 53 (bool (decide (f.sub ≥ 0) && decide (f.sub ≤ 4095))), .g true, .g true, .g true, .g true, .val (bool c), .g true, .ov 60 (bool !c), .b false] (by kernel_rfl) (.c (show (decide ((↑i : Int) < (↑v0 : Int)) == true) = true from (by subst v0; rw [hlt]; rfl)) (.c (show (decide ((↑i : Int) < (↑v0 : Int)) == true) = true from (by subst v0; rw [hlt]; rfl)) (.c (show (decide ((↑i : Int) < (↑v0 : Int)) == true) = true from (by subst v0; rw [hlt]; rfl)) (.c (show (decide ((↑i : Int) < (↑v0 : Int)) == true) = true from (by subst v0; rw [hlt]; rfl)) (.c (show ae (bool (decide ((↑i : Int) < (↑v0 : Int)))) (bool (decide ((↑(Cb (nuV l)) : Int) < many))) (bool false) (bool (decide ((↑(Cb (nuV l)) : Int) < many))) from (af hlt rfl)) (.c hm (.c hr (.c (show ((f.kind == 1) == true) = true from (by subst v0; rw [hc0]; rfl)) (.c (show ((f.kind == 1) == true) = true from (by subst v0; rw [hc0]; rfl)) (.c (show ((f.kind == 1) == true) = true from (by subst v0; rw [hc0]; rfl)) (.c (show ae (bool (f.kind == 1)) (bool (f.obj == 0)) (bool false) (bool (f.obj == 0)) from (af hc0 rfl)) (.c (show ((f.obj == 0) == true) = true from (by subst v0; rw [hc1]; rfl)) (.c (show ((f.obj == 0) == true) = true from (by subst v0; rw [hc1]; rfl)) (.c (show ((f.obj == 0) == true) = true from (by subst v0; rw [hc1]; rfl)) (.c (@dE (f.sub) 0 4095 (iR w l f)) (.c (show ae (bool (f.obj == 0)) (bool (decide (f.sub ≥ 0) && decide (f.sub ≤ 4095))) (bool false) (bool (decide (f.sub ≥ 0) && decide (f.sub ≤ 4095))) from (af hc1 rfl)) (.c (show ((decide (f.sub ≥ 0) && decide (f.sub ≤ 4095)) == true) = true from (by subst v0; rw [hc2]; rfl)) (.c (show ((decide (f.sub ≥ 0) && decide (f.sub ≤ 4095)) == true) = true from (by subst v0; rw [hc2]; rfl)) (.c (show ((decide (f.sub ≥ 0) && decide (f.sub ≤ 4095)) == true) = true from (by subst v0; rw [hc2]; rfl)) (.c (show ((decide (f.sub ≥ 0) && decide (f.sub ≤ 4095)) == true) = true from (by subst v0; rw [hc2]; rfl)) (.c (@hc) (.c (show ((decide (f.sub ≥ 0) && decide (f.sub ≤ 4095)) == true) = true from (by subst v0; rw [hc2]; rfl)) (.c (show ae (bool (decide (f.sub ≥ 0) && decide (f.sub ≤ 4095))) (bool !c) (bool false) (bool !c) from (af hc2 rfl)) (.c hc3 (.c (show B6 (C6 (aS 2 0 0)) (nuV l) = nuV l from ?_) (.c (show Cz 3 (match 0 == 2 with | true => .vec (nuV l) 0 1 | false => keepX (aS 2 0 0) (.var (Dy w))) = true from rfl) (.c (show Cz 3 (match 0 + 1 == 2 with | true => .vec (nuV l) 0 1 | false => keepX (aS 2 0 0) (.var [int 12, int 0, int 0])) = true from rfl) (.c (show Cz 3 (match 0 + 1 + 1 == 2 with | true => .vec (nuV l) 0 1 | false => keepX (aS 2 0 0) (.vec (nuV l) 0 1)) = true from ?_) .n))))))))))))))))))))))))))))) (by subst v0; first | rfl | (simp only [hw, aF, hc0, hc1, hc2, hc3, C3, Cw, CN, Cs, cond_true, cond_false]; first | done | rfl)) (by subst v0; first | rfl | (simp only [hw, Cw, cond_false]; first | done | rfl)) <;> subst v0 <;> (first | assumption | rfl | exact aU _ _ | exact aV _ _ | (rw [aF]; exact aU _ _) | (rw [aF]; exact aV _ _) | (simp [aO, Fa, CX, roomOk]; omega))
    ·let v0 := Cb (B6 Ch w.f)
     refine Ct (Cu (s' := { t := mkT 71 0 [(2, .ref (.ptr 0 0)), (6, .ref (.ptr 1 0)), (7, int many), (9, .ref (.vec 2 0)), (10, int (Cc B8 ((↑i : Int) + 1)))], h := [.var [ab (B6 Cp w.c), ab w.p, ab (B6 CD w.s), ab (B6 Ch w.f)], .var [int 12, int 0, int 0], .vec (nuV l ++ [[int f.sub]]) 0 1], m := [] }) (e := Cq) pok [.st (.mask [2, 6, 7, 9, 10]), .st (.ren 2 0), .st (.trimV 3)] [.g true, .g true, .g true, .g true, .ov 32 (bool (decide ((↑(Cb (nuV l)) : Int) < many))), .b true, .row [vi f.kind, vi f.sub, vi f.obj, vi f.value, vi f.frm, vi f.til, vi f.known, vi f.no], .g true, .g true, .g true, .ov 48 (bool (f.obj == 0)), .g true, .g true, .g true, .val (bool (decide (f.sub ≥ 0) && decide (f.sub ≤ 4095))), .ov 53 (bool (decide (f.sub ≥ 0) && decide (f.sub ≤ 4095))), .g true, .g true, .g true, .g true, .val (bool c), .g true, .ov 60 (bool !c), .b true] (by kernel_rfl) (.c (show (decide ((↑i : Int) < (↑v0 : Int)) == true) = true from (by subst v0; rw [hlt]; rfl)) (.c (show (decide ((↑i : Int) < (↑v0 : Int)) == true) = true from (by subst v0; rw [hlt]; rfl)) (.c (show (decide ((↑i : Int) < (↑v0 : Int)) == true) = true from (by subst v0; rw [hlt]; rfl)) (.c (show (decide ((↑i : Int) < (↑v0 : Int)) == true) = true from (by subst v0; rw [hlt]; rfl)) (.c (show ae (bool (decide ((↑i : Int) < (↑v0 : Int)))) (bool (decide ((↑(Cb (nuV l)) : Int) < many))) (bool false) (bool (decide ((↑(Cb (nuV l)) : Int) < many))) from (af hlt rfl)) (.c hm (.c hr (.c (show ((f.kind == 1) == true) = true from (by subst v0; rw [hc0]; rfl)) (.c (show ((f.kind == 1) == true) = true from (by subst v0; rw [hc0]; rfl)) (.c (show ((f.kind == 1) == true) = true from (by subst v0; rw [hc0]; rfl)) (.c (show ae (bool (f.kind == 1)) (bool (f.obj == 0)) (bool false) (bool (f.obj == 0)) from (af hc0 rfl)) (.c (show ((f.obj == 0) == true) = true from (by subst v0; rw [hc1]; rfl)) (.c (show ((f.obj == 0) == true) = true from (by subst v0; rw [hc1]; rfl)) (.c (show ((f.obj == 0) == true) = true from (by subst v0; rw [hc1]; rfl)) (.c (@dE (f.sub) 0 4095 (iR w l f)) (.c (show ae (bool (f.obj == 0)) (bool (decide (f.sub ≥ 0) && decide (f.sub ≤ 4095))) (bool false) (bool (decide (f.sub ≥ 0) && decide (f.sub ≤ 4095))) from (af hc1 rfl)) (.c (show ((decide (f.sub ≥ 0) && decide (f.sub ≤ 4095)) == true) = true from (by subst v0; rw [hc2]; rfl)) (.c (show ((decide (f.sub ≥ 0) && decide (f.sub ≤ 4095)) == true) = true from (by subst v0; rw [hc2]; rfl)) (.c (show ((decide (f.sub ≥ 0) && decide (f.sub ≤ 4095)) == true) = true from (by subst v0; rw [hc2]; rfl)) (.c (show ((decide (f.sub ≥ 0) && decide (f.sub ≤ 4095)) == true) = true from (by subst v0; rw [hc2]; rfl)) (.c (@hc) (.c (show ((decide (f.sub ≥ 0) && decide (f.sub ≤ 4095)) == true) = true from (by subst v0; rw [hc2]; rfl)) (.c (show ae (bool (decide (f.sub ≥ 0) && decide (f.sub ≤ 4095))) (bool !c) (bool false) (bool !c) from (af hc2 rfl)) (.c hc3 (.c (show (Cx [[int f.sub]] (aO 1) && roomOk (Cb (nuV l) + Cb [[int f.sub]]) 8) = true from ?_) (.c (show B6 (C6 (aS 2 1 0)) (nuV l ++ [[int f.sub]]) = nuV l ++ [[int f.sub]] from ?_) (.c (show [[int f.sub]] = [[int f.sub]] from rfl) (.c (show Cz 3 (match 0 == 2 with | true => .vec (nuV l ++ [[int f.sub]]) 0 1 | false => keepX (aS 2 1 0) (.var (Dy w))) = true from rfl) (.c (show Cz 3 (match 0 + 1 == 2 with | true => .vec (nuV l ++ [[int f.sub]]) 0 1 | false => keepX (aS 2 1 0) (.var [int 12, int 0, int 0])) = true from rfl) (.c (show Cz 3 (match 0 + 1 + 1 == 2 with | true => .vec (nuV l ++ [[int f.sub]]) 0 1 | false => keepX (aS 2 1 0) (.vec (nuV l ++ [[int f.sub]]) 1 1)) = true from ?_) .n))))))))))))))))))))))))))))))) (by subst v0; first | rfl | (simp only [hw, aF, hc0, hc1, hc2, hc3, C3, Cw, CN, Cs, cond_true, cond_false]; first | done | rfl)) (by subst v0; first | rfl | (simp only [hw, aF, C3, cond_true]; first | done | rfl)) <;> subst v0 <;> (first | assumption | rfl | exact aU _ _ | exact aV _ _ | (rw [aF]; exact aU _ _) | (rw [aF]; exact aV _ _) | (simp [aO, Fa, CX, roomOk]; omega))
theorem BX {w : WorldT} {many : Int} {l : List Int} {i : Nat} (hlt : decide ((i : Int) < ((w.f.map Ch).length : Int)) = true) (hm : decide (((nuV l).length : Int) < many) = false) : (CW B7 Γ0 [] false (sub Gx 0) (n8S w many l i) (.exit 0) (n8E w l)) := by
 let v0 := Cb (B6 Ch w.f)
 exact Ct (Cu (s' := { t := mkT 71 0 [(6, .ref (.ptr 1 0)), (9, .ref (.vec 2 0))], h := [.var [ab (B6 Cp w.c), ab w.p, ab (B6 CD w.s), ab (B6 Ch w.f)], .var [int 12, int 0, int 0], .vec (nuV l) 0 1], m := [] }) (e := CE 0) pok [.st (.mask [6, 9])] [.g true, .g true, .g true, .g true, .ov 32 (bool (decide ((↑(Cb (nuV l)) : Int) < many))), .b false] (by kernel_rfl) (.c (show (decide ((↑i : Int) < (↑v0 : Int)) == true) = true from (by subst v0; rw [hlt]; rfl)) (.c (show (decide ((↑i : Int) < (↑v0 : Int)) == true) = true from (by subst v0; rw [hlt]; rfl)) (.c (show (decide ((↑i : Int) < (↑v0 : Int)) == true) = true from (by subst v0; rw [hlt]; rfl)) (.c (show (decide ((↑i : Int) < (↑v0 : Int)) == true) = true from (by subst v0; rw [hlt]; rfl)) (.c (show ae (bool (decide ((↑i : Int) < (↑v0 : Int)))) (bool (decide ((↑(Cb (nuV l)) : Int) < many))) (bool false) (bool (decide ((↑(Cb (nuV l)) : Int) < many))) from (af hlt rfl)) (.c hm .n))))))) (by rfl) (by rfl)
theorem BZ {w : WorldT} {many : Int} {l : List Int} {i : Nat} (hlt : decide ((i : Int) < ((w.f.map Ch).length : Int)) = false) : (CW B7 Γ0 [] false (sub Gx 0) (n8S w many l i) (.exit 0) (n8E w l)) := by
 let v0 := Cb (B6 Ch w.f)
 exact Ct (Cu (s' := { t := mkT 71 0 [(6, .ref (.ptr 1 0)), (9, .ref (.vec 2 0))], h := [.var [ab (B6 Cp w.c), ab w.p, ab (B6 CD w.s), ab (B6 Ch w.f)], .var [int 12, int 0, int 0], .vec (nuV l) 0 1], m := [] }) (e := CE 0) pok [.st (.mask [6, 9])] [.g false, .g false, .g false, .g false, .ov 32 (bool false), .b false] (by kernel_rfl) (.c (show (decide ((↑i : Int) < (↑v0 : Int)) == true) = false from (by subst v0; rw [hlt]; rfl)) (.c (show (decide ((↑i : Int) < (↑v0 : Int)) == true) = false from (by subst v0; rw [hlt]; rfl)) (.c (show (decide ((↑i : Int) < (↑v0 : Int)) == true) = false from (by subst v0; rw [hlt]; rfl)) (.c (show (decide ((↑i : Int) < (↑v0 : Int)) == true) = false from (by subst v0; rw [hlt]; rfl)) (.c (show ae (bool (decide ((↑i : Int) < (↑v0 : Int)))) (Ei (Dp.v (Dd { toList := [] }))) (bool false) (bool false) from (ai hlt rfl)) (.c (show false = false from rfl) .n))))))) (by rfl) (by rfl)
theorem B0 {w : WorldT} {l : List Int} {f : FactT} (hl : am l) : Ev B7 Γ0 126 [.ref (.vec 2 0), int f.sub] (n8K w l f) (bool (l.contains f.sub)) (n8K w l f) := by
 refine Ev.frzArgs ?_ rfl ?_
 ·have : tA (n8K w l f) [D.ref (.vec 2 0), int f.sub] = [ab (bA l), int f.sub] := zU
  rw [this]; rfl
 ·have : tA (n8K w l f) [D.ref (.vec 2 0), int f.sub] = [ab (bA l), int f.sub] := zU
  rw [this]; exact wI hl []
theorem n8_cw {w : WorldT} {many : Int} (hf : w.f.length ≤ 69000) :
  CW B7 Γ0 [] false (.loop (sub Gx 0)) (n8S w many [] 0) (.exit 0) (n8E w (cY many w.f)) := by
 have hs : am w.f := by unfold am; omega
 have := CW.each (P := B7) (Γ := Γ0) (h0 := []) (rd := false) (c := sub Gx 0) w.f (n8F many) (fun i l => n8S w many l (i : Int)) (.exit 0) (fun l => n8E w l) (fun l => (.exit 0, n8E w l))
  (fun i l => l.length ≤ i) (by simp) (by simp) ?_ ?_ [] (by simp)
 ·rw [zT] at this
  unfold cY
  cases h : forL (nuF many) w.f [] <;> rw [h] at this <;> exact this
 ·intro i f l hfi hl
  have hi := (Ce.1 hfi).1
  refine ⟨fun l' h => ?_, ?_⟩
  ·have := qP (many := many) (f := f) (l := l) (l' := l') (by rw [← zT]; exact h)
   omega
  ·unfold n8F
   cases hm : decide ((l.length : Int) < many)
   ·exact BX (lt_len _ hi) (by rw [kF]; exact hm)
   ·exact BW (rowAt hfi rfl) (lt_len _ hi) (by rw [kF]; exact hm) (wrap_succ hi hs) (by omega) (B0 (by unfold am; omega)) (aU l) (aV l)
 ·intro l _
  exact BZ (bM _ w.f)
theorem atN {w : WorldT} (hf : w.f.length ≤ 69000) {known : Int} (h : List Blk) : Ev B7 Γ0 124 [ab (w.f.map Ch), .agg [int 12, int 0, int 0], int 0, int known] h (.tup [int (wg w.f known), bool (atR 12 0 0 0 known w.f).2]) h := by
 have := wb (kk := 12) (ks := 0) (ko := 0) (term := 0) (known := known) (l := w.f) (by unfold am; omega) h
 rw [we] at this
 exact this
noncomputable abbrev n8Z (w : WorldT) : List Blk := [.var w.l, .var [int 12, int 0, int 0], .gone, .vec [[int 12, int 0, int 0, int 0, int 1]] 0 5]
noncomputable abbrev fP (w : WorldT) : List Blk := [.var [ab (B6 Cp w.c), ab w.p, ab (B6 CD w.s), ab (B6 Ch w.f)], .var [int 12, int 0, int 0], .gone]
noncomputable abbrev lr (w : WorldT) : List Blk := [.var [ab (B6 Cp w.c), ab w.p, ab (B6 CD w.s), ab (B6 Ch w.f)], .var [int 12, int 0, int 0]]
theorem rz {w : WorldT} (hf : w.f.length ≤ 69000) {known many : Int} {b : Bool} (hat : ∀ h, Ev B7 Γ0 124 [ab (w.f.map Ch), .agg [int 12, int 0, int 0], int 0, int known] h (.tup [int many, bool b]) h) (hn : (cY many w.f).length ≤ 100000) : (Ev B7 Γ0 68 [.agg w.l, int known] [] (.tup [ab (bA (gX (cY many w.f))), .ref (.vec 3 0)]) (n8Z w)) := by
 have hl0 := (@n8_cw (w) (many) (hf))
 let v0 : List D := [int 12, int 0, int 0, int 0, int (Cc B8 (0 + 1))]
 exact Cj (Ev.of_sym (h' := [.var [ab (B6 Cp w.c), ab w.p, ab (B6 CD w.s), ab (B6 Ch w.f)], .var [int 12, int 0, int 0], .gone, .vec [v0] 0 5]) (d := DC [ab (bA (gX (cY many w.f))), .ref (.vec 3 0)]) pok [.val (DC [int many, bool b]), .sum [2, 6, 7, 9, 10] (CE 0) { t := mkT 71 0 [(6, .ref (.ptr 1 0)), (9, .ref (.vec 2 0))], h := [.var (Dy w), .var [int 12, int 0, int 0], .vec (nuV (cY many w.f)) 0 1], m := [] }, .st (.frz 2 (bA (cY many w.f))), .val (ab (bA (gX (cY many w.f)))), .val (Db v0)] (by kernel_rfl) (.c (@hat (lr w)) (.c hl0 (.c (show nuV (cY many w.f) = B6 (fun x => B6 Ei x) (bA (cY many w.f)) from (by subst v0; first | assumption | rfl | exact zH _)) (.c (@rf (cY many w.f) hn (fP w)) (.c (@kE 12 0 0 0 (fP w)) (.e (Db [int 12, int 0, int 0]) (.e (Db [int 12, int 0, int 0]) .n)))))))) (by rfl) (by rfl)
theorem B1 {many : Int} {fs : List FactT} (hf : fs.length ≤ 69000) : (cY many fs).length ≤ 100000 := by
 have := eK (many := many) fs []
 unfold cY
 simp only [EE] at this
 omega
theorem pJ {w : WorldT} (hf : w.f.length ≤ 69000) {known : Int} (h : List Blk) : Ev B7 Γ0 68 [.agg w.l, int known] h (.tup [ab (bA (aj w.f known)), .ref (.vec h.length 0)]) (h ++ [.vec (ao (rdR [rdN])) 0 5]) := by
 have h1 := rz (w := w) hf (known := known) (fun h => atN hf h) (B1 hf)
 rw [xa] at h1
 have h2 : Ev B7 Γ0 68 [.agg w.l, int known] [] (.tup [ab (bA (aj w.f known)), .ref (.vec 0 0)]) [.vec [[int 12, int 0, int 0, int 0, int 1]] 0 5] := Cj (h1.keepB [3] (by kernel_rfl) ⟨rfl, trivial⟩) (by kernel_rfl) (by kernel_rfl)
 exact h2.frameN (by kernel_rfl) rfl h
end Go.Vi
open Go Go.Proofs
namespace Go.Vi
set_option maxRecDepth 100000
set_option maxHeartbeats 4000000
theorem sT (f : Ref → D) (rs qs : List ReadT) : (ao (rdR rs) ++ (rdR qs).map fun x => x.map Ei).map (C6 f) = ao (rdR rs) ++ (rdR qs).map fun x => x.map Ei := by
 have : (rdR qs).map (fun x => x.map Ei) = ao (rdR qs) := rfl
 rw [this, eT]; exact au _ _
theorem sU (n : Nat) (rs qs : List ReadT) (e c : Nat) : Cz n (.vec (ao (rdR rs) ++ (rdR qs).map fun x => x.map Ei) e c) = true := by
 have : (rdR qs).map (fun x => x.map Ei) = ao (rdR qs) := rfl
 rw [this, eT]; exact aq
theorem xe {w : WorldT} (hw : w.ok) (hs : ∀ x ∈ w.c, x.small) {n term known : Int} (h : List Blk) : Ev B7 Γ0 76 [.agg w.l, int n, int term, int known] h (.tup [ag (ac w n term known).1.row, ab (rdR (rdT 1 n 0 term)), bool (ac w n term known).2]) h := by
 rw [← wu]; exact qL hw hs h
end Go.Vi
open Go Go.Proofs
namespace Go.Vi
set_option maxRecDepth 100000
set_option maxHeartbeats 4000000
abbrev o6H (w : WorldT) (st : Int) (as_ : List AttT) (rs : List ReadT) : List Blk := [.var w.l, .var [int 0, yu], .var [int st, ab (as_.map Ci)], .vec (ao (rdR rs)) 0 5]
abbrev o6S (w : WorldT) (st term known : Int) (ns : List (List Dp)) (i c : Int) (ps : List (List Dp)) (as_ : List AttT) (rs : List ReadT) (k : Int) : AS :=
 { t := mkT 126 0 [(1, int st), (2, int term), (3, int known), (4, .ref (.ptr 0 0)), (8, .ref (.ptr 1 0)), (11, .ref (.ptr 2 0)), (12, ab ns), (13, .ref (.vec 3 0)), (14, int i), (15, int c), (16, ab ps), (17, int k)], h := o6H w st as_ rs, m := [] }
abbrev o6O (w : WorldT) (st term known : Int) (ns : List (List Dp)) (as_ : List AttT) (rs : List ReadT) (i : Int) : AS :=
 { t := mkT 126 0 [(1, int st), (2, int term), (3, int known), (4, .ref (.ptr 0 0)), (8, .ref (.ptr 1 0)), (11, .ref (.ptr 2 0)), (12, ab ns), (13, .ref (.vec 3 0)), (14, int i)], h := o6H w st as_ rs, m := [] }
abbrev o6Z (w : WorldT) (st term known : Int) (ns : List (List Dp)) (i c : Int) (ps : List (List Dp)) (as_ : List AttT) (rs : List ReadT) : AS :=
 { t := mkT 126 0 [(1, int st), (2, int term), (3, int known), (4, .ref (.ptr 0 0)), (8, .ref (.ptr 1 0)), (11, .ref (.ptr 2 0)), (12, ab ns), (13, .ref (.vec 3 0)), (14, int i)], h := o6H w st as_ rs, m := [] }
def o6A (p : PtT) (c cr : Int) : AttT := ⟨c, p.term, Fp p.value 16, B8.wrap (Fq p.value 16), cr⟩
noncomputable abbrev mz (w : WorldT) (st : Int) (as_ : List AttT) (rs : List ReadT) (qs : List ReadT) (cc : CourseT) : List Blk := [.var [ab (B6 Cp w.c), ab w.p, ab (B6 CD w.s), ab (B6 Ch w.f)], .var [int 0, nq], .var [int st, ab (B6 Ci as_)], .vec (ao (rdR rs) ++ B6 (fun x => B6 Ei x) (rdR qs)) 1 5, .var [al cc.name, int cc.number, int cc.credits, int cc.rep, int (B9 cc.need).op, int (B9 cc.need).c, al (B9 cc.need).nm, int (B9 cc.need).n, int (B9 cc.need).d, ab (B9 cc.need).ks, int (B9 cc.bar).op, int (B9 cc.bar).c, al (B9 cc.bar).nm, int (B9 cc.bar).n, int (B9 cc.bar).d, ab (B9 cc.bar).ks]]
noncomputable abbrev mA (w : WorldT) (st : Int) (as_ : List AttT) (rs : List ReadT) : List Blk := [.var [ab (B6 Cp w.c), ab w.p, ab (B6 CD w.s), ab (B6 Ch w.f)], .var [int 0, nq], .var [int st, ab (B6 Ci as_)], .vec (ao (rdR rs)) 0 5, .var [al { data := #[] }, int 0, int 0, int 0, int 0, int 0, al { data := #[] }, int 0, int 0, nq, int 0, int 0, al { data := #[] }, int 0, int 0, nq]]
noncomputable abbrev bQ (w : WorldT) (st : Int) (as_ : List AttT) (rs : List ReadT) : List Blk := [.var [ab (B6 Cp w.c), ab w.p, ab (B6 CD w.s), ab (B6 Ch w.f)], .var [int 0, nq], .var [int st, ab (B6 Ci as_)], .vec (ao (rdR rs)) 0 5]
noncomputable abbrev o6_body_x3 (w : WorldT) (known : Int) (c : Int) (p : PtT) : List D := [Db [ab (B6 Cp w.c), ab w.p, ab (B6 CD w.s), ab (B6 Ch w.f)], int c, int p.term, int known]
theorem B2 {w : WorldT} {st term known i c : Int} {ns ps : List (List Dp)} {as_ : List AttT} {rs qs : List ReadT} {p : PtT} {k : Nat} {cc : CourseT} {b : Bool} (hr : aH (k : Int) ps p.row 2) (hlt : decide ((k : Int) < (ps.length : Int)) = true) (hwr : B8.wrap ((k : Int) + 1) = ((k + 1 : Nat) : Int)) (hq : rs.length + qs.length ≤ 900000000) (hb : as_.length ≤ 1000000)
 (hcall : ∀ h, Ev B7 Γ0 76 [.agg w.l, int c, int p.term, int known] h (.tup [ag cc.row, ab (rdR qs), bool b]) h) (hz : b = false → cc.credits = 0) : (CW B7 Γ0 [] false (sub EY 1) (o6S w st term known ns i c ps as_ rs k) .normal (o6S w st term known ns i c ps (bif attBad p then as_ else pP as_ (o6A p c cc.credits)) (bif attBad p then rs else rs ++ qs) ((k + 1 : Nat) : Int))) := by
 cases hc0 : decide (Fp p.value 16 > 12) || decide (Cc B8 (Fq p.value 16) ≥ 7)
 ·cases hc1 : b
  ·let v0 := B6 Ci (pP as_ { course := c, term := p.term, grade := Fp p.value 16, campus := Cc B8 (Fq p.value 16), credits := 0 })
   refine Ct (Cu (s' := { t := mkT 126 0 [(1, int st), (2, int term), (3, int known), (4, .ref (.ptr 0 0)), (8, .ref (.ptr 1 0)), (11, .ref (.ptr 2 0)), (12, ab ns), (13, .ref (.vec 3 0)), (14, int i), (15, int c), (16, ab ps), (17, int (Cc B8 ((↑k : Int) + 1)))], h := [.var [ab (B6 Cp w.c), ab w.p, ab (B6 CD w.s), ab (B6 Ch w.f)], .var [int 0, nq], .var [int st, ab v0], .vec (ao (rdR rs) ++ B6 (fun x => B6 Ei x) (rdR qs)) 0 5], m := [] }) (e := Cq) pok [.st (.mask [1, 2, 3, 4, 8, 11, 12, 13, 14, 15, 16, 17]), .st (.ren 3 0), .st (.trimV 4)] [.b true, .row [vi p.term, vi p.value], .row [vi p.term, vi p.value], .b false, .row [vi p.term, vi p.value], .val (DC [Db [al cc.name, int cc.number, int cc.credits, int cc.rep, int (B9 cc.need).op, int (B9 cc.need).c, al (B9 cc.need).nm, int (B9 cc.need).n, int (B9 cc.need).d, ab (B9 cc.need).ks, int (B9 cc.bar).op, int (B9 cc.bar).c, al (B9 cc.bar).nm, int (B9 cc.bar).n, int (B9 cc.bar).d, ab (B9 cc.bar).ks], ab (rdR qs), bool b]), .b false, .row [vi p.term, vi p.value], .val (ab v0)] (by kernel_rfl) (.c hlt (.c hr (.c (show (!decide (16 = 0)) = true from rfl) (.c hr (.c (show (!decide (16 = 0)) = true from rfl) (.c hc0 (.c hr (.c (@hcall (bQ w st as_ rs)) (.e (Db (Dy w)) (.e (Db (Dy w)) (.c (show (bQ w st as_ rs) = (bQ w st as_ rs) from rfl) (.c (@hcall (bQ w st as_ rs)) (.c (@hcall (mA w st as_ rs)) (.c (show (Cx (B6 (fun x => B6 Ei x) (rdR qs)) (aO 5) && roomOk (Cb (ao (rdR rs)) + Cb (B6 (fun x => B6 Ei x) (rdR qs))) 40) = true from ?_) (.c hc1 (.c hr (.c (@zR as_ hb ({ course := c, term := p.term, grade := Fp p.value 16, campus := Cc B8 (Fq p.value 16), credits := 0 }) (mz w st as_ rs qs cc)) (.e (.ref (.ptr 2 1)) (.e (ab (B6 Ci as_)) (.e (.ref (.ptr 2 1)) (.c (show B6 (C6 (aS 3 1 0)) (ao (rdR rs) ++ B6 (fun x => B6 Ei x) (rdR qs)) = ao (rdR rs) ++ B6 (fun x => B6 Ei x) (rdR qs) from ?_) (.c (show Cz 4 (match 0 == 3 with | true => .vec (ao (rdR rs) ++ B6 (fun x => B6 Ei x) (rdR qs)) 0 5 | false => keepX (aS 3 1 0) (.var (Dy w))) = true from rfl) (.c (show Cz 4 (match 0 + 1 == 3 with | true => .vec (ao (rdR rs) ++ B6 (fun x => B6 Ei x) (rdR qs)) 0 5 | false => keepX (aS 3 1 0) (.var [int 0, nq])) = true from rfl) (.c (show Cz 4 (match 0 + 1 + 1 == 3 with | true => .vec (ao (rdR rs) ++ B6 (fun x => B6 Ei x) (rdR qs)) 0 5 | false => keepX (aS 3 1 0) (.var [int st, ab v0])) = true from rfl) (.c (show Cz 4 (match 0 + 1 + 1 + 1 == 3 with | true => .vec (ao (rdR rs) ++ B6 (fun x => B6 Ei x) (rdR qs)) 0 5 | false => keepX (aS 3 1 0) (.vec (ao (rdR rs) ++ B6 (fun x => B6 Ei x) (rdR qs)) 1 5)) = true from ?_) .n)))))))))))))))))))))))))) (by subst v0; first | rfl | (have hh : attBad p = true := hc0; simp only [hwr, hh, cond_true]; first | done | rfl) | (have hh : attBad p = false := hc0; simp only [hwr, hh, cond_false, o6S, o6H, ← eT]; first | done | rfl) | (have hh : attBad p = false := hc0; simp only [hwr, hh, cond_false, hz hc1, o6S, o6H, ← eT]; first | done | rfl)) (by subst v0; first | rfl | (have hh : attBad p = true := hc0; simp only [hwr, hh, cond_true]; first | done | rfl) | (have hh : attBad p = false := hc0; simp only [hwr, hh, cond_false, o6S, o6H, ← eT]; first | done | rfl) | (have hh : attBad p = false := hc0; simp only [hwr, hh, cond_false, hz hc1, o6S, o6H, ← eT]; first | done | rfl)) <;> subst v0 <;> (first | assumption | rfl | omega | exact sT _ _ _ | exact sU _ _ _ _ _ | exact au _ _ | exact aq | (simp only [tT, roomOk, CN, Cd, decide_eq_true_eq, DR]; omega))
  ·let v0 := B6 Ci (pP as_ { course := c, term := p.term, grade := Fp p.value 16, campus := Cc B8 (Fq p.value 16), credits := cc.credits })
   refine Ct (Cu (s' := { t := mkT 126 0 [(1, int st), (2, int term), (3, int known), (4, .ref (.ptr 0 0)), (8, .ref (.ptr 1 0)), (11, .ref (.ptr 2 0)), (12, ab ns), (13, .ref (.vec 3 0)), (14, int i), (15, int c), (16, ab ps), (17, int (Cc B8 ((↑k : Int) + 1)))], h := [.var [ab (B6 Cp w.c), ab w.p, ab (B6 CD w.s), ab (B6 Ch w.f)], .var [int 0, nq], .var [int st, ab v0], .vec (ao (rdR rs) ++ B6 (fun x => B6 Ei x) (rdR qs)) 0 5], m := [] }) (e := Cq) pok [.st (.mask [1, 2, 3, 4, 8, 11, 12, 13, 14, 15, 16, 17]), .st (.ren 3 0), .st (.trimV 4)] [.b true, .row [vi p.term, vi p.value], .row [vi p.term, vi p.value], .b false, .row [vi p.term, vi p.value], .val (DC [Db [al cc.name, int cc.number, int cc.credits, int cc.rep, int (B9 cc.need).op, int (B9 cc.need).c, al (B9 cc.need).nm, int (B9 cc.need).n, int (B9 cc.need).d, ab (B9 cc.need).ks, int (B9 cc.bar).op, int (B9 cc.bar).c, al (B9 cc.bar).nm, int (B9 cc.bar).n, int (B9 cc.bar).d, ab (B9 cc.bar).ks], ab (rdR qs), bool b]), .b true, .row [vi p.term, vi p.value], .val (ab v0)] (by kernel_rfl) (.c hlt (.c hr (.c (show (!decide (16 = 0)) = true from rfl) (.c hr (.c (show (!decide (16 = 0)) = true from rfl) (.c hc0 (.c hr (.c (@hcall (bQ w st as_ rs)) (.e (Db (Dy w)) (.e (Db (Dy w)) (.c (show (bQ w st as_ rs) = (bQ w st as_ rs) from rfl) (.c (@hcall (bQ w st as_ rs)) (.c (@hcall (mA w st as_ rs)) (.c (show (Cx (B6 (fun x => B6 Ei x) (rdR qs)) (aO 5) && roomOk (Cb (ao (rdR rs)) + Cb (B6 (fun x => B6 Ei x) (rdR qs))) 40) = true from ?_) (.c hc1 (.c hr (.c (@zR as_ hb ({ course := c, term := p.term, grade := Fp p.value 16, campus := Cc B8 (Fq p.value 16), credits := cc.credits }) (mz w st as_ rs qs cc)) (.e (.ref (.ptr 2 1)) (.e (ab (B6 Ci as_)) (.e (.ref (.ptr 2 1)) (.c (show B6 (C6 (aS 3 1 0)) (ao (rdR rs) ++ B6 (fun x => B6 Ei x) (rdR qs)) = ao (rdR rs) ++ B6 (fun x => B6 Ei x) (rdR qs) from ?_) (.c (show Cz 4 (match 0 == 3 with | true => .vec (ao (rdR rs) ++ B6 (fun x => B6 Ei x) (rdR qs)) 0 5 | false => keepX (aS 3 1 0) (.var (Dy w))) = true from rfl) (.c (show Cz 4 (match 0 + 1 == 3 with | true => .vec (ao (rdR rs) ++ B6 (fun x => B6 Ei x) (rdR qs)) 0 5 | false => keepX (aS 3 1 0) (.var [int 0, nq])) = true from rfl) (.c (show Cz 4 (match 0 + 1 + 1 == 3 with | true => .vec (ao (rdR rs) ++ B6 (fun x => B6 Ei x) (rdR qs)) 0 5 | false => keepX (aS 3 1 0) (.var [int st, ab v0])) = true from rfl) (.c (show Cz 4 (match 0 + 1 + 1 + 1 == 3 with | true => .vec (ao (rdR rs) ++ B6 (fun x => B6 Ei x) (rdR qs)) 0 5 | false => keepX (aS 3 1 0) (.vec (ao (rdR rs) ++ B6 (fun x => B6 Ei x) (rdR qs)) 1 5)) = true from ?_) .n)))))))))))))))))))))))))) (by subst v0; first | rfl | (have hh : attBad p = true := hc0; simp only [hwr, hh, cond_true]; first | done | rfl) | (have hh : attBad p = false := hc0; simp only [hwr, hh, cond_false, o6S, o6H, ← eT]; first | done | rfl) | (have hh : attBad p = false := hc0; simp only [hwr, hh, cond_false, hz hc1, o6S, o6H, ← eT]; first | done | rfl)) (by subst v0; first | rfl | (have hh : attBad p = true := hc0; simp only [hwr, hh, cond_true]; first | done | rfl) | (have hh : attBad p = false := hc0; simp only [hwr, hh, cond_false, o6S, o6H, ← eT]; first | done | rfl) | (have hh : attBad p = false := hc0; simp only [hwr, hh, cond_false, hz hc1, o6S, o6H, ← eT]; first | done | rfl)) <;> subst v0 <;> (first | assumption | rfl | omega | exact sT _ _ _ | exact sU _ _ _ _ _ | exact au _ _ | exact aq | (simp only [tT, roomOk, CN, Cd, decide_eq_true_eq, DR]; omega))
 ·refine Ct (Cu (s' := { t := mkT 126 0 [(1, int st), (2, int term), (3, int known), (4, .ref (.ptr 0 0)), (8, .ref (.ptr 1 0)), (11, .ref (.ptr 2 0)), (12, ab ns), (13, .ref (.vec 3 0)), (14, int i), (15, int c), (16, ab ps), (17, int (Cc B8 ((↑k : Int) + 1)))], h := (bQ w st as_ rs), m := [] }) (e := Cq) pok [.st (.mask [1, 2, 3, 4, 8, 11, 12, 13, 14, 15, 16, 17]), .st (.ren 3 0), .st (.trimV 4)] [.b true, .row [vi p.term, vi p.value], .row [vi p.term, vi p.value], .b true] (by kernel_rfl) (.c hlt (.c hr (.c (show (!decide (16 = 0)) = true from rfl) (.c hr (.c (show (!decide (16 = 0)) = true from rfl) (.c hc0 (.c (show B6 (C6 (aS 3 0 0)) (ao (rdR rs)) = ao (rdR rs) from (by first | assumption | rfl | omega | exact sT _ _ _ | exact sU _ _ _ _ _ | exact au _ _ | exact aq | (simp only [tT, roomOk, CN, Cd, decide_eq_true_eq, DR]; omega))) (.c (show Cz 4 (match 0 == 3 with | true => .vec (ao (rdR rs)) 0 5 | false => keepX (aS 3 0 0) (.var (Dy w))) = true from rfl) (.c (show Cz 4 (match 0 + 1 == 3 with | true => .vec (ao (rdR rs)) 0 5 | false => keepX (aS 3 0 0) (.var [int 0, nq])) = true from rfl) (.c (show Cz 4 (match 0 + 1 + 1 == 3 with | true => .vec (ao (rdR rs)) 0 5 | false => keepX (aS 3 0 0) (.var [int st, ab (B6 Ci as_)])) = true from rfl) (.c (show Cz 4 (match 0 + 1 + 1 + 1 == 3 with | true => .vec (ao (rdR rs)) 0 5 | false => keepX (aS 3 0 0) (.vec (ao (rdR rs)) 0 5)) = true from (by first | assumption | rfl | omega | exact sT _ _ _ | exact sU _ _ _ _ _ | exact au _ _ | exact aq | (simp only [tT, roomOk, CN, Cd, decide_eq_true_eq, DR]; omega))) .n)))))))))))) ?_ ?_ <;> (first | rfl | (have hh : attBad p = true := hc0; simp only [hwr, hh, cond_true]; first | done | rfl) | (have hh : attBad p = false := hc0; simp only [hwr, hh, cond_false, o6S, o6H, ← eT]; first | done | rfl) | (have hh : attBad p = false := hc0; simp only [hwr, hh, cond_false, hz hc1, o6S, o6H, ← eT]; first | done | rfl))
theorem B3 {w : WorldT} {st term known i c : Int} {ns ps : List (List Dp)} {as_ : List AttT} {rs : List ReadT} {k : Nat} (hlt : decide ((k : Int) < (ps.length : Int)) = false) : (CW B7 Γ0 [] false (sub EY 1) (o6S w st term known ns i c ps as_ rs k) (.exit 2) (o6Z w st term known ns i c ps as_ rs)) := by
 exact Ct (Cu (s' := { t := mkT 126 0 [(1, int st), (2, int term), (3, int known), (4, .ref (.ptr 0 0)), (8, .ref (.ptr 1 0)), (11, .ref (.ptr 2 0)), (12, ab ns), (13, .ref (.vec 3 0)), (14, int i)], h := [.var [ab (B6 Cp w.c), ab w.p, ab (B6 CD w.s), ab (B6 Ch w.f)], .var [int 0, nq], .var [int st, ab (B6 Ci as_)], .vec (ao (rdR rs)) 0 5], m := [] }) (e := CE 2) pok [.st (.mask [1, 2, 3, 4, 8, 11, 12, 13, 14])] [.b false] (by kernel_rfl) (.c hlt .n)) (by rfl) (by rfl)
def rA (w : WorldT) (known c : Int) (s : List AttT × List ReadT) (p : PtT) : List AttT × List ReadT := (bif attBad p then s.1 else pP s.1 (ww w known c p), bif attBad p then s.2 else s.2 ++ rdT 1 c 0 p.term)
theorem insA_len (out : List AttT) (a : AttT) : (pP out a).length = out.length + 1 := by
 have := zQ out a
 simp [pP]; omega
theorem sV {w : WorldT} {known c : Int} {s : List AttT × List ReadT} (p : PtT) : (rA w known c s p).1.length ≤ s.1.length + 1 ∧ (rA w known c s p).2.length ≤ s.2.length + 1 := by
 unfold rA
 have := rdT_len 1 c 0 p.term
 cases attBad p <;> simp [insA_len] <;> omega
theorem pK {w : WorldT} {n term known : Int} (h : (ac w n term known).2 = false) : (ac w n term known).1.credits = 0 := by
 unfold ac at h ⊢
 cases ht : outB term <;> rw [ht] at h <;> simp only at h ⊢
 ·unfold f9 at h ⊢
  split at h
  ·rfl
  ·simp at h
 ·rfl
theorem rB (l : List ReadT) (a b c d e : Int) : ao (rdR l) ++ [[int a, int b, int c, int d, int e]] = ao (rdR (l ++ [ReadT.mk a b c d e])) := by simp [ReadT.row]
theorem o6i_c0 {w : WorldT} (hw : w.ok) (hs : ∀ x ∈ w.c, x.small) {st term known i c : Int} {ns : List (List Dp)} {ps : List PtT} (hp : ps.length ≤ 2000) {as_ : List AttT} {rs : List ReadT} (hb : rs.length ≤ 800000000) (ha : as_.length ≤ 900000) :
  CW B7 Γ0 [] false (.loop (sub EY 1)) (o6S w st term known ns i c (ps.map Dn) as_ rs 0) (.exit 2) (o6Z w st term known ns i c (ps.map Dn) (ps.foldl (rA w known c) (as_, rs)).1 (ps.foldl (rA w known c) (as_, rs)).2) := by
 have hl : am ps := by unfold am; omega
 have := CW.each (P := B7) (Γ := Γ0) (h0 := []) (rd := false) (c := sub EY 1) (σ := List AttT × List ReadT) (ρ := Empty) ps (fun p s => .inl (rA w known c s p))
  (fun k s => o6S w st term known ns i c (ps.map Dn) s.1 s.2 (k : Int)) (.exit 2) (fun s => o6Z w st term known ns i c (ps.map Dn) s.1 s.2) (fun r => r.elim)
  (fun k s => s.1.length ≤ as_.length + k ∧ s.2.length ≤ rs.length + k) (by simp) (fun r => r.elim) ?_ ?_ (as_, rs) (by simp)
 ·rw [bw] at this
  exact this
 ·intro k p s hpk hs'
  have hk := (Ce.1 hpk).1
  refine ⟨fun s' h => by cases h; have := sV (w := w) (known := known) (c := c) (s := s) p; omega, ?_⟩
  have := rdT_len 1 c 0 p.term
  exact B2 (w := w) (cc := (ac w c p.term known).1) (b := (ac w c p.term known).2) (qs := rdT 1 c 0 p.term) (rowAt hpk rfl) (lt_len _ hk) (wrap_succ hk hl) (by omega) (by omega) (fun h => xe hw hs (n := c) h) pK
 ·intro s _
  exact B3 (bM _ ps)
def nO (w : WorldT) (known st term : Int) (s : List AttT × List ReadT) (n : Int) : List AttT × List ReadT := (bg 5 st n 0 term known w.f).foldl (rA w known n) (s.1, s.2 ++ [⟨5, st, n, 0, term⟩])
theorem o6i_cw {w : WorldT} (hw : w.ok) (hs : ∀ x ∈ w.c, x.small) {st term known i c : Int} {ns : List (List Dp)} {ps : List PtT} (hp : ps.length ≤ 2000) {as_ : List AttT} {rs : List ReadT} (hb : rs.length ≤ 700000000) (ha : as_.length ≤ 900000) :
  CW B7 Γ0 [] false (.loop (sub EY 1)) { t := mkT 126 0 [(1, int st), (2, int term), (3, int known), (4, .ref (.ptr 0 0)), (8, .ref (.ptr 1 0)), (11, .ref (.ptr 2 0)), (12, ab ns), (13, .ref (.vec 3 0)), (14, int i), (15, int c), (16, ab (ps.map Dn)), (17, int 0)], h := [.var w.l, .var [int 0, yu], .var [int st, ab (as_.map Ci)], .vec (ao (rdR rs) ++ [[int 5, int st, int c, int 0, int term]]) 0 5], m := [] } (.exit 2) (o6Z w st term known ns i c (ps.map Dn) (ps.foldl (rA w known c) (as_, rs ++ [⟨5, st, c, 0, term⟩])).1 (ps.foldl (rA w known c) (as_, rs ++ [⟨5, st, c, 0, term⟩])).2) := by
 rw [rB]
 exact o6i_c0 hw hs hp (by simp; omega) ha
noncomputable abbrev gb (w : WorldT) (st : Int) (as_ : List AttT) (rs : List ReadT) : List Blk := [.var [ab (B6 Cp w.c), ab w.p, ab (B6 CD w.s), ab (B6 Ch w.f)], .var [int 0, nq], .var [int st, ab (B6 Ci as_)], .vec (ao (rdR rs)) 0 5]
theorem yX {w : WorldT} (hw : w.ok) (hs : ∀ x ∈ w.c, x.small) {st term known n : Int} {ns : List (List Dp)} {as_ : List AttT} {rs : List ReadT} {i : Nat} (hr : aH (i : Int) ns [vi n] 1) (hlt : decide ((i : Int) < (ns.length : Int)) = true) (hwr : B8.wrap ((i : Int) + 1) = ((i + 1 : Nat) : Int)) (hb : rs.length ≤ 700000000) (ha : as_.length ≤ 900000) (hp : (bg 5 st n 0 term known w.f).length ≤ 2000) : (CW B7 Γ0 [] false (sub EY 0) (o6O w st term known ns as_ rs i) .normal (o6O w st term known ns (nO w known st term (as_, rs) n).1 (nO w known st term (as_, rs) n).2 ((i + 1 : Nat) : Int))) := by
 have hl0 := (@o6i_cw (w) (hw) (hs) (st) (term) (known) ((↑i : Int)) (n) (ns) (bg 5 st n 0 term known w.f) (hp) (as_) (rs) (hb) (ha))
 let v0 := List.foldl (rA w known n) (as_, rs ++ [{ kind := 5, sub := st, obj := n, frm := 0, til := term }]) (bg 5 st n 0 term known w.f)
 let v1 : List D := [int 5, int st, int n, int 0, int term]
 refine Ct (Cu (s' := { t := mkT 126 0 [(1, int st), (2, int term), (3, int known), (4, .ref (.ptr 0 0)), (8, .ref (.ptr 1 0)), (11, .ref (.ptr 2 0)), (12, ab ns), (13, .ref (.vec 3 0)), (14, int (Cc B8 ((↑i : Int) + 1)))], h := [.var [ab (B6 Cp w.c), ab w.p, ab (B6 CD w.s), ab (B6 Ch w.f)], .var [int 0, nq], .var [int st, ab (B6 Ci v0.fst)], .vec (ao (rdR v0.snd)) 0 5], m := [] }) (e := Cq) pok [.st (.mask [1, 2, 3, 4, 8, 11, 12, 13, 14])] [.b true, .row [vi n], .val (Db [int 5, int st, int n]), .val (ab (B6 Dn (bg 5 st n 0 term known w.f))), .val (Db [int 5, int st, int n]), .nx 1, .st (.mask [1, 2, 3, 4, 8, 11, 12, 13, 14, 15, 16, 17]), .st (.ren 3 0), .st (.trimV 4), .sum [1, 2, 3, 4, 8, 11, 12, 13, 14, 15, 16, 17] (CE 2) { t := mkT 126 0 [(1, int st), (2, int term), (3, int known), (4, .ref (.ptr 0 0)), (8, .ref (.ptr 1 0)), (11, .ref (.ptr 2 0)), (12, ab ns), (13, .ref (.vec 3 0)), (14, int (↑i : Int))], h := [.var (Dy w), .var [int 0, nq], .var [int st, ab (B6 Ci v0.fst)], .vec (ao (rdR v0.snd)) 0 5], m := [] }] (by kernel_rfl) (.c hlt (.c hr (.c (@fC st n (gb w st as_ rs)) (.c (@ua 5 st n 0 term known (w.f) ?_ (gb w st as_ rs)) (.c (@fC st n (gb w st as_ rs)) (.c (show (Cx [v1] (aO 5) && roomOk (Cb (ao (rdR rs)) + Cb [v1]) 40) = true from ?_) (.c (show B6 (C6 (aS 3 1 0)) (ao (rdR rs) ++ [v1]) = ao (rdR rs) ++ [v1] from ?_) (.c (show [v1] = [v1] from rfl) (.c (show Cz 4 (match 0 == 3 with | true => .vec (ao (rdR rs) ++ [v1]) 0 5 | false => keepX (aS 3 1 0) (.var (Dy w))) = true from rfl) (.c (show Cz 4 (match 0 + 1 == 3 with | true => .vec (ao (rdR rs) ++ [v1]) 0 5 | false => keepX (aS 3 1 0) (.var [int 0, nq])) = true from rfl) (.c (show Cz 4 (match 0 + 1 + 1 == 3 with | true => .vec (ao (rdR rs) ++ [v1]) 0 5 | false => keepX (aS 3 1 0) (.var [int st, ab (B6 Ci as_)])) = true from rfl) (.c (show Cz 4 (match 0 + 1 + 1 + 1 == 3 with | true => .vec (ao (rdR rs) ++ [v1]) 0 5 | false => keepX (aS 3 1 0) (.vec (ao (rdR rs) ++ [v1]) 1 5)) = true from ?_) (.c hl0 .n)))))))))))))) (by subst v0 v1; first | rfl | (simp only [hwr]; rfl)) (by subst v0 v1; first | rfl | (simp only [hwr]; rfl)) <;> subst v0 v1 <;> (first | assumption | rfl | exact hw.sf | (rw [rB]; exact au _ _) | (rw [rB]; exact aq) | (simp; omega) | (simp [aO, Fa, CX, roomOk]; omega))
theorem yY {w : WorldT} {st term known : Int} {ns : List (List Dp)} {as_ : List AttT} {rs : List ReadT} {i : Nat} (hlt : decide ((i : Int) < (ns.length : Int)) = false) : (CW B7 Γ0 [] false (sub EY 0) (o6O w st term known ns as_ rs i) (.exit 0) { t := mkT 126 0 [(8, .ref (.ptr 1 0)), (11, .ref (.ptr 2 0)), (13, .ref (.vec 3 0))], h := o6H w st as_ rs, m := [] }) := by
 exact Ct (Cu (s' := { t := mkT 126 0 [(8, .ref (.ptr 1 0)), (11, .ref (.ptr 2 0)), (13, .ref (.vec 3 0))], h := [.var [ab (B6 Cp w.c), ab w.p, ab (B6 CD w.s), ab (B6 Ch w.f)], .var [int 0, nq], .var [int st, ab (B6 Ci as_)], .vec (ao (rdR rs)) 0 5], m := [] }) (e := CE 0) pok [.st (.mask [8, 11, 13])] [.b false] (by kernel_rfl) (.c hlt .n)) (by rfl) (by rfl)
end Go.Vi
open Go Go.Proofs
namespace Go.Vi
set_option maxRecDepth 100000
set_option maxHeartbeats 4000000
theorem mB {w : WorldT} {known n : Int} : ∀ (ps : List PtT) (s : List AttT × List ReadT), (ps.foldl (rA w known n) s).1.length ≤ s.1.length + ps.length ∧ (ps.foldl (rA w known n) s).2.length ≤ s.2.length + ps.length
 | [], s => by simp
 | p :: ps, s => by
  have h1 := sV (w := w) (known := known) (c := n) (s := s) p
  have h2 := mB (w := w) (known := known) (n := n) ps (rA w known n s p)
  simp only [DG, Di]
  omega
theorem xf {w : WorldT} {known st term : Int} (s : List AttT × List ReadT) (n : Int) : (nO w known st term s n).1.length ≤ s.1.length + 1024 ∧ (nO w known st term s n).2.length ≤ s.2.length + 1025 := by
 unfold nO
 have h1 := mB (w := w) (known := known) (n := n) (bg 5 st n 0 term known w.f) (s.1, s.2 ++ [⟨5, st, n, 0, term⟩])
 have h2 := aX (kk := 5) (ks := st) (ko := n) (frm := 0) (to := term) (known := known) (l := w.f)
 simp only [List.length_append, Di, EE] at h1
 omega
abbrev o6R (w : WorldT) (known st term : Int) : List AttT × List ReadT := (aj w.f known).foldl (nO w known st term) ([], [rdN])
theorem o6_cw {w : WorldT} (hw : w.ok) (hs : ∀ x ∈ w.c, x.small) {st term known : Int} (hn : (aj w.f known).length ≤ 500) :
  CW B7 Γ0 [] false (.loop (sub EY 0)) (o6O w st term known (bA (aj w.f known)) [] [rdN] 0) (.exit 0) { t := mkT 126 0 [(8, .ref (.ptr 1 0)), (11, .ref (.ptr 2 0)), (13, .ref (.vec 3 0))], h := o6H w st (o6R w known st term).1 (o6R w known st term).2, m := [] } := by
 have hl : am (aj w.f known) := by unfold am; omega
 have := CW.each (P := B7) (Γ := Γ0) (h0 := []) (rd := false) (c := sub EY 0) (σ := List AttT × List ReadT) (ρ := Empty) (aj w.f known) (fun n s => .inl (nO w known st term s n))
  (fun i s => o6O w st term known (bA (aj w.f known)) s.1 s.2 (i : Int)) (.exit 0) (fun s => { t := mkT 126 0 [(8, .ref (.ptr 1 0)), (11, .ref (.ptr 2 0)), (13, .ref (.vec 3 0))], h := o6H w st s.1 s.2, m := [] }) (fun r => r.elim)
  (fun i s => s.1.length ≤ i * 1024 ∧ s.2.length ≤ 1 + i * 1025) (by simp) (fun r => r.elim) ?_ ?_ ([], [rdN]) (by simp)
 ·rw [bw] at this
  exact this
 ·intro i n s hni hs'
  have hi := (Ce.1 hni).1
  refine ⟨fun s' h => by cases h; have := xf (w := w) (known := known) (st := st) (term := term) s n; omega, ?_⟩
  exact yX hw hs (rowAt (row := fun n => [vi n]) hni rfl) (lt_len (fun n => [vi n]) hi) (wrap_succ hi hl) (by omega) (by omega) (Nat.le_trans aX (by omega))
 ·intro s _
  exact yY (bM (fun n => [vi n]) _)
theorem pL (w : WorldT) (known n : Int) : ∀ (ps : List PtT) (s : List AttT × List ReadT), ps.foldl (rA w known n) s = ((ps.filterMap (zM w known n)).foldl pP s.1, s.2 ++ ps.flatMap (rdO n))
 | [], s => by simp
 | p :: ps, s => by
  rw [DG, pL w known n ps, List.filterMap_cons, List.flatMap_cons]
  unfold rA zM rdO
  cases attBad p <;> simp
theorem o6R_eq {w : WorldT} {known st term : Int} : o6R w known st term = (wC w known st term, eM w known st term) := by
 have key : ∀ (ns : List Int) (s : List AttT × List ReadT), ns.foldl (nO w known st term) s = ((ns.flatMap (fh w known st term)).foldl pP s.1, s.2 ++ ns.flatMap (dY w known st term)) := by
  intro ns
  induction ns with
  | nil => intro s; simp
  | cons n ns ih =>
   intro s
   rw [DG, ih]
   unfold nO
   rw [pL]
   simp [dY, fh, List.foldl_append]
 unfold o6R
 rw [key]
 have := yV (w := w) (known := known) (st := st) (term := term)
 unfold dR at this
 rw [this]
 simp [eM]
noncomputable abbrev kM (w : WorldT) : List Blk := [.var [ab (B6 Cp w.c), ab w.p, ab (B6 CD w.s), ab (B6 Ch w.f)], .var [int 0, nq]]
theorem yZ {w : WorldT} {st term known : Int} (hb : (!(decide (st ≥ 0) && decide (st ≤ 19999)) || !(decide (term ≥ 0) && decide (term ≤ 1024))) = true) (h : List Blk) : (Ev B7 Γ0 26 [.agg w.l, int st, int term, int known] h (.tup [.agg [int 0, ab []], ab [], int 150]) h) := by
 exact Cj (Ev.nilW (Cn (d := DC [Db [int 0, nq], nq, int 150]) pok [.val (bool (decide (st ≥ 0) && decide (st ≤ 19999))), .val (bool (decide (term ≥ 0) && decide (term ≤ 1024))), .b true] (by kernel_rfl) (.c (@bb st 0 19999 (kM w)) (.c (gd (!!(decide (st ≥ 0) && decide (st ≤ 19999))) (@bb term 0 1024 (kM w))) (.c hb .n))) rfl rfl h)) (by rfl) (by rfl)
noncomputable abbrev mC (w : WorldT) (st : Int) : List Blk := [.var [ab (B6 Cp w.c), ab w.p, ab (B6 CD w.s), ab (B6 Ch w.f)], .var [int 0, nq], .var [int st, nq], .vec [[int rdN.kind, int rdN.sub, int rdN.obj, int rdN.frm, int rdN.til]] 0 5]
noncomputable abbrev mD (w : WorldT) : List Blk := [.var [ab (B6 Cp w.c), ab w.p, ab (B6 CD w.s), ab (B6 Ch w.f)], .var [int 0, nq]]
theorem B4 {w : WorldT} (hw : w.ok) (hs : ∀ x ∈ w.c, x.small) {st term known : Int} (hn : (aj w.f known).length ≤ 500) (hb : (!(decide (st ≥ 0) && decide (st ≤ 19999)) || !(decide (term ≥ 0) && decide (term ≤ 1024))) = false) (h : List Blk) : (Ev B7 Γ0 26 [.agg w.l, int st, int term, int known] h (.tup [.agg [int st, ab ((o6R w known st term).1.map Ci)], ab (rdR (o6R w known st term).2), int 0]) h) := by
 have hl0 := (@o6_cw (w) (hw) (hs) (st) (term) (known) (hn))
 let v0 : List D := [int rdN.kind, int rdN.sub, int rdN.obj, int rdN.frm, int rdN.til]
 let v1 : List D := [ab (bA (aj w.f known)), .ref (.vec 3 0)]
 let v2 : List D := [int st, ab (B6 Ci (o6R w known st term).fst)]
 refine Cj (Ev.nilW (Cn (d := DC [Db v2, ab (rdR (o6R w known st term).snd), int 0]) pok [.val (bool (decide (st ≥ 0) && decide (st ≤ 19999))), .val (bool (decide (term ≥ 0) && decide (term ≤ 1024))), .b false, .call (DC v1) (mC w st), .nx 1, .st (.mask [1, 2, 3, 4, 8, 11, 12, 13, 14]), .st (.nilC 2 1 5), .st (.frz 4 []), .st (.trimV 4), .sum [1, 2, 3, 4, 8, 11, 12, 13, 14] (CE 0) { t := mkT 126 0 [(8, .ref (.ptr 1 0)), (11, .ref (.ptr 2 0)), (13, .ref (.vec 3 0))], h := [.var (Dy w), .var [int 0, nq], .var v2, .vec (ao (rdR (o6R w known st term).snd)) 0 5], m := [] }, .st (.frz 3 (rdR (o6R w known st term).snd))] (by kernel_rfl) (.c (@bb st 0 19999 (mD w)) (.c (gd (!!(decide (st ≥ 0) && decide (st ≤ 19999))) (@bb term 0 1024 (mD w))) (.c hb (.c (@pJ w ?_ known ([.var (Dy w), .var [int 0, nq], .var [int st, nq]])) (.c (show ([] : List (List D)) = [] from rfl) (.c (show [v0] = [v0] from rfl) (.c (show Cz 4 (match 0 == 4 with | true => .gone | false => keepX (qi 4 0 []) (.var (Dy w))) = true from rfl) (.c (show Cz 4 (match 0 + 1 == 4 with | true => .gone | false => keepX (qi 4 0 []) (.var [int 0, nq])) = true from rfl) (.c (show Cz 4 (match 0 + 1 + 1 == 4 with | true => .gone | false => keepX (qi 4 0 []) (.var (List.set [int st, nq] 1 (.ref (.vec (Cb (oB [1, 2, 3, 4, 8, 11, 12, 13, 14] { t := mkT 126 0 [(0, Db (Dy w)), (1, int st), (2, int term), (3, int known), (4, .ref (.ptr 0 0)), (8, .ref (.ptr 1 0)), (9, nq), (10, int 0), (11, .ref (.ptr 2 0)), (12, ab (bA (aj w.f known))), (13, .ref (.vec 3 0)), (14, int 0), (24, int st), (25, bool (decide (st ≥ 0) && decide (st ≤ 19999))), (26, bool !(decide (st ≥ 0) && decide (st ≤ 19999))), (27, bool !(decide (st ≥ 0) && decide (st ≤ 19999))), (28, D.grd (!!(decide (st ≥ 0) && decide (st ≤ 19999))) (int term)), (29, D.grd (!!(decide (st ≥ 0) && decide (st ≤ 19999))) (bool (decide (term ≥ 0) && decide (term ≤ 1024)))), (30, D.grd (!!(decide (st ≥ 0) && decide (st ≤ 19999))) (bool !(decide (term ≥ 0) && decide (term ≤ 1024)))), (31, bool (!(decide (st ≥ 0) && decide (st ≤ 19999)) || !(decide (term ≥ 0) && decide (term ≤ 1024)))), (33, int st), (34, Db [int st, nq]), (35, DC v1), (36, Db (Dy w)), (37, int known), (38, DC v1), (39, ab (bA (aj w.f known))), (40, .ref (.vec 3 0))], h := (mC w st) }).h) 0))))) = true from rfl) (.c (show Cz 4 (match 0 + 1 + 1 + 1 == 4 with | true => .gone | false => keepX (qi 4 0 []) (.vec [v0] 0 5)) = true from rfl) (.c hl0 (.c (show ao (rdR (o6R w known st term).snd) = B6 (fun x => B6 Ei x) (rdR (o6R w known st term).snd) from ?_) .n)))))))))))) rfl rfl h)) (by rfl) (by rfl) <;> subst v0 v1 v2 <;> (first | assumption | rfl | exact hw.lf | (simp; done))
end Go.Vi
open Go Go.Proofs
namespace Go.Vi
set_option maxRecDepth 100000
set_option maxHeartbeats 4000000
end Go.Vi
open Go Go.Proofs
namespace Go.Vi
set_option maxRecDepth 100000
set_option maxHeartbeats 4000000
theorem fH {f : FactT} {b1 b2 : Blk} : Ev B7 Γ0 32 [.ref (.vec 2 0)] [b1, b2, .vec [[int f.kind, int f.sub, int f.obj, int f.value, int f.frm, int f.til, int f.known, int f.no]] 0 8] (int (bq [f])) [b1, b2, .vec [[int f.kind, int f.sub, int f.obj, int f.value, int f.frm, int f.til, int f.known, int f.no]] 0 8] := by
 refine Ev.frzArgs (by rfl) rfl ?_
 exact vX (l := [f]) (by simp [am]) []
def da (st cr term gr ca : Int) : Bool :=
 !(decide (st ≥ 0) && decide (st ≤ 19999)) || !(decide (cr ≥ 0) && decide (cr ≤ 4095)) || !(decide (term ≥ 0) && decide (term ≤ 1023)) || !(decide (gr ≥ -1) && decide (gr ≤ 12)) || !(decide (ca ≥ 0) && decide (ca ≤ 6))
def rfV (gr ca : Int) : Int := bif decide (gr < 0) then -1 else B8.wrap (gr + B8.wrap (16 * ca))
abbrev rfG (st cr term v known no : Int) : FactT := ⟨5, st, cr, v, term, B8.wrap (term + 1), known, no⟩
def rfF (st cr term gr ca known no : Int) : FactT := rfG st cr term (rfV gr ca) known no
def rfX (b : Bool) (e : Int) (f : FactT) : FactT × Int := match b with
 | true => (fz, 150)
 | false => match e != 0 with
  | true => (fz, e)
  | false => (f, 0)
def rfR (st cr term gr ca known no : Int) : FactT × Int := rfX (da st cr term gr ca) (bq [rfF st cr term gr ca known no]) (rfF st cr term gr ca known no)
noncomputable abbrev rfact_ev_x0 (st : Int) (cr : Int) (term : Int) (gr : Int) (ca : Int) (known : Int) (no : Int) : List Blk := [.var [int 0, int 0, int 0, int 0, int 0, int 0, int 0, int 0], .var [int 5, int st, int cr, int (Cc B8 (gr + Cc B8 (16 * ca))), int term, int (Cc B8 (term + 1)), int known, int no], .vec [[int 5, int st, int cr, int (Cc B8 (gr + Cc B8 (16 * ca))), int term, int (Cc B8 (term + 1)), int known, int no]] 0 8]
noncomputable abbrev rfact_ev_x1 (st : Int) (cr : Int) (term : Int) (known : Int) (no : Int) : List Blk := [.var [int 0, int 0, int 0, int 0, int 0, int 0, int 0, int 0], .var [int 5, int st, int cr, int (-1), int term, int (Cc B8 (term + 1)), int known, int no], .vec [[int 5, int st, int cr, int (-1), int term, int (Cc B8 (term + 1)), int known, int no]] 0 8]
noncomputable abbrev ap : List Blk := [.var [int 0, int 0, int 0, int 0, int 0, int 0, int 0, int 0]]
theorem y1 {st cr term gr ca known no : Int} (h : List Blk) : (Ev B7 Γ0 27 [int st, int cr, int term, int gr, int ca, int known, int no] h (.tup [ag (rfR st cr term gr ca known no).1.row, int (rfR st cr term gr ca known no).2]) h) := by
 cases hc0 : !(decide (st ≥ 0) && decide (st ≤ 19999)) || !(decide (cr ≥ 0) && decide (cr ≤ 4095)) || !(decide (term ≥ 0) && decide (term ≤ 1023)) || !(decide (gr ≥ -1) && decide (gr ≤ 12)) || !(decide (ca ≥ 0) && decide (ca ≤ 6))
 ·cases hc1 : decide (gr < 0)
  ·cases hc2 : bq [{ kind := 5, sub := st, obj := cr, value := Cc B8 (gr + Cc B8 (16 * ca)), frm := term, til := Cc B8 (term + 1), known := known, no := no }] != 0
   ·let v0 : List D := [int 5, int st, int cr, int (Cc B8 (gr + Cc B8 (16 * ca))), int term, int (Cc B8 (term + 1)), int known, int no]
    exact Cj (Cn (d := DC [Db v0, int 0]) pok [.val (bool (decide (st ≥ 0) && decide (st ≤ 19999))), .val (bool (decide (cr ≥ 0) && decide (cr ≤ 4095))), .val (bool (decide (term ≥ 0) && decide (term ≤ 1023))), .val (bool (decide (gr ≥ -1) && decide (gr ≤ 12))), .val (bool (decide (ca ≥ 0) && decide (ca ≤ 6))), .b false, .b false, .val (int (bq [{ kind := 5, sub := st, obj := cr, value := Cc B8 (gr + Cc B8 (16 * ca)), frm := term, til := Cc B8 (term + 1), known := known, no := no }])), .b false] (by kernel_rfl) (.c (@aG st 0 19999 ap) (.c (gd (!!(decide (st ≥ 0) && decide (st ≤ 19999))) (@aG cr 0 4095 ap)) (.c (gd (!(!(decide (st ≥ 0) && decide (st ≤ 19999)) || !(decide (cr ≥ 0) && decide (cr ≤ 4095)))) (@aG term 0 1023 ap)) (.c (gd (!(!(decide (st ≥ 0) && decide (st ≤ 19999)) || !(decide (cr ≥ 0) && decide (cr ≤ 4095)) || !(decide (term ≥ 0) && decide (term ≤ 1023)))) (@aG gr (-1) 12 ap)) (.c (gd (!(!(decide (st ≥ 0) && decide (st ≤ 19999)) || !(decide (cr ≥ 0) && decide (cr ≤ 4095)) || !(decide (term ≥ 0) && decide (term ≤ 1023)) || !(decide (gr ≥ -1) && decide (gr ≤ 12)))) (@aG ca 0 6 ap)) (.c hc0 (.c hc1 (.c (@fH ({ kind := 5, sub := st, obj := cr, value := Cc B8 (gr + Cc B8 (16 * ca)), frm := term, til := Cc B8 (term + 1), known := known, no := no }) (.var [int 0, int 0, int 0, int 0, int 0, int 0, int 0, int 0]) (.var v0)) (.c hc2 .n))))))))) rfl rfl h) (by subst v0; first | (have z0 : da st cr term gr ca = true := hc0; simp only [rfR, rfX, z0]; rfl) | (have z0 : da st cr term gr ca = false := hc0; simp only [rfR, rfX, rfF, rfV, z0, hc1, cond_false, hc2]; first | done | rfl)) (by rfl)
   ·exact Cj (Cn (d := DC [Db [int 0, int 0, int 0, int 0, int 0, int 0, int 0, int 0], int (bq [{ kind := 5, sub := st, obj := cr, value := Cc B8 (gr + Cc B8 (16 * ca)), frm := term, til := Cc B8 (term + 1), known := known, no := no }])]) pok [.val (bool (decide (st ≥ 0) && decide (st ≤ 19999))), .val (bool (decide (cr ≥ 0) && decide (cr ≤ 4095))), .val (bool (decide (term ≥ 0) && decide (term ≤ 1023))), .val (bool (decide (gr ≥ -1) && decide (gr ≤ 12))), .val (bool (decide (ca ≥ 0) && decide (ca ≤ 6))), .b false, .b false, .val (int (bq [{ kind := 5, sub := st, obj := cr, value := Cc B8 (gr + Cc B8 (16 * ca)), frm := term, til := Cc B8 (term + 1), known := known, no := no }])), .b true] (by kernel_rfl) (.c (@aG st 0 19999 ap) (.c (gd (!!(decide (st ≥ 0) && decide (st ≤ 19999))) (@aG cr 0 4095 ap)) (.c (gd (!(!(decide (st ≥ 0) && decide (st ≤ 19999)) || !(decide (cr ≥ 0) && decide (cr ≤ 4095)))) (@aG term 0 1023 ap)) (.c (gd (!(!(decide (st ≥ 0) && decide (st ≤ 19999)) || !(decide (cr ≥ 0) && decide (cr ≤ 4095)) || !(decide (term ≥ 0) && decide (term ≤ 1023)))) (@aG gr (-1) 12 ap)) (.c (gd (!(!(decide (st ≥ 0) && decide (st ≤ 19999)) || !(decide (cr ≥ 0) && decide (cr ≤ 4095)) || !(decide (term ≥ 0) && decide (term ≤ 1023)) || !(decide (gr ≥ -1) && decide (gr ≤ 12)))) (@aG ca 0 6 ap)) (.c hc0 (.c hc1 (.c (@fH ({ kind := 5, sub := st, obj := cr, value := Cc B8 (gr + Cc B8 (16 * ca)), frm := term, til := Cc B8 (term + 1), known := known, no := no }) (.var [int 0, int 0, int 0, int 0, int 0, int 0, int 0, int 0]) (.var [int 5, int st, int cr, int (Cc B8 (gr + Cc B8 (16 * ca))), int term, int (Cc B8 (term + 1)), int known, int no])) (.c hc2 .n))))))))) rfl rfl h) (by first | (have z0 : da st cr term gr ca = true := hc0; simp only [rfR, rfX, z0]; rfl) | (have z0 : da st cr term gr ca = false := hc0; simp only [rfR, rfX, rfF, rfV, z0, hc1, cond_false, hc2]; first | done | rfl)) (by rfl)
  ·cases hc2 : bq [{ kind := 5, sub := st, obj := cr, value := -1, frm := term, til := Cc B8 (term + 1), known := known, no := no }] != 0
   ·let v0 : List D := [int 5, int st, int cr, int (-1), int term, int (Cc B8 (term + 1)), int known, int no]
    exact Cj (Cn (d := DC [Db v0, int 0]) pok [.val (bool (decide (st ≥ 0) && decide (st ≤ 19999))), .val (bool (decide (cr ≥ 0) && decide (cr ≤ 4095))), .val (bool (decide (term ≥ 0) && decide (term ≤ 1023))), .val (bool (decide (gr ≥ -1) && decide (gr ≤ 12))), .val (bool (decide (ca ≥ 0) && decide (ca ≤ 6))), .b false, .b true, .val (int (bq [{ kind := 5, sub := st, obj := cr, value := -1, frm := term, til := Cc B8 (term + 1), known := known, no := no }])), .b false] (by kernel_rfl) (.c (@aG st 0 19999 ap) (.c (gd (!!(decide (st ≥ 0) && decide (st ≤ 19999))) (@aG cr 0 4095 ap)) (.c (gd (!(!(decide (st ≥ 0) && decide (st ≤ 19999)) || !(decide (cr ≥ 0) && decide (cr ≤ 4095)))) (@aG term 0 1023 ap)) (.c (gd (!(!(decide (st ≥ 0) && decide (st ≤ 19999)) || !(decide (cr ≥ 0) && decide (cr ≤ 4095)) || !(decide (term ≥ 0) && decide (term ≤ 1023)))) (@aG gr (-1) 12 ap)) (.c (gd (!(!(decide (st ≥ 0) && decide (st ≤ 19999)) || !(decide (cr ≥ 0) && decide (cr ≤ 4095)) || !(decide (term ≥ 0) && decide (term ≤ 1023)) || !(decide (gr ≥ -1) && decide (gr ≤ 12)))) (@aG ca 0 6 ap)) (.c hc0 (.c hc1 (.c (@fH ({ kind := 5, sub := st, obj := cr, value := -1, frm := term, til := Cc B8 (term + 1), known := known, no := no }) (.var [int 0, int 0, int 0, int 0, int 0, int 0, int 0, int 0]) (.var v0)) (.c hc2 .n))))))))) rfl rfl h) (by subst v0; first | (have z0 : da st cr term gr ca = true := hc0; simp only [rfR, rfX, z0]; rfl) | (have z0 : da st cr term gr ca = false := hc0; simp only [rfR, rfX, rfF, rfV, z0, hc1, cond_true, hc2]; first | done | rfl)) (by rfl)
   ·exact Cj (Cn (d := DC [Db [int 0, int 0, int 0, int 0, int 0, int 0, int 0, int 0], int (bq [{ kind := 5, sub := st, obj := cr, value := -1, frm := term, til := Cc B8 (term + 1), known := known, no := no }])]) pok [.val (bool (decide (st ≥ 0) && decide (st ≤ 19999))), .val (bool (decide (cr ≥ 0) && decide (cr ≤ 4095))), .val (bool (decide (term ≥ 0) && decide (term ≤ 1023))), .val (bool (decide (gr ≥ -1) && decide (gr ≤ 12))), .val (bool (decide (ca ≥ 0) && decide (ca ≤ 6))), .b false, .b true, .val (int (bq [{ kind := 5, sub := st, obj := cr, value := -1, frm := term, til := Cc B8 (term + 1), known := known, no := no }])), .b true] (by kernel_rfl) (.c (@aG st 0 19999 ap) (.c (gd (!!(decide (st ≥ 0) && decide (st ≤ 19999))) (@aG cr 0 4095 ap)) (.c (gd (!(!(decide (st ≥ 0) && decide (st ≤ 19999)) || !(decide (cr ≥ 0) && decide (cr ≤ 4095)))) (@aG term 0 1023 ap)) (.c (gd (!(!(decide (st ≥ 0) && decide (st ≤ 19999)) || !(decide (cr ≥ 0) && decide (cr ≤ 4095)) || !(decide (term ≥ 0) && decide (term ≤ 1023)))) (@aG gr (-1) 12 ap)) (.c (gd (!(!(decide (st ≥ 0) && decide (st ≤ 19999)) || !(decide (cr ≥ 0) && decide (cr ≤ 4095)) || !(decide (term ≥ 0) && decide (term ≤ 1023)) || !(decide (gr ≥ -1) && decide (gr ≤ 12)))) (@aG ca 0 6 ap)) (.c hc0 (.c hc1 (.c (@fH ({ kind := 5, sub := st, obj := cr, value := -1, frm := term, til := Cc B8 (term + 1), known := known, no := no }) (.var [int 0, int 0, int 0, int 0, int 0, int 0, int 0, int 0]) (.var [int 5, int st, int cr, int (-1), int term, int (Cc B8 (term + 1)), int known, int no])) (.c hc2 .n))))))))) rfl rfl h) (by first | (have z0 : da st cr term gr ca = true := hc0; simp only [rfR, rfX, z0]; rfl) | (have z0 : da st cr term gr ca = false := hc0; simp only [rfR, rfX, rfF, rfV, z0, hc1, cond_true, hc2]; first | done | rfl)) (by rfl)
 ·exact Cj (Cn (d := DC [Db [int 0, int 0, int 0, int 0, int 0, int 0, int 0, int 0], int 150]) pok [.val (bool (decide (st ≥ 0) && decide (st ≤ 19999))), .val (bool (decide (cr ≥ 0) && decide (cr ≤ 4095))), .val (bool (decide (term ≥ 0) && decide (term ≤ 1023))), .val (bool (decide (gr ≥ -1) && decide (gr ≤ 12))), .val (bool (decide (ca ≥ 0) && decide (ca ≤ 6))), .b true] (by kernel_rfl) (.c (@aG st 0 19999 ap) (.c (gd (!!(decide (st ≥ 0) && decide (st ≤ 19999))) (@aG cr 0 4095 ap)) (.c (gd (!(!(decide (st ≥ 0) && decide (st ≤ 19999)) || !(decide (cr ≥ 0) && decide (cr ≤ 4095)))) (@aG term 0 1023 ap)) (.c (gd (!(!(decide (st ≥ 0) && decide (st ≤ 19999)) || !(decide (cr ≥ 0) && decide (cr ≤ 4095)) || !(decide (term ≥ 0) && decide (term ≤ 1023)))) (@aG gr (-1) 12 ap)) (.c (gd (!(!(decide (st ≥ 0) && decide (st ≤ 19999)) || !(decide (cr ≥ 0) && decide (cr ≤ 4095)) || !(decide (term ≥ 0) && decide (term ≤ 1023)) || !(decide (gr ≥ -1) && decide (gr ≤ 12)))) (@aG ca 0 6 ap)) (.c hc0 .n)))))) rfl rfl h) (by first | (have z0 : da st cr term gr ca = true := hc0; simp only [rfR, rfX, z0]; rfl) | (have z0 : da st cr term gr ca = false := hc0; simp only [rfR, rfX, rfF, rfV, z0, hc1, cond_true, cond_false, hc2]; first | done | rfl)) (by rfl)
end Go.Vi
open Go Go.Proofs
namespace Go.Vi
set_option maxRecDepth 100000
set_option maxHeartbeats 4000000
theorem of26_ev {w : WorldT} (hw : w.ok) (hs : ∀ x ∈ w.c, x.small) {st term known : Int} (hn : (aj w.f known).length ≤ 500) (h : List Blk) : Ev B7 Γ0 26 [.agg w.l, int st, int term, int known] h (.tup [.agg (wD w st term known).1.l, ab (rdR (wD w st term known).2.1), int (wD w st term known).2.2]) h := by
 unfold wD
 cases hb : rb st term
 ·have := B4 hw hs (st := st) (term := term) (known := known) hn hb h
  rw [o6R_eq] at this
  exact this
 ·exact yZ hb h
theorem xg (f : FactT) : kD f = fitsB f := by
 rw [Eu]
 simp only [kD, fitsB, Cd, decide_eq_true_eq]
 omega
theorem ub (f : FactT) : iJ [f] = bq [f] := by
 unfold iJ bq rcR rnR nbR nbs
 simp only [forL, rcF, xg, List.any_cons, List.any_nil, Bool.or_false]
 cases fitsB f <;> rfl
theorem sW {st cr term v known no : Int} {b1 b2 : Blk} : Ev B7 Γ0 78 [.ref (.vec 2 0)] [b1, b2, .vec [[int 5, int st, int cr, int v, int term, int (B8.wrap (term + 1)), int known, int no]] 0 8] (int (bq [rfG st cr term v known no])) [b1, b2, .vec [[int 5, int st, int cr, int v, int term, int (B8.wrap (term + 1)), int known, int no]] 0 8] := by
 refine Ev.frzArgs (by rfl) rfl ?_
 rw [← ub]
 exact vY (l := [rfG st cr term v known no]) (by simp [am]) []
def nP (gr ca : Int) : Int := bif gr == -1 then -1 else B8.wrap (gr + B8.wrap (16 * ca))
def gY (st cr term gr ca known no : Int) : FactT × Int := rfX (da st cr term gr ca) (bq [rfG st cr term (nP gr ca) known no]) (rfG st cr term (nP gr ca) known no)
noncomputable abbrev rf28_a_x0 (st : Int) (cr : Int) (term : Int) (gr : Int) (ca : Int) (known : Int) (no : Int) : List Blk := [.var [int 0, int 0, int 0, int 0, int 0, int 0, int 0, int 0], .var [int 5, int st, int cr, int (Cc B8 (gr + Cc B8 (16 * ca))), int term, int (Cc B8 (term + 1)), int known, int no], .vec [[int 5, int st, int cr, int (Cc B8 (gr + Cc B8 (16 * ca))), int term, int (Cc B8 (term + 1)), int known, int no]] 0 8]
noncomputable abbrev rf28_a_x1 (st : Int) (cr : Int) (term : Int) (known : Int) (no : Int) : List Blk := [.var [int 0, int 0, int 0, int 0, int 0, int 0, int 0, int 0], .var [int 5, int st, int cr, int (-1), int term, int (Cc B8 (term + 1)), int known, int no], .vec [[int 5, int st, int cr, int (-1), int term, int (Cc B8 (term + 1)), int known, int no]] 0 8]
noncomputable abbrev aA : List Blk := [.var [int 0, int 0, int 0, int 0, int 0, int 0, int 0, int 0]]
theorem rf28_a {st cr term gr ca known no : Int} (h : List Blk) : (Ev B7 Γ0 28 [int st, int cr, int term, int gr, int ca, int known, int no] h (.tup [ag (gY st cr term gr ca known no).1.row, int (gY st cr term gr ca known no).2]) h) := by
 cases hc0 : !(decide (st ≥ 0) && decide (st ≤ 19999)) || !(decide (cr ≥ 0) && decide (cr ≤ 4095)) || !(decide (term ≥ 0) && decide (term ≤ 1023)) || !(decide (gr ≥ -1) && decide (gr ≤ 12)) || !(decide (ca ≥ 0) && decide (ca ≤ 6))
 ·cases hc1 : gr == -1
  ·cases hc2 : bq [rfG st cr term (Cc B8 (gr + Cc B8 (16 * ca))) known no] != 0
   ·let v0 : List D := [int 5, int st, int cr, int (Cc B8 (gr + Cc B8 (16 * ca))), int term, int (Cc B8 (term + 1)), int known, int no]
    exact Cj (Cn (d := DC [Db v0, int 0]) pok [.val (bool (decide (st ≥ 0) && decide (st ≤ 19999))), .val (bool (decide (cr ≥ 0) && decide (cr ≤ 4095))), .val (bool (decide (term ≥ 0) && decide (term ≤ 1023))), .val (bool (decide (gr ≥ -1) && decide (gr ≤ 12))), .val (bool (decide (ca ≥ 0) && decide (ca ≤ 6))), .b false, .val (Db [int 5, int st, int cr]), .b false, .val (int (bq [rfG st cr term (Cc B8 (gr + Cc B8 (16 * ca))) known no])), .b false] (by kernel_rfl) (.c (@bb st 0 19999 aA) (.c (gd (!!(decide (st ≥ 0) && decide (st ≤ 19999))) (@bb cr 0 4095 aA)) (.c (gd (!(!(decide (st ≥ 0) && decide (st ≤ 19999)) || !(decide (cr ≥ 0) && decide (cr ≤ 4095)))) (@bb term 0 1023 aA)) (.c (gd (!(!(decide (st ≥ 0) && decide (st ≤ 19999)) || !(decide (cr ≥ 0) && decide (cr ≤ 4095)) || !(decide (term ≥ 0) && decide (term ≤ 1023)))) (@bb gr (-1) 12 aA)) (.c (gd (!(!(decide (st ≥ 0) && decide (st ≤ 19999)) || !(decide (cr ≥ 0) && decide (cr ≤ 4095)) || !(decide (term ≥ 0) && decide (term ≤ 1023)) || !(decide (gr ≥ -1) && decide (gr ≤ 12)))) (@bb ca 0 6 aA)) (.c hc0 (.c (@fC st cr aA) (.c hc1 (.c (@sW st cr term (Cc B8 (gr + Cc B8 (16 * ca))) known no (.var [int 0, int 0, int 0, int 0, int 0, int 0, int 0, int 0]) (.var v0)) (.c hc2 .n)))))))))) rfl rfl h) (by subst v0; first | (have z0 : da st cr term gr ca = true := hc0; simp only [gY, rfX, z0]; rfl) | (have z0 : da st cr term gr ca = false := hc0; simp only [gY, rfX, nP, z0, hc1, cond_false, hc2]; first | done | rfl)) (by rfl)
   ·exact Cj (Cn (d := DC [Db [int 0, int 0, int 0, int 0, int 0, int 0, int 0, int 0], int (bq [rfG st cr term (Cc B8 (gr + Cc B8 (16 * ca))) known no])]) pok [.val (bool (decide (st ≥ 0) && decide (st ≤ 19999))), .val (bool (decide (cr ≥ 0) && decide (cr ≤ 4095))), .val (bool (decide (term ≥ 0) && decide (term ≤ 1023))), .val (bool (decide (gr ≥ -1) && decide (gr ≤ 12))), .val (bool (decide (ca ≥ 0) && decide (ca ≤ 6))), .b false, .val (Db [int 5, int st, int cr]), .b false, .val (int (bq [rfG st cr term (Cc B8 (gr + Cc B8 (16 * ca))) known no])), .b true] (by kernel_rfl) (.c (@bb st 0 19999 aA) (.c (gd (!!(decide (st ≥ 0) && decide (st ≤ 19999))) (@bb cr 0 4095 aA)) (.c (gd (!(!(decide (st ≥ 0) && decide (st ≤ 19999)) || !(decide (cr ≥ 0) && decide (cr ≤ 4095)))) (@bb term 0 1023 aA)) (.c (gd (!(!(decide (st ≥ 0) && decide (st ≤ 19999)) || !(decide (cr ≥ 0) && decide (cr ≤ 4095)) || !(decide (term ≥ 0) && decide (term ≤ 1023)))) (@bb gr (-1) 12 aA)) (.c (gd (!(!(decide (st ≥ 0) && decide (st ≤ 19999)) || !(decide (cr ≥ 0) && decide (cr ≤ 4095)) || !(decide (term ≥ 0) && decide (term ≤ 1023)) || !(decide (gr ≥ -1) && decide (gr ≤ 12)))) (@bb ca 0 6 aA)) (.c hc0 (.c (@fC st cr aA) (.c hc1 (.c (@sW st cr term (Cc B8 (gr + Cc B8 (16 * ca))) known no (.var [int 0, int 0, int 0, int 0, int 0, int 0, int 0, int 0]) (.var [int 5, int st, int cr, int (Cc B8 (gr + Cc B8 (16 * ca))), int term, int (Cc B8 (term + 1)), int known, int no])) (.c hc2 .n)))))))))) rfl rfl h) (by first | (have z0 : da st cr term gr ca = true := hc0; simp only [gY, rfX, z0]; rfl) | (have z0 : da st cr term gr ca = false := hc0; simp only [gY, rfX, nP, z0, hc1, cond_false, hc2]; first | done | rfl)) (by rfl)
  ·cases hc2 : bq [rfG st cr term (-1) known no] != 0
   ·let v0 : List D := [int 5, int st, int cr, int (-1), int term, int (Cc B8 (term + 1)), int known, int no]
    exact Cj (Cn (d := DC [Db v0, int 0]) pok [.val (bool (decide (st ≥ 0) && decide (st ≤ 19999))), .val (bool (decide (cr ≥ 0) && decide (cr ≤ 4095))), .val (bool (decide (term ≥ 0) && decide (term ≤ 1023))), .val (bool (decide (gr ≥ -1) && decide (gr ≤ 12))), .val (bool (decide (ca ≥ 0) && decide (ca ≤ 6))), .b false, .val (Db [int 5, int st, int cr]), .b true, .val (int (bq [rfG st cr term (-1) known no])), .b false] (by kernel_rfl) (.c (@bb st 0 19999 aA) (.c (gd (!!(decide (st ≥ 0) && decide (st ≤ 19999))) (@bb cr 0 4095 aA)) (.c (gd (!(!(decide (st ≥ 0) && decide (st ≤ 19999)) || !(decide (cr ≥ 0) && decide (cr ≤ 4095)))) (@bb term 0 1023 aA)) (.c (gd (!(!(decide (st ≥ 0) && decide (st ≤ 19999)) || !(decide (cr ≥ 0) && decide (cr ≤ 4095)) || !(decide (term ≥ 0) && decide (term ≤ 1023)))) (@bb gr (-1) 12 aA)) (.c (gd (!(!(decide (st ≥ 0) && decide (st ≤ 19999)) || !(decide (cr ≥ 0) && decide (cr ≤ 4095)) || !(decide (term ≥ 0) && decide (term ≤ 1023)) || !(decide (gr ≥ -1) && decide (gr ≤ 12)))) (@bb ca 0 6 aA)) (.c hc0 (.c (@fC st cr aA) (.c hc1 (.c (@sW st cr term (-1) known no (.var [int 0, int 0, int 0, int 0, int 0, int 0, int 0, int 0]) (.var v0)) (.c hc2 .n)))))))))) rfl rfl h) (by subst v0; first | (have z0 : da st cr term gr ca = true := hc0; simp only [gY, rfX, z0]; rfl) | (have z0 : da st cr term gr ca = false := hc0; simp only [gY, rfX, nP, z0, hc1, cond_true, hc2]; first | done | rfl)) (by rfl)
   ·exact Cj (Cn (d := DC [Db [int 0, int 0, int 0, int 0, int 0, int 0, int 0, int 0], int (bq [rfG st cr term (-1) known no])]) pok [.val (bool (decide (st ≥ 0) && decide (st ≤ 19999))), .val (bool (decide (cr ≥ 0) && decide (cr ≤ 4095))), .val (bool (decide (term ≥ 0) && decide (term ≤ 1023))), .val (bool (decide (gr ≥ -1) && decide (gr ≤ 12))), .val (bool (decide (ca ≥ 0) && decide (ca ≤ 6))), .b false, .val (Db [int 5, int st, int cr]), .b true, .val (int (bq [rfG st cr term (-1) known no])), .b true] (by kernel_rfl) (.c (@bb st 0 19999 aA) (.c (gd (!!(decide (st ≥ 0) && decide (st ≤ 19999))) (@bb cr 0 4095 aA)) (.c (gd (!(!(decide (st ≥ 0) && decide (st ≤ 19999)) || !(decide (cr ≥ 0) && decide (cr ≤ 4095)))) (@bb term 0 1023 aA)) (.c (gd (!(!(decide (st ≥ 0) && decide (st ≤ 19999)) || !(decide (cr ≥ 0) && decide (cr ≤ 4095)) || !(decide (term ≥ 0) && decide (term ≤ 1023)))) (@bb gr (-1) 12 aA)) (.c (gd (!(!(decide (st ≥ 0) && decide (st ≤ 19999)) || !(decide (cr ≥ 0) && decide (cr ≤ 4095)) || !(decide (term ≥ 0) && decide (term ≤ 1023)) || !(decide (gr ≥ -1) && decide (gr ≤ 12)))) (@bb ca 0 6 aA)) (.c hc0 (.c (@fC st cr aA) (.c hc1 (.c (@sW st cr term (-1) known no (.var [int 0, int 0, int 0, int 0, int 0, int 0, int 0, int 0]) (.var [int 5, int st, int cr, int (-1), int term, int (Cc B8 (term + 1)), int known, int no])) (.c hc2 .n)))))))))) rfl rfl h) (by first | (have z0 : da st cr term gr ca = true := hc0; simp only [gY, rfX, z0]; rfl) | (have z0 : da st cr term gr ca = false := hc0; simp only [gY, rfX, nP, z0, hc1, cond_true, hc2]; first | done | rfl)) (by rfl)
 ·exact Cj (Cn (d := DC [Db [int 0, int 0, int 0, int 0, int 0, int 0, int 0, int 0], int 150]) pok [.val (bool (decide (st ≥ 0) && decide (st ≤ 19999))), .val (bool (decide (cr ≥ 0) && decide (cr ≤ 4095))), .val (bool (decide (term ≥ 0) && decide (term ≤ 1023))), .val (bool (decide (gr ≥ -1) && decide (gr ≤ 12))), .val (bool (decide (ca ≥ 0) && decide (ca ≤ 6))), .b true] (by kernel_rfl) (.c (@bb st 0 19999 aA) (.c (gd (!!(decide (st ≥ 0) && decide (st ≤ 19999))) (@bb cr 0 4095 aA)) (.c (gd (!(!(decide (st ≥ 0) && decide (st ≤ 19999)) || !(decide (cr ≥ 0) && decide (cr ≤ 4095)))) (@bb term 0 1023 aA)) (.c (gd (!(!(decide (st ≥ 0) && decide (st ≤ 19999)) || !(decide (cr ≥ 0) && decide (cr ≤ 4095)) || !(decide (term ≥ 0) && decide (term ≤ 1023)))) (@bb gr (-1) 12 aA)) (.c (gd (!(!(decide (st ≥ 0) && decide (st ≤ 19999)) || !(decide (cr ≥ 0) && decide (cr ≤ 4095)) || !(decide (term ≥ 0) && decide (term ≤ 1023)) || !(decide (gr ≥ -1) && decide (gr ≤ 12)))) (@bb ca 0 6 aA)) (.c hc0 .n)))))) rfl rfl h) (by first | (have z0 : da st cr term gr ca = true := hc0; simp only [gY, rfX, z0]; rfl) | (have z0 : da st cr term gr ca = false := hc0; simp only [gY, rfX, nP, z0, hc1, cond_true, cond_false, hc2]; first | done | rfl)) (by rfl)
theorem rf28_eq {st cr term gr ca known no : Int} : gY st cr term gr ca known no = rfR st cr term gr ca known no := by
 unfold gY rfR
 cases hb : da st cr term gr ca
 ·have hg : -1 ≤ gr := by
   unfold da at hb
   simp only [D2, Fw, Cd, decide_eq_true_eq] at hb
   omega
  have : nP gr ca = rfV gr ca := by
   unfold nP rfV
   have e : (gr == -1) = decide (gr < 0) := by rw [Eu]; simp only [beq_iff_eq, decide_eq_true_eq]; omega
   rw [e]
  rw [this]; rfl
 ·rfl
theorem rf28_ev {st cr term gr ca known no : Int} (h : List Blk) : Ev B7 Γ0 28 [int st, int cr, int term, int gr, int ca, int known, int no] h (.tup [ag (rfR st cr term gr ca known no).1.row, int (rfR st cr term gr ca known no).2]) h := by
 rw [← rf28_eq]; exact rf28_a h
end Go.Vi
open Go Go.Proofs
namespace Go.Vi
set_option maxRecDepth 100000
set_option maxHeartbeats 4000000
theorem check31 {r : RecT} (hl : am r.a) (h : List Blk) : Ev B7 Γ0 31 [.agg r.l] h (int (b7 r)) h := by rw [← tX]; exact tW hl h
end Go.Vi
open Go Go.Proofs
namespace Go.Vi
set_option maxRecDepth 100000
set_option maxHeartbeats 4000000
noncomputable abbrev kN (w : WorldT) (r : RecT) (a : AttT) : List Blk := [.var [ab (B6 Cp w.c), ab w.p, ab (B6 CD w.s), ab (B6 Ch w.f)], .var [int r.st, ab (B6 Ci r.a)], .var [int a.course, int a.term, int a.grade, int a.campus, int a.credits]]
theorem os_out {w : WorldT} {r : RecT} {a : AttT} {st term known no : Int} (hsane : ∀ h, Ev B7 Γk 17 [] h (bool true) h) (ho : (!kK w || !decide (((r.a.map Ci).length : Int) ≤ 40)) = true) (h : List Blk) : (Ev B7 Γk 5 [.agg w.l, int st, int term, int known, .agg r.l, ag a.row, int no] h (bool true) h) := by
 exact Cj (Cn (d := bool true) pok [.val (bool true), .b false, .val (bool (kK w)), .val (bool (decide ((↑(Cb (B6 Ci r.a)) : Int) ≤ 40))), .b true] (by kernel_rfl) (.c (@hsane (kN w r a)) (.c (show (!true) = false from rfl) (.c (CZ (Γ' := Γk) (@sS w (kN w r a))) (.c (gd (!!kK w) (CZ (Γ' := Γk) (@sQ (B6 Ci r.a) (kN w r a)))) (.c ho .n))))) rfl rfl h) (by rfl) (by rfl)
noncomputable abbrev jw (w : WorldT) (r : RecT) (X : RecT) (a : AttT) (st : Int) (known : Int) (no : Int) : List Blk := [.var [ab (B6 Cp w.c), ab w.p, ab (B6 CD w.s), ab (B6 Ch w.f)], .var [int r.st, ab (B6 Ci r.a)], .var [int a.course, int a.term, int a.grade, int a.campus, int a.credits], .var [int X.st, ab (B6 Ci X.a)], .var [int X.st, ab (B6 Ci X.a)], .var [int (rfR st a.course a.term a.grade a.campus known no).fst.kind, int (rfR st a.course a.term a.grade a.campus known no).fst.sub, int (rfR st a.course a.term a.grade a.campus known no).fst.obj, int (rfR st a.course a.term a.grade a.campus known no).fst.value, int (rfR st a.course a.term a.grade a.campus known no).fst.frm, int (rfR st a.course a.term a.grade a.campus known no).fst.til, int (rfR st a.course a.term a.grade a.campus known no).fst.known, int (rfR st a.course a.term a.grade a.campus known no).fst.no], .var [int (rfR st a.course a.term a.grade a.campus known no).fst.kind, int (rfR st a.course a.term a.grade a.campus known no).fst.sub, int (rfR st a.course a.term a.grade a.campus known no).fst.obj, int (rfR st a.course a.term a.grade a.campus known no).fst.value, int (rfR st a.course a.term a.grade a.campus known no).fst.frm, int (rfR st a.course a.term a.grade a.campus known no).fst.til, int (rfR st a.course a.term a.grade a.campus known no).fst.known, int (rfR st a.course a.term a.grade a.campus known no).fst.no]]
noncomputable abbrev y2 (w : WorldT) (r : RecT) (X : RecT) (a : AttT) (st : Int) (known : Int) (no : Int) : List Blk := [.var [ab (B6 Cp w.c), ab w.p, ab (B6 CD w.s), ab (B6 Ch w.f)], .var [int r.st, ab (B6 Ci r.a)], .var [int a.course, int a.term, int a.grade, int a.campus, int a.credits], .var [int X.st, ab (B6 Ci X.a)], .var [int X.st, ab (B6 Ci X.a)], .var [int (rfR st a.course a.term a.grade a.campus known no).fst.kind, int (rfR st a.course a.term a.grade a.campus known no).fst.sub, int (rfR st a.course a.term a.grade a.campus known no).fst.obj, int (rfR st a.course a.term a.grade a.campus known no).fst.value, int (rfR st a.course a.term a.grade a.campus known no).fst.frm, int (rfR st a.course a.term a.grade a.campus known no).fst.til, int (rfR st a.course a.term a.grade a.campus known no).fst.known, int (rfR st a.course a.term a.grade a.campus known no).fst.no]]
noncomputable abbrev y3 (w : WorldT) (r : RecT) (X : RecT) (a : AttT) : List Blk := [.var [ab (B6 Cp w.c), ab w.p, ab (B6 CD w.s), ab (B6 Ch w.f)], .var [int r.st, ab (B6 Ci r.a)], .var [int a.course, int a.term, int a.grade, int a.campus, int a.credits], .var [int X.st, ab (B6 Ci X.a)], .var [int X.st, ab (B6 Ci X.a)]]
noncomputable abbrev y4 (w : WorldT) (r : RecT) (X : RecT) (a : AttT) : List Blk := [.var [ab (B6 Cp w.c), ab w.p, ab (B6 CD w.s), ab (B6 Ch w.f)], .var [int r.st, ab (B6 Ci r.a)], .var [int a.course, int a.term, int a.grade, int a.campus, int a.credits], .var [int X.st, ab (B6 Ci X.a)]]
noncomputable abbrev jx (w : WorldT) (r : RecT) (a : AttT) : List Blk := [.var [ab (B6 Cp w.c), ab w.p, ab (B6 CD w.s), ab (B6 Ch w.f)], .var [int r.st, ab (B6 Ci r.a)], .var [int a.course, int a.term, int a.grade, int a.campus, int a.credits]]
theorem os_ok {w : WorldT} {r X : RecT} {a : AttT} {st term known no e : Int} {rs : List ReadT} (hsane : ∀ h, Ev B7 Γk 17 [] h (bool true) h) (ho : (!kK w || !decide (((r.a.map Ci).length : Int) ≤ 40)) = false) (hl : am r.a)
 (h1 : ∀ h, Ev B7 Γk 23 [.agg w.l, int st, int term, int known] h (.tup [.agg X.l, ab (rdR rs), int e]) h)
 (h2 : ∀ h, Ev B7 Γ0 26 [.agg w.l, int st, int term, int known] h (.tup [.agg X.l, ab (rdR rs), int e]) h)
 (h3 : ∀ h, Ev B7 Γ0 29 [.agg X.l, .agg X.l] h (bool true) h) (h4 : ∀ h, Ev B7 Γ0 22 [ab (rdR rs), ab (rdR rs)] h (bool true) h)
 (h5 : ∀ h, Ev B7 Γ0 31 [.agg r.l] h (int (b7 r)) h) (h : List Blk) : (Ev B7 Γk 5 [.agg w.l, int st, int term, int known, .agg r.l, ag a.row, int no] h (bool true) h) := by
 let v0 := DC [Db [int (rfR st a.course a.term a.grade a.campus known no).fst.kind, int (rfR st a.course a.term a.grade a.campus known no).fst.sub, int (rfR st a.course a.term a.grade a.campus known no).fst.obj, int (rfR st a.course a.term a.grade a.campus known no).fst.value, int (rfR st a.course a.term a.grade a.campus known no).fst.frm, int (rfR st a.course a.term a.grade a.campus known no).fst.til, int (rfR st a.course a.term a.grade a.campus known no).fst.known, int (rfR st a.course a.term a.grade a.campus known no).fst.no], int (rfR st a.course a.term a.grade a.campus known no).snd]
 let v1 := DC [Db [int X.st, ab (B6 Ci X.a)], ab (rdR rs), int e]
 exact Cj (Cn (d := bool (true && true && e == e && ((rfR st a.course a.term a.grade a.campus known no).fst.kind == (rfR st a.course a.term a.grade a.campus known no).fst.kind && ((rfR st a.course a.term a.grade a.campus known no).fst.sub == (rfR st a.course a.term a.grade a.campus known no).fst.sub && ((rfR st a.course a.term a.grade a.campus known no).fst.obj == (rfR st a.course a.term a.grade a.campus known no).fst.obj && true)) && ((rfR st a.course a.term a.grade a.campus known no).fst.value == (rfR st a.course a.term a.grade a.campus known no).fst.value && ((rfR st a.course a.term a.grade a.campus known no).fst.frm == (rfR st a.course a.term a.grade a.campus known no).fst.frm && ((rfR st a.course a.term a.grade a.campus known no).fst.til == (rfR st a.course a.term a.grade a.campus known no).fst.til && true) && ((rfR st a.course a.term a.grade a.campus known no).fst.known == (rfR st a.course a.term a.grade a.campus known no).fst.known && ((rfR st a.course a.term a.grade a.campus known no).fst.no == (rfR st a.course a.term a.grade a.campus known no).fst.no && true))))) && (rfR st a.course a.term a.grade a.campus known no).snd == (rfR st a.course a.term a.grade a.campus known no).snd && b7 r == b7 r)) pok [.val (bool true), .b false, .val (bool (kK w)), .val (bool (decide ((↑(Cb (B6 Ci r.a)) : Int) ≤ 40))), .b false, .val v1, .val v1, .val v0, .val v0, .val (bool true), .val (bool true), .val (int (b7 r)), .val (int (b7 r))] (by kernel_rfl) (.c (@hsane (jx w r a)) (.c (show (!true) = false from rfl) (.c (CZ (Γ' := Γk) (@sS w (jx w r a))) (.c (gd (!!kK w) (CZ (Γ' := Γk) (@sQ (B6 Ci r.a) (jx w r a)))) (.c ho (.c (@h1 (jx w r a)) (.c (CZ (Γ' := Γk) (@h2 (y4 w r X a))) (.c (CZ (Γ' := Γk) (@y1 st (a.course) (a.term) (a.grade) (a.campus) known no (y3 w r X a))) (.c (CZ (Γ' := Γk) (@rf28_ev st (a.course) (a.term) (a.grade) (a.campus) known no (y2 w r X a st known no))) (.c (CZ (Γ' := Γk) (@h3 (jw w r X a st known no))) (.c (gd true (CZ (Γ' := Γk) (@h4 (jw w r X a st known no)))) (.c (gd (true && true && e == e && ((rfR st a.course a.term a.grade a.campus known no).fst.kind == (rfR st a.course a.term a.grade a.campus known no).fst.kind && ((rfR st a.course a.term a.grade a.campus known no).fst.sub == (rfR st a.course a.term a.grade a.campus known no).fst.sub && ((rfR st a.course a.term a.grade a.campus known no).fst.obj == (rfR st a.course a.term a.grade a.campus known no).fst.obj && true)) && ((rfR st a.course a.term a.grade a.campus known no).fst.value == (rfR st a.course a.term a.grade a.campus known no).fst.value && ((rfR st a.course a.term a.grade a.campus known no).fst.frm == (rfR st a.course a.term a.grade a.campus known no).fst.frm && ((rfR st a.course a.term a.grade a.campus known no).fst.til == (rfR st a.course a.term a.grade a.campus known no).fst.til && true) && ((rfR st a.course a.term a.grade a.campus known no).fst.known == (rfR st a.course a.term a.grade a.campus known no).fst.known && ((rfR st a.course a.term a.grade a.campus known no).fst.no == (rfR st a.course a.term a.grade a.campus known no).fst.no && true))))) && (rfR st a.course a.term a.grade a.campus known no).snd == (rfR st a.course a.term a.grade a.campus known no).snd) (CZ (Γ' := Γk) (@tU r hl (jw w r X a st known no)))) (.c (gd (true && true && e == e && ((rfR st a.course a.term a.grade a.campus known no).fst.kind == (rfR st a.course a.term a.grade a.campus known no).fst.kind && ((rfR st a.course a.term a.grade a.campus known no).fst.sub == (rfR st a.course a.term a.grade a.campus known no).fst.sub && ((rfR st a.course a.term a.grade a.campus known no).fst.obj == (rfR st a.course a.term a.grade a.campus known no).fst.obj && true)) && ((rfR st a.course a.term a.grade a.campus known no).fst.value == (rfR st a.course a.term a.grade a.campus known no).fst.value && ((rfR st a.course a.term a.grade a.campus known no).fst.frm == (rfR st a.course a.term a.grade a.campus known no).fst.frm && ((rfR st a.course a.term a.grade a.campus known no).fst.til == (rfR st a.course a.term a.grade a.campus known no).fst.til && true) && ((rfR st a.course a.term a.grade a.campus known no).fst.known == (rfR st a.course a.term a.grade a.campus known no).fst.known && ((rfR st a.course a.term a.grade a.campus known no).fst.no == (rfR st a.course a.term a.grade a.campus known no).fst.no && true))))) && (rfR st a.course a.term a.grade a.campus known no).snd == (rfR st a.course a.term a.grade a.campus known no).snd) (CZ (Γ' := Γk) (@h5 (jw w r X a st known no)))) .n))))))))))))) rfl rfl h) (by subst v0 v1; first | rfl | simp) (by rfl)
end Go.Vi
open Go Go.Proofs
namespace Go.Vi
set_option maxRecDepth 100000
theorem kO {w : WorldT} (hw : w.ok0) (hs : ∀ x ∈ w.c, x.small) {r : RecT} {a : AttT} {st term known no : Int} (h : List Blk) : Ev B7 Γk 5 [.agg w.l, int st, int term, int known, .agg r.l, ag a.row, int no] h (bool true) h := by
 cases ho : (!kK w || !decide (((r.a.map Ci).length : Int) ≤ 40))
 ·have hr := ho
  simp only [D2, Fw, decide_eq_true_eq, DR] at hr
  have hk := hw.few hr.1
  have hN : (aj w.f known).length ≤ 30 := Nat.le_trans dQ (pH hr.1)
  have hsr : am r.a := by unfold am; omega
  have hl := yM hk (known := known) (st := st) (term := term)
  have hq := pC hk (known := known) (st := st) (term := term)
  have hX : am (wD w st term known).1.a := by unfold wD am; split <;> simp; omega
  have hQ : am (wD w st term known).2.1 := by unfold wD am; split <;> simp; omega
  exact os_ok pG ho hsr (fun h => rof_ev hk h) (fun h => of26_ev hk hs (by omega) h) (fun h => tZ hX h) (fun h => rn hQ (rdne _) h) (fun h => check31 hsr h) h
 ·exact os_out pG ho h
end Go.Vi
open Go Go.Proofs
namespace Go.Vi
set_option maxRecDepth 100000
end Go.Vi
open Go Go.Proofs
namespace Go.Vi
set_option maxRecDepth 100000
set_option maxHeartbeats 400000
end Go.Vi
open Go Go.Proofs
namespace Go.Vi
open Go.ChangeShapes Go.WideShapes Go.ChangeAt Go.RowKit Go.Proofs.YtilebidefogaiaaGreatDoor
set_option maxRecDepth 100000
theorem fk : B7.cellsOf 3 = 1 := by kernel_rfl
theorem sX : B7.cellsOf 9 = 1 := by kernel_rfl
theorem xh : B7.cellsOf 35 = 2 := by kernel_rfl
theorem cells72 : B7.cellsOf 72 = 1 := by kernel_rfl
theorem cells73 : B7.cellsOf 73 = 1 := by kernel_rfl
theorem cells74 : B7.cellsOf 74 = 1 := by kernel_rfl
theorem cells76 : B7.cellsOf 76 = 4 := by kernel_rfl
theorem cells87 : B7.cellsOf 87 = 2 := by kernel_rfl
theorem cells91 : B7.cellsOf 91 = 4 := by kernel_rfl
theorem bytes91 : B7.bytesOf 91 = 40 := by kernel_rfl
theorem bytes87 : B7.bytesOf 87 = 24 := by kernel_rfl
theorem y5 : B7.bytesOf 102 = 32 := by kernel_rfl
theorem aN {n : Nat} {ds : List Dp} (h : Shp B7 n 3 ds) : ∃ x, ds = [vi x] ∧ I64 x := by
 cases n with
 | zero => exact h.elim
 | succ n =>
  simp only [Shp, Tryz.underlying3] at h
  obtain ⟨x, rfl, hw⟩ := h
  refine ⟨x, rfl, ?_⟩
  have := bounds_i64 hw
  exact this
theorem nQ {n : Nat} {ds : List Dp} (h : Shp B7 n 9 ds) : ∃ s, ds = [vs s] := by
 cases n with
 | zero => exact h.elim
 | succ n =>
  simp only [Shp, Tryz.underlying9] at h
  obtain ⟨s, rfl, _⟩ := h
  exact ⟨s, rfl⟩
theorem xi {n : Nat} {ds : List Dp} (h : Shp B7 n 35 ds) : ∃ a b, ds = [vi a, vi b] ∧ I64 a ∧ I64 b := by
 cases n with
 | zero => exact h.elim
 | succ n =>
  simp only [Shp, Tryz.underlying35, C5, fk, xh] at h
  obtain ⟨hl, h1, h2, _⟩ := h
  obtain ⟨a, e1, ha⟩ := aN h1
  obtain ⟨b, e2, hb⟩ := aN h2
  match ds, hl with
  | [x, y], _ =>
   simp at e1 e2
   subst e1; subst e2
   exact ⟨a, b, rfl, ha, hb⟩
theorem xj {n : Nat} {ds : List Dp} (h : Shp B7 n 91 ds) : ∃ c : Cls, ds = c.row ∧ c.ok := by
 cases n with
 | zero => exact h.elim
 | succ n =>
  simp only [Shp, Tryz.underlying91, C5, fk, sX, xh, cells91] at h
  obtain ⟨hl, h1, h2, h3, _⟩ := h
  obtain ⟨s, e1⟩ := nQ h1
  obtain ⟨x, e2, hx⟩ := aN h2
  obtain ⟨a, b, e3, ha, hb⟩ := xi h3
  match ds, hl with
  | [p, q, r, t], _ =>
   simp at e1 e2 e3
   obtain ⟨rfl, rfl⟩ := e3
   subst e1; subst e2
   exact ⟨⟨s, x, a, b⟩, rfl, hx, ha, hb⟩
theorem shp_fee {n : Nat} {ds : List Dp} (h : Shp B7 n 87 ds) : ∃ c : FeeT, ds = c.row ∧ I64 c.credits := by
 cases n with
 | zero => exact h.elim
 | succ n =>
  simp only [Shp, Tryz.underlying87, C5, fk, sX, cells87] at h
  obtain ⟨hl, h1, h2, _⟩ := h
  obtain ⟨s, e1⟩ := nQ h1
  obtain ⟨x, e2, hx⟩ := aN h2
  match ds, hl with
  | [p, q], _ =>
   simp at e1 e2
   subst e1; subst e2
   exact ⟨⟨s, x⟩, rfl, hx⟩
theorem gZ {α : Type} {row : α → List Dp} {ok : α → Prop} : ∀ {es : List (List Dp)}, (∀ r ∈ es, ∃ a, r = row a ∧ ok a) → ∃ l : List α, es = l.map row ∧ ∀ a ∈ l, ok a
 | [], _ => ⟨[], rfl, by simp⟩
 | r :: es, h => by
  obtain ⟨a, rfl, ha⟩ := h r (List.mem_cons_self ..)
  obtain ⟨l, rfl, hl⟩ := gZ (fun r hr => h r (List.mem_cons_of_mem _ hr))
  exact ⟨a :: l, rfl, fun b hb => (List.mem_cons.1 hb).elim (fun e => e ▸ ha) (hl b)⟩
theorem fI {n k : Nat} (h : n * k ≤ reachBytes) (hk : 1 ≤ k) : n ≤ 140737488355328 := by
 have : n ≤ n * k := Nat.le_mul_of_pos_right n hk
 unfold reachBytes at h
 omega
theorem kP {n : Nat} {ds : List Dp} (h : Shp B7 n 72 ds) : ∃ l : List Cls, ds = [.sl (l.map Cls.row)] ∧ (∀ c ∈ l, c.ok) ∧ am l := by
 cases n with
 | zero => exact h.elim
 | succ n =>
  simp only [Shp, Tryz.underlying72, bytes91] at h
  obtain ⟨es, rfl, hb, he⟩ := h
  obtain ⟨l, rfl, hl⟩ := gZ (row := Cls.row) (ok := Cls.ok) (fun r hr => xj (he r hr))
  exact ⟨l, rfl, hl, by have := fI hb (by omega); simpa [am] using this⟩
theorem y6 {n : Nat} {ds : List Dp} (h : Shp B7 n 73 ds) : ∃ l : List FeeT, ds = [.sl (l.map FeeT.row)] ∧ (∀ c ∈ l, I64 c.credits) ∧ am l := by
 cases n with
 | zero => exact h.elim
 | succ n =>
  simp only [Shp, Tryz.underlying73, bytes87] at h
  obtain ⟨es, rfl, hb, he⟩ := h
  obtain ⟨l, rfl, hl⟩ := gZ (row := FeeT.row) (ok := fun c => I64 c.credits) (fun r hr => shp_fee (he r hr))
  exact ⟨l, rfl, hl, by have := fI hb (by omega); simpa [am] using this⟩
end Go.Vi
