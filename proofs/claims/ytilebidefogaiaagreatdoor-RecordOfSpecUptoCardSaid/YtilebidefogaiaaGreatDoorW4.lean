/- RecordOfSpecUpto: part of the proof: contracts of the functions that the law reaches, and the law. No conditions beyond the given statement's own. -/
import Derived.Test.YtilebidefogaiaaGreatDoorW3
import Derived.Shelf.SlSortCmp.NoneTotal
import Derived.Sort.EveryDepth
import Derived.Ground.SlsfProg
open Go.Proofs.Tryz renaming f159 → CA, prog → B7, f178 → FE, f111 → GT
open Go.Vi.CW renaming cast → Ct, symX → Cu, each → Eo
open List renaming flatten → Cm, mem_map → CC, map_set → G4, getElem?_eq_some_iff → Ce, map → B6, set → Ep, range' → Dx, length_range' → HO, getElem_range' → HE, getD → Cl, getElem?_eq_getElem → Cv, cons_append → FV, flatten_cons → C7, length → Cb, foldl → D8, range → C1, length_map → DR, all_eq_true → CB, replicate → C0, map_cons → Dj, getElem?_append_left → Cr, getElem?_append_right → CV, length_cons → Di, ext_getElem? → EF, getElem?_eq_none → Dk, mergeSort_perm → F8
open Go.LoopState renaming ready → CM, busy → DP, exhausted → C2
open Go.Vi.D renaming fn → Dm, grd → F3, agg → Db, any → EB, innL → CT, mapRL → C6
open Go.Fn renaming func → CG
open Go.Exit renaming normal → Cq, exit → CE
open Go.Vi.FactT renaming row → Ch
open Go.IntKind renaming i64 → B8, wrap → Cc
open Int renaming toNat → Cf
open Option renaming some → DW
open Go.Operand renaming tmp → Hf, const → Gt
open Nat renaming one_mul → Gl, le_of_not_lt → Ek
open Go.Vi.Blk renaming inn → Cz
open Go.Value renaming tuple → Dd, oneCell' → CX
open Bool renaming and_false → Cw, false_and → Cs, true_and → CN, and_self → CO, not_eq_true' → Df
open Go.Sort renaming grow → FF, heap_grow_old → Fh, putRow → DD, mapBlock → DB, ahead → DT, putCells → Ec
open Array renaming getElem?_toList → C4, getElem?_eq_some_iff → DM, getElem?_modify → EI, getElem?_eq_getElem → CL, extract_size → HG
open Go.World renaming cell? → Gu
open Go.Calls renaming mono → HF
open Go Go.Proofs
namespace Go.Vi
set_option maxRecDepth 100000
set_option maxHeartbeats 4000000
abbrev b6 (l : List FactT) : List (List D) := l.map fun f => f.row.map .p
abbrev cx (l : List Bool) : List (List D) := l.map fun b => [bool b]
abbrev ba (l : List Int) : List (List D) := l.map fun n => [int n]
abbrev vaT : List D := mkT 63 0 [(6, .ref (.ptr 1 0)), (7, .ref (.ptr 2 0)), (8, .ref (.ptr 3 0)), (15, .fn (.func 178) [] [.ref (.ptr 4 0), .ref (.ptr 5 0), .ref (.ptr 6 0)])]
noncomputable abbrev vaL (st : LoopState) : Blk := .loop st none 0 vaT #[16] (aI (sub CA 0)) (ar (sub CA 0))
noncomputable abbrev vaH (kk ks ko known : Int) (fs : List (List Dp)) (rs : List D) (best : List FactT) (some : List Bool) (st : LoopState) (more : List Blk) : List Blk :=
 [.var [int kk, int ks, int ko], .var rs, .var (b6 best).flatten, .var (cx some).flatten, .var [ab fs], .var [int kk, int ks, int ko], .var [int known], .defd, vaL st] ++ more
abbrev vaU : List D := mkT 63 0 [(6, .ref (.ptr 1 0)), (7, .ref (.ptr 2 0)), (8, .ref (.ptr 3 0)), (9, .ref (.ptr 10 0))]
theorem va_asg {kk ks ko known : Int} {fs : List (List Dp)} {rs : List D} {best : List FactT} {some : List Bool} {f : FactT} : (CW B7 Γ0 (vaH kk ks ko known fs rs best some .ready [.var (f.row.map .p)]) true (aI (sub CA 0)) { t := eQ vaT [(16, ag f.row)], h := vaH kk ks ko known fs rs best some .ready [.var (f.row.map .p)], m := [] } .normal { t := vaU, h := vaH kk ks ko known fs rs best some .ready [.var (f.row.map .p), .var (f.row.map .p)], m := [] }) := by
 let v0 : List D := [int f.kind, int f.sub, int f.obj, int f.value, int f.frm, int f.til, int f.known, int f.no]
 exact Ct (Cu (s' := { t := mkT 63 0 [(6, .ref (.ptr 1 0)), (7, .ref (.ptr 2 0)), (8, .ref (.ptr 3 0)), (9, .ref (.ptr 10 0))], h := [.var [int kk, int ks, int ko], .var rs, .var (Cm (b6 best)), .var (Cm (cx some)), .var [ab fs], .var [int kk, int ks, int ko], .var [int known], .defd, .loop CM none 0 (mkT 63 0 [(6, .ref (.ptr 1 0)), (7, .ref (.ptr 2 0)), (8, .ref (.ptr 3 0)), (15, Dm (CG 178) [] [.ref (.ptr 4 0), .ref (.ptr 5 0), .ref (.ptr 6 0)])]) { toList := [16] } (aI (sub CA 0)) (ar (sub CA 0)), .var v0, .var v0], m := [] }) (e := Cq) pok [.st (.mask [6, 7, 8, 9])] [] (by kernel_rfl) .n) (by rfl) (by rfl)
theorem nF {h : List Blk} {off n : Nat} {l : List Bool} {b : Bool} (hb : h[3]? = some (.var (cx l).flatten)) (hs : l[n]? = some b) (ho : off = n * 1) : bD B7 h 4 (.ref (.ptr 3 off)) = some (bool b) := by
 subst ho
 exact kr (sz := 1) (j := 0) (row := [bool b]) (by kernel_rfl) (by kernel_rfl) hb (fun r hr => by obtain ⟨_, _, rfl⟩ := CC.1 hr; rfl) (by simp [hs]) rfl
theorem wj {h : List Blk} {off n : Nat} {l : List FactT} {g : FactT} (hb : h[2]? = some (.var (b6 l).flatten)) (hs : l[n]? = some g) (ho : off = n * 8) : bD B7 h 60 (.ref (.ptr 2 off)) = some (ag g.row) := by
 subst ho
 exact xY (sz := 8) (row := g.row.map .p) (by kernel_rfl) (by kernel_rfl) hb (by simp [Ch]) (by simp [hs])
theorem zI {h : List Blk} {off n : Nat} {l : List FactT} {f : FactT} (hb : h[2]? = some (.var (b6 l).flatten)) (hn : n < l.length) (ho : off = n * 8) : cb B7 h 60 (.ref (.ptr 2 off)) (ag f.row) = some (h.set 2 (.var (b6 (l.set n f)).flatten)) := by
 subst ho
 rw [ku (sz := 8) (new := f.row.map .p) rfl (by kernel_rfl) rfl hb (by simp [Ch]) (by simpa using hn), b6, b6, G4]
theorem zJ {h : List Blk} {off n : Nat} {l : List Bool} {b : Bool} (hb : h[3]? = some (.var (cx l).flatten)) (hn : n < l.length) (ho : off = n * 1) : cb B7 h 4 (.ref (.ptr 3 off)) (bool b) = some (h.set 3 (.var (cx (l.set n b)).flatten)) := by
 subst ho
 rw [ku (sz := 1) (new := [bool b]) rfl (by kernel_rfl) rfl hb (fun r hr => by obtain ⟨_, _, rfl⟩ := CC.1 hr; rfl) (by simpa using hn), cx, cx, G4]
theorem fE {α : Type} {l : List α} {n : Nat} {a : α} (h : l[n]? = some a) : n < l.length := (Ce.1 h).1
def vaHit (f g : FactT) (b : Bool) : Bool := !b || decide (orI (aK f.known g.known) (aK f.no g.no) ≥ 0)
noncomputable abbrev vaS (kk ks ko known : Int) (fs : List (List Dp)) (rs : List D) (best : List FactT) (some : List Bool) (f : FactT) (t : Int) : AS := { t := mkT 63 0 [(6, .ref (.ptr 1 0)), (7, .ref (.ptr 2 0)), (8, .ref (.ptr 3 0)), (9, .ref (.ptr 10 0)), (10, int t)], h := vaH kk ks ko known fs rs best some .busy [.var (f.row.map .p), .var (f.row.map .p)], m := [] }
noncomputable abbrev fg (kk : Int) (ks : Int) (ko : Int) (known : Int) (fs : List (List Dp)) (rs : List D) (best : List FactT) (some : List Bool) (f : FactT) : List Blk := [.var [int kk, int ks, int ko], .var rs, .var (Cm (b6 best)), .var (Cm (cx some)), .var [ab fs], .var [int kk, int ks, int ko], .var [int known], .defd, .loop DP none 0 (mkT 63 0 [(6, .ref (.ptr 1 0)), (7, .ref (.ptr 2 0)), (8, .ref (.ptr 3 0)), (15, Dm (CG 178) [] [.ref (.ptr 4 0), .ref (.ptr 5 0), .ref (.ptr 6 0)])]) { toList := [16] } (aI (sub CA 0)) (ar (sub CA 0)), .var [int f.kind, int f.sub, int f.obj, int f.value, int f.frm, int f.til, int f.known, int f.no], .var [int f.kind, int f.sub, int f.obj, int f.value, int f.frm, int f.til, int f.known, int f.no]]
theorem va_b {kk ks ko known : Int} {fs : List (List Dp)} {rs : List D} {best b0 : List FactT} {some s0 : List Bool} {f g f0 : FactT} {n : Nat} {b : Bool} (hb : best[n]? = .some g) (hs : some[n]? = .some b) (hn : inR (n : Int) 1024 = true) (hlt : decide ((n : Int) < if false = true then if 1024 > f.til then 1024 else f.til else if 1024 < f.til then 1024 else f.til) = true) : (CW B7 Γ0 (vaH kk ks ko known fs rs b0 s0 .ready [.var (f0.row.map .p)]) true (sub CA 1) (vaS kk ks ko known fs rs best some f (n : Int)) .normal (vaS kk ks ko known fs rs (bif vaHit f g b then best.set n f else best) (bif vaHit f g b then some.set n true else some) f (B8.wrap ((n : Int) + 1)))) := by
 cases hc0 : !b || decide (orI (aK f.known g.known) (aK f.no g.no) ≥ 0)
 ·refine Ct (Cu (s' := { t := mkT 63 0 [(6, .ref (.ptr 1 0)), (7, .ref (.ptr 2 0)), (8, .ref (.ptr 3 0)), (9, .ref (.ptr 10 0)), (10, int (Cc B8 ((↑n : Int) + 1)))], h := (fg kk ks ko known fs rs best some f), m := [] }) (e := Cq) pok [.st (.mask [6, 7, 8, 9, 10])] [.b true, .ov 31 (bool b), .ov 37 (ag (Ch g)), .val (int (orI (aK f.known g.known) (aK f.no g.no))), .b false] (by kernel_rfl) (.c hlt (.c hn (.c (show bD B7 (fg kk ks ko known fs rs best some f) 4 (.ref (.ptr 3 (0 + Cf (↑n : Int) * 1))) = DW (bool b) from ?_) (.c (show (!!b) = true → inR (↑n : Int) 1024 = true from (fun hg => hn)) (.c (show (!!b) = true → bD B7 (fg kk ks ko known fs rs best some f) 60 (evalD Γ0 (B6 eh (mkT 63 0 [(6, .ref (.ptr 1 0)), (7, .ref (.ptr 2 0)), (8, .ref (.ptr 3 0)), (9, .ref (.ptr 10 0)), (10, int (↑n : Int)), (21, int (↑n : Int)), (22, .ref (.ptr 10 4)), (23, .ref (.ptr 10 5)), (24, int f.til), (25, int (if false = true then if 1024 > f.til then 1024 else f.til else if 1024 < f.til then 1024 else f.til)), (26, bool (decide ((↑n : Int) < if false = true then if 1024 > f.til then 1024 else f.til else if 1024 < f.til then 1024 else f.til))), (29, int (↑n : Int)), (30, .ref (.ptr 3 (0 + Cf (↑n : Int) * 1))), (31, bool b), (32, bool !b), (33, bool !b), (34, F3 (!!b) (Db [int f.kind, int f.sub, int f.obj, int f.value, int f.frm, int f.til, int f.known, int f.no])), (35, F3 (!!b) (int (↑n : Int))), (36, F3 (!!b) (.ref (.ptr 2 (0 + Cf (↑n : Int) * 8))))])) (Hf 36)) = DW (Db [int g.kind, int g.sub, int g.obj, int g.value, int g.frm, int g.til, int g.known, int g.no]) from (fun hg => ?_)) (.c (gd (!!b) (@iG f g (fg kk ks ko known fs rs best some f))) (.c hc0 .n)))))))) (by first | rfl | (have hh : vaHit f g b = true := hc0; simp only [hh, cond_true]; first | done | rfl) | (have hh : vaHit f g b = false := hc0; simp only [hh, cond_false]; first | done | rfl)) (by first | rfl | (have hh : vaHit f g b = true := hc0; simp only [hh, cond_true]; first | done | rfl) | (have hh : vaHit f g b = false := hc0; simp only [hh, cond_false]; first | done | rfl)) <;> (first | assumption | rfl | exact nF rfl hs (by simp) | exact wj rfl hb (by simp) | exact zI rfl (fE hb) (by simp) | exact zJ rfl (fE hs) (by simp) | (simp_all; done))
 ·let v0 : List D := [int f.kind, int f.sub, int f.obj, int f.value, int f.frm, int f.til, int f.known, int f.no]
  let v1 : List Blk := [.var [int kk, int ks, int ko], .var rs, .var (Cm (b6 (Ep best n f))), .var (Cm (cx (Ep some n true))), .var [ab fs], .var [int kk, int ks, int ko], .var [int known], .defd, .loop DP none 0 (mkT 63 0 [(6, .ref (.ptr 1 0)), (7, .ref (.ptr 2 0)), (8, .ref (.ptr 3 0)), (15, Dm (CG 178) [] [.ref (.ptr 4 0), .ref (.ptr 5 0), .ref (.ptr 6 0)])]) { toList := [16] } (aI (sub CA 0)) (ar (sub CA 0)), .var v0, .var v0]
  let v2 : List Blk := [.var [int kk, int ks, int ko], .var rs, .var (Cm (b6 (Ep best n f))), .var (Cm (cx some)), .var [ab fs], .var [int kk, int ks, int ko], .var [int known], .defd, .loop DP none 0 (mkT 63 0 [(6, .ref (.ptr 1 0)), (7, .ref (.ptr 2 0)), (8, .ref (.ptr 3 0)), (15, Dm (CG 178) [] [.ref (.ptr 4 0), .ref (.ptr 5 0), .ref (.ptr 6 0)])]) { toList := [16] } (aI (sub CA 0)) (ar (sub CA 0)), .var v0, .var v0]
  let v3 := Db [int g.kind, int g.sub, int g.obj, int g.value, int g.frm, int g.til, int g.known, int g.no]
  let v4 := B6 D.p (Ch f)
  refine Ct (Cu (s' := { t := mkT 63 0 [(6, .ref (.ptr 1 0)), (7, .ref (.ptr 2 0)), (8, .ref (.ptr 3 0)), (9, .ref (.ptr 10 0)), (10, int (Cc B8 ((↑n : Int) + 1)))], h := v1, m := [] }) (e := Cq) pok [.st (.mask [6, 7, 8, 9, 10])] [.b true, .ov 31 (bool b), .ov 37 (ag (Ch g)), .val (int (orI (aK f.known g.known) (aK f.no g.no))), .b true, .oh 10044 EB (vaH kk ks ko known fs rs (Ep best n f) some DP [.var v4, .var v4]), .oh 10045 EB (vaH kk ks ko known fs rs (Ep best n f) (Ep some n true) DP [.var v4, .var v4])] (by kernel_rfl) (.c hlt (.c hn (.c (show bD B7 (fg kk ks ko known fs rs best some f) 4 (.ref (.ptr 3 (0 + Cf (↑n : Int) * 1))) = DW (bool b) from ?_) (.c (show (!!b) = true → inR (↑n : Int) 1024 = true from (fun hg => hn)) (.c (show (!!b) = true → bD B7 (fg kk ks ko known fs rs best some f) 60 (evalD Γ0 (B6 eh (mkT 63 0 [(6, .ref (.ptr 1 0)), (7, .ref (.ptr 2 0)), (8, .ref (.ptr 3 0)), (9, .ref (.ptr 10 0)), (10, int (↑n : Int)), (21, int (↑n : Int)), (22, .ref (.ptr 10 4)), (23, .ref (.ptr 10 5)), (24, int f.til), (25, int (if false = true then if 1024 > f.til then 1024 else f.til else if 1024 < f.til then 1024 else f.til)), (26, bool (decide ((↑n : Int) < if false = true then if 1024 > f.til then 1024 else f.til else if 1024 < f.til then 1024 else f.til))), (29, int (↑n : Int)), (30, .ref (.ptr 3 (0 + Cf (↑n : Int) * 1))), (31, bool b), (32, bool !b), (33, bool !b), (34, F3 (!!b) (Db v0)), (35, F3 (!!b) (int (↑n : Int))), (36, F3 (!!b) (.ref (.ptr 2 (0 + Cf (↑n : Int) * 8))))])) (Hf 36)) = DW v3 from (fun hg => ?_)) (.c (gd (!!b) (@iG f g (fg kk ks ko known fs rs best some f))) (.c hc0 (.c hn (.c (show cb B7 (fg kk ks ko known fs rs best some f) 60 (.ref (.ptr 2 (0 + Cf (↑n : Int) * 8))) (Db v0) = DW v2 from ?_) (.c hn (.c (show cb B7 v2 4 (.ref (.ptr 3 (0 + Cf (↑n : Int) * 1))) (evalD Γ0 (mkT 63 0 [(6, .ref (.ptr 1 0)), (7, .ref (.ptr 2 0)), (8, .ref (.ptr 3 0)), (9, .ref (.ptr 10 0)), (10, int (↑n : Int)), (21, int (↑n : Int)), (22, .ref (.ptr 10 4)), (23, .ref (.ptr 10 5)), (24, int f.til), (25, int (if false = true then if 1024 > f.til then 1024 else f.til else if 1024 < f.til then 1024 else f.til)), (26, bool (decide ((↑n : Int) < if false = true then if 1024 > f.til then 1024 else f.til else if 1024 < f.til then 1024 else f.til))), (29, int (↑n : Int)), (30, .ref (.ptr 3 (0 + Cf (↑n : Int) * 1))), (31, bool b), (32, bool !b), (33, bool !b), (34, F3 (!!b) (Db v0)), (35, F3 (!!b) (int (↑n : Int))), (36, F3 (!!b) (.ref (.ptr 2 (0 + Cf (↑n : Int) * 8)))), (37, F3 (!!b) v3), (38, F3 (!!b) (int (orI (aK f.known g.known) (aK f.no g.no)))), (39, F3 (!!b) (bool (decide (orI (aK f.known g.known) (aK f.no g.no) ≥ 0)))), (40, bool (!b || decide (orI (aK f.known g.known) (aK f.no g.no) ≥ 0))), (41, int (↑n : Int)), (42, int (↑n : Int)), (43, Db v0), (44, .ref (.ptr 2 (0 + Cf (↑n : Int) * 8))), (45, .ref (.ptr 3 (0 + Cf (↑n : Int) * 1)))]) (Gt (Value.bool true))) = DW v1 from ?_) .n)))))))))))) (by subst v0 v1 v2 v3 v4; first | rfl | (have hh : vaHit f g b = true := hc0; simp only [hh, cond_true]; first | done | rfl) | (have hh : vaHit f g b = false := hc0; simp only [hh, cond_false]; first | done | rfl)) (by subst v0 v1 v2 v3 v4; first | rfl | (have hh : vaHit f g b = true := hc0; simp only [hh, cond_true]; first | done | rfl) | (have hh : vaHit f g b = false := hc0; simp only [hh, cond_false]; first | done | rfl)) <;> subst v0 v1 v2 v3 v4 <;> (first | assumption | rfl | exact nF rfl hs (by simp) | exact wj rfl hb (by simp) | exact zI rfl (fE hb) (by simp) | exact zJ rfl (fE hs) (by simp) | (simp_all; done))
theorem va_l {kk ks ko known : Int} {fs : List (List Dp)} {rs : List D} {best b0 : List FactT} {some s0 : List Bool} {f f0 : FactT} {x : Int} (hlt : decide (x < if false = true then if 1024 > f.til then 1024 else f.til else if 1024 < f.til then 1024 else f.til) = false) : (CW B7 Γ0 (vaH kk ks ko known fs rs b0 s0 .ready [.var (f0.row.map .p)]) true (sub CA 1) (vaS kk ks ko known fs rs best some f x) (.exit 2) { t := mkT 63 0 [], h := vaH kk ks ko known fs rs best some .busy [.var (f.row.map .p), .var (f.row.map .p)], m := [] }) := by
 let v0 : List D := [int f.kind, int f.sub, int f.obj, int f.value, int f.frm, int f.til, int f.known, int f.no]
 exact Ct (Cu (s' := { t := mkT 63 0 [], h := [.var [int kk, int ks, int ko], .var rs, .var (Cm (b6 best)), .var (Cm (cx some)), .var [ab fs], .var [int kk, int ks, int ko], .var [int known], .defd, .loop DP none 0 (mkT 63 0 [(6, .ref (.ptr 1 0)), (7, .ref (.ptr 2 0)), (8, .ref (.ptr 3 0)), (15, Dm (CG 178) [] [.ref (.ptr 4 0), .ref (.ptr 5 0), .ref (.ptr 6 0)])]) { toList := [16] } (aI (sub CA 0)) (ar (sub CA 0)), .var v0, .var v0], m := [] }) (e := CE 2) pok [.st (.mask [])] [.b false] (by kernel_rfl) (.c hlt .n)) (by rfl) (by rfl)
abbrev VS := List FactT × List Bool
def VS.ok (s : VS) : Prop := s.1.length = 1024 ∧ s.2.length = 1024
def tP (f : FactT) : Int := if f.til < 1024 then f.til else 1024
def eS (f : FactT) (s : VS) (n : Nat) : VS := bif vaHit f (s.1.getD n default) (s.2.getD n false) then (s.1.set n f, s.2.set n true) else s
def wl (f : FactT) (x : Int) (s : VS) : VS := (Dx x.toNat (tP f - x).toNat).foldl (eS f) s
theorem vaStep_ok {f : FactT} {s : VS} (n : Nat) (h : s.ok) : (eS f s n).ok := by
 unfold eS
 cases vaHit f (s.1.getD n default) (s.2.getD n false)
 ·exact h
 ·exact ⟨by simpa using h.1, by simpa using h.2⟩
theorem wm (f : FactT) : (if false = true then if 1024 > f.til then 1024 else f.til else if 1024 < f.til then 1024 else f.til) = tP f := by
 unfold tP; simp; split <;> split <;> omega
theorem va_cw {kk ks ko known : Int} {fs : List (List Dp)} {rs : List D} {best b0 : List FactT} {some s0 : List Bool} {f f0 : FactT} {x : Int} (hx : 0 ≤ x) (ho : VS.ok (best, some)) :
  CW B7 Γ0 (vaH kk ks ko known fs rs b0 s0 .ready [.var (f0.row.map .p)]) true (.loop (sub CA 1)) (vaS kk ks ko known fs rs best some f x) (.exit 2) { t := mkT 63 0 [], h := vaH kk ks ko known fs rs (wl f x (best, some)).1 (wl f x (best, some)).2 .busy [.var (f.row.map .p), .var (f.row.map .p)], m := [] } := by
 have hx' : ((x.toNat : Nat) : Int) = x := by omega
 have hh : tP f ≤ 1024 := by unfold tP; split <;> omega
 have := Eo (P := B7) (Γ := Γ0) (h0 := vaH kk ks ko known fs rs b0 s0 .ready [.var (f0.row.map .p)]) (rd := true) (c := sub CA 1) (σ := VS) (ρ := Empty) (Dx x.toNat (tP f - x).toNat) (fun n s => .inl (eS f s n))
  (fun i s => vaS kk ks ko known fs rs s.1 s.2 f (x + (i : Int))) (.exit 2) (fun s => { t := mkT 63 0 [], h := vaH kk ks ko known fs rs s.1 s.2 .busy [.var (f.row.map .p), .var (f.row.map .p)], m := [] }) (fun r => r.elim)
  (fun _ s => s.ok) (by simp) (fun r => r.elim) ?_ ?_ (best, some) ho
 ·rw [bw (fun s n => eS f s n)] at this
  simpa [bn, wl] using this
 ·intro i n s hn hs
  obtain ⟨hi, he⟩ := Ce.1 hn
  simp only [HO] at hi
  simp only [HE, Gl] at he
  have hlt : (n : Int) < tP f := by omega
  have hb : s.1[n]? = .some (s.1.getD n default) := by
   rw [Cl, Cv (by rw [hs.1]; omega)]; rfl
  have hc : s.2[n]? = .some (s.2.getD n false) := by
   rw [Cl, Cv (by rw [hs.2]; omega)]; rfl
  refine ⟨fun s' h => by cases h; exact vaStep_ok n hs, ?_⟩
  have key := va_b (kk := kk) (ks := ks) (ko := ko) (known := known) (fs := fs) (rs := rs) (b0 := b0) (s0 := s0) (f := f) (f0 := f0) hb hc (by simp [inR]; omega) (by rw [wm]; simpa using hlt)
  rw [wrap_i64 (by omega) (by omega)] at key
  have e1 : x + (i : Int) = (n : Int) := by omega
  have e2 : x + ((i + 1 : Nat) : Int) = (n : Int) + 1 := by omega
  simp only [ad, e1, e2]
  unfold eS
  cases hq : vaHit f (s.1.getD n default) (s.2.getD n false) <;> rw [hq] at key <;> exact key
 ·intro s _
  refine va_l ?_
  rw [wm]
  simp
  omega
theorem Bk {kk ks ko known : Int} {fs : List (List Dp)} {rs : List D} {best : List FactT} {some : List Bool} (ho : VS.ok (best, some)) {f : FactT} : (CW B7 Γ0 (vaH kk ks ko known fs rs best some .ready [.var (f.row.map .p)]) true (ar (sub CA 0)) { t := vaU, h := vaH kk ks ko known fs rs best some .busy [.var (f.row.map .p), .var (f.row.map .p)], m := [] } .normal { t := mkT 63 0 [], h := vaH kk ks ko known fs rs (wl f (if true = true then if f.frm > 0 then f.frm else 0 else if f.frm < 0 then f.frm else 0) (best, some)).1 (wl f (if true = true then if f.frm > 0 then f.frm else 0 else if f.frm < 0 then f.frm else 0) (best, some)).2 .busy [.var (f.row.map .p), .var (f.row.map .p)], m := [] }) := by
 have hl0 := (@va_cw (kk) (ks) (ko) (known) (fs) (rs) (best) (best) (some) (some) (f) (f) (if true = true then if f.frm > 0 then f.frm else 0 else if f.frm < 0 then f.frm else 0) (by first | assumption | (simp; split <;> omega) | (simp; done)) (ho))
 let v1 : List D := [int f.kind, int f.sub, int f.obj, int f.value, int f.frm, int f.til, int f.known, int f.no]
 let v0 : List Blk := [.var [int kk, int ks, int ko], .var rs, .var (Cm (b6 (wl f (if true = true then if f.frm > 0 then f.frm else 0 else if f.frm < 0 then f.frm else 0) (best, some)).fst)), .var (Cm (cx (wl f (if true = true then if f.frm > 0 then f.frm else 0 else if f.frm < 0 then f.frm else 0) (best, some)).snd)), .var [ab fs], .var [int kk, int ks, int ko], .var [int known], .defd, .loop DP none 0 (mkT 63 0 [(6, .ref (.ptr 1 0)), (7, .ref (.ptr 2 0)), (8, .ref (.ptr 3 0)), (15, Dm (CG 178) [] [.ref (.ptr 4 0), .ref (.ptr 5 0), .ref (.ptr 6 0)])]) { toList := [16] } (aI (sub CA 0)) (ar (sub CA 0)), .var v1, .var v1]
 exact Ct (Cu (s' := { t := mkT 63 0 [], h := v0, m := [] }) (e := Cq) pok [.st (.mask [])] [.sum [6, 7, 8, 9, 10] (CE 2) { t := mkT 63 0 [], h := v0, m := [] }] (by kernel_rfl) (.c hl0 .n)) (by rfl) (by rfl)
end Go.Vi
open Go Go.Proofs
namespace Go.Vi
set_option maxRecDepth 100000
set_option maxHeartbeats 4000000
def Bl (f : FactT) : Int := if true = true then if f.frm > 0 then f.frm else 0 else if f.frm < 0 then f.frm else 0
def vaF (f : FactT) (s : VS) : VS := wl f (Bl f) s
theorem Bm {f : FactT} {x : Int} {s : VS} (h : s.ok) : (wl f x s).ok := by
 unfold wl
 generalize Dx x.toNat (tP f - x).toNat = l
 induction l generalizing s with
 | nil => exact h
 | cons n l ih => exact ih (vaStep_ok n h)
theorem Bn {kk ks ko known : Int} {fs : List (List Dp)} {rs : List D} {best : List FactT} {some : List Bool} (ho : VS.ok (best, some)) {f : FactT} : Iv B7 Γ0 (.ref (.yl 8)) [ag f.row] (vaH kk ks ko known fs rs best some .ready [.var (f.row.map .p)]) (bool true) (vaH kk ks ko known fs rs (vaF f (best, some)).1 (vaF f (best, some)).2 .ready [.var (f.row.map .p), .var (f.row.map .p)]) :=
 Iv.round (h1 := vaH kk ks ko known fs rs best some .ready [.var (f.row.map .p), .var (f.row.map .p)]) rfl rfl va_asg rfl (Bk ho) rfl
def vaGo (kk ks ko known : Int) (s : VS) (f : FactT) : VS := bif ofIs kk ks ko known f then vaF f s else s
theorem gV {n : Nat} : ∀ {es : List (List D)}, (∀ r ∈ es, CT n r = true) → CT n es.flatten = true
 | [], _ => rfl
 | e :: es, h => by
  have key : ∀ (xs ys : List D), CT n xs = true → CT n ys = true → CT n (xs ++ ys) = true := by
   intro xs ys h1 h2
   induction xs with
   | nil => exact h2
   | cons x xs ih => simp only [CT, Bool.and_eq_true, FV] at h1 ⊢; exact ⟨h1.1, ih h1.2⟩
  rw [C7]
  exact key _ _ (h e (by simp)) (gV fun r hr => h r (by simp [hr]))
theorem nG {n : Nat} {l : List FactT} : Cz n (.var (b6 l).flatten) = true := gV fun r hr => by obtain ⟨_, _, rfl⟩ := CC.1 hr; rfl
theorem nH {n : Nat} {l : List Bool} : Cz n (.var (cx l).flatten) = true := gV fun r hr => by obtain ⟨_, _, rfl⟩ := CC.1 hr; rfl
theorem ga {n : Nat} {l : List Int} : Cz n (.var (ba l).flatten) = true := gV fun r hr => by obtain ⟨_, _, rfl⟩ := CC.1 hr; rfl
theorem vo_body {kk ks ko known : Int} {fs : List (List Dp)} {rs : List Int} {best b0 : List FactT} {some s0 : List Bool} (ho : VS.ok (best, some)) {f : FactT} {i : Nat} (hr : aH (i : Int) fs f.row 8) (hlt : decide ((i : Int) < (fs.length : Int)) = true) (hw : B8.wrap ((i : Int) + 1) = ((i + 1 : Nat) : Int)) : (CW B7 Γ0 (vaH kk ks ko known fs (ba rs).flatten b0 s0 .ready []) false (sub FE 0) { t := ofT fs i, h := vaH kk ks ko known fs (ba rs).flatten best some .ready [], m := [] } .normal { t := ofT fs ((i + 1 : Nat) : Int), h := vaH kk ks ko known fs (ba rs).flatten (vaGo kk ks ko known (best, some) f).1 (vaGo kk ks ko known (best, some) f).2 .ready [], m := [] }) := by
 cases hc0 : f.kind == kk && (f.sub == ks && (f.obj == ko && true))
 ·refine Ct (Cu (s' := { t := mkT 30 0 [(0, .ref (.yl 8)), (1, .ref (.ptr 4 0)), (2, .ref (.ptr 5 0)), (3, .ref (.ptr 6 0)), (7, ab fs), (8, int (↑(Cb fs) : Int)), (9, int (Cc B8 ((↑i : Int) + 1)))], h := [.var [int kk, int ks, int ko], .var (Cm (ba rs)), .var (Cm (b6 best)), .var (Cm (cx some)), .var [ab fs], .var [int kk, int ks, int ko], .var [int known], .defd, .loop CM none 0 (mkT 63 0 [(6, .ref (.ptr 1 0)), (7, .ref (.ptr 2 0)), (8, .ref (.ptr 3 0)), (15, Dm (CG 178) [] [.ref (.ptr 4 0), .ref (.ptr 5 0), .ref (.ptr 6 0)])]) { toList := [16] } (aI (sub CA 0)) (ar (sub CA 0))], m := [] }) (e := Cq) pok [.st (.mask [0, 1, 2, 3, 7, 8, 9]), .st (.trimV 9)] [.b true, .row [vi f.kind, vi f.sub, vi f.obj, vi f.value, vi f.frm, vi f.til, vi f.known, vi f.no], .g false, .g false, .g false, .g false, .ov 22 (bool false), .g false, .g false, .g false, .g false, .ov 28 (bool false), .b false] (by kernel_rfl) (.c hlt (.c hr (.c (show ((f.kind == kk && (f.sub == ks && (f.obj == ko && true))) == true) = false from (by rw [hc0]; rfl)) (.c (show ((f.kind == kk && (f.sub == ks && (f.obj == ko && true))) == true) = false from (by rw [hc0]; rfl)) (.c (show ((f.kind == kk && (f.sub == ks && (f.obj == ko && true))) == true) = false from (by rw [hc0]; rfl)) (.c (show ((f.kind == kk && (f.sub == ks && (f.obj == ko && true))) == true) = false from (by rw [hc0]; rfl)) (.c (show ae (bool (f.kind == kk && (f.sub == ks && (f.obj == ko && true)))) (D.p (Dp.v (Dd { toList := [] }))) (bool false) (bool false) from (ai hc0 rfl)) (.c (show (false == true) = false from rfl) (.c (show (false == true) = false from rfl) (.c (show (false == true) = false from rfl) (.c (show (false == true) = false from rfl) (.c (show ae (bool false) (D.p (Dp.v (Dd { toList := [] }))) (bool false) (bool false) from (ai rfl rfl)) (.c (show false = false from rfl) (.c (show Cz 9 (.var [int kk, int ks, int ko]) = true from rfl) (.c (show Cz 9 (.var (Cm (ba rs))) = true from ?_) (.c (show Cz 9 (.var (Cm (b6 best))) = true from ?_) (.c (show Cz 9 (.var (Cm (cx some))) = true from ?_) (.c (show Cz 9 (.var [ab fs]) = true from rfl) (.c (show Cz 9 (.var [int kk, int ks, int ko]) = true from rfl) (.c (show Cz 9 (.var [int known]) = true from rfl) (.c (show Cz 9 .defd = true from rfl) (.c (show Cz 9 (.loop CM none 0 (mkT 63 0 [(6, .ref (.ptr 1 0)), (7, .ref (.ptr 2 0)), (8, .ref (.ptr 3 0)), (15, Dm (CG 178) [] [.ref (.ptr 4 0), .ref (.ptr 5 0), .ref (.ptr 6 0)])]) { toList := [16] } (aI (sub CA 0)) (ar (sub CA 0))) = true from rfl) .n))))))))))))))))))))))) (by first | rfl | (simp only [hw, vaGo, ofIs, keyIs, hc0, Cw, Cs, CN, CO, cond_true, cond_false]; rfl)) (by first | rfl | (simp only [hw, vaGo, ofIs, keyIs, hc0, Cs, cond_false]; rfl)) <;> (first | assumption | rfl | exact nG | exact nH | exact ga | (simp_all; done))
 ·cases hc1 : decide (f.known ≤ known)
  ·refine Ct (Cu (s' := { t := mkT 30 0 [(0, .ref (.yl 8)), (1, .ref (.ptr 4 0)), (2, .ref (.ptr 5 0)), (3, .ref (.ptr 6 0)), (7, ab fs), (8, int (↑(Cb fs) : Int)), (9, int (Cc B8 ((↑i : Int) + 1)))], h := [.var [int kk, int ks, int ko], .var (Cm (ba rs)), .var (Cm (b6 best)), .var (Cm (cx some)), .var [ab fs], .var [int kk, int ks, int ko], .var [int known], .defd, .loop CM none 0 (mkT 63 0 [(6, .ref (.ptr 1 0)), (7, .ref (.ptr 2 0)), (8, .ref (.ptr 3 0)), (15, Dm (CG 178) [] [.ref (.ptr 4 0), .ref (.ptr 5 0), .ref (.ptr 6 0)])]) { toList := [16] } (aI (sub CA 0)) (ar (sub CA 0))], m := [] }) (e := Cq) pok [.st (.mask [0, 1, 2, 3, 7, 8, 9]), .st (.trimV 9)] [.b true, .row [vi f.kind, vi f.sub, vi f.obj, vi f.value, vi f.frm, vi f.til, vi f.known, vi f.no], .g true, .g true, .g true, .g true, .ov 22 (bool (decide (f.known ≤ known))), .g false, .g false, .g false, .g false, .ov 28 (bool false), .b false] (by kernel_rfl) (.c hlt (.c hr (.c (show ((f.kind == kk && (f.sub == ks && (f.obj == ko && true))) == true) = true from (by rw [hc0]; rfl)) (.c (show ((f.kind == kk && (f.sub == ks && (f.obj == ko && true))) == true) = true from (by rw [hc0]; rfl)) (.c (show ((f.kind == kk && (f.sub == ks && (f.obj == ko && true))) == true) = true from (by rw [hc0]; rfl)) (.c (show ((f.kind == kk && (f.sub == ks && (f.obj == ko && true))) == true) = true from (by rw [hc0]; rfl)) (.c (show ae (bool (f.kind == kk && (f.sub == ks && (f.obj == ko && true)))) (bool (decide (f.known ≤ known))) (bool false) (bool (decide (f.known ≤ known))) from (af hc0 rfl)) (.c (show (decide (f.known ≤ known) == true) = false from (by rw [hc1]; rfl)) (.c (show (decide (f.known ≤ known) == true) = false from (by rw [hc1]; rfl)) (.c (show (decide (f.known ≤ known) == true) = false from (by rw [hc1]; rfl)) (.c (show (decide (f.known ≤ known) == true) = false from (by rw [hc1]; rfl)) (.c (show ae (bool (decide (f.known ≤ known))) (D.p (Dp.v (Dd { toList := [] }))) (bool false) (bool false) from (ai hc1 rfl)) (.c (show false = false from rfl) (.c (show Cz 9 (.var [int kk, int ks, int ko]) = true from rfl) (.c (show Cz 9 (.var (Cm (ba rs))) = true from ?_) (.c (show Cz 9 (.var (Cm (b6 best))) = true from ?_) (.c (show Cz 9 (.var (Cm (cx some))) = true from ?_) (.c (show Cz 9 (.var [ab fs]) = true from rfl) (.c (show Cz 9 (.var [int kk, int ks, int ko]) = true from rfl) (.c (show Cz 9 (.var [int known]) = true from rfl) (.c (show Cz 9 .defd = true from rfl) (.c (show Cz 9 (.loop CM none 0 (mkT 63 0 [(6, .ref (.ptr 1 0)), (7, .ref (.ptr 2 0)), (8, .ref (.ptr 3 0)), (15, Dm (CG 178) [] [.ref (.ptr 4 0), .ref (.ptr 5 0), .ref (.ptr 6 0)])]) { toList := [16] } (aI (sub CA 0)) (ar (sub CA 0))) = true from rfl) .n))))))))))))))))))))))) (by first | rfl | (simp only [hw, vaGo, ofIs, keyIs, hc0, hc1, Cw, Cs, CN, CO, cond_true, cond_false]; rfl)) (by first | rfl | (simp only [hw, vaGo, ofIs, keyIs, hc0, hc1, Cw, cond_false]; rfl)) <;> (first | assumption | rfl | exact nG | exact nH | exact ga | (simp_all; done))
  ·let v0 := Cm (b6 (vaF f (best, some)).fst)
   let v1 := Cm (cx (vaF f (best, some)).snd)
   let v2 : List D := [.ref (.ptr 4 0), .ref (.ptr 5 0), .ref (.ptr 6 0)]
   let v3 : List D := [int f.kind, int f.sub, int f.obj, int f.value, int f.frm, int f.til, int f.known, int f.no]
   refine Ct (Cu (s' := { t := mkT 30 0 [(0, .ref (.yl 8)), (1, .ref (.ptr 4 0)), (2, .ref (.ptr 5 0)), (3, .ref (.ptr 6 0)), (7, ab fs), (8, int (↑(Cb fs) : Int)), (9, int (Cc B8 ((↑i : Int) + 1)))], h := [.var [int kk, int ks, int ko], .var (Cm (ba rs)), .var v0, .var v1, .var [ab fs], .var [int kk, int ks, int ko], .var [int known], .defd, .loop CM none 0 (mkT 63 0 [(6, .ref (.ptr 1 0)), (7, .ref (.ptr 2 0)), (8, .ref (.ptr 3 0)), (15, Dm (CG 178) [] v2)]) { toList := [16] } (aI (sub CA 0)) (ar (sub CA 0))], m := [] }) (e := Cq) pok [.st (.mask [0, 1, 2, 3, 7, 8, 9]), .st (.trimV 9)] [.b true, .row [vi f.kind, vi f.sub, vi f.obj, vi f.value, vi f.frm, vi f.til, vi f.known, vi f.no], .g true, .g true, .g true, .g true, .ov 22 (bool (decide (f.known ≤ known))), .g true, .g true, .g true, .inv (bool true) [.var [int kk, int ks, int ko], .var (Cm (ba rs)), .var v0, .var v1, .var [ab fs], .var [int kk, int ks, int ko], .var [int known], .defd, .loop CM none 0 (mkT 63 0 [(6, .ref (.ptr 1 0)), (7, .ref (.ptr 2 0)), (8, .ref (.ptr 3 0)), (15, Dm (CG 178) [] v2)]) { toList := [16] } (aI (sub CA 0)) (ar (sub CA 0)), .var v3, .var v3], .g true, .ov 28 (bool !true), .b false] (by kernel_rfl) (.c hlt (.c hr (.c (show ((f.kind == kk && (f.sub == ks && (f.obj == ko && true))) == true) = true from (by subst v0 v1 v2 v3; rw [hc0]; rfl)) (.c (show ((f.kind == kk && (f.sub == ks && (f.obj == ko && true))) == true) = true from (by subst v0 v1 v2 v3; rw [hc0]; rfl)) (.c (show ((f.kind == kk && (f.sub == ks && (f.obj == ko && true))) == true) = true from (by subst v0 v1 v2 v3; rw [hc0]; rfl)) (.c (show ((f.kind == kk && (f.sub == ks && (f.obj == ko && true))) == true) = true from (by subst v0 v1 v2 v3; rw [hc0]; rfl)) (.c (show ae (bool (f.kind == kk && (f.sub == ks && (f.obj == ko && true)))) (bool (decide (f.known ≤ known))) (bool false) (bool (decide (f.known ≤ known))) from (af hc0 rfl)) (.c (show (decide (f.known ≤ known) == true) = true from (by subst v0 v1 v2 v3; rw [hc1]; rfl)) (.c (show (decide (f.known ≤ known) == true) = true from (by subst v0 v1 v2 v3; rw [hc1]; rfl)) (.c (show (decide (f.known ≤ known) == true) = true from (by subst v0 v1 v2 v3; rw [hc1]; rfl)) (.c (@Bn kk ks ko known fs (Cm (ba rs)) best some ho f) (.c (show (decide (f.known ≤ known) == true) = true from (by subst v0 v1 v2 v3; rw [hc1]; rfl)) (.c (show ae (bool (decide (f.known ≤ known))) (bool !true) (bool false) (bool !true) from (af hc1 rfl)) (.c (show (!true) = false from rfl) (.c (show Cz 9 (.var [int kk, int ks, int ko]) = true from rfl) (.c (show Cz 9 (.var (Cm (ba rs))) = true from ?_) (.c (show Cz 9 (.var v0) = true from ?_) (.c (show Cz 9 (.var v1) = true from ?_) (.c (show Cz 9 (.var [ab fs]) = true from rfl) (.c (show Cz 9 (.var [int kk, int ks, int ko]) = true from rfl) (.c (show Cz 9 (.var [int known]) = true from rfl) (.c (show Cz 9 .defd = true from rfl) (.c (show Cz 9 (.loop CM none 0 (mkT 63 0 [(6, .ref (.ptr 1 0)), (7, .ref (.ptr 2 0)), (8, .ref (.ptr 3 0)), (15, Dm (CG 178) [] v2)]) { toList := [16] } (aI (sub CA 0)) (ar (sub CA 0))) = true from rfl) .n)))))))))))))))))))))))) (by subst v0 v1 v2 v3; first | rfl | (simp only [hw, vaGo, ofIs, keyIs, hc0, hc1, Cw, Cs, CN, CO, cond_true, cond_false]; rfl)) (by subst v0 v1 v2 v3; first | rfl | (simp only [hw, vaGo, ofIs, keyIs, hc0, hc1, CO, cond_true]; rfl)) <;> subst v0 v1 v2 v3 <;> (first | assumption | rfl | exact nG | exact nH | exact ga | (simp_all; done))
theorem Bo {kk ks ko known : Int} {fs : List (List Dp)} {rs : List Int} {best b0 : List FactT} {some s0 : List Bool} {i : Nat} (hlt : decide ((i : Int) < (fs.length : Int)) = false) : (CW B7 Γ0 (vaH kk ks ko known fs (ba rs).flatten b0 s0 .ready []) false (sub FE 0) { t := ofT fs i, h := vaH kk ks ko known fs (ba rs).flatten best some .ready [], m := [] } (.exit 0) { t := mkT 30 0 [], h := vaH kk ks ko known fs (ba rs).flatten best some .ready [], m := [] }) := by
 exact Ct (Cu (s' := { t := mkT 30 0 [], h := [.var [int kk, int ks, int ko], .var (Cm (ba rs)), .var (Cm (b6 best)), .var (Cm (cx some)), .var [ab fs], .var [int kk, int ks, int ko], .var [int known], .defd, .loop CM none 0 (mkT 63 0 [(6, .ref (.ptr 1 0)), (7, .ref (.ptr 2 0)), (8, .ref (.ptr 3 0)), (15, Dm (CG 178) [] [.ref (.ptr 4 0), .ref (.ptr 5 0), .ref (.ptr 6 0)])]) { toList := [16] } (aI (sub CA 0)) (ar (sub CA 0))], m := [] }) (e := CE 0) pok [.st (.mask [])] [.b false] (by kernel_rfl) (.c hlt .n)) (by rfl) (by rfl)
theorem vaGo_ok {kk ks ko known : Int} {s : VS} (f : FactT) (h : s.ok) : (vaGo kk ks ko known s f).ok := by
 unfold vaGo
 cases ofIs kk ks ko known f
 ·exact h
 ·exact Bm h
theorem vo_cw {kk ks ko known : Int} {l : List FactT} (hl : am l) {rs : List Int} {b0 : List FactT} {s0 : List Bool} (ho : VS.ok (b0, s0)) :
  CW B7 Γ0 (vaH kk ks ko known (l.map Ch) (ba rs).flatten b0 s0 .ready []) false (.loop (sub FE 0)) { t := ofT (l.map Ch) 0, h := vaH kk ks ko known (l.map Ch) (ba rs).flatten b0 s0 .ready [], m := [] } (.exit 0)
   { t := mkT 30 0 [], h := vaH kk ks ko known (l.map Ch) (ba rs).flatten (l.foldl (vaGo kk ks ko known) (b0, s0)).1 (l.foldl (vaGo kk ks ko known) (b0, s0)).2 .ready [], m := [] } := by
 have := Eo (P := B7) (Γ := Γ0) (h0 := vaH kk ks ko known (l.map Ch) (ba rs).flatten b0 s0 .ready []) (rd := false) (c := sub FE 0) (σ := VS) (ρ := Empty) l (fun f s => .inl (vaGo kk ks ko known s f))
  (fun i s => { t := ofT (l.map Ch) (i : Int), h := vaH kk ks ko known (l.map Ch) (ba rs).flatten s.1 s.2 .ready [], m := [] }) (.exit 0) (fun s => { t := mkT 30 0 [], h := vaH kk ks ko known (l.map Ch) (ba rs).flatten s.1 s.2 .ready [], m := [] }) (fun r => r.elim)
  (fun _ s => s.ok) (by simp) (fun r => r.elim) ?_ ?_ (b0, s0) ho
 ·rw [bw] at this
  exact this
 ·intro i f s hf hs
  have hi := (Ce.1 hf).1
  exact ⟨fun s' h => by cases h; exact vaGo_ok f hs, vo_body hs (rowAt hf rfl) (lt_len _ hi) (wrap_succ hi hl)⟩
 ·intro s _
  exact Bo (bM _ l)
theorem wn {kk ks ko known : Int} {l : List FactT} (hl : am l) {rs : List Int} {b0 : List FactT} {s0 : List Bool} (ho : VS.ok (b0, s0)) : (Ev B7 Γ0 178 [.ref (.yl 8), .ref (.ptr 4 0), .ref (.ptr 5 0), .ref (.ptr 6 0)] (vaH kk ks ko known (l.map Ch) (ba rs).flatten b0 s0 .ready []) (.tup []) (vaH kk ks ko known (l.map Ch) (ba rs).flatten (l.foldl (vaGo kk ks ko known) (b0, s0)).1 (l.foldl (vaGo kk ks ko known) (b0, s0)).2 .ready [])) := by
 have hl0 := (@vo_cw (kk) (ks) (ko) (known) (l) (hl) (rs) (b0) (s0) (ho))
 let v0 : List Blk := [.var [int kk, int ks, int ko], .var (Cm (ba rs)), .var (Cm (b6 (D8 (vaGo kk ks ko known) (b0, s0) l).fst)), .var (Cm (cx (D8 (vaGo kk ks ko known) (b0, s0) l).snd)), .var [ab (B6 Ch l)], .var [int kk, int ks, int ko], .var [int known], .defd, .loop CM none 0 (mkT 63 0 [(6, .ref (.ptr 1 0)), (7, .ref (.ptr 2 0)), (8, .ref (.ptr 3 0)), (15, Dm (CG 178) [] [.ref (.ptr 4 0), .ref (.ptr 5 0), .ref (.ptr 6 0)])]) { toList := [16] } (aI (sub CA 0)) (ar (sub CA 0))]
 exact Ev.castH (Ev.of_sym (h' := v0) (d := D.tup []) pok [.sum [0, 1, 2, 3, 7, 8, 9] (CE 0) { t := mkT 30 0 [], h := v0, m := [] }] (by kernel_rfl) (.c hl0 .n)) (by rfl) (by rfl)
noncomputable abbrev vaH0 (kk ks ko known : Int) (fs : List (List Dp)) (rs : List Int) (best : List FactT) (some : List Bool) : List Blk :=
 [.var [int kk, int ks, int ko], .var (ba rs).flatten, .var (b6 best).flatten, .var (cx some).flatten, .var [ab fs], .var [int kk, int ks, int ko], .var [int known]]
theorem yy {kk ks ko known : Int} {l : List FactT} (hl : am l) {rs : List Int} {b0 : List FactT} {s0 : List Bool} (ho : VS.ok (b0, s0)) : CW B7 Γ0 [] false (sub CA 0) { t := vaT, h := vaH0 kk ks ko known (l.map Ch) rs b0 s0, m := [] } .normal
  { t := vaT, h := vaH kk ks ko known (l.map Ch) (ba rs).flatten (l.foldl (vaGo kk ks ko known) (b0, s0)).1 (l.foldl (vaGo kk ks ko known) (b0, s0)).2 .exhausted [], m := [7] } :=
 CW.rangeFunc (f := 178) (fi := []) (ca := [.ref (.ptr 4 0), .ref (.ptr 5 0), .ref (.ptr 6 0)]) pok (s := { t := vaT, h := vaH0 kk ks ko known (l.map Ch) rs b0 s0, m := [] }) (g := .tmp 15) (ps := #[16]) (asg := aI (sub CA 0)) (body := ar (sub CA 0)) rfl (by kernel_rfl) (wn hl ho) rfl
theorem zK {h : List Blk} {off n : Nat} {l : List FactT} {g : FactT} (hb : h[2]? = some (.var (b6 l).flatten)) (hs : l[n]? = some g) (ho : off = n * 8 + 3) : bD B7 h 3 (.ref (.ptr 2 off)) = some (int g.value) := by
 subst ho
 exact kr (sz := 8) (j := 3) (row := g.row.map .p) (by kernel_rfl) (by kernel_rfl) hb (by simp [Ch]) (by simp [hs]) rfl
theorem sL {h : List Blk} {off n : Nat} {l : List Int} {x : Int} (hb : h[1]? = some (.var (ba l).flatten)) (hn : n < l.length) (ho : off = n * 1) : cb B7 h 3 (.ref (.ptr 1 off)) (int x) = some (h.set 1 (.var (ba (l.set n x)).flatten)) := by
 subst ho
 rw [ku (sz := 1) (new := [int x]) rfl (by kernel_rfl) rfl hb (fun r hr => by obtain ⟨_, _, rfl⟩ := CC.1 hr; rfl) (by simpa using hn), ba, ba, G4]
abbrev maxV (v : Int) : Int := if true = true then if -1 > v then -1 else v else if -1 < v then -1 else v
noncomputable abbrev vlS (kk ks ko known : Int) (fs : List (List Dp)) (rs : List Int) (best : List FactT) (some : List Bool) (i : Int) : AS := { t := mkT 63 0 [(6, .ref (.ptr 1 0)), (7, .ref (.ptr 2 0)), (8, .ref (.ptr 3 0)), (46, int i)], h := vaH kk ks ko known fs (ba rs).flatten best some .exhausted [], m := [7] }
theorem vl_b {kk ks ko known : Int} {fs : List (List Dp)} {rs : List Int} {best : List FactT} {some : List Bool} {g : FactT} {n : Nat} {b : Bool} (hb : best[n]? = .some g) (hs : some[n]? = .some b) (hn : inR (n : Int) 1024 = true) (hr : n < rs.length) (hlt : decide ((n : Int) < 1024) = true) : (CW B7 Γ0 [] false (sub CA 2) (vlS kk ks ko known fs rs best some (n : Int)) .normal (vlS kk ks ko known fs (bif b then (rs.set n (-1)).set n (maxV g.value) else rs.set n (-1)) best some (B8.wrap ((n : Int) + 1)))) := by
 cases hc0 : b
 ·let v0 : List Blk := [.var [int kk, int ks, int ko], .var (Cm (ba (Ep rs n (-1)))), .var (Cm (b6 best)), .var (Cm (cx some)), .var [ab fs], .var [int kk, int ks, int ko], .var [int known], .defd, .loop C2 none 0 (mkT 63 0 [(6, .ref (.ptr 1 0)), (7, .ref (.ptr 2 0)), (8, .ref (.ptr 3 0)), (15, Dm (CG 178) [] [.ref (.ptr 4 0), .ref (.ptr 5 0), .ref (.ptr 6 0)])]) { toList := [16] } (aI (sub CA 0)) (ar (sub CA 0))]
  refine Ct (Cu (s' := { t := mkT 63 0 [(6, .ref (.ptr 1 0)), (7, .ref (.ptr 2 0)), (8, .ref (.ptr 3 0)), (46, int (Cc B8 ((↑n : Int) + 1)))], h := v0, m := [7] }) (e := Cq) pok [.st (.mask [6, 7, 8, 46])] [.b true, .oh 10050 EB (vaH kk ks ko known fs (Cm (ba (Ep rs n (-1)))) best some C2 []), .ov 53 (bool b), .b false] (by kernel_rfl) (.c hlt (.c hn (.c (show cb B7 [.var [int kk, int ks, int ko], .var (Cm (ba rs)), .var (Cm (b6 best)), .var (Cm (cx some)), .var [ab fs], .var [int kk, int ks, int ko], .var [int known], .defd, .loop C2 none 0 (mkT 63 0 [(6, .ref (.ptr 1 0)), (7, .ref (.ptr 2 0)), (8, .ref (.ptr 3 0)), (15, Dm (CG 178) [] [.ref (.ptr 4 0), .ref (.ptr 5 0), .ref (.ptr 6 0)])]) { toList := [16] } (aI (sub CA 0)) (ar (sub CA 0))] 3 (.ref (.ptr 1 (0 + Cf (↑n : Int) * 1))) (evalD Γ0 (mkT 63 0 [(6, .ref (.ptr 1 0)), (7, .ref (.ptr 2 0)), (8, .ref (.ptr 3 0)), (11, int (↑n : Int)), (46, int (↑n : Int)), (47, bool (decide ((↑n : Int) < 1024))), (48, int (↑n : Int)), (49, int (↑n : Int)), (50, .ref (.ptr 1 (0 + Cf (↑n : Int) * 1)))]) (Gt (Value.int B8 (-1)))) = DW v0 from ?_) (.c hn (.c (show bD B7 v0 4 (.ref (.ptr 3 (0 + Cf (↑n : Int) * 1))) = DW (bool b) from ?_) (.c hc0 .n))))))) (by subst v0; first | rfl | (simp only [hc0, cond_true, cond_false]; first | done | rfl)) (by subst v0; first | rfl | (simp only [hc0, cond_true, cond_false]; first | done | rfl)) <;> subst v0 <;> (first | assumption | rfl | exact nF rfl hs (by simp) | exact zK rfl hb (by simp) | exact sL rfl hr (by simp) | exact sL rfl (by simpa using hr) (by simp) | (simp_all; done))
 ·let v2 : List D := [.ref (.ptr 4 0), .ref (.ptr 5 0), .ref (.ptr 6 0)]
  let v3 := Cm (ba (Ep (Ep rs n (-1)) n (maxV g.value)))
  let v4 := Cm (b6 best)
  let v5 := Cm (cx some)
  let v0 : List Blk := [.var [int kk, int ks, int ko], .var (Cm (ba (Ep rs n (-1)))), .var v4, .var v5, .var [ab fs], .var [int kk, int ks, int ko], .var [int known], .defd, .loop C2 none 0 (mkT 63 0 [(6, .ref (.ptr 1 0)), (7, .ref (.ptr 2 0)), (8, .ref (.ptr 3 0)), (15, Dm (CG 178) [] v2)]) { toList := [16] } (aI (sub CA 0)) (ar (sub CA 0))]
  let v1 : List Blk := [.var [int kk, int ks, int ko], .var v3, .var v4, .var v5, .var [ab fs], .var [int kk, int ks, int ko], .var [int known], .defd, .loop C2 none 0 (mkT 63 0 [(6, .ref (.ptr 1 0)), (7, .ref (.ptr 2 0)), (8, .ref (.ptr 3 0)), (15, Dm (CG 178) [] v2)]) { toList := [16] } (aI (sub CA 0)) (ar (sub CA 0))]
  refine Ct (Cu (s' := { t := mkT 63 0 [(6, .ref (.ptr 1 0)), (7, .ref (.ptr 2 0)), (8, .ref (.ptr 3 0)), (46, int (Cc B8 ((↑n : Int) + 1)))], h := v1, m := [7] }) (e := Cq) pok [.st (.mask [6, 7, 8, 46])] [.b true, .oh 10050 EB (vaH kk ks ko known fs (Cm (ba (Ep rs n (-1)))) best some C2 []), .ov 53 (bool b), .b true, .ov 58 (int g.value), .oh 10060 EB (vaH kk ks ko known fs v3 best some C2 [])] (by kernel_rfl) (.c hlt (.c hn (.c (show cb B7 [.var [int kk, int ks, int ko], .var (Cm (ba rs)), .var v4, .var v5, .var [ab fs], .var [int kk, int ks, int ko], .var [int known], .defd, .loop C2 none 0 (mkT 63 0 [(6, .ref (.ptr 1 0)), (7, .ref (.ptr 2 0)), (8, .ref (.ptr 3 0)), (15, Dm (CG 178) [] v2)]) { toList := [16] } (aI (sub CA 0)) (ar (sub CA 0))] 3 (.ref (.ptr 1 (0 + Cf (↑n : Int) * 1))) (evalD Γ0 (mkT 63 0 [(6, .ref (.ptr 1 0)), (7, .ref (.ptr 2 0)), (8, .ref (.ptr 3 0)), (11, int (↑n : Int)), (46, int (↑n : Int)), (47, bool (decide ((↑n : Int) < 1024))), (48, int (↑n : Int)), (49, int (↑n : Int)), (50, .ref (.ptr 1 (0 + Cf (↑n : Int) * 1)))]) (Gt (Value.int B8 (-1)))) = DW v0 from ?_) (.c hn (.c (show bD B7 v0 4 (.ref (.ptr 3 (0 + Cf (↑n : Int) * 1))) = DW (bool b) from ?_) (.c hc0 (.c hn (.c (show bD B7 v0 3 (.ref (.ptr 2 (0 + Cf (↑n : Int) * 8 + 3))) = DW (int g.value) from ?_) (.c hn (.c (show cb B7 v0 3 (.ref (.ptr 1 (0 + Cf (↑n : Int) * 1))) (int (if true = true then if -1 > g.value then -1 else g.value else if -1 < g.value then -1 else g.value)) = DW v1 from ?_) .n))))))))))) (by subst v2 v3 v4 v5 v0 v1; first | rfl | (simp only [hc0, cond_true, cond_false]; first | done | rfl)) (by subst v2 v3 v4 v5 v0 v1; first | rfl | (simp only [hc0, cond_true, cond_false]; first | done | rfl)) <;> subst v2 v3 v4 v5 v0 v1 <;> (first | assumption | rfl | exact nF rfl hs (by simp) | exact zK rfl hb (by simp) | exact sL rfl hr (by simp) | exact sL rfl (by simpa using hr) (by simp) | (simp_all; done))
theorem Bp {kk ks ko known : Int} {fs : List (List Dp)} {rs : List Int} {best : List FactT} {some : List Bool} : (CW B7 Γ0 [] false (sub CA 2) (vlS kk ks ko known fs rs best some 1024) (.exit 4) { t := mkT 63 0 [(6, .ref (.ptr 1 0))], h := vaH kk ks ko known fs (ba rs).flatten best some .exhausted [], m := [7] }) := by
 exact Ct (Cu (s' := { t := mkT 63 0 [(6, .ref (.ptr 1 0))], h := [.var [int kk, int ks, int ko], .var (Cm (ba rs)), .var (Cm (b6 best)), .var (Cm (cx some)), .var [ab fs], .var [int kk, int ks, int ko], .var [int known], .defd, .loop C2 none 0 (mkT 63 0 [(6, .ref (.ptr 1 0)), (7, .ref (.ptr 2 0)), (8, .ref (.ptr 3 0)), (15, Dm (CG 178) [] [.ref (.ptr 4 0), .ref (.ptr 5 0), .ref (.ptr 6 0)])]) { toList := [16] } (aI (sub CA 0)) (ar (sub CA 0))], m := [7] }) (e := CE 4) pok [.st (.mask [6])] [.b false] (by kernel_rfl) (.c (show decide (1024 < 1024) = false from rfl) .n)) (by rfl) (by rfl)
def vlStep (s : VS) (rs : List Int) (n : Nat) : List Int := bif s.2.getD n false then (rs.set n (-1)).set n (maxV (s.1.getD n default).value) else rs.set n (-1)
def pv (s : VS) (rs : List Int) : List Int := (C1 1024).foldl (vlStep s) rs
theorem vl_cw {kk ks ko known : Int} {fs : List (List Dp)} {rs : List Int} {best : List FactT} {some : List Bool} (ho : VS.ok (best, some)) (hr : rs.length = 1024) :
  CW B7 Γ0 [] false (.loop (sub CA 2)) (vlS kk ks ko known fs rs best some 0) (.exit 4) { t := mkT 63 0 [(6, .ref (.ptr 1 0))], h := vaH kk ks ko known fs (ba (pv (best, some) rs)).flatten best some .exhausted [], m := [7] } := by
 have := Eo (P := B7) (Γ := Γ0) (h0 := []) (rd := false) (c := sub CA 2) (σ := List Int) (ρ := Empty) (C1 1024) (fun n rs => .inl (vlStep (best, some) rs n))
  (fun i rs => vlS kk ks ko known fs rs best some (i : Int)) (.exit 4) (fun rs => { t := mkT 63 0 [(6, .ref (.ptr 1 0))], h := vaH kk ks ko known fs (ba rs).flatten best some .exhausted [], m := [7] }) (fun r => r.elim)
  (fun _ rs => rs.length = 1024) (by simp) (fun r => r.elim) ?_ ?_ rs hr
 ·rw [bw (fun rs n => vlStep (best, some) rs n)] at this
  exact this
 ·intro i n rs hn hs
  obtain ⟨hi, he⟩ := Ce.1 hn
  simp only [List.length_range] at hi
  simp only [List.getElem_range] at he
  subst he
  have hb : best[i]? = .some (best.getD i default) := by
   rw [Cl, Cv (by rw [ho.1]; omega)]; rfl
  have hc : some[i]? = .some (some.getD i false) := by
   rw [Cl, Cv (by rw [ho.2]; omega)]; rfl
  refine ⟨fun s' h => by cases h; unfold vlStep; cases some.getD i false <;> simp [hs], ?_⟩
  have key := vl_b (kk := kk) (ks := ks) (ko := ko) (known := known) (fs := fs) (rs := rs) hb hc (by simp [inR]; omega) (by omega) (by simp; omega)
  rw [wrap_i64 (by omega) (by omega)] at key
  simp only [ad]
  unfold vlStep
  cases hq : some.getD i false <;> rw [hq] at key <;> exact key
 ·intro rs _
  simp only [List.length_range]
  exact Bp
end Go.Vi
open Go Go.Proofs
namespace Go.Vi
set_option maxRecDepth 100000
set_option maxHeartbeats 4000000
theorem wo {h : List Blk} {l : List Int} (hb : h[1]? = some (.var (ba l).flatten)) (hl : l.length = 1024) : bD B7 h 215 (.ref (.ptr 1 0)) = some (.agg (ba l).flatten) :=
 xZ (by kernel_rfl) (by rw [eG (sz := 1) (ba l) (fun r hr => by obtain ⟨_, _, rfl⟩ := CC.1 hr; rfl)]; simp only [ba, DR, hl]; kernel_rfl) hb
theorem pw {l : List Int} : (Db (ba l).flatten).cells = some (ba l).flatten := by
 have : (ba l).flatten.all D.one = true := by
  rw [CB]
  intro d hd
  obtain ⟨r, hr, hd⟩ := List.mem_flatten.1 hd
  obtain ⟨n, _, rfl⟩ := CC.1 hr
  simp only [List.mem_singleton] at hd
  subst hd; rfl
 simp only [D.cells, this, if_true]
theorem st_int {h : List Blk} {l : List Int} (hb : h[1]? = some (.var (ba l).flatten)) (hl : l.length = 1024) : cb B7 h 215 (.ref (.ptr 1 0)) (.agg (ba l).flatten) = some (h.set 1 (.var (ba l).flatten)) :=
 oY pw (by rw [eG (sz := 1) (ba l) (fun r hr => by obtain ⟨_, _, rfl⟩ := CC.1 hr; rfl)]; simp only [ba, DR, hl]; kernel_rfl) rfl hb
theorem kG {s : VS} {rs : List Int} (h : rs.length = 1024) : (pv s rs).length = 1024 := by
 unfold pv
 generalize C1 1024 = l
 induction l generalizing rs with
 | nil => exact h
 | cons n l ih => exact ih (by unfold vlStep; cases s.2.getD n false <;> simp [h])
noncomputable abbrev vaE (kk ks ko known : Int) (l : List FactT) (rs : List Int) (s : VS) : List Blk := vaH kk ks ko known (l.map Ch) (ba (pv (l.foldl (vaGo kk ks ko known) s) rs)).flatten (l.foldl (vaGo kk ks ko known) s).1 (l.foldl (vaGo kk ks ko known) s).2 .exhausted []
theorem yz {kk ks ko known : Int} {l : List FactT} (hl : am l) {rs : List Int} {b0 : List FactT} {s0 : List Bool} (ho : VS.ok (b0, s0)) (hf : VS.ok (l.foldl (vaGo kk ks ko known) (b0, s0))) (hr : rs.length = 1024) (e1 : cF B7 [.var [int kk, int ks, int ko]] 215 (.ref (.ptr 1 0)) [.var [int kk, int ks, int ko], .var (ba rs).flatten])
  (e2 : cF B7 [.var [int kk, int ks, int ko], .var (ba rs).flatten] 243 (.ref (.ptr 2 0)) [.var [int kk, int ks, int ko], .var (ba rs).flatten, .var (b6 b0).flatten])
  (e3 : cF B7 [.var [int kk, int ks, int ko], .var (ba rs).flatten, .var (b6 b0).flatten] 244 (.ref (.ptr 3 0)) [.var [int kk, int ks, int ko], .var (ba rs).flatten, .var (b6 b0).flatten, .var (cx s0).flatten]) : (CW B7 Γ0 [] false (Ay CA) { t := mkT 63 0 [(0, ab (l.map Ch)), (1, .agg [int kk, int ks, int ko]), (2, int known)], h := [], m := [] } .ret { t := mkT 63 0 [(6, .ref (.ptr 1 0))], h := vaE kk ks ko known l rs (b0, s0), m := [7] }) := by
 have hl0 := (@yy (kk) (ks) (ko) (known) (l) (hl) (rs) (b0) (s0) (ho))
 have hl1 := (@vl_cw (kk) (ks) (ko) (known) (B6 Ch l) (rs) ((D8 (vaGo kk ks ko known) (b0, s0) l).fst) ((D8 (vaGo kk ks ko known) (b0, s0) l).snd) (hf) (hr))
 let v2 := D8 (vaGo kk ks ko known) (b0, s0) l
 let v3 : List Blk := [.var [int kk, int ks, int ko], .var (Cm (ba rs)), .var (Cm (b6 b0))]
 let v4 : List D := [.ref (.ptr 4 0), .ref (.ptr 5 0), .ref (.ptr 6 0)]
 let v5 : List Blk := [.var [int kk, int ks, int ko], .var (Cm (ba rs)), .var (Cm (b6 b0)), .var (Cm (cx s0))]
 let v6 : List Blk := [.var [int kk, int ks, int ko], .var (Cm (ba rs))]
 let v7 := Cm (ba (pv v2 rs))
 let v8 := Cm (b6 v2.fst)
 let v9 := Cm (cx v2.snd)
 let v10 : List D := [ab (B6 Ch l)]
 let v0 : List Blk := [.var [int kk, int ks, int ko], .var (Cm (ba (pv (v2.fst, v2.snd) rs))), .var v8, .var v9, .var v10, .var [int kk, int ks, int ko], .var [int known], .defd, .loop C2 none 0 (mkT 63 0 [(6, .ref (.ptr 1 0)), (7, .ref (.ptr 2 0)), (8, .ref (.ptr 3 0)), (15, Dm (CG 178) [] v4)]) { toList := [16] } (aI (sub CA 0)) (ar (sub CA 0))]
 let v1 : List Blk := [.var [int kk, int ks, int ko], .var v7, .var v8, .var v9, .var v10, .var [int kk, int ks, int ko], .var [int known], .defd, .loop C2 none 0 (mkT 63 0 [(6, .ref (.ptr 1 0)), (7, .ref (.ptr 2 0)), (8, .ref (.ptr 3 0)), (15, Dm (CG 178) [] v4)]) { toList := [16] } (aI (sub CA 0)) (ar (sub CA 0))]
 refine Ct (Cu (s' := { t := mkT 63 0 [(6, .ref (.ptr 1 0))], h := v1, m := [7] }) (e := Exit.ret) pok [.st (.mask [6])] [.oh 6 (.ref (.ptr 1 0)) v6, .oh 7 (.ref (.ptr 2 0)) v3, .oh 8 (.ref (.ptr 3 0)) v5, .inl, .sum [6, 7, 8, 15] (Cq) { t := mkT 63 0 [(6, .ref (.ptr 1 0)), (7, .ref (.ptr 2 0)), (8, .ref (.ptr 3 0)), (15, Dm (CG 178) [] v4)], h := [.var [int kk, int ks, int ko], .var (Cm (ba rs)), .var v8, .var v9, .var v10, .var [int kk, int ks, int ko], .var [int known], .defd, .loop C2 none 0 (mkT 63 0 [(6, .ref (.ptr 1 0)), (7, .ref (.ptr 2 0)), (8, .ref (.ptr 3 0)), (15, Dm (CG 178) [] v4)]) { toList := [16] } (aI (sub CA 0)) (ar (sub CA 0))], m := [7] }, .sum [6, 7, 8, 46] (CE 4) { t := mkT 63 0 [(6, .ref (.ptr 1 0))], h := v0, m := [7] }, .ov 62 (Db v7), .oh 10006 EB (vaE kk ks ko known l rs (b0, s0))] (by kernel_rfl) (.c (show cF B7 [.var [int kk, int ks, int ko]] 215 (.ref (.ptr 1 0)) v6 from ?_) (.c (show cF B7 v6 243 (.ref (.ptr 2 0)) v3 from ?_) (.c (show cF B7 v3 244 (.ref (.ptr 3 0)) v5 from ?_) (.c hl0 (.c hl1 (.c (show bD B7 v0 215 (.ref (.ptr 1 0)) = some (Db v7) from ?_) (.c (show cb B7 v0 215 (.ref (.ptr 1 0)) (Db v7) = some v1 from ?_) .n)))))))) (by rfl) (by rfl) <;> subst v2 v3 v4 v5 v6 v7 v8 v9 v10 v0 v1 <;> (first | assumption | exact wo rfl (kG hr) | exact st_int rfl (kG hr) | (simp_all; done))
theorem Bq {n : Nat} {l : List Int} : D.inn n (.agg (ba l).flatten) = true := ga (n := n) (l := l)
def vZ : VS := (C0 1024 fz, C0 1024 false)
theorem Br : vZ.ok := ⟨by simp [vZ], by simp [vZ]⟩
theorem wp {kk ks ko known : Int} {l : List FactT} {s : VS} (h : s.ok) : (l.foldl (vaGo kk ks ko known) s).ok := by
 induction l generalizing s with
 | nil => exact h
 | cons f l ih => exact ih (vaGo_ok f h)
def bh (kk ks ko known : Int) (l : List FactT) : List Int := pv (l.foldl (vaGo kk ks ko known) vZ) (C0 1024 0)
theorem b9 {kk ks ko known : Int} {l : List FactT} : (bh kk ks ko known l).length = 1024 := kG (by simp)
theorem yA {kk ks ko known : Int} {l : List FactT} (hl : am l) : Ev B7 Γ0 159 [ab (l.map Ch), .agg [int kk, int ks, int ko], int known] [] (.agg (ba (bh kk ks ko known l)).flatten) (nT [7] (vaE kk ks ko known l (C0 1024 0) vZ)) := by
 have hw := yz (kk := kk) (ks := ks) (ko := ko) (known := known) hl (rs := C0 1024 0) (b0 := vZ.1) (s0 := vZ.2) Br (wp Br) (by simp) (by unfold cF; kernel_rfl) (by unfold cF vZ; kernel_rfl) (by unfold cF vZ; kernel_rfl)
 refine Ev.of_cw (fn := CA) (by kernel_rfl) (by kernel_rfl) hw ?_
 have hc : bD B7 (nT [7] (vaE kk ks ko known l (C0 1024 0) vZ)) 215 (.ref (.ptr 1 0)) = some (.agg (ba (bh kk ks ko known l)).flatten) := wo rfl b9
 have hr : bi B7 (mkT 63 0 [(6, .ref (.ptr 1 0))]) (nT [7] (vaE kk ks ko known l (C0 1024 0) vZ)) CA.results.toList = some [.agg (ba (bh kk ks ko known l)).flatten] := by
  show (match ie B7 (mkT 63 0 [(6, .ref (.ptr 1 0))]) (nT [7] (vaE kk ks ko known l (C0 1024 0) vZ)) (.cell 6 215), some [] with
   | some d, some ds => some (d :: ds)
   | _, _ => none) = _
  have : ie B7 (mkT 63 0 [(6, .ref (.ptr 1 0))]) (nT [7] (vaE kk ks ko known l (C0 1024 0) vZ)) (.cell 6 215) = some (.agg (ba (bh kk ks ko known l)).flatten) := hc
  rw [this]
 simp only [finF, pre]
 rw [hr]
 rfl
theorem py {kk ks ko known : Int} {l : List FactT} (hl : am l) (h : List Blk) : Ev B7 Γ0 159 [ab (l.map Ch), .agg [int kk, int ks, int ko], int known] h (.agg (ba (bh kk ks ko known l)).flatten) h :=
 Ev.frame0 rfl (by have := Ev.trim (h := []) (d := .agg (ba (bh kk ks ko known l)).flatten) Bq rfl (yA (kk := kk) (ks := ks) (ko := ko) (known := known) hl); simpa using this) h
end Go.Vi
open Go Go.Proofs
namespace Go.Vi
set_option maxRecDepth 100000
set_option maxHeartbeats 4000000
abbrev ao (rs : List (List Dp)) : List (List D) := rs.map (B6 D.p)
theorem au (rs : List (List Dp)) (f : Ref → D) : (ao rs).map (C6 f) = ao rs := bm f rs
theorem zL (k : Nat) : ∀ r : List Dp, CT k (r.map .p) = true
 | [] => rfl
 | _ :: r => by simp [CT, D.inn, zL k r]
theorem aR (rs : List (List Dp)) (k : Nat) : (ao rs).all (CT k) = true := by
 rw [CB]
 intro r hr
 obtain ⟨x, _, rfl⟩ := CC.1 hr
 exact zL k x
theorem qR {h : List Blk} {l r : List Int} (hb : h[1]? = some (.var (ba r).flatten)) (hr : r.length = 1024) (hl : l.length = 1024) : cb B7 h 215 (.ref (.ptr 1 0)) (.agg (ba l).flatten) = some (h.set 1 (.var (ba l).flatten)) :=
 oY pw (by rw [eG (sz := 1) (ba l) (fun r hr => by obtain ⟨_, _, rfl⟩ := CC.1 hr; rfl)]; simp only [ba, DR, hl]; kernel_rfl)
  (by rw [eG (sz := 1) (ba l) (fun r hr => by obtain ⟨_, _, rfl⟩ := CC.1 hr; rfl), eG (sz := 1) (ba r) (fun r hr => by obtain ⟨_, _, rfl⟩ := CC.1 hr; rfl)]; simp [hl, hr]) hb
structure PtT where
 term : Int
 value : Int
 deriving Inhabited, DecidableEq
def PtT.row (p : PtT) : List Dp := [vi p.term, vi p.value]
theorem wq {h : List Blk} {off n : Nat} {l : List Int} {v : Int} (hb : h[1]? = some (.var (ba l).flatten)) (hs : l[n]? = some v) (ho : off = n * 1) : bD B7 h 3 (.ref (.ptr 1 off)) = some (int v) := by
 subst ho
 exact kr (sz := 1) (j := 0) (row := [int v]) (by kernel_rfl) (by kernel_rfl) hb (fun r hr => by obtain ⟨_, _, rfl⟩ := CC.1 hr; rfl) (by simp [hs]) rfl
noncomputable abbrev ptH (kk ks ko : Int) (rs : List Int) (l : List PtT) : List Blk := [.var [int kk, int ks, int ko], .var (ba rs).flatten, .vec (ao (l.map PtT.row)) 0 2]
noncomputable abbrev ptS (kk ks ko to : Int) (rs : List Int) (l : List PtT) (x : Int) : AS := { t := mkT 38 0 [(3, int to), (10, .ref (.vec 2 0)), (11, .ref (.ptr 1 0)), (12, int x)], h := ptH kk ks ko rs l, m := [] }
theorem dJ (f : Ref → D) (l : List Int) : C6 f (ba l).flatten = (ba l).flatten := by
 induction l with
 | nil => rfl
 | cons n l ih => simp only [ba, Dj, C7, FV, List.nil_append, C6, D.mapR] at ih ⊢; rw [ih]
theorem sM {n : Nat} {l : List Int} {f : Ref → D} : Cz n (.var (C6 f (ba l).flatten)) = true := by rw [dJ]; exact ga
theorem aq {n : Nat} {rs : List (List Dp)} {e sz : Nat} : Cz n (.vec (ao rs) e sz) = true := aR rs n
def ptF (v : Int) (n : Nat) (l : List PtT) : List PtT := bif decide (v ≥ 0) then l ++ [⟨(n : Int), v⟩] else l
theorem bp (l : List PtT) (n : Nat) (v : Int) : ao (l.map PtT.row) ++ [[int (n : Int), int v]] = ao ((l ++ [PtT.mk (n : Int) v]).map PtT.row) := by simp [PtT.row]
theorem pt_b {kk ks ko to : Int} {rs : List Int} {l : List PtT} {n : Nat} {v : Int} (hv : rs[n]? = .some v) (hn : inR (n : Int) 1024 = true) (hl : l.length ≤ 2000) (hlt : decide ((n : Int) < if false = true then if 1024 > to then 1024 else to else if 1024 < to then 1024 else to) = true) (hw : B8.wrap ((n : Int) + 1) = ((n + 1 : Nat) : Int)) : (CW B7 Γ0 [] false (sub GT 0) (ptS kk ks ko to rs l (n : Int)) .normal (ptS kk ks ko to rs (ptF v n l) ((n + 1 : Nat) : Int))) := by
 cases hc0 : decide (v ≥ 0)
 ·refine Ct (Cu (s' := { t := mkT 38 0 [(3, int to), (10, .ref (.vec 2 0)), (11, .ref (.ptr 1 0)), (12, int (Cc B8 ((↑n : Int) + 1)))], h := [.var [int kk, int ks, int ko], .var (C6 (aS 2 0 0) (Cm (ba rs))), .vec (ao (B6 PtT.row l)) 0 2], m := [] }) (e := Cq) pok [.st (.mask [3, 10, 11, 12]), .st (.ren 2 0), .st (.trimV 3)] [.b true, .ov 27 (int v), .b false] (by kernel_rfl) (.c hlt (.c hn (.c (show bD B7 [.var [int kk, int ks, int ko], .var (Cm (ba rs)), .vec (ao (B6 PtT.row l)) 0 2] 3 (.ref (.ptr 1 (0 + Cf (↑n : Int) * 1))) = some (int v) from ?_) (.c hc0 (.c (show B6 (C6 (aS 2 0 0)) (ao (B6 PtT.row l)) = ao (B6 PtT.row l) from ?_) (.c (show Cz 3 (match 0 == 2 with | true => .vec (ao (B6 PtT.row l)) 0 2 | false => keepX (aS 2 0 0) (.var [int kk, int ks, int ko])) = true from rfl) (.c (show Cz 3 (match 0 + 1 == 2 with | true => .vec (ao (B6 PtT.row l)) 0 2 | false => keepX (aS 2 0 0) (.var (Cm (ba rs)))) = true from ?_) (.c (show Cz 3 (match 0 + 1 + 1 == 2 with | true => .vec (ao (B6 PtT.row l)) 0 2 | false => keepX (aS 2 0 0) (.vec (ao (B6 PtT.row l)) 0 2)) = true from ?_) .n))))))))) (by first | (simp only []; done) | (simp only [hw, ptF, hc0, cond_true, cond_false, bp, dJ]; first | done | rfl)) (by first | (simp only [hw, ptF, hc0, cond_false, dJ]; done) | (simp only [hw, ptF, hc0, cond_true, cond_false, bp, dJ]; first | done | rfl)) <;> (first | assumption | rfl | exact wq rfl hv (by simp) | exact au _ _ | (rw [bp]; exact au _ _) | exact ga | exact sM | exact aq | (rw [bp]; exact aq) | exact aR _ _ | (rw [bp]; exact aR _ _) | (simp [aO, D.one, CX, roomOk]; omega))
 ·let v0 : List Blk := [.var [int kk, int ks, int ko], .var (Cm (ba rs)), .vec (ao (B6 PtT.row l)) 0 2]
  refine Ct (Cu (s' := { t := mkT 38 0 [(3, int to), (10, .ref (.vec 2 0)), (11, .ref (.ptr 1 0)), (12, int (Cc B8 ((↑n : Int) + 1)))], h := [.var [int kk, int ks, int ko], .var (C6 (aS 2 1 0) (Cm (ba rs))), .vec (ao (B6 PtT.row l) ++ [[int (↑n : Int), int v]]) 0 2], m := [] }) (e := Cq) pok [.st (.mask [3, 10, 11, 12]), .st (.ren 2 0), .st (.trimV 3)] [.b true, .ov 27 (int v), .b true, .ov 33 (int v)] (by kernel_rfl) (.c hlt (.c hn (.c (show bD B7 v0 3 (.ref (.ptr 1 (0 + Cf (↑n : Int) * 1))) = some (int v) from ?_) (.c hc0 (.c hn (.c (show bD B7 v0 3 (.ref (.ptr 1 (0 + Cf (↑n : Int) * 1))) = some (int v) from ?_) (.c (show (List.all [[int (↑n : Int), int v]] (aO 2) && roomOk (Cb (ao (B6 PtT.row l)) + Cb [[int (↑n : Int), int v]]) 16) = true from ?_) (.c (show B6 (C6 (aS 2 1 0)) (ao (B6 PtT.row l) ++ [[int (↑n : Int), int v]]) = ao (B6 PtT.row l) ++ [[int (↑n : Int), int v]] from ?_) (.c (show [[int (↑n : Int), int v]] = [[int (↑n : Int), int v]] from rfl) (.c (show Cz 3 (match 0 == 2 with | true => .vec (ao (B6 PtT.row l) ++ [[int (↑n : Int), int v]]) 0 2 | false => keepX (aS 2 1 0) (.var [int kk, int ks, int ko])) = true from rfl) (.c (show Cz 3 (match 0 + 1 == 2 with | true => .vec (ao (B6 PtT.row l) ++ [[int (↑n : Int), int v]]) 0 2 | false => keepX (aS 2 1 0) (.var (Cm (ba rs)))) = true from ?_) (.c (show Cz 3 (match 0 + 1 + 1 == 2 with | true => .vec (ao (B6 PtT.row l) ++ [[int (↑n : Int), int v]]) 0 2 | false => keepX (aS 2 1 0) (.vec (ao (B6 PtT.row l) ++ [[int (↑n : Int), int v]]) 1 2)) = true from ?_) .n))))))))))))) (by subst v0; first | (simp only []; done) | (simp only [hw, ptF, hc0, cond_true, cond_false, bp, dJ]; first | done | rfl)) (by subst v0; first | (simp only [hw, ptF, hc0, cond_true, dJ]; done) | (simp only [hw, ptF, hc0, cond_true, bp, dJ]; first | done | rfl)) <;> subst v0 <;> (first | assumption | rfl | exact wq rfl hv (by simp) | exact au _ _ | (rw [bp]; exact au _ _) | exact ga | exact sM | exact aq | (rw [bp]; exact aq) | exact aR _ _ | (rw [bp]; exact aR _ _) | (simp [aO, D.one, CX, roomOk]; omega))
theorem Bs {kk ks ko to : Int} {rs : List Int} {l : List PtT} {x : Int} (hlt : decide (x < if false = true then if 1024 > to then 1024 else to else if 1024 < to then 1024 else to) = false) : (CW B7 Γ0 [] false (sub GT 0) (ptS kk ks ko to rs l x) (.exit 0) { t := mkT 38 0 [(10, .ref (.vec 2 0))], h := ptH kk ks ko rs l, m := [] }) := by
 exact Ct (Cu (s' := { t := mkT 38 0 [(10, .ref (.vec 2 0))], h := [.var [int kk, int ks, int ko], .var (Cm (ba rs)), .vec (ao (B6 PtT.row l)) 0 2], m := [] }) (e := CE 0) pok [.st (.mask [10])] [.b false] (by kernel_rfl) (.c hlt .n)) (by rfl) (by rfl)
def sN (to : Int) : Int := if to < 1024 then to else 1024
theorem nI (to : Int) : (if false = true then if 1024 > to then 1024 else to else if 1024 < to then 1024 else to) = sN to := by
 unfold sN; simp; split <;> split <;> omega
def wr (rs : List Int) (x to : Int) : List PtT := (Dx x.toNat (sN to - x).toNat).foldl (fun l n => ptF (rs.getD n 0) n l) []
theorem qS (v : Int) (n : Nat) (l : List PtT) : (ptF v n l).length ≤ l.length + 1 := by unfold ptF; cases decide (v ≥ 0) <;> simp
theorem pt_cw {kk ks ko to : Int} {rs : List Int} (hr : rs.length = 1024) {x : Int} (hx : 0 ≤ x) :
  CW B7 Γ0 [] false (.loop (sub GT 0)) (ptS kk ks ko to rs [] x) (.exit 0) { t := mkT 38 0 [(10, .ref (.vec 2 0))], h := ptH kk ks ko rs (wr rs x to), m := [] } := by
 have hx' : ((x.toNat : Nat) : Int) = x := by omega
 have hh : sN to ≤ 1024 := by unfold sN; split <;> omega
 have := Eo (P := B7) (Γ := Γ0) (h0 := []) (rd := false) (c := sub GT 0) (σ := List PtT) (ρ := Empty) (Dx x.toNat (sN to - x).toNat) (fun n l => .inl (ptF (rs.getD n 0) n l))
  (fun i l => ptS kk ks ko to rs l (x + (i : Int))) (.exit 0) (fun l => { t := mkT 38 0 [(10, .ref (.vec 2 0))], h := ptH kk ks ko rs l, m := [] }) (fun r => r.elim)
  (fun i l => l.length ≤ i) (by simp) (fun r => r.elim) ?_ ?_ [] (by simp)
 ·rw [bw (fun l n => ptF (rs.getD n 0) n l)] at this
  simpa [bn, wr] using this
 ·intro i n l hn hs
  obtain ⟨hi, he⟩ := Ce.1 hn
  simp only [HO] at hi
  simp only [HE, Gl] at he
  have hlt : (n : Int) < sN to := by omega
  have hb : rs[n]? = some (rs.getD n 0) := by
   rw [Cl, Cv (by rw [hr]; omega)]; rfl
  refine ⟨fun s' h => by cases h; have := qS (rs.getD n 0) n l; omega, ?_⟩
  have key := pt_b (kk := kk) (ks := ks) (ko := ko) (to := to) (l := l) hb (by simp [inR]; omega) (by omega) (by rw [nI]; simpa using hlt) (by rw [wrap_i64 (by omega) (by omega)]; omega)
  have e1 : x + (i : Int) = (n : Int) := by omega
  have e2 : x + ((i + 1 : Nat) : Int) = ((n + 1 : Nat) : Int) := by omega
  simp only [ad, e1, e2]
  exact key
 ·intro l _
  refine Bs ?_
  rw [nI]
  simp
  omega
def ptLo (frm : Int) : Int := if true = true then if frm > 0 then frm else 0 else if frm < 0 then frm else 0
def bg (kk ks ko frm to known : Int) (l : List FactT) : List PtT := wr (bh kk ks ko known l) (ptLo frm) to
theorem iM (frm : Int) : 0 ≤ (if true = true then if frm > 0 then frm else 0 else if frm < 0 then frm else 0) := by simp; split <;> omega
theorem yB {kk ks ko frm to known : Int} {l : List FactT} (hl : am l) {r0 : List Int} (e1 : cF B7 [.var [int kk, int ks, int ko]] 215 (.ref (.ptr 1 0)) [.var [int kk, int ks, int ko], .var (ba r0).flatten]) (h0 : r0.length = 1024) (h : List Blk) : (Ev B7 Γ0 111 [ab (l.map Ch), .agg [int kk, int ks, int ko], int frm, int to, int known] h (ab ((bg kk ks ko frm to known l).map PtT.row)) h) := by
 have hl0 := (@pt_cw (kk) (ks) (ko) (to) (bh kk ks ko known l) (by first | assumption | rfl | exact b9 | exact iM _ | exact qR rfl h0 b9 | (simp; done)) (if true = true then if frm > 0 then frm else 0 else if frm < 0 then frm else 0) (by first | assumption | rfl | exact b9 | exact iM _ | exact qR rfl h0 b9 | (simp; done)))
 let v0 := Cm (ba (bh kk ks ko known l))
 let v1 := B6 PtT.row (wr (bh kk ks ko known l) (if true = true then if frm > 0 then frm else 0 else if frm < 0 then frm else 0) to)
 let v2 : List Blk := [.var [int kk, int ks, int ko], .var (Cm (ba r0))]
 let v3 := B6 PtT.row (bg kk ks ko frm to known l)
 refine Ev.castH (Ev.sym0 (d := ab v3) pok [.val (Db v0), .oh 11 (.ref (.ptr 1 0)) v2, .oh 10011 EB [.var [int kk, int ks, int ko], .var v0], .nx 1, .st (.nilT 10 2), .sum [3, 10, 11, 12] (CE 0) { t := mkT 38 0 [(10, .ref (.vec 2 0))], h := [.var [int kk, int ks, int ko], .var v0, .vec (ao v1) 0 2], m := [] }, .st (.frz 2 v3)] (by kernel_rfl) (.c (@py kk ks ko known l hl ([.var [int kk, int ks, int ko]])) (.c (show cF B7 [.var [int kk, int ks, int ko]] 215 (.ref (.ptr 1 0)) v2 from ?_) (.c (show cb B7 v2 215 (.ref (.ptr 1 0)) (Db v0) = some [.var [int kk, int ks, int ko], .var v0] from ?_) (.c hl0 (.c (show ao v1 = B6 (fun x => B6 D.p x) v3 from ?_) .n))))) rfl rfl h) (by rfl) (by rfl) <;> subst v0 v1 v2 v3 <;> (first | assumption | rfl | exact b9 | exact iM _ | exact qR rfl h0 b9 | (simp; done))
theorem ws {kk ks ko frm to known : Int} {l : List FactT} (hl : am l) (h : List Blk) : Ev B7 Γ0 111 [ab (l.map Ch), .agg [int kk, int ks, int ko], int frm, int to, int known] h (ab ((bg kk ks ko frm to known l).map PtT.row)) h :=
 yB hl (r0 := C0 1024 0) (by unfold cF; kernel_rfl) (by simp) h
end Go.Vi
open Go Go.Proofs Go.Shelf Go.RowKit Go.Sort
namespace Go.Vi
abbrev jh {α : Type} (enc : α → List Value) (l : List α) : List (List D) := l.map fun x => (enc x).map lit
theorem mi {w : World} {av : Nat → Prop} {loc : Loc} {h : List Blk} : ∀ {vs ys : List Value}, RelL w av loc h (vs.map lit) ys → ys = vs
  | [], [], _ => rfl
  | [], _ :: _, r => by simp [RelL] at r
  | _ :: _, [], r => by simp [RelL] at r
  | v :: vs, y :: ys, r => by
    simp only [Dj, RelL] at r
    have h1 : y = v := by simpa [Rel, RelP] using r.1
    rw [h1, mi r.2]
theorem eL {w : World} {av : Nat → Prop} {loc : Loc} {h : List Blk} : ∀ {vs : List Value}, RelL w av loc h (vs.map lit) vs
  | [] => trivial
  | v :: vs => by
    simp only [Dj, RelL]
    exact ⟨by simp [Rel, RelP], eL⟩
theorem mj {α : Type} (enc : α → List Value) (l : List α) : (jh enc l).flatten = ((l.map enc).flatten).map lit := by
  induction l with
  | nil => rfl
  | cons a l ih => simp only [jh, Dj, C7, List.map_append] at ih ⊢; rw [ih]
theorem iO {α : Type} [Inhabited α] (enc : α → List Value) (k : Nat) (hk : ∀ x, (enc x).length = k) (l : List α) : (flatK enc k l.toArray).toList = (l.map enc).flatten := by
  have key : ∀ (l : List α) (t : Nat), t < l.length * k → ((l.map enc).flatten)[t]? = some ((enc (l.toArray[t / k]!))[t % k]!) := by
    intro l
    induction l with
    | nil => intro t h; simp at h
    | cons a l ih =>
      intro t h
      simp only [Dj, C7]
      rcases Nat.lt_or_ge t k with hlt | hge
      · rw [Cr (by rw [hk]; exact hlt), Nat.div_eq_of_lt hlt, Nat.mod_eq_of_lt hlt]
        have : t < (enc a).length := by rw [hk]; exact hlt
        simp [this]
      · have k0 : 0 < k := by rcases Nat.eq_zero_or_pos k with h0 | h0
                              · subst h0; simp at h
                              · exact h0
        rw [CV (by rw [hk]; exact hge), hk]
        obtain ⟨u, rfl⟩ : ∃ u, t = u + k := ⟨t - k, by omega⟩
        have hu : u < l.length * k := by simp only [Di, Nat.add_mul, Gl] at h; omega
        rw [show u + k - k = u by omega, ih u hu, Nat.add_div_right _ k0, Nat.add_mod_right]
        simp
  apply EF
  intro t
  have hlen : ((l.map enc).flatten).length = l.length * k := by
    clear key
    induction l with
    | nil => simp
    | cons a l ih => simp only [Dj, C7, List.length_append, hk, ih, Di, Nat.add_mul, Gl]; omega
  by_cases ht : t < l.length * k
  · rw [key l t ht]
    simp [flatK, ht]
  · rw [Dk (by simp [flatK]; omega), Dk (by omega)]
theorem tQ {w w' : World} (h1 : w.heap.size ≤ w'.heap.size) (h2 : ∀ k, k < w.heap.size → w'.heap[k]? = w.heap[k]?) (h3 : w'.tape = w.tape ∧ w'.os = w.os ∧ w'.output = w.output ∧ w.drawn ≤ w'.drawn) :
    ∃ q os', w' = FF (w.drewN q) os' := by
  refine ⟨w'.drawn - w.drawn, w'.heap.extract w.heap.size w'.heap.size, ?_⟩
  obtain ⟨heap, tape, drawn, os, output⟩ := w
  obtain ⟨heap', tape', drawn', os', output'⟩ := w'
  obtain ⟨rfl, rfl, rfl, h4⟩ := h3
  simp only [FF, World.drewN] at h1 h2 h4 ⊢
  congr 1
  · apply Array.ext'
    rw [Array.toList_append, Array.toList_extract]
    apply EF
    intro i
    by_cases hi : i < heap.size
    · rw [Cr (by simpa using hi)]
      have := h2 i hi
      rw [← C4, ← C4] at this
      exact this
    · rw [CV (by simpa using Ek hi)]
      simp only [List.extract_eq_take_drop, Array.length_toList]
      by_cases hj : i < heap'.size
      · rw [List.getElem?_take, if_pos (by omega), List.getElem?_drop]
        congr 1; omega
      · rw [Dk (by simpa using Ek hj), Dk (by simp; omega)]
  · omega
theorem tR {P : Program} {Γ : ak} {O : Nat → Prop} {α : Type} [Inhabited α] {enc : α → List Value} {k g : Nat} {cf : α → α → Int} {w : World} {loc : Loc} {h : List Blk} (R : Rep Γ O w loc h) {blk : Nat} (hblk : avs O loc h blk)
    (hE : ∀ x y, Ev P Γ g [.agg ((enc x).map lit), .agg ((enc y).map lit)] [] (int (cf x y)) []) (size : Nat) : CmpLays P g #[] enc k cf blk 0 size w := by
  intro m os dk hs x y
  generalize hW : sortWorldK enc k w blk 0 m dk os = W
  have hb : blk < w.heap.size := by
    rcases hblk with ho | ho
    · exact R.obd blk ho
    · exact (R.inb blk ho).1
  have hcell : ∀ b off v, ¬ avs O loc h b → w.cell? ⟨b, off, none⟩ = some v → W.cell? ⟨b, off, none⟩ = some v ∧ ¬ avs (fun _ => False) loc [] b := by
    intro b off v hn hc
    have hne : b ≠ blk := fun e => hn (e ▸ hblk)
    refine ⟨?_, fun ho => ho.elim id (fun h => absurd h co)⟩
    subst hW
    have hlt : b < w.heap.size := by
      simp only [Gu] at hc
      split at hc
      · rename_i hx; exact (DM.1 hx).1
      · simp at hc
    have : (sortWorldK enc k w blk 0 m dk os).heap[b]? = w.heap[b]? := by
      unfold sortWorldK
      rw [Fh _ _ (by simpa [putRowK, DD, DB, DT] using hlt)]
      simp [putRowK, DD, DB, DT, EI, Ne.symm hne]
    simp only [Gu, this]
    exact hc
  have R0 : Rep Γ (fun _ => False) W loc [] := by
    refine ⟨fun blk ho => absurd ho co, fun blk ho => ho.elim, fun b b' x x' k c c' hb => by simp at hb, fun b x hb => by simp at hb, fun g cs hg => ?_⟩
    exact RelCells.mono hcell g 0 cs (R.glo g cs hg)
  have ra : RelL W (avs (fun _ => False) loc []) loc [] [.agg ((enc x).map lit), .agg ((enc y).map lit)] [.agg (enc x).toArray, .agg (enc y).toArray] := by
    refine ⟨⟨_, rfl, eL⟩, ⟨_, rfl, eL⟩, trivial⟩
  refine HF (callsIn_wide.1 (hE x y (fun _ => False) W loc _ R0 ra)) ?_
  rintro e w' ⟨v, d2, h2, l', rfl, ⟨rfl, rfl⟩, R', E', rd⟩
  refine ⟨?_, tQ E'.size (fun b hb => E'.same b hb co) E'.tape⟩
  have : v = .int .i64 (cf x y) := by simpa [Rel, RelP] using rd
  rw [this]
theorem pz {P : Program} {ρ : Ren} {Γ : ak} (ok : POk P) (L : SlLaysF0.n6 P ρ) {α : Type} [Inhabited α] {enc : α → List Value} {k : Nat} (aE : ∀ w, (isAgg (ρ.t 24)).run P w = .ok true w) (zE : ∀ w, (Go.sizeOf (ρ.t 24)).run P w = .ok k w) (hk : ∀ x, (enc x).length = k) (h1 : ∀ x, ∀ v ∈ enc x, v.oneCell' = true)
    {cf : α → α → Int} (hO : Sort.SWO (ltOf cf)) {g : Nat} (hg : en P g = true) (hE : ∀ x y, Ev P Γ g [.agg ((enc x).map lit), .agg ((enc y).map lit)] [] (int (cf x y)) [])
    {h : List Blk} {b e : Nat} {l : List α} (hb : h[b]? = some (.vec (jh enc l) e k)) (hl : l.length < 4611686018427387904) (hT : ∀ x ∈ l, ∀ y ∈ l, (ltOf cf) x y = false → (ltOf cf) y x = false → x = y) :
    Ev P Γ (ρ.f 6) [.ref (.vec b e), .p (.v (.func (.func g) #[] #[]))] h (.tup []) (h.set b (.vec (jh enc (l.mergeSort fun x y => !(ltOf cf) y x)) e k)) := by
  intro O w loc vs R ra
  obtain ⟨y, rfl⟩ : ∃ y, vs = [y, .func (.func g) #[] #[]] := by
    match vs, ra with
    | [y, z], r => exact ⟨y, by have : z = .func (.func g) #[] #[] := by simpa [Rel, RelP, RelL] using r.2
                                rw [this]⟩
    | [], r => simp [RelL] at r
    | [_], r => simp [RelL] at r
    | _ :: _ :: _ :: _, r => simp [RelL] at r
  have r := ra.1
  simp only [Rel, RefRel, hb] at r
  have hv := r.2.2 trivial
  have B := R.blk b _ hb
  simp only [BlkOk] at B
  have hlen : (jh enc l).length = l.length := by simp [jh]
  refine callsIn_wide.2 ?_
  cases hlb : loc b with
  | none =>
    rw [hlb] at hv B
    obtain ⟨hn, rfl⟩ := hv
    have hl0 : l = [] := by simpa [jh] using hn
    subst hl0
    refine HF (AnyF.slices_SortFunc_none L none 0 _ w) ?_
    rintro e' w' ⟨rfl, rfl⟩
    have hset : h.set b (.vec (jh enc (([] : List α).mergeSort fun x y => !(ltOf cf) y x)) e k) = h := by
      apply EF
      intro i
      by_cases hi : i = b
      · subst hi; rw [bc hb, hb]; simp
      · rw [bB _ _ hi]
    refine ⟨.tuple #[], .tup [], _, loc, rfl, ⟨rfl, rfl⟩, ?_, ?_, ?_⟩
    · rw [hset]; exact R
    · rw [hset]; exact Ext.refl _ _ _
    · simp [Rel, RelL]
  | some p =>
    obtain ⟨blk, cap⟩ := p
    rw [hlb] at hv B
    obtain ⟨rfl, hcap⟩ := hv
    simp only at B
    obtain ⟨c, T, fr, ys, hobj, hcs, hle, hfr, hsz, hrel, rest, hcl⟩ := B
    rw [mj] at hrel
    have hys := mi hrel
    subst hys
    have hblk : blk < w.heap.size := (DM.1 hobj).1
    have hown : avs O loc h blk := .inr ⟨b, _, cap, hb, by simp, hlb⟩
    have hH : HoldsK enc k w blk 0 l.toArray := by
      intro j hj
      have hj' : j < l.length * k := by simpa using hj
      have hc : c[j]? = some (flatK enc k l.toArray)[j]! := by
        rw [← C4, hcl, ← iO enc k hk l, Cr (by simpa using hj')]
        rw [C4, getElem!_pos _ j (by simpa using hj')]
        exact CL _
      constructor
      · simp [Gu, hobj, hc]
      · have := hfr j (DM.1 hc).1
        obtain ⟨lo, hi⟩ := fr
        simp only [World.frozen?, hobj, Nat.zero_add]
        rw [← Bool.not_eq_true]
        simpa using this
    have eg : ∀ args w, (callFunc g args).run P w = .ok (.enter g args) w := fun args w => by
      unfold en at hg
      split at hg
      · rename_i fn hfn; exact call_run ok hfn hg args w
      · simp at hg
    rw [hlen]
    refine HF (AnyQ.slices_SortFunc L k aE zE enc hk h1 cf hO g #[] blk 0 cap l.toArray w eg (tR R hown hE _) hH hblk hl) ?_
    rintro e' w' ⟨rfl, d', n, os, hP, hS, rfl⟩
    have hd' : d'.toList = l.mergeSort fun x y => !(ltOf cf) y x := by
      obtain ⟨hsz', _, hperm⟩ := hP
      have e1 : d'.extract 0 l.toArray.size = d' := by rw [← hsz']; exact HG
      rw [e1, HG] at hperm
      refine List.Perm.eq_of_pairwise (le := fun x y => (!(ltOf cf) y x) = true) ?_ ?_ ?_ (hperm.trans (F8 _ _).symm)
      · intro a b' ha hb' h1 h2
        simp only [Df] at h1 h2
        have ha' : a ∈ l := by simpa using hperm.mem_iff.1 ha
        have hb2 : b' ∈ l := (F8 _ _).mem_iff.1 hb'
        exact hT a ha' b' hb2 h2 h1
      · rw [List.pairwise_iff_getElem]
        intro i j hi hj hij
        have hi' : i < d'.size := by simpa using hi
        have hj' : j < d'.size := by simpa using hj
        have := hS i j (Nat.zero_le _) hij (by omega)
        rw [getElem!_pos d' j hj', getElem!_pos d' i hi'] at this
        simpa using this
      · exact List.pairwise_mergeSort (fun a b c h1 h2 => by
          simp only [Df] at h1 h2 ⊢
          exact hO.ntrans _ _ _ h2 h1) (fun a b => by
          cases hab : (ltOf cf) b a
          · simp
          · have : (ltOf cf) a b = false := by
              cases hba : (ltOf cf) a b
              · rfl
              · have := hO.trans _ _ _ hab hba
                rw [hO.irrefl] at this; exact absurd this (by simp)
            simp [this]) l
    have hdA : d' = (l.mergeSort fun x y => !(ltOf cf) y x).toArray := by rw [← hd']
    have hlm : (l.mergeSort fun x y => !(ltOf cf) y x).length = l.length := by simp
    subst hdA
    clear hP hS hd'
    generalize (l.mergeSort fun x y => !(ltOf cf) y x) = m at hlm ⊢
    have hobj' : (sortWorldK enc k w blk 0 n m.toArray os).heap[blk]? = some (.cells (Ec id 0 (flatK enc k m.toArray) c) T fr) := by
      unfold sortWorldK
      rw [Fh _ _ (by simpa [putRowK, DD, DB, DT] using hblk)]
      simp [putRowK, DD, DB, DT, EI, hobj, Sort.onCells]
    have hfl : ((l.map enc).flatten).length = l.length * k := by rw [← iO enc k hk]; simp
    have hcells : (Ec id 0 (flatK enc k m.toArray) c).toList = (m.map enc).flatten ++ rest := by
      unfold Ec
      rw [Array.toList_mapIdx, hcl, ← iO enc k hk m]
      apply EF
      intro i
      rw [List.getElem?_mapIdx]
      by_cases hi : i < l.length * k
      · rw [Cr (by rw [hfl]; exact hi), Cr (by simpa [hlm] using hi)]
        have hi2 : i < ((l.map enc).flatten).length := by rw [hfl]; exact hi
        have hi3 : i < (flatK enc k m.toArray).size := by simpa [hlm] using hi
        rw [Cv hi2, C4, CL hi3]
        simp only [Option.map_some, Nat.zero_add, Nat.zero_le, Nat.sub_zero, true_and, id_eq, if_pos hi3]
        rw [getElem!_pos _ i hi3]
      · rw [CV (by rw [hfl]; exact Ek hi), CV (by simpa [hlm] using Ek hi)]
        simp [hi, hlm, hfl]
    have key := R.step (w' := sortWorldK enc k w blk 0 n m.toArray os) (l' := loc) (h' := h.set b (.vec (jh enc m) e k)) b (.vec (jh enc m) e k)
      (by simp [sortWorldK, FF, putRowK, DD, DB, DT]) ⟨rfl, rfl, rfl, by simp [sortWorldK, FF, putRowK, DD, DB, DT]⟩ (fun i hi => bB _ _ hi) (bc hb) (fun _ _ => rfl)
      (fun z hz => by rw [hb] at hz; cases hz; exact ⟨⟨Nat.le_refl _, fun _ => by simp [jh, hlm], rfl⟩, fun _ => rfl⟩)
      (fun k' hk' hno => by
        have hkb : k' ≠ blk := fun e => hno _ cap hb (by simp) (by rw [hlb, e])
        unfold sortWorldK
        rw [Fh _ _ (by simpa [putRowK, DD, DB, DT] using hk')]
        simp [putRowK, DD, DB, DT, EI, Ne.symm hkb])
      (fun k' c' hk' => .inl ⟨_, c', hb, by simp, hk'⟩)
      (fun E => by
        simp only [BlkOk, hlb]
        refine ⟨_, T, fr, (m.map enc).flatten, hobj', ?_, ?_, ?_, ?_, ?_, rest, hcells⟩
        · simpa [Ec] using hcs
        · simpa [jh, hlm] using hle
        · simpa [Ec] using hfr
        · intro r hr
          obtain ⟨x, _, rfl⟩ := CC.1 hr
          simp [hk]
        · rw [mj]; exact eL)
    exact ⟨.tuple #[], .tup [], _, loc, rfl, ⟨rfl, rfl⟩, key.1, key.2, by simp [Rel, RelL]⟩
end Go.Vi
open Go Go.Proofs Go.Shelf
namespace Go.Proofs
def Tryz.sortAtt_ren : Go.Shelf.Ren := ⟨fun | 6 => 117 | 15 => 122 | 14 => 162 | 28 => 173 | 29 => 174 | 20 => 200 | 21 => 201 | 22 => 202 | 23 => 203 | 24 => 204 | 25 => 205 | 26 => 206 | 27 => 207 | 46 => 227 | 47 => 211 | 48 => 212 | 49 => 228 | 50 => 229 | 57 => 235 | n => n, fun | 22 => 45 | 24 => 52 | 25 => 144 | 3 => 3 | 39 => 192 | 0 => 0 | 53 => 233 | 55 => 169 | 4 => 4 | 46 => 227 | 45 => 226 | 50 => 150 | 5 => 5 | 9 => 9 | 66 => 251 | 70 => 255 | 76 => 265 | 77 => 266 | n => n, fun | n => n⟩
theorem Tryz.sortAtt : Go.Proofs.SlLaysF0.n6 B7 Tryz.sortAtt_ren := {
 mixed := by kernel_rfl
 f6 := ⟨Tryz.f117.name, by decide, Tryz.func117.trans (congrArg some (by kernel_rfl))⟩
 f14 := ⟨Tryz.f162.name, by decide, Tryz.func162.trans (congrArg some (by kernel_rfl))⟩
 f15 := Tryz.func122.trans (congrArg some (by kernel_rfl))
 f20 := ⟨Tryz.f200.name, by decide, Tryz.func200.trans (congrArg some (by kernel_rfl))⟩
 f21 := ⟨Tryz.f201.name, by decide, Tryz.func201.trans (congrArg some (by kernel_rfl))⟩
 f22 := ⟨Tryz.f202.name, by decide, Tryz.func202.trans (congrArg some (by kernel_rfl))⟩
 f23 := ⟨Tryz.f203.name, by decide, Tryz.func203.trans (congrArg some (by kernel_rfl))⟩
 f24 := ⟨Tryz.f204.name, by decide, Tryz.func204.trans (congrArg some (by kernel_rfl))⟩
 f25 := ⟨Tryz.f205.name, by decide, Tryz.func205.trans (congrArg some (by kernel_rfl))⟩
 f26 := ⟨Tryz.f206.name, by decide, Tryz.func206.trans (congrArg some (by kernel_rfl))⟩
 f27 := ⟨Tryz.f207.name, by decide, Tryz.func207.trans (congrArg some (by kernel_rfl))⟩
 f28 := Tryz.func173.trans (congrArg some (by kernel_rfl))
 f29 := Tryz.func174.trans (congrArg some (by kernel_rfl))
 f46 := ⟨Tryz.f227.name, by decide, Tryz.func227.trans (congrArg some (by kernel_rfl))⟩
 f47 := Tryz.func211.trans (congrArg some (by kernel_rfl))
 f48 := Tryz.func212.trans (congrArg some (by kernel_rfl))
 f49 := ⟨Tryz.f228.name, by decide, Tryz.func228.trans (congrArg some (by kernel_rfl))⟩
 f50 := ⟨Tryz.f229.name, by decide, Tryz.func229.trans (congrArg some (by kernel_rfl))⟩
 f57 := ⟨Tryz.f235.name, by decide, Tryz.func235.trans (congrArg some (by kernel_rfl))⟩
 t0 := Tryz.underlying0
 a0 := Tryz.isAgg0
 z0 := Tryz.sizeOf0
 v0 := Tryz.zeroValue0
 t3 := Tryz.underlying3
 a3 := Tryz.isAgg3
 z3 := Tryz.sizeOf3
 v3 := Tryz.zeroValue3
 t4 := Tryz.underlying4
 a4 := Tryz.isAgg4
 z4 := Tryz.sizeOf4
 v4 := Tryz.zeroValue4
 t5 := Tryz.underlying5
 a5 := Tryz.isAgg5
 z5 := Tryz.sizeOf5
 v5 := Tryz.zeroValue5
 t9 := Tryz.underlying9
 a9 := Tryz.isAgg9
 z9 := Tryz.sizeOf9
 v9 := Tryz.zeroValue9
 t22 := Tryz.underlying45
 a22 := Tryz.isAgg45
 z22 := Tryz.sizeOf45
 v22 := Tryz.zeroValue45
 t25 := Tryz.underlying144
 a25 := Tryz.isAgg144
 z25 := Tryz.sizeOf144
 v25 := Tryz.zeroValue144
 t39 := Tryz.underlying192
 a39 := Tryz.isAgg192
 z39 := Tryz.sizeOf192
 v39 := Tryz.zeroValue192
 t45 := Tryz.underlying226
 a45 := Tryz.isAgg226
 z45 := Tryz.sizeOf226
 v45 := Tryz.zeroValue226
 t46 := Tryz.underlying227
 a46 := Tryz.isAgg227
 z46 := Tryz.sizeOf227
 v46 := Tryz.zeroValue227
 t50 := Tryz.underlying150
 a50 := Tryz.isAgg150
 z50 := Tryz.sizeOf150
 v50 := Tryz.zeroValue150
 t53 := Tryz.underlying233
 a53 := Tryz.isAgg233
 z53 := Tryz.sizeOf233
 v53 := Tryz.zeroValue233
 t55 := Tryz.underlying169
 a55 := Tryz.isAgg169
 z55 := Tryz.sizeOf169
 v55 := Tryz.zeroValue169
 t66 := Tryz.underlying251
 a66 := Tryz.isAgg251
 z66 := Tryz.sizeOf251
 v66 := Tryz.zeroValue251
 t70 := Tryz.underlying255
 a70 := Tryz.isAgg255
 z70 := Tryz.sizeOf255
 v70 := Tryz.zeroValue255
 t76 := Tryz.underlying265
 a76 := Tryz.isAgg265
 z76 := Tryz.sizeOf265
 v76 := Tryz.zeroValue265
 t77 := Tryz.underlying266
 a77 := Tryz.isAgg266
 z77 := Tryz.sizeOf266
 v77 := Tryz.zeroValue266 }
end Go.Proofs
namespace Go.Vi
open Go.Sort
def uj (a b : AttT) : Int := orI (aK a.term b.term) (aK a.course b.course)
def leA (a b : AttT) : Bool := !(ltOf uj) b a
theorem nJ (a b : AttT) : (ltOf uj) a b = true ↔ a.term < b.term ∨ (a.term = b.term ∧ a.course < b.course) := by
 unfold ltOf uj orI aK
 simp only [decide_eq_true_eq]
 repeat' split
 all_goals simp_all
 all_goals omega
theorem kH (a b : AttT) : (ltOf uj) a b = false ↔ ¬ (a.term < b.term ∨ (a.term = b.term ∧ a.course < b.course)) := by
 rw [← nJ, Bool.not_eq_true]
theorem swoA : SWO (ltOf uj) where
 irrefl x := by rw [kH]; omega
 trans x y z h1 h2 := by rw [nJ] at *; omega
 ntrans x y z h1 h2 := by rw [kH] at *; omega
def encA (a : AttT) : List Value := [.int .i64 a.course, .int .i64 a.term, .int .i64 a.grade, .int .i64 a.campus, .int .i64 a.credits]
abbrev Bt (l : List AttT) : List (List D) := l.map fun a => a.row.map .p
theorem tS {h : List Blk} {b e : Nat} {l : List AttT} (hb : h[b]? = some (.vec (Bt l) e 5)) (hl : l.length < 4611686018427387904) (hT : ∀ x ∈ l, ∀ y ∈ l, x.term = y.term → x.course = y.course → x = y) :
  Ev B7 Γ0 117 [.ref (.vec b e), .p (.v (.func (.func 79) #[] #[]))] h (.tup []) (h.set b (.vec (Bt (l.mergeSort leA)) e 5)) :=
 pz (α := AttT) (enc := encA) (k := 5) (cf := uj) pok Tryz.sortAtt Tryz.isAgg52 Tryz.sizeOf52 (fun _ => rfl) (fun x v hv => by simp [encA] at hv; rcases hv with rfl | rfl | rfl | rfl | rfl <;> rfl) swoA (by kernel_rfl) (fun x y => gN []) hb hl
  (fun x hx y hy h1 h2 => by
   rw [kH] at h1 h2
   exact hT x hx y hy (by omega) (by omega))
end Go.Vi
