/- RecordOfSpecUpto: part of the proof: contracts of the functions that the law reaches, and the law. No conditions beyond the given statement's own. -/
import Derived.Test.YtilebidefogaiaaGreatDoorW7
import Derived.LaidHandle
open Go.Proofs.Tryz renaming prog → B7, underlying111 → HP
open Go.Proofs.YtilebidefogaiaaGreatDoor.Rows renaming laid_sizar_rules_kinds → Eh, uptoBulk → Dl, uptoBulkAll → El
open List renaming forall_mem_cons → C5, mem_cons → CP, drop_drop → FI, take_append_drop → Fy, drop_zero → Gy, all_cons → ED, contains_iff_mem → Hh, length_map → DR, getElem?_eq_getElem → Cv, mem_map → CC, mem_of_getElem? → CS, getElem?_map → Dz, getElem?_eq_some_iff → Ce, getElem_range → HQ, replicate → C0, mapM_cons → G7, map_cons → Dj
open Go.Vi.FactT renaming row → Ch
open Go.Vi.RuleT renaming row → EL, fl_row → GV
open Go.Vi.CourseT renaming row → Cp
open Go.Vi.SysT renaming row → CD
open Bool renaming and_eq_true → Cd
open Go.DataW renaming trod → EU, weights → GJ, Trod → HJ
open Prod.mk renaming injEq → Ca
open Option renaming bind_eq_some_iff → D9, map_eq_some_iff → Cg, bind_eq_bind → Hi
open Go.World renaming cell? → Gu
open Go.Value renaming okWide → EO
open Option.some renaming injEq → B5
open Go.DataW.agg renaming injEq → Hx
open Go Go.Proofs
namespace Go.Vi
open Go.ChangeShapes Go.WideShapes Go.ChangeAt Go.RowKit Go.Proofs.YtilebidefogaiaaGreatDoor
set_option maxRecDepth 100000
theorem ownK : ownKnob B7.godebug = none := by kernel_rfl
theorem laidOut : laidOutB B7 = true := by kernel_rfl
def kd (a b c d : Bool) (f g : Value) : List Value := [.bool a, .bool b, .bool c, .bool d, f, g]
def kf (k : Nat) : Value := .func (.func k) #[] #[]
def kindsCells : List Value :=
 kd false false false false .nilFunc .nilFunc ++ kd false false false true (kf 257) (kf 258) ++ kd false false false true (kf 259) (kf 260) ++ kd false true false true (kf 261) (kf 262) ++
 kd false false false true (kf 263) (kf 264) ++ kd true true false false (kf 265) (kf 267) ++ kd true true false false (kf 269) (kf 270) ++ kd false true false false (kf 271) (kf 272) ++
 kd false true true false (kf 273) (kf 274) ++ kd true false false false (kf 266) (kf 275)
noncomputable def kQ (os : Os) : World :=
 { World.holding B7 os ⟨#[], #[], []⟩ with heap := (World.holding B7 os ⟨#[], #[], []⟩).heap.modify 0 fun
   | .cells _ t frozen => .cells kindsCells.toArray t frozen
   | o => o }
theorem laid_met (os : Os) (args : Array Value) : laidMetH B7 [("sizar/rules.kinds", Eh)] ((kQ os).forCall (fun _ _ => 0) ⟨#[], args, []⟩).memory :=
 laidMetH_of_parts3 (fuel := 8) (laidMet_nil _ _) (by kernel_rfl) (by kernel_rfl)
end Go.Vi
open Go Go.Proofs
namespace Go.Vi
open Go.ChangeShapes Go.WideShapes Go.ChangeAt Go.RowKit Go.Proofs.YtilebidefogaiaaGreatDoor
set_option maxRecDepth 100000
theorem cells22 : B7.cellsOf 22 = 1 := by kernel_rfl
theorem cells23 : B7.cellsOf 23 = 1 := by kernel_rfl
theorem cells24 : B7.cellsOf 24 = 1 := by kernel_rfl
theorem xk : B7.cellsOf 26 = 3 := by kernel_rfl
theorem cells27 : B7.cellsOf 27 = 1 := by kernel_rfl
theorem cells29 : B7.cellsOf 29 = 4 := by kernel_rfl
theorem xl : B7.cellsOf 56 = 3 := by kernel_rfl
theorem xm : B7.cellsOf 58 = 2 := by kernel_rfl
theorem cells60 : B7.cellsOf 60 = 8 := by kernel_rfl
theorem xn : B7.cellsOf 102 = 4 := by kernel_rfl
theorem y7 : B7.cellsOf 109 = 1 := by kernel_rfl
theorem sY : B7.cellsOf 111 = 6 := by kernel_rfl
theorem y8 : B7.cellsOf 113 = 16 := by kernel_rfl
theorem bytes76 : B7.bytesOf 76 = 96 := by kernel_rfl
theorem y9 : B7.bytesOf 111 = 72 := by kernel_rfl
theorem za : B7.bytesOf 113 = 184 := by kernel_rfl
theorem shp_key {n : Nat} {ds : List Dp} (h : Shp B7 n 56 ds) : ∃ a b c, ds = [vi a, vi b, vi c] ∧ I64 a ∧ I64 b ∧ I64 c := by
 cases n with
 | zero => exact h.elim
 | succ n =>
  simp only [Shp, Tryz.underlying56, C5, fk, xl] at h
  obtain ⟨hl, h1, h2, h3, _⟩ := h
  obtain ⟨a, e1, ha⟩ := aN h1
  obtain ⟨b, e2, hb⟩ := aN h2
  obtain ⟨c, e3, hc⟩ := aN h3
  match ds, hl with
  | [p, q, r], _ =>
   simp at e1 e2 e3
   subst e1; subst e2; subst e3
   exact ⟨a, b, c, rfl, ha, hb, hc⟩
theorem zb {n : Nat} {ds : List Dp} (h : Shp B7 n 58 ds) : ∃ a b, ds = [vi a, vi b] ∧ I64 a ∧ I64 b := by
 cases n with
 | zero => exact h.elim
 | succ n =>
  simp only [Shp, Tryz.underlying58, C5, fk, xm] at h
  obtain ⟨hl, h1, h2, _⟩ := h
  obtain ⟨a, e1, ha⟩ := aN h1
  obtain ⟨b, e2, hb⟩ := aN h2
  match ds, hl with
  | [p, q], _ =>
   simp at e1 e2
   subst e1; subst e2
   exact ⟨a, b, rfl, ha, hb⟩
theorem zc {n : Nat} {ds : List Dp} (h : Shp B7 n 60 ds) : ∃ f : FactT, ds = f.row ∧ f.ok := by
 cases n with
 | zero => exact h.elim
 | succ n =>
  simp only [Shp, Tryz.underlying60, C5, fk, xl, xm, cells60] at h
  obtain ⟨hl, h1, h2, h3, h4, h5, _⟩ := h
  obtain ⟨a, b, c, e1, ha, hb, hc⟩ := shp_key h1
  obtain ⟨d, e2, hd⟩ := aN h2
  obtain ⟨x, y, e3, hx, hy⟩ := zb h3
  obtain ⟨k, e4, hk⟩ := aN h4
  obtain ⟨m, e5, hm⟩ := aN h5
  match ds, hl with
  | [p1, p2, p3, p4, p5, p6, p7, p8], _ =>
   simp at e1 e2 e3 e4 e5
   obtain ⟨rfl, rfl, rfl⟩ := e1
   obtain ⟨rfl, rfl⟩ := e3
   subst e2; subst e4; subst e5
   exact ⟨⟨a, b, c, d, x, y, k, m⟩, rfl, ha, hb, hc, hd, hx, hy, hk, hm⟩
theorem xp {n : Nat} {ds : List Dp} (h : Shp B7 n 27 ds) : ∃ l : List FactT, ds = [.sl (l.map Ch)] ∧ (∀ c ∈ l, c.ok) := by
 cases n with
 | zero => exact h.elim
 | succ n =>
  simp only [Shp, Tryz.underlying27] at h
  obtain ⟨es, rfl, _, he⟩ := h
  obtain ⟨l, rfl, hl⟩ := gZ (row := Ch) (ok := FactT.ok) (fun r hr => zc (he r hr))
  exact ⟨l, rfl, hl⟩
theorem mE : ∀ {ks : List RuleT}, (∀ k ∈ ks, k.ok) → kA ks
 | [], _ => trivial
 | k :: ks, h => ⟨h k (List.mem_cons_self ..), mE fun x hx => h x (List.mem_cons_of_mem _ hx)⟩
theorem nR : ∀ {n : Nat} {ds : List Dp}, Shp B7 n 111 ds → ∃ r : RuleT, ds = r.row ∧ r.ok
 | 0, _, h => h.elim
 | 1, _, h => by
  simp only [Shp, HP, C5] at h
  exact h.2.1.elim
 | n + 2, ds, h => by
  rw [Shp, HP] at h
  simp only [C5, fk, sX, y7, sY] at h
  obtain ⟨hl, h1, h2, h3, h4, h5, h6, _⟩ := h
  obtain ⟨a, e1, ha⟩ := aN h1
  obtain ⟨b, e2, hb⟩ := aN h2
  obtain ⟨s, e3⟩ := nQ h3
  obtain ⟨c, e4, hc⟩ := aN h4
  obtain ⟨d, e5, hd⟩ := aN h5
  rw [Shp, Tryz.underlying109] at h6
  simp only [y9] at h6
  obtain ⟨es, e6, hb6, he⟩ := h6
  obtain ⟨l, rfl, hk⟩ := gZ (row := EL) (ok := RuleT.ok) (fun r hr => nR (he r hr))
  have hs : am l := by have := fI hb6 (by omega); simpa [am] using this
  match ds, hl with
  | [p1, p2, p3, p4, p5, p6], _ =>
   simp at e1 e2 e3 e4 e5 e6
   subst e1; subst e2; subst e3; subst e4; subst e5; subst e6
   refine ⟨.mk a b s c d l, ?_, ?_⟩
   ·rw [EL, eI]
   ·rw [RuleT.ok]; exact ⟨⟨ha, hb, hc, hd, hs⟩, mE hk⟩
theorem uc {n : Nat} {ds : List Dp} (h : Shp B7 n 113 ds) : ∃ c : CourseT, ds = c.row ∧ c.ok := by
 cases n with
 | zero => exact h.elim
 | succ n =>
  rw [Shp, Tryz.underlying113] at h
  simp only [C5, fk, sX, sY, y8] at h
  obtain ⟨hl, h1, h2, h3, h4, h5, h6, _⟩ := h
  obtain ⟨s, e1⟩ := nQ h1
  obtain ⟨a, e2, _⟩ := aN h2
  obtain ⟨b, e3, _⟩ := aN h3
  obtain ⟨c, e4, _⟩ := aN h4
  obtain ⟨r, e5, hr⟩ := nR h5
  obtain ⟨t, e6, ht⟩ := nR h6
  rw [← GV] at e5 e6
  match ds, hl with
  | [p1, p2, p3, p4, p5, p6, p7, p8, p9, p10, p11, p12, p13, p14, p15, p16], _ =>
   simp [RuF.row] at e1 e2 e3 e4 e5 e6
   obtain ⟨rfl, rfl, rfl, rfl, rfl, rfl⟩ := e5
   obtain ⟨rfl, rfl, rfl, rfl, rfl, rfl⟩ := e6
   subst e1; subst e2; subst e3; subst e4
   exact ⟨⟨s, a, b, c, r, t⟩, rfl, hr, ht⟩
theorem rC {n : Nat} {ds : List Dp} (h : Shp B7 n 22 ds) : ∃ l : List CourseT, ds = [.sl (l.map Cp)] ∧ (∀ c ∈ l, c.ok) ∧ am l := by
 cases n with
 | zero => exact h.elim
 | succ n =>
  simp only [Shp, Tryz.underlying22, za] at h
  obtain ⟨es, rfl, hb, he⟩ := h
  obtain ⟨l, rfl, hl⟩ := gZ (row := Cp) (ok := CourseT.ok) (fun r hr => uc (he r hr))
  exact ⟨l, rfl, hl, by have := fI hb (by omega); simpa [am] using this⟩
theorem rD {n : Nat} {ds : List Dp} (h : Shp B7 n 102 ds) : ∃ c : ClauseT, ds = c.row ∧ True := by
 cases n with
 | zero => exact h.elim
 | succ n =>
  simp only [Shp, Tryz.underlying102, C5, fk, xn] at h
  obtain ⟨hl, h1, h2, h3, h4, _⟩ := h
  obtain ⟨a, e1, _⟩ := aN h1
  obtain ⟨b, e2, _⟩ := aN h2
  obtain ⟨c, e3, _⟩ := aN h3
  obtain ⟨d, e4, _⟩ := aN h4
  match ds, hl with
  | [p, q, r, t], _ =>
   simp at e1 e2 e3 e4
   subst e1; subst e2; subst e3; subst e4
   exact ⟨⟨a, b, c, d⟩, rfl, trivial⟩
theorem zd {n : Nat} {ds : List Dp} (h : Shp B7 n 76 ds) : ∃ s : SysT, ds = s.row ∧ s.ok := by
 cases n with
 | zero => exact h.elim
 | succ n =>
  simp only [Shp, Tryz.underlying76, C5, cells72, cells73, cells74, cells76] at h
  obtain ⟨hl, h1, h2, h3, h4, _⟩ := h
  obtain ⟨a, e1, a1, a2⟩ := kP h1
  obtain ⟨b, e2, b1, b2⟩ := y6 h2
  obtain ⟨c, e3, c1, c2⟩ := kP h3
  have h5 : ∃ l : List ClauseT, (List.take 1 (List.drop 3 ds)) = [.sl (l.map ClauseT.row)] ∧ am l := by
   cases n with
   | zero => exact h4.elim
   | succ n =>
    simp only [Shp, Tryz.underlying74, y5] at h4
    obtain ⟨es, e, hb, he⟩ := h4
    obtain ⟨l, rfl, _⟩ := gZ (row := ClauseT.row) (ok := fun _ => True) (fun r hr => rD (he r hr))
    exact ⟨l, e, by have := fI hb (by omega); simpa [am] using this⟩
  obtain ⟨d, e4, d1⟩ := h5
  match ds, hl with
  | [p, q, r, t], _ =>
   simp at e1 e2 e3 e4
   subst e1; subst e2; subst e3; subst e4
   exact ⟨⟨a, b, c, d⟩, rfl, ⟨a1, c1, b1, a2, c2, b2, by simpa [am, SysT.sys] using d1⟩⟩
theorem rE {n : Nat} {ds : List Dp} (h : Shp B7 n 24 ds) : ∃ l : List SysT, ds = [.sl (l.map CD)] ∧ (∀ c ∈ l, c.ok) ∧ am l := by
 cases n with
 | zero => exact h.elim
 | succ n =>
  simp only [Shp, Tryz.underlying24, bytes76] at h
  obtain ⟨es, rfl, hb, he⟩ := h
  obtain ⟨l, rfl, hl⟩ := gZ (row := CD) (ok := SysT.ok) (fun r hr => zd (he r hr))
  exact ⟨l, rfl, hl, by have := fI hb (by omega); simpa [am] using this⟩
theorem xq {n : Nat} {ds : List Dp} (h : Shp B7 n 23 ds) : ∃ l, ds = [.sl l] := by
 cases n with
 | zero => exact h.elim
 | succ n =>
  simp only [Shp, Tryz.underlying23] at h
  obtain ⟨es, rfl, _⟩ := h
  exact ⟨es, rfl⟩
theorem xr {n : Nat} {ds : List Dp} (h : Shp B7 n 29 ds) : ∃ w : WorldT, ds.map .p = w.l ∧ w.ok0 := by
 cases n with
 | zero => exact h.elim
 | succ n =>
  rw [Shp, Tryz.underlying29] at h
  simp only [C5, xk, cells27, cells29] at h
  obtain ⟨hl, h1, h2, _⟩ := h
  obtain ⟨f, e4, hf⟩ := xp h2
  cases n with
  | zero => exact h1.elim
  | succ n =>
   rw [Shp, Tryz.underlying26] at h1
   simp only [C5, cells22, cells23, cells24, xk] at h1
   obtain ⟨_, g1, g2, g3, _⟩ := h1
   obtain ⟨c, e1, c1, c2⟩ := rC g1
   obtain ⟨p, e2⟩ := xq g2
   obtain ⟨s, e3, s1, s2⟩ := rE g3
   match ds, hl with
   | [x, y, z, t], _ =>
    simp at e1 e2 e3 e4
    subst e1; subst e2; subst e3; subst e4
    exact ⟨⟨c, p, s, f⟩, rfl, ⟨c1, s1, c2, s2, hf⟩⟩
end Go.Vi
open Go Go.Proofs
namespace Go.Vi
open Go.ChangeShapes Go.WideShapes Go.ChangeAt Go.RowKit Go.Proofs.YtilebidefogaiaaGreatDoor
set_option maxRecDepth 100000
def plainW : List TypeId := [3, 4, 9, 22, 23, 24, 26, 27, 29, 30, 35, 56, 58, 60, 72, 73, 74, 76, 87, 91, 102, 109, 111, 113, 294, 296, 298, 300]
theorem plain29 : sA B7 plainW = true := by kernel_rfl
end Go.Vi
open Go Go.Proofs
namespace Go.Vi
open Go.ChangeShapes Go.WideShapes Go.ChangeAt Go.RowKit Go.Proofs.YtilebidefogaiaaGreatDoor
set_option maxRecDepth 100000
mutual
def Dp.wt : Dp → Nat
 | .sl es => wtR es
 | .v _ => 0
def wtL : List Dp → Nat
 | [] => 0
 | d :: ds => d.wt + wtL ds
def wtR : List (List Dp) → Nat
 | [] => 0
 | r :: rs => 1 + wtL r + wtR rs
end
theorem xt : ∀ (a b : List Dp), wtL (a ++ b) = wtL a + wtL b
 | [], b => by simp [wtL]
 | d :: a, b => by simp only [List.cons_append, wtL, xt a b]; omega
theorem xu : ∀ {rs : List (List Dp)}, ∀ r ∈ rs, 1 + wtL r ≤ wtR rs
 | a :: rs, r, hr => by
  simp only [wtR]
  rcases CP.1 hr with rfl | hr
  ·omega
  ·have := xu r hr; omega
theorem zV {H : Type} : ∀ (rs : List (List Dp)) (ds : List (DataW H)), rs.length = ds.length → (∀ (i : Nat) r d, rs[i]? = some r → ds[i]? = some d → wtL r + 1 ≤ Dl d) → wtR rs ≤ El ds
 | [], _, _, _ => by simp [wtR]
 | r :: rs, [], h, _ => by simp at h
 | r :: rs, d :: ds, h, hb => by
  have h1 := hb 0 r d rfl rfl
  have h2 := zV rs ds (by simpa using h) fun i r d hr hd => hb (i + 1) r d (by simpa using hr) (by simpa using hd)
  simp only [wtR, El]
  omega
section
variable {w : World} {av : Nat → Prop} {P : Program}
theorem ja {cs : List Value} {S : TypeId → List Dp → Prop} {H : Type} {total : Nat} (hc : cs.length = total) : ∀ (fs : List Field) (xs : List (DataW H)) (acc : Nat), cH P fs acc total = true →
  (∀ (i : Nat) f, fs[i]? = some f → ∃ ds x, xs[i]? = some x ∧ S f.type ds ∧ RelPL w av ds ((cs.drop f.offset).take (P.cellsOf f.type)) ∧ wtL ds + 1 ≤ Dl x) →
  ∃ D, RelPL w av D (cs.drop acc) ∧ (∀ f ∈ fs, S f.type ((D.drop (f.offset - acc)).take (P.cellsOf f.type))) ∧ wtL D ≤ El xs
 | [], xs, acc, h, _ => by
  simp only [cH, beq_iff_eq] at h
  refine ⟨[], ?_, by simp, by simp [wtL]⟩
  rw [List.drop_of_length_le (by omega)]
  trivial
 | f :: fs, xs, acc, h, hf => by
  simp only [cH, Cd, beq_iff_eq] at h
  obtain ⟨rfl, h⟩ := h
  obtain ⟨ds, x, hx, hs, hr, hb⟩ := hf 0 f rfl
  obtain ⟨y, ys, rfl⟩ : ∃ y ys, xs = y :: ys := by cases xs with
   | nil => simp at hx
   | cons y ys => exact ⟨y, ys, rfl⟩
  obtain rfl : y = x := by simpa using hx
  obtain ⟨D, hD, hS, hB⟩ := ja hc fs ys _ h fun i g hg => hf (i + 1) g (by simpa using hg)
  obtain ⟨hle, hoff⟩ := o9 h
  have hlen : ds.length = P.cellsOf f.type := by
   have := hr.length
   rw [this, List.length_take, List.length_drop]
   omega
  refine ⟨ds ++ D, ?_, fun g hg => ?_, by rw [xt]; simp only [El]; omega⟩
  ·have := hr.append hD
   rw [← FI, Fy] at this
   exact this
  ·rcases CP.1 hg with rfl | hg
   ·rw [Nat.sub_self, Gy, List.take_append_of_le_length (by omega), ← hlen, List.take_length]
    exact hs
   ·have h1 := hoff g hg
    have hd : ∀ k, (ds ++ D).drop (ds.length + k) = D.drop k := fun k => by rw [List.drop_append]; simp
    rw [show g.offset - f.offset = ds.length + (g.offset - (f.offset + P.cellsOf f.type)) by omega, hd]
    exact hS g hg
theorem ge {H : Type} {enc : TypeId × Value → H} {spare : Nat → Bool} {ts : List TypeId} (hts : sA P ts = true) (hav : ∀ k, ¬ av k) :
  ∀ (fuel : Nat) (t : TypeId) (cs : List Value) (d : DataW H) (ps : List MemPlace), t ∈ ts → EU enc P w 0 spare true fuel t cs = some (d, ps) → (d.weights P t).all (· ≤ reachBytes) = true →
   ∃ ds, Shp P fuel t ds ∧ RelPL w av ds cs ∧ wtL ds + 1 ≤ Dl d := by
 intro fuel
 induction fuel with
 | zero => intro t cs d ps _ h; simp [EU] at h
 | succ n ih =>
  intro t cs d ps ht h hw
  have hp := x7 hts ht
  split at hp
  ·rename_i hu
   obtain ⟨b, rfl, hx⟩ := DataW.trod_bool hu h
   simp only [Ca] at hx
   obtain ⟨rfl, _⟩ := hx
   exact ⟨[.v (.bool b)], by simp only [Shp, hu]; exact ⟨b, rfl⟩, by simp [RelPL, RelP], by simp [wtL, Dp.wt, Dl]⟩
  ·rename_i k hu
   obtain ⟨x, rfl, hx, hwf⟩ := DataW.trod_int hu h
   simp only [Ca] at hx
   obtain ⟨rfl, _⟩ := hx
   exact ⟨[.v (.int k x)], by simp only [Shp, hu]; exact ⟨x, rfl, hwf⟩, by simp [RelPL, RelP], by simp [wtL, Dp.wt, Dl]⟩
  ·rename_i hu
   obtain ⟨s, rfl, hx, _⟩ := DataW.trod_string hu h
   simp only [Ca] at hx
   obtain ⟨rfl, _⟩ := hx
   have hs : s.size ≤ reachBytes := by
    simp only [GJ, ED, List.all_nil, Bool.and_true, decide_eq_true_eq, Array.length_toList] at hw
    exact hw
   exact ⟨[.v (.string s)], by simp only [Shp, hu]; exact ⟨s, rfl, hs⟩, by simp [RelPL, RelP], by simp [wtL, Dp.wt, Dl]⟩
  ·rename_i e hu
   simp only [Cd, decide_eq_true_eq, Hh] at hp
   obtain ⟨he, hpos⟩ := hp
   rcases DataW.trod_slice hu h with ⟨rfl, hx⟩ | ⟨a, len, cap, elems, rest, m, hm, rfl, hx, _, hle, _, hlen, hel, _⟩
   ·simp only [Ca] at hx
    obtain ⟨rfl, _⟩ := hx
    refine ⟨[.sl []], by simp only [Shp, hu]; exact ⟨[], rfl, by simp, by simp⟩, ?_, by simp [wtL, wtR, Dp.wt, Dl]⟩
    simp only [RelPL, RelP, and_true]
    exact .inl ⟨trivial, none, 0, rfl, fun _ => rfl⟩
   ·obtain rfl : n = m := by omega
    simp only [Ca] at hx
    obtain ⟨rfl, _⟩ := hx
    simp only [GJ, hu, ED, List.all_append, Cd, decide_eq_true_eq, DR] at hw
    obtain ⟨hw1, hw2, _⟩ := hw
    have key : ∀ i, i < len → ∃ ds ys, Shp P n e ds ∧ RelPL w av ds ys ∧ w.cells? 0 (a.add (i * P.cellsOf e)) (P.cellsOf e) = some ys ∧ ∀ x, elems[i]? = some x → wtL ds + 1 ≤ Dl x.1 := by
     intro i hi
     have h1 := hel i hi
     have h2 : elems[i]? = some elems[i] := Cv (by omega)
     generalize elems[i] = x at h2
     rw [h2] at h1
     obtain ⟨ys, h3, h4⟩ := D9.1 h1
     obtain ⟨dx, px⟩ := x
     obtain ⟨ds, h5, h6, h7⟩ := ih e ys dx px he h4 (fO hw2 dx (CC.2 ⟨(dx, px), CS h2, rfl⟩))
     exact ⟨ds, ys, h5, h6, h3, fun x hx => by rw [h2] at hx; cases hx; exact h7⟩
    obtain ⟨f, hf⟩ : ∃ f : Nat → List Dp, ∀ i, i < len → ∃ ys, Shp P n e (f i) ∧ RelPL w av (f i) ys ∧ w.cells? 0 (a.add (i * P.cellsOf e)) (P.cellsOf e) = some ys ∧ ∀ x, elems[i]? = some x → wtL (f i) + 1 ≤ Dl x.1 := by
     classical
     refine ⟨fun i => if hi : i < len then Classical.choose (key i hi) else [], fun i hi => ?_⟩
     simp only [dif_pos hi]
     exact Classical.choose_spec (key i hi)
    refine ⟨[.sl ((List.range len).map f)], ?_, ?_, ?_⟩
    ·simp only [Shp, hu]
     refine ⟨_, rfl, ?_, ?_⟩
     ·simp only [DR, List.length_range]
      have : len * P.bytesOf e ≤ (elems.length + rest.length) * P.bytesOf e := Nat.mul_le_mul_right _ (by omega)
      omega
     ·intro r hr
      obtain ⟨i, hi, rfl⟩ := CC.1 hr
      obtain ⟨ys, h1, _⟩ := hf i (by simpa using hi)
      exact h1
    ·simp only [RelPL, RelP, and_true]
     by_cases h0 : len = 0
     ·subst h0
      exact .inl ⟨by simp, some a, cap, rfl, by simp⟩
     ·have hsp : a.spot = none := by
       obtain ⟨ys, _, _, h3, _⟩ := hf 0 (by omega)
       obtain ⟨h4, h5⟩ := sB h3
       have h6 : ys[0]? = some ys[0] := Cv (by omega)
       have h7 := h5 0 _ h6
       simp only [Nat.zero_mul, Addr.add, if_true] at h7
       unfold Gu at h7
       split at h7
       ·split at h7
        ·simp at h7
        ·rename_i hns
         cases hs : a.spot with
         | none => rfl
         | some _ => simp [hs] at hns
       ·simp at h7
      obtain ⟨blk, off, sp⟩ := a
      simp only at hsp
      subst hsp
      refine .inr ⟨blk, off, cap, P.cellsOf e, by simp, by simpa using hle, l6 _ _ fun i r hr => ?_⟩
      simp only [Dz, Cg] at hr
      obtain ⟨j, hj, rfl⟩ := hr
      rw [Ce] at hj
      obtain ⟨hj1, hj2⟩ := hj
      simp only [HQ] at hj2
      subst hj2
      obtain ⟨ys, h1, h2, h3, _⟩ := hf i (by simpa using hj1)
      obtain ⟨h4, h5⟩ := sB h3
      refine ⟨by rw [h2.length, h4], kz hav _ _ _ h2 fun k y hy => ?_⟩
      have := h5 k y hy
      have e1 : (((⟨blk, off, none⟩ : Addr).add (i * P.cellsOf e)).add k) = ⟨blk, off + i * P.cellsOf e + k, none⟩ := by
       rw [cK, cK]
      rwa [e1] at this
    ·have := zV ((List.range len).map f) (elems.map (·.1)) (by simp [hlen]) fun i r d hr hd => by
      simp only [Dz, Cg] at hr hd
      obtain ⟨j, hj, rfl⟩ := hr
      obtain ⟨x, hx, rfl⟩ := hd
      obtain ⟨hj1, hj2⟩ := Ce.1 hj
      simp only [HQ] at hj2
      subst hj2
      obtain ⟨ys, _, _, _, h4⟩ := hf i (by simpa using hj1)
      exact h4 x hx
     simp only [wtL, Dp.wt, Dl]
     omega
  ·rename_i fs hu
   simp only [Cd, List.all_eq_true, Hh] at hp
   obtain ⟨hc, hfs⟩ := hp
   obtain ⟨xs, m, hm, hx, hlen, hxs, hel⟩ := DataW.trod_struct hu h
   obtain rfl : n = m := by omega
   simp only [Ca] at hx
   obtain ⟨rfl, _⟩ := hx
   simp only [GJ, hu] at hw
   have key : ∀ (i : Nat) f, fs.toList[i]? = some f → ∃ ds x, (xs.map (·.1))[i]? = some x ∧ Shp P n f.type ds ∧ RelPL w av ds ((cs.drop f.offset).take (P.cellsOf f.type)) ∧ wtL ds + 1 ≤ Dl x := by
    intro i f hi
    have hf : f ∈ fs.toList := CS hi
    have hi' : fs[i]? = some f := by rw [← Array.getElem?_toList]; exact hi
    have hil : i < xs.length := by
     rw [hxs]
     have := (Array.getElem?_eq_some_iff.1 hi').1
     exact this
    have h1 := hel i f hi'
    have h2 : xs[i]? = some xs[i] := Cv hil
    generalize xs[i] = x at h2
    rw [h2] at h1
    obtain ⟨dx, px⟩ := x
    obtain ⟨ds, g1, g2, g3⟩ := ih f.type _ dx px (hfs f hf) h1 (b5 hw i f.type dx (by simp [hi]) (by simp [h2]))
    exact ⟨ds, dx, by simp [h2], g1, g2, g3⟩
   obtain ⟨D, hD, hS, hB⟩ := ja hlen fs.toList (xs.map (·.1)) 0 hc key
   rw [Gy] at hD
   refine ⟨D, ?_, hD, by simp only [Dl]; omega⟩
   simp only [Shp, hu]
   refine ⟨by rw [hD.length, hlen], fun f hf => ?_⟩
   have := hS f hf
   rwa [Nat.sub_zero] at this
  ·simp at hp
end
mutual
theorem rF : ∀ r : RuleT, r.size = 1 + wtL r.row
 | .mk _ _ _ _ _ ks => by simp only [RuleT.size, EL, wtL, Dp.wt, sZ ks]; omega
theorem sZ : ∀ ks : List RuleT, sizeL ks = wtR (cN ks)
 | [] => rfl
 | k :: ks => by simp only [sizeL, cN, wtR, sZ ks, rF k]
end
theorem ze {w : WorldT} {ds : List Dp} (h : ds.map .p = w.l) {n : Nat} (hn : wtL ds + 1 ≤ n) (hb : n ≤ 1048576) : ∀ x ∈ w.c, x.small := by
 intro x hx
 have e : ds = [.sl (w.c.map Cp), .sl w.p, .sl (w.s.map CD), .sl (w.f.map Ch)] := by
  have : ds.map D.p = [Dp.sl (w.c.map Cp), .sl w.p, .sl (w.s.map CD), .sl (w.f.map Ch)].map D.p := h
  exact (List.map_inj_right fun a b e => by cases e; rfl).1 this
 have h1 := xu x.row (CC.2 ⟨x, hx, rfl⟩)
 have h2 : wtL x.row = wtL x.need.row + wtL x.bar.row := by
  rw [← GV, ← GV]
  simp only [Cp, RuF.row, wtL, Dp.wt]
  omega
 subst e
 simp only [wtL, Dp.wt] at hn
 have h3 := rF x.need
 have h4 := rF x.bar
 exact ⟨by omega, by omega⟩
theorem ue {H : Type} {enc : TypeId × Value → H} {W : World} {base : Nat} {v : Value} {d : DataW H} {p : List MemPlace}
  (hok : EO B7 W .any base 29 v) (h : HJ enc B7 W 0 (fun _ => true) true 29 v d p) (hw : (d.weights B7 29).all (· ≤ reachBytes) = true) (hb : Dl d ≤ 1048576) :
  ∃ w : WorldT, w.ok0 ∧ Rel W (avs (fun _ => False) (fun _ => none) []) (fun _ => none) [] (.agg w.l) v ∧ ∀ x ∈ w.c, x.small := by
 unfold EO at hok
 rw [Tryz.underlying29] at hok
 obtain ⟨cs, rfl, _, _⟩ := hok
 obtain ⟨fuel, hf⟩ := h
 obtain ⟨ds, h1, h2, h3⟩ := ge plain29 ju fuel 29 _ d p (by decide) hf hw
 obtain ⟨w, e, hw0⟩ := xr h1
 refine ⟨w, hw0, ?_, ze e h3 hb⟩
 rw [← e]
 simp only [Rel]
 exact ⟨cs, rfl, h2.relL⟩
end Go.Vi
open Go Go.Proofs
namespace Go.Vi
open Go.ChangeShapes Go.WideShapes Go.ChangeAt Go.RowKit Go.Proofs.YtilebidefogaiaaGreatDoor
set_option maxRecDepth 100000
theorem xv : sA B7 [3, 45, 47, 52] = true := by kernel_rfl
theorem cells45 : B7.cellsOf 45 = 1 := by kernel_rfl
theorem cells47 : B7.cellsOf 47 = 2 := by kernel_rfl
theorem cells52 : B7.cellsOf 52 = 5 := by kernel_rfl
theorem xw {n : Nat} {ds : List Dp} (h : Shp B7 n 52 ds) : ∃ a : AttT, ds = a.row ∧ True := by
 cases n with
 | zero => exact h.elim
 | succ n =>
  simp only [Shp, Tryz.underlying52, C5, fk, cells52] at h
  obtain ⟨hl, h1, h2, h3, h4, h5, _⟩ := h
  obtain ⟨a, e1, _⟩ := aN h1
  obtain ⟨b, e2, _⟩ := aN h2
  obtain ⟨c, e3, _⟩ := aN h3
  obtain ⟨d, e4, _⟩ := aN h4
  obtain ⟨e, e5, _⟩ := aN h5
  match ds, hl with
  | [p, q, r, t, u], _ =>
   simp at e1 e2 e3 e4 e5
   subst e1; subst e2; subst e3; subst e4; subst e5
   exact ⟨⟨a, b, c, d, e⟩, rfl, trivial⟩
theorem shp_rec {n : Nat} {ds : List Dp} (h : Shp B7 n 47 ds) : ∃ r : RecT, ds.map .p = r.l := by
 cases n with
 | zero => exact h.elim
 | succ n =>
  rw [Shp, Tryz.underlying47] at h
  simp only [C5, fk, cells45, cells47] at h
  obtain ⟨hl, h1, h2, _⟩ := h
  obtain ⟨a, e1, _⟩ := aN h1
  cases n with
  | zero => exact h2.elim
  | succ n =>
   simp only [Shp, Tryz.underlying45] at h2
   obtain ⟨es, e2, _, he⟩ := h2
   obtain ⟨l, rfl, _⟩ := gZ (row := AttT.row) (ok := fun _ => True) (fun r hr => xw (he r hr))
   match ds, hl with
   | [p, q], _ =>
    simp at e1 e2
    subst e1; subst e2
    exact ⟨⟨a, l⟩, rfl⟩
theorem arg_rec {H : Type} {enc : TypeId × Value → H} {W : World} {base : Nat} {v : Value} {d : DataW H} {p : List MemPlace}
  (hok : EO B7 W .any base 47 v) (h : HJ enc B7 W 0 (fun _ => true) true 47 v d p) (hw : (d.weights B7 47).all (· ≤ reachBytes) = true) :
  ∃ r : RecT, Rel W (avs (fun _ => False) (fun _ => none) []) (fun _ => none) [] (.agg r.l) v := by
 unfold EO at hok
 rw [Tryz.underlying47] at hok
 obtain ⟨cs, rfl, _, _⟩ := hok
 obtain ⟨fuel, hf⟩ := h
 obtain ⟨ds, h1, h2, _⟩ := ge xv ju fuel 47 _ d p (by decide) hf hw
 obtain ⟨r, e⟩ := shp_rec h1
 refine ⟨r, ?_⟩
 rw [← e]
 simp only [Rel]
 exact ⟨cs, rfl, h2.relL⟩
theorem arg_att {H : Type} {enc : TypeId × Value → H} {W : World} {base : Nat} {v : Value} {d : DataW H} {p : List MemPlace}
  (hok : EO B7 W .any base 52 v) (h : HJ enc B7 W 0 (fun _ => true) true 52 v d p) (hw : (d.weights B7 52).all (· ≤ reachBytes) = true) :
  ∃ a : AttT, Rel W (avs (fun _ => False) (fun _ => none) []) (fun _ => none) [] (ag a.row) v := by
 unfold EO at hok
 rw [Tryz.underlying52] at hok
 obtain ⟨cs, rfl, _, _⟩ := hok
 obtain ⟨fuel, hf⟩ := h
 obtain ⟨ds, h1, h2, _⟩ := ge xv ju fuel 52 _ d p (by decide) hf hw
 obtain ⟨a, rfl, _⟩ := xw h1
 refine ⟨a, ?_⟩
 simp only [Rel]
 exact ⟨cs, rfl, h2.relL⟩
theorem uf {H : Type} {ds gs : List (DataW H)} {d : DataW H} (h : Rows.uptoSmall H (ds ++ gs) = true) (hd : d ∈ ds) : Dl d ≤ 1048576 := by
 have key : ∀ l : List (DataW H), d ∈ l → Dl d ≤ El l := by
  intro l
  induction l with
  | nil => intro h; simp at h
  | cons x l ih =>
   intro h
   simp only [El]
   rcases CP.1 h with rfl | h
   ·omega
   ·have := ih h; omega
 have := of_decide_eq_true h
 have := key _ (List.mem_append_left gs hd)
 omega
end Go.Vi
open Go Go.Proofs
namespace Go.Vi
open Go.ChangeShapes Go.WideShapes Go.ChangeAt Go.RowKit Go.Proofs.YtilebidefogaiaaGreatDoor
set_option maxRecDepth 100000
def lookF (P : Program) (ks : List Nat) (bs : List UInt8) : Option Nat := ks.find? fun k => match P.funcs[k]? with
 | some fn => (fn.name.toUTF8.data.toList == bs) && (P.funcNamed fn.name == some k)
 | none => false
theorem zf {s t : String} (h : s.toUTF8.data.toList = t.toUTF8.data.toList) : s = t := by
 have h1 : s.toUTF8 = t.toUTF8 := by
  cases hs : s.toUTF8; cases ht : t.toUTF8
  rw [hs, ht] at h
  congr 1
  exact Array.toList_inj.1 h
 exact String.toByteArray_inj.1 h1
theorem rH {P : Program} {ks : List Nat} {t : TypeId} {v : Value} {b : UInt8} {r : List UInt8} {k : Nat} (hv : funcToken P (t, v) = b :: r) (hk : lookF P ks (b :: r) = some k) : v = .func (.func k) #[] #[] := by
 obtain ⟨f, fn, rfl, h1, h2, h3⟩ := funcToken_tells hv
 have h4 := List.find?_some hk
 split at h4
 ·rename_i fn' hfn
  simp only [Cd, beq_iff_eq] at h4
  have : fn.name = fn'.name := zf (h3.trans h4.1.symm)
  rw [this, h4.2] at h2
  cases h2
  rfl
 ·simp at h4
def expect (P : Program) (ks : List Nat) : Nat → TypeId → DataW (List UInt8) → Option (List Value)
 | 0, _, _ => none
 | n + 1, t, d => match P.underlying t with
  | some .bool => match d with
   | .lit (.bool b) => some [.bool b]
   | _ => none
  | some (.func ..) => match d with
   | .nil => some [.nilFunc]
   | .held (b :: r) => (lookF P ks (b :: r)).map fun k => [.func (.func k) #[] #[]]
   | _ => none
  | some (.struct fs) => match d with
   | .agg ds => if cH P fs.toList 0 (P.cellsOf t) then (zipE (fun f d => expect P ks n f d) (fs.toList.map (·.type)) ds) else none
   | _ => none
  | some (.array m e) => match d with
   | .agg ds => if decide (P.cellsOf t = m * P.cellsOf e) = true then zipE (fun f d => expect P ks n f d) (C0 m e) ds else none
   | _ => none
  | _ => none
where
 zipE (g : TypeId → DataW (List UInt8) → Option (List Value)) : List TypeId → List (DataW (List UInt8)) → Option (List Value)
  | [], [] => some []
  | t :: ts, d :: ds => (g t d).bind fun a => (zipE g ts ds).map fun b => a ++ b
  | _, _ => none
theorem pM {P : Program} {g : TypeId → DataW (List UInt8) → Option (List Value)} {tr : TypeId → List Value → Option (DataW (List UInt8) × List MemPlace)} {cs : List Value}
  (hg : ∀ t d ys, g t d = some ys → ∀ c p, tr t c = some (d, p) → c = ys) : ∀ (fs : List Field) (acc : Nat) (xs : List (DataW (List UInt8) × List MemPlace)) (ys : List Value),
  (fs.mapM fun f => tr f.type ((cs.drop f.offset).take (P.cellsOf f.type))) = some xs → cH P fs acc cs.length = true → expect.zipE g (fs.map (·.type)) (xs.map (·.1)) = some ys → cs.drop acc = ys
 | [], acc, xs, ys, hm, hc, hz => by
  simp at hm
  subst hm
  simp [expect.zipE] at hz
  subst hz
  simp [cH] at hc
  simp [hc]
 | f :: fs, acc, xs, ys, hm, hc, hz => by
  simp only [G7, Hi, D9, Option.pure_def, B5] at hm
  obtain ⟨x, hx, xs', hxs, rfl⟩ := hm
  simp only [cH, Cd, beq_iff_eq] at hc
  simp only [Dj, expect.zipE, D9, Cg] at hz
  obtain ⟨a, ha, b, hb, rfl⟩ := hz
  have h1 := hg _ _ _ ha _ x.2 (by rw [hx])
  have h2 := pM hg fs _ xs' b hxs hc.2 hb
  rw [← h1, ← h2, hc.1, ← FI, Fy]
theorem s4 {e : TypeId} {c : Nat} {g : TypeId → DataW (List UInt8) → Option (List Value)} {tr : TypeId → List Value → Option (DataW (List UInt8) × List MemPlace)} {cs : List Value}
  (hg : ∀ t d ys, g t d = some ys → ∀ c p, tr t c = some (d, p) → c = ys) : ∀ (n k : Nat) (xs : List (DataW (List UInt8) × List MemPlace)) (ys : List Value),
  ((List.range' k n).mapM fun i => tr e ((cs.drop (i * c)).take c)) = some xs → cs.length = (k + n) * c → expect.zipE g (C0 n e) (xs.map (·.1)) = some ys → cs.drop (k * c) = ys
 | 0, k, xs, ys, hm, hc, hz => by
  simp at hm
  subst hm
  simp [expect.zipE] at hz
  subst hz
  exact List.drop_eq_nil_of_le (by rw [hc]; simp)
 | n + 1, k, xs, ys, hm, hc, hz => by
  rw [List.range'_succ] at hm
  simp only [G7, Hi, D9, Option.pure_def, B5] at hm
  obtain ⟨x, hx, xs', hxs, rfl⟩ := hm
  rw [List.replicate_succ] at hz
  simp only [Dj, expect.zipE, D9, Cg] at hz
  obtain ⟨a, ha, b, hb, rfl⟩ := hz
  have h1 := hg _ _ _ ha _ x.2 (by rw [hx])
  have h2 := s4 hg n (k + 1) xs' b hxs (by rw [hc]; congr 1; omega) hb
  rw [← h1, ← h2, Nat.add_mul, Nat.one_mul, ← FI, Fy]
theorem kR {P : Program} {ks : List Nat} {w : World} {sp : Nat → Bool} : ∀ (n : Nat) (t : TypeId) (d : DataW (List UInt8)) (ys : List Value), expect P ks n t d = some ys → ∀ (fuel : Nat) (cs : List Value) (p : List MemPlace), EU (funcToken P) P w 0 sp true fuel t cs = some (d, p) → cs = ys
 | 0, _, _, _, h => by simp [expect] at h
 | n + 1, t, d, ys, h => by
  intro fuel cs p ht
  cases fuel with
  | zero => simp [EU] at ht
  | succ fuel =>
   unfold expect at h
   unfold EU at ht
   cases hu : P.underlying t with
   | none => rw [hu] at h; simp at h
   | some td =>
    rw [hu] at h ht
    cases td with
    | bool =>
     simp only at h ht
     split at h
     ·split at ht <;> simp_all
     ·simp at h
    | func a b c =>
     simp only at h ht
     split at h
     ·split at ht <;> simp_all
     ·rename_i b r
      obtain ⟨k, hk, rfl⟩ := Cg.1 h
      split at ht
      all_goals (try (simp_all; done))
      ·rename_i fn first captured _ _
       simp only [if_true, B5, Ca, DataW.held.injEq] at ht
       rw [rH ht.1 hk]
     ·simp at h
    | struct fs =>
     simp only at h ht
     split at h
     ·split at h
      ·rename_i hc
       split at ht
       ·rename_i hl
        obtain ⟨xs, hxs, he⟩ := Cg.1 ht
        simp only [Ca, Hx] at he
        obtain ⟨rfl, _⟩ := he
        have := pM (tr := fun t c => EU (funcToken P) P w 0 sp true fuel t c) (fun t d ys hg c p hp => kR n t d ys hg fuel c p hp) fs.toList 0 xs ys hxs (by rw [hl]; exact hc) h
        simpa using this
       ·simp at ht
      ·simp at h
     ·simp at h
    | array m e =>
     simp only at h ht
     split at h
     ·split at ht
      ·rename_i hl
       obtain ⟨xs, hxs, he⟩ := Cg.1 ht
       simp only [Ca, Hx] at he
       obtain ⟨rfl, _⟩ := he
       split at h
       ·rename_i hc
        rw [List.range_eq_range'] at hxs
        have := s4 (tr := fun t c => EU (funcToken P) P w 0 sp true fuel t c) (fun t d ys hg c p hp => kR n t d ys hg fuel c p hp) m 0 xs ys hxs (by rw [hl, Nat.zero_add]; exact of_decide_eq_true hc) h
        simpa using this
       ·simp at h
      ·simp at ht
     ·simp at h
    | _ => simp at h
end Go.Vi
open Go Go.Proofs
namespace Go.Vi
open Go.ChangeShapes Go.WideShapes Go.ChangeAt Go.RowKit Go.Proofs.YtilebidefogaiaaGreatDoor
set_option maxRecDepth 100000
def kindsKs : List Nat := [257, 258, 259, 260, 261, 262, 263, 264, 265, 267, 269, 270, 271, 272, 273, 274, 266, 275]
def kindsW : DataW Unit := match (Eh : DataW Unit) with
 | .iface _ d => d
 | d => d
theorem kS : B7.globalNamed "sizar/rules.kinds" = some 0 := by kernel_rfl
noncomputable def zW : TypeId := ((B7.globals[0]?).map (·.type)).getD 0
theorem ug : (B7.globals[0]?).map (·.type) = some zW := by kernel_rfl
theorem pN : expect B7 kindsKs 4 zW kindsW.funcsOut = some kindsCells := by kernel_rfl
theorem rI {W : World} (h : laidMetH B7 [("sizar/rules.kinds", Eh)] W) : ∃ cs : Array Value, W.var? B7 "sizar/rules.kinds" = some cs ∧ cs.toList = kindsCells := by
 obtain ⟨g, t, cs, fuel, p, h1, h2, h3, h4⟩ := laidMetH.funcs h (n := "sizar/rules.kinds") (d := kindsW) (List.mem_singleton.2 rfl)
 rw [kS] at h1
 cases h1
 rw [ug] at h2
 cases h2
 exact ⟨cs, h3, kR 4 _ _ _ pN fuel _ _ h4⟩
theorem mF {w : World} {av : Nat → Prop} {blk : Nat} {cs : Array Value} (hb : ∀ off, w.cell? ⟨blk, off, none⟩ = cs[off]?) (hav : ∀ k, ¬ av k) : ∀ (ys : List Value) (off : Nat), cs.toList.drop off = ys → RelCells w av blk off (ys.map .v)
 | [], _, _ => by simp [RelCells]
 | y :: ys, off, h => by
  have h1 : cs[off]? = some y := by
   have := congrArg List.head? h
   rw [List.head?_drop] at this
   simpa using this
  have h2 : cs.toList.drop (off + 1) = ys := by
   rw [← FI, h]; rfl
  simp only [Dj, RelCells]
  exact ⟨⟨hav blk, y, by rw [hb, h1], by simp [RelP]⟩, mF hb hav ys (off + 1) h2⟩
theorem xx : vC = kindsCells.map .v := rfl
theorem xy {W : World} (h : laidMetH B7 [("sizar/rules.kinds", Eh)] W) : ∀ g cs, Γk g = some cs → RelCells W (avs (fun _ => False) (fun _ => none) []) g 0 cs := by
 intro g cs hg
 obtain ⟨xs, h1, h2⟩ := rI h
 have h0 : g = 0 ∧ cs = vC := by
  unfold Γk at hg
  split at hg
  ·exact ⟨rfl, (Option.some.inj hg).symm⟩
  ·simp at hg
 obtain ⟨rfl, rfl⟩ := h0
 rw [xx]
 refine mF (cs := xs) (fun off => ?_) ju _ 0 (by rw [Gy, h2])
 rw [World.var?, kS] at h1
 simp only [Option.bind_some] at h1
 unfold Gu
 split at h1
 ·rename_i c a b hh
  cases h1
  simp only [hh]
  rfl
 ·simp at h1
end Go.Vi
