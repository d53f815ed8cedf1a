/- RecordFits: part of the proof: contracts of the functions that the law reaches, and the law. No conditions beyond the given statement's own. -/
import Derived.Test.YtilebidefogaiaaGreatDoorW4
import Derived.Ground.SlsfProg
open List renaming length_cons → DZ, map → De, map_append → Ek, getElem?_cons_succ → EI, set_cons_succ → IR, cons_append → GK, map_cons → En, all_cons → FH, getD → DS, length → Dh, getElem?_eq_some_iff → Dm, getElem?_eq_getElem → DF, length_zipIdx → IT, replicate → DQ
open Go.Vi.CourseT renaming row → Dt
open Go.Vi.SysT renaming row → Dw
open Go.Vi.FactT renaming row → Ds
open Go.Proofs.Tryz renaming prog → Dg, f118 → Fq, f61 → Iu
open Go.Vi.Ev renaming castH → Dv, nilW → G9, sym0 → DR, glob0 → DW, frameX → FD
open Go.Vi.D renaming tup → Em, mapR → DC, p → GD, any → EF, mapRL → D6
open Go.Vi.Blk renaming inn → Dy
open Go.Proofs.SlLaysF0 renaming n6 → HP
open Option.some renaming injEq → Df
open Prod.mk renaming injEq → Di
open Option renaming map_some → D9, isSome → DD, getD → D7
open Go.Vi.AttT renaming row → Dk
open Go.Vi.Dp renaming v → FS
open Go.Value renaming nilFunc → D3, oneCell' → El
open Int renaming toNat → Dz
open Go.IntKind renaming i64 → Dj, wrap → Dr
open Go.Vi.CW renaming cast → DN, symX → DP
open Go.Exit renaming normal → DE, ret → EY, exit → Ea
open Go.Vi.RuleT renaming fl → Dn
open Go Go.Proofs
namespace Go.Vi
set_option maxRecDepth 100000
set_option maxHeartbeats 4000000
theorem qp {w : WorldT} {term known : Int} {ns : List Int} : ∀ (f i : Nat) (s : RL), fb ns (eqOut w term known ns f i s).2 + (eqOut w term known ns f i s).2.length ≤ fb ns s.2 + s.2.length ∧ (eqOut w term known ns f i s).1.length ≤ s.1.length + f * ns.length
 | 0, _, s => by simp [eqOut]
 | f + 1, i, s => by
  cases ha : s.2[i]? with
  | none => rw [mP ha]; simp
  | some a =>
   have h1 := fD (w := w) (term := term) (known := known) (a := a) (ns := ns) ns (fun _ h => h) s
   have h2 := qp (w := w) (term := term) (known := known) (ns := ns) f (i + 1) (qm w term known ns a s)
   simp only [eqOut, ha]
   simp only [qm] at *
   rw [Nat.add_mul]
   omega
theorem tk {w : WorldT} {c term known : Int} : (fQ w c term known).2.length ≤ (ah w.f known).length + 1 ∧ (fQ w c term known).1.length ≤ 1 + ((ah w.f known).length + 1) * (ah w.f known).length := by
 have h := qp (w := w) (term := term) (known := known) (ns := ah w.f known) ((ah w.f known).length + 1) 0 ([rdN], [c])
 have h1 := kZ (ah w.f known) c
 unfold fQ
 simp only [DZ, List.length_nil] at h h1 ⊢
 omega
def bA (w : WorldT) (c term known : Int) : RL := match (!(decide (c ≥ 0) && decide (c ≤ 4095)) || !(decide (term ≥ 0) && decide (term ≤ 1023))) with
 | true => ([], [c])
 | false => ((fQ w c term known).1, xO w c term known)
theorem tl {w : WorldT} {c term known : Int} (hn : (ah w.f known).length ≤ 1000) : (bA w c term known).1.length ≤ 1001001 ∧ (bA w c term known).2.length ≤ 1001 := by
 have h := tk (w := w) (c := c) (term := term) (known := known)
 have h2 : ((ah w.f known).length + 1) * (ah w.f known).length ≤ 1001 * 1000 := Nat.mul_le_mul (by omega) hn
 unfold bA
 split
 ·simp
 ·simp only [xO, List.length_mergeSort]; omega
noncomputable abbrev mV (w : WorldT) : List Blk := [.var [ab (De Dt w.c), ab w.p, ab (De Dw w.s), ab (De Ds w.f)]]
theorem BL {w : WorldT} {c term known : Int} (hc : (!(decide (c ≥ 0) && decide (c ≤ 4095)) || !(decide (term ≥ 0) && decide (term ≤ 1023))) = true) (h : List Blk) : (Ev Dg Γ0 120 [.agg w.l, int c, int term, int known] h (.tup [ab ([c].map fun n => [vi n]), ab (rdR [])]) h) := by
 exact Dv (G9 (DR (d := Em [ab [[vi c]], nq]) pok [.val (bool (decide (c ≥ 0) && decide (c ≤ 4095))), .val (bool (decide (term ≥ 0) && decide (term ≤ 1023))), .b true, .nx 1, .st (.frz 1 [[vi c]])] (by kernel_rfl) (.c (@eA c 0 4095 (mV w)) (.c (gd (!!(decide (c ≥ 0) && decide (c ≤ 4095))) (@eA term 0 1023 (mV w))) (.c hc (.c (show [[int c]] = [[int c]] from rfl) .n)))) rfl rfl h)) (by rfl) (by rfl)
theorem yU {w : WorldT} (hw : w.ok) {c term known : Int} (hn : (ah w.f known).length ≤ 1000) (h : List Blk) : Ev Dg Γ0 120 [.agg w.l, int c, int term, int known] h (.tup [ab ((bA w c term known).2.map fun n => [vi n]), ab (rdR (bA w c term known).1)]) h := by
 unfold bA
 cases hc : (!(decide (c ≥ 0) && decide (c ≤ 4095)) || !(decide (term ≥ 0) && decide (term ≤ 1023)))
 ·exact BC hw hc hn (by have := (tk (w := w) (c := c) (term := term) (known := known)).1; omega) (fun h => kV hw.lf hw.sf h) h
 ·exact BL hc h
theorem wH {w : WorldT} (hw : w.ok) {c term known : Int} (hn : (ah w.f known).length ≤ 1000) (h : List Blk) : Ev Dg Γk 120 [.agg w.l, int c, int term, int known] h (.tup [ab ((bA w c term known).2.map fun n => [vi n]), ab (rdR (bA w c term known).1)]) h := DW (yU hw hn h)
noncomputable abbrev eW (w : WorldT) (known : Int) (n : Int) (term : Int) (rs : List ReadT) : List Blk := [.var [.ref (.vec 1 1), ab (De Dt w.c), ab w.p, ab (De Dw w.s), ab (De Ds w.f), int known], .vec (ai (rdR (rs ++ (bA w n term known).fst))) 1 5]
noncomputable abbrev oi (w : WorldT) (known : Int) (rs : List ReadT) : List Blk := [.var [.ref (.vec 1 0), ab (De Dt w.c), ab w.p, ab (De Dw w.s), ab (De Ds w.f), int known], .vec (ai (rdR rs)) 0 5]
theorem mW {w : WorldT} (hw : w.ok) {known n term : Int} (hn : (ah w.f known).length ≤ 1000) {rs : List ReadT} (hb : rs.length ≤ 990000000) : (Ev Dg Γk 63 [.ref (.ptr 0 0), int n, int term] (lkH w known rs 0) (ab ((bA w n term known).2.map fun n => [vi n])) (lkH w known (rs ++ (bA w n term known).1) 1)) := by
 refine Dv (Ev.post (d2 := ab (De (fun n => [vi n]) (bA w n term known).snd)) (h2 := (eW w known n term rs)) (φ := [Dy 2 (.var [.ref (.vec 1 1), ab (De Dt w.c), ab w.p, ab (De Dw w.s), ab (De Ds w.f), int known]) = true, Dy 2 (.vec (ai (rdR (rs ++ (bA w n term known).fst))) 1 5) = true]) [.st (.trimV 2)] (Ev.of_sym (h' := (eW w known n term rs)) (d := ab (De (fun n => [vi n]) (bA w n term known).snd)) pok [.val (Em [ab (De (fun n => [vi n]) (bA w n term known).snd), ab (rdR (bA w n term known).fst)]), .call (Em []) (eW w known n term rs)] (by kernel_rfl) (.c (@wH w hw n term known hn (oi w known rs)) (.c (@tf w known rs ((bA w n term known).fst) ?_) .n))) (by kernel_rfl) ⟨rfl, ?_, trivial⟩) (by first | rfl | (simp only [lkH, rdR, ai, Ek]; rfl) | (simp only [lkH, rdR, ai, Ek]; done)) (by first | rfl | (simp only [lkH, rdR, ai, Ek]; rfl) | (simp only [lkH, rdR, ai, Ek]; done)) <;> (first | assumption | rfl | omega | exact bL _ _ | exact af | (have := (tl (w := w) (c := n) (term := term) (known := known) hn).1; omega) | (simp; omega))
end Go.Vi
open Go Go.Proofs Go.Shelf
namespace Go.Proofs
def Tryz.sortSeen_ren : Go.Shelf.Ren := ⟨fun | 6 => 64 | 15 => 122 | 14 => 121 | 28 => 173 | 29 => 174 | 20 => 165 | 21 => 166 | 22 => 167 | 23 => 168 | 24 => 169 | 25 => 170 | 26 => 171 | 27 => 172 | 46 => 210 | 47 => 211 | 48 => 212 | 49 => 213 | 50 => 214 | 57 => 230 | n => n, fun | 22 => 33 | 24 => 115 | 25 => 130 | 3 => 3 | 39 => 192 | 0 => 0 | 53 => 233 | 55 => 169 | 4 => 4 | 46 => 227 | 45 => 226 | 50 => 150 | 5 => 5 | 9 => 9 | 66 => 251 | 70 => 255 | 76 => 265 | 77 => 266 | n => n, fun | n => n⟩
theorem Tryz.sortSeen : HP Dg Tryz.sortSeen_ren := {
 mixed := by kernel_rfl
 f6 := ⟨Tryz.f64.name, by decide, Tryz.func64.trans (congrArg some (by kernel_rfl))⟩
 f14 := ⟨Tryz.f121.name, by decide, Tryz.func121.trans (congrArg some (by kernel_rfl))⟩
 f15 := Tryz.func122.trans (congrArg some (by kernel_rfl))
 f20 := ⟨Tryz.f165.name, by decide, Tryz.func165.trans (congrArg some (by kernel_rfl))⟩
 f21 := ⟨Tryz.f166.name, by decide, Tryz.func166.trans (congrArg some (by kernel_rfl))⟩
 f22 := ⟨Tryz.f167.name, by decide, Tryz.func167.trans (congrArg some (by kernel_rfl))⟩
 f23 := ⟨Tryz.f168.name, by decide, Tryz.func168.trans (congrArg some (by kernel_rfl))⟩
 f24 := ⟨Tryz.f169.name, by decide, Tryz.func169.trans (congrArg some (by kernel_rfl))⟩
 f25 := ⟨Tryz.f170.name, by decide, Tryz.func170.trans (congrArg some (by kernel_rfl))⟩
 f26 := ⟨Tryz.f171.name, by decide, Tryz.func171.trans (congrArg some (by kernel_rfl))⟩
 f27 := ⟨Tryz.f172.name, by decide, Tryz.func172.trans (congrArg some (by kernel_rfl))⟩
 f28 := Tryz.func173.trans (congrArg some (by kernel_rfl))
 f29 := Tryz.func174.trans (congrArg some (by kernel_rfl))
 f46 := ⟨Tryz.f210.name, by decide, Tryz.func210.trans (congrArg some (by kernel_rfl))⟩
 f47 := Tryz.func211.trans (congrArg some (by kernel_rfl))
 f48 := Tryz.func212.trans (congrArg some (by kernel_rfl))
 f49 := ⟨Tryz.f213.name, by decide, Tryz.func213.trans (congrArg some (by kernel_rfl))⟩
 f50 := ⟨Tryz.f214.name, by decide, Tryz.func214.trans (congrArg some (by kernel_rfl))⟩
 f57 := ⟨Tryz.f230.name, by decide, Tryz.func230.trans (congrArg some (by kernel_rfl))⟩
 t0 := Tryz.underlying0
 a0 := Tryz.isAgg0
 z0 := Tryz.sizeOf0
 v0 := Tryz.zeroValue0
 t3 := Tryz.underlying3
 a3 := Tryz.isAgg3
 z3 := Tryz.sizeOf3
 v3 := Tryz.zeroValue3
 t4 := Tryz.underlying4
 a4 := Tryz.isAgg4
 z4 := Tryz.sizeOf4
 v4 := Tryz.zeroValue4
 t5 := Tryz.underlying5
 a5 := Tryz.isAgg5
 z5 := Tryz.sizeOf5
 v5 := Tryz.zeroValue5
 t9 := Tryz.underlying9
 a9 := Tryz.isAgg9
 z9 := Tryz.sizeOf9
 v9 := Tryz.zeroValue9
 t22 := Tryz.underlying33
 a22 := Tryz.isAgg33
 z22 := Tryz.sizeOf33
 v22 := Tryz.zeroValue33
 t25 := Tryz.underlying130
 a25 := Tryz.isAgg130
 z25 := Tryz.sizeOf130
 v25 := Tryz.zeroValue130
 t39 := Tryz.underlying192
 a39 := Tryz.isAgg192
 z39 := Tryz.sizeOf192
 v39 := Tryz.zeroValue192
 t45 := Tryz.underlying226
 a45 := Tryz.isAgg226
 z45 := Tryz.sizeOf226
 v45 := Tryz.zeroValue226
 t46 := Tryz.underlying227
 a46 := Tryz.isAgg227
 z46 := Tryz.sizeOf227
 v46 := Tryz.zeroValue227
 t50 := Tryz.underlying150
 a50 := Tryz.isAgg150
 z50 := Tryz.sizeOf150
 v50 := Tryz.zeroValue150
 t53 := Tryz.underlying233
 a53 := Tryz.isAgg233
 z53 := Tryz.sizeOf233
 v53 := Tryz.zeroValue233
 t55 := Tryz.underlying169
 a55 := Tryz.isAgg169
 z55 := Tryz.sizeOf169
 v55 := Tryz.zeroValue169
 t66 := Tryz.underlying251
 a66 := Tryz.isAgg251
 z66 := Tryz.sizeOf251
 v66 := Tryz.zeroValue251
 t70 := Tryz.underlying255
 a70 := Tryz.isAgg255
 z70 := Tryz.sizeOf255
 v70 := Tryz.zeroValue255
 t76 := Tryz.underlying265
 a76 := Tryz.isAgg265
 z76 := Tryz.sizeOf265
 v76 := Tryz.zeroValue265
 t77 := Tryz.underlying266
 a77 := Tryz.isAgg266
 z77 := Tryz.sizeOf266
 v77 := Tryz.zeroValue266 }
end Go.Proofs
namespace Go.Vi
open Go.Sort
set_option maxRecDepth 100000
set_option maxHeartbeats 4000000
structure SeenT where
 course : Int
 tries : Int
 best : Int
 now : Bool
 deriving Inhabited, DecidableEq
def SeenT.row (s : SeenT) : List Dp := [vi s.course, vi s.tries, vi s.best, .v (.bool s.now)]
noncomputable abbrev oj (a : SeenT) (b : SeenT) : List Blk := [.var [int a.course, int a.tries, int a.best, bool a.now], .var [int b.course, int b.tries, int b.best, bool b.now]]
theorem ux {a b : SeenT} (h : List Blk) : (Ev Dg Γ0 65 [ag a.row, ag b.row] h (int (aR a.course b.course)) h) := by
 exact Dv (DR (d := int (aR a.course b.course)) pok [.val (int (aR a.course b.course))] (by kernel_rfl) (.c (@cX (a.course) (b.course) (oj a b)) .n) rfl rfl h) (by rfl) (by rfl)
def C9 (a b : SeenT) : Int := aR a.course b.course
def leS (a b : SeenT) : Bool := !(ltOf C9) b a
theorem wI (a b : SeenT) : (ltOf C9) a b = true ↔ a.course < b.course := by
 unfold ltOf C9 aR
 simp only [decide_eq_true_eq]
 repeat' split
 all_goals simp_all
 all_goals omega
theorem ol (a b : SeenT) : (ltOf C9) a b = false ↔ ¬ a.course < b.course := by
 rw [← wI, Bool.not_eq_true]
theorem swoS : SWO (ltOf C9) where
 irrefl x := by rw [ol]; omega
 trans x y z h1 h2 := by rw [wI] at *; omega
 ntrans x y z h1 h2 := by rw [ol] at *; omega
def encS (a : SeenT) : List Value := [.int .i64 a.course, .int .i64 a.tries, .int .i64 a.best, .bool a.now]
abbrev aW (l : List SeenT) : List (List D) := l.map fun a => a.row.map .p
theorem rW {h : List Blk} {b e : Nat} {l : List SeenT} (hb : h[b]? = some (.vec (aW l) e 4)) (hl : l.length < 4611686018427387904) (hT : ∀ x ∈ l, ∀ y ∈ l, x.course = y.course → x = y) :
  Ev Dg Γ0 64 [.ref (.vec b e), .p (.v (.func (.func 65) #[] #[]))] h (.tup []) (h.set b (.vec (aW (l.mergeSort leS)) e 4)) :=
 jt (α := SeenT) (enc := encS) (k := 4) (cf := C9) pok Tryz.sortSeen Tryz.isAgg115 Tryz.sizeOf115 (fun _ => rfl) (fun x v hv => by simp [encS] at hv; rcases hv with rfl | rfl | rfl | rfl <;> rfl) swoS (by kernel_rfl) (fun x y => ux []) hb hl
  (fun x hx y hy h1 h2 => by
   rw [ol] at h1 h2
   exact hT x hx y hy (by omega))
end Go.Vi
open Go Go.Proofs
namespace Go.Vi
abbrev SM := List (Int × SeenT)
def seD (s : SeenT) : D := .agg (s.row.map .p)
def aQ : Nat → SM → List (D × D × Nat)
 | _, [] => []
 | j, (k, v) :: l => (int k, seD v, j) :: aQ (j + 1) l
def smB (l : SM) : Blk := .map (aQ 0 l) l.length
def jB : SM → Int → Option SeenT
 | [], _ => none
 | (a, v) :: l, k => if a = k then some v else jB l k
def b7 : SM → Int → SeenT → SM
 | [], k, v => [(k, v)]
 | (a, x) :: l, k, v => if a = k then (k, v) :: l else (a, x) :: b7 l k v
def xQ : SM → Int → Nat → Option (Nat × D)
 | [], _, _ => none
 | (a, v) :: l, k, i => if a = k then some (i, seD v) else xQ l k (i + 1)
theorem lg (k : Int) : ∀ (l : SM) (j i : Nat), da (int k) (aQ j l) i = some (xQ l k i)
 | [], _, _ => rfl
 | (a, v) :: l, j, i => by
  simp only [aQ, da, xQ]
  by_cases h : a = k
  ·subst h; simp [f5]
  ·have : f5 (int k) (int a) = some false := by
    have h2 : ¬ k = a := fun e => h e.symm
    simp [f5, h2]
   rw [this]
   simp only [h, if_false]
   exact lg k l (j + 1) (i + 1)
theorem li {k : Int} : ∀ {l : SM} {i : Nat}, xQ l k i = none → jB l k = none ∧ ∀ v, b7 l k v = l ++ [(k, v)]
 | [], _, _ => by simp [jB, b7]
 | (a, x) :: l, i, h => by
  unfold xQ at h
  split at h
  ·simp at h
  ·rename_i hne
   obtain ⟨h1, h2⟩ := li h
   simp only [jB, b7, hne, if_false, h1, true_and]
   intro v; rw [h2]; rfl
theorem lj {k : Int} : ∀ {l : SM} {i j n : Nat} {d : D}, xQ l k i = some (n, d) → ∃ v, d = seD v ∧ jB l k = some v ∧ i ≤ n ∧ ((aQ j l)[n - i]?).map (fun e => e.2.2) = some (j + (n - i)) ∧ ∀ x, aQ j (b7 l k x) = (aQ j l).set (n - i) (int k, seD x, j + (n - i)) ∧ (b7 l k x).length = l.length
 | [], _, _, _, _, h => by simp [xQ] at h
 | (a, x) :: l, i, j, n, d, h => by
  unfold xQ at h
  split at h
  ·rename_i ha
   simp only [Df, Di] at h
   obtain ⟨rfl, rfl⟩ := h
   exact ⟨x, rfl, by simp [jB, ha], Nat.le_refl _, by simp [aQ], fun y => by simp [b7, ha, aQ]⟩
  ·rename_i ha
   obtain ⟨v, h1, h2, h3, h4, h5⟩ := lj (j := j + 1) h
   have e : n - i = (n - (i + 1)) + 1 := by omega
   refine ⟨v, h1, by simp [jB, ha, h2], by omega, ?_, fun y => ?_⟩
   ·rw [e]; simp only [aQ, EI, h4]; congr 1; omega
   ·obtain ⟨h6, h7⟩ := h5 y
    simp only [b7, ha, if_false, aQ, h6]
    rw [e, IR]
    refine ⟨?_, by simp [h7]⟩
    rw [show j + 1 + (n - (i + 1)) = j + (n - (i + 1) + 1) by omega]
def uy : SeenT := ⟨0, 0, 0, false⟩
theorem uz {P : Program} {h : List Blk} {t : TypeId} {b : Nat} {l : SM} {c : Int} {kt et : TypeId} (hk : cr P kt (int c) = true) (ht : P.underlying t = some (.map kt et)) (hz : gq P et = some (.agg #[.int .i64 0, .int .i64 0, .int .i64 0, .bool false])) (hb : h[b]? = some (smB l)) :
  ar P h t (.ref (.mp b)) (int c) false = some (seD ((jB l c).getD uy)) := by
 unfold ar
 simp only [ht, jV, hb, smB, hk, if_true, hz, lg]
 cases hi : xQ l c 0 with
 | none =>
  rw [(li hi).1]; rfl
 | some p =>
  obtain ⟨n, d⟩ := p
  obtain ⟨v, rfl, h2, _⟩ := lj (j := 0) hi
  rw [h2]; rfl
theorem tm (k : Int) (v : SeenT) : ∀ (l : SM) (j : Nat), aQ j (l ++ [(k, v)]) = aQ j l ++ [(int k, seD v, j + l.length)]
 | [], j => by simp [aQ]
 | (a, x) :: l, j => by
  simp only [GK, aQ, tm k v l (j + 1), DZ]
  rw [show j + 1 + l.length = j + (l.length + 1) by omega]
theorem wJ {P : Program} {h : List Blk} {t : TypeId} {b : Nat} {l : SM} {c : Int} {v : SeenT} {kt et : TypeId} (hk : cr P kt (int c) = true) (ht : P.underlying t = some (.map kt et)) (hb : h[b]? = some (smB l)) :
  ap P h t (.ref (.mp b)) (int c) (seD v) = some (h.set b (smB (b7 l c v))) := by
 unfold ap
 simp only [ht, hb, smB, hk, if_true, lg]
 cases hi : xQ l c 0 with
 | none =>
  simp only [(li hi).2 v, tm]
  simp
 | some p =>
  obtain ⟨n, d⟩ := p
  obtain ⟨x, rfl, _, _, h4, h5⟩ := lj (j := 0) hi
  obtain ⟨h6, h7⟩ := h5 v
  simp only [Nat.sub_zero, Nat.zero_add] at h4 h6
  cases hn : (aQ 0 l)[n]? with
  | none => rw [hn] at h4; simp at h4
  | some e =>
   rw [hn] at h4
   obtain ⟨e1, e2, e3⟩ := e
   simp only [D9, Df] at h4
   subst h4
   simp only [h6, h7]
   rw [hn]
theorem aG (f : Ref → D) : ∀ (l : SM) (j : Nat), (aQ j l).map (fun e => (DC f e.1, DC f e.2.1, e.2.2)) = aQ j l
 | [], _ => rfl
 | (a, x) :: l, j => by simp only [aQ, En, aG f l (j + 1)]; rfl
theorem tn (n : Nat) : ∀ (l : SM) (j : Nat), ((aQ j l).all fun e => D.inn n e.1 && D.inn n e.2.1) = true
 | [], _ => rfl
 | (a, x) :: l, j => by simp only [aQ, FH, tn n l (j + 1)]; rfl
theorem bB {n : Nat} {l : SM} : Dy n (smB l) = true := tn n l 0
end Go.Vi
open Go Go.Proofs
namespace Go.Vi
abbrev IM := List (Int × Int)
def aq : Nat → IM → List (D × D × Nat)
 | _, [] => []
 | j, (k, v) :: l => (int k, int v, j) :: aq (j + 1) l
def imB (l : IM) : Blk := .map (aq 0 l) l.length
def imGet : IM → Int → Option Int
 | [], _ => none
 | (a, v) :: l, k => if a = k then some v else imGet l k
def aK : IM → Int → Int → IM
 | [], k, v => [(k, v)]
 | (a, x) :: l, k, v => if a = k then (k, v) :: l else (a, x) :: aK l k v
theorem qr (l : IM) (k v k' : Int) : imGet (aK l k v) k' = if k = k' then some v else imGet l k' := by
 induction l with
 | nil => simp [aK, imGet]
 | cons e l ih =>
  obtain ⟨a, x⟩ := e
  unfold aK
  by_cases h : a = k
  ·subst h
   simp only [if_true, imGet]
   by_cases h2 : a = k' <;> simp [h2]
  ·simp only [h, if_false, imGet, ih]
   by_cases h2 : a = k'
   ·subst h2; simp [Ne.symm h]
   ·simp [h2]
def wK : IM → Int → Nat → Option (Nat × D)
 | [], _, _ => none
 | (a, v) :: l, k, i => if a = k then some (i, int v) else wK l k (i + 1)
theorem hR (k : Int) : ∀ (l : IM) (j i : Nat), da (int k) (aq j l) i = some (wK l k i)
 | [], _, _ => rfl
 | (a, v) :: l, j, i => by
  simp only [aq, da, wK]
  by_cases h : a = k
  ·subst h; simp [f5]
  ·have : f5 (int k) (int a) = some false := by
    have h2 : ¬ k = a := fun e => h e.symm
    simp [f5, h2]
   rw [this]
   simp only [h, if_false]
   exact hR k l (j + 1) (i + 1)
theorem hZ {k : Int} : ∀ {l : IM} {i : Nat}, wK l k i = none → imGet l k = none ∧ ∀ v, aK l k v = l ++ [(k, v)]
 | [], _, _ => by simp [imGet, aK]
 | (a, x) :: l, i, h => by
  unfold wK at h
  split at h
  ·simp at h
  ·rename_i hne
   obtain ⟨h1, h2⟩ := hZ h
   simp only [imGet, aK, hne, if_false, h1, true_and]
   intro v; rw [h2]; rfl
theorem ia {k : Int} : ∀ {l : IM} {i j n : Nat} {d : D}, wK l k i = some (n, d) → ∃ v, d = int v ∧ imGet l k = some v ∧ i ≤ n ∧ ((aq j l)[n - i]?).map (fun e => e.2.2) = some (j + (n - i)) ∧ ∀ x, aq j (aK l k x) = (aq j l).set (n - i) (int k, int x, j + (n - i)) ∧ (aK l k x).length = l.length
 | [], _, _, _, _, h => by simp [wK] at h
 | (a, x) :: l, i, j, n, d, h => by
  unfold wK at h
  split at h
  ·rename_i ha
   simp only [Df, Di] at h
   obtain ⟨rfl, rfl⟩ := h
   exact ⟨x, rfl, by simp [imGet, ha], Nat.le_refl _, by simp [aq], fun y => by simp [aK, ha, aq]⟩
  ·rename_i ha
   obtain ⟨v, h1, h2, h3, h4, h5⟩ := ia (j := j + 1) h
   have e : n - i = (n - (i + 1)) + 1 := by omega
   refine ⟨v, h1, by simp [imGet, ha, h2], by omega, ?_, fun y => ?_⟩
   ·rw [e]; simp only [aq, EI, h4]; congr 1; omega
   ·obtain ⟨h6, h7⟩ := h5 y
    simp only [aK, ha, if_false, aq, h6]
    rw [e, IR]
    refine ⟨?_, by simp [h7]⟩
    rw [show j + 1 + (n - (i + 1)) = j + (n - (i + 1) + 1) by omega]
theorem qt {P : Program} {h : List Blk} {t : TypeId} {b : Nat} {l : IM} {c : Int} {kt et : TypeId} (hk : cr P kt (int c) = true) (ht : P.underlying t = some (.map kt et)) (hz : gq P et = some (.int .i64 0)) (hb : h[b]? = some (imB l)) :
  ar P h t (.ref (.mp b)) (int c) true = some (.tup [int ((imGet l c).getD 0), bool (imGet l c).isSome]) := by
 unfold ar
 simp only [ht, jV, hb, imB, hk, if_true, hz, hR]
 cases hi : wK l c 0 with
 | none =>
  rw [(hZ hi).1]; rfl
 | some p =>
  obtain ⟨n, d⟩ := p
  obtain ⟨v, rfl, h2, _⟩ := ia (j := 0) hi
  rw [h2]; rfl
theorem mX {P : Program} {h : List Blk} {t : TypeId} {b : Nat} {l : IM} {c : Int} {kt et : TypeId} (hk : cr P kt (int c) = true) (ht : P.underlying t = some (.map kt et)) (hz : gq P et = some (.int .i64 0)) (hb : h[b]? = some (imB l)) :
  ar P h t (.ref (.mp b)) (int c) false = some (int ((imGet l c).getD 0)) := by
 unfold ar
 simp only [ht, jV, hb, imB, hk, if_true, hz, hR]
 cases hi : wK l c 0 with
 | none =>
  rw [(hZ hi).1]; rfl
 | some p =>
  obtain ⟨n, d⟩ := p
  obtain ⟨v, rfl, h2, _⟩ := ia (j := 0) hi
  rw [h2]; rfl
theorem tp (k v : Int) : ∀ (l : IM) (j : Nat), aq j (l ++ [(k, v)]) = aq j l ++ [(int k, int v, j + l.length)]
 | [], j => by simp [aq]
 | (a, x) :: l, j => by
  simp only [GK, aq, tp k v l (j + 1), DZ]
  rw [show j + 1 + l.length = j + (l.length + 1) by omega]
theorem ib {P : Program} {h : List Blk} {t : TypeId} {b : Nat} {l : IM} {c v : Int} {kt et : TypeId} (hk : cr P kt (int c) = true) (ht : P.underlying t = some (.map kt et)) (hb : h[b]? = some (imB l)) :
  ap P h t (.ref (.mp b)) (int c) (int v) = some (h.set b (imB (aK l c v))) := by
 unfold ap
 simp only [ht, hb, imB, hk, if_true, hR]
 cases hi : wK l c 0 with
 | none =>
  simp only [(hZ hi).2 v, tp]
  simp
 | some p =>
  obtain ⟨n, d⟩ := p
  obtain ⟨x, rfl, _, _, h4, h5⟩ := ia (j := 0) hi
  obtain ⟨h6, h7⟩ := h5 v
  simp only [Nat.sub_zero, Nat.zero_add] at h4 h6
  cases hn : (aq 0 l)[n]? with
  | none => rw [hn] at h4; simp at h4
  | some e =>
   rw [hn] at h4
   obtain ⟨e1, e2, e3⟩ := e
   simp only [D9, Df] at h4
   subst h4
   simp only [h6, h7]
   rw [hn]
theorem aF (f : Ref → D) : ∀ (l : IM) (j : Nat), (aq j l).map (fun e => (DC f e.1, DC f e.2.1, e.2.2)) = aq j l
 | [], _ => rfl
 | (a, x) :: l, j => by simp only [aq, En, aF f l (j + 1)]; rfl
theorem tq (n : Nat) : ∀ (l : IM) (j : Nat), ((aq j l).all fun e => D.inn n e.1 && D.inn n e.2.1) = true
 | [], _ => rfl
 | (a, x) :: l, j => by simp only [aq, FH, tq n l (j + 1)]; rfl
theorem aU {n : Nat} {l : IM} : Dy n (imB l) = true := tq n l 0
end Go.Vi
open Go Go.Proofs
namespace Go.Vi
set_option maxRecDepth 100000
set_option maxHeartbeats 4000000
theorem wL {l : List AttT} (h : List Blk) : ∀ c ∈ l, Iv Dg Γ0 (.p (.v (.func (.func 156) #[] #[]))) [ag c.row] h (bool (!oO c)) h := fun c _ => Iv.of (f := 156) (fi := []) (ca := []) pok (by kernel_rfl) (by kernel_rfl) (vT h)
def di (l : List AttT) : Int := bif l.any (fun a => !oO a) then 150 else 0
theorem yV {l : List AttT} (hl : al l) (hf : ∀ c ∈ l, Iv Dg Γ0 (.p (.v (.func (.func 156) #[] #[]))) [ag c.row] [] (bool (!oO c)) []) (h : List Blk) : (Ev Dg Γ0 106 [ab (l.map Dk)] h (int (di l)) h) := by
 cases hc0 : List.any l fun c => !oO c
 ·exact Dv (DR (d := int 0) pok [.val (bool (List.any l fun c => !oO c)), .b false] (by kernel_rfl) (.c (@zR l hl (fq 156) ([]) (fun c => !oO c) hf) (.c hc0 .n)) rfl rfl h) (by simp only [di, hc0, cond_false]) (by rfl)
 ·exact Dv (DR (d := int 150) pok [.val (bool (List.any l fun c => !oO c)), .b true] (by kernel_rfl) (.c (@zR l hl (fq 156) ([]) (fun c => !oO c) hf) (.c hc0 .n)) rfl rfl h) (by simp only [di, hc0, cond_true]) (by rfl)
theorem dg {l : List AttT} (hl : al l) (h : List Blk) : Ev Dg Γ0 106 [ab (l.map Dk)] h (int (di l)) h := yV hl (wL []) h
theorem wM {a b : AttT} (h : List Blk) : (Ev Dg Γ0 208 [ag a.row, ag b.row] h (bool (decide (a.grade > b.grade) || (a.grade == b.grade && decide (a.term < b.term)))) h) := by
 exact Dv (DR (d := bool (decide (a.grade > b.grade) || a.grade == b.grade && decide (a.term < b.term))) pok [] (by kernel_rfl) .n rfl rfl h) (by rfl) (by rfl)
theorem wN {a b : AttT} (h : List Blk) : (Ev Dg Γ0 209 [ag a.row, ag b.row] h (bool (decide (a.term ≥ b.term))) h) := by
 exact Dv (DR (d := bool (decide (a.term ≥ b.term))) pok [] (by kernel_rfl) .n rfl rfl h) (by rfl) (by rfl)
abbrev wO : List D := [bool true, fnv 208, bool true, fnv 209, bool false, lit .nilFunc]
theorem tt (h : List Blk) : (Ev Dg Γ0 163 [] h (.agg wO) h) := by
 exact Dv (DR (d := D.agg [bool true, fq 208, bool true, fq 209, bool false, GD (FS D3)]) pok [] (by kernel_rfl) .n rfl rfl h) (by rfl) (by rfl)
end Go.Vi
open Go Go.Proofs
namespace Go.Vi
set_option maxRecDepth 100000
set_option maxHeartbeats 4000000
abbrev caH (m1 m2 : IM) : List Blk := [.var wO, imB m1, imB m2]
abbrev caS (l : List AttT) (rp : List (List Dp)) (m1 m2 : IM) (i : Int) : AS :=
 { t := mkT 135 0 [(0, ab (l.map Dk)), (1, ab rp), (4, dt), (5, int 0), (6, .ref (.ptr 0 0)), (7, .ref (.mp 1)), (8, .ref (.mp 2)), (32, ab (l.map Dk)), (33, int (l.map Dk).length), (34, int i)], h := caH m1 m2, m := [] }
theorem lk1 {h : List Blk} {m : IM} {c : Int} (hb : h[1]? = some (imB m)) : ar Dg h 125 (.ref (.mp 1)) (int c) true = some (.tup [int ((imGet m c).getD 0), bool (imGet m c).isSome]) := qt (kt := 3) (et := 3) (by kernel_rfl) (by kernel_rfl) (by kernel_rfl) hb
theorem lk2 {h : List Blk} {m : IM} {c : Int} (hb : h[2]? = some (imB m)) : ar Dg h 125 (.ref (.mp 2)) (int c) true = some (.tup [int ((imGet m c).getD 0), bool (imGet m c).isSome]) := qt (kt := 3) (et := 3) (by kernel_rfl) (by kernel_rfl) (by kernel_rfl) hb
theorem up1 {h : List Blk} {m : IM} {c v : Int} (hb : h[1]? = some (imB m)) : ap Dg h 125 (.ref (.mp 1)) (int c) (int v) = some (h.set 1 (imB (aK m c v))) := ib (kt := 3) (et := 3) (by kernel_rfl) (by kernel_rfl) hb
theorem up2 {h : List Blk} {m : IM} {c v : Int} (hb : h[2]? = some (imB m)) : ap Dg h 125 (.ref (.mp 2)) (int c) (int v) = some (h.set 2 (imB (aK m c v))) := ib (kt := 3) (et := 3) (by kernel_rfl) (by kernel_rfl) hb
def bM (r : Int) (o : Option Int) : Bool := !(decide (r ≥ 0) && decide (r ≤ 2)) || (o.isSome && (o.getD 0 != r))
def rep0 (a b : AttT) : Bool := decide (a.grade > b.grade) || (a.grade == b.grade && decide (a.term < b.term))
def rep1 (a b : AttT) : Bool := decide (a.term ≥ b.term)
def repB (r : Int) (a b : AttT) : Bool := if r = 0 then rep0 a b else rep1 a b
def cx (l : List AttT) (r : Int) (a : AttT) (o : Option Int) : Bool := (r == 0 || r == 1) && (!o.isSome || repB r a (l.getD (Dz (o.getD 0)) default))
def caF (l : List AttT) (i : Int) (r : Int) (a : AttT) (s : IM × IM) : (IM × IM) ⊕ Unit := match bM r (imGet s.1 a.course) with
 | true => .inr ()
 | false => .inl (aK s.1 a.course r, match cx l r a (imGet s.2 a.course) with | true => aK s.2 a.course i | false => s.2)
abbrev caX : Unit → Exit × AS := fun _ => (.ret, { t := mkT 135 0 [(4, dt), (5, int 1)], h := [], m := [] })
theorem caHit0 {l : List AttT} {a : AttT} {o : Option Int} : cx l 0 a o = (true && (!DD o || (decide (a.grade > (DS l (Dz (D7 o 0)) default).grade) || (a.grade == (DS l (Dz (D7 o 0)) default).grade && decide (a.term < (DS l (Dz (D7 o 0)) default).term))))) := by simp [cx, repB, rep0]
theorem caHit1 {l : List AttT} {a : AttT} {o : Option Int} : cx l 1 a o = (true && (!DD o || decide (a.term ≥ (DS l (Dz (D7 o 0)) default).term))) := by simp [cx, repB, rep1]
theorem wP {l : List AttT} {a : AttT} {o : Option Int} : cx l 2 a o = false := by simp [cx]
noncomputable abbrev eX (m1 : IM) (m2 : IM) (a : AttT) : List Blk := [.var [bool true, fq 208, bool true, fq 209, bool false, GD (FS D3)], .map (aq 0 (aK m1 a.course 0)) (Dh (aK m1 a.course 0)), .map (aq 0 m2) (Dh m2), .var [int a.course, int a.term, int a.grade, int a.campus, int a.credits]]
noncomputable abbrev d8 (m1 : IM) (m2 : IM) (a : AttT) : List Blk := [.var [bool true, fq 208, bool true, fq 209, bool false, GD (FS D3)], .map (aq 0 m1) (Dh m1), .map (aq 0 m2) (Dh m2), .var [int a.course, int a.term, int a.grade, int a.campus, int a.credits]]
theorem ca_b0 {l : List AttT} {rp : List (List Dp)} {m1 m2 : IM} {i : Nat} {a : AttT} (hm : ∀ v, imGet m2 a.course = some v → 0 ≤ v ∧ v < (l.length : Int)) (hr : aM (i : Int) (l.map Dk) a.row 5) (hq : aM (i : Int) rp [vi 0] 1) (hlt : decide ((i : Int) < ((l.map Dk).length : Int)) = true) (hw : Dj.wrap ((i : Int) + 1) = ((i + 1 : Nat) : Int)) : (CW Dg Γ0 [] false (sub Fq 0) (caS l rp m1 m2 i) (ad (fun s => caS l rp s.1 s.2 ((i + 1 : Nat) : Int)) caX (caF l i 0 a (m1, m2))).1 (ad (fun s => caS l rp s.1 s.2 ((i + 1 : Nat) : Int)) caX (caF l i 0 a (m1, m2))).2) := by
 cases hc0 : !(decide (0 ≥ 0) && decide (0 ≤ 2)) || DD (imGet m1 a.course) && D7 (imGet m1 a.course) 0 != 0
 ·cases hc1 : true && (!DD (imGet m2 a.course) || (decide (a.grade > (DS l (Dz (D7 (imGet m2 a.course) 0)) default).grade) || a.grade == (DS l (Dz (D7 (imGet m2 a.course) 0)) default).grade && decide (a.term < (DS l (Dz (D7 (imGet m2 a.course) 0)) default).term)))
  ·let v0 := DS l (Dz (D7 (imGet m2 a.course) 0)) default
   let v1 := Em [int (D7 (imGet m1 a.course) 0), bool (DD (imGet m1 a.course))]
   let v2 := Em [int (D7 (imGet m2 a.course) 0), bool (DD (imGet m2 a.course))]
   refine DN (DP (s' := { t := mkT 135 0 [(0, ab (De Dk l)), (1, ab rp), (4, nq), (5, int 0), (6, .ref (.ptr 0 0)), (7, .ref (.mp 1)), (8, .ref (.mp 2)), (32, ab (De Dk l)), (33, int (↑(Dh (De Dk l)) : Int)), (34, int (Dr Dj ((↑i : Int) + 1)))], h := [.var [bool true, fq 208, bool true, fq 209, bool false, GD (FS D3)], .map (aq 0 (aK m1 a.course 0)) (Dh (aK m1 a.course 0)), .map (aq 0 m2) (Dh m2)], m := [] }) (e := DE) pok [.st (.mask [0, 1, 4, 5, 6, 7, 8, 32, 33, 34]), .st (.trimV 3)] [.b true, .row (Dk a), .ov 43 v1, .row [vi 0], .val (bool (decide (0 ≥ 0) && decide (0 ≤ 2))), .row [vi 0], .b false, .row [vi 0], .oh 10063 EF (caH (aK m1 a.course 0) m2 ++ [.var (De GD (Dk a))]), .ov 74 v2, .row [vi 0], .row [vi 0], .row (Dk v0), .val (bool (decide (a.grade > v0.grade) || a.grade == v0.grade && decide (a.term < v0.term))), .b false] (by kernel_rfl) (.c hlt (.c hr (.c (show ar Dg (d8 m1 m2 a) 125 (.ref (.mp 1)) (int a.course) true = some v1 from ?_) (.c hq (.c (@cJ 0 0 2 (d8 m1 m2 a)) (.c (show (!!(decide (0 ≥ 0) && decide (0 ≤ 2)) && DD (imGet m1 a.course)) = true → aM (↑i : Int) rp [vi 0] 1 from (fun hg => hq)) (.c hc0 (.c hq (.c (show ap Dg (d8 m1 m2 a) 125 (.ref (.mp 1)) (int a.course) (int 0) = some (eX m1 m2 a) from ?_) (.e (.ref (.ptr 3 0)) (.e (int a.course) (.c (show ar Dg (eX m1 m2 a) 125 (.ref (.mp 2)) (int a.course) true = some v2 from ?_) (.c hq (.c (show inR 0 3 = true from rfl) (.c (show (true && !!DD (imGet m2 a.course)) = true → aM (↑i : Int) rp [vi 0] 1 from (fun hg => hq)) (.c (show (true && !!DD (imGet m2 a.course)) = true → inR 0 3 = true from (fun hg => rfl)) (.c (show (true && !!DD (imGet m2 a.course)) = true → aM (D7 (imGet m2 a.course) 0) (De Dk l) (Dk v0) 5 from (fun hg => ?_)) (.c (gd (true && !!DD (imGet m2 a.course)) (@wM a v0 (eX m1 m2 a))) (.c hc1 (.c (show Dy 3 (.var [bool true, fq 208, bool true, fq 209, bool false, GD (FS D3)]) = true from rfl) (.c (show Dy 3 (.map (aq 0 (aK m1 a.course 0)) (Dh (aK m1 a.course 0))) = true from ?_) (.c (show Dy 3 (.map (aq 0 m2) (Dh m2)) = true from ?_) .n))))))))))))))))))))))) (by subst v0 v1 v2; first | (have h1 : bM 0 (imGet m1 a.course) = true := hc0; simp only [caF, h1, ad]; first | done | rfl) | (have h1 : bM 0 (imGet m1 a.course) = false := hc0; have h2 : cx l 0 a (imGet m2 a.course) = true := caHit0.trans hc1; simp only [caF, h1, h2, ad, hw]; first | done | rfl) | (have h1 : bM 0 (imGet m1 a.course) = false := hc0; have h2 : cx l 0 a (imGet m2 a.course) = false := caHit0.trans hc1; simp only [caF, h1, h2, ad]; first | done | rfl)) (by subst v0 v1 v2; first | (have h1 : bM 0 (imGet m1 a.course) = true := hc0; simp only [caF, h1, ad]; first | done | rfl) | (have h1 : bM 0 (imGet m1 a.course) = false := hc0; have h2 : cx l 0 a (imGet m2 a.course) = true := caHit0.trans hc1; simp only [caF, h1, h2, ad, hw]; first | done | rfl) | (have h1 : bM 0 (imGet m1 a.course) = false := hc0; have h2 : cx l 0 a (imGet m2 a.course) = false := caHit0.trans hc1; simp only [caF, h1, h2, ad, hw]; first | done | rfl)) <;> subst v0 v1 v2 <;> (first | assumption | rfl | exact lk1 rfl | exact lk2 rfl | exact up1 rfl | exact up2 rfl | exact aU | (refine bl (fun _ => rfl) ?_ ?_ <;> (cases hz : imGet m2 a.course <;> simp_all; done)) | (simp_all; done))
  ·let v0 := DS l (Dz (D7 (imGet m2 a.course) 0)) default
   let v1 := Em [int (D7 (imGet m1 a.course) 0), bool (DD (imGet m1 a.course))]
   let v2 := Em [int (D7 (imGet m2 a.course) 0), bool (DD (imGet m2 a.course))]
   let v3 := Dh (aK m1 a.course 0)
   refine DN (DP (s' := { t := mkT 135 0 [(0, ab (De Dk l)), (1, ab rp), (4, nq), (5, int 0), (6, .ref (.ptr 0 0)), (7, .ref (.mp 1)), (8, .ref (.mp 2)), (32, ab (De Dk l)), (33, int (↑(Dh (De Dk l)) : Int)), (34, int (Dr Dj ((↑i : Int) + 1)))], h := [.var [bool true, fq 208, bool true, fq 209, bool false, GD (FS D3)], .map (aq 0 (aK m1 a.course 0)) v3, .map (aq 0 (aK m2 a.course (↑i : Int))) (Dh (aK m2 a.course (↑i : Int)))], m := [] }) (e := DE) pok [.st (.mask [0, 1, 4, 5, 6, 7, 8, 32, 33, 34]), .st (.trimV 3)] [.b true, .row (Dk a), .ov 43 v1, .row [vi 0], .val (bool (decide (0 ≥ 0) && decide (0 ≤ 2))), .row [vi 0], .b false, .row [vi 0], .oh 10063 EF (caH (aK m1 a.course 0) m2 ++ [.var (De GD (Dk a))]), .ov 74 v2, .row [vi 0], .row [vi 0], .row (Dk v0), .val (bool (decide (a.grade > v0.grade) || a.grade == v0.grade && decide (a.term < v0.term))), .b true, .oh 10103 EF (caH (aK m1 a.course 0) (aK m2 a.course (↑i : Int)) ++ [.var (De GD (Dk a))])] (by kernel_rfl) (.c hlt (.c hr (.c (show ar Dg (d8 m1 m2 a) 125 (.ref (.mp 1)) (int a.course) true = some v1 from ?_) (.c hq (.c (@cJ 0 0 2 (d8 m1 m2 a)) (.c (show (!!(decide (0 ≥ 0) && decide (0 ≤ 2)) && DD (imGet m1 a.course)) = true → aM (↑i : Int) rp [vi 0] 1 from (fun hg => hq)) (.c hc0 (.c hq (.c (show ap Dg (d8 m1 m2 a) 125 (.ref (.mp 1)) (int a.course) (int 0) = some (eX m1 m2 a) from ?_) (.e (.ref (.ptr 3 0)) (.e (int a.course) (.c (show ar Dg (eX m1 m2 a) 125 (.ref (.mp 2)) (int a.course) true = some v2 from ?_) (.c hq (.c (show inR 0 3 = true from rfl) (.c (show (true && !!DD (imGet m2 a.course)) = true → aM (↑i : Int) rp [vi 0] 1 from (fun hg => hq)) (.c (show (true && !!DD (imGet m2 a.course)) = true → inR 0 3 = true from (fun hg => rfl)) (.c (show (true && !!DD (imGet m2 a.course)) = true → aM (D7 (imGet m2 a.course) 0) (De Dk l) (Dk v0) 5 from (fun hg => ?_)) (.c (gd (true && !!DD (imGet m2 a.course)) (@wM a v0 (eX m1 m2 a))) (.c hc1 (.c (show ap Dg (eX m1 m2 a) 125 (.ref (.mp 2)) (int a.course) (int (↑i : Int)) = some [.var [bool true, fq 208, bool true, fq 209, bool false, GD (FS D3)], .map (aq 0 (aK m1 a.course 0)) v3, .map (aq 0 (aK m2 a.course (↑i : Int))) (Dh (aK m2 a.course (↑i : Int))), .var [int a.course, int a.term, int a.grade, int a.campus, int a.credits]] from ?_) (.c (show Dy 3 (.var [bool true, fq 208, bool true, fq 209, bool false, GD (FS D3)]) = true from rfl) (.c (show Dy 3 (.map (aq 0 (aK m1 a.course 0)) v3) = true from ?_) (.c (show Dy 3 (.map (aq 0 (aK m2 a.course (↑i : Int))) (Dh (aK m2 a.course (↑i : Int)))) = true from ?_) .n)))))))))))))))))))))))) (by subst v0 v1 v2 v3; first | (have h1 : bM 0 (imGet m1 a.course) = true := hc0; simp only [caF, h1, ad]; first | done | rfl) | (have h1 : bM 0 (imGet m1 a.course) = false := hc0; have h2 : cx l 0 a (imGet m2 a.course) = true := caHit0.trans hc1; simp only [caF, h1, h2, ad]; first | done | rfl) | (have h1 : bM 0 (imGet m1 a.course) = false := hc0; have h2 : cx l 0 a (imGet m2 a.course) = false := caHit0.trans hc1; simp only [caF, h1, h2, ad, hw]; first | done | rfl)) (by subst v0 v1 v2 v3; first | (have h1 : bM 0 (imGet m1 a.course) = true := hc0; simp only [caF, h1, ad]; first | done | rfl) | (have h1 : bM 0 (imGet m1 a.course) = false := hc0; have h2 : cx l 0 a (imGet m2 a.course) = true := caHit0.trans hc1; simp only [caF, h1, h2, ad, hw]; first | done | rfl) | (have h1 : bM 0 (imGet m1 a.course) = false := hc0; have h2 : cx l 0 a (imGet m2 a.course) = false := caHit0.trans hc1; simp only [caF, h1, h2, ad, hw]; first | done | rfl)) <;> subst v0 v1 v2 v3 <;> (first | assumption | rfl | exact lk1 rfl | exact lk2 rfl | exact up1 rfl | exact up2 rfl | exact aU | (refine bl (fun _ => rfl) ?_ ?_ <;> (cases hz : imGet m2 a.course <;> simp_all; done)) | (simp_all; done))
 ·let v0 := Em [int (D7 (imGet m1 a.course) 0), bool (DD (imGet m1 a.course))]
  refine DN (DP (s' := { t := mkT 135 0 [(4, nq), (5, int 1)], h := [], m := [] }) (e := EY) pok [.st (.mask [4, 5]), .st (.trimV 0)] [.b true, .row (Dk a), .ov 43 v0, .row [vi 0], .val (bool (decide (0 ≥ 0) && decide (0 ≤ 2))), .row [vi 0], .b true] (by kernel_rfl) (.c hlt (.c hr (.c (show ar Dg (d8 m1 m2 a) 125 (.ref (.mp 1)) (int a.course) true = some v0 from (by subst v0; first | assumption | rfl | exact lk1 rfl | exact lk2 rfl | exact up1 rfl | exact up2 rfl | exact aU | (refine bl (fun _ => rfl) ?_ ?_ <;> (cases hz : imGet m2 a.course <;> simp_all; done)) | (simp_all; done))) (.c hq (.c (@cJ 0 0 2 (d8 m1 m2 a)) (.c (show (!!(decide (0 ≥ 0) && decide (0 ≤ 2)) && DD (imGet m1 a.course)) = true → aM (↑i : Int) rp [vi 0] 1 from (fun hg => hq)) (.c hc0 .n)))))))) ?_ ?_ <;> subst v0 <;> (first | (have h1 : bM 0 (imGet m1 a.course) = true := hc0; simp only [caF, h1, ad]; first | done | rfl) | (have h1 : bM 0 (imGet m1 a.course) = false := hc0; have h2 : cx l 0 a (imGet m2 a.course) = true := caHit0.trans hc1; simp only [caF, h1, h2, ad, hw]; first | done | rfl) | (have h1 : bM 0 (imGet m1 a.course) = false := hc0; have h2 : cx l 0 a (imGet m2 a.course) = false := caHit0.trans hc1; simp only [caF, h1, h2, ad, hw]; first | done | rfl))
noncomputable abbrev eY (m1 : IM) (m2 : IM) (a : AttT) : List Blk := [.var [bool true, fq 208, bool true, fq 209, bool false, GD (FS D3)], .map (aq 0 (aK m1 a.course 1)) (Dh (aK m1 a.course 1)), .map (aq 0 m2) (Dh m2), .var [int a.course, int a.term, int a.grade, int a.campus, int a.credits]]
noncomputable abbrev d9 (m1 : IM) (m2 : IM) (a : AttT) : List Blk := [.var [bool true, fq 208, bool true, fq 209, bool false, GD (FS D3)], .map (aq 0 m1) (Dh m1), .map (aq 0 m2) (Dh m2), .var [int a.course, int a.term, int a.grade, int a.campus, int a.credits]]
theorem ca_b1 {l : List AttT} {rp : List (List Dp)} {m1 m2 : IM} {i : Nat} {a : AttT} (hm : ∀ v, imGet m2 a.course = some v → 0 ≤ v ∧ v < (l.length : Int)) (hr : aM (i : Int) (l.map Dk) a.row 5) (hq : aM (i : Int) rp [vi 1] 1) (hlt : decide ((i : Int) < ((l.map Dk).length : Int)) = true) (hw : Dj.wrap ((i : Int) + 1) = ((i + 1 : Nat) : Int)) : (CW Dg Γ0 [] false (sub Fq 0) (caS l rp m1 m2 i) (ad (fun s => caS l rp s.1 s.2 ((i + 1 : Nat) : Int)) caX (caF l i 1 a (m1, m2))).1 (ad (fun s => caS l rp s.1 s.2 ((i + 1 : Nat) : Int)) caX (caF l i 1 a (m1, m2))).2) := by
 cases hc0 : !(decide (1 ≥ 0) && decide (1 ≤ 2)) || DD (imGet m1 a.course) && D7 (imGet m1 a.course) 0 != 1
 ·cases hc1 : true && (!DD (imGet m2 a.course) || decide (a.term ≥ (DS l (Dz (D7 (imGet m2 a.course) 0)) default).term))
  ·let v0 := DS l (Dz (D7 (imGet m2 a.course) 0)) default
   let v1 := Em [int (D7 (imGet m1 a.course) 0), bool (DD (imGet m1 a.course))]
   let v2 := Em [int (D7 (imGet m2 a.course) 0), bool (DD (imGet m2 a.course))]
   refine DN (DP (s' := { t := mkT 135 0 [(0, ab (De Dk l)), (1, ab rp), (4, nq), (5, int 0), (6, .ref (.ptr 0 0)), (7, .ref (.mp 1)), (8, .ref (.mp 2)), (32, ab (De Dk l)), (33, int (↑(Dh (De Dk l)) : Int)), (34, int (Dr Dj ((↑i : Int) + 1)))], h := [.var [bool true, fq 208, bool true, fq 209, bool false, GD (FS D3)], .map (aq 0 (aK m1 a.course 1)) (Dh (aK m1 a.course 1)), .map (aq 0 m2) (Dh m2)], m := [] }) (e := DE) pok [.st (.mask [0, 1, 4, 5, 6, 7, 8, 32, 33, 34]), .st (.trimV 3)] [.b true, .row (Dk a), .ov 43 v1, .row [vi 1], .val (bool (decide (1 ≥ 0) && decide (1 ≤ 2))), .row [vi 1], .b false, .row [vi 1], .oh 10063 EF (caH (aK m1 a.course 1) m2 ++ [.var (De GD (Dk a))]), .ov 74 v2, .row [vi 1], .row [vi 1], .row (Dk v0), .val (bool (decide (a.term ≥ v0.term))), .b false] (by kernel_rfl) (.c hlt (.c hr (.c (show ar Dg (d9 m1 m2 a) 125 (.ref (.mp 1)) (int a.course) true = some v1 from ?_) (.c hq (.c (@cJ 1 0 2 (d9 m1 m2 a)) (.c (show (!!(decide (1 ≥ 0) && decide (1 ≤ 2)) && DD (imGet m1 a.course)) = true → aM (↑i : Int) rp [vi 1] 1 from (fun hg => hq)) (.c hc0 (.c hq (.c (show ap Dg (d9 m1 m2 a) 125 (.ref (.mp 1)) (int a.course) (int 1) = some (eY m1 m2 a) from ?_) (.e (.ref (.ptr 3 0)) (.e (int a.course) (.c (show ar Dg (eY m1 m2 a) 125 (.ref (.mp 2)) (int a.course) true = some v2 from ?_) (.c hq (.c (show inR 1 3 = true from rfl) (.c (show (true && !!DD (imGet m2 a.course)) = true → aM (↑i : Int) rp [vi 1] 1 from (fun hg => hq)) (.c (show (true && !!DD (imGet m2 a.course)) = true → inR 1 3 = true from (fun hg => rfl)) (.c (show (true && !!DD (imGet m2 a.course)) = true → aM (D7 (imGet m2 a.course) 0) (De Dk l) (Dk v0) 5 from (fun hg => ?_)) (.c (gd (true && !!DD (imGet m2 a.course)) (@wN a v0 (eY m1 m2 a))) (.c hc1 (.c (show Dy 3 (.var [bool true, fq 208, bool true, fq 209, bool false, GD (FS D3)]) = true from rfl) (.c (show Dy 3 (.map (aq 0 (aK m1 a.course 1)) (Dh (aK m1 a.course 1))) = true from ?_) (.c (show Dy 3 (.map (aq 0 m2) (Dh m2)) = true from ?_) .n))))))))))))))))))))))) (by subst v0 v1 v2; first | (have h1 : bM 1 (imGet m1 a.course) = true := hc0; simp only [caF, h1, ad]; first | done | rfl) | (have h1 : bM 1 (imGet m1 a.course) = false := hc0; have h2 : cx l 1 a (imGet m2 a.course) = true := caHit1.trans hc1; simp only [caF, h1, h2, ad, hw]; first | done | rfl) | (have h1 : bM 1 (imGet m1 a.course) = false := hc0; have h2 : cx l 1 a (imGet m2 a.course) = false := caHit1.trans hc1; simp only [caF, h1, h2, ad]; first | done | rfl)) (by subst v0 v1 v2; first | (have h1 : bM 1 (imGet m1 a.course) = true := hc0; simp only [caF, h1, ad]; first | done | rfl) | (have h1 : bM 1 (imGet m1 a.course) = false := hc0; have h2 : cx l 1 a (imGet m2 a.course) = true := caHit1.trans hc1; simp only [caF, h1, h2, ad, hw]; first | done | rfl) | (have h1 : bM 1 (imGet m1 a.course) = false := hc0; have h2 : cx l 1 a (imGet m2 a.course) = false := caHit1.trans hc1; simp only [caF, h1, h2, ad, hw]; first | done | rfl)) <;> subst v0 v1 v2 <;> (first | assumption | rfl | exact lk1 rfl | exact lk2 rfl | exact up1 rfl | exact up2 rfl | exact aU | (refine bl (fun _ => rfl) ?_ ?_ <;> (cases hz : imGet m2 a.course <;> simp_all; done)) | (simp_all; done))
  ·let v0 := DS l (Dz (D7 (imGet m2 a.course) 0)) default
   let v1 := Em [int (D7 (imGet m1 a.course) 0), bool (DD (imGet m1 a.course))]
   let v2 := Em [int (D7 (imGet m2 a.course) 0), bool (DD (imGet m2 a.course))]
   let v3 := Dh (aK m1 a.course 1)
   refine DN (DP (s' := { t := mkT 135 0 [(0, ab (De Dk l)), (1, ab rp), (4, nq), (5, int 0), (6, .ref (.ptr 0 0)), (7, .ref (.mp 1)), (8, .ref (.mp 2)), (32, ab (De Dk l)), (33, int (↑(Dh (De Dk l)) : Int)), (34, int (Dr Dj ((↑i : Int) + 1)))], h := [.var [bool true, fq 208, bool true, fq 209, bool false, GD (FS D3)], .map (aq 0 (aK m1 a.course 1)) v3, .map (aq 0 (aK m2 a.course (↑i : Int))) (Dh (aK m2 a.course (↑i : Int)))], m := [] }) (e := DE) pok [.st (.mask [0, 1, 4, 5, 6, 7, 8, 32, 33, 34]), .st (.trimV 3)] [.b true, .row (Dk a), .ov 43 v1, .row [vi 1], .val (bool (decide (1 ≥ 0) && decide (1 ≤ 2))), .row [vi 1], .b false, .row [vi 1], .oh 10063 EF (caH (aK m1 a.course 1) m2 ++ [.var (De GD (Dk a))]), .ov 74 v2, .row [vi 1], .row [vi 1], .row (Dk v0), .val (bool (decide (a.term ≥ v0.term))), .b true, .oh 10103 EF (caH (aK m1 a.course 1) (aK m2 a.course (↑i : Int)) ++ [.var (De GD (Dk a))])] (by kernel_rfl) (.c hlt (.c hr (.c (show ar Dg (d9 m1 m2 a) 125 (.ref (.mp 1)) (int a.course) true = some v1 from ?_) (.c hq (.c (@cJ 1 0 2 (d9 m1 m2 a)) (.c (show (!!(decide (1 ≥ 0) && decide (1 ≤ 2)) && DD (imGet m1 a.course)) = true → aM (↑i : Int) rp [vi 1] 1 from (fun hg => hq)) (.c hc0 (.c hq (.c (show ap Dg (d9 m1 m2 a) 125 (.ref (.mp 1)) (int a.course) (int 1) = some (eY m1 m2 a) from ?_) (.e (.ref (.ptr 3 0)) (.e (int a.course) (.c (show ar Dg (eY m1 m2 a) 125 (.ref (.mp 2)) (int a.course) true = some v2 from ?_) (.c hq (.c (show inR 1 3 = true from rfl) (.c (show (true && !!DD (imGet m2 a.course)) = true → aM (↑i : Int) rp [vi 1] 1 from (fun hg => hq)) (.c (show (true && !!DD (imGet m2 a.course)) = true → inR 1 3 = true from (fun hg => rfl)) (.c (show (true && !!DD (imGet m2 a.course)) = true → aM (D7 (imGet m2 a.course) 0) (De Dk l) (Dk v0) 5 from (fun hg => ?_)) (.c (gd (true && !!DD (imGet m2 a.course)) (@wN a v0 (eY m1 m2 a))) (.c hc1 (.c (show ap Dg (eY m1 m2 a) 125 (.ref (.mp 2)) (int a.course) (int (↑i : Int)) = some [.var [bool true, fq 208, bool true, fq 209, bool false, GD (FS D3)], .map (aq 0 (aK m1 a.course 1)) v3, .map (aq 0 (aK m2 a.course (↑i : Int))) (Dh (aK m2 a.course (↑i : Int))), .var [int a.course, int a.term, int a.grade, int a.campus, int a.credits]] from ?_) (.c (show Dy 3 (.var [bool true, fq 208, bool true, fq 209, bool false, GD (FS D3)]) = true from rfl) (.c (show Dy 3 (.map (aq 0 (aK m1 a.course 1)) v3) = true from ?_) (.c (show Dy 3 (.map (aq 0 (aK m2 a.course (↑i : Int))) (Dh (aK m2 a.course (↑i : Int)))) = true from ?_) .n)))))))))))))))))))))))) (by subst v0 v1 v2 v3; first | (have h1 : bM 1 (imGet m1 a.course) = true := hc0; simp only [caF, h1, ad]; first | done | rfl) | (have h1 : bM 1 (imGet m1 a.course) = false := hc0; have h2 : cx l 1 a (imGet m2 a.course) = true := caHit1.trans hc1; simp only [caF, h1, h2, ad]; first | done | rfl) | (have h1 : bM 1 (imGet m1 a.course) = false := hc0; have h2 : cx l 1 a (imGet m2 a.course) = false := caHit1.trans hc1; simp only [caF, h1, h2, ad, hw]; first | done | rfl)) (by subst v0 v1 v2 v3; first | (have h1 : bM 1 (imGet m1 a.course) = true := hc0; simp only [caF, h1, ad]; first | done | rfl) | (have h1 : bM 1 (imGet m1 a.course) = false := hc0; have h2 : cx l 1 a (imGet m2 a.course) = true := caHit1.trans hc1; simp only [caF, h1, h2, ad, hw]; first | done | rfl) | (have h1 : bM 1 (imGet m1 a.course) = false := hc0; have h2 : cx l 1 a (imGet m2 a.course) = false := caHit1.trans hc1; simp only [caF, h1, h2, ad, hw]; first | done | rfl)) <;> subst v0 v1 v2 v3 <;> (first | assumption | rfl | exact lk1 rfl | exact lk2 rfl | exact up1 rfl | exact up2 rfl | exact aU | (refine bl (fun _ => rfl) ?_ ?_ <;> (cases hz : imGet m2 a.course <;> simp_all; done)) | (simp_all; done))
 ·let v0 := Em [int (D7 (imGet m1 a.course) 0), bool (DD (imGet m1 a.course))]
  refine DN (DP (s' := { t := mkT 135 0 [(4, nq), (5, int 1)], h := [], m := [] }) (e := EY) pok [.st (.mask [4, 5]), .st (.trimV 0)] [.b true, .row (Dk a), .ov 43 v0, .row [vi 1], .val (bool (decide (1 ≥ 0) && decide (1 ≤ 2))), .row [vi 1], .b true] (by kernel_rfl) (.c hlt (.c hr (.c (show ar Dg (d9 m1 m2 a) 125 (.ref (.mp 1)) (int a.course) true = some v0 from (by subst v0; first | assumption | rfl | exact lk1 rfl | exact lk2 rfl | exact up1 rfl | exact up2 rfl | exact aU | (refine bl (fun _ => rfl) ?_ ?_ <;> (cases hz : imGet m2 a.course <;> simp_all; done)) | (simp_all; done))) (.c hq (.c (@cJ 1 0 2 (d9 m1 m2 a)) (.c (show (!!(decide (1 ≥ 0) && decide (1 ≤ 2)) && DD (imGet m1 a.course)) = true → aM (↑i : Int) rp [vi 1] 1 from (fun hg => hq)) (.c hc0 .n)))))))) ?_ ?_ <;> subst v0 <;> (first | (have h1 : bM 1 (imGet m1 a.course) = true := hc0; simp only [caF, h1, ad]; first | done | rfl) | (have h1 : bM 1 (imGet m1 a.course) = false := hc0; have h2 : cx l 1 a (imGet m2 a.course) = true := caHit1.trans hc1; simp only [caF, h1, h2, ad, hw]; first | done | rfl) | (have h1 : bM 1 (imGet m1 a.course) = false := hc0; have h2 : cx l 1 a (imGet m2 a.course) = false := caHit1.trans hc1; simp only [caF, h1, h2, ad, hw]; first | done | rfl))
noncomputable abbrev ic (m1 : IM) (m2 : IM) (a : AttT) : List Blk := [.var [bool true, fq 208, bool true, fq 209, bool false, GD (FS D3)], .map (aq 0 m1) (Dh m1), .map (aq 0 m2) (Dh m2), .var [int a.course, int a.term, int a.grade, int a.campus, int a.credits]]
theorem ca_b2 {l : List AttT} {rp : List (List Dp)} {m1 m2 : IM} {i : Nat} {a : AttT} (hr : aM (i : Int) (l.map Dk) a.row 5) (hq : aM (i : Int) rp [vi 2] 1) (hlt : decide ((i : Int) < ((l.map Dk).length : Int)) = true) (hw : Dj.wrap ((i : Int) + 1) = ((i + 1 : Nat) : Int)) : (CW Dg Γ0 [] false (sub Fq 0) (caS l rp m1 m2 i) (ad (fun s => caS l rp s.1 s.2 ((i + 1 : Nat) : Int)) caX (caF l i 2 a (m1, m2))).1 (ad (fun s => caS l rp s.1 s.2 ((i + 1 : Nat) : Int)) caX (caF l i 2 a (m1, m2))).2) := by
 cases hc0 : !(decide (2 ≥ 0) && decide (2 ≤ 2)) || DD (imGet m1 a.course) && D7 (imGet m1 a.course) 0 != 2
 ·let v1 := Em [int (D7 (imGet m1 a.course) 0), bool (DD (imGet m1 a.course))]
  let v2 := Em [int (D7 (imGet m2 a.course) 0), bool (DD (imGet m2 a.course))]
  let v3 := Dh (aK m1 a.course 2)
  let v0 : List Blk := [.var [bool true, fq 208, bool true, fq 209, bool false, GD (FS D3)], .map (aq 0 (aK m1 a.course 2)) v3, .map (aq 0 m2) (Dh m2), .var [int a.course, int a.term, int a.grade, int a.campus, int a.credits]]
  refine DN (DP (s' := { t := mkT 135 0 [(0, ab (De Dk l)), (1, ab rp), (4, nq), (5, int 0), (6, .ref (.ptr 0 0)), (7, .ref (.mp 1)), (8, .ref (.mp 2)), (32, ab (De Dk l)), (33, int (↑(Dh (De Dk l)) : Int)), (34, int (Dr Dj ((↑i : Int) + 1)))], h := [.var [bool true, fq 208, bool true, fq 209, bool false, GD (FS D3)], .map (aq 0 (aK m1 a.course 2)) v3, .map (aq 0 m2) (Dh m2)], m := [] }) (e := DE) pok [.st (.mask [0, 1, 4, 5, 6, 7, 8, 32, 33, 34]), .st (.trimV 3)] [.b true, .row (Dk a), .ov 43 v1, .row [vi 2], .val (bool (decide (2 ≥ 0) && decide (2 ≤ 2))), .row [vi 2], .b false, .row [vi 2], .oh 10063 EF (caH (aK m1 a.course 2) m2 ++ [.var (De GD (Dk a))]), .ov 74 v2, .row [vi 2], .g false, .g false, .g false, .g false, .g false, .g false, .g false, .g false, .g false, .g false, .g false, .g false, .g false, .g false, .g false, .g false, .g false, .ov 102 (bool false), .b false] (by kernel_rfl) (.c hlt (.c hr (.c (show ar Dg (ic m1 m2 a) 125 (.ref (.mp 1)) (int a.course) true = some v1 from ?_) (.c hq (.c (@cJ 2 0 2 (ic m1 m2 a)) (.c (show (!!(decide (2 ≥ 0) && decide (2 ≤ 2)) && DD (imGet m1 a.course)) = true → aM (↑i : Int) rp [vi 2] 1 from (fun hg => hq)) (.c hc0 (.c hq (.c (show ap Dg (ic m1 m2 a) 125 (.ref (.mp 1)) (int a.course) (int 2) = some v0 from ?_) (.e (.ref (.ptr 3 0)) (.e (int a.course) (.c (show ar Dg v0 125 (.ref (.mp 2)) (int a.course) true = some v2 from ?_) (.c hq (.c (show inR 2 3 = true from rfl) (.c (show (false == true) = false from rfl) (.c (show (false == true) = false from rfl) (.c (show (false == true) = false from rfl) (.c (show false = false from rfl) (.c (show false = false from rfl) (.c (show false = false from rfl) (.c (show false = false from rfl) (.c (show false = false from rfl) (.c (show false = false from rfl) (.c (show false = false from rfl) (.c (show false = false from rfl) (.c (show false = false from rfl) (.c (show false = false from rfl) (.c (show false = false from rfl) (.c (show false = false from rfl) (.c (show false = false from rfl) (.c (show (false == true) = false from rfl) (.c (show aZ (bool false) (GD (FS (Value.tuple { toList := [] }))) (bool false) (bool false) from (b9 rfl rfl)) (.c (show false = false from rfl) (.c (show Dy 3 (.var [bool true, fq 208, bool true, fq 209, bool false, GD (FS D3)]) = true from rfl) (.c (show Dy 3 (.map (aq 0 (aK m1 a.course 2)) v3) = true from ?_) (.c (show Dy 3 (.map (aq 0 m2) (Dh m2)) = true from ?_) .n))))))))))))))))))))))))))))))))))))) (by subst v1 v2 v3 v0; first | (have h1 : bM 2 (imGet m1 a.course) = true := hc0; simp only [caF, h1, ad]; first | done | rfl) | (have h1 : bM 2 (imGet m1 a.course) = false := hc0; have h2 : cx l 2 a (imGet m2 a.course) = false := wP; simp only [caF, h1, h2, ad]; first | done | rfl)) (by subst v1 v2 v3 v0; first | (have h1 : bM 2 (imGet m1 a.course) = true := hc0; simp only [caF, h1, ad]; first | done | rfl) | (have h1 : bM 2 (imGet m1 a.course) = false := hc0; have h2 : cx l 2 a (imGet m2 a.course) = false := wP; simp only [caF, h1, h2, ad, hw]; first | done | rfl)) <;> subst v1 v2 v3 v0 <;> (first | assumption | rfl | exact lk1 rfl | exact lk2 rfl | exact up1 rfl | exact up2 rfl | exact aU | (refine bl (fun _ => rfl) ?_ ?_ <;> (cases hz : imGet m2 a.course <;> simp_all; done)) | (simp_all; done))
 ·let v0 := Em [int (D7 (imGet m1 a.course) 0), bool (DD (imGet m1 a.course))]
  refine DN (DP (s' := { t := mkT 135 0 [(4, nq), (5, int 1)], h := [], m := [] }) (e := EY) pok [.st (.mask [4, 5]), .st (.trimV 0)] [.b true, .row (Dk a), .ov 43 v0, .row [vi 2], .val (bool (decide (2 ≥ 0) && decide (2 ≤ 2))), .row [vi 2], .b true] (by kernel_rfl) (.c hlt (.c hr (.c (show ar Dg (ic m1 m2 a) 125 (.ref (.mp 1)) (int a.course) true = some v0 from (by subst v0; first | assumption | rfl | exact lk1 rfl | exact lk2 rfl | exact up1 rfl | exact up2 rfl | exact aU | (refine bl (fun _ => rfl) ?_ ?_ <;> (cases hz : imGet m2 a.course <;> simp_all; done)) | (simp_all; done))) (.c hq (.c (@cJ 2 0 2 (ic m1 m2 a)) (.c (show (!!(decide (2 ≥ 0) && decide (2 ≤ 2)) && DD (imGet m1 a.course)) = true → aM (↑i : Int) rp [vi 2] 1 from (fun hg => hq)) (.c hc0 .n)))))))) ?_ ?_ <;> subst v0 <;> (first | (have h1 : bM 2 (imGet m1 a.course) = true := hc0; simp only [caF, h1, ad]; first | done | rfl) | (have h1 : bM 2 (imGet m1 a.course) = false := hc0; have h2 : cx l 2 a (imGet m2 a.course) = false := wP; simp only [caF, h1, h2, ad, hw]; first | done | rfl))
noncomputable abbrev tu (m1 : IM) (m2 : IM) (a : AttT) : List Blk := [.var [bool true, fq 208, bool true, fq 209, bool false, GD (FS D3)], .map (aq 0 m1) (Dh m1), .map (aq 0 m2) (Dh m2), .var [int a.course, int a.term, int a.grade, int a.campus, int a.credits]]
theorem ca_bX {l : List AttT} {rp : List (List Dp)} {m1 m2 : IM} {i : Nat} {a : AttT} {r : Int} (hx : (!(decide (r ≥ 0) && decide (r ≤ 2)) || DD (imGet m1 a.course) && D7 (imGet m1 a.course) 0 != r) = true) (hr : aM (i : Int) (l.map Dk) a.row 5) (hq : aM (i : Int) rp [vi r] 1) (hlt : decide ((i : Int) < ((l.map Dk).length : Int)) = true) (hw : Dj.wrap ((i : Int) + 1) = ((i + 1 : Nat) : Int)) : (CW Dg Γ0 [] false (sub Fq 0) (caS l rp m1 m2 i) (ad (fun s => caS l rp s.1 s.2 ((i + 1 : Nat) : Int)) caX (caF l i r a (m1, m2))).1 (ad (fun s => caS l rp s.1 s.2 ((i + 1 : Nat) : Int)) caX (caF l i r a (m1, m2))).2) := by
 let v0 := Em [int (D7 (imGet m1 a.course) 0), bool (DD (imGet m1 a.course))]
 exact DN (DP (s' := { t := mkT 135 0 [(4, nq), (5, int 1)], h := [], m := [] }) (e := EY) pok [.st (.mask [4, 5]), .st (.trimV 0)] [.b true, .row (Dk a), .ov 43 v0, .row [vi r], .val (bool (decide (r ≥ 0) && decide (r ≤ 2))), .row [vi r], .b true] (by kernel_rfl) (.c hlt (.c hr (.c (show ar Dg (tu m1 m2 a) 125 (.ref (.mp 1)) (int a.course) true = some v0 from (by subst v0; first | assumption | rfl | exact lk1 rfl | exact lk2 rfl | exact up1 rfl | exact up2 rfl | exact aU | (refine bl (fun _ => rfl) ?_ ?_ <;> (cases hz : imGet m2 a.course <;> simp_all; done)) | (simp_all; done))) (.c hq (.c (@cJ r 0 2 (tu m1 m2 a)) (.c (show (!!(decide (r ≥ 0) && decide (r ≤ 2)) && DD (imGet m1 a.course)) = true → aM (↑i : Int) rp [vi r] 1 from (fun hg => hq)) (.c hx .n)))))))) (by subst v0; (have h1 : bM r (imGet m1 a.course) = true := hx); simp only [caF, h1, ad]; first | done | rfl) (by subst v0; (have h1 : bM r (imGet m1 a.course) = true := hx); simp only [caF, h1, ad]; first | done | rfl) <;> subst v0
end Go.Vi
open Go Go.Proofs
namespace Go.Vi
set_option maxRecDepth 100000
set_option maxHeartbeats 4000000
theorem BM {l : List AttT} {rp : List (List Dp)} {m1 m2 : IM} {i : Nat} (hlt : decide ((i : Int) < ((l.map Dk).length : Int)) = false) : (CW Dg Γ0 [] false (sub Fq 0) (caS l rp m1 m2 i) (.exit 0) { t := mkT 135 0 [(0, ab (l.map Dk)), (4, dt), (5, int 0), (8, .ref (.mp 2))], h := caH m1 m2, m := [] }) := by
 exact DN (DP (s' := { t := mkT 135 0 [(0, ab (De Dk l)), (4, nq), (5, int 0), (8, .ref (.mp 2))], h := [.var [bool true, fq 208, bool true, fq 209, bool false, GD (FS D3)], .map (aq 0 m1) (Dh m1), .map (aq 0 m2) (Dh m2)], m := [] }) (e := Ea 0) pok [.st (.mask [0, 4, 5, 8])] [.b false] (by kernel_rfl) (.c hlt .n)) (by rfl) (by rfl)
abbrev CaE := (AttT × Int) × Nat
def caE (l : List AttT) (e : CaE) (s : IM × IM) : (IM × IM) ⊕ Unit := caF l (e.2 : Int) e.1.2 e.1.1 s
def caL (l : List AttT) (rp : List Int) : List CaE := (l.zip rp).zipIdx
abbrev caZ (l : List AttT) (s : IM × IM) : AS := { t := mkT 135 0 [(0, ab (l.map Dk)), (4, dt), (5, int 0), (8, .ref (.mp 2))], h := caH s.1 s.2, m := [] }
def BN (l : List AttT) (rp : List Int) : Exit × AS := cG (.exit 0) (caZ l) caX (forL (caE l) (caL l rp) ([], []))
theorem ca_cw {l : List AttT} (hl : al l) {rp : List Int} (hr : rp.length = l.length) :
  CW Dg Γ0 [] false (.loop (sub Fq 0)) (caS l (rp.map fun n => [vi n]) [] [] 0) (BN l rp).1 (BN l rp).2 := by
 have hlen : (caL l rp).length = l.length := by simp [caL, hr]
 have := CW.each (P := Dg) (Γ := Γ0) (h0 := []) (rd := false) (c := sub Fq 0) (caL l rp) (caE l) (fun i s => caS l (rp.map fun n => [vi n]) s.1 s.2 (i : Int)) (.exit 0) (caZ l) caX
  (fun _ s => ∀ c v, imGet s.2 c = some v → 0 ≤ v ∧ v < (l.length : Int)) (by simp) (fun _ => by simp) ?_ ?_ ([], []) (by intro c v h; simp [imGet] at h)
 ·exact this
 ·rintro i ⟨⟨a, r⟩, n⟩ ⟨m1, m2⟩ hp hinv
  obtain ⟨hi, he⟩ := Dm.1 hp
  rw [hlen] at hi
  have hi' : i < rp.length := by omega
  have e1 : n = i ∧ a = l[i] ∧ r = rp[i] := by
   have e2 := he.symm
   simp [caL] at e2
   obtain ⟨⟨x1, x2⟩, x3⟩ := e2
   exact ⟨x3, x1, x2⟩
  obtain ⟨rfl, ha, hrr⟩ := e1
  have h1 : l[n]? = some a := by rw [ha]; exact DF hi
  have h2 : rp[n]? = some r := by rw [hrr]; exact DF hi'
  have q1 := rowAt (row := Dk) (sz := 5) h1 rfl
  have q2 := rowAt (row := fun n : Int => [vi n]) (sz := 1) h2 rfl
  have q3 := lt_len Dk hi
  have q4 := wrap_succ hi hl
  refine ⟨fun s' h => ?_, ?_⟩
  ·simp only [caE, caF] at h
   split at h
   ·simp at h
   ·simp only [Sum.inl.injEq] at h
    subst h
    intro c v hc
    simp only at hc
    split at hc
    ·rw [qr] at hc
     split at hc
     ·simp only [Df] at hc; subst hc; omega
     ·exact hinv c v hc
    ·exact hinv c v hc
  ·simp only [caE]
   by_cases hb : (!(decide (r ≥ 0) && decide (r ≤ 2))) = true
   ·exact ca_bX (by rw [hb]; rfl) q1 q2 q3 q4
   ·have : r = 0 ∨ r = 1 ∨ r = 2 := by simp at hb; omega
    rcases this with h0 | h0 | h0
    ·rw [h0] at q2 ⊢; exact ca_b0 (fun v hv => hinv _ v hv) q1 q2 q3 q4
    ·rw [h0] at q2 ⊢; exact ca_b1 (fun v hv => hinv _ v hv) q1 q2 q3 q4
    ·rw [h0] at q2 ⊢; exact ca_b2 q1 q2 q3 q4
 ·rintro ⟨m1, m2⟩ _
  rw [hlen]
  exact BM (cw Dk l)
abbrev cgH (m1 m2 : IM) (out : List AttT) : List Blk := [.var wO, imB m1, imB m2, .vec (ai (out.map Dk)) 0 5]
abbrev cgS (l : List AttT) (m1 m2 : IM) (out : List AttT) (i : Int) : AS :=
 { t := mkT 135 0 [(4, .ref (.vec 3 0)), (5, int 0), (8, .ref (.mp 2)), (108, ab (l.map Dk)), (109, int (l.map Dk).length), (110, int i)], h := cgH m1 m2 out, m := [] }
def cgHit (m2 : IM) (i : Nat) (a : AttT) : Bool := !(imGet m2 a.course).isSome || ((imGet m2 a.course).getD 0 == (i : Int))
def cgF (m2 : IM) (e : AttT × Nat) (out : List AttT) : List AttT := bif cgHit m2 e.2 e.1 then out ++ [e.1] else out
theorem BO {l : List AttT} {m1 m2 : IM} {out : List AttT} {i : Nat} {a : AttT} (hr : aM (i : Int) (l.map Dk) a.row 5) (hlt : decide ((i : Int) < ((l.map Dk).length : Int)) = true) (hw : Dj.wrap ((i : Int) + 1) = ((i + 1 : Nat) : Int)) (ho : out.length ≤ 1000000000) : (CW Dg Γ0 [] false (sub Fq 1) (cgS l m1 m2 out i) .normal (cgS l m1 m2 (cgF m2 (a, i) out) ((i + 1 : Nat) : Int))) := by
 cases hc0 : !DD (imGet m2 a.course) || D7 (imGet m2 a.course) 0 == (↑i : Int)
 ·let v0 := Em [int (D7 (imGet m2 a.course) 0), bool (DD (imGet m2 a.course))]
  refine DN (DP (s' := { t := mkT 135 0 [(4, .ref (.vec 3 0)), (5, int 0), (8, .ref (.mp 2)), (108, ab (De Dk l)), (109, int (↑(Dh (De Dk l)) : Int)), (110, int (Dr Dj ((↑i : Int) + 1)))], h := [.var [bool true, fq 208, bool true, fq 209, bool false, GD (FS D3)], .map (aq 0 m1) (Dh m1), .map (aq 0 m2) (Dh m2), .vec (ai (De Dk out)) 0 5], m := [] }) (e := DE) pok [.st (.mask [4, 5, 8, 108, 109, 110]), .st (.ren 3 0), .st (.trimV 4)] [.b true, .row (Dk a), .ov 119 v0, .b false] (by kernel_rfl) (.c hlt (.c hr (.c (show ar Dg [.var [bool true, fq 208, bool true, fq 209, bool false, GD (FS D3)], .map (aq 0 m1) (Dh m1), .map (aq 0 m2) (Dh m2), .vec (ai (De Dk out)) 0 5, .var [int a.course, int a.term, int a.grade, int a.campus, int a.credits]] 125 (.ref (.mp 2)) (int a.course) true = some v0 from ?_) (.c hc0 (.c (show De (D6 (au 3 0 0)) (ai (De Dk out)) = ai (De Dk out) from ?_) (.c (show De (fun e => (DC (au 3 0 0) e.fst, DC (au 3 0 0) e.snd.fst, e.snd.snd)) (aq 0 m1) = aq 0 m1 from ?_) (.c (show De (fun e => (DC (au 3 0 0) e.fst, DC (au 3 0 0) e.snd.fst, e.snd.snd)) (aq 0 m2) = aq 0 m2 from ?_) (.c (show Dy 4 (match 0 == 3 with | true => .vec (ai (De Dk out)) 0 5 | false => keepX (au 3 0 0) (.var [bool true, fq 208, bool true, fq 209, bool false, GD (FS D3)])) = true from rfl) (.c (show Dy 4 (match 0 + 1 == 3 with | true => .vec (ai (De Dk out)) 0 5 | false => keepX (au 3 0 0) (.map (aq 0 m1) (Dh m1))) = true from ?_) (.c (show Dy 4 (match 0 + 1 + 1 == 3 with | true => .vec (ai (De Dk out)) 0 5 | false => keepX (au 3 0 0) (.map (aq 0 m2) (Dh m2))) = true from ?_) (.c (show Dy 4 (match 0 + 1 + 1 + 1 == 3 with | true => .vec (ai (De Dk out)) 0 5 | false => keepX (au 3 0 0) (.vec (ai (De Dk out)) 0 5)) = true from ?_) .n)))))))))))) (by subst v0; first | (have hh : cgHit m2 i a = true := hc0; simp only [cgF, hh, cond_true, hw, bi]; first | done | rfl) | (have hh : cgHit m2 i a = false := hc0; simp only []; first | done | rfl)) (by subst v0; first | (have hh : cgHit m2 i a = true := hc0; simp only [cgF, hh, cond_true, hw, bi]; first | done | rfl) | (have hh : cgHit m2 i a = false := hc0; simp only [cgF, hh, cond_false, hw]; first | done | rfl)) <;> subst v0 <;> (first | assumption | rfl | omega | exact lk2 rfl | exact aU | exact ae _ _ | exact af | exact aF _ _ _ | (rw [bi]; exact ae _ _) | (rw [bi]; exact af) | (simp [bC, D.one, El, roomOk]; omega))
 ·let v0 : List D := [int a.course, int a.term, int a.grade, int a.campus, int a.credits]
  let v1 := Em [int (D7 (imGet m2 a.course) 0), bool (DD (imGet m2 a.course))]
  refine DN (DP (s' := { t := mkT 135 0 [(4, .ref (.vec 3 0)), (5, int 0), (8, .ref (.mp 2)), (108, ab (De Dk l)), (109, int (↑(Dh (De Dk l)) : Int)), (110, int (Dr Dj ((↑i : Int) + 1)))], h := [.var [bool true, fq 208, bool true, fq 209, bool false, GD (FS D3)], .map (aq 0 m1) (Dh m1), .map (aq 0 m2) (Dh m2), .vec (ai (De Dk out) ++ [v0]) 0 5], m := [] }) (e := DE) pok [.st (.mask [4, 5, 8, 108, 109, 110]), .st (.ren 3 0), .st (.trimV 4)] [.b true, .row (Dk a), .ov 119 v1, .b true] (by kernel_rfl) (.c hlt (.c hr (.c (show ar Dg [.var [bool true, fq 208, bool true, fq 209, bool false, GD (FS D3)], .map (aq 0 m1) (Dh m1), .map (aq 0 m2) (Dh m2), .vec (ai (De Dk out)) 0 5, .var v0] 125 (.ref (.mp 2)) (int a.course) true = some v1 from ?_) (.c hc0 (.c (show (List.all [v0] (bC 5) && roomOk (Dh (ai (De Dk out)) + Dh [v0]) 40) = true from ?_) (.c (show De (D6 (au 3 1 0)) (ai (De Dk out) ++ [v0]) = ai (De Dk out) ++ [v0] from ?_) (.c (show De (fun e => (DC (au 3 1 0) e.fst, DC (au 3 1 0) e.snd.fst, e.snd.snd)) (aq 0 m1) = aq 0 m1 from ?_) (.c (show De (fun e => (DC (au 3 1 0) e.fst, DC (au 3 1 0) e.snd.fst, e.snd.snd)) (aq 0 m2) = aq 0 m2 from ?_) (.c (show [v0] = [v0] from rfl) (.c (show Dy 4 (match 0 == 3 with | true => .vec (ai (De Dk out) ++ [v0]) 0 5 | false => keepX (au 3 1 0) (.var [bool true, fq 208, bool true, fq 209, bool false, GD (FS D3)])) = true from rfl) (.c (show Dy 4 (match 0 + 1 == 3 with | true => .vec (ai (De Dk out) ++ [v0]) 0 5 | false => keepX (au 3 1 0) (.map (aq 0 m1) (Dh m1))) = true from ?_) (.c (show Dy 4 (match 0 + 1 + 1 == 3 with | true => .vec (ai (De Dk out) ++ [v0]) 0 5 | false => keepX (au 3 1 0) (.map (aq 0 m2) (Dh m2))) = true from ?_) (.c (show Dy 4 (match 0 + 1 + 1 + 1 == 3 with | true => .vec (ai (De Dk out) ++ [v0]) 0 5 | false => keepX (au 3 1 0) (.vec (ai (De Dk out) ++ [v0]) 1 5)) = true from ?_) .n)))))))))))))) (by subst v0 v1; first | (have hh : cgHit m2 i a = true := hc0; simp only []; first | done | rfl) | (have hh : cgHit m2 i a = false := hc0; simp only [cgF, hh, cond_false, hw]; first | done | rfl)) (by subst v0 v1; first | (have hh : cgHit m2 i a = true := hc0; simp only [cgF, hh, cond_true, hw, bi]; first | done | rfl) | (have hh : cgHit m2 i a = false := hc0; simp only [cgF, hh, cond_false, hw]; first | done | rfl)) <;> subst v0 v1 <;> (first | assumption | rfl | omega | exact lk2 rfl | exact aU | exact ae _ _ | exact af | exact aF _ _ _ | (rw [bi]; exact ae _ _) | (rw [bi]; exact af) | (simp [bC, D.one, El, roomOk]; omega))
theorem BP {l : List AttT} {m1 m2 : IM} {out : List AttT} {i : Nat} (hlt : decide ((i : Int) < ((l.map Dk).length : Int)) = false) : (CW Dg Γ0 [] false (sub Fq 1) (cgS l m1 m2 out i) (.exit 2) { t := mkT 135 0 [(4, .ref (.vec 3 0)), (5, int 0)], h := cgH m1 m2 out, m := [] }) := by
 exact DN (DP (s' := { t := mkT 135 0 [(4, .ref (.vec 3 0)), (5, int 0)], h := [.var [bool true, fq 208, bool true, fq 209, bool false, GD (FS D3)], .map (aq 0 m1) (Dh m1), .map (aq 0 m2) (Dh m2), .vec (ai (De Dk out)) 0 5], m := [] }) (e := Ea 2) pok [.st (.mask [4, 5])] [.b false] (by kernel_rfl) (.c hlt .n)) (by rfl) (by rfl)
def om (l : List AttT) (m2 : IM) : List AttT := l.zipIdx.foldl (fun out e => cgF m2 e out) []
theorem cg_cw {l : List AttT} (hl : l.length ≤ 900000000) {m1 m2 : IM} :
  CW Dg Γ0 [] false (.loop (sub Fq 1)) (cgS l m1 m2 [] 0) (.exit 2) { t := mkT 135 0 [(4, .ref (.vec 3 0)), (5, int 0)], h := cgH m1 m2 (om l m2), m := [] } := by
 have hs : al l := by unfold al; omega
 have := CW.each (P := Dg) (Γ := Γ0) (h0 := []) (rd := false) (c := sub Fq 1) (σ := List AttT) (ρ := Empty) l.zipIdx (fun e out => .inl (cgF m2 e out))
  (fun i out => cgS l m1 m2 out (i : Int)) (.exit 2) (fun out => { t := mkT 135 0 [(4, .ref (.vec 3 0)), (5, int 0)], h := cgH m1 m2 out, m := [] }) (fun r => r.elim)
  (fun i out => out.length ≤ i) (by simp) (fun r => r.elim) ?_ ?_ [] (by simp)
 ·rw [bh (fun out e => cgF m2 e out)] at this
  exact this
 ·rintro i ⟨a, n⟩ out hp hout
  obtain ⟨hi, he⟩ := Dm.1 hp
  simp only [IT] at hi
  have e1 : a = l[i] ∧ n = i := by simpa [eq_comm] using he.symm
  obtain ⟨ha, rfl⟩ := e1
  have h1 : l[n]? = some a := by rw [ha]; exact DF hi
  refine ⟨fun s' h => ?_, BO (rowAt h1 rfl) (lt_len Dk hi) (wrap_succ hi hs) (by omega)⟩
  cases h
  unfold cgF
  cases cgHit m2 n a <;> simp <;> omega
 ·intro out _
  rw [IT]
  exact BP (cw Dk l)
end Go.Vi
open Go Go.Proofs
namespace Go.Vi
set_option maxRecDepth 100000
set_option maxHeartbeats 4000000
def caR (l : List AttT) (rp : List Int) : (IM × IM) ⊕ Unit := forL (caE l) (caL l rp) ([], [])
theorem tw {l : List AttT} {rp : List Int} : BN l rp = cG (.exit 0) (caZ l) caX (caR l rp) := rfl
def lV (l : List AttT) (rp : List Int) : List AttT × Int :=
 bif decide (di l = 0) then (bif decide (rp.length = l.length) then (match caR l rp with | .inl s => (om l s.2, 0) | .inr _ => ([], 1)) else ([], 1)) else ([], di l)
theorem yW {l : List AttT} {rp : List Int} (h : (di l != 0) = true) : lV l rp = ([], di l) := by
 have h' : di l ≠ 0 := by simpa using h
 simp [lV, h']
theorem yX {l : List AttT} {rp : List Int} (h1 : (di l != 0) = false) (h2 : rp.length ≠ l.length) : lV l rp = ([], 1) := by
 have h' : di l = 0 := by simpa using h1
 simp [lV, h', h2]
theorem yY {l : List AttT} {rp : List Int} (h1 : (di l != 0) = false) (h2 : rp.length = l.length) {u : Unit} (h3 : caR l rp = .inr u) : lV l rp = ([], 1) := by
 have h' : di l = 0 := by simpa using h1
 simp [lV, h', h2, h3]
theorem BQ {l : List AttT} {rp : List Int} (h1 : (di l != 0) = false) (h2 : rp.length = l.length) {s : IM × IM} (h3 : caR l rp = .inl s) : lV l rp = (om l s.2, 0) := by
 have h' : di l = 0 := by simpa using h1
 simp [lV, h', h2, h3]
theorem len_ne {l : List AttT} {rp : List Int} (h2 : rp.length ≠ l.length) : (((rp.map fun n => [vi n]).length : Int) != ((l.map Dk).length : Int)) = true := by
 simp; omega
theorem Aa {l : List AttT} {rp : List Int} (h2 : rp.length = l.length) : (((rp.map fun n => [vi n]).length : Int) != ((l.map Dk).length : Int)) = false := by
 simp; omega
theorem yZ (b n : Nat) (rows : List (List Dp)) (m : IM) (k : Nat) : (aq k m).map (fun e => (DC (dh b n rows) e.1, DC (dh b n rows) e.2.1, e.2.2)) = aq k m := by
 induction m generalizing k with
 | nil => rfl
 | cons e m ih => simp only [aq, En, ih]; rfl
theorem y1 (l : List AttT) : ai (l.map Dk) = (l.map Dk).map (De GD) := by simp [ai]
theorem cnt_e1 {l : List AttT} {rp : List Int} (hs : al l) (hz : (di l != 0) = true) (h : List Blk) : (Ev Dg Γ0 118 [ab (l.map Dk), ab (rp.map fun n => [vi n])] h (.tup [ab [], int (di l)]) h) := by
 exact Dv (G9 (DR (d := Em [nq, int (di l)]) pok [.val (int (di l)), .b true] (by kernel_rfl) (.c (@dg l hs ([])) (.c hz .n)) rfl rfl h)) (by rfl) (by rfl)
theorem cnt_e2 {l : List AttT} {rp : List Int} (hs : al l) (hz : (di l != 0) = false) (hne : (((rp.map fun n => [vi n]).length : Int) != ((l.map Dk).length : Int)) = true) (h : List Blk) : (Ev Dg Γ0 118 [ab (l.map Dk), ab (rp.map fun n => [vi n])] h (.tup [ab [], int 1]) h) := by
 exact Dv (G9 (DR (d := Em [nq, int 1]) pok [.val (int (di l)), .b false, .b true] (by kernel_rfl) (.c (@dg l hs ([])) (.c hz (.c hne .n))) rfl rfl h)) (by rfl) (by rfl)
theorem aErr0 {l : List AttT} (hz : (di l != 0) = false) : di l = 0 := by simpa using hz
abbrev caS2 (l : List AttT) (rp : List (List Dp)) (z : Int) : AS :=
 { t := mkT 135 0 [(0, ab (l.map Dk)), (1, ab rp), (4, dt), (5, int z), (6, .ref (.ptr 0 0)), (7, .ref (.mp 1)), (8, .ref (.mp 2)), (32, ab (l.map Dk)), (33, int (l.map Dk).length), (34, int 0)], h := caH [] [], m := [] }
theorem wQ {l : List AttT} (hs : al l) {rp : List Int} (hr : rp.length = l.length) {u : Unit} (hc : caR l rp = .inr u) (hz : (di l != 0) = false) :
  CW Dg Γ0 [] false (.loop (sub Fq 0)) (caS2 l (rp.map fun n => [vi n]) (di l)) .ret { t := mkT 135 0 [(4, dt), (5, int 1)], h := [], m := [] } := by
 have := ca_cw hs hr
 rw [tw, hc] at this
 rw [aErr0 hz]
 exact this
theorem cnt_e3 {l : List AttT} {rp : List Int} (hs : al l) (hr : rp.length = l.length) {u : Unit} (hc : caR l rp = .inr u) (hz : (di l != 0) = false) (hne : (((rp.map fun n => [vi n]).length : Int) != ((l.map Dk).length : Int)) = false) (h : List Blk) : (Ev Dg Γ0 118 [ab (l.map Dk), ab (rp.map fun n => [vi n])] h (.tup [ab [], int 1]) h) := by
 have hl0 := (@wQ (l) (hs) (rp) (hr) (u) (hc) (hz))
 exact Dv (G9 (DR (d := Em [nq, int 1]) pok [.val (int (di l)), .b false, .b false, .val (D.agg [bool true, fq 208, bool true, fq 209, bool false, GD (FS D3)]), .sum [0, 1, 4, 5, 6, 7, 8, 32, 33, 34] (EY) { t := mkT 135 0 [(4, nq), (5, int 1)], h := [], m := [] }] (by kernel_rfl) (.c (@dg l hs ([])) (.c hz (.c hne (.c (@tt ([])) (.c hl0 .n))))) rfl rfl h)) (by rfl) (by rfl)
theorem y2 {l : List AttT} (hs : al l) {rp : List Int} (hr : rp.length = l.length) {m1 m2 : IM} (hc : caR l rp = .inl (m1, m2)) (hz : (di l != 0) = false) :
  CW Dg Γ0 [] false (.loop (sub Fq 0)) (caS2 l (rp.map fun n => [vi n]) (di l)) (.exit 0) (caZ l (m1, m2)) := by
 have := ca_cw hs hr
 rw [tw, hc] at this
 rw [aErr0 hz]
 exact this
theorem cnt_ok {l : List AttT} {rp : List Int} (hs : al l) (hl : l.length ≤ 900000000) (hr : rp.length = l.length) {m1 m2 : IM} (hc : caR l rp = .inl (m1, m2)) (hz : (di l != 0) = false) (hne : (((rp.map fun n => [vi n]).length : Int) != ((l.map Dk).length : Int)) = false) (h : List Blk) : (Ev Dg Γ0 118 [ab (l.map Dk), ab (rp.map fun n => [vi n])] h (.tup [ab ((om l m2).map Dk), int 0]) h) := by
 have hl0 := (@y2 (l) (hs) (rp) (hr) (m1) (m2) (hc) (hz))
 have hl1 := (@cg_cw (l) (hl) (m1) (m2))
 let v0 := De Dk (om l m2)
 refine Dv (G9 (DR (d := Em [ab v0, int 0]) pok [.val (int (di l)), .b false, .b false, .val (D.agg [bool true, fq 208, bool true, fq 209, bool false, GD (FS D3)]), .sum [0, 1, 4, 5, 6, 7, 8, 32, 33, 34] (Ea 0) { t := mkT 135 0 [(0, ab (De Dk l)), (4, nq), (5, int 0), (8, .ref (.mp 2))], h := [.var [bool true, fq 208, bool true, fq 209, bool false, GD (FS D3)], .map (aq 0 m1) (Dh (m1, m2).fst), .map (aq 0 m2) (Dh (m1, m2).snd)], m := [] }, .nx 1, .st (.nilT 4 5), .sum [4, 5, 8, 108, 109, 110] (Ea 2) { t := mkT 135 0 [(4, .ref (.vec 3 0)), (5, int 0)], h := [.var [bool true, fq 208, bool true, fq 209, bool false, GD (FS D3)], .map (aq 0 m1) (Dh m1), .map (aq 0 m2) (Dh m2), .vec (ai v0) 0 5], m := [] }, .st (.mask [4, 5]), .st (.frz 3 v0), .st (.trimV 0)] (by kernel_rfl) (.c (@dg l hs ([])) (.c hz (.c hne (.c (@tt ([])) (.c hl0 (.c hl1 (.c (show ai v0 = De (fun x => De GD x) v0 from ?_) (.c (show De (fun e => (DC (dh 3 0 v0) e.fst, DC (dh 3 0 v0) e.snd.fst, e.snd.snd)) (aq 0 m1) = aq 0 m1 from ?_) (.c (show De (fun e => (DC (dh 3 0 v0) e.fst, DC (dh 3 0 v0) e.snd.fst, e.snd.snd)) (aq 0 m2) = aq 0 m2 from ?_) .n))))))))) rfl rfl h)) (by rfl) (by rfl) <;> subst v0 <;> (first | assumption | rfl | exact y1 _ | exact yZ _ _ _ _ _)
theorem cnt_ev {l : List AttT} (hl : l.length ≤ 900000000) {rp : List Int} (h : List Blk) : Ev Dg Γ0 118 [ab (l.map Dk), ab (rp.map fun n => [vi n])] h (.tup [ab ((lV l rp).1.map Dk), int (lV l rp).2]) h := by
 have hs : al l := by unfold al; omega
 cases hz : (di l != 0)
 ·by_cases hr : rp.length = l.length
  ·cases hc : caR l rp with
   | inl s => obtain ⟨m1, m2⟩ := s; rw [BQ hz hr hc]; exact cnt_ok hs hl hr hc hz (Aa hr) h
   | inr u => rw [yY hz hr hc]; exact cnt_e3 hs hr hc hz (Aa hr) h
  ·rw [yX hz hr]; exact cnt_e2 hs hz (len_ne hr) h
 ·rw [yW hz]; exact cnt_e1 hs hz h
end Go.Vi
open Go Go.Proofs
namespace Go.Vi
set_option maxRecDepth 100000
set_option maxHeartbeats 4000000
abbrev cvV (xs : List Int) : List (List D) := ai (xs.map fun n => [vi n])
abbrev cvS (w : WorldT) (known term : Int) (as_ : List (List Dp)) (rs : List ReadT) (xs : List Int) (i : Int) : AS :=
 { t := mkT 36 0 [(0, .ref (.ptr 0 0)), (1, ab as_), (2, int term), (8, .ref (.vec 2 0)), (14, ab as_), (15, int as_.length), (16, int i)], h := lkH w known rs 1 ++ [.vec (cvV xs) 0 1], m := [] }
theorem ie {h : List Blk} {xs : List Int} {i : Nat} {v : Int} (hb : h[2]? = some (.vec (cvV xs) 0 1)) (hi : i < xs.length) : bS Dg h 3 (.ref (.vp 2 0 (Dz (i : Int)) 0)) (int v) = some (h.set 2 (.vec (cvV (xs.set i v)) 0 1)) := by
 have e1 : (cvV xs)[Dz (i : Int)]? = some [int xs[i]] := by simp [hi]
 have e2 : szOf Dg 3 = some 1 := by kernel_rfl
 have e3 : (cvV xs).set (Dz (i : Int)) [int v] = cvV (xs.set i v) := by simp [List.map_set]
 unfold bS
 simp only [int, D.cells, e2, hb, e1]
 rw [← e3]
 rfl
theorem qu {xs : List Int} {i : Nat} (hi : i < xs.length) : inR (i : Int) (cvV xs).length = true := by
 simp [inR]; omega
noncomputable abbrev ja (w : WorldT) (known : Int) (term : Int) (a : AttT) (rs : List ReadT) (xs : List Int) : List Blk := [.var [.ref (.vec 1 2), ab (De Dt w.c), ab w.p, ab (De Dw w.s), ab (De Ds w.f), int known], .vec (ai (rdR (rs ++ rdT 1 a.course 0 term))) 2 5, .vec (cvV xs) 0 1, .var [int a.course, int a.term, int a.grade, int a.campus, int a.credits]]
theorem BR {w : WorldT} (hw : w.ok) {known term : Int} {as_ : List (List Dp)} {a : AttT} {rs0 rs : List ReadT} {xs : List Int} {i : Nat} (hi : i < xs.length) (hr : aM (i : Int) as_ a.row 5) (hlt : decide ((i : Int) < (as_.length : Int)) = true) (hwr : Dj.wrap ((i : Int) + 1) = ((i + 1 : Nat) : Int)) (hb : rs.length ≤ 999998000) : (CW Dg Γk (lkH w known rs0 0) false (sub Iu 0) (cvS w known term as_ rs xs i) .normal (cvS w known term as_ (rs ++ rdT 1 a.course 0 term) (xs.set i (ac w a.course term known).1.rep) ((i + 1 : Nat) : Int))) := by
 let v0 := D.agg [aA (ac w a.course term known).fst.name, int (ac w a.course term known).fst.number, int (ac w a.course term known).fst.credits, int (ac w a.course term known).fst.rep, int (Dn (ac w a.course term known).fst.need).op, int (Dn (ac w a.course term known).fst.need).c, aA (Dn (ac w a.course term known).fst.need).nm, int (Dn (ac w a.course term known).fst.need).n, int (Dn (ac w a.course term known).fst.need).d, ab (Dn (ac w a.course term known).fst.need).ks, int (Dn (ac w a.course term known).fst.bar).op, int (Dn (ac w a.course term known).fst.bar).c, aA (Dn (ac w a.course term known).fst.bar).nm, int (Dn (ac w a.course term known).fst.bar).n, int (Dn (ac w a.course term known).fst.bar).d, ab (Dn (ac w a.course term known).fst.bar).ks]
 let v1 : List D := [.ref (.vec 1 1), ab (De Dt w.c), ab w.p, ab (De Dw w.s), ab (De Ds w.f), int known]
 let v2 := List.set xs i (ac w a.course term known).fst.rep
 let v3 : List D := [.ref (.vec 1 2), ab (De Dt w.c), ab w.p, ab (De Dw w.s), ab (De Ds w.f), int known]
 let v4 : List D := [int a.course, int a.term, int a.grade, int a.campus, int a.credits]
 let v5 : List Blk := [.var v1, .vec (ai (rdR rs)) 1 5, .vec (cvV xs) 0 1, .var v4]
 refine DN (DP (s' := { t := mkT 36 0 [(0, .ref (.ptr 0 0)), (1, ab as_), (2, int term), (8, .ref (.vec 2 0)), (14, ab as_), (15, int (↑(Dh as_) : Int)), (16, int (Dr Dj ((↑i : Int) + 1)))], h := [.var v1, .vec (ai (rdR (rs ++ rdT 1 a.course 0 term))) 1 5, .vec (cvV v2) 0 1], m := [] }) (e := DE) pok [.st (.mask [0, 1, 2, 8, 14, 15, 16]), .st (.ren 1 1), .st (.trimV 3)] [.b true, .row (Dk a), .call v0 (ja w known term a rs xs), .oh 10029 EF (lkH w known (rs ++ rdT 1 a.course 0 term) 2 ++ [.vec (cvV v2) 0 1, .var (De GD (Dk a))])] (by kernel_rfl) (.c hlt (.c hr (.c (show Ev Dg Γk 116 [.ref (.ptr 0 0), int a.course, int term] v5 v0 (ja w known term a rs xs) from (Dv (FD (args := [.ref (.ptr 0 0), int a.course, int term]) (H := v5) [0, 1] (Ev.upX [0, 1] (@kY w hw known (a.course) term rs ?_) (by kernel_rfl) ⟨(by subst v0 v1 v2 v3 v4 v5; first | rfl | exact ak _ _ | first | assumption | rfl | omega | exact ie rfl hi | exact qu hi | exact ae _ _ | exact af), trivial⟩ ⟨(by subst v0 v1 v2 v3 v4 v5; first | rfl | exact ak _ _ | first | assumption | rfl | omega | exact ie rfl hi | exact qu hi | exact ae _ _ | exact af), trivial⟩) (by kernel_rfl) (by kernel_rfl) (by kernel_rfl) ⟨(by subst v0 v1 v2 v3 v4 v5; first | rfl | exact ak _ _ | first | assumption | rfl | omega | exact ie rfl hi | exact qu hi | exact ae _ _ | exact af), trivial⟩ ⟨(by subst v0 v1 v2 v3 v4 v5; first | rfl | exact ak _ _ | first | assumption | rfl | omega | exact ie rfl hi | exact qu hi | exact ae _ _ | exact af), trivial⟩) (by kernel_rfl) (by kernel_rfl))) (.c (show inR (↑i : Int) (Dh (cvV xs)) = true from ?_) (.c (show bS Dg (ja w known term a rs xs) 3 (.ref (.vp 2 0 (Dz (↑i : Int)) 0)) (int (ac w a.course term known).fst.rep) = some [.var v3, .vec (ai (rdR (rs ++ rdT 1 a.course 0 term))) 2 5, .vec (cvV v2) 0 1, .var v4] from ?_) (.c (show De (D6 (au 1 2 1)) (ai (rdR (rs ++ rdT 1 a.course 0 term))) = ai (rdR (rs ++ rdT 1 a.course 0 term)) from ?_) (.c (show De (D6 (au 1 2 1)) (cvV v2) = cvV v2 from ?_) (.c (show Dy 3 (match 0 == 1 with | true => .vec (ai (rdR (rs ++ rdT 1 a.course 0 term))) 1 5 | false => keepX (au 1 2 1) (.var v3)) = true from rfl) (.c (show Dy 3 (match 0 + 1 == 1 with | true => .vec (ai (rdR (rs ++ rdT 1 a.course 0 term))) 1 5 | false => keepX (au 1 2 1) (.vec (ai (rdR (rs ++ rdT 1 a.course 0 term))) 2 5)) = true from ?_) (.c (show Dy 3 (match 0 + 1 + 1 == 1 with | true => .vec (ai (rdR (rs ++ rdT 1 a.course 0 term))) 1 5 | false => keepX (au 1 2 1) (.vec (cvV v2) 0 1)) = true from ?_) .n))))))))))) (by subst v0 v1 v2 v3 v4 v5; first | rfl | (simp only [hwr]; rfl)) (by subst v0 v1 v2 v3 v4 v5; first | rfl | (simp only [hwr]; rfl)) <;> subst v0 v1 v2 v3 v4 v5 <;> (first | assumption | rfl | omega | exact ie rfl hi | exact qu hi | exact ae _ _ | exact af)
theorem BS {w : WorldT} {known term : Int} {as_ : List (List Dp)} {rs0 rs : List ReadT} {xs : List Int} {i : Nat} (hlt : decide ((i : Int) < (as_.length : Int)) = false) : (CW Dg Γk (lkH w known rs0 0) false (sub Iu 0) (cvS w known term as_ rs xs i) (.exit 0) { t := mkT 36 0 [(1, ab as_), (8, .ref (.vec 2 0))], h := lkH w known rs 1 ++ [.vec (cvV xs) 0 1], m := [] }) := by
 exact DN (DP (s' := { t := mkT 36 0 [(1, ab as_), (8, .ref (.vec 2 0))], h := [.var [.ref (.vec 1 1), ab (De Dt w.c), ab w.p, ab (De Dw w.s), ab (De Ds w.f), int known], .vec (ai (rdR rs)) 1 5, .vec (cvV xs) 0 1], m := [] }) (e := Ea 0) pok [.st (.mask [1, 8])] [.b false] (by kernel_rfl) (.c hlt .n)) (by rfl) (by rfl)
def lG (w : WorldT) (known term : Int) (l : List AttT) : List Int := l.map fun a => (ac w a.course term known).1.rep
def jb (term : Int) (l : List AttT) : List ReadT := l.flatMap fun a => rdT 1 a.course 0 term
theorem oo (term : Int) : ∀ l : List AttT, (jb term l).length ≤ l.length
 | [] => by simp [jb]
 | a :: l => by have := oo term l; have := rdT_len 1 a.course 0 term; simp only [jb, List.flatMap_cons, List.length_append, DZ] at *; omega
theorem BT {f : AttT → Int} {l : List AttT} {i : Nat} {a : AttT} (hi : i < l.length) (ha : l[i]? = some a) : ((l.take i).map f ++ DQ (l.length - i) 0).set i (f a) = (l.take (i + 1)).map f ++ DQ (l.length - (i + 1)) 0 := by
 have e1 : l.length - i = (l.length - (i + 1)) + 1 := by omega
 rw [List.set_append_right _ _ (by simp; omega), List.take_add_one, ha, e1, List.replicate_succ]
 have : i - ((l.take i).map f).length = 0 := by simp; omega
 rw [this]
 simp
theorem cv_cw {w : WorldT} (hw : w.ok) {known term : Int} {l : List AttT} (hl : l.length ≤ 90000000) {rs0 rs : List ReadT} (hb : rs.length ≤ 900000000) {V : List (List D)} (hV : V = cvV (DQ l.length 0)) :
  CW Dg Γk (lkH w known rs0 0) false (.loop (sub Iu 0)) { t := mkT 36 0 [(0, .ref (.ptr 0 0)), (1, ab (l.map Dk)), (2, int term), (8, .ref (.vec 2 0)), (14, ab (l.map Dk)), (15, int (l.map Dk).length), (16, int 0)], h := lkH w known rs 1 ++ [.vec V 0 1], m := [] } (.exit 0) { t := mkT 36 0 [(1, ab (l.map Dk)), (8, .ref (.vec 2 0))], h := lkH w known (rs ++ jb term l) 1 ++ [.vec (cvV (lG w known term l)) 0 1], m := [] } := by
 subst hV
 have hs : al l := by unfold al; omega
 have := CW.loopN (P := Dg) (Γ := Γk) (h0 := lkH w known rs0 0) (rd := false) (c := sub Iu 0) l.length
  (fun i => cvS w known term (l.map Dk) (rs ++ jb term (l.take i)) ((l.take i).map (fun a => (ac w a.course term known).1.rep) ++ DQ (l.length - i) 0) (i : Int)) (e := .exit 0) (s' := { t := mkT 36 0 [(1, ab (l.map Dk)), (8, .ref (.vec 2 0))], h := lkH w known (rs ++ jb term l) 1 ++ [.vec (cvV (lG w known term l)) 0 1], m := [] }) (by simp) ?_ ?_
 ·have e0 : rs ++ jb term (l.take 0) = rs := by simp [jb]
  have e1 : (l.take 0).map (fun a => (ac w a.course term known).1.rep) ++ DQ (l.length - 0) 0 = DQ l.length 0 := by simp
  simp only [e0, e1] at this
  exact this
 ·intro i hi
  have ha : l[i]? = some l[i] := DF hi
  have key := BR hw (known := known) (term := term) (rs0 := rs0) (rs := rs ++ jb term (l.take i)) (xs := (l.take i).map (fun a => (ac w a.course term known).1.rep) ++ DQ (l.length - i) 0) (i := i) (by simp; omega) (rowAt ha rfl) (lt_len Dk hi) (wrap_succ hi hs) (by have := oo term (l.take i); simp at *; omega)
  rw [BT (f := fun a => (ac w a.course term known).1.rep) hi ha] at key
  have e2 : jb term (l.take (i + 1)) = jb term (l.take i) ++ rdT 1 l[i].course 0 term := by
   unfold jb; rw [List.take_add_one, ha, Option.toList_some, List.flatMap_append, List.flatMap_singleton]
  rw [e2, ← List.append_assoc]
  exact key
 ·have := BS (w := w) (known := known) (term := term) (as_ := l.map Dk) (rs0 := rs0) (rs := rs ++ jb term l) (xs := lG w known term l) (i := l.length) (cw Dk l)
  have e3 : l.map (fun a => (ac w a.course term known).1.rep) ++ DQ (l.length - l.length) 0 = lG w known term l := by simp [lG]
  simp only [List.take_length, e3]
  exact this
theorem makeV (l : List AttT) : DQ (Dz ((l.map Dk).length : Int)) [int 0] = cvV (DQ l.length 0) := by simp []
theorem wR (f : Ref → D) (n : Nat) : (DQ n [int 0]).map (D6 f) = DQ n [int 0] := by rw [List.map_replicate]; rfl
theorem wS (xs : List Int) : cvV xs = (xs.map fun n => [vi n]).map (De GD) := by simp []
noncomputable abbrev lk (w : WorldT) (known : Int) (term : Int) (l : List AttT) (rs : List ReadT) : List Blk := [.var [.ref (.vec 1 1), ab (De Dt w.c), ab w.p, ab (De Dw w.s), ab (De Ds w.f), int known], .vec (ai (rdR (rs ++ jb term l))) 1 5]
theorem tz {w : WorldT} (hw : w.ok) {known term : Int} {l : List AttT} (hl : l.length ≤ 90000000) {rs : List ReadT} (hb : rs.length ≤ 900000000) : (Ev Dg Γk 61 [.ref (.ptr 0 0), ab (l.map Dk), int term] (lkH w known rs 0) (.tup [ab ((lV l (lG w known term l)).1.map Dk), int (lV l (lG w known term l)).2]) (lkH w known (rs ++ jb term l) 1)) := by
 have hl0 := (@cv_cw (w) (hw) (known) (term) (l) (hl) (rs) (rs) (hb) (DQ (Dz (↑(Dh (De Dk l)) : Int)) (De lit (Value.cells (Value.int Dj 0)).toList)) (by first | assumption | rfl | omega | exact makeV _ | exact wR _ _ | exact wS _ | exact ae _ _ | exact af | (simp; omega)))
 let v0 := Dh (De Dk l)
 let v1 : List D := [.ref (.vec 1 1), ab (De Dt w.c), ab w.p, ab (De Dw w.s), ab (De Ds w.f), int known]
 let v2 : List D := [ab (De Dk (lV l (lG w known term l)).fst), int (lV l (lG w known term l)).snd]
 let v3 := De lit (Value.cells (Value.int Dj 0)).toList
 refine Dv (Ev.of_sym (h' := (lk w known term l rs)) (d := Em v2) pok [.nx 3, .st (.ren 1 1), .sum [0, 1, 2, 8, 14, 15, 16] (Ea 0) { t := mkT 36 0 [(1, ab (De Dk l)), (8, .ref (.vec 2 0))], h := [.var v1, .vec (ai (rdR (rs ++ jb term l))) 1 5, .vec (cvV (lG w known term l)) 0 1], m := [] }, .st (.mask [1, 8]), .st (.frz 2 (De (fun n => [vi n]) (lG w known term l))), .st (.trimV 2), .val (Em v2)] (by kernel_rfl) (.c (show (decide (0 ≤ (↑v0 : Int)) && decide ((↑v0 : Int) ≤ (↑v0 : Int)) && decide ((↑v0 : Int) * (↑8 : Int) ≤ 281474976710656) && decide ((↑v0 : Int) ≤ 281474976710656)) = true from ?_) (.c (show De (D6 (au 1 0 1)) (ai (rdR rs)) = ai (rdR rs) from ?_) (.c (show De (D6 (au 1 0 1)) (DQ (Dz (↑v0 : Int)) v3) = DQ (Dz (↑v0 : Int)) v3 from ?_) (.c hl0 (.c (show cvV (lG w known term l) = De (fun x => De GD x) (De (fun n => [vi n]) (lG w known term l)) from ?_) (.c (show De (D6 (dh 2 0 (De (fun n => [vi n]) (lG w known term l)))) (ai (rdR (rs ++ jb term l))) = ai (rdR (rs ++ jb term l)) from ?_) (.c (show Dy 2 (match 0 == 2 with | true => .gone | false => keepX (dh 2 0 (De (fun n => [vi n]) (lG w known term l))) (.var v1)) = true from rfl) (.c (show Dy 2 (match 0 + 1 == 2 with | true => .gone | false => keepX (dh 2 0 (De (fun n => [vi n]) (lG w known term l))) (.vec (ai (rdR (rs ++ jb term l))) 1 5)) = true from ?_) (.c (DW (Γ' := Γk) (@cnt_ev l ?_ (lG w known term l) (lk w known term l rs))) .n)))))))))) (by rfl) (by rfl) <;> subst v0 v1 v2 v3 <;> (first | assumption | rfl | omega | exact makeV _ | exact wR _ _ | exact wS _ | exact ae _ _ | exact af | (simp; omega))
end Go.Vi
open Go Go.Proofs
namespace Go.Vi
set_option maxRecDepth 100000
set_option maxHeartbeats 4000000
def ig (r : RecT) (term : Int) : Bool := bo r != 0 || !(decide (term ≥ 0) && decide (term ≤ 1023))
def rcX (b : Bool) (e : Int) (L : List AttT) (rr : List ReadT) : List AttT × List ReadT × Int := match b with
 | true => ([], [], 150)
 | false => match (e != 0) with
  | true => ([], [], e)
  | false => (L, rr, 0)
noncomputable abbrev ii (w : WorldT) (r : RecT) (known : Int) (rr : List ReadT) : List Blk := [.var [ab (De Dt w.c), ab w.p, ab (De Dw w.s), ab (De Ds w.f)], .var [int r.st, ab (De Dk r.a)], .var [.ref (.vec 3 1), ab (De Dt w.c), ab w.p, ab (De Dw w.s), ab (De Ds w.f), int known], .vec (ai (rdR rr)) 1 5]
noncomputable abbrev ij (w : WorldT) (r : RecT) (known : Int) : List Blk := [.var [ab (De Dt w.c), ab w.p, ab (De Dw w.s), ab (De Ds w.f)], .var [int r.st, ab (De Dk r.a)], .var [.ref (.vec 3 0), ab (De Dt w.c), ab w.p, ab (De Dw w.s), ab (De Ds w.f), int known], .vec [] 0 5]
noncomputable abbrev eB (w : WorldT) (r : RecT) : List Blk := [.var [ab (De Dt w.c), ab w.p, ab (De Dw w.s), ab (De Ds w.f)], .var [int r.st, ab (De Dk r.a)]]
theorem rcnt_a {w : WorldT} {r : RecT} (hr : al r.a) {term known e : Int} {rr : List ReadT} {L : List AttT} (hc : Ev Dg Γk 61 [.ref (.ptr 0 0), ab (r.a.map Dk), int term] (lkH w known [] 0) (.tup [ab (L.map Dk), int e]) (lkH w known rr 1)) (h : List Blk) : (Ev Dg Γk 53 [.agg w.l, .agg r.l, int term, int known] h (.tup [ab ((rcX (ig r term) e L rr).1.map Dk), ab (rdR (rcX (ig r term) e L rr).2.1), int (rcX (ig r term) e L rr).2.2]) h) := by
 cases hc0 : bo r != 0 || !(decide (term ≥ 0) && decide (term ≤ 1023))
 ·cases hc1 : e != 0
  ·refine Dv (G9 (DR (d := Em [ab (De Dk L), ab (rdR rr), int 0]) pok [.val (int (bo r)), .val (bool (decide (term ≥ 0) && decide (term ≤ 1023))), .b false, .nx 1, .st (.nilC 2 0 5), .call (Em [ab (De Dk L), int e]) (ii w r known rr), .st (.frz 3 (rdR rr)), .b false] (by kernel_rfl) (.c (DW (Γ' := Γk) (@fR r hr (eB w r))) (.c (gd (!bo r != 0) (DW (Γ' := Γk) (@aO term 0 1023 (eB w r)))) (.c hc0 (.c (show Ev Dg Γk 61 [.ref (.ptr 2 0), ab (De Dk r.a), int term] (ij w r known) (Em [ab (De Dk L), int e]) (ii w r known rr) from (Dv (FD (args := [.ref (.ptr 2 0), ab (De Dk r.a), int term]) (H := (ij w r known)) [2, 3] (@hc) (by kernel_rfl) (by kernel_rfl) (by kernel_rfl) ⟨?_, trivial⟩ ⟨?_, trivial⟩) (by kernel_rfl) (by kernel_rfl))) (.c (show ai (rdR rr) = De (fun x => De GD x) (rdR rr) from (by first | assumption | rfl | omega | exact ae _ _ | exact af)) (.c hc1 .n)))))) rfl rfl h)) (by first | (have hh : ig r term = true := hc0; simp only [rcX, hh]; rfl) | (have hh : ig r term = false := hc0; have h2 : (e != 0) = true := hc1; simp only [rcX, hh, h2]; rfl) | (have hh : ig r term = false := hc0; have h2 : (e != 0) = false := hc1; simp only [rcX, hh, h2]; rfl)) (by rfl) <;> (first | rfl | exact ak _ _ | first | assumption | rfl | omega | exact ae _ _ | exact af)
  ·refine Dv (G9 (DR (d := Em [nq, nq, int e]) pok [.val (int (bo r)), .val (bool (decide (term ≥ 0) && decide (term ≤ 1023))), .b false, .nx 1, .st (.nilC 2 0 5), .call (Em [ab (De Dk L), int e]) (ii w r known rr), .st (.frz 3 (rdR rr)), .b true] (by kernel_rfl) (.c (DW (Γ' := Γk) (@fR r hr (eB w r))) (.c (gd (!bo r != 0) (DW (Γ' := Γk) (@aO term 0 1023 (eB w r)))) (.c hc0 (.c (show Ev Dg Γk 61 [.ref (.ptr 2 0), ab (De Dk r.a), int term] (ij w r known) (Em [ab (De Dk L), int e]) (ii w r known rr) from (Dv (FD (args := [.ref (.ptr 2 0), ab (De Dk r.a), int term]) (H := (ij w r known)) [2, 3] (@hc) (by kernel_rfl) (by kernel_rfl) (by kernel_rfl) ⟨?_, trivial⟩ ⟨?_, trivial⟩) (by kernel_rfl) (by kernel_rfl))) (.c (show ai (rdR rr) = De (fun x => De GD x) (rdR rr) from (by first | assumption | rfl | omega | exact ae _ _ | exact af)) (.c hc1 .n)))))) rfl rfl h)) (by first | (have hh : ig r term = true := hc0; simp only [rcX, hh]; rfl) | (have hh : ig r term = false := hc0; have h2 : (e != 0) = true := hc1; simp only [rcX, hh, h2]; rfl) | (have hh : ig r term = false := hc0; have h2 : (e != 0) = false := hc1; simp only [rcX, hh, h2]; rfl)) (by rfl) <;> (first | rfl | exact ak _ _ | first | assumption | rfl | omega | exact ae _ _ | exact af)
 ·exact Dv (G9 (DR (d := Em [nq, nq, int 150]) pok [.val (int (bo r)), .val (bool (decide (term ≥ 0) && decide (term ≤ 1023))), .b true] (by kernel_rfl) (.c (DW (Γ' := Γk) (@fR r hr (eB w r))) (.c (gd (!bo r != 0) (DW (Γ' := Γk) (@aO term 0 1023 (eB w r)))) (.c hc0 .n))) rfl rfl h)) (by first | (have hh : ig r term = true := hc0; simp only [rcX, hh]; rfl) | (have hh : ig r term = false := hc0; have h2 : (e != 0) = true := hc1; simp only [rcX, hh, h2]; rfl) | (have hh : ig r term = false := hc0; have h2 : (e != 0) = false := hc1; simp only [rcX, hh, h2]; rfl)) (by rfl)
def wT (w : WorldT) (r : RecT) (term known : Int) : List AttT × List ReadT × Int :=
 rcX (ig r term) (lV r.a (lG w known term r.a)).2 (lV r.a (lG w known term r.a)).1 (jb term r.a)
theorem BU {w : WorldT} (hw : w.ok) {r : RecT} (hr : r.a.length ≤ 90000000) {term known : Int} (h : List Blk) : Ev Dg Γk 53 [.agg w.l, .agg r.l, int term, int known] h (.tup [ab ((wT w r term known).1.map Dk), ab (rdR (wT w r term known).2.1), int (wT w r term known).2.2]) h :=
 rcnt_a (by unfold al; omega) (by have := tz hw (known := known) (term := term) (l := r.a) hr (rs := []) (by simp); simpa using this) h
end Go.Vi
