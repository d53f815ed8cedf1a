/- RecordFits: part of the proof: an evaluator of the model's programs on abstract values, and its soundness. No conditions beyond the given statement's own. -/
import Derived.Test.YtilebidefogaiaaGreatDoorV7
import Derived.ChangeArms
import Derived.OpenShut
import Derived.Below
import Derived.Carry
open Option.some renaming injEq → Df, inj → H3
open List renaming getElem?_cons_succ → EI, mem_of_getElem? → Ec, getElem?_eq_some_iff → Dm, getElem?_eq_getElem → DF, map_cons → En, mem_map → DL, getElem?_map → EP, getD → DS, all_eq_true → DX, getElem?_append_left → DB, range → Ef, flatten_cons → Eo, drop_append → GP, drop_eq_nil_of_le → GX, length_append → E7, length_cons → DZ, drop_drop → Hd, drop_zero → He, getElem?_cons_zero → DT, mem_cons_of_mem → Eg, length_nil → Fp, getD_eq_getElem?_getD → DI, contains_iff_mem → FV, mem_filter → FM, append_nil → GN, mem_cons → D2, all_append → Hy, all_cons → FH, length_map → EW
open Nat renaming sub_zero → F7, lt_of_lt_of_le → FN, add_mul → FX, mul_le_mul_right → F5, eq_of_beq_eq_true → Iq
open Go.Vi.D renaming mapR → DC, mapRL → D6, innL → Fw, inn → Fg
open Go.Vi.Blk renaming mapR → Fb, le → Ib, stays → HT
open Go.Vi.Ref renaming blk → GB
open Bool renaming and_eq_true → Dl, not_eq_true → Gd
open Go.CallsIn renaming mono → Fc
open Go.Vi.RelCells renaming mono → Hx
open Go.Vi.AllP renaming append → GW
open Prod.mk renaming injEq → Di
open Option renaming map_some → D9
open Go.Instr renaming next → F8
open Array renaming isEmpty_iff_size_eq_zero → Ho, getElem?_toList → Eh
open Go.Sem renaming run_bind → DA
open Go.Result renaming andThen_ok → Du
open Go.Question renaming forced → F0
open Go.Region renaming wanted → Ei
open Go.DataW renaming weightsEach → IQ, trod → Gu, weights → HN
namespace Go.Vi
open Go
def Ref.to (n : Nat) : Ref → Ref
 | .ptr _ o => .ptr n o
 | .vec _ e => .vec n e
 | .vs _ e i k c => .vs n e i k c
 | .av _ o k s => .av n o k s
 | .vp _ e i j => .vp n e i j
 | .mp _ => .mp n
 | .it _ => .it n
 | .yl _ => .yl n
def idx (x : Nat) : Nat → List Nat → Option Nat
 | _, [] => none
 | k, y :: ys => match x == y with
  | true => some k
  | false => idx x (k + 1) ys
theorem fN {x : Nat} : ∀ {ys : List Nat} {k i : Nat}, idx x k ys = some i → k ≤ i ∧ ys[i - k]? = some x
 | [], k, i, h => by simp [idx] at h
 | y :: ys, k, i, h => by
  unfold idx at h
  split at h
  ·rename_i e
   simp only [Df] at h
   subst h
   simp only [beq_iff_eq] at e
   subst e
   simp
  ·obtain ⟨h1, h2⟩ := fN h
   refine ⟨by omega, ?_⟩
   rw [show i - k = (i - (k + 1)) + 1 by omega, EI]
   exact h2
theorem nW {x : Nat} : ∀ {ys : List Nat} {k : Nat}, idx x k ys = none → x ∉ ys
 | [], k, _ => by simp
 | y :: ys, k, h => by
  unfold idx at h
  split at h
  ·simp at h
  ·rename_i e
   simp only [beq_eq_false_iff_ne, ne_eq] at e
   simp [e, nW h]
theorem sQ {x : Nat} {ys : List Nat} {i : Nat} (hn : ys.Nodup) (h : ys[i]? = some x) : idx x 0 ys = some i := by
 cases hi : idx x 0 ys with
 | none => exact absurd (Ec h) (nW hi)
 | some j =>
  obtain ⟨_, h2⟩ := fN hi
  simp only [F7] at h2
  have hj := (Dm.1 h2).1
  have hi' := (Dm.1 h).1
  rw [DF hj] at h2
  rw [DF hi'] at h
  have : ys[j] = ys[i] := by simp only [Df] at h h2; rw [h, h2]
  rw [(List.getElem_inj hn).1 this]
def inv (is : List Nat) (r : Ref) : D := match idx r.blk 0 is with
 | some i => .ref (r.to i)
 | none => .any
def fwd (is : List Nat) (m : Nat) (r : Ref) : D := match is[r.blk]? with
 | some i => .ref (r.to i)
 | none => .ref (r.to (m + (r.blk - is.length)))
def gi : Blk → Bool
 | .mit .. => true
 | _ => false
section
variable {w : World} {av av' : Nat → Prop} {l l' : Loc} {h h' : List Blk} {f : Ref → D}
mutual
theorem ez (ha : ∀ k, av' k → av k) (hf : ∀ r y, RefRel l h r y → Rel w av' l' h' (f r) y) : ∀ {d : D} {y : Value}, Rel w av l h d y → Rel w av' l' h' (DC f d) y
 | .p _, _, r => by simp only [Rel, DC] at r ⊢; exact dK ha r
 | .any, _, _ => by simp [Rel, DC]
 | .ref r, y, rr => by simp only [DC]; exact hf r y (by simpa only [Rel] using rr)
 | .ep _, _, r => by
  simp only [Rel, DC] at r ⊢
  obtain ⟨blk, off, r1, r2⟩ := r
  exact ⟨blk, off, r1, aD ha r2⟩
 | .csl _, _, r => by
  simp only [Rel, DC] at r ⊢
  rcases r with r | ⟨blk, off, sz, r1, r2⟩
  ·exact .inl r
  ·exact .inr ⟨blk, off, sz, r1, bU ha r2⟩
 | .fn _ _ _, _, r => by
  simp only [Rel, DC] at r ⊢
  obtain ⟨a, c, r1, r2, r3⟩ := r
  exact ⟨a, c, r1, bD ha hf r2, bD ha hf r3⟩
 | .agg _, _, r => by
  simp only [Rel, DC] at r ⊢
  obtain ⟨vs, r1, r2⟩ := r
  exact ⟨vs, r1, bD ha hf r2⟩
 | .tup _, _, r => by
  simp only [Rel, DC] at r ⊢
  obtain ⟨vs, r1, r2⟩ := r
  exact ⟨vs, r1, bD ha hf r2⟩
 | .grd _ _, _, r => by
  simp only [Rel, DC] at r ⊢
  exact ⟨fun hg => ez ha hf (r.1 hg), r.2⟩
theorem bD (ha : ∀ k, av' k → av k) (hf : ∀ r y, RefRel l h r y → Rel w av' l' h' (f r) y) : ∀ {ds : List D} {ys : List Value}, RelL w av l h ds ys → RelL w av' l' h' (D6 f ds) ys
 | [], [], _ => by simp [RelL, D6]
 | [], _ :: _, r => by simp [RelL] at r
 | _ :: _, [], r => by simp [RelL] at r
 | _ :: _, _ :: _, r => by
  simp only [RelL, D6] at r ⊢
  exact ⟨ez ha hf r.1, bD ha hf r.2⟩
end
theorem kD (ha : ∀ k, av' k → av k) (hf : ∀ r y, RefRel l h r y → Rel w av' l' h' (f r) y) : ∀ {kvs : List (D × D × Nat)} {es : List MapEntry}, RelKV w av l h kvs es →
  RelKV w av' l' h' (kvs.map fun e => (DC f e.1, DC f e.2.1, e.2.2)) es
 | [], [], _ => by simp [RelKV]
 | [], _ :: _, r => by simp [RelKV] at r
 | _ :: _, [], r => by simp [RelKV] at r
 | (k, d, m) :: kvs, e :: es, r => by
  simp only [RelKV, En] at r ⊢
  exact ⟨ez ha hf r.1, ez ha hf r.2.1, r.2.2.1, kD ha hf r.2.2.2⟩
theorem eQ (ha : ∀ k, av' k → av k) (hf : ∀ r y, RefRel l h r y → Rel w av' l' h' (f r) y) {b b' : Nat} (hl : l' b' = l b) {x : Blk} (hm : gi x = false) (r : BlkOk w av l h b x) : BlkOk w av' l' h' b' (x.mapR f) := by
 cases x with
 | var cs =>
  obtain ⟨blk, cp, c, T, r1, r2, r3⟩ := r
  exact ⟨blk, cp, c, T, hl.trans r1, r2, bD ha hf r3⟩
 | vec es e sz =>
  unfold BlkOk at r ⊢
  simp only [Fb, hl] at r ⊢
  split
  ·rename_i h0; rw [h0] at r; simp only at r; rw [r]; rfl
  ·rename_i blk cap h0
   rw [h0] at r
   obtain ⟨c, T, fr, ys, r1, r2, r3, r4, r5, r6, r7⟩ := r
   refine ⟨c, T, fr, ys, r1, r2, by simpa using r3, r4, ?_, ?_, r7⟩
   ·intro e he
    obtain ⟨e0, he0, rfl⟩ := DL.1 he
    rw [fp]; exact r5 e0 he0
   ·rw [← eM]; exact bD ha hf r6
 | map kvs clock =>
  obtain ⟨blk, cp, es, r1, r2, r3⟩ := r
  exact ⟨blk, cp, es, hl.trans r1, r2, kD ha hf r3⟩
 | sit s pos =>
  obtain ⟨blk, cp, r1, r2⟩ := r
  exact ⟨blk, cp, hl.trans r1, r2⟩
 | mit m since seen st => simp [gi] at hm
 | loop st pend fn tmps params asg body =>
  obtain ⟨blk, cp, ts, dr, fn', r1, r2, r3⟩ := r
  exact ⟨blk, cp, ts, dr, fn', hl.trans r1, r2, bD ha hf r3⟩
 | defd =>
  obtain ⟨blk, cp, r1, r2⟩ := r
  exact ⟨blk, cp, hl.trans r1, r2⟩
 | gone => trivial
end
theorem mB {f : Ref → D} (x : Blk) : gi (x.mapR f) = gi x := by cases x <;> rfl
theorem sR {f g : Ref → D} {x y : Blk} (h : (x.mapR f).le y) : x.le (y.mapR g) ∧ (x.stays (y.mapR g) → (x.mapR f).stays y) := by
 cases x <;> cases y <;> simp only [Ib, Fb] at h <;> simp_all [Ib, Fb, HT]
theorem ym {g : Ref → D} {x y : Blk} (h : x.le y) : x.le (y.mapR g) ∧ (x.stays (y.mapR g) → x.stays y) := by
 cases x <;> cases y <;> simp only [Ib] at h <;> simp_all [Ib, Fb, HT]
theorem kE {l l' : Loc} {h h' : List Blk} {f : Ref → D} {r : Ref} {n : Nat} {x : Blk} {y : Value} (hx : h[r.blk]? = some x) (hx' : h'[n]? = some (x.mapR f)) (hl : l' n = l r.blk) (rr : RefRel l h r y) : RefRel l' h' (r.to n) y := by
 unfold RefRel at rr ⊢
 refine ⟨rr.1, ?_⟩
 have rr := rr.2
 cases r <;> simp only [GB] at hx hl <;> simp only [hx] at rr <;> simp only [Ref.to, hx', hl] <;> cases x <;> simp [Fb] at rr ⊢ <;> exact rr
theorem eR {l : Loc} {h : List Blk} {r : Ref} {y : Value} (rr : RefRel l h r y) : ∃ x, h[r.blk]? = some x := by
 unfold RefRel at rr
 have rr := rr.2
 cases hx : h[r.blk]? with
 | some x => exact ⟨x, rfl⟩
 | none => cases r <;> simp only [GB] at hx <;> simp only [hx] at rr
def pick (is : List Nat) (H : List Blk) : List Blk := is.map fun i => (H.getD i .gone).mapR (inv is)
theorem jN {is : List Nat} {H : List Blk} {b : Nat} {x : Blk} (h : (pick is H)[b]? = some x) : ∃ i, is[b]? = some i ∧ x = (H.getD i .gone).mapR (inv is) := by
 unfold pick at h
 rw [EP] at h
 cases hi : is[b]? with
 | none => rw [hi] at h; simp at h
 | some i => rw [hi] at h; exact ⟨i, rfl, by simpa using h.symm⟩
section
variable {Γ : am} {O : Nat → Prop} {w : World} {l : Loc} {H : List Blk} {is : List Nat}
def lF (is : List Nat) (l : Loc) : Loc := fun b => match is[b]? with
 | some i => l i
 | none => none
theorem sS {k : Nat} (ho : own (lF is l) (pick is H) k) : ∃ (b i cp : Nat) (x : Blk), is[b]? = some i ∧ H[i]? = some x ∧ x ≠ .gone ∧ l i = some (k, cp) := by
 obtain ⟨b, x, cp, h1, h2, h3⟩ := ho
 obtain ⟨i, hi, rfl⟩ := jN h1
 unfold lF at h3
 rw [hi] at h3
 have hg : H.getD i .gone ≠ .gone := fun e => h2 (by rw [e]; rfl)
 refine ⟨b, i, cp, H.getD i .gone, hi, ?_, hg, h3⟩
 cases hx : H[i]? with
 | none => simp [DS, hx] at hg
 | some x => simp [DS, hx]
theorem bK {k : Nat} (ho : own (lF is l) (pick is H) k) : own l H k := by
 obtain ⟨b, i, cp, x, _, h2, h3, h4⟩ := sS ho
 exact ⟨i, x, cp, h2, h3, h4⟩
theorem iT (hn : is.Nodup) {r : Ref} {y : Value} (rr : RefRel l H r y) {av : Nat → Prop} : Rel w av (lF is l) (pick is H) (inv is r) y := by
 unfold inv
 cases hi : idx r.blk 0 is with
 | none => simp [Rel]
 | some i =>
  obtain ⟨_, h2⟩ := fN hi
  simp only [F7] at h2
  obtain ⟨x, hx⟩ := eR rr
  simp only [Rel]
  refine kE (f := inv is) hx ?_ ?_ rr
  ·unfold pick
   rw [EP, h2]
   simp [DS, hx]
  ·unfold lF
   rw [h2]
theorem Rep.pick (R : Rep Γ O w l H) (hn : is.Nodup) (hm : (pick is H).all (fun x => !gi x) = true) {O' : Nat → Prop} (hO : ∀ k, avs O' (lF is l) (Vi.pick is H) k → avs O l H k) (hO2 : ∀ k, O' k → avs O l H k ∧ ¬ own (lF is l) (Vi.pick is H) k) :
  Rep Γ O' w (lF is l) (Vi.pick is H) where
 inb k ho := ⟨(R.inb k (bK ho)).1, fun h' => (hO2 k h').2 ho⟩
 obd k ho := by
  rcases (hO2 k ho).1 with h' | h'
  ·exact R.obd k h'
  ·exact (R.inb k h').1
 inj b b' x x' k c c' h1 h2 h3 h4 h5 h6 := by
  obtain ⟨i, hi, rfl⟩ := jN h1
  obtain ⟨i', hi', rfl⟩ := jN h3
  unfold lF at h5 h6
  rw [hi] at h5; rw [hi'] at h6
  have g1 : H.getD i .gone ≠ .gone := fun e => h2 (by rw [e]; rfl)
  have g2 : H.getD i' .gone ≠ .gone := fun e => h4 (by rw [e]; rfl)
  have e1 : H[i]? = some (H.getD i .gone) := by
   cases hx : H[i]? with
   | none => simp [DS, hx] at g1
   | some x => simp [DS, hx]
  have e2 : H[i']? = some (H.getD i' .gone) := by
   cases hx : H[i']? with
   | none => simp [DS, hx] at g2
   | some x => simp [DS, hx]
  have := R.inj i i' _ _ k c c' e1 g1 e2 g2 h5 h6
  subst this
  have a1 := sQ hn hi
  have a2 := sQ hn hi'
  rw [a1] at a2
  exact H3 a2
 blk b x h1 := by
  obtain ⟨i, hi, rfl⟩ := jN h1
  cases hx : H[i]? with
  | none => simp [DS, hx, Fb, BlkOk]
  | some x =>
   have hg : H.getD i .gone = x := by simp [DS, hx]
   rw [hg] at h1 ⊢
   refine eQ hO (fun r y rr => iT hn rr) (b := i) ?_ ?_ (R.blk i x hx)
   ·unfold lF; rw [hi]
   ·have := DX.1 hm _ (Ec h1)
    rw [mB] at this
    simpa using this
 glo g cs hg := aD hO (R.glo g cs hg)
end
def e8 (is : List Nat) (m : Nat) (h' : List Blk) : Nat → List Blk → List Blk
 | _, [] => []
 | b, x :: xs => (match idx b 0 is with
  | some i => (h'.getD i .gone).mapR (fwd is m)
  | none => x) :: e8 is m h' (b + 1) xs
def mC (is : List Nat) (h' : List Blk) (H : List Blk) : List Blk := e8 is H.length h' 0 H ++ (h'.drop is.length).map (Fb (fwd is H.length))
theorem cH {is : List Nat} {m : Nat} {h' : List Blk} : ∀ (b : Nat) (xs : List Blk), (e8 is m h' b xs).length = xs.length
 | _, [] => rfl
 | b, x :: xs => by simp [e8, cH (b + 1) xs]
theorem iU {is : List Nat} {m : Nat} {h' : List Blk} : ∀ (b : Nat) (xs : List Blk) (j : Nat), (e8 is m h' b xs)[j]? = (xs[j]?).map fun x => match idx (b + j) 0 is with | some i => (h'.getD i .gone).mapR (fwd is m) | none => x
 | b, [], j => by simp [e8]
 | b, x :: xs, 0 => by simp [e8]
 | b, x :: xs, j + 1 => by
  simp only [e8, EI]
  rw [iU (b + 1) xs j, show b + 1 + j = b + (j + 1) by omega]
section
variable {is : List Nat} {h' H : List Blk}
theorem sT {b : Nat} {x : Blk} (hx : H[b]? = some x) (hi : idx b 0 is = none) : (mC is h' H)[b]? = some x := by
 have hlt := (Dm.1 hx).1
 unfold mC
 rw [DB (by rw [cH]; exact hlt), iU, hx]
 simp [hi]
theorem rj {b i : Nat} {x : Blk} (hx : H[b]? = some x) (hi : idx b 0 is = some i) : (mC is h' H)[b]? = some ((h'.getD i .gone).mapR (fwd is H.length)) := by
 have hlt := (Dm.1 hx).1
 unfold mC
 rw [DB (by rw [cH]; exact hlt), iU, hx]
 simp [hi]
theorem sU {j : Nat} : (mC is h' H)[H.length + j]? = (h'[is.length + j]?).map (Fb (fwd is H.length)) := by
 unfold mC
 rw [List.getElem?_append_right (by rw [cH]; omega), cH, EP, List.getElem?_drop]
 simp
theorem putB_cases {b : Nat} {x : Blk} (h : (mC is h' H)[b]? = some x) :
  (idx b 0 is = none ∧ H[b]? = some x) ∨ (∃ i, b < H.length ∧ idx b 0 is = some i ∧ x = (h'.getD i .gone).mapR (fwd is H.length)) ∨ ∃ j y, b = H.length + j ∧ h'[is.length + j]? = some y ∧ x = y.mapR (fwd is H.length) := by
 by_cases hb : b < H.length
 ·have hx : H[b]? = some H[b] := DF hb
  cases hi : idx b 0 is with
  | none => rw [sT hx hi] at h; cases h; exact .inl ⟨rfl, hx⟩
  | some i => rw [rj hx hi] at h; cases h; exact .inr (.inl ⟨i, hb, rfl, rfl⟩)
 ·obtain ⟨j, rfl⟩ : ∃ j, b = H.length + j := ⟨b - H.length, by omega⟩
  rw [sU] at h
  cases hy : h'[is.length + j]? with
  | none => rw [hy] at h; simp at h
  | some y => rw [hy] at h; exact .inr (.inr ⟨j, y, rfl, hy, by simpa using h.symm⟩)
end
def sV (is : List Nat) (m : Nat) (l l0 : Loc) : Loc := fun b => match idx b 0 is with
 | some i => l0 i
 | none => match decide (b < m) with
  | true => l b
  | false => l0 (is.length + (b - m))
theorem Ev.frame {P : Program} {Γ : am} {f : FuncId} {args0 args : List D} {h0 h0' H : List Blk} {d0 : D} (is : List Nat) (he : Ev P Γ f args0 h0 d0 h0') (hn : is.Nodup) (hb : ∀ i ∈ is, i < H.length)
  (ha : D6 (inv is) args = args0) (hh : pick is H = h0) (hm : (h0.all (fun x => !gi x) && h0'.all (fun x => !gi x)) = true) :
  Ev P Γ f args H (d0.mapR (fwd is H.length)) (mC is h0' H) := by
 simp only [Dl] at hm
 subst hh ha
 intro O w l vs R ra
 let O' : Nat → Prop := fun k => avs O l H k ∧ ¬ own (lF is l) (pick is H) k
 have hO1 : ∀ k, avs O' (lF is l) (pick is H) k → avs O l H k := fun k ho => ho.elim (·.1) (fun h => .inr (bK h))
 have hO2 : ∀ k, avs O l H k → avs O' (lF is l) (pick is H) k := fun k ho => by
  by_cases h : own (lF is l) (pick is H) k
  ·exact .inr h
  ·exact .inl ⟨ho, h⟩
 have R0 : Rep Γ O' w (lF is l) (pick is H) := R.pick hn hm.1 hO1 (fun k h => h)
 have ra0 : RelL w (avs O' (lF is l) (pick is H)) (lF is l) (pick is H) (D6 (inv is) args) vs := bD hO1 (fun r y rr => iT hn rr) ra
 refine Fc (he O' w (lF is l) vs R0 ra0) ?_
 rintro e w' ⟨v, d2, h2, l', rfl, ⟨rfl, rfl⟩, R', E', rd⟩
 have hlen : is.length ≤ h2.length := by
  rcases Nat.lt_or_ge h2.length is.length with hlt | hge
  ·exfalso
   have hp : (pick is H)[h2.length]? ≠ none := by
    unfold pick; rw [EP]; simp [hlt]
   cases hx : (pick is H)[h2.length]? with
   | none => exact hp hx
   | some x =>
    obtain ⟨x', h1, _⟩ := E'.keep _ x hx
    simp at h1
  ·exact hge
 have hisP : ∀ {b i : Nat}, is[b]? = some i → ∃ x, H[i]? = some x ∧ (pick is H)[b]? = some (x.mapR (inv is)) := fun {b i} hi => by
  have hlt := hb i (Ec hi)
  refine ⟨H[i], DF hlt, ?_⟩
  unfold pick
  rw [EP, hi]
  simp [DS, DF hlt]
 have L1 : ∀ {i b : Nat}, is[i]? = some b → sV is H.length l l' b = l' i := fun {i b} hi => by
  unfold sV; rw [sQ hn hi]
 have L2 : ∀ {b : Nat}, idx b 0 is = none → b < H.length → sV is H.length l l' b = l b := fun {b} h1 h2 => by
  unfold sV; rw [h1]; simp [h2]
 have L3 : ∀ {j : Nat}, sV is H.length l l' (H.length + j) = l' (is.length + j) := fun {j} => by
  unfold sV
  have : idx (H.length + j) 0 is = none := by
   cases hi : idx (H.length + j) 0 is with
   | none => rfl
   | some i =>
    obtain ⟨_, h2⟩ := fN hi
    have := hb _ (Ec h2)
    omega
  rw [this]
  have : decide (H.length + j < H.length) = false := by simp
  simp only [this, show is.length + (H.length + j - H.length) = is.length + j by omega]
 have back : ∀ {b : Nat} {x : Blk}, (mC is h2 H)[b]? = some x → (idx b 0 is = none ∧ H[b]? = some x) ∨ ∃ i y, h2[i]? = some y ∧ x = y.mapR (fwd is H.length) ∧ sV is H.length l l' b = l' i ∧ (∀ b' x', (mC is h2 H)[b']? = some x' → (idx b' 0 is = none ∧ H[b']? = some x') ∨ ∃ i' y', h2[i']? = some y' ∧ x' = y'.mapR (fwd is H.length) ∧ sV is H.length l l' b' = l' i' ∧ (i = i' → b = b')) := by
  have one : ∀ {b : Nat} {x : Blk}, (mC is h2 H)[b]? = some x → (idx b 0 is = none ∧ H[b]? = some x) ∨ ∃ i y, h2[i]? = some y ∧ x = y.mapR (fwd is H.length) ∧ sV is H.length l l' b = l' i ∧ ((i < is.length ∧ is[i]? = some b) ∨ (is.length ≤ i ∧ b = H.length + (i - is.length))) := by
   intro b x hx
   rcases putB_cases hx with h | ⟨i, h1, h3, rfl⟩ | ⟨j, y, rfl, h3, rfl⟩
   ·exact .inl h
   ·obtain ⟨_, h4⟩ := fN h3
    simp only [F7] at h4
    have hi := (Dm.1 h4).1
    have : h2[i]? = some (h2.getD i .gone) := by
     rw [DS, DF (by omega)]; rfl
    exact .inr ⟨i, _, this, rfl, L1 h4, .inl ⟨hi, h4⟩⟩
   ·exact .inr ⟨_, y, h3, rfl, L3, .inr ⟨by omega, by omega⟩⟩
  intro b x hx
  rcases one hx with h | ⟨i, y, h1, h3, h4, h5⟩
  ·exact .inl h
  ·refine .inr ⟨i, y, h1, h3, h4, fun b' x' hx' => ?_⟩
   rcases one hx' with h | ⟨i', y', g1, g3, g4, g5⟩
   ·exact .inl h
   ·refine .inr ⟨i', y', g1, g3, g4, fun e => ?_⟩
    subst e
    rcases h5 with ⟨a1, a2⟩ | ⟨a1, a2⟩ <;> rcases g5 with ⟨c1, c2⟩ | ⟨c1, c2⟩
    ·rw [a2] at c2; exact H3 c2
    ·omega
    ·omega
    ·omega
 have hgone : ∀ {y : Blk}, y.mapR (fwd is H.length) ≠ .gone → y ≠ .gone := fun {y} h e => h (by rw [e]; rfl)
 have oldO : ∀ {b : Nat} {x : Blk} {k c : Nat}, idx b 0 is = none → H[b]? = some x → x ≠ .gone → l b = some (k, c) → O' k := fun {b x k c} hi hx hg hl => by
  refine ⟨.inr ⟨b, x, c, hx, hg, hl⟩, fun ho => ?_⟩
  obtain ⟨b', i, cp, x', q1, q2, q3, q4⟩ := sS ho
  have := R.inj b i x x' k c cp hx hg q2 q3 hl q4
  subst this
  exact nW hi (Ec q1)
 have ownL : ∀ {k : Nat}, own (sV is H.length l l') (mC is h2 H) k → own l' h2 k ∨ (own l H k ∧ O' k) := fun {k} ⟨b, x, cp, g1, g2, g3⟩ => by
  rcases back g1 with ⟨a1, a2⟩ | ⟨i, y, a1, a2, a3, _⟩
  ·have hlt := (Dm.1 a2).1
   rw [L2 a1 hlt] at g3
   exact .inr ⟨⟨b, x, cp, a2, g2, g3⟩, oldO a1 a2 g2 g3⟩
  ·rw [a3] at g3
   exact .inl ⟨i, y, cp, a1, hgone (a2 ▸ g2), g3⟩
 have avL : ∀ k, avs O (sV is H.length l l') (mC is h2 H) k → avs O' l' h2 k := fun k ho => by
  rcases ho with ho | ho
  ·refine .inl ⟨.inl ho, fun h => (R.inb k (bK h)).2 ho⟩
  ·rcases ownL ho with h | h
   ·exact .inr h
   ·exact .inl h.2
 have hf : ∀ (r : Ref) (y : Value), RefRel l' h2 r y → Rel w' (avs O (sV is H.length l l') (mC is h2 H)) (sV is H.length l l') (mC is h2 H) (fwd is H.length r) y := fun r y rr => by
  obtain ⟨x, hx⟩ := eR rr
  unfold fwd
  cases hi : is[r.blk]? with
  | some b =>
   simp only [Rel]
   obtain ⟨x0, q1, _⟩ := hisP hi
   refine kE hx ?_ (L1 hi) rr (f := fwd is H.length)
   rw [rj q1 (sQ hn hi)]
   simp [DS, hx]
  | none =>
   simp only [Rel]
   have hge : is.length ≤ r.blk := by simpa using hi
   refine kE hx ?_ ?_ rr (f := fwd is H.length)
   ·rw [sU, show is.length + (r.blk - is.length) = r.blk by omega, hx]; rfl
   ·rw [L3, show is.length + (r.blk - is.length) = r.blk by omega]
 have E : Ext w l H w' (sV is H.length l l') (mC is h2 H) := by
  refine ⟨E'.size, fun blk hlt hno => E'.same blk hlt (fun ho => hno (bK ho)), fun blk ho => ?_, fun b x hx => ?_, E'.tape⟩
  ·rcases ownL ho with h | h
   ·rcases E'.news blk h with h | h
    ·exact .inl (bK h)
    ·exact .inr h
   ·exact .inl h.1
  ·have hlt := (Dm.1 hx).1
   cases hi : idx b 0 is with
   | none => exact ⟨x, sT hx hi, x.le_refl, fun _ => L2 hi hlt⟩
   | some i =>
    obtain ⟨_, h4⟩ := fN hi
    simp only [F7] at h4
    obtain ⟨x0, q1, q2⟩ := hisP h4
    rw [hx] at q1; cases q1
    obtain ⟨x', k1, k2, k3⟩ := E'.keep i _ q2
    have hgd : h2.getD i .gone = x' := by simp [DS, k1]
    refine ⟨_, rj hx hi, ?_, fun hs => ?_⟩
    ·rw [hgd]; exact (sR k2).1
    ·rw [hgd] at hs
     rw [L1 h4, k3 ((sR k2).2 hs)]
     unfold lF; rw [h4]
 refine ⟨v, _, _, _, rfl, ⟨rfl, rfl⟩, ⟨fun k ho => ?_, fun k ho => FN (R.obd k ho) E'.size, ?_, fun b x hx => ?_, fun g cs hg => ?_⟩, E, ?_⟩
 ·rcases ownL ho with h | h
  ·obtain ⟨p1, p2⟩ := R'.inb k h
   refine ⟨p1, fun hk => p2 ⟨.inl hk, fun ho' => (R.inb k (bK ho')).2 hk⟩⟩
  ·obtain ⟨p1, p2⟩ := R.inb k h.1
   exact ⟨FN p1 E'.size, p2⟩
 ·intro b b' x x' k c c' g1 g2 g3 g4 g5 g6
  rcases back g1 with ⟨a1, a2⟩ | ⟨i, y, a1, a2, a3, a4⟩
  ·have hlt := (Dm.1 a2).1
   rw [L2 a1 hlt] at g5
   rcases back g3 with ⟨d1, d2⟩ | ⟨i', y', d1, d2, d3, _⟩
   ·have hlt' := (Dm.1 d2).1
    rw [L2 d1 hlt'] at g6
    exact R.inj b b' x x' k c c' a2 g2 d2 g4 g5 g6
   ·rw [d3] at g6
    exact absurd (oldO a1 a2 g2 g5) (R'.inb k ⟨i', y', c', d1, hgone (d2 ▸ g4), g6⟩).2
  ·rw [a3] at g5
   rcases a4 b' x' g3 with ⟨d1, d2⟩ | ⟨i', y', d1, d2, d3, d4⟩
   ·have hlt' := (Dm.1 d2).1
    rw [L2 d1 hlt'] at g6
    exact absurd (oldO d1 d2 g4 g6) (R'.inb k ⟨i, y, c, a1, hgone (a2 ▸ g2), g5⟩).2
   ·rw [d3] at g6
    exact d4 (R'.inj i i' y y' k c c' a1 (hgone (a2 ▸ g2)) d1 (hgone (d2 ▸ g4)) g5 g6)
 ·rcases back hx with ⟨a1, a2⟩ | ⟨i, y, a1, rfl, a3, _⟩
  ·have hlt := (Dm.1 a2).1
   by_cases hg : x = .gone
   ·subst hg; trivial
   refine BlkOk.ext E (L2 a1 hlt) (fun blk cp hl => ?_) (R.blk b x a2)
   exact E'.same blk (R.inb blk ⟨b, x, cp, a2, hg, hl⟩).1 (oldO a1 a2 hg hl).2
  ·refine eQ avL hf a3 ?_ (R'.blk i y a1)
   have := DX.1 hm.2 y (Ec a1)
   simpa using this
 ·exact Hx E.hc g 0 cs (R.glo g cs hg)
 ·exact ez avL hf rd
end Go.Vi
namespace Go.Vi
open Go
def pM : List Nat → Bool
 | [] => true
 | x :: xs => !vv x xs && pM xs
theorem iV : ∀ {xs : List Nat}, pM xs = true → xs.Nodup
 | [], _ => List.nodup_nil
 | x :: xs, h => by
  simp only [pM, Dl, Bool.not_eq_true'] at h
  refine List.nodup_cons.2 ⟨fun hm => ?_, iV h.2⟩
  rw [eO.2 hm] at h
  simp at h
def rn (is : List Nat) (H : List Blk) : List Nat → List Blk
 | [] => []
 | i :: js => keepX (inv is) (H.getD i .gone) :: rn is H js
def yn (is : List Nat) (H : List Blk) : List Nat → List Prop
 | [] => []
 | i :: js => kn (inv is) (H.getD i .gone) ++ yn is H js
theorem nX {is : List Nat} {H : List Blk} : ∀ {js : List Nat}, AllP (yn is H js) → rn is H js = js.map fun i => (H.getD i .gone).mapR (inv is)
 | [], _ => rfl
 | i :: js, h => by
  obtain ⟨h1, h2⟩ := GW (ps := kn (inv is) (H.getD i .gone)) h
  simp only [rn, En, gJ h1, nX h2]
def nY (is : List Nat) (m : Nat) (h' : List Blk) : Nat → List Blk → List Blk
 | _, [] => []
 | b, x :: xs => (match idx b 0 is with
  | some i => keepX (fwd is m) (h'.getD i .gone)
  | none => x) :: nY is m h' (b + 1) xs
def mapX (f : Ref → D) : List Blk → List Blk
 | [] => []
 | x :: xs => keepX f x :: mapX f xs
def mapP (f : Ref → D) : List Blk → List Prop
 | [] => []
 | x :: xs => kn f x ++ mapP f xs
theorem vK {f : Ref → D} : ∀ {h : List Blk}, AllP (mapP f h) → mapX f h = h.map (Fb f)
 | [], _ => rfl
 | x :: xs, h => by
  obtain ⟨h1, h2⟩ := GW (ps := kn f x) h
  simp only [mapX, En, gJ h1, vK h2]
theorem sW {f : Ref → D} : ∀ {h : List Blk} (i : Nat), AllP (mapP f h) → AllP (kn f (h.getD i .gone))
 | [], i, _ => by simp [kn, AllP]
 | x :: xs, i, h => by
  obtain ⟨h1, h2⟩ := GW (ps := kn f x) h
  cases i with
  | zero => exact h1
  | succ i => simpa using sW i h2
theorem pN {f : Ref → D} : ∀ {h : List Blk} (i : Nat), AllP (mapP f h) → AllP (mapP f (h.drop i))
 | [], i, _ => by simp [mapP, AllP]
 | x :: xs, i, h => by
  cases i with
  | zero => exact h
  | succ i =>
   obtain ⟨h1, h2⟩ := GW (ps := kn f x) h
   exact pN i h2
theorem mD {is : List Nat} {m : Nat} {h' : List Blk} (hp : AllP (mapP (fwd is m) h')) : ∀ (b : Nat) (xs : List Blk), nY is m h' b xs = e8 is m h' b xs
 | _, [] => rfl
 | b, x :: xs => by
  simp only [nY, e8, mD hp (b + 1) xs]
  cases idx b 0 is with
  | none => rfl
  | some i => simp only [gJ (sW i hp)]
def putX (is : List Nat) (h' : List Blk) (H : List Blk) : List Blk := nY is H.length h' 0 H ++ mapX (fwd is H.length) (h'.drop is.length)
theorem AP {is : List Nat} {h' H : List Blk} (hp : AllP (mapP (fwd is H.length) h')) : putX is h' H = mC is h' H := by
 unfold putX mC
 rw [mD hp, vK (pN _ hp)]
def vL (is : List Nat) (h0 h0' H : List Blk) : Bool := pM is && is.all (fun i => decide (i < H.length)) && (h0.all (fun x => !gi x) && h0'.all (fun x => !gi x))
theorem Ev.frameX {P : Program} {Γ : am} {f : FuncId} {args0 args : List D} {h0 h0' H : List Blk} {d0 : D} (is : List Nat) (he : Ev P Γ f args0 h0 d0 h0') (hk : vL is h0 h0' H = true)
  (ha : D6 (inv is) args = args0) (hh : rn is H is = h0) (p1 : AllP (yn is H is)) (p2 : AllP (mapP (fwd is H.length) h0')) : Ev P Γ f args H (d0.mapR (fwd is H.length)) (putX is h0' H) := by
 simp only [vL, Dl] at hk
 rw [AP p2]
 refine Ev.frame is he (iV hk.1.1) (fun i hi => ?_) ha ?_ (by rw [hk.2.1, hk.2.2]; rfl)
 ·have := DX.1 hk.1.2 i hi
  simpa using this
 ·rw [← hh, nX p1]; rfl
def fwd0 (m : Nat) (r : Ref) : D := .ref (r.to (m + r.blk))
theorem vM (m : Nat) : fwd [] m = fwd0 m := by
 funext r; simp [fwd, fwd0]
theorem Ev.frameN {P : Program} {Γ : am} {f : FuncId} {args : List D} {h0' : List Blk} {d0 : D} (he : Ev P Γ f args [] d0 h0') (hm : h0'.all (fun x => !gi x) = true)
  (ha : Fw 0 args = true) (h : List Blk) : Ev P Γ f args h (d0.mapR (fwd0 h.length)) (h ++ h0'.map (Fb (fwd0 h.length))) := by
 have hr : ∀ (f : Ref → D), (∀ d, Fg 0 d = true → DC f d = d) ∧ ∀ ds, Fw 0 ds = true → D6 f ds = ds := fun f => by
  refine ⟨?_, ?_⟩
  ·intro d
   refine D.rec (motive_1 := fun d => Fg 0 d = true → DC f d = d) (motive_2 := fun ds => Fw 0 ds = true → D6 f ds = ds) ?_ ?_ ?_ ?_ ?_ ?_ ?_ ?_ ?_ ?_ ?_ d
   ·intros; rfl
   ·intros; rfl
   ·intro r h; cases r <;> simp [Fg] at h
   ·intros; rfl
   ·intros; rfl
   ·intro g a b ih1 ih2 h; simp only [Fg, Dl] at h; simp only [DC, ih1 h.1, ih2 h.2]
   ·intro cs ih h; simp only [Fg] at h; simp only [DC, ih h]
   ·intro cs ih h; simp only [Fg] at h; simp only [DC, ih h]
   ·intro g d ih h; simp only [Fg] at h; simp only [DC, ih h]
   ·intros; rfl
   ·intro d ds ih1 ih2 h; simp only [Fw, Dl] at h; simp only [D6, ih1 h.1, ih2 h.2]
  ·intro ds
   refine D.rec_1 (motive_1 := fun d => Fg 0 d = true → DC f d = d) (motive_2 := fun ds => Fw 0 ds = true → D6 f ds = ds) ?_ ?_ ?_ ?_ ?_ ?_ ?_ ?_ ?_ ?_ ?_ ds
   ·intros; rfl
   ·intros; rfl
   ·intro r h; cases r <;> simp [Fg] at h
   ·intros; rfl
   ·intros; rfl
   ·intro g a b ih1 ih2 h; simp only [Fg, Dl] at h; simp only [DC, ih1 h.1, ih2 h.2]
   ·intro cs ih h; simp only [Fg] at h; simp only [DC, ih h]
   ·intro cs ih h; simp only [Fg] at h; simp only [DC, ih h]
   ·intro g d ih h; simp only [Fg] at h; simp only [DC, ih h]
   ·intros; rfl
   ·intro d ds ih1 ih2 h; simp only [Fw, Dl] at h; simp only [D6, ih1 h.1, ih2 h.2]
 have := Ev.frame (H := h) [] he List.nodup_nil (by simp) ((hr _).2 args ha) rfl (by simpa using hm)
 rw [vM] at this
 have e : mC [] h0' h = h ++ h0'.map (Fb (fwd0 h.length)) := by
  unfold mC
  have : ∀ (b : Nat) (xs : List Blk), e8 [] h.length h0' b xs = xs := by
   intro b xs
   induction xs generalizing b with
   | nil => rfl
   | cons x xs ih => simp [e8, idx, ih]
  rw [this, vM]
  simp
 rw [e] at this
 exact this
section
variable {Γ : am} {P : Program}
theorem Ev.keepB {f : FuncId} {args : List D} {h h' : List Blk} {d : D} (he : Ev P Γ f args h d h') (ks : List Nat) (hk : (pM (Ef h.length ++ ks) && (rn (Ef h.length ++ ks) h' (Ef h.length ++ ks)).all (fun x => !gi x)) = true)
  (hp : AllP (yn (Ef h.length ++ ks) h' (Ef h.length ++ ks))) : Ev P Γ f args h (d.mapR (inv (Ef h.length ++ ks))) (rn (Ef h.length ++ ks) h' (Ef h.length ++ ks)) := by
 simp only [Dl] at hk
 intro O w l vs R ra
 refine Fc (he O w l vs R ra) ?_
 rintro e w' ⟨v, d2, h2, l', rfl, ⟨rfl, rfl⟩, R', E', rd⟩
 have hn := iV hk.1
 have hpk : rn (Ef h.length ++ ks) h2 (Ef h.length ++ ks) = pick (Ef h.length ++ ks) h2 := by rw [nX hp]; rfl
 rw [hpk] at hk ⊢
 have hat : ∀ {b : Nat}, b < h.length → (Ef h.length ++ ks)[b]? = some b := fun {b} hb => by
  rw [DB (by simpa using hb)]; simp [hb]
 generalize Ef h.length ++ ks = is at hn hk hat
 have hO : ∀ k, avs O (lF is l') (pick is h2) k → avs O l' h2 k := fun k ho => ho.imp id bK
 refine ⟨v, _, _, lF is l', rfl, ⟨rfl, rfl⟩, R'.pick hn hk.2 hO (fun k ho => ⟨.inl ho, fun h => (R'.inb k (bK h)).2 ho⟩),
  ⟨E'.size, E'.same, fun blk ho => E'.news blk (bK ho), fun b x hx => ?_, E'.tape⟩, bD hO (fun r y rr => iT hn rr) (ds := [d2]) (ys := [v]) ⟨rd, trivial⟩ |>.1⟩
 have hlt := (Dm.1 hx).1
 obtain ⟨x', h1, h2', h3⟩ := E'.keep b x hx
 obtain ⟨g1, g2⟩ := ym (g := inv is) h2'
 refine ⟨_, ?_, g1, fun hs => ?_⟩
 ·unfold pick
  rw [EP, hat hlt]
  simp [DS, h1]
 ·unfold lF
  rw [hat hlt]
  exact h3 (g2 hs)
end
end Go.Vi
namespace Go.Vi
open Go
def GLe (Γ Γ' : am) : Prop := ∀ g cs, Γ g = some cs → Γ' g = some cs
theorem GLe.none (Γ' : am) : GLe (fun _ => Option.none) Γ' := fun _ _ h => by simp at h
theorem Rep.less {Γ Γ' : am} {O : Nat → Prop} {w : World} {l : Loc} {h : List Blk} (hg : GLe Γ Γ') (R : Rep Γ' O w l h) : Rep Γ O w l h :=
 ⟨R.inb, R.obd, R.inj, R.blk, fun g cs h => R.glo g cs (hg g cs h)⟩
theorem Rep.more {Γ Γ' : am} {O : Nat → Prop} {w w' : World} {l l' : Loc} {h h' : List Blk} (R : Rep Γ' O w l h) (E : Ext w l h w' l' h') (R' : Rep Γ O w' l' h') : Rep Γ' O w' l' h' :=
 ⟨R'.inb, R'.obd, R'.inj, R'.blk, fun g cs hg => Hx E.hc g 0 cs (R.glo g cs hg)⟩
theorem Ev.glob {P : Program} {Γ Γ' : am} (hg : GLe Γ Γ') {f : FuncId} {args : List D} {h h' : List Blk} {d : D} (he : Ev P Γ f args h d h') : Ev P Γ' f args h d h' := by
 intro O w l vs R ra
 refine Fc (he O w l vs (R.less hg) ra) ?_
 rintro e w' ⟨v, d2, h2, l', rfl, hq, R', E', rd⟩
 exact ⟨v, d2, h2, l', rfl, hq, R.more E' R', E', rd⟩
theorem Ev.glob0 {P : Program} {Γ' : am} {f : FuncId} {args : List D} {h h' : List Blk} {d : D} (he : Ev P (fun _ => none) f args h d h') : Ev P Γ' f args h d h' := he.glob (GLe.none Γ')
end Go.Vi
namespace Go.Vi
open Go
mutual
def D.nilW : D → D
 | .p (.v (.slice none 0 0)) => .p (.sl [])
 | .agg cs => .agg (D.nilWL cs)
 | .tup cs => .tup (D.nilWL cs)
 | d => d
def D.nilWL : List D → List D
 | [] => []
 | d :: ds => D.nilW d :: D.nilWL ds
end
mutual
theorem sX {w : World} {av : Nat → Prop} {l : Loc} {h : List Blk} : ∀ (d : D) (y : Value), Rel w av l h d y → Rel w av l h (D.nilW d) y
 | .p x, y, r => by
  unfold D.nilW
  split
  ·rename_i hx
   simp only [D.p.injEq] at hx
   subst hx
   simp only [Rel, RelP] at r ⊢
   exact .inl ⟨trivial, none, 0, r, fun _ => rfl⟩
  ·rename_i hx; cases hx
  ·rename_i hx; cases hx
  ·exact r
 | .agg cs, y, r => by
  simp only [D.nilW, Rel] at r ⊢
  obtain ⟨vs, r1, r2⟩ := r
  exact ⟨vs, r1, kF cs vs.toList r2⟩
 | .tup cs, y, r => by
  simp only [D.nilW, Rel] at r ⊢
  obtain ⟨vs, r1, r2⟩ := r
  exact ⟨vs, r1, kF cs vs.toList r2⟩
 | .any, _, r => r
 | .ref _, _, r => r
 | .ep _, _, r => r
 | .csl _, _, r => r
 | .fn _ _ _, _, r => r
 | .grd _ _, _, r => r
theorem kF {w : World} {av : Nat → Prop} {l : Loc} {h : List Blk} : ∀ (ds : List D) (ys : List Value), RelL w av l h ds ys → RelL w av l h (D.nilWL ds) ys
 | [], [], _ => trivial
 | [], _ :: _, r => by simp [RelL] at r
 | _ :: _, [], r => by simp [RelL] at r
 | d :: ds, y :: ys, r => by
  simp only [RelL, D.nilWL] at r ⊢
  exact ⟨sX d y r.1, kF ds ys r.2⟩
end
theorem Ev.nilW {P : Program} {Γ : am} {f : FuncId} {args : List D} {h h' : List Blk} {d : D} (he : Ev P Γ f args h d h') : Ev P Γ f args h d.nilW h' := by
 intro O w l vs R ra
 refine Fc (he O w l vs R ra) ?_
 rintro e w' ⟨v, d2, h2, l', rfl, ⟨rfl, rfl⟩, R', E', rd⟩
 exact ⟨v, _, _, l', rfl, ⟨rfl, rfl⟩, R', E', sX _ _ rd⟩
end Go.Vi
namespace Go.Vi
open Go
theorem kG {sz : Nat} : ∀ (es : List (List D)) (n : Nat) (row : List D), (∀ r ∈ es, r.length = sz) → es[n]? = some row → ∃ rest, es.flatten.drop (n * sz) = row ++ rest
 | [], n, row, _, h => by simp at h
 | e :: es, 0, row, hs, h => by
  simp at h; subst h
  exact ⟨es.flatten, by simp⟩
 | e :: es, n + 1, row, hs, h => by
  simp only [EI] at h
  obtain ⟨rest, hr⟩ := kG es n row (fun r hr => hs r (by simp [hr])) h
  refine ⟨rest, ?_⟩
  have he : e.length = sz := hs e (by simp)
  rw [Eo, List.drop_append_of_le_length' e es.flatten n sz he, hr]
where
 List.drop_append_of_le_length' (e t : List D) (n sz : Nat) (he : e.length = sz) : (e ++ t).drop ((n + 1) * sz) = t.drop (n * sz) := by
  rw [show (n + 1) * sz = e.length + n * sz by rw [he, FX]; omega, GP]
  simp
theorem kH {sz : Nat} : ∀ (es : List (List D)) (n : Nat) (new : List D), (∀ r ∈ es, r.length = sz) → new.length = sz → n < es.length → cd es.flatten (n * sz) new = (es.set n new).flatten
 | [], n, new, _, _, h => by simp at h
 | e :: es, 0, new, hs, hn, _ => by
  have he : e.length = sz := hs e (by simp)
  simp [cd, hn, ← he]
 | e :: es, n + 1, new, hs, hn, h => by
  have he : e.length = sz := hs e (by simp)
  have ih := kH es n new (fun r hr => hs r (by simp [hr])) hn (by simpa using h)
  simp only [List.set_cons_succ, Eo, ← ih]
  unfold cd
  have e1 : (n + 1) * sz = e.length + n * sz := by rw [he, FX]; omega
  rw [e1, List.take_append, GP]
  have h1 : List.take (e.length + n * sz) e = e := List.take_of_length_le (by omega)
  have h2 : List.drop (e.length + n * sz + new.length) e = [] := GX (by omega)
  rw [h1, h2]
  have h3 : e.length + n * sz - e.length = n * sz := by omega
  have h4 : e.length + n * sz + new.length - e.length = n * sz + new.length := by omega
  rw [h3, h4]
  simp [List.append_assoc]
theorem eS {sz : Nat} : ∀ (es : List (List D)), (∀ r ∈ es, r.length = sz) → es.flatten.length = es.length * sz
 | [], _ => by simp
 | e :: es, hs => by
  rw [Eo, E7, eS es (fun r hr => hs r (by simp [hr])), hs e (by simp), DZ, FX]; omega
section
variable {P : Program} {h : List Blk} {b sz : Nat} {es : List (List D)}
theorem yp {ty : TypeId} (ha : zB P ty = some true) (hz : szOf P ty = some sz) (hb : h[b]? = some (.var es.flatten)) (hs : ∀ r ∈ es, r.length = sz) {n : Nat} {row : List D} (hn : es[n]? = some row) : bp P h ty (.ref (.ptr b (n * sz))) = some (.agg row) := by
 obtain ⟨rest, hr⟩ := kG es n row hs hn
 have hl : row.length = sz := hs row (Ec hn)
 unfold bp
 simp only [hb, hr, cy, ha, hz]
 rw [if_pos (by simp; omega), ← hl]
 simp
theorem kI {ty : TypeId} (ha : zB P ty = some false) (hz : szOf P ty = some 1) (hb : h[b]? = some (.var es.flatten)) (hs : ∀ r ∈ es, r.length = sz) {n j : Nat} {row : List D} {d : D} (hn : es[n]? = some row) (hj : row[j]? = some d) : bp P h ty (.ref (.ptr b (n * sz + j))) = some d := by
 obtain ⟨rest, hr⟩ := kG es n row hs hn
 unfold bp
 have : es.flatten.drop (n * sz + j) = (row ++ rest).drop j := by rw [← hr, Hd]
 simp only [hb, this, cy, ha, hz]
 rw [List.head?_drop]
 have hlt := (Dm.1 hj).1
 rw [DB hlt, hj]
theorem yq {ty : TypeId} (ha : zB P ty = some true) {cs : List D} (hz : szOf P ty = some cs.length) (hb : h[b]? = some (.var cs)) : bp P h ty (.ref (.ptr b 0)) = some (.agg cs) := by
 unfold bp
 simp only [hb, He, cy, ha, hz]
 simp
theorem kJ {ty : TypeId} {x : D} {new : List D} (hx : x.cells = some new) (hz : szOf P ty = some sz) (hl : new.length = sz) (hb : h[b]? = some (.var es.flatten)) (hs : ∀ r ∈ es, r.length = sz) {n : Nat} (hn : n < es.length) : bS P h ty (.ref (.ptr b (n * sz))) x = some (h.set b (.var (es.set n new).flatten)) := by
 unfold bS
 simp only [hx, hz, hl, hb]
 have : (n + 1) * sz ≤ es.length * sz := F5 _ hn
 rw [FX] at this
 rw [if_pos trivial, if_pos (by rw [eS es hs]; omega), kH es n new hs hl hn]
theorem pO {ty : TypeId} {x : D} {new cs : List D} (hx : x.cells = some new) (hz : szOf P ty = some new.length) (hl : cs.length = new.length) (hb : h[b]? = some (.var cs)) : bS P h ty (.ref (.ptr b 0)) x = some (h.set b (.var new)) := by
 unfold bS
 simp only [hx, hz, hb]
 rw [if_pos trivial, if_pos (by omega)]
 have : List.drop new.length cs = [] := GX (by omega)
 simp [cd, this]
end
end Go.Vi
namespace Go.Vi
open Go
def iW (fn : Func) : Code := match fn.body with
 | some c => c
 | none => .skip
theorem Ev.of_cw {P : Program} {Γ : am} {f : FuncId} {args : List D} {h h' : List Blk} {fn : Func} {d : D} {e : Exit} {s : AS} (hf : P.funcs[f]? = some fn) (hb : fn.body.isSome = true)
  (hw : CW P Γ h false (iW fn) { t := dX fn args, h := h, m := [] } e s) (hs : finF P h fn (some ((e, s, []), [])) = some (d, h', [], [])) : Ev P Γ f args h d h' := by
 cases hc : fn.body with
 | none => rw [hc] at hb; simp at hb
 | some c =>
  unfold iW at hw
  rw [hc] at hw
  refine vJ (r := some ((e, s, []), [])) (φ := []) hf hc ?_ hs trivial
  intro e1 s1 as1 φ1 h1 _
  simp only [Df, Di] at h1
  obtain ⟨⟨rfl, rfl, _⟩, _⟩ := h1
  exact hw
end Go.Vi
namespace Go.Vi
open Go
def Ref.up (k : Nat) : Ref → Ref
 | .vec b e => .vec b (e + k)
 | .vs b e i n c => .vs b (e + k) i n c
 | .vp b e i j => .vp b (e + k) i j
 | r => r
def Ref.dn (k : Nat) : Ref → D
 | .vec b e => match decide (k ≤ e) with
  | true => .ref (.vec b (e - k))
  | false => .any
 | .vs b e i n c => match decide (k ≤ e) with
  | true => .ref (.vs b (e - k) i n c)
  | false => .any
 | .vp b e i j => match decide (k ≤ e) with
  | true => .ref (.vp b (e - k) i j)
  | false => .any
 | r => .ref r
def upR (ks : List Nat) (r : Ref) : D := .ref (r.up (ks.getD r.blk 0))
def dnR (ks : List Nat) (r : Ref) : D := r.dn (ks.getD r.blk 0)
theorem Ref.up_blk (k : Nat) (r : Ref) : (r.up k).blk = r.blk := by cases r <;> rfl
theorem dn_up (ks : List Nat) (r : Ref) : DC (dnR ks) (upR ks r) = .ref r := by
 simp only [upR, DC, dnR, Ref.up_blk]
 cases r <;> simp [Ref.up, Ref.dn]
def Blk.up (k : Nat) : Blk → Blk
 | .vec es e sz => .vec es (e + k) sz
 | x => x
def qH (ks : List Nat) : Nat → List Blk → List Blk
 | _, [] => []
 | i, x :: xs => (x.mapR (upR ks)).up (ks.getD i 0) :: qH ks (i + 1) xs
theorem cb (ks : List Nat) : ∀ (i : Nat) (h : List Blk) (j : Nat), (qH ks i h)[j]? = (h[j]?).map fun x => (x.mapR (upR ks)).up (ks.getD (i + j) 0)
 | i, [], j => by simp [qH]
 | i, x :: xs, 0 => by simp [qH]
 | i, x :: xs, j + 1 => by
  simp only [qH, EI]
  rw [cb ks (i + 1) xs j, show i + 1 + j = i + (j + 1) by omega]
mutual
theorem nZ {f g : Ref → D} (h : ∀ r, DC g (f r) = .ref r) : ∀ d : D, DC g (DC f d) = d
 | .p _ => rfl
 | .any => rfl
 | .ref r => by simp only [DC]; exact h r
 | .ep _ => rfl
 | .csl _ => rfl
 | .fn _ a b => by simp only [DC]; rw [cI h a, cI h b]
 | .agg cs => by simp only [DC]; rw [cI h cs]
 | .tup cs => by simp only [DC]; rw [cI h cs]
 | .grd _ d => by simp only [DC]; rw [nZ h d]
theorem cI {f g : Ref → D} (h : ∀ r, DC g (f r) = .ref r) : ∀ ds : List D, D6 g (D6 f ds) = ds
 | [] => rfl
 | d :: ds => by simp only [D6]; rw [nZ h d, cI h ds]
end
theorem AQ {f g : Ref → D} (h : ∀ r, DC g (f r) = .ref r) (x : Blk) : (x.mapR f).mapR g = x := by
 cases x <;> simp only [Fb]
 ·rw [cI h]
 ·rename_i es e sz
  congr 1
  rw [List.map_map]
  have : (D6 g ∘ D6 f) = id := by funext ds; exact cI h ds
  rw [this, List.map_id]
 ·rename_i kvs clock
  congr 1
  rw [List.map_map]
  have : ((fun e : D × D × Nat => (DC g e.1, DC g e.2.1, e.2.2)) ∘ fun e => (DC f e.1, DC f e.2.1, e.2.2)) = id := by
   funext e; simp only [Function.comp, nZ h, id]
  rw [this, List.map_id]
 ·rw [cI h]
theorem iX {k : Nat} {f : Ref → D} {x : Blk} : (x.mapR f).up k = .gone ↔ x = .gone := by cases x <;> simp [Fb, Blk.up]
theorem sY {w : World} {av : Nat → Prop} {l : Loc} {h : List Blk} {b k : Nat} {x : Blk} : BlkOk w av l h b (x.up k) ↔ BlkOk w av l h b x := by cases x <;> rfl
section
variable {l : Loc} {h : List Blk} {ks : List Nat} {w : World} {av : Nat → Prop} {y : Value}
theorem mE {k : Nat} : own l (qH ks 0 h) k ↔ own l h k := by
 constructor
 ·rintro ⟨b, x, cp, h1, h2, h3⟩
  rw [cb] at h1
  cases hx : h[b]? with
  | none => rw [hx] at h1; simp at h1
  | some z =>
   rw [hx] at h1
   simp only [D9, Df] at h1
   subst h1
   exact ⟨b, z, cp, hx, fun e => h2 (iX.2 e), h3⟩
 ·rintro ⟨b, x, cp, h1, h2, h3⟩
  exact ⟨b, (x.mapR (upR ks)).up (ks.getD (0 + b) 0), cp, by rw [cb, h1]; rfl, fun e => h2 (iX.1 e), h3⟩
theorem kK {O : Nat → Prop} {k : Nat} : avs O l (qH ks 0 h) k ↔ avs O l h k := or_congr Iff.rfl mE
theorem zP {r : Ref} (rr : RefRel l (qH ks 0 h) r y) : Rel w av l h (dnR ks r) y := by
 obtain ⟨x, hx⟩ := eR rr
 rw [cb] at hx
 cases hz : h[r.blk]? with
 | none => rw [hz] at hx; simp at hx
 | some z =>
  have key : (qH ks 0 h)[r.blk]? = some ((z.mapR (upR ks)).up (ks.getD r.blk 0)) := by rw [cb, hz]; simp
  unfold RefRel at rr
  obtain ⟨h1, rr⟩ := rr
  unfold dnR
  generalize ks.getD r.blk 0 = k at key ⊢
  cases r with
  | vec b e =>
   simp only [GB] at hz key
   simp only [key] at rr
   simp only [Ref.dn]
   cases z <;> simp only [Fb, Blk.up] at rr
   ·split
    ·rename_i hk
     simp only [decide_eq_true_eq] at hk
     simp only [Rel]
     unfold RefRel
     simp only [hz]
     exact ⟨h1, by omega, fun e => by simpa using rr.2 (by omega)⟩
    ·simp [Rel]
   ·split
    ·simp only [Rel]
     unfold RefRel
     simp only [hz]
     exact ⟨h1, trivial⟩
    ·simp [Rel]
  | vs b e i n c =>
   simp only [GB] at hz key
   simp only [key] at rr
   simp only [Ref.dn]
   cases z <;> simp only [Fb, Blk.up] at rr
   ·split
    ·rename_i hk
     simp only [decide_eq_true_eq] at hk
     simp only [Rel]
     unfold RefRel
     simp only [hz]
     exact ⟨h1, by omega, fun e => by simpa using rr.2 (by omega)⟩
    ·simp [Rel]
   ·split
    ·simp only [Rel]
     unfold RefRel
     simp only [hz]
     exact ⟨h1, trivial⟩
    ·simp [Rel]
  | vp b e i j =>
   simp only [GB] at hz key
   simp only [key] at rr
   simp only [Ref.dn]
   cases z <;> simp only [Fb, Blk.up] at rr
   ·split
    ·rename_i hk
     simp only [decide_eq_true_eq] at hk
     simp only [Rel]
     unfold RefRel
     simp only [hz]
     exact ⟨h1, by omega, fun e => by simpa using rr.2 (by omega)⟩
    ·simp [Rel]
   ·split
    ·simp only [Rel]
     unfold RefRel
     simp only [hz]
     exact ⟨h1, trivial⟩
    ·simp [Rel]
  | _ =>
   simp only [GB] at hz key
   simp only [key] at rr
   simp only [Ref.dn, Rel]
   unfold RefRel
   simp only [hz]
   refine ⟨h1, ?_⟩
   cases z <;> simp only [Fb, Blk.up] at rr <;> exact rr
theorem zQ {r : Ref} (rr : RefRel l h r y) : Rel w av l (qH ks 0 h) (upR ks r) y := by
 obtain ⟨z, hz⟩ := eR rr
 have key : (qH ks 0 h)[r.blk]? = some ((z.mapR (upR ks)).up (ks.getD r.blk 0)) := by rw [cb, hz]; simp
 unfold RefRel at rr
 obtain ⟨h1, rr⟩ := rr
 unfold upR
 simp only [Rel]
 generalize ks.getD r.blk 0 = k at key ⊢
 unfold RefRel
 refine ⟨h1, ?_⟩
 cases r <;> simp only [GB] at hz key <;> simp only [hz] at rr <;> simp only [Ref.up, key] <;> cases z <;> simp only [Fb, Blk.up] <;> simp only at rr <;>
  first
  | exact rr
  | exact ⟨by omega, fun e => by simpa using rr.2 (by omega)⟩
end
theorem le_up {f g : Ref → D} {k : Nat} {x y : Blk} (h : x.le y) : ((x.mapR f).up k).le ((y.mapR g).up k) ∧ (((x.mapR f).up k).stays ((y.mapR g).up k) → x.stays y) := by
 cases x <;> cases y <;> simp only [Ib] at h <;> simp_all [Ib, Fb, HT, Blk.up]
theorem Ev.up {P : Program} {Γ : am} {f : FuncId} {args : List D} {h h' : List Blk} {d : D} (ks : List Nat) (he : Ev P Γ f args h d h') (hm : (h.all (fun x => !gi x) && h'.all (fun x => !gi x)) = true) :
  Ev P Γ f (D6 (upR ks) args) (qH ks 0 h) (d.mapR (upR ks)) (qH ks 0 h') := by
 simp only [Dl] at hm
 intro O w l vs R ra
 have hO : ∀ k, avs O l h k → avs O l (qH ks 0 h) k := fun k => kK.2
 have R0 : Rep Γ O w l h := by
  refine ⟨fun k ho => R.inb k (mE.2 ho), R.obd, fun b b' x x' k c c' h1 h2 h3 h4 h5 h6 => ?_, fun b x hx => ?_, fun g cs hg => aD (fun k hk => kK.2 hk) (R.glo g cs hg)⟩
  ·exact R.inj b b' _ _ k c c' (by rw [cb, h1]; rfl) (fun e => h2 (iX.1 e)) (by rw [cb, h3]; rfl) (fun e => h4 (iX.1 e)) h5 h6
  ·have hb := sY.1 (R.blk b ((x.mapR (upR ks)).up (ks.getD (0 + b) 0)) (by rw [cb, hx]; rfl))
   have := eQ (l' := l) (h' := h) (b' := b) (f := dnR ks) (fun k hk => kK.2 hk) (fun r y rr => zP rr) rfl (by
    have := DX.1 hm.1 x (Ec hx)
    rw [mB]; simpa using this) hb
   rw [AQ (dn_up ks)] at this
   exact this
 have ra0 : RelL w (avs O l h) l h args vs := by
  have := bD (av' := avs O l h) (l' := l) (h' := h) (f := dnR ks) (fun k hk => kK.2 hk) (fun r y rr => zP rr) ra
  rw [cI (dn_up ks)] at this
  exact this
 refine Fc (he O w l vs R0 ra0) ?_
 rintro e w' ⟨v, d2, h2, l', rfl, ⟨rfl, rfl⟩, R', E', rd⟩
 refine ⟨v, _, _, l', rfl, ⟨rfl, rfl⟩, ⟨fun k ho => R'.inb k (mE.1 ho), R'.obd, fun b b' x x' k c c' h1 h2' h3 h4 h5 h6 => ?_, fun b x hx => ?_, fun g cs hg => aD (fun k hk => kK.1 hk) (R'.glo g cs hg)⟩,
  ⟨E'.size, fun blk hlt hno => E'.same blk hlt (fun ho => hno (mE.2 ho)), fun blk ho => (E'.news blk (mE.1 ho)).imp mE.2 id, fun b x hx => ?_, E'.tape⟩, ?_⟩
 ·rw [cb] at h1 h3
  cases hx : h2[b]? with
  | none => rw [hx] at h1; simp at h1
  | some z =>
   cases hx' : h2[b']? with
   | none => rw [hx'] at h3; simp at h3
   | some z' =>
    rw [hx] at h1; rw [hx'] at h3
    simp only [D9, Df] at h1 h3
    subst h1; subst h3
    exact R'.inj b b' z z' k c c' hx (fun e => h2' (iX.2 e)) hx' (fun e => h4 (iX.2 e)) h5 h6
 ·rw [cb] at hx
  cases hz : h2[b]? with
  | none => rw [hz] at hx; simp at hx
  | some z =>
   rw [hz] at hx
   simp only [D9, Df] at hx
   subst hx
   refine sY.2 (eQ (l' := l') (b' := b) (fun k hk => kK.1 hk) (fun r y rr => zQ rr) rfl ?_ (R'.blk b z hz))
   have := DX.1 hm.2 z (Ec hz)
   simpa using this
 ·rw [cb] at hx
  cases hz : h[b]? with
  | none => rw [hz] at hx; simp at hx
  | some z =>
   rw [hz] at hx
   simp only [D9, Df] at hx
   subst hx
   obtain ⟨x', k1, k2, k3⟩ := E'.keep b z hz
   obtain ⟨g1, g2⟩ := le_up (f := upR ks) (g := upR ks) (k := ks.getD (0 + b) 0) k2
   exact ⟨_, by rw [cb, k1]; rfl, g1, fun hs => k3 (g2 hs)⟩
 ·exact ez (fun k hk => kK.1 hk) (fun r y rr => zQ rr) rd
def upHX (ks : List Nat) : Nat → List Blk → List Blk
 | _, [] => []
 | i, x :: xs => (keepX (upR ks) x).up (ks.getD i 0) :: upHX ks (i + 1) xs
theorem ro {ks : List Nat} : ∀ {i : Nat} {h : List Blk}, AllP (mapP (upR ks) h) → upHX ks i h = qH ks i h
 | _, [], _ => rfl
 | i, x :: xs, hp => by
  obtain ⟨h1, h2⟩ := GW (ps := kn (upR ks) x) hp
  simp only [upHX, qH, gJ h1, ro h2]
theorem Ev.upX {P : Program} {Γ : am} {f : FuncId} {args : List D} {h h' : List Blk} {d : D} (ks : List Nat) (he : Ev P Γ f args h d h') (hm : (h.all (fun x => !gi x) && h'.all (fun x => !gi x)) = true) (p1 : AllP (mapP (upR ks) h)) (p2 : AllP (mapP (upR ks) h')) :
  Ev P Γ f (D6 (upR ks) args) (upHX ks 0 h) (d.mapR (upR ks)) (upHX ks 0 h') := by
 rw [ro p1, ro p2]; exact Ev.up ks he hm
end Go.Vi
namespace Go.Vi
open Go
section
variable {P : Program} {Γ : am} {O : Nat → Prop} {w : World} {l : Loc} {h : List Blk}
theorem n3 : ∀ {kvs : List (D × D × Nat)} {es : List MapEntry}, RelKV w (avs O l h) l h kvs es → ∀ {i : Nat} {e : MapEntry}, es[i]? = some e →
  ∃ k d, (k, d, e.born) ∈ kvs ∧ Rel w (avs O l h) l h k e.key ∧ Rel w (avs O l h) l h d e.val
 | [], [], _, _, _, he => by simp at he
 | (k, d, n) :: kvs, e0 :: es, r, i, e, he => by
  simp only [RelKV] at r
  cases i with
  | zero =>
   simp only [DT, Df] at he
   subst he
   exact ⟨k, d, by simp [r.2.2.1], r.1, r.2.1⟩
  | succ i =>
   obtain ⟨k', d', h1, h2⟩ := n3 r.2.2.2 (by simpa using he)
   exact ⟨k', d', Eg _ h1, h2⟩
 | [], _ :: _, r, _, _, _ => by simp [RelKV] at r
 | _ :: _, [], r, _, _, _ => by simp [RelKV] at r
theorem yr (R : Rep Γ O w l h) {b mb clock : Nat} {seen : List Nat} {kvs : List (D × D × Nat)} {y : Value} {t : TypeId} (rx : Rel w (avs O l h) l h (.ref (.it b)) y)
  (hb : h[b]? = some (.mit (some mb) clock seen clock)) (hmb : h[mb]? = some (.map kvs clock)) (hall : ∀ e ∈ kvs, e.2.2 < clock) :
  ∃ v w' h' d, (F8 y false t).run P w = .ok v w' ∧ Rep Γ O w' l h' ∧ Ext w l h w' l h' ∧ Rel w' (avs O l h') l h' d v ∧
   ((kvs.filter (fun e => !seen.contains e.2.2) = [] ∧ d = .tup [lit (.bool false)] ∧ h' = h) ∨
    ∃ e ∈ kvs.filter (fun e => !seen.contains e.2.2), d = .tup [lit (.bool true), e.1, e.2.1] ∧ h' = h.set b (.mit (some mb) clock (seen ++ [e.2.2]) clock)) := by
 obtain ⟨blk, cp, hlb, rfl⟩ := pg R rx hb (by simp)
 obtain ⟨blk', cp', mr, h1, h2, h3⟩ := R.blk b _ hb
 obtain ⟨rfl, rfl⟩ : blk = blk' ∧ cp = cp' := by simpa [hlb] using h1
 have h3' := h3
 obtain ⟨_, hr⟩ := h3
 simp only [hmb] at hr
 obtain ⟨mblk, mcp, hlm, hmr⟩ := hr
 simp only [Value.map.injEq] at hmr
 subst hmr
 obtain ⟨mblk', mcp', es, g1, g2, g3⟩ := R.blk mb _ hmb
 obtain ⟨rfl, rfl⟩ : mblk = mblk' ∧ mcp = mcp' := by simpa [hlm] using g1
 have hgo := bk (P := P) h2 (by simp)
 have hgm := bk (P := P) g2 (by simp)
 have hflt : RelKV w (avs O l h) l h (kvs.filter fun e => !seen.contains e.2.2) (es.filter fun e => !seen.toArray.contains e.born).toList := by
  rw [Array.toList_filter]
  simpa using fj (f := fun n => !seen.contains n) g3
 have hborn : ∀ e ∈ es, e.born < clock := by
  intro e he
  obtain ⟨i, hi, rfl⟩ := List.getElem_of_mem (Array.mem_toList_iff.2 he)
  obtain ⟨k, d, h4, _⟩ := n3 g3 (DF hi)
  exact hall _ h4
 have hcond : (!seen.toArray.isEmpty && !es.isEmpty && es.all (fun e => decide (e.born ≥ clock))) = false := by
  by_cases he : es.isEmpty
  ·simp [he]
  ·have : es.all (fun e => decide (e.born ≥ clock)) = false := by
    rw [← Gd, Array.all_eq_true]
    intro hh
    have hp : 0 < es.size := by
     rw [Ho] at he; omega
    have h5 := hh 0 hp
    have h6 := hborn es[0] (Array.getElem_mem hp)
    simp at h5
    omega
   simp [this]
 generalize hleft : es.filter (fun e => !seen.toArray.contains e.born) = left at hflt
 have hlb2 : ∀ e ∈ left, e.born < clock := fun e he => hborn e (by rw [← hleft] at he; exact (Array.mem_filter.1 he).1)
 have hold : left.filter (fun e => decide (e.born < clock)) = left := by
  rw [Array.filter_eq_self]
  intro e he
  simpa using hlb2 e he
 have hnew : left.filter (fun e => decide (e.born ≥ clock)) = #[] := by
  rw [Array.filter_eq_empty_iff]
  intro e he
  have := hlb2 e he
  simp; omega
 by_cases hz : left = #[]
 ·subst hz
  have hk : kvs.filter (fun e => !seen.contains e.2.2) = [] := by
   cases hq : kvs.filter (fun e => !seen.contains e.2.2) with
   | nil => rfl
   | cons a t => rw [hq] at hflt; simp [RelKV] at hflt
  refine ⟨.tuple #[.bool false], w, h, .tup [lit (.bool false)], ?_, R, Ext.refl _ _ _, by simp only [Rel]; exact ⟨_, rfl, rel_lit _ _ _ _ _, trivial⟩, .inl ⟨hk, rfl, rfl⟩⟩
  simp only [F8, DA, hgo, hgm, Du, hcond, hleft]
  simp [F0]
 ·have hpos : 0 < left.size := by
   rw [Nat.pos_iff_ne_zero]
   intro hh
   exact hz (Array.eq_empty_of_size_eq_zero hh)
  have hie : left.isEmpty = false := by
   rw [← Gd, Ho]; omega
  have pick : ∃ i w2, (choose (.mapNext left.size)).run P w = .ok i w2 ∧ i < left.size ∧ Rep Γ O w2 l h ∧ Ext w l h w2 l h ∧ w2.heap = w.heap := by
   by_cases hf : left.size ≤ 1
   ·exact ⟨0, w, by simp [run_choose, F0, hf], hpos, R, Ext.refl _ _ _, rfl⟩
   ·obtain ⟨R1, E1⟩ := R.of_heap (w' := w.drew) rfl ⟨rfl, rfl, rfl, Nat.le_succ _⟩
    exact ⟨_, w.drew, by simp [run_choose, F0, hf]; rfl, Nat.mod_lt _ hpos, R1, E1, rfl⟩
  obtain ⟨i, w2, p1, p2, R2, E2, p3⟩ := pick
  have hcand : ((if left.isEmpty = true then #[none] else #[]) ++ Array.map some (left ++ #[]))[i]? = some (some left[i]) := by
   simp [hie, p2]
  obtain ⟨k, d, m1, m2, m3⟩ := n3 hflt (i := i) (e := left[i]) (by rw [Eh]; exact Array.getElem?_eq_getElem p2)
  have h2' : w2.heap[blk]? = some (.mapIter (some mblk) clock seen.toArray clock) := by rw [p3]; exact h2
  have := gx R2 (x' := .mit (some mb) clock (seen ++ [left[i].born]) clock) hb (by simp) hlb (o' := .mapIter (some mblk) clock (seen.toArray.push left[i].born) clock) h2' trivial
   (fun E => ⟨blk, cp, some mblk, hlb, by rw [cA h2']; simp, (E.rel (O := O) (d := .ref (.mp mb)) (E2.rel h3'))⟩)
  refine ⟨.tuple #[.bool true, left[i].key, left[i].val], _, _, _, ?_, this.1, E2.trans this.2, ?_, .inr ⟨_, m1, rfl, rfl⟩⟩
  ·have hsz : (if left.isEmpty = true then #[none] else #[] : Array (Option MapEntry)).size + (left.size + 0) = left.size := by simp [hie]
   simp only [F8, DA, hgo, hgm, Du, hcond, hleft, hold, hnew]
   simp only [Bool.false_eq_true, if_false, Sem.run_pure, Du, Array.size_append, Array.size_map, Array.size_empty, hsz, p1, hcand, DA]
   simp [b8 (P := P) h2']
  ·simp only [Rel]; exact ⟨_, rfl, rel_lit _ _ _ _ _, this.2.rel (E2.rel m2), this.2.rel (E2.rel m3), trivial⟩
variable {X : Ctx} {r : Option Nat}
theorem AR {o : Oper} {x b mb clock : Nat} {it : Operand} {seen : List Nat} {kvs : List (D × D × Nat)} {s : AS} {K : Act → World → Prop} {Q' : Exit → Act → World → Prop} (ho : o.op = .next it false) (hd : o.dst = some x)
  (hit : evalD Γ s.t it = .ref (.it b)) (hb : s.h[b]? = some (.mit (some mb) clock seen clock)) (hmb : s.h[mb]? = some (.map kvs clock)) (hall : ∀ e ∈ kvs, e.2.2 < clock)
  (hm : aw s.h s.m = true) (hm' : ∀ n, aw (s.h.set b (.mit (some mb) clock (seen ++ [n]) clock)) s.m = true)
  (h0 : kvs.filter (fun e => !seen.contains e.2.2) = [] → ∀ a' w', St Γ X { t := s.t.set x (.tup [lit (.bool false)]), h := s.h, m := s.m } a' w' → K a' w')
  (h1 : ∀ e ∈ kvs.filter (fun e => !seen.contains e.2.2), ∀ a' w', St Γ X { t := s.t.set x (.tup [lit (.bool true), e.1, e.2.1]), h := s.h.set b (.mit (some mb) clock (seen ++ [e.2.2]) clock), m := s.m } a' w' → K a' w')
  {a : Act} {w : World} (hs : St Γ X s a w) : o.wpIn (FW r) 0 P a w K Q' := by
 obtain ⟨l, R, E, rt, rd⟩ := hs
 have rx := a8 R rt it
 rw [hit] at rx
 obtain ⟨v, w', h', d, g1, g2, g3, g4, g5⟩ := yr (P := P) (t := o.type) R rx hb hmb hall
 refine ⟨fun _ _ => trivial, ?_⟩
 rw [Oper.semAt_eq _ _ _ (by intro c hc; rw [hc] at ho; simp at ho)]
 have he : (execOp a.eval o).run P w = .ok (.value v) w' := by
  obtain ⟨dst, op, type, pos, after, guard⟩ := o
  simp only at ho g1
  subst ho
  simp [execOp, g1]
 rw [he]
 rcases g5 with ⟨k1, rfl, rfl⟩ | ⟨e, k1, rfl, rfl⟩
 ·have key := St.put (Γ := Γ) (X := X) (s := s) (a := a) o.dst rt rd E g2 g3 g4 hm
  exact h0 k1 (a.put o.dst v) w' (by have hp : putD s.t o.dst (.tup [lit (.bool false)]) = s.t.set x (.tup [lit (.bool false)]) := (by rw [hd]; rfl); rw [hp] at key; exact key)
 ·have key := St.put (Γ := Γ) (X := X) (s := s) (a := a) o.dst rt rd E g2 g3 g4 (hm' _)
  exact h1 e k1 (a.put o.dst v) w' (by have hp : putD s.t o.dst (.tup [lit (.bool true), e.1, e.2.1]) = s.t.set x (.tup [lit (.bool true), e.1, e.2.1]) := (by rw [hd]; rfl); rw [hp] at key; exact key)
theorem VW.nextRegion {id : Nat} {o1 o2 : Oper} {x1 x2 b mb clock : Nat} {it : Operand} {seen : List Nat} {kvs : List (D × D × Nat)} {s : AS} {Q : Exit → AS → Prop}
  (ho1 : o1.op = .next it false) (hd1 : o1.dst = some x1) (hg1 : o1.guard = none) (ho2 : o2.op = .extract (.tmp x1) 0) (hd2 : o2.dst = some x2) (hg2 : o2.guard = none)
  (hx1 : x1 < s.t.length) (hit : evalD Γ s.t it = .ref (.it b)) (hb : s.h[b]? = some (.mit (some mb) clock seen clock)) (hmb : s.h[mb]? = some (.map kvs clock)) (hall : ∀ e ∈ kvs, e.2.2 < clock)
  (hm : aw s.h s.m = true) (hm' : ∀ n, aw (s.h.set b (.mit (some mb) clock (seen ++ [n]) clock)) s.m = true)
  (h0 : kvs.filter (fun e => !seen.contains e.2.2) = [] → Q .normal { t := (s.t.set x1 (.tup [lit (.bool false)])).set x2 (lit (.bool false)), h := s.h, m := s.m })
  (h1 : ∀ e ∈ kvs.filter (fun e => !seen.contains e.2.2), Q .normal { t := (s.t.set x1 (.tup [lit (.bool true), e.1, e.2.1])).set x2 (lit (.bool true)), h := s.h.set b (.mit (some mb) clock (seen ++ [e.2.2]) clock), m := s.m }) :
  VW P Γ X r (.region id #[o1, o2] false) Q s := fun a w hs => wpIn_region (by
 have w1 : Ei o1 (yielded #[o1, o2] a.tmps) = true := by simp [Ei, hg1]
 simp only [List.size_toArray, DZ, Fp, List.range_succ_eq_map, List.range_zero, En, List.map_nil, wpOpsIn, List.getElem?_toArray, DT, EI]
 rw [if_pos w1]
 have step2 : ∀ (d0 : D) (ds : List D) (h2 : List Blk) (a' : Act) (w' : World), aw h2 s.m = true → Q .normal { t := (s.t.set x1 (.tup (d0 :: ds))).set x2 d0, h := h2, m := s.m } → St Γ X { t := s.t.set x1 (.tup (d0 :: ds)), h := h2, m := s.m } a' w' →
   if Ei o2 (yielded #[o1, o2] a'.tmps) = true then o2.wpIn (FW r) 0 P a' w' (eG Γ X Q .normal) (eG Γ X Q) else (∀ f, o2.about P w' a'.eval = some f → (FW r).fn f) ∧ eG Γ X Q .normal (a'.put o2.dst undef) w' := by
  intro d0 ds h2 a' w' hmk hq hs'
  have w2 : Ei o2 (yielded #[o1, o2] a'.tmps) = true := by simp [Ei, hg2]
  rw [if_pos w2]
  refine xV (s := { t := s.t.set x1 (.tup (d0 :: ds)), h := h2, m := s.m }) (d := d0) (h' := h2) ?_ hmk ?_ hs'
  ·rw [ho2]
   have : evalD Γ (s.t.set x1 (.tup (d0 :: ds))) (.tmp x1) = .tup (d0 :: ds) := by simp [evalD, DI, hx1]
   simp only [opSem, this]
   rfl
  ·intro a2 w2 hs2
   rw [hd2] at hs2
   exact ⟨by simp, _, hq, hs2⟩
 refine AR (s := s) ho1 hd1 hit hb hmb hall hm hm' ?_ ?_ hs
 ·intro hz a' w' hs'
  exact step2 _ _ _ a' w' hm (h0 hz) hs'
 ·intro e he a' w' hs'
  exact step2 _ _ _ a' w' (hm' _) (h1 e he) hs')
abbrev bH (l : List (D × D × Nat)) : List Nat := l.map fun e => e.2.2
theorem VW.mapLoop {id j : Nat} {o1 o2 : Oper} {x1 x2 b mb clock : Nat} {it : Operand} {kvs : List (D × D × Nat)} {rest : Code} {Q : Exit → AS → Prop} (S : List (D × D × Nat) → AS)
  (ho1 : o1.op = .next it false) (hd1 : o1.dst = some x1) (hg1 : o1.guard = none) (ho2 : o2.op = .extract (.tmp x1) 0) (hd2 : o2.dst = some x2) (hg2 : o2.guard = none)
  (hS : ∀ pre, x1 < (S pre).t.length ∧ x2 < (S pre).t.length ∧ evalD Γ (S pre).t it = .ref (.it b) ∧ (S pre).h[b]? = some (.mit (some mb) clock (bH pre) clock) ∧ (S pre).h[mb]? = some (.map kvs clock) ∧
   aw (S pre).h (S pre).m = true ∧ ∀ n, aw ((S pre).h.set b (.mit (some mb) clock (bH pre ++ [n]) clock)) (S pre).m = true)
  (hall : ∀ e ∈ kvs, e.2.2 < clock) (hnd : (bH kvs).Nodup)
  (body : ∀ pre e post, (pre ++ e :: post).Perm kvs →
   VW P Γ X r rest (fun e' s' => e' = .normal ∧ s' = S (pre ++ [e])) { t := ((S pre).t.set x1 (.tup [lit (.bool true), e.1, e.2.1])).set x2 (lit (.bool true)), h := (S pre).h.set b (.mit (some mb) clock (bH (pre ++ [e])) clock), m := (S pre).m })
  (last : ∀ pre, pre.Perm kvs → Q (.exit j) { t := ((S pre).t.set x1 (.tup [lit (.bool false)])).set x2 (lit (.bool false)), h := (S pre).h, m := (S pre).m }) :
  VW P Γ X r (.loop (.seq (.region id #[o1, o2] false) (.seq (.cond (.tmp x2) .skip (.exit j)) rest))) Q (S []) := by
 refine VW.loop (ι := { pre : List (D × D × Nat) // ∃ post, (pre ++ post).Perm kvs }) (fun pre s => s = S pre.1) (fun pre => kvs.length - pre.1.length) ⟨[], kvs, by simp⟩ rfl ?_
 rintro ⟨pre, post, hp⟩ s rfl
 obtain ⟨k1, k2, k3, k4, k5, k6, k7⟩ := hS pre
 have hnp : (bH (pre ++ post)).Nodup := (hp.map _).nodup_iff.2 hnd
 have hdis : ∀ e ∈ post, (bH pre).contains e.2.2 = false := by
  intro e he
  rw [← Gd, FV]
  intro hm
  rw [bH, List.map_append, List.nodup_append] at hnp
  exact hnp.2.2 _ hm _ (DL.2 ⟨e, he, rfl⟩) rfl
 have hin : ∀ e ∈ kvs, (bH pre).contains e.2.2 = false → e ∈ post := by
  intro e he hc
  rcases List.mem_append.1 (hp.mem_iff.2 he) with h | h
  ·rw [← Gd, FV] at hc
   exact absurd (DL.2 ⟨e, h, rfl⟩) hc
  ·exact h
 refine VW.seq (VW.nextRegion ho1 hd1 hg1 ho2 hd2 hg2 k1 k3 k4 k5 hall k6 k7 ?_ ?_)
 ·intro hz
  have hpost : post = [] := by
   cases post with
   | nil => rfl
   | cons e post =>
    have h1 := hdis e (by simp)
    have h2 : e ∈ kvs.filter (fun e => !(bH pre).contains e.2.2) := FM.2 ⟨hp.mem_iff.1 (by simp), by simp only [h1]; rfl⟩
    rw [hz] at h2
    simp at h2
  subst hpost
  rw [GN] at hp
  refine VW.seq (VW.cond (b := false) ?_ (fun h => by simp at h) (fun _ => ?_))
  ·simp [evalD, DI, k2, lit]
  ·exact VW.exit (last pre hp)
 ·intro e he
  obtain ⟨h1, h2⟩ := FM.1 he
  have h3 := hin e h1 (by simpa using h2)
  obtain ⟨s1, s2, rfl⟩ := List.append_of_mem h3
  have hpe : (pre ++ e :: (s1 ++ s2)).Perm kvs := by
   refine List.Perm.trans (List.Perm.append_left _ ?_) hp
   exact (List.perm_middle (l₁ := s1) (l₂ := s2) (a := e)).symm
  refine VW.seq (VW.cond (b := true) ?_ (fun _ => ?_) (fun h => by simp at h))
  ·simp [evalD, DI, k2, lit]
  ·refine VW.skip ?_
   have hbt : bH (pre ++ [e]) = bH pre ++ [e.2.2] := by simp [bH]
   have hb := body pre e (s1 ++ s2) hpe
   rw [hbt] at hb
   refine hb.mono ?_
   rintro e' s' ⟨rfl, rfl⟩
   refine ⟨⟨pre ++ [e], s1 ++ s2, by rw [List.append_assoc]; exact hpe⟩, rfl, ?_⟩
   have hl := hpe.length_eq
   simp only [E7, DZ] at hl ⊢
   simp only [Fp]
   omega
def rq : Code → Nat → Code
 | .seq a b, n => bif Nat.blt n (uK a).length then .seq a b else rq b (n - (uK a).length)
 | c, _ => c
def pP (c : Code) (n : Nat) : Code := match rq c n with
 | .seq _ b => b
 | _ => .skip
end
end Go.Vi
namespace Go.Vi
open Go
def sameBlk : Blk → Blk → Bool
 | .var a, .var b => jx a b
 | .vec a e s, .vec b e' s' => sameLL a b && (decide (e = e') && decide (s = s'))
 | .map a c, .map b c' => sameKV a b && decide (c = c')
 | .gone, .gone => true
 | .defd, .defd => true
 | .mit (some a) b c d, .mit (some a') b' c' d' => (decide (a = a') && decide (b = b')) && (decide (c = c') && decide (d = d'))
 | .mit none b c d, .mit none b' c' d' => decide (b = b') && (decide (c = c') && decide (d = d'))
 | _, _ => false
where
 sameLL : List (List D) → List (List D) → Bool
  | [], [] => true
  | a :: as, b :: bs => jx a b && sameLL as bs
  | _, _ => false
 sameKV : List (D × D × Nat) → List (D × D × Nat) → Bool
  | [], [] => true
  | (k, d, n) :: as, (k', d', n') :: bs => (sameD k k' && sameD d d') && (decide (n = n') && sameKV as bs)
  | _, _ => false
def ru : List Blk → List Blk → Bool
 | [], [] => true
 | a :: as, b :: bs => sameBlk a b && ru as bs
 | _, _ => false
theorem pQ : ∀ {a b : List (List D)}, sameBlk.sameLL a b = true → a = b
 | [], [], _ => rfl
 | a :: as, b :: bs, h => by simp only [sameBlk.sameLL, Dl] at h; rw [sameL_eq h.1, pQ h.2]
 | [], _ :: _, h => by simp [sameBlk.sameLL] at h
 | _ :: _, [], h => by simp [sameBlk.sameLL] at h
theorem pR : ∀ {a b : List (D × D × Nat)}, sameBlk.sameKV a b = true → a = b
 | [], [], _ => rfl
 | (k, d, n) :: as, (k', d', n') :: bs, h => by
  simp only [sameBlk.sameKV, Dl, decide_eq_true_eq] at h
  rw [fL h.1.1, fL h.1.2, h.2.1, pR h.2.2]
 | [], _ :: _, h => by simp [sameBlk.sameKV] at h
 | _ :: _, [], h => by simp [sameBlk.sameKV] at h
theorem uf {a b : Blk} (h : sameBlk a b = true) : a = b := by
 unfold sameBlk at h
 split at h
 ·rw [sameL_eq h]
 ·simp only [Dl, decide_eq_true_eq] at h; rw [pQ h.1, h.2.1, h.2.2]
 ·simp only [Dl, decide_eq_true_eq] at h; rw [pR h.1, h.2]
 ·rfl
 ·rfl
 ·simp only [Dl, decide_eq_true_eq] at h; rw [h.1.1, h.1.2, h.2.1, h.2.2]
 ·simp only [Dl, decide_eq_true_eq] at h; rw [h.1, h.2.1, h.2.2]
 ·cases h
theorem n4 : ∀ {a b : List Blk}, ru a b = true → a = b
 | [], [], _ => rfl
 | a :: as, b :: bs, h => by simp only [ru, Dl] at h; rw [uf h.1, n4 h.2]
 | [], _ :: _, h => by simp [ru] at h
 | _ :: _, [], h => by simp [ru] at h
structure Memo where
 f : FuncId
 args : List D
 h : List Blk
 r : CR
def Memo.hit (m : Memo) (f : FuncId) (args : List D) (h : List Blk) : Bool := match Nat.beq m.f f with
 | true => match jx m.args args with
  | true => ru m.h h
  | false => false
 | false => false
def vN : List Memo → FnF
 | [], _, _, _ => none
 | m :: ms, f, args, h => match m.hit f args h with
  | true => some m.r
  | false => vN ms f args h
def Memo.Ok (P : Program) (Γ : am) (m : Memo) : Prop := eu P m.f = true ∧ VRes P Γ m.f m.args m.h m.r
def rz (P : Program) (Γ : am) : List Memo → Prop
 | [] => True
 | m :: ms => m.Ok P Γ ∧ rz P Γ ms
theorem Memo.hit_eq {m : Memo} {f : FuncId} {args : List D} {h : List Blk} (hh : m.hit f args h = true) : m.f = f ∧ m.args = args ∧ m.h = h := by
 unfold Memo.hit at hh
 split at hh
 ·rename_i h1
  split at hh
  ·rename_i h2
   exact ⟨Iq h1, sameL_eq h2, n4 hh⟩
  ·cases hh
 ·cases hh
theorem sZ {P : Program} {Γ : am} : ∀ {ms : List Memo}, rz P Γ ms → xL P Γ (vN ms)
 | [], _, _, _, _, _, h => by simp [vN] at h
 | m :: ms, hm, f, args, h, r, hw => by
  simp only [vN] at hw
  split at hw
  ·rename_i hh
   obtain ⟨rfl, rfl, rfl⟩ := Memo.hit_eq hh
   cases hw
   exact hm.1
  ·exact sZ hm.2 _ _ _ _ hw
def vO : CR → CR → Bool
 | .ret d h, .ret d' h' => sameD d d' && ru h h'
 | _, _ => false
theorem vP {a b : CR} (h : vO a b = true) : a = b := by
 unfold vO at h
 split at h
 ·simp only [Dl] at h; rw [fL h.1, n4 h.2]
 ·cases h
theorem Memo.call {P : Program} {Γ : am} {m : Memo} {d : D} {h' : List Blk} (hm : m.Ok P Γ) (hr : m.r = .ret d h') : VCall P Γ m.f m.args m.h fun d2 h2 => d2 = d ∧ h2 = h' := by
 have := hm.2
 rw [hr] at this
 exact this.call
def orW (a b : FnF) : FnF := fun f x h => match a f x h with
 | some r => some r
 | none => b f x h
theorem orW_ok {P : Program} {Γ : am} {a b : FnF} (ha : xL P Γ a) (hb : xL P Γ b) : xL P Γ (orW a b) := by
 intro f x h r hw
 unfold orW at hw
 split at hw
 ·rename_i r' he; cases hw; exact ha _ _ _ _ he
 ·exact hb _ _ _ _ hw
def Memo.runsW (P : Program) (Γ : am) (W : FnF) (ms : List Memo) (m : Memo) : Bool := match eu P m.f, lP P Γ (orW W (vN ms)) 100000 m.f m.args m.h with
 | true, some r => vO r m.r
 | _, _ => false
theorem Memo.okW_of {P : Program} {Γ : am} (ok : POk P) {W : FnF} (hW : xL P Γ W) {ms : List Memo} {m : Memo} (hr : m.runsW P Γ W ms = true) (hm : rz P Γ ms) : m.Ok P Γ := by
 unfold Memo.runsW at hr
 split at hr
 ·rename_i r h1 h2
  refine ⟨h1, ?_⟩
  rw [← vP hr]
  exact VRes.of_run ok (orW_ok hW (sZ hm)) h2
 ·cases hr
end Go.Vi
namespace Go.Vi
open Go
def cV : List D → Option (List Dp)
 | [] => some []
 | .p x :: ds => match cV ds with
  | some xs => some (x :: xs)
  | none => none
 | _ => none
def gU : List (List D) → Option (List (List Dp))
 | [] => some []
 | r :: rs => match cV r, gU rs with
  | some x, some xs => some (x :: xs)
  | _, _ => none
def frzV (d : D) (e : Nat) : Option Blk → D
 | some (.vec es e' _) => match Nat.beq e' e, gU es with
  | true, some rows => .p (.sl rows)
  | _, _ => d
 | _ => d
mutual
def kL (h : List Blk) : D → D
 | .ref (.vec b e) => frzV (.ref (.vec b e)) e h[b]?
 | .agg cs => .agg (xM h cs)
 | d => d
def xM (h : List Blk) : List D → List D
 | [] => []
 | d :: ds => kL h d :: xM h ds
end
mutual
def iY : D → Bool
 | .p (.v _) => true
 | .agg cs => rA cs
 | .tup cs => rA cs
 | _ => false
def rA : List D → Bool
 | [] => true
 | d :: ds => iY d && rA ds
end
theorem mF : ∀ {ds : List D} {xs : List Dp}, cV ds = some xs → ds = xs.map .p
 | [], xs, h => by simp only [cV, Df] at h; subst h; rfl
 | .p x :: ds, xs, h => by
  simp only [cV] at h
  split at h
  ·rename_i ys h1
   simp only [Df] at h
   subst h
   rw [mF h1]; rfl
  ·simp at h
 | .any :: _, _, h => by simp [cV] at h
 | .ref _ :: _, _, h => by simp [cV] at h
 | .ep _ :: _, _, h => by simp [cV] at h
 | .csl _ :: _, _, h => by simp [cV] at h
 | .fn _ _ _ :: _, _, h => by simp [cV] at h
 | .agg _ :: _, _, h => by simp [cV] at h
 | .tup _ :: _, _, h => by simp [cV] at h
 | .grd _ _ :: _, _, h => by simp [cV] at h
theorem kM : ∀ {es : List (List D)} {xs : List (List Dp)}, gU es = some xs → es = xs.map (·.map .p)
 | [], xs, h => by simp only [gU, Df] at h; subst h; rfl
 | e :: es, xs, h => by
  simp only [gU] at h
  split at h
  ·rename_i y ys h1 h2
   simp only [Df] at h
   subst h
   rw [mF h1, kM h2]; rfl
  ·simp at h
section
variable {P : Program} {Γ : am} {O : Nat → Prop} {w : World} {l : Loc} {h : List Blk}
def rB (l : Loc) (h : List Blk) (k : Nat) : Prop := ∃ (b : Nat) (rows : List (List Dp)) (e sz cap : Nat), h[b]? = some (.vec (rows.map (·.map D.p)) e sz) ∧ l b = some (k, cap)
theorem yu (R : Rep Γ O w l h) {b e : Nat} {y : Value} {rows : List (List Dp)} {sz : Nat} (hb : h[b]? = some (.vec (rows.map (·.map .p)) e sz)) (rr : RefRel l h (.vec b e) y) {av' : Nat → Prop} (ha : ∀ k, av' k → avs O l h k ∧ ¬ rB l h k) :
  RelP w av' (.sl rows) y := by
 have hk := R.blk _ _ hb
 unfold RefRel at rr
 simp only [hb] at rr
 have hv := rr.2.2 trivial
 unfold BlkOk at hk
 simp only at hk
 simp only [RelP]
 cases hl : l b with
 | none =>
  rw [hl] at hv hk
  simp only [lD] at hv hk
  exact .inl ⟨by simpa using hk, none, 0, hv.2, fun _ => rfl⟩
 | some p =>
  obtain ⟨blk, cap⟩ := p
  rw [hl] at hv hk
  simp only [lD] at hv hk
  obtain ⟨c, T, fr, ys, q1, q2, q3, q4, q5, q6, rest, q7⟩ := hk
  refine .inr ⟨blk, 0, cap, sz, by simpa using hv.1, by simpa using hv.2, ?_⟩
  have hcell : ¬ av' blk := fun ho => (ha blk ho).2 ⟨b, rows, e, sz, cap, hb, hl⟩
  refine iI rows 0 fun i e1 he1 => ?_
  have hlen : e1.length = sz := by
   have := q5 (e1.map .p) (DL.2 ⟨e1, Ec he1, rfl⟩)
   simpa using this
  refine ⟨hlen, gg (l := l) (h := h) (av := avs O l h) (av' := av') (fun _ ho => (ha _ ho).1) hcell e1 _ ?_⟩
  rw [Nat.zero_add]
  exact (CellsAt.of_rel (loc := l) (h := h) q1 q7 q6).row q5 (by rw [EP, he1]; rfl)
mutual
theorem yv (R : Rep Γ O w l h) {av' : Nat → Prop} (ha : ∀ k, av' k → avs O l h k ∧ ¬ rB l h k) : ∀ {d : D} {y : Value}, Fg 0 (kL h d) = true → Rel w (avs O l h) l h d y → Rel w av' l [] (kL h d) y
 | .p _, _, _, r => by simp only [kL, Rel] at r ⊢; exact dK (fun k hk => (ha k hk).1) r
 | .any, _, _, _ => by simp [kL, Rel]
 | .ep _, _, _, r => by
  simp only [kL, Rel] at r ⊢
  obtain ⟨blk, off, r1, r2⟩ := r
  exact ⟨blk, off, r1, aD (fun k hk => (ha k hk).1) r2⟩
 | .csl _, _, _, r => by
  simp only [kL, Rel] at r ⊢
  rcases r with r | ⟨blk, off, sz, r1, r2⟩
  ·exact .inl r
  ·exact .inr ⟨blk, off, sz, r1, bU (fun k hk => (ha k hk).1) r2⟩
 | .agg cs, _, hi, r => by
  simp only [kL, Fg] at hi
  simp only [kL, Rel] at r ⊢
  obtain ⟨vs, r1, r2⟩ := r
  exact ⟨vs, r1, n5 R ha hi r2⟩
 | .ref (.vec b e), y, hi, r => by
  simp only [kL] at hi ⊢
  unfold frzV at hi ⊢
  split at hi
  ·rename_i es e' sz hb
   split at hi
   ·rename_i rows h1 h2
    have he := Iq h1
    subst he
    rw [kM h2] at hb
    simp only [Rel]
    exact yu R hb (by simpa only [Rel] using r) ha
   ·simp [Fg] at hi
  ·simp [Fg] at hi
 | .ref (.ptr _ _), _, hi, _ => by simp [kL, Fg] at hi
 | .ref (.vs _ _ _ _ _), _, hi, _ => by simp [kL, Fg] at hi
 | .ref (.av _ _ _ _), _, hi, _ => by simp [kL, Fg] at hi
 | .ref (.vp _ _ _ _), _, hi, _ => by simp [kL, Fg] at hi
 | .ref (.mp _), _, hi, _ => by simp [kL, Fg] at hi
 | .ref (.it _), _, hi, _ => by simp [kL, Fg] at hi
 | .ref (.yl _), _, hi, _ => by simp [kL, Fg] at hi
 | .fn f a b, _, hi, r => by
  have := dl (l := l) (h := h) (n := 0) (fun k hk => (ha k hk).1) (by simpa [kL] using hi) r
  simpa [kL] using this
 | .tup a, _, hi, r => by
  have := dl (l := l) (h := h) (n := 0) (fun k hk => (ha k hk).1) (by simpa [kL] using hi) r
  simpa [kL] using this
 | .grd g a, _, hi, r => by
  have := dl (l := l) (h := h) (n := 0) (fun k hk => (ha k hk).1) (by simpa [kL] using hi) r
  simpa [kL] using this
theorem n5 (R : Rep Γ O w l h) {av' : Nat → Prop} (ha : ∀ k, av' k → avs O l h k ∧ ¬ rB l h k) : ∀ {ds : List D} {ys : List Value}, Fw 0 (xM h ds) = true → RelL w (avs O l h) l h ds ys → RelL w av' l [] (xM h ds) ys
 | [], [], _, _ => by simp [xM, RelL]
 | [], _ :: _, _, r => by simp [RelL] at r
 | _ :: _, [], _, r => by simp [RelL] at r
 | _ :: _, _ :: _, hi, r => by
  simp only [xM, Fw, Dl] at hi
  simp only [xM, RelL] at r ⊢
  exact ⟨yv R ha hi.1 r.1, n5 R ha hi.2 r.2⟩
end
mutual
theorem s4 {w' : World} {av av' : Nat → Prop} {l' : Loc} {h' : List Blk} : ∀ {d : D} {y : Value}, iY d = true → Rel w av l h d y → Rel w' av' l' h' d y
 | .p (.v _), _, _, r => by simpa [Rel, RelP] using r
 | .agg cs, _, hf, r => by
  simp only [iY] at hf
  simp only [Rel] at r ⊢
  obtain ⟨vs, r1, r2⟩ := r
  exact ⟨vs, r1, kN hf r2⟩
 | .tup cs, _, hf, r => by
  simp only [iY] at hf
  simp only [Rel] at r ⊢
  obtain ⟨vs, r1, r2⟩ := r
  exact ⟨vs, r1, kN hf r2⟩
 | .p (.sl _), _, hf, _ => by simp [iY] at hf
 | .any, _, hf, _ => by simp [iY] at hf
 | .ref _, _, hf, _ => by simp [iY] at hf
 | .ep _, _, hf, _ => by simp [iY] at hf
 | .csl _, _, hf, _ => by simp [iY] at hf
 | .fn _ _ _, _, hf, _ => by simp [iY] at hf
 | .grd _ _, _, hf, _ => by simp [iY] at hf
theorem kN {w' : World} {av av' : Nat → Prop} {l' : Loc} {h' : List Blk} : ∀ {ds : List D} {ys : List Value}, rA ds = true → RelL w av l h ds ys → RelL w' av' l' h' ds ys
 | [], [], _, _ => by simp [RelL]
 | [], _ :: _, _, r => by simp [RelL] at r
 | _ :: _, [], _, r => by simp [RelL] at r
 | _ :: _, _ :: _, hf, r => by
  simp only [rA, Dl] at hf
  simp only [RelL] at r ⊢
  exact ⟨s4 hf.1 r.1, kN hf.2 r.2⟩
end
theorem Ev.frzArgs {f : FuncId} {args : List D} {d : D} (hi : Fw 0 (xM h args) = true) (hd : iY d = true) (he : Ev P Γ f (xM h args) [] d []) : Ev P Γ f args h d h := by
 intro O w l vs R ra
 have hav : ∀ l' k, avs (fun k => avs O l h k ∧ ¬ rB l h k) l' [] k → avs O l h k ∧ ¬ rB l h k := fun l' k ho => ho.elim id (fun h => absurd h cF)
 have R0 : Rep Γ (fun k => avs O l h k ∧ ¬ rB l h k) w l [] := by
  refine ⟨fun blk ho => absurd ho cF, fun blk ho => ?_, fun b b' x x' k c c' hb => by simp at hb, fun b x hb => by simp at hb, fun g cs hg => ?_⟩
  ·rcases ho.1 with ho | ho
   ·exact R.obd blk ho
   ·exact (R.inb blk ho).1
  ·exact aD (fun k hk => (hav l k hk).1) (R.glo g cs hg)
 have ra0 := n5 (av' := avs (fun k => avs O l h k ∧ ¬ rB l h k) l []) R (fun k hk => hav l k hk) hi ra
 refine Fc (he _ w l vs R0 ra0) ?_
 rintro e w' ⟨v, d2, h2, l', rfl, ⟨rfl, rfl⟩, R', E', rd⟩
 have E : Ext w l h w' l h := ⟨E'.size, fun blk hb _ => E'.same blk hb cF, fun blk ho => .inl ho, fun b x hx => ⟨x, hx, x.le_refl, fun _ => rfl⟩, E'.tape⟩
 refine ⟨v, d2, h, l, rfl, ⟨rfl, rfl⟩, ⟨fun blk ho => ⟨FN (R.inb blk ho).1 E'.size, (R.inb blk ho).2⟩, fun blk ho => FN (R.obd blk ho) E'.size, R.inj, fun b x hx => ?_, fun g cs hg => ?_⟩, E, s4 hd rd⟩
 ·by_cases hg : x = .gone
  ·subst hg; trivial
  exact BlkOk.ext E rfl (fun blk cp hl => E'.same blk (R.inb blk ⟨b, x, cp, hx, hg, hl⟩).1 cF) (R.blk b x hx)
 ·exact Hx E.hc g 0 cs (R.glo g cs hg)
theorem VRes.of_ev {f : FuncId} {args : List D} {d : D} {h' : List Blk} (he : Ev P Γ f args h d h') : VRes P Γ f args h (.ret d h') := by
 intro O w l vs R ra
 refine Fc (he O w l vs R ra) ?_
 rintro e w' ⟨v, d2, h2, l', rfl, ⟨rfl, rfl⟩, R', E', rd⟩
 exact ⟨v, l', rfl, R', E', rd⟩
end
end Go.Vi
namespace Go.Vi
open Go
def Shp (P : Program) : Nat → TypeId → List Dp → Prop
 | 0, _, _ => False
 | n + 1, t, ds => match P.underlying t with
  | some .bool => ∃ b, ds = [.v (.bool b)]
  | some (.int k) => ∃ x, ds = [.v (.int k x)] ∧ (Lit.int k x).wf = true
  | some .string => ∃ s, ds = [.v (.string s)] ∧ s.size ≤ reachBytes
  | some (.slice e) => ∃ es, ds = [.sl es] ∧ es.length * P.bytesOf e ≤ reachBytes ∧ ∀ r ∈ es, Shp P n e r
  | some (.struct fs) => ds.length = P.cellsOf t ∧ ∀ f ∈ fs.toList, Shp P n f.type ((ds.drop f.offset).take (P.cellsOf f.type))
  | _ => False
def cW (P : Program) : List Field → Nat → Nat → Bool
 | [], acc, total => acc == total
 | f :: fs, acc, total => (f.offset == acc) && cW P fs (acc + P.cellsOf f.type) total
def s5 (P : Program) (ts : List TypeId) : Bool := ts.all fun t => match P.underlying t with
 | some .bool | some (.int _) | some .string => true
 | some (.slice e) => ts.contains e && decide (0 < P.cellsOf e)
 | some (.struct fs) => cW P fs.toList 0 (P.cellsOf t) && fs.toList.all fun f => ts.contains f.type
 | _ => false
def RelPL (w : World) (av : Nat → Prop) : List Dp → List Value → Prop
 | [], [] => True
 | d :: ds, y :: ys => RelP w av d y ∧ RelPL w av ds ys
 | _, _ => False
section
variable {w : World} {av : Nat → Prop}
theorem RelPL.length : ∀ {ds : List Dp} {ys : List Value}, RelPL w av ds ys → ds.length = ys.length
 | [], [], _ => rfl
 | _ :: _, _ :: _, h => by simp [RelPL.length h.2]
 | [], _ :: _, h => h.elim
 | _ :: _, [], h => h.elim
theorem RelPL.append : ∀ {ds ds' : List Dp} {ys ys' : List Value}, RelPL w av ds ys → RelPL w av ds' ys' → RelPL w av (ds ++ ds') (ys ++ ys')
 | [], _, [], _, _, h => h
 | _ :: _, _, _ :: _, _, h, h' => ⟨h.1, RelPL.append h.2 h'⟩
 | [], _, _ :: _, _, h, _ => h.elim
 | _ :: _, _, [], _, h, _ => h.elim
theorem RelPL.relL {l : Loc} {h : List Blk} : ∀ {ds : List Dp} {ys : List Value}, RelPL w av ds ys → RelL w av l h (ds.map .p) ys
 | [], [], _ => by simp [RelL]
 | _ :: _, _ :: _, r => by simp only [En, RelL, Rel]; exact ⟨r.1, RelPL.relL r.2⟩
 | [], _ :: _, h => h.elim
 | _ :: _, [], h => h.elim
theorem pS {P : Program} : ∀ {fs : List Field} {acc total : Nat}, cW P fs acc total = true → acc ≤ total ∧ ∀ f ∈ fs, acc ≤ f.offset
 | [], acc, total, h => by simp only [cW, beq_iff_eq] at h; exact ⟨by omega, by simp⟩
 | f :: fs, acc, total, h => by
  simp only [cW, Dl, beq_iff_eq] at h
  obtain ⟨h1, h2⟩ := pS h.2
  refine ⟨by omega, fun g hg => ?_⟩
  rcases D2.1 hg with rfl | hg
  ·omega
  ·have := h2 g hg; omega
theorem kO {P : Program} {cs : List Value} {S : TypeId → List Dp → Prop} {total : Nat} (hc : cs.length = total) : ∀ (fs : List Field) (acc : Nat), cW P fs acc total = true →
  (∀ f ∈ fs, ∃ ds, S f.type ds ∧ RelPL w av ds ((cs.drop f.offset).take (P.cellsOf f.type))) →
  ∃ D, RelPL w av D (cs.drop acc) ∧ ∀ f ∈ fs, S f.type ((D.drop (f.offset - acc)).take (P.cellsOf f.type))
 | [], acc, h, _ => by
  simp only [cW, beq_iff_eq] at h
  refine ⟨[], ?_, by simp⟩
  rw [List.drop_of_length_le (by omega)]
  trivial
 | f :: fs, acc, h, hf => by
  simp only [cW, Dl, beq_iff_eq] at h
  obtain ⟨rfl, h⟩ := h
  obtain ⟨ds, hs, hr⟩ := hf f (List.mem_cons_self ..)
  obtain ⟨D, hD, hS⟩ := kO hc fs _ h (fun g hg => hf g (Eg _ hg))
  obtain ⟨hle, hoff⟩ := pS h
  have hlen : ds.length = P.cellsOf f.type := by
   have := hr.length
   rw [this, List.length_take, List.length_drop]
   omega
  refine ⟨ds ++ D, ?_, fun g hg => ?_⟩
  ·have := hr.append hD
   rw [← Hd, List.take_append_drop] at this
   exact this
  ·rcases D2.1 hg with rfl | hg
   ·rw [Nat.sub_self, He, List.take_append_of_le_length (by omega), ← hlen, List.take_length]
    exact hs
   ·have h1 := hoff g hg
    have hd : ∀ k, (ds ++ D).drop (ds.length + k) = D.drop k := fun k => by rw [GP]; simp
    rw [show g.offset - f.offset = ds.length + (g.offset - (f.offset + P.cellsOf f.type)) by omega, hd]
    exact hS g hg
theorem mG {blk c : Nat} : ∀ (es : List (List Dp)) (off : Nat), (∀ i e, es[i]? = some e → e.length = c ∧ RelCells w av blk (off + i * c) e) → RelRows w av blk c off es
 | [], _, _ => trivial
 | e :: es, off, h => by
  obtain ⟨h1, h2⟩ := h 0 e rfl
  refine ⟨h1, by simpa using h2, mG es (off + c) fun i e' he => ?_⟩
  obtain ⟨h3, h4⟩ := h (i + 1) e' (by simpa using he)
  refine ⟨h3, ?_⟩
  rw [show off + c + i * c = off + (i + 1) * c by rw [FX]; omega]
  exact h4
theorem kP (hav : ∀ k, ¬ av k) {blk : Nat} : ∀ (ds : List Dp) (ys : List Value) (off : Nat), RelPL w av ds ys → (∀ (j : Nat) (y : Value), ys[j]? = some y → w.cell? ⟨blk, off + j, none⟩ = some y) → RelCells w av blk off ds
 | [], _, _, _, _ => trivial
 | d :: ds, [], _, r, _ => r.elim
 | d :: ds, y :: ys, off, r, hc => by
  refine ⟨⟨hav _, y, by simpa using hc 0 y rfl, r.1⟩, kP hav ds ys (off + 1) r.2 fun j z hz => ?_⟩
  have := hc (j + 1) z (by simpa using hz)
  rwa [show off + (j + 1) = off + 1 + j by omega] at this
theorem s6 {a : Addr} {n : Nat} {cs : List Value} (h : w.cells? 0 a n = some cs) : cs.length = n ∧ ∀ (j : Nat) (y : Value), cs[j]? = some y → w.cell? (a.add j) = some y := by
 obtain ⟨h1, h2, h3⟩ := World.cells?_some h
 refine ⟨h2, fun j y hy => ?_⟩
 have hj : j < n := by rw [← h2]; exact (Dm.1 hy).1
 rw [h3 j hj, hy]
theorem f4 {H : Type} {P : Program} {e : TypeId} {q : Nat → Bool} : ∀ {l : List (DataW H)}, (DataW.weightsAll P e l).all q = true → ∀ d ∈ l, (d.weights P e).all q = true
 | [], _, d, hd => by simp at hd
 | x :: l, h, d, hd => by
  simp only [DataW.weightsAll, Hy, Dl] at h
  rcases D2.1 hd with rfl | hd
  ·exact h.1
  ·exact f4 h.2 d hd
theorem c5 {H : Type} {P : Program} {q : Nat → Bool} : ∀ {ts : List TypeId} {l : List (DataW H)}, (IQ P ts l).all q = true → ∀ (i : Nat) (t : TypeId) (d : DataW H), ts[i]? = some t → l[i]? = some d → (d.weights P t).all q = true
 | [], _, _, i, t, d, ht, _ => by simp at ht
 | _ :: _, [], _, i, t, d, _, hd => by simp at hd
 | t0 :: ts, x :: l, h, i, t, d, ht, hd => by
  simp only [IQ, Hy, Dl] at h
  cases i with
  | zero => simp at ht hd; subst ht; subst hd; exact h.1
  | succ i => exact c5 h.2 i t d (by simpa using ht) (by simpa using hd)
end
end Go.Vi
namespace Go.Vi
open Go
section
variable {w : World} {av : Nat → Prop} {P : Program}
theorem yw {ts : List TypeId} (hts : s5 P ts = true) {t : TypeId} (ht : t ∈ ts) : (match P.underlying t with
 | some .bool | some (.int _) | some .string => true
 | some (.slice e) => ts.contains e && decide (0 < P.cellsOf e)
 | some (.struct fs) => cW P fs.toList 0 (P.cellsOf t) && fs.toList.all fun f => ts.contains f.type
 | _ => false) = true := DX.1 hts t ht
theorem mH {H : Type} {enc : TypeId × Value → H} {spare : Nat → Bool} {ts : List TypeId} (hts : s5 P ts = true) (hav : ∀ k, ¬ av k) :
  ∀ (fuel : Nat) (t : TypeId) (cs : List Value) (d : DataW H) (ps : List MemPlace), t ∈ ts → Gu enc P w 0 spare true fuel t cs = some (d, ps) → (d.weights P t).all (· ≤ reachBytes) = true →
   ∃ ds, Shp P fuel t ds ∧ RelPL w av ds cs := by
 intro fuel
 induction fuel with
 | zero => intro t cs d ps _ h; simp [Gu] at h
 | succ n ih =>
  intro t cs d ps ht h hw
  have hp := yw hts ht
  split at hp
  ·rename_i hu
   obtain ⟨b, rfl, _⟩ := DataW.trod_bool hu h
   exact ⟨[.v (.bool b)], by simp only [Shp, hu]; exact ⟨b, rfl⟩, by simp [RelPL, RelP]⟩
  ·rename_i k hu
   obtain ⟨x, rfl, _, hwf⟩ := DataW.trod_int hu h
   exact ⟨[.v (.int k x)], by simp only [Shp, hu]; exact ⟨x, rfl, hwf⟩, by simp [RelPL, RelP]⟩
  ·rename_i hu
   obtain ⟨s, rfl, hx, _⟩ := DataW.trod_string hu h
   simp only [Di] at hx
   obtain ⟨rfl, _⟩ := hx
   have hs : s.size ≤ reachBytes := by
    simp only [HN, FH, List.all_nil, Bool.and_true, decide_eq_true_eq, Array.length_toList] at hw
    exact hw
   exact ⟨[.v (.string s)], by simp only [Shp, hu]; exact ⟨s, rfl, hs⟩, by simp [RelPL, RelP]⟩
  ·rename_i e hu
   simp only [Dl, decide_eq_true_eq, FV] at hp
   obtain ⟨he, hpos⟩ := hp
   rcases DataW.trod_slice hu h with ⟨rfl, _⟩ | ⟨a, len, cap, elems, rest, m, hm, rfl, hx, _, hle, _, hlen, hel, _⟩
   ·refine ⟨[.sl []], by simp only [Shp, hu]; exact ⟨[], rfl, by simp, by simp⟩, ?_⟩
    simp only [RelPL, RelP, and_true]
    exact .inl ⟨trivial, none, 0, rfl, fun _ => rfl⟩
   ·obtain rfl : n = m := by omega
    simp only [Di] at hx
    obtain ⟨rfl, _⟩ := hx
    simp only [HN, hu, FH, Hy, Dl, decide_eq_true_eq, EW] at hw
    obtain ⟨hw1, hw2, _⟩ := hw
    have key : ∀ i, i < len → ∃ ds ys, Shp P n e ds ∧ RelPL w av ds ys ∧ w.cells? 0 (a.add (i * P.cellsOf e)) (P.cellsOf e) = some ys := by
     intro i hi
     have h1 := hel i hi
     have h2 : elems[i]? = some elems[i] := DF (by omega)
     generalize elems[i] = x at h2
     rw [h2] at h1
     obtain ⟨ys, h3, h4⟩ := Option.bind_eq_some_iff.1 h1
     obtain ⟨dx, px⟩ := x
     obtain ⟨ds, h5, h6⟩ := ih e ys dx px he h4 (f4 hw2 dx (DL.2 ⟨(dx, px), Ec h2, rfl⟩))
     exact ⟨ds, ys, h5, h6, h3⟩
    obtain ⟨f, hf⟩ : ∃ f : Nat → List Dp, ∀ i, i < len → ∃ ys, Shp P n e (f i) ∧ RelPL w av (f i) ys ∧ w.cells? 0 (a.add (i * P.cellsOf e)) (P.cellsOf e) = some ys := by
     classical
     refine ⟨fun i => if hi : i < len then Classical.choose (key i hi) else [], fun i hi => ?_⟩
     simp only [dif_pos hi]
     exact Classical.choose_spec (key i hi)
    refine ⟨[.sl ((Ef len).map f)], ?_, ?_⟩
    ·simp only [Shp, hu]
     refine ⟨_, rfl, ?_, ?_⟩
     ·simp only [EW, List.length_range]
      have : len * P.bytesOf e ≤ (elems.length + rest.length) * P.bytesOf e := F5 _ (by omega)
      omega
     ·intro r hr
      obtain ⟨i, hi, rfl⟩ := DL.1 hr
      obtain ⟨ys, h1, _⟩ := hf i (by simpa using hi)
      exact h1
    ·simp only [RelPL, RelP, and_true]
     by_cases h0 : len = 0
     ·subst h0
      exact .inl ⟨by simp, some a, cap, rfl, by simp⟩
     ·have hsp : a.spot = none := by
       obtain ⟨ys, _, _, h3⟩ := hf 0 (by omega)
       obtain ⟨h4, h5⟩ := s6 h3
       have h6 : ys[0]? = some ys[0] := DF (by omega)
       have h7 := h5 0 _ h6
       simp only [Nat.zero_mul, Addr.add, if_true] at h7
       unfold World.cell? at h7
       split at h7
       ·split at h7
        ·simp at h7
        ·rename_i hns
         cases hs : a.spot with
         | none => rfl
         | some _ => simp [hs] at hns
       ·simp at h7
      obtain ⟨blk, off, sp⟩ := a
      simp only at hsp
      subst hsp
      refine .inr ⟨blk, off, cap, P.cellsOf e, by simp, by simpa using hle, mG _ _ fun i r hr => ?_⟩
      simp only [EP, Option.map_eq_some_iff] at hr
      obtain ⟨j, hj, rfl⟩ := hr
      rw [Dm] at hj
      obtain ⟨hj1, hj2⟩ := hj
      simp only [List.getElem_range] at hj2
      subst hj2
      obtain ⟨ys, h1, h2, h3⟩ := hf i (by simpa using hj1)
      obtain ⟨h4, h5⟩ := s6 h3
      refine ⟨by rw [h2.length, h4], kP hav _ _ _ h2 fun k y hy => ?_⟩
      have := h5 k y hy
      have e1 : (((⟨blk, off, none⟩ : Addr).add (i * P.cellsOf e)).add k) = ⟨blk, off + i * P.cellsOf e + k, none⟩ := by
       rw [cZ, cZ]
      rwa [e1] at this
  ·rename_i fs hu
   simp only [Dl, DX, FV] at hp
   obtain ⟨hc, hfs⟩ := hp
   obtain ⟨xs, m, hm, hx, hlen, hxs, hel⟩ := DataW.trod_struct hu h
   obtain rfl : n = m := by omega
   simp only [Di] at hx
   obtain ⟨rfl, _⟩ := hx
   simp only [HN, hu] at hw
   have key : ∀ f ∈ fs.toList, ∃ ds, Shp P n f.type ds ∧ RelPL w av ds ((cs.drop f.offset).take (P.cellsOf f.type)) := by
    intro f hf
    obtain ⟨i, hi⟩ := List.mem_iff_getElem?.1 hf
    have hi' : fs[i]? = some f := by rw [← Eh]; exact hi
    have hil : i < xs.length := by
     rw [hxs]
     have := (Array.getElem?_eq_some_iff.1 hi').1
     exact this
    have h1 := hel i f hi'
    have h2 : xs[i]? = some xs[i] := DF hil
    generalize xs[i] = x at h2
    rw [h2] at h1
    obtain ⟨dx, px⟩ := x
    exact ih f.type _ dx px (hfs f hf) h1 (c5 hw i f.type dx (by simp [hi]) (by simp [h2]))
   obtain ⟨D, hD, hS⟩ := kO hlen fs.toList 0 hc key
   rw [He] at hD
   refine ⟨D, ?_, hD⟩
   simp only [Shp, hu]
   refine ⟨by rw [hD.length, hlen], fun f hf => ?_⟩
   have := hS f hf
   rwa [F7] at this
  ·simp at hp
end
theorem n7 (k : Nat) : ¬ avs (fun _ => False) (fun _ => none) [] k := fun ho => ho.elim id (fun h => absurd h cF)
end Go.Vi
namespace Go.Vi
open Go Go.RowKit Go.ChangeShapes Go.WideShapes
section
variable {H : Type} {enc : TypeId × Value → H} {P : Program}
theorem gV (hl : laidOutB P = true) {W W' : World} (hb : Below W.heap.size W W') : ∀ {ts : List TypeId} {vs : List Value} {ds : List (DataW H)} {ps : List MemPlace},
  (ts.all fun t => P.readableRec t && decide (t < P.types.size)) = true → DataW.TrodAll enc P W 0 (fun _ => true) true ts vs ds ps → (∀ x ∈ ps, x.block < W.heap.size) →
  DataW.TrodAll enc P W' 0 (fun b => decide (b < W.heap.size)) true ts vs ds ps
 | [], vs, ds, ps, _, h, _ => by
  obtain ⟨rfl, rfl, rfl⟩ := trodAll_nil h
  rfl
 | t :: ts, vs, ds, ps, ht, h, hps => by
  obtain ⟨v, vs', d, ds', p, q, rfl, rfl, rfl, h1, h2⟩ := trodAll_cons h
  simp only [FH, Dl, decide_eq_true_eq] at ht
  refine ⟨p, q, Below.trod hl ht.1.1 ht.1.2 h1 hb (fun x hx => hps x (List.mem_append_left _ hx)), gV hl hb (by simpa using ht.2) h2 (fun x hx => hps x (List.mem_append_right _ hx)), rfl⟩
theorem vQ {f : Func} {s : ChangeSpec} {apart : Bool} {W W' : World} {args : Array Value} {ds gs : List (DataW H)} {before : List MemPlace} {b : TypeId}
  (hl : laidOutB P = true) (hp : (f.params.toList.all fun t => P.readableRec t && decide (t < P.types.size)) = true) (hv : s.vars = []) (hr : f.resultTypes = #[b]) (hbt : P.underlying b = some .bool)
  (hW : DataW.Whole enc P f.params.toList s.vars apart W args.toList ds gs before) (hs : s.fn H ds = { results := [.lit (.bool true)], args := ds }) (hb : Below W.heap.size W W') :
  s.post enc P f apart true false false W args (.bool true) W' := by
 have hW' := hW
 have hlt := hW.lt
 obtain ⟨p, q, hA, hV, rfl, _, _⟩ := hW
 rw [hv] at hV
 obtain ⟨rfl, rfl⟩ := trodVars_none hV
 refine ⟨ds, [], p ++ [], [], p, [], hW', ?_, ?_, ?_, hb.frame _, fun h => by cases h⟩
 ·simp only [GN, hs, hr, Value.resultList]
  exact ⟨[], [], ⟨1, by simp [Gu, Value.cells, hbt]⟩, rfl, rfl⟩
 ·simp only [GN, hs]
  exact gV hl hb hp hA (fun x hx => hlt x (by simpa using hx))
 ·simp only [GN, hs, hv]
  rfl
end
end Go.Vi
namespace Go.Vi
open Go Go.RowKit
theorem ug {Γ : am} {w : World} (hg : ∀ g cs, Γ g = some cs → RelCells w (avs (fun _ => False) (fun _ => none) []) g 0 cs) : Rep Γ (fun _ => False) w (fun _ => none) [] :=
 ⟨fun blk ho => absurd ho cF, fun blk ho => ho.elim, fun b b' x x' k c c' hb => by simp at hb, fun b x hb => by simp at hb, hg⟩
theorem vR {P : Program} {Γ : am} {f : FuncId} {args : List D} {d : D} {W : World} {vs : List Value} (hg : ∀ g cs, Γ g = some cs → RelCells W (avs (fun _ => False) (fun _ => none) []) g 0 cs) (he : Ev P Γ f args [] d []) (hr : RelL W (avs (fun _ => False) (fun _ => none) []) (fun _ => none) [] args vs) :
  Calls P f vs.toArray W fun e W' => ∃ v, e = .returned v ∧ Rel W' (fun _ => False) (fun _ => none) [] d v ∧ Go.RowKit.Below W.heap.size W W' := by
 have h1 := he (fun _ => False) W (fun _ => none) vs (ug hg) hr
 refine (callsIn_wide (n := 0)).1 (Fc (h1 : CallsIn (FW none) 0 P f _ W _) ?_)
 rintro e W' ⟨v, d2, h2, l', rfl, ⟨rfl, rfl⟩, R', E', rd⟩
 refine ⟨v, rfl, Rel.mono (fun blk off y hn hc => ⟨hc, fun h => h.elim⟩) (fun b x hb => by simp at hb) d2 v rd, ?_⟩
 exact ⟨E'.tape.2.1, E'.tape.1, E'.tape.2.2.1, E'.size, fun k hk => E'.same k hk cF⟩
end Go.Vi
