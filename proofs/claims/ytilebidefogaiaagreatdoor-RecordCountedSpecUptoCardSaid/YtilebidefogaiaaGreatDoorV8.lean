/- RecordCountedSpecUpto: part of the proof: an evaluator of the model's programs on abstract values, and its soundness. No conditions beyond the given statement's own. -/
import Derived.Test.YtilebidefogaiaaGreatDoorV7
import Derived.ChangeArms
import Derived.OpenShut
import Derived.Below
import Derived.Carry
open List renaming getElem?_eq_getElem → zp, getElem?_cons_succ → AD, mem_of_getElem? → zL, getElem?_eq_some_iff → zc, map_cons → AH, mem_map → zI, getElem?_map → Az, getD → zi, all_eq_true → zJ, getElem?_append_left → zy, flatten_cons → Af, drop_append → Db, drop_eq_nil_of_le → Ch, mem_cons → zR, append_nil → CZ
open Option.some renaming injEq → y5, inj → DE
open Nat renaming sub_zero → B0, lt_of_lt_of_le → Bf, add_mul → Bt, eq_of_beq_eq_true → DX
open Go.Vi.D renaming mapR → Al, mapRL → Am, inn → CT
open Go.Vi.Blk renaming mapR → AP
open Go.Vi.Ref renaming blk → B2
open Bool renaming and_eq_true → zd
open Go.CallsIn renaming mono → AM
open Go.Vi.RelCells renaming mono → CY
open Go.Vi.AllP renaming append → Cf
open Option renaming map_some → zP
open Go.DataW renaming weightsEach → Eh
namespace Go.Vi
open Go
theorem Ev.castH {P : Program} {Γ : ah} {f : FuncId} {args : List D} {h h' h2 : List Blk} {d d2 : D} (he : Ev P Γ f args h d h') (hd : d = d2) (hh : h' = h2) : Ev P Γ f args h d2 h2 := hd ▸ hh ▸ he
theorem CW.cast {P : Program} {Γ : ah} {h0 : List Blk} {rd : Bool} {c : Code} {s s' s2 : AS} {e e2 : Exit} (hw : CW P Γ h0 rd c s e s') (he : e = e2) (hs : s' = s2) : CW P Γ h0 rd c s e2 s2 := he ▸ hs ▸ hw
def bp {α σ ρ : Type} (f : α → σ → σ ⊕ ρ) : List α → σ → σ ⊕ ρ
 | [], s => .inl s
 | a :: l, s => match f a s with
  | .inl s' => bp f l s'
  | .inr r => .inr r
def bI {σ ρ : Type} (eE : Exit) (sE : σ → AS) (fin : ρ → Exit × AS) : σ ⊕ ρ → Exit × AS
 | .inl s => (eE, sE s)
 | .inr r => fin r
def ad {σ ρ : Type} (st : σ → AS) (fin : ρ → Exit × AS) : σ ⊕ ρ → Exit × AS
 | .inl s => (.normal, st s)
 | .inr r => fin r
theorem CW.each {P : Program} {Γ : ah} {h0 : List Blk} {rd : Bool} {c : Code} {α σ ρ : Type} (l : List α) (f : α → σ → σ ⊕ ρ) (st : Nat → σ → AS) (eE : Exit) (sE : σ → AS) (fin : ρ → Exit × AS)
  (inv : Nat → σ → Prop) (hE : eE ≠ .normal) (hF : ∀ r, (fin r).1 ≠ .normal)
  (body : ∀ i a s, l[i]? = some a → inv i s → (∀ s', f a s = .inl s' → inv (i + 1) s') ∧ CW P Γ h0 rd c (st i s) (ad (st (i + 1)) fin (f a s)).1 (ad (st (i + 1)) fin (f a s)).2)
  (last : ∀ s, inv l.length s → CW P Γ h0 rd c (st l.length s) eE (sE s)) (s : σ) (h : inv 0 s) :
  CW P Γ h0 rd (.loop c) (st 0 s) (bI eE sE fin (bp f l s)).1 (bI eE sE fin (bp f l s)).2 := by
 refine CW.loop (ι := { p : Nat × σ // p.1 ≤ l.length ∧ inv p.1 p.2 }) (fun p => st p.1.1 p.1.2) (fun p => bI eE sE fin (bp f (l.drop p.1.1) p.1.2)) (fun p => l.length - p.1.1) ?_ ⟨(0, s), Nat.zero_le _, h⟩
 rintro ⟨⟨i, s⟩, hi, hv⟩
 simp only at hi hv ⊢
 by_cases hlt : i < l.length
 ·have ha : l[i]? = some l[i] := zp hlt
  have hd : l.drop i = l[i] :: l.drop (i + 1) := List.drop_eq_getElem_cons hlt
  obtain ⟨b1, b2⟩ := body i _ s ha hv
  rw [hd]
  simp only [bp]
  cases hf : f l[i] s with
  | inl s' =>
   rw [hf] at b2
   exact .inl ⟨⟨(i + 1, s'), hlt, b1 _ hf⟩, by simp only; omega, rfl, b2⟩
  | inr r =>
   rw [hf] at b2
   exact .inr ⟨hF r, b2⟩
 ·have : i = l.length := by omega
  subst this
  rw [List.drop_length]
  exact .inr ⟨hE, last s hv⟩
def aA : Code → Code
 | .rangeFunc _ _ a _ => a
 | _ => .skip
def al : Code → Code
 | .rangeFunc _ _ _ b => b
 | _ => .skip
theorem Iv.round {P : Program} {Γ : ah} {b : Nat} {args : List D} {h h1 h' : List Blk} {pend : Option Code} {f : FuncId} {ts : List D} {ps : Array Tmp} {asg body : Code} {t1 : List D} {p1 : Option Code} {f1 : FuncId} {ts1 : List D} {ps1 : Array Tmp}
  {a1 b1 : Code} {e2 : Exit} {s2 : AS} {d : D} (hb : h[b]? = some (.loop .ready pend f ts ps asg body)) (hlen : args.length = ps.size)
  (hasg : CW P Γ h true asg { t := ed ts (ps.toList.zip args), h := h, m := [] } .normal { t := t1, h := h1, m := [] })
  (hb1 : h1[b]? = some (.loop .ready p1 f1 ts1 ps1 a1 b1))
  (hbody : CW P Γ h true body { t := t1, h := h1.set b (.loop .busy p1 0 ts1 ps1 a1 b1), m := [] } e2 s2)
  (hend : iy b e2 s2 = some (d, h')) : Iv P Γ (.ref (.yl b)) args h d h' :=
 jc hb hlen (fun X r hX => hasg X r hX (fun h => by cases h)) hb1 (fun X r hX => hbody X r hX (fun h => by cases h)) hend
theorem CW.rangeFunc {P : Program} {Γ : ah} (ok : POk P) {h0 : List Blk} {s s' : AS} {g : Operand} {ps : Array Tmp} {asg body : Code} {f : FuncId} {fi ca : List D} {d : D} {h2 : List Blk} {e : Exit} (hg : bR (evalD Γ s.t g) = some (f, fi, ca)) (hf : ef P f = true)
  (hc : Ev P Γ f (fi ++ [.ref (.yl (s.h.length + 1))] ++ ca) (s.h ++ [.defd] ++ [.loop .ready none 0 s.t ps asg body]) d h2)
  (he : lM s.h.length s.t s.m h2 = some (e, s')) : CW P Γ h0 false (.rangeFunc g ps asg body) s e s' := by
 intro X r _ hr
 obtain rfl := hr rfl
 exact VW.rangeFunc ok hg hf (hc.mono fun _ _ hq => hq.2) he
end Go.Vi
namespace Go.Vi
open Go
def Ref.to (n : Nat) : Ref → Ref
 | .ptr _ o => .ptr n o
 | .vec _ e => .vec n e
 | .vs _ e i k c => .vs n e i k c
 | .av _ o k s => .av n o k s
 | .vp _ e i j => .vp n e i j
 | .mp _ => .mp n
 | .it _ => .it n
 | .yl _ => .yl n
def idx (x : Nat) : Nat → List Nat → Option Nat
 | _, [] => none
 | k, y :: ys => match x == y with
  | true => some k
  | false => idx x (k + 1) ys
theorem eN {x : Nat} : ∀ {ys : List Nat} {k i : Nat}, idx x k ys = some i → k ≤ i ∧ ys[i - k]? = some x
 | [], k, i, h => by simp [idx] at h
 | y :: ys, k, i, h => by
  unfold idx at h
  split at h
  ·rename_i e
   simp only [y5] at h
   subst h
   simp only [beq_iff_eq] at e
   subst e
   simp
  ·obtain ⟨h1, h2⟩ := eN h
   refine ⟨by omega, ?_⟩
   rw [show i - k = (i - (k + 1)) + 1 by omega, AD]
   exact h2
theorem l4 {x : Nat} : ∀ {ys : List Nat} {k : Nat}, idx x k ys = none → x ∉ ys
 | [], k, _ => by simp
 | y :: ys, k, h => by
  unfold idx at h
  split at h
  ·simp at h
  ·rename_i e
   simp only [beq_eq_false_iff_ne, ne_eq] at e
   simp [e, l4 h]
theorem pP {x : Nat} {ys : List Nat} {i : Nat} (hn : ys.Nodup) (h : ys[i]? = some x) : idx x 0 ys = some i := by
 cases hi : idx x 0 ys with
 | none => exact absurd (zL h) (l4 hi)
 | some j =>
  obtain ⟨_, h2⟩ := eN hi
  simp only [B0] at h2
  have hj := (zc.1 h2).1
  have hi' := (zc.1 h).1
  rw [zp hj] at h2
  rw [zp hi'] at h
  have : ys[j] = ys[i] := by simp only [y5] at h h2; rw [h, h2]
  rw [(List.getElem_inj hn).1 this]
def inv (is : List Nat) (r : Ref) : D := match idx r.blk 0 is with
 | some i => .ref (r.to i)
 | none => .any
def fwd (is : List Nat) (m : Nat) (r : Ref) : D := match is[r.blk]? with
 | some i => .ref (r.to i)
 | none => .ref (r.to (m + (r.blk - is.length)))
def gI : Blk → Bool
 | .mit .. => true
 | _ => false
section
variable {w : World} {av av' : Nat → Prop} {l l' : Loc} {h h' : List Blk} {f : Ref → D}
mutual
theorem dI (ha : ∀ k, av' k → av k) (hf : ∀ r y, RefRel l h r y → Rel w av' l' h' (f r) y) : ∀ {d : D} {y : Value}, Rel w av l h d y → Rel w av' l' h' (Al f d) y
 | .p _, _, r => by simp only [Rel, Al] at r ⊢; exact cX ha r
 | .any, _, _ => by simp [Rel, Al]
 | .ref r, y, rr => by simp only [Al]; exact hf r y (by simpa only [Rel] using rr)
 | .ep _, _, r => by
  simp only [Rel, Al] at r ⊢
  obtain ⟨blk, off, r1, r2⟩ := r
  exact ⟨blk, off, r1, au ha r2⟩
 | .csl _, _, r => by
  simp only [Rel, Al] at r ⊢
  rcases r with r | ⟨blk, off, sz, r1, r2⟩
  ·exact .inl r
  ·exact .inr ⟨blk, off, sz, r1, bh ha r2⟩
 | .fn _ _ _, _, r => by
  simp only [Rel, Al] at r ⊢
  obtain ⟨a, c, r1, r2, r3⟩ := r
  exact ⟨a, c, r1, bc ha hf r2, bc ha hf r3⟩
 | .agg _, _, r => by
  simp only [Rel, Al] at r ⊢
  obtain ⟨vs, r1, r2⟩ := r
  exact ⟨vs, r1, bc ha hf r2⟩
 | .tup _, _, r => by
  simp only [Rel, Al] at r ⊢
  obtain ⟨vs, r1, r2⟩ := r
  exact ⟨vs, r1, bc ha hf r2⟩
 | .grd _ _, _, r => by
  simp only [Rel, Al] at r ⊢
  exact ⟨fun hg => dI ha hf (r.1 hg), r.2⟩
theorem bc (ha : ∀ k, av' k → av k) (hf : ∀ r y, RefRel l h r y → Rel w av' l' h' (f r) y) : ∀ {ds : List D} {ys : List Value}, RelL w av l h ds ys → RelL w av' l' h' (Am f ds) ys
 | [], [], _ => by simp [RelL, Am]
 | [], _ :: _, r => by simp [RelL] at r
 | _ :: _, [], r => by simp [RelL] at r
 | _ :: _, _ :: _, r => by
  simp only [RelL, Am] at r ⊢
  exact ⟨dI ha hf r.1, bc ha hf r.2⟩
end
theorem ju (ha : ∀ k, av' k → av k) (hf : ∀ r y, RefRel l h r y → Rel w av' l' h' (f r) y) : ∀ {kvs : List (D × D × Nat)} {es : List MapEntry}, RelKV w av l h kvs es →
  RelKV w av' l' h' (kvs.map fun e => (Al f e.1, Al f e.2.1, e.2.2)) es
 | [], [], _ => by simp [RelKV]
 | [], _ :: _, r => by simp [RelKV] at r
 | _ :: _, [], r => by simp [RelKV] at r
 | (k, d, m) :: kvs, e :: es, r => by
  simp only [RelKV, AH] at r ⊢
  exact ⟨dI ha hf r.1, dI ha hf r.2.1, r.2.2.1, ju ha hf r.2.2.2⟩
theorem dX (ha : ∀ k, av' k → av k) (hf : ∀ r y, RefRel l h r y → Rel w av' l' h' (f r) y) {b b' : Nat} (hl : l' b' = l b) {x : Blk} (hm : gI x = false) (r : BlkOk w av l h b x) : BlkOk w av' l' h' b' (x.mapR f) := by
 cases x with
 | var cs =>
  obtain ⟨blk, cp, c, T, r1, r2, r3⟩ := r
  exact ⟨blk, cp, c, T, hl.trans r1, r2, bc ha hf r3⟩
 | vec es e sz =>
  unfold BlkOk at r ⊢
  simp only [AP, hl] at r ⊢
  split
  ·rename_i h0; rw [h0] at r; simp only at r; rw [r]; rfl
  ·rename_i blk cap h0
   rw [h0] at r
   obtain ⟨c, T, fr, ys, r1, r2, r3, r4, r5, r6, r7⟩ := r
   refine ⟨c, T, fr, ys, r1, r2, by simpa using r3, r4, ?_, ?_, r7⟩
   ·intro e he
    obtain ⟨e0, he0, rfl⟩ := zI.1 he
    rw [eu]; exact r5 e0 he0
   ·rw [← dT]; exact bc ha hf r6
 | map kvs clock =>
  obtain ⟨blk, cp, es, r1, r2, r3⟩ := r
  exact ⟨blk, cp, es, hl.trans r1, r2, ju ha hf r3⟩
 | sit s pos =>
  obtain ⟨blk, cp, r1, r2⟩ := r
  exact ⟨blk, cp, hl.trans r1, r2⟩
 | mit m since seen st => simp [gI] at hm
 | loop st pend fn tmps params asg body =>
  obtain ⟨blk, cp, ts, dr, fn', r1, r2, r3⟩ := r
  exact ⟨blk, cp, ts, dr, fn', hl.trans r1, r2, bc ha hf r3⟩
 | defd =>
  obtain ⟨blk, cp, r1, r2⟩ := r
  exact ⟨blk, cp, hl.trans r1, r2⟩
 | gone => trivial
end
theorem kN {f : Ref → D} (x : Blk) : gI (x.mapR f) = gI x := by cases x <;> rfl
theorem pQ {f g : Ref → D} {x y : Blk} (h : (x.mapR f).le y) : x.le (y.mapR g) ∧ (x.stays (y.mapR g) → (x.mapR f).stays y) := by
 cases x <;> cases y <;> simp only [Blk.le, AP] at h <;> simp_all [Blk.le, AP, Blk.stays]
theorem jv {l l' : Loc} {h h' : List Blk} {f : Ref → D} {r : Ref} {n : Nat} {x : Blk} {y : Value} (hx : h[r.blk]? = some x) (hx' : h'[n]? = some (x.mapR f)) (hl : l' n = l r.blk) (rr : RefRel l h r y) : RefRel l' h' (r.to n) y := by
 unfold RefRel at rr ⊢
 refine ⟨rr.1, ?_⟩
 have rr := rr.2
 cases r <;> simp only [B2] at hx hl <;> simp only [hx] at rr <;> simp only [Ref.to, hx', hl] <;> cases x <;> simp [AP] at rr ⊢ <;> exact rr
theorem dY {l : Loc} {h : List Blk} {r : Ref} {y : Value} (rr : RefRel l h r y) : ∃ x, h[r.blk]? = some x := by
 unfold RefRel at rr
 have rr := rr.2
 cases hx : h[r.blk]? with
 | some x => exact ⟨x, rfl⟩
 | none => cases r <;> simp only [B2] at hx <;> simp only [hx] at rr
def pick (is : List Nat) (H : List Blk) : List Blk := is.map fun i => (H.getD i .gone).mapR (inv is)
theorem iC {is : List Nat} {H : List Blk} {b : Nat} {x : Blk} (h : (pick is H)[b]? = some x) : ∃ i, is[b]? = some i ∧ x = (H.getD i .gone).mapR (inv is) := by
 unfold pick at h
 rw [Az] at h
 cases hi : is[b]? with
 | none => rw [hi] at h; simp at h
 | some i => rw [hi] at h; exact ⟨i, rfl, by simpa using h.symm⟩
section
variable {Γ : ah} {O : Nat → Prop} {w : World} {l : Loc} {H : List Blk} {is : List Nat}
def l5 (is : List Nat) (l : Loc) : Loc := fun b => match is[b]? with
 | some i => l i
 | none => none
theorem pR {k : Nat} (ho : own (l5 is l) (pick is H) k) : ∃ (b i cp : Nat) (x : Blk), is[b]? = some i ∧ H[i]? = some x ∧ x ≠ .gone ∧ l i = some (k, cp) := by
 obtain ⟨b, x, cp, h1, h2, h3⟩ := ho
 obtain ⟨i, hi, rfl⟩ := iC h1
 unfold l5 at h3
 rw [hi] at h3
 have hg : H.getD i .gone ≠ .gone := fun e => h2 (by rw [e]; rfl)
 refine ⟨b, i, cp, H.getD i .gone, hi, ?_, hg, h3⟩
 cases hx : H[i]? with
 | none => simp [zi, hx] at hg
 | some x => simp [zi, hx]
theorem cf {k : Nat} (ho : own (l5 is l) (pick is H) k) : own l H k := by
 obtain ⟨b, i, cp, x, _, h2, h3, h4⟩ := pR ho
 exact ⟨i, x, cp, h2, h3, h4⟩
theorem kO (hn : is.Nodup) {r : Ref} {y : Value} (rr : RefRel l H r y) {av : Nat → Prop} : Rel w av (l5 is l) (pick is H) (inv is r) y := by
 unfold inv
 cases hi : idx r.blk 0 is with
 | none => simp [Rel]
 | some i =>
  obtain ⟨_, h2⟩ := eN hi
  simp only [B0] at h2
  obtain ⟨x, hx⟩ := dY rr
  simp only [Rel]
  refine jv (f := inv is) hx ?_ ?_ rr
  ·unfold pick
   rw [Az, h2]
   simp [zi, hx]
  ·unfold l5
   rw [h2]
theorem Rep.pick (R : Rep Γ O w l H) (hn : is.Nodup) (hm : (pick is H).all (fun x => !gI x) = true) {O' : Nat → Prop} (hO : ∀ k, avs O' (l5 is l) (Vi.pick is H) k → avs O l H k) (hO2 : ∀ k, O' k → avs O l H k ∧ ¬ own (l5 is l) (Vi.pick is H) k) :
  Rep Γ O' w (l5 is l) (Vi.pick is H) where
 inb k ho := ⟨(R.inb k (cf ho)).1, fun h' => (hO2 k h').2 ho⟩
 obd k ho := by
  rcases (hO2 k ho).1 with h' | h'
  ·exact R.obd k h'
  ·exact (R.inb k h').1
 inj b b' x x' k c c' h1 h2 h3 h4 h5 h6 := by
  obtain ⟨i, hi, rfl⟩ := iC h1
  obtain ⟨i', hi', rfl⟩ := iC h3
  unfold l5 at h5 h6
  rw [hi] at h5; rw [hi'] at h6
  have g1 : H.getD i .gone ≠ .gone := fun e => h2 (by rw [e]; rfl)
  have g2 : H.getD i' .gone ≠ .gone := fun e => h4 (by rw [e]; rfl)
  have e1 : H[i]? = some (H.getD i .gone) := by
   cases hx : H[i]? with
   | none => simp [zi, hx] at g1
   | some x => simp [zi, hx]
  have e2 : H[i']? = some (H.getD i' .gone) := by
   cases hx : H[i']? with
   | none => simp [zi, hx] at g2
   | some x => simp [zi, hx]
  have := R.inj i i' _ _ k c c' e1 g1 e2 g2 h5 h6
  subst this
  have a1 := pP hn hi
  have a2 := pP hn hi'
  rw [a1] at a2
  exact DE a2
 blk b x h1 := by
  obtain ⟨i, hi, rfl⟩ := iC h1
  cases hx : H[i]? with
  | none => simp [zi, hx, AP, BlkOk]
  | some x =>
   have hg : H.getD i .gone = x := by simp [zi, hx]
   rw [hg] at h1 ⊢
   refine dX hO (fun r y rr => kO hn rr) (b := i) ?_ ?_ (R.blk i x hx)
   ·unfold l5; rw [hi]
   ·have := zJ.1 hm _ (zL h1)
    rw [kN] at this
    simpa using this
 glo g cs hg := au hO (R.glo g cs hg)
end
def eZ (is : List Nat) (m : Nat) (h' : List Blk) : Nat → List Blk → List Blk
 | _, [] => []
 | b, x :: xs => (match idx b 0 is with
  | some i => (h'.getD i .gone).mapR (fwd is m)
  | none => x) :: eZ is m h' (b + 1) xs
def mu (is : List Nat) (h' : List Blk) (H : List Blk) : List Blk := eZ is H.length h' 0 H ++ (h'.drop is.length).map (AP (fwd is H.length))
theorem bW {is : List Nat} {m : Nat} {h' : List Blk} : ∀ (b : Nat) (xs : List Blk), (eZ is m h' b xs).length = xs.length
 | _, [] => rfl
 | b, x :: xs => by simp [eZ, bW (b + 1) xs]
theorem gJ {is : List Nat} {m : Nat} {h' : List Blk} : ∀ (b : Nat) (xs : List Blk) (j : Nat), (eZ is m h' b xs)[j]? = (xs[j]?).map fun x => match idx (b + j) 0 is with | some i => (h'.getD i .gone).mapR (fwd is m) | none => x
 | b, [], j => by simp [eZ]
 | b, x :: xs, 0 => by simp [eZ]
 | b, x :: xs, j + 1 => by
  simp only [eZ, AD]
  rw [gJ (b + 1) xs j, show b + 1 + j = b + (j + 1) by omega]
section
variable {is : List Nat} {h' H : List Blk}
theorem pS {b : Nat} {x : Blk} (hx : H[b]? = some x) (hi : idx b 0 is = none) : (mu is h' H)[b]? = some x := by
 have hlt := (zc.1 hx).1
 unfold mu
 rw [zy (by rw [bW]; exact hlt), gJ, hx]
 simp [hi]
theorem oA {b i : Nat} {x : Blk} (hx : H[b]? = some x) (hi : idx b 0 is = some i) : (mu is h' H)[b]? = some ((h'.getD i .gone).mapR (fwd is H.length)) := by
 have hlt := (zc.1 hx).1
 unfold mu
 rw [zy (by rw [bW]; exact hlt), gJ, hx]
 simp [hi]
theorem pT {j : Nat} : (mu is h' H)[H.length + j]? = (h'[is.length + j]?).map (AP (fwd is H.length)) := by
 unfold mu
 rw [List.getElem?_append_right (by rw [bW]; omega), bW, Az, List.getElem?_drop]
 simp
theorem putB_cases {b : Nat} {x : Blk} (h : (mu is h' H)[b]? = some x) :
  (idx b 0 is = none ∧ H[b]? = some x) ∨ (∃ i, b < H.length ∧ idx b 0 is = some i ∧ x = (h'.getD i .gone).mapR (fwd is H.length)) ∨ ∃ j y, b = H.length + j ∧ h'[is.length + j]? = some y ∧ x = y.mapR (fwd is H.length) := by
 by_cases hb : b < H.length
 ·have hx : H[b]? = some H[b] := zp hb
  cases hi : idx b 0 is with
  | none => rw [pS hx hi] at h; cases h; exact .inl ⟨rfl, hx⟩
  | some i => rw [oA hx hi] at h; cases h; exact .inr (.inl ⟨i, hb, rfl, rfl⟩)
 ·obtain ⟨j, rfl⟩ : ∃ j, b = H.length + j := ⟨b - H.length, by omega⟩
  rw [pT] at h
  cases hy : h'[is.length + j]? with
  | none => rw [hy] at h; simp at h
  | some y => rw [hy] at h; exact .inr (.inr ⟨j, y, rfl, hy, by simpa using h.symm⟩)
end
def pU (is : List Nat) (m : Nat) (l l0 : Loc) : Loc := fun b => match idx b 0 is with
 | some i => l0 i
 | none => match decide (b < m) with
  | true => l b
  | false => l0 (is.length + (b - m))
theorem Ev.frame {P : Program} {Γ : ah} {f : FuncId} {args0 args : List D} {h0 h0' H : List Blk} {d0 : D} (is : List Nat) (he : Ev P Γ f args0 h0 d0 h0') (hn : is.Nodup) (hb : ∀ i ∈ is, i < H.length)
  (ha : Am (inv is) args = args0) (hh : pick is H = h0) (hm : (h0.all (fun x => !gI x) && h0'.all (fun x => !gI x)) = true) :
  Ev P Γ f args H (d0.mapR (fwd is H.length)) (mu is h0' H) := by
 simp only [zd] at hm
 subst hh ha
 intro O w l vs R ra
 let O' : Nat → Prop := fun k => avs O l H k ∧ ¬ own (l5 is l) (pick is H) k
 have hO1 : ∀ k, avs O' (l5 is l) (pick is H) k → avs O l H k := fun k ho => ho.elim (·.1) (fun h => .inr (cf h))
 have hO2 : ∀ k, avs O l H k → avs O' (l5 is l) (pick is H) k := fun k ho => by
  by_cases h : own (l5 is l) (pick is H) k
  ·exact .inr h
  ·exact .inl ⟨ho, h⟩
 have R0 : Rep Γ O' w (l5 is l) (pick is H) := R.pick hn hm.1 hO1 (fun k h => h)
 have ra0 : RelL w (avs O' (l5 is l) (pick is H)) (l5 is l) (pick is H) (Am (inv is) args) vs := bc hO1 (fun r y rr => kO hn rr) ra
 refine AM (he O' w (l5 is l) vs R0 ra0) ?_
 rintro e w' ⟨v, d2, h2, l', rfl, ⟨rfl, rfl⟩, R', E', rd⟩
 have hlen : is.length ≤ h2.length := by
  rcases Nat.lt_or_ge h2.length is.length with hlt | hge
  ·exfalso
   have hp : (pick is H)[h2.length]? ≠ none := by
    unfold pick; rw [Az]; simp [hlt]
   cases hx : (pick is H)[h2.length]? with
   | none => exact hp hx
   | some x =>
    obtain ⟨x', h1, _⟩ := E'.keep _ x hx
    simp at h1
  ·exact hge
 have hisP : ∀ {b i : Nat}, is[b]? = some i → ∃ x, H[i]? = some x ∧ (pick is H)[b]? = some (x.mapR (inv is)) := fun {b i} hi => by
  have hlt := hb i (zL hi)
  refine ⟨H[i], zp hlt, ?_⟩
  unfold pick
  rw [Az, hi]
  simp [zi, zp hlt]
 have L1 : ∀ {i b : Nat}, is[i]? = some b → pU is H.length l l' b = l' i := fun {i b} hi => by
  unfold pU; rw [pP hn hi]
 have L2 : ∀ {b : Nat}, idx b 0 is = none → b < H.length → pU is H.length l l' b = l b := fun {b} h1 h2 => by
  unfold pU; rw [h1]; simp [h2]
 have L3 : ∀ {j : Nat}, pU is H.length l l' (H.length + j) = l' (is.length + j) := fun {j} => by
  unfold pU
  have : idx (H.length + j) 0 is = none := by
   cases hi : idx (H.length + j) 0 is with
   | none => rfl
   | some i =>
    obtain ⟨_, h2⟩ := eN hi
    have := hb _ (zL h2)
    omega
  rw [this]
  have : decide (H.length + j < H.length) = false := by simp
  simp only [this, show is.length + (H.length + j - H.length) = is.length + j by omega]
 have back : ∀ {b : Nat} {x : Blk}, (mu is h2 H)[b]? = some x → (idx b 0 is = none ∧ H[b]? = some x) ∨ ∃ i y, h2[i]? = some y ∧ x = y.mapR (fwd is H.length) ∧ pU is H.length l l' b = l' i ∧ (∀ b' x', (mu is h2 H)[b']? = some x' → (idx b' 0 is = none ∧ H[b']? = some x') ∨ ∃ i' y', h2[i']? = some y' ∧ x' = y'.mapR (fwd is H.length) ∧ pU is H.length l l' b' = l' i' ∧ (i = i' → b = b')) := by
  have one : ∀ {b : Nat} {x : Blk}, (mu is h2 H)[b]? = some x → (idx b 0 is = none ∧ H[b]? = some x) ∨ ∃ i y, h2[i]? = some y ∧ x = y.mapR (fwd is H.length) ∧ pU is H.length l l' b = l' i ∧ ((i < is.length ∧ is[i]? = some b) ∨ (is.length ≤ i ∧ b = H.length + (i - is.length))) := by
   intro b x hx
   rcases putB_cases hx with h | ⟨i, h1, h3, rfl⟩ | ⟨j, y, rfl, h3, rfl⟩
   ·exact .inl h
   ·obtain ⟨_, h4⟩ := eN h3
    simp only [B0] at h4
    have hi := (zc.1 h4).1
    have : h2[i]? = some (h2.getD i .gone) := by
     rw [zi, zp (by omega)]; rfl
    exact .inr ⟨i, _, this, rfl, L1 h4, .inl ⟨hi, h4⟩⟩
   ·exact .inr ⟨_, y, h3, rfl, L3, .inr ⟨by omega, by omega⟩⟩
  intro b x hx
  rcases one hx with h | ⟨i, y, h1, h3, h4, h5⟩
  ·exact .inl h
  ·refine .inr ⟨i, y, h1, h3, h4, fun b' x' hx' => ?_⟩
   rcases one hx' with h | ⟨i', y', g1, g3, g4, g5⟩
   ·exact .inl h
   ·refine .inr ⟨i', y', g1, g3, g4, fun e => ?_⟩
    subst e
    rcases h5 with ⟨a1, a2⟩ | ⟨a1, a2⟩ <;> rcases g5 with ⟨c1, c2⟩ | ⟨c1, c2⟩
    ·rw [a2] at c2; exact DE c2
    ·omega
    ·omega
    ·omega
 have hgone : ∀ {y : Blk}, y.mapR (fwd is H.length) ≠ .gone → y ≠ .gone := fun {y} h e => h (by rw [e]; rfl)
 have oldO : ∀ {b : Nat} {x : Blk} {k c : Nat}, idx b 0 is = none → H[b]? = some x → x ≠ .gone → l b = some (k, c) → O' k := fun {b x k c} hi hx hg hl => by
  refine ⟨.inr ⟨b, x, c, hx, hg, hl⟩, fun ho => ?_⟩
  obtain ⟨b', i, cp, x', q1, q2, q3, q4⟩ := pR ho
  have := R.inj b i x x' k c cp hx hg q2 q3 hl q4
  subst this
  exact l4 hi (zL q1)
 have ownL : ∀ {k : Nat}, own (pU is H.length l l') (mu is h2 H) k → own l' h2 k ∨ (own l H k ∧ O' k) := fun {k} ⟨b, x, cp, g1, g2, g3⟩ => by
  rcases back g1 with ⟨a1, a2⟩ | ⟨i, y, a1, a2, a3, _⟩
  ·have hlt := (zc.1 a2).1
   rw [L2 a1 hlt] at g3
   exact .inr ⟨⟨b, x, cp, a2, g2, g3⟩, oldO a1 a2 g2 g3⟩
  ·rw [a3] at g3
   exact .inl ⟨i, y, cp, a1, hgone (a2 ▸ g2), g3⟩
 have avL : ∀ k, avs O (pU is H.length l l') (mu is h2 H) k → avs O' l' h2 k := fun k ho => by
  rcases ho with ho | ho
  ·refine .inl ⟨.inl ho, fun h => (R.inb k (cf h)).2 ho⟩
  ·rcases ownL ho with h | h
   ·exact .inr h
   ·exact .inl h.2
 have hf : ∀ (r : Ref) (y : Value), RefRel l' h2 r y → Rel w' (avs O (pU is H.length l l') (mu is h2 H)) (pU is H.length l l') (mu is h2 H) (fwd is H.length r) y := fun r y rr => by
  obtain ⟨x, hx⟩ := dY rr
  unfold fwd
  cases hi : is[r.blk]? with
  | some b =>
   simp only [Rel]
   obtain ⟨x0, q1, _⟩ := hisP hi
   refine jv hx ?_ (L1 hi) rr (f := fwd is H.length)
   rw [oA q1 (pP hn hi)]
   simp [zi, hx]
  | none =>
   simp only [Rel]
   have hge : is.length ≤ r.blk := by simpa using hi
   refine jv hx ?_ ?_ rr (f := fwd is H.length)
   ·rw [pT, show is.length + (r.blk - is.length) = r.blk by omega, hx]; rfl
   ·rw [L3, show is.length + (r.blk - is.length) = r.blk by omega]
 have E : Ext w l H w' (pU is H.length l l') (mu is h2 H) := by
  refine ⟨E'.size, fun blk hlt hno => E'.same blk hlt (fun ho => hno (cf ho)), fun blk ho => ?_, fun b x hx => ?_, E'.tape⟩
  ·rcases ownL ho with h | h
   ·rcases E'.news blk h with h | h
    ·exact .inl (cf h)
    ·exact .inr h
   ·exact .inl h.1
  ·have hlt := (zc.1 hx).1
   cases hi : idx b 0 is with
   | none => exact ⟨x, pS hx hi, x.le_refl, fun _ => L2 hi hlt⟩
   | some i =>
    obtain ⟨_, h4⟩ := eN hi
    simp only [B0] at h4
    obtain ⟨x0, q1, q2⟩ := hisP h4
    rw [hx] at q1; cases q1
    obtain ⟨x', k1, k2, k3⟩ := E'.keep i _ q2
    have hgd : h2.getD i .gone = x' := by simp [zi, k1]
    refine ⟨_, oA hx hi, ?_, fun hs => ?_⟩
    ·rw [hgd]; exact (pQ k2).1
    ·rw [hgd] at hs
     rw [L1 h4, k3 ((pQ k2).2 hs)]
     unfold l5; rw [h4]
 refine ⟨v, _, _, _, rfl, ⟨rfl, rfl⟩, ⟨fun k ho => ?_, fun k ho => Bf (R.obd k ho) E'.size, ?_, fun b x hx => ?_, fun g cs hg => ?_⟩, E, ?_⟩
 ·rcases ownL ho with h | h
  ·obtain ⟨p1, p2⟩ := R'.inb k h
   refine ⟨p1, fun hk => p2 ⟨.inl hk, fun ho' => (R.inb k (cf ho')).2 hk⟩⟩
  ·obtain ⟨p1, p2⟩ := R.inb k h.1
   exact ⟨Bf p1 E'.size, p2⟩
 ·intro b b' x x' k c c' g1 g2 g3 g4 g5 g6
  rcases back g1 with ⟨a1, a2⟩ | ⟨i, y, a1, a2, a3, a4⟩
  ·have hlt := (zc.1 a2).1
   rw [L2 a1 hlt] at g5
   rcases back g3 with ⟨d1, d2⟩ | ⟨i', y', d1, d2, d3, _⟩
   ·have hlt' := (zc.1 d2).1
    rw [L2 d1 hlt'] at g6
    exact R.inj b b' x x' k c c' a2 g2 d2 g4 g5 g6
   ·rw [d3] at g6
    exact absurd (oldO a1 a2 g2 g5) (R'.inb k ⟨i', y', c', d1, hgone (d2 ▸ g4), g6⟩).2
  ·rw [a3] at g5
   rcases a4 b' x' g3 with ⟨d1, d2⟩ | ⟨i', y', d1, d2, d3, d4⟩
   ·have hlt' := (zc.1 d2).1
    rw [L2 d1 hlt'] at g6
    exact absurd (oldO d1 d2 g4 g6) (R'.inb k ⟨i, y, c, a1, hgone (a2 ▸ g2), g5⟩).2
   ·rw [d3] at g6
    exact d4 (R'.inj i i' y y' k c c' a1 (hgone (a2 ▸ g2)) d1 (hgone (d2 ▸ g4)) g5 g6)
 ·rcases back hx with ⟨a1, a2⟩ | ⟨i, y, a1, rfl, a3, _⟩
  ·have hlt := (zc.1 a2).1
   by_cases hg : x = .gone
   ·subst hg; trivial
   refine BlkOk.ext E (L2 a1 hlt) (fun blk cp hl => ?_) (R.blk b x a2)
   exact E'.same blk (R.inb blk ⟨b, x, cp, a2, hg, hl⟩).1 (oldO a1 a2 hg hl).2
  ·refine dX avL hf a3 ?_ (R'.blk i y a1)
   have := zJ.1 hm.2 y (zL a1)
   simpa using this
 ·exact CY E.hc g 0 cs (R.glo g cs hg)
 ·exact dI avL hf rd
end Go.Vi
namespace Go.Vi
open Go
def pV : List Nat → Bool
 | [] => true
 | x :: xs => !sx x xs && pV xs
theorem kP : ∀ {xs : List Nat}, pV xs = true → xs.Nodup
 | [], _ => List.nodup_nil
 | x :: xs, h => by
  simp only [pV, zd, Bool.not_eq_true'] at h
  refine List.nodup_cons.2 ⟨fun hm => ?_, kP h.2⟩
  rw [dV.2 hm] at h
  simp at h
def uV (is : List Nat) (H : List Blk) : List Nat → List Blk
 | [] => []
 | i :: js => keepX (inv is) (H.getD i .gone) :: uV is H js
def xB (is : List Nat) (H : List Blk) : List Nat → List Prop
 | [] => []
 | i :: js => jg (inv is) (H.getD i .gone) ++ xB is H js
theorem pW {is : List Nat} {H : List Blk} : ∀ {js : List Nat}, AllP (xB is H js) → uV is H js = js.map fun i => (H.getD i .gone).mapR (inv is)
 | [], _ => rfl
 | i :: js, h => by
  obtain ⟨h1, h2⟩ := Cf (ps := jg (inv is) (H.getD i .gone)) h
  simp only [uV, AH, fJ h1, pW h2]
def l6 (is : List Nat) (m : Nat) (h' : List Blk) : Nat → List Blk → List Blk
 | _, [] => []
 | b, x :: xs => (match idx b 0 is with
  | some i => keepX (fwd is m) (h'.getD i .gone)
  | none => x) :: l6 is m h' (b + 1) xs
def mapX (f : Ref → D) : List Blk → List Blk
 | [] => []
 | x :: xs => keepX f x :: mapX f xs
def mapP (f : Ref → D) : List Blk → List Prop
 | [] => []
 | x :: xs => jg f x ++ mapP f xs
theorem sM {f : Ref → D} : ∀ {h : List Blk}, AllP (mapP f h) → mapX f h = h.map (AP f)
 | [], _ => rfl
 | x :: xs, h => by
  obtain ⟨h1, h2⟩ := Cf (ps := jg f x) h
  simp only [mapX, AH, fJ h1, sM h2]
theorem pX {f : Ref → D} : ∀ {h : List Blk} (i : Nat), AllP (mapP f h) → AllP (jg f (h.getD i .gone))
 | [], i, _ => by simp [jg, AllP]
 | x :: xs, i, h => by
  obtain ⟨h1, h2⟩ := Cf (ps := jg f x) h
  cases i with
  | zero => exact h1
  | succ i => simpa using pX i h2
theorem nr {f : Ref → D} : ∀ {h : List Blk} (i : Nat), AllP (mapP f h) → AllP (mapP f (h.drop i))
 | [], i, _ => by simp [mapP, AllP]
 | x :: xs, i, h => by
  cases i with
  | zero => exact h
  | succ i =>
   obtain ⟨h1, h2⟩ := Cf (ps := jg f x) h
   exact nr i h2
theorem kQ {is : List Nat} {m : Nat} {h' : List Blk} (hp : AllP (mapP (fwd is m) h')) : ∀ (b : Nat) (xs : List Blk), l6 is m h' b xs = eZ is m h' b xs
 | _, [] => rfl
 | b, x :: xs => by
  simp only [l6, eZ, kQ hp (b + 1) xs]
  cases idx b 0 is with
  | none => rfl
  | some i => simp only [fJ (pX i hp)]
def putX (is : List Nat) (h' : List Blk) (H : List Blk) : List Blk := l6 is H.length h' 0 H ++ mapX (fwd is H.length) (h'.drop is.length)
theorem xC {is : List Nat} {h' H : List Blk} (hp : AllP (mapP (fwd is H.length) h')) : putX is h' H = mu is h' H := by
 unfold putX mu
 rw [kQ hp, sM (nr _ hp)]
def sN (is : List Nat) (h0 h0' H : List Blk) : Bool := pV is && is.all (fun i => decide (i < H.length)) && (h0.all (fun x => !gI x) && h0'.all (fun x => !gI x))
theorem Ev.frameX {P : Program} {Γ : ah} {f : FuncId} {args0 args : List D} {h0 h0' H : List Blk} {d0 : D} (is : List Nat) (he : Ev P Γ f args0 h0 d0 h0') (hk : sN is h0 h0' H = true)
  (ha : Am (inv is) args = args0) (hh : uV is H is = h0) (p1 : AllP (xB is H is)) (p2 : AllP (mapP (fwd is H.length) h0')) : Ev P Γ f args H (d0.mapR (fwd is H.length)) (putX is h0' H) := by
 simp only [sN, zd] at hk
 rw [xC p2]
 refine Ev.frame is he (kP hk.1.1) (fun i hi => ?_) ha ?_ (by rw [hk.2.1, hk.2.2]; rfl)
 ·have := zJ.1 hk.1.2 i hi
  simpa using this
 ·rw [← hh, pW p1]; rfl
end Go.Vi
namespace Go.Vi
open Go
def GLe (Γ Γ' : ah) : Prop := ∀ g cs, Γ g = some cs → Γ' g = some cs
theorem GLe.none (Γ' : ah) : GLe (fun _ => Option.none) Γ' := fun _ _ h => by simp at h
theorem Rep.less {Γ Γ' : ah} {O : Nat → Prop} {w : World} {l : Loc} {h : List Blk} (hg : GLe Γ Γ') (R : Rep Γ' O w l h) : Rep Γ O w l h :=
 ⟨R.inb, R.obd, R.inj, R.blk, fun g cs h => R.glo g cs (hg g cs h)⟩
theorem Rep.more {Γ Γ' : ah} {O : Nat → Prop} {w w' : World} {l l' : Loc} {h h' : List Blk} (R : Rep Γ' O w l h) (E : Ext w l h w' l' h') (R' : Rep Γ O w' l' h') : Rep Γ' O w' l' h' :=
 ⟨R'.inb, R'.obd, R'.inj, R'.blk, fun g cs hg => CY E.hc g 0 cs (R.glo g cs hg)⟩
theorem Ev.glob {P : Program} {Γ Γ' : ah} (hg : GLe Γ Γ') {f : FuncId} {args : List D} {h h' : List Blk} {d : D} (he : Ev P Γ f args h d h') : Ev P Γ' f args h d h' := by
 intro O w l vs R ra
 refine AM (he O w l vs (R.less hg) ra) ?_
 rintro e w' ⟨v, d2, h2, l', rfl, hq, R', E', rd⟩
 exact ⟨v, d2, h2, l', rfl, hq, R.more E' R', E', rd⟩
theorem Ev.glob0 {P : Program} {Γ' : ah} {f : FuncId} {args : List D} {h h' : List Blk} {d : D} (he : Ev P (fun _ => none) f args h d h') : Ev P Γ' f args h d h' := he.glob (GLe.none Γ')
end Go.Vi
namespace Go.Vi
open Go
mutual
def D.nilW : D → D
 | .p (.v (.slice none 0 0)) => .p (.sl [])
 | .agg cs => .agg (D.nilWL cs)
 | .tup cs => .tup (D.nilWL cs)
 | d => d
def D.nilWL : List D → List D
 | [] => []
 | d :: ds => D.nilW d :: D.nilWL ds
end
mutual
theorem pY {w : World} {av : Nat → Prop} {l : Loc} {h : List Blk} : ∀ (d : D) (y : Value), Rel w av l h d y → Rel w av l h (D.nilW d) y
 | .p x, y, r => by
  unfold D.nilW
  split
  ·rename_i hx
   simp only [D.p.injEq] at hx
   subst hx
   simp only [Rel, RelP] at r ⊢
   exact .inl ⟨trivial, none, 0, r, fun _ => rfl⟩
  ·rename_i hx; cases hx
  ·rename_i hx; cases hx
  ·exact r
 | .agg cs, y, r => by
  simp only [D.nilW, Rel] at r ⊢
  obtain ⟨vs, r1, r2⟩ := r
  exact ⟨vs, r1, jw cs vs.toList r2⟩
 | .tup cs, y, r => by
  simp only [D.nilW, Rel] at r ⊢
  obtain ⟨vs, r1, r2⟩ := r
  exact ⟨vs, r1, jw cs vs.toList r2⟩
 | .any, _, r => r
 | .ref _, _, r => r
 | .ep _, _, r => r
 | .csl _, _, r => r
 | .fn _ _ _, _, r => r
 | .grd _ _, _, r => r
theorem jw {w : World} {av : Nat → Prop} {l : Loc} {h : List Blk} : ∀ (ds : List D) (ys : List Value), RelL w av l h ds ys → RelL w av l h (D.nilWL ds) ys
 | [], [], _ => trivial
 | [], _ :: _, r => by simp [RelL] at r
 | _ :: _, [], r => by simp [RelL] at r
 | d :: ds, y :: ys, r => by
  simp only [RelL, D.nilWL] at r ⊢
  exact ⟨pY d y r.1, jw ds ys r.2⟩
end
theorem Ev.nilW {P : Program} {Γ : ah} {f : FuncId} {args : List D} {h h' : List Blk} {d : D} (he : Ev P Γ f args h d h') : Ev P Γ f args h d.nilW h' := by
 intro O w l vs R ra
 refine AM (he O w l vs R ra) ?_
 rintro e w' ⟨v, d2, h2, l', rfl, ⟨rfl, rfl⟩, R', E', rd⟩
 exact ⟨v, _, _, l', rfl, ⟨rfl, rfl⟩, R', E', pY _ _ rd⟩
end Go.Vi
namespace Go.Vi
open Go
theorem jx {sz : Nat} : ∀ (es : List (List D)) (n : Nat) (row : List D), (∀ r ∈ es, r.length = sz) → es[n]? = some row → ∃ rest, es.flatten.drop (n * sz) = row ++ rest
 | [], n, row, _, h => by simp at h
 | e :: es, 0, row, hs, h => by
  simp at h; subst h
  exact ⟨es.flatten, by simp⟩
 | e :: es, n + 1, row, hs, h => by
  simp only [AD] at h
  obtain ⟨rest, hr⟩ := jx es n row (fun r hr => hs r (by simp [hr])) h
  refine ⟨rest, ?_⟩
  have he : e.length = sz := hs e (by simp)
  rw [Af, List.drop_append_of_le_length' e es.flatten n sz he, hr]
where
 List.drop_append_of_le_length' (e t : List D) (n sz : Nat) (he : e.length = sz) : (e ++ t).drop ((n + 1) * sz) = t.drop (n * sz) := by
  rw [show (n + 1) * sz = e.length + n * sz by rw [he, Bt]; omega, Db]
  simp
theorem jy {sz : Nat} : ∀ (es : List (List D)) (n : Nat) (new : List D), (∀ r ∈ es, r.length = sz) → new.length = sz → n < es.length → bu es.flatten (n * sz) new = (es.set n new).flatten
 | [], n, new, _, _, h => by simp at h
 | e :: es, 0, new, hs, hn, _ => by
  have he : e.length = sz := hs e (by simp)
  simp [bu, hn, ← he]
 | e :: es, n + 1, new, hs, hn, h => by
  have he : e.length = sz := hs e (by simp)
  have ih := jy es n new (fun r hr => hs r (by simp [hr])) hn (by simpa using h)
  simp only [List.set_cons_succ, Af, ← ih]
  unfold bu
  have e1 : (n + 1) * sz = e.length + n * sz := by rw [he, Bt]; omega
  rw [e1, List.take_append, Db]
  have h1 : List.take (e.length + n * sz) e = e := List.take_of_length_le (by omega)
  have h2 : List.drop (e.length + n * sz + new.length) e = [] := Ch (by omega)
  rw [h1, h2]
  have h3 : e.length + n * sz - e.length = n * sz := by omega
  have h4 : e.length + n * sz + new.length - e.length = n * sz + new.length := by omega
  rw [h3, h4]
  simp [List.append_assoc]
theorem iD {sz : Nat} : ∀ (es : List (List D)), (∀ r ∈ es, r.length = sz) → es.flatten.length = es.length * sz
 | [], _ => by simp
 | e :: es, hs => by
  rw [Af, List.length_append, iD es (fun r hr => hs r (by simp [hr])), hs e (by simp), List.length_cons, Bt]; omega
section
variable {P : Program} {h : List Blk} {b sz : Nat} {es : List (List D)}
theorem uW {ty : TypeId} (ha : wn P ty = some true) (hz : szOf P ty = some sz) (hb : h[b]? = some (.var es.flatten)) (hs : ∀ r ∈ es, r.length = sz) {n : Nat} {row : List D} (hn : es[n]? = some row) : bw P h ty (.ref (.ptr b (n * sz))) = some (.agg row) := by
 obtain ⟨rest, hr⟩ := jx es n row hs hn
 have hl : row.length = sz := hs row (zL hn)
 unfold bw
 simp only [hb, hr, dj, ha, hz]
 rw [if_pos (by simp; omega), ← hl]
 simp
theorem ns {ty : TypeId} (ha : wn P ty = some false) (hz : szOf P ty = some 1) (hb : h[b]? = some (.var es.flatten)) (hs : ∀ r ∈ es, r.length = sz) {n j : Nat} {row : List D} {d : D} (hn : es[n]? = some row) (hj : row[j]? = some d) : bw P h ty (.ref (.ptr b (n * sz + j))) = some d := by
 obtain ⟨rest, hr⟩ := jx es n row hs hn
 unfold bw
 have : es.flatten.drop (n * sz + j) = (row ++ rest).drop j := by rw [← hr, List.drop_drop]
 simp only [hb, this, dj, ha, hz]
 rw [List.head?_drop]
 have hlt := (zc.1 hj).1
 rw [zy hlt, hj]
theorem uX {ty : TypeId} (ha : wn P ty = some true) {cs : List D} (hz : szOf P ty = some cs.length) (hb : h[b]? = some (.var cs)) : bw P h ty (.ref (.ptr b 0)) = some (.agg cs) := by
 unfold bw
 simp only [hb, List.drop_zero, dj, ha, hz]
 simp
theorem jz {ty : TypeId} {x : D} {new : List D} (hx : x.cells = some new) (hz : szOf P ty = some sz) (hl : new.length = sz) (hb : h[b]? = some (.var es.flatten)) (hs : ∀ r ∈ es, r.length = sz) {n : Nat} (hn : n < es.length) : bA P h ty (.ref (.ptr b (n * sz))) x = some (h.set b (.var (es.set n new).flatten)) := by
 unfold bA
 simp only [hx, hz, hl, hb]
 have : (n + 1) * sz ≤ es.length * sz := Nat.mul_le_mul_right _ hn
 rw [Bt] at this
 rw [if_pos trivial, if_pos (by rw [iD es hs]; omega), jy es n new hs hl hn]
theorem sO {ty : TypeId} {x : D} {new cs : List D} (hx : x.cells = some new) (hz : szOf P ty = some new.length) (hl : cs.length = new.length) (hb : h[b]? = some (.var cs)) : bA P h ty (.ref (.ptr b 0)) x = some (h.set b (.var new)) := by
 unfold bA
 simp only [hx, hz, hb]
 rw [if_pos trivial, if_pos (by omega)]
 have : List.drop new.length cs = [] := Ch (by omega)
 simp [bu, this]
end
end Go.Vi
namespace Go.Vi
open Go
def xD (fn : Func) : Code := match fn.body with
 | some c => c
 | none => .skip
theorem Ev.of_cw {P : Program} {Γ : ah} {f : FuncId} {args : List D} {h h' : List Blk} {fn : Func} {d : D} {e : Exit} {s : AS} (hf : P.funcs[f]? = some fn) (hb : fn.body.isSome = true)
  (hw : CW P Γ h false (xD fn) { t := dc fn args, h := h, m := [] } e s) (hs : finF P h fn (some ((e, s, []), [])) = some (d, h', [], [])) : Ev P Γ f args h d h' := by
 cases hc : fn.body with
 | none => rw [hc] at hb; simp at hb
 | some c =>
  unfold xD at hw
  rw [hc] at hw
  refine sK (r := some ((e, s, []), [])) (φ := []) hf hc ?_ hs trivial
  intro e1 s1 as1 φ1 h1 _
  simp only [y5, Prod.mk.injEq] at h1
  obtain ⟨⟨rfl, rfl, _⟩, _⟩ := h1
  exact hw
end Go.Vi
namespace Go.Vi
open Go
def Ref.up (k : Nat) : Ref → Ref
 | .vec b e => .vec b (e + k)
 | .vs b e i n c => .vs b (e + k) i n c
 | .vp b e i j => .vp b (e + k) i j
 | r => r
def Ref.dn (k : Nat) : Ref → D
 | .vec b e => match decide (k ≤ e) with
  | true => .ref (.vec b (e - k))
  | false => .any
 | .vs b e i n c => match decide (k ≤ e) with
  | true => .ref (.vs b (e - k) i n c)
  | false => .any
 | .vp b e i j => match decide (k ≤ e) with
  | true => .ref (.vp b (e - k) i j)
  | false => .any
 | r => .ref r
def upR (ks : List Nat) (r : Ref) : D := .ref (r.up (ks.getD r.blk 0))
def dnR (ks : List Nat) (r : Ref) : D := r.dn (ks.getD r.blk 0)
theorem Ref.up_blk (k : Nat) (r : Ref) : (r.up k).blk = r.blk := by cases r <;> rfl
theorem dn_up (ks : List Nat) (r : Ref) : Al (dnR ks) (upR ks r) = .ref r := by
 simp only [upR, Al, dnR, Ref.up_blk]
 cases r <;> simp [Ref.up, Ref.dn]
def Blk.up (k : Nat) : Blk → Blk
 | .vec es e sz => .vec es (e + k) sz
 | x => x
def nY (ks : List Nat) : Nat → List Blk → List Blk
 | _, [] => []
 | i, x :: xs => (x.mapR (upR ks)).up (ks.getD i 0) :: nY ks (i + 1) xs
theorem bq (ks : List Nat) : ∀ (i : Nat) (h : List Blk) (j : Nat), (nY ks i h)[j]? = (h[j]?).map fun x => (x.mapR (upR ks)).up (ks.getD (i + j) 0)
 | i, [], j => by simp [nY]
 | i, x :: xs, 0 => by simp [nY]
 | i, x :: xs, j + 1 => by
  simp only [nY, AD]
  rw [bq ks (i + 1) xs j, show i + 1 + j = i + (j + 1) by omega]
mutual
theorem l7 {f g : Ref → D} (h : ∀ r, Al g (f r) = .ref r) : ∀ d : D, Al g (Al f d) = d
 | .p _ => rfl
 | .any => rfl
 | .ref r => by simp only [Al]; exact h r
 | .ep _ => rfl
 | .csl _ => rfl
 | .fn _ a b => by simp only [Al]; rw [bX h a, bX h b]
 | .agg cs => by simp only [Al]; rw [bX h cs]
 | .tup cs => by simp only [Al]; rw [bX h cs]
 | .grd _ d => by simp only [Al]; rw [l7 h d]
theorem bX {f g : Ref → D} (h : ∀ r, Al g (f r) = .ref r) : ∀ ds : List D, Am g (Am f ds) = ds
 | [] => rfl
 | d :: ds => by simp only [Am]; rw [l7 h d, bX h ds]
end
theorem xE {f g : Ref → D} (h : ∀ r, Al g (f r) = .ref r) (x : Blk) : (x.mapR f).mapR g = x := by
 cases x <;> simp only [AP]
 ·rw [bX h]
 ·rename_i es e sz
  congr 1
  rw [List.map_map]
  have : (Am g ∘ Am f) = id := by funext ds; exact bX h ds
  rw [this, List.map_id]
 ·rename_i kvs clock
  congr 1
  rw [List.map_map]
  have : ((fun e : D × D × Nat => (Al g e.1, Al g e.2.1, e.2.2)) ∘ fun e => (Al f e.1, Al f e.2.1, e.2.2)) = id := by
   funext e; simp only [Function.comp, l7 h, id]
  rw [this, List.map_id]
 ·rw [bX h]
theorem gK {k : Nat} {f : Ref → D} {x : Blk} : (x.mapR f).up k = .gone ↔ x = .gone := by cases x <;> simp [AP, Blk.up]
theorem pZ {w : World} {av : Nat → Prop} {l : Loc} {h : List Blk} {b k : Nat} {x : Blk} : BlkOk w av l h b (x.up k) ↔ BlkOk w av l h b x := by cases x <;> rfl
section
variable {l : Loc} {h : List Blk} {ks : List Nat} {w : World} {av : Nat → Prop} {y : Value}
theorem kR {k : Nat} : own l (nY ks 0 h) k ↔ own l h k := by
 constructor
 ·rintro ⟨b, x, cp, h1, h2, h3⟩
  rw [bq] at h1
  cases hx : h[b]? with
  | none => rw [hx] at h1; simp at h1
  | some z =>
   rw [hx] at h1
   simp only [zP, y5] at h1
   subst h1
   exact ⟨b, z, cp, hx, fun e => h2 (gK.2 e), h3⟩
 ·rintro ⟨b, x, cp, h1, h2, h3⟩
  exact ⟨b, (x.mapR (upR ks)).up (ks.getD (0 + b) 0), cp, by rw [bq, h1]; rfl, fun e => h2 (gK.1 e), h3⟩
theorem jA {O : Nat → Prop} {k : Nat} : avs O l (nY ks 0 h) k ↔ avs O l h k := or_congr Iff.rfl kR
theorem wC {r : Ref} (rr : RefRel l (nY ks 0 h) r y) : Rel w av l h (dnR ks r) y := by
 obtain ⟨x, hx⟩ := dY rr
 rw [bq] at hx
 cases hz : h[r.blk]? with
 | none => rw [hz] at hx; simp at hx
 | some z =>
  have key : (nY ks 0 h)[r.blk]? = some ((z.mapR (upR ks)).up (ks.getD r.blk 0)) := by rw [bq, hz]; simp
  unfold RefRel at rr
  obtain ⟨h1, rr⟩ := rr
  unfold dnR
  generalize ks.getD r.blk 0 = k at key ⊢
  cases r with
  | vec b e =>
   simp only [B2] at hz key
   simp only [key] at rr
   simp only [Ref.dn]
   cases z <;> simp only [AP, Blk.up] at rr
   ·split
    ·rename_i hk
     simp only [decide_eq_true_eq] at hk
     simp only [Rel]
     unfold RefRel
     simp only [hz]
     exact ⟨h1, by omega, fun e => by simpa using rr.2 (by omega)⟩
    ·simp [Rel]
   ·split
    ·simp only [Rel]
     unfold RefRel
     simp only [hz]
     exact ⟨h1, trivial⟩
    ·simp [Rel]
  | vs b e i n c =>
   simp only [B2] at hz key
   simp only [key] at rr
   simp only [Ref.dn]
   cases z <;> simp only [AP, Blk.up] at rr
   ·split
    ·rename_i hk
     simp only [decide_eq_true_eq] at hk
     simp only [Rel]
     unfold RefRel
     simp only [hz]
     exact ⟨h1, by omega, fun e => by simpa using rr.2 (by omega)⟩
    ·simp [Rel]
   ·split
    ·simp only [Rel]
     unfold RefRel
     simp only [hz]
     exact ⟨h1, trivial⟩
    ·simp [Rel]
  | vp b e i j =>
   simp only [B2] at hz key
   simp only [key] at rr
   simp only [Ref.dn]
   cases z <;> simp only [AP, Blk.up] at rr
   ·split
    ·rename_i hk
     simp only [decide_eq_true_eq] at hk
     simp only [Rel]
     unfold RefRel
     simp only [hz]
     exact ⟨h1, by omega, fun e => by simpa using rr.2 (by omega)⟩
    ·simp [Rel]
   ·split
    ·simp only [Rel]
     unfold RefRel
     simp only [hz]
     exact ⟨h1, trivial⟩
    ·simp [Rel]
  | _ =>
   simp only [B2] at hz key
   simp only [key] at rr
   simp only [Ref.dn, Rel]
   unfold RefRel
   simp only [hz]
   refine ⟨h1, ?_⟩
   cases z <;> simp only [AP, Blk.up] at rr <;> exact rr
theorem wD {r : Ref} (rr : RefRel l h r y) : Rel w av l (nY ks 0 h) (upR ks r) y := by
 obtain ⟨z, hz⟩ := dY rr
 have key : (nY ks 0 h)[r.blk]? = some ((z.mapR (upR ks)).up (ks.getD r.blk 0)) := by rw [bq, hz]; simp
 unfold RefRel at rr
 obtain ⟨h1, rr⟩ := rr
 unfold upR
 simp only [Rel]
 generalize ks.getD r.blk 0 = k at key ⊢
 unfold RefRel
 refine ⟨h1, ?_⟩
 cases r <;> simp only [B2] at hz key <;> simp only [hz] at rr <;> simp only [Ref.up, key] <;> cases z <;> simp only [AP, Blk.up] <;> simp only at rr <;>
  first
  | exact rr
  | exact ⟨by omega, fun e => by simpa using rr.2 (by omega)⟩
end
theorem le_up {f g : Ref → D} {k : Nat} {x y : Blk} (h : x.le y) : ((x.mapR f).up k).le ((y.mapR g).up k) ∧ (((x.mapR f).up k).stays ((y.mapR g).up k) → x.stays y) := by
 cases x <;> cases y <;> simp only [Blk.le] at h <;> simp_all [Blk.le, AP, Blk.stays, Blk.up]
theorem Ev.up {P : Program} {Γ : ah} {f : FuncId} {args : List D} {h h' : List Blk} {d : D} (ks : List Nat) (he : Ev P Γ f args h d h') (hm : (h.all (fun x => !gI x) && h'.all (fun x => !gI x)) = true) :
  Ev P Γ f (Am (upR ks) args) (nY ks 0 h) (d.mapR (upR ks)) (nY ks 0 h') := by
 simp only [zd] at hm
 intro O w l vs R ra
 have hO : ∀ k, avs O l h k → avs O l (nY ks 0 h) k := fun k => jA.2
 have R0 : Rep Γ O w l h := by
  refine ⟨fun k ho => R.inb k (kR.2 ho), R.obd, fun b b' x x' k c c' h1 h2 h3 h4 h5 h6 => ?_, fun b x hx => ?_, fun g cs hg => au (fun k hk => jA.2 hk) (R.glo g cs hg)⟩
  ·exact R.inj b b' _ _ k c c' (by rw [bq, h1]; rfl) (fun e => h2 (gK.1 e)) (by rw [bq, h3]; rfl) (fun e => h4 (gK.1 e)) h5 h6
  ·have hb := pZ.1 (R.blk b ((x.mapR (upR ks)).up (ks.getD (0 + b) 0)) (by rw [bq, hx]; rfl))
   have := dX (l' := l) (h' := h) (b' := b) (f := dnR ks) (fun k hk => jA.2 hk) (fun r y rr => wC rr) rfl (by
    have := zJ.1 hm.1 x (zL hx)
    rw [kN]; simpa using this) hb
   rw [xE (dn_up ks)] at this
   exact this
 have ra0 : RelL w (avs O l h) l h args vs := by
  have := bc (av' := avs O l h) (l' := l) (h' := h) (f := dnR ks) (fun k hk => jA.2 hk) (fun r y rr => wC rr) ra
  rw [bX (dn_up ks)] at this
  exact this
 refine AM (he O w l vs R0 ra0) ?_
 rintro e w' ⟨v, d2, h2, l', rfl, ⟨rfl, rfl⟩, R', E', rd⟩
 refine ⟨v, _, _, l', rfl, ⟨rfl, rfl⟩, ⟨fun k ho => R'.inb k (kR.1 ho), R'.obd, fun b b' x x' k c c' h1 h2' h3 h4 h5 h6 => ?_, fun b x hx => ?_, fun g cs hg => au (fun k hk => jA.1 hk) (R'.glo g cs hg)⟩,
  ⟨E'.size, fun blk hlt hno => E'.same blk hlt (fun ho => hno (kR.2 ho)), fun blk ho => (E'.news blk (kR.1 ho)).imp kR.2 id, fun b x hx => ?_, E'.tape⟩, ?_⟩
 ·rw [bq] at h1 h3
  cases hx : h2[b]? with
  | none => rw [hx] at h1; simp at h1
  | some z =>
   cases hx' : h2[b']? with
   | none => rw [hx'] at h3; simp at h3
   | some z' =>
    rw [hx] at h1; rw [hx'] at h3
    simp only [zP, y5] at h1 h3
    subst h1; subst h3
    exact R'.inj b b' z z' k c c' hx (fun e => h2' (gK.2 e)) hx' (fun e => h4 (gK.2 e)) h5 h6
 ·rw [bq] at hx
  cases hz : h2[b]? with
  | none => rw [hz] at hx; simp at hx
  | some z =>
   rw [hz] at hx
   simp only [zP, y5] at hx
   subst hx
   refine pZ.2 (dX (l' := l') (b' := b) (fun k hk => jA.1 hk) (fun r y rr => wD rr) rfl ?_ (R'.blk b z hz))
   have := zJ.1 hm.2 z (zL hz)
   simpa using this
 ·rw [bq] at hx
  cases hz : h[b]? with
  | none => rw [hz] at hx; simp at hx
  | some z =>
   rw [hz] at hx
   simp only [zP, y5] at hx
   subst hx
   obtain ⟨x', k1, k2, k3⟩ := E'.keep b z hz
   obtain ⟨g1, g2⟩ := le_up (f := upR ks) (g := upR ks) (k := ks.getD (0 + b) 0) k2
   exact ⟨_, by rw [bq, k1]; rfl, g1, fun hs => k3 (g2 hs)⟩
 ·exact dI (fun k hk => jA.1 hk) (fun r y rr => wD rr) rd
def upHX (ks : List Nat) : Nat → List Blk → List Blk
 | _, [] => []
 | i, x :: xs => (keepX (upR ks) x).up (ks.getD i 0) :: upHX ks (i + 1) xs
theorem oB {ks : List Nat} : ∀ {i : Nat} {h : List Blk}, AllP (mapP (upR ks) h) → upHX ks i h = nY ks i h
 | _, [], _ => rfl
 | i, x :: xs, hp => by
  obtain ⟨h1, h2⟩ := Cf (ps := jg (upR ks) x) hp
  simp only [upHX, nY, fJ h1, oB h2]
theorem Ev.upX {P : Program} {Γ : ah} {f : FuncId} {args : List D} {h h' : List Blk} {d : D} (ks : List Nat) (he : Ev P Γ f args h d h') (hm : (h.all (fun x => !gI x) && h'.all (fun x => !gI x)) = true) (p1 : AllP (mapP (upR ks) h)) (p2 : AllP (mapP (upR ks) h')) :
  Ev P Γ f (Am (upR ks) args) (upHX ks 0 h) (d.mapR (upR ks)) (upHX ks 0 h') := by
 rw [oB p1, oB p2]; exact Ev.up ks he hm
end Go.Vi
namespace Go.Vi
open Go
section
variable {P : Program} {Γ : ah} {O : Nat → Prop} {w : World} {l : Loc} {h : List Blk}
variable {X : Ctx} {r : Option Nat}
abbrev births (l : List (D × D × Nat)) : List Nat := l.map fun e => e.2.2
end
end Go.Vi
namespace Go.Vi
open Go
def sameBlk : Blk → Blk → Bool
 | .var a, .var b => ij a b
 | .vec a e s, .vec b e' s' => sameLL a b && (decide (e = e') && decide (s = s'))
 | .map a c, .map b c' => sameKV a b && decide (c = c')
 | .gone, .gone => true
 | .defd, .defd => true
 | .mit (some a) b c d, .mit (some a') b' c' d' => (decide (a = a') && decide (b = b')) && (decide (c = c') && decide (d = d'))
 | .mit none b c d, .mit none b' c' d' => decide (b = b') && (decide (c = c') && decide (d = d'))
 | _, _ => false
where
 sameLL : List (List D) → List (List D) → Bool
  | [], [] => true
  | a :: as, b :: bs => ij a b && sameLL as bs
  | _, _ => false
 sameKV : List (D × D × Nat) → List (D × D × Nat) → Bool
  | [], [] => true
  | (k, d, n) :: as, (k', d', n') :: bs => (sameD k k' && sameD d d') && (decide (n = n') && sameKV as bs)
  | _, _ => false
def oC : List Blk → List Blk → Bool
 | [], [] => true
 | a :: as, b :: bs => sameBlk a b && oC as bs
 | _, _ => false
theorem nt : ∀ {a b : List (List D)}, sameBlk.sameLL a b = true → a = b
 | [], [], _ => rfl
 | a :: as, b :: bs, h => by simp only [sameBlk.sameLL, zd] at h; rw [sameL_eq h.1, nt h.2]
 | [], _ :: _, h => by simp [sameBlk.sameLL] at h
 | _ :: _, [], h => by simp [sameBlk.sameLL] at h
theorem nu : ∀ {a b : List (D × D × Nat)}, sameBlk.sameKV a b = true → a = b
 | [], [], _ => rfl
 | (k, d, n) :: as, (k', d', n') :: bs, h => by
  simp only [sameBlk.sameKV, zd, decide_eq_true_eq] at h
  rw [eL h.1.1, eL h.1.2, h.2.1, nu h.2.2]
 | [], _ :: _, h => by simp [sameBlk.sameKV] at h
 | _ :: _, [], h => by simp [sameBlk.sameKV] at h
theorem qY {a b : Blk} (h : sameBlk a b = true) : a = b := by
 unfold sameBlk at h
 split at h
 ·rw [sameL_eq h]
 ·simp only [zd, decide_eq_true_eq] at h; rw [nt h.1, h.2.1, h.2.2]
 ·simp only [zd, decide_eq_true_eq] at h; rw [nu h.1, h.2]
 ·rfl
 ·rfl
 ·simp only [zd, decide_eq_true_eq] at h; rw [h.1.1, h.1.2, h.2.1, h.2.2]
 ·simp only [zd, decide_eq_true_eq] at h; rw [h.1, h.2.1, h.2.2]
 ·cases h
theorem l8 : ∀ {a b : List Blk}, oC a b = true → a = b
 | [], [], _ => rfl
 | a :: as, b :: bs, h => by simp only [oC, zd] at h; rw [qY h.1, l8 h.2]
 | [], _ :: _, h => by simp [oC] at h
 | _ :: _, [], h => by simp [oC] at h
structure Memo where
 f : FuncId
 args : List D
 h : List Blk
 r : CR
def Memo.hit (m : Memo) (f : FuncId) (args : List D) (h : List Blk) : Bool := match Nat.beq m.f f with
 | true => match ij m.args args with
  | true => oC m.h h
  | false => false
 | false => false
def sP : List Memo → FnF
 | [], _, _, _ => none
 | m :: ms, f, args, h => match m.hit f args h with
  | true => some m.r
  | false => sP ms f args h
def Memo.Ok (P : Program) (Γ : ah) (m : Memo) : Prop := ef P m.f = true ∧ VRes P Γ m.f m.args m.h m.r
def oD (P : Program) (Γ : ah) : List Memo → Prop
 | [] => True
 | m :: ms => m.Ok P Γ ∧ oD P Γ ms
theorem Memo.hit_eq {m : Memo} {f : FuncId} {args : List D} {h : List Blk} (hh : m.hit f args h = true) : m.f = f ∧ m.args = args ∧ m.h = h := by
 unfold Memo.hit at hh
 split at hh
 ·rename_i h1
  split at hh
  ·rename_i h2
   exact ⟨DX h1, sameL_eq h2, l8 hh⟩
  ·cases hh
 ·cases hh
theorem qb {P : Program} {Γ : ah} : ∀ {ms : List Memo}, oD P Γ ms → ux P Γ (sP ms)
 | [], _, _, _, _, _, h => by simp [sP] at h
 | m :: ms, hm, f, args, h, r, hw => by
  simp only [sP] at hw
  split at hw
  ·rename_i hh
   obtain ⟨rfl, rfl, rfl⟩ := Memo.hit_eq hh
   cases hw
   exact hm.1
  ·exact qb hm.2 _ _ _ _ hw
def sQ : CR → CR → Bool
 | .ret d h, .ret d' h' => sameD d d' && oC h h'
 | _, _ => false
theorem sR {a b : CR} (h : sQ a b = true) : a = b := by
 unfold sQ at h
 split at h
 ·simp only [zd] at h; rw [eL h.1, l8 h.2]
 ·cases h
theorem Memo.call {P : Program} {Γ : ah} {m : Memo} {d : D} {h' : List Blk} (hm : m.Ok P Γ) (hr : m.r = .ret d h') : VCall P Γ m.f m.args m.h fun d2 h2 => d2 = d ∧ h2 = h' := by
 have := hm.2
 rw [hr] at this
 exact this.call
def orW (a b : FnF) : FnF := fun f x h => match a f x h with
 | some r => some r
 | none => b f x h
theorem orW_ok {P : Program} {Γ : ah} {a b : FnF} (ha : ux P Γ a) (hb : ux P Γ b) : ux P Γ (orW a b) := by
 intro f x h r hw
 unfold orW at hw
 split at hw
 ·rename_i r' he; cases hw; exact ha _ _ _ _ he
 ·exact hb _ _ _ _ hw
def Memo.runsW (P : Program) (Γ : ah) (W : FnF) (ms : List Memo) (m : Memo) : Bool := match ef P m.f, j7 P Γ (orW W (sP ms)) 100000 m.f m.args m.h with
 | true, some r => sQ r m.r
 | _, _ => false
theorem Memo.okW_of {P : Program} {Γ : ah} (ok : POk P) {W : FnF} (hW : ux P Γ W) {ms : List Memo} {m : Memo} (hr : m.runsW P Γ W ms = true) (hm : oD P Γ ms) : m.Ok P Γ := by
 unfold Memo.runsW at hr
 split at hr
 ·rename_i r h1 h2
  refine ⟨h1, ?_⟩
  rw [← sR hr]
  exact VRes.of_run ok (orW_ok hW (qb hm)) h2
 ·cases hr
end Go.Vi
namespace Go.Vi
open Go
def cg : List D → Option (List Dp)
 | [] => some []
 | .p x :: ds => match cg ds with
  | some xs => some (x :: xs)
  | none => none
 | _ => none
def fU : List (List D) → Option (List (List Dp))
 | [] => some []
 | r :: rs => match cg r, fU rs with
  | some x, some xs => some (x :: xs)
  | _, _ => none
def frzV (d : D) (e : Nat) : Option Blk → D
 | some (.vec es e' _) => match Nat.beq e' e, fU es with
  | true, some rows => .p (.sl rows)
  | _, _ => d
 | _ => d
mutual
def jB (h : List Blk) : D → D
 | .ref (.vec b e) => frzV (.ref (.vec b e)) e h[b]?
 | .agg cs => .agg (uz h cs)
 | d => d
def uz (h : List Blk) : List D → List D
 | [] => []
 | d :: ds => jB h d :: uz h ds
end
mutual
def gL : D → Bool
 | .p (.v _) => true
 | .agg cs => oE cs
 | .tup cs => oE cs
 | _ => false
def oE : List D → Bool
 | [] => true
 | d :: ds => gL d && oE ds
end
theorem kS : ∀ {ds : List D} {xs : List Dp}, cg ds = some xs → ds = xs.map .p
 | [], xs, h => by simp only [cg, y5] at h; subst h; rfl
 | .p x :: ds, xs, h => by
  simp only [cg] at h
  split at h
  ·rename_i ys h1
   simp only [y5] at h
   subst h
   rw [kS h1]; rfl
  ·simp at h
 | .any :: _, _, h => by simp [cg] at h
 | .ref _ :: _, _, h => by simp [cg] at h
 | .ep _ :: _, _, h => by simp [cg] at h
 | .csl _ :: _, _, h => by simp [cg] at h
 | .fn _ _ _ :: _, _, h => by simp [cg] at h
 | .agg _ :: _, _, h => by simp [cg] at h
 | .tup _ :: _, _, h => by simp [cg] at h
 | .grd _ _ :: _, _, h => by simp [cg] at h
theorem jC : ∀ {es : List (List D)} {xs : List (List Dp)}, fU es = some xs → es = xs.map (·.map .p)
 | [], xs, h => by simp only [fU, y5] at h; subst h; rfl
 | e :: es, xs, h => by
  simp only [fU] at h
  split at h
  ·rename_i y ys h1 h2
   simp only [y5] at h
   subst h
   rw [kS h1, jC h2]; rfl
  ·simp at h
section
variable {P : Program} {Γ : ah} {O : Nat → Prop} {w : World} {l : Loc} {h : List Blk}
def oG (l : Loc) (h : List Blk) (k : Nat) : Prop := ∃ (b : Nat) (rows : List (List Dp)) (e sz cap : Nat), h[b]? = some (.vec (rows.map (·.map D.p)) e sz) ∧ l b = some (k, cap)
theorem uY (R : Rep Γ O w l h) {b e : Nat} {y : Value} {rows : List (List Dp)} {sz : Nat} (hb : h[b]? = some (.vec (rows.map (·.map .p)) e sz)) (rr : RefRel l h (.vec b e) y) {av' : Nat → Prop} (ha : ∀ k, av' k → avs O l h k ∧ ¬ oG l h k) :
  RelP w av' (.sl rows) y := by
 have hk := R.blk _ _ hb
 unfold RefRel at rr
 simp only [hb] at rr
 have hv := rr.2.2 trivial
 unfold BlkOk at hk
 simp only at hk
 simp only [RelP]
 cases hl : l b with
 | none =>
  rw [hl] at hv hk
  simp only [jX] at hv hk
  exact .inl ⟨by simpa using hk, none, 0, hv.2, fun _ => rfl⟩
 | some p =>
  obtain ⟨blk, cap⟩ := p
  rw [hl] at hv hk
  simp only [jX] at hv hk
  obtain ⟨c, T, fr, ys, q1, q2, q3, q4, q5, q6, rest, q7⟩ := hk
  refine .inr ⟨blk, 0, cap, sz, by simpa using hv.1, by simpa using hv.2, ?_⟩
  have hcell : ¬ av' blk := fun ho => (ha blk ho).2 ⟨b, rows, e, sz, cap, hb, hl⟩
  refine gz rows 0 fun i e1 he1 => ?_
  have hlen : e1.length = sz := by
   have := q5 (e1.map .p) (zI.2 ⟨e1, zL he1, rfl⟩)
   simpa using this
  refine ⟨hlen, ff (l := l) (h := h) (av := avs O l h) (av' := av') (fun _ ho => (ha _ ho).1) hcell e1 _ ?_⟩
  rw [Nat.zero_add]
  exact (CellsAt.of_rel (loc := l) (h := h) q1 q7 q6).row q5 (by rw [Az, he1]; rfl)
mutual
theorem uZ (R : Rep Γ O w l h) {av' : Nat → Prop} (ha : ∀ k, av' k → avs O l h k ∧ ¬ oG l h k) : ∀ {d : D} {y : Value}, CT 0 (jB h d) = true → Rel w (avs O l h) l h d y → Rel w av' l [] (jB h d) y
 | .p _, _, _, r => by simp only [jB, Rel] at r ⊢; exact cX (fun k hk => (ha k hk).1) r
 | .any, _, _, _ => by simp [jB, Rel]
 | .ep _, _, _, r => by
  simp only [jB, Rel] at r ⊢
  obtain ⟨blk, off, r1, r2⟩ := r
  exact ⟨blk, off, r1, au (fun k hk => (ha k hk).1) r2⟩
 | .csl _, _, _, r => by
  simp only [jB, Rel] at r ⊢
  rcases r with r | ⟨blk, off, sz, r1, r2⟩
  ·exact .inl r
  ·exact .inr ⟨blk, off, sz, r1, bh (fun k hk => (ha k hk).1) r2⟩
 | .agg cs, _, hi, r => by
  simp only [jB, CT] at hi
  simp only [jB, Rel] at r ⊢
  obtain ⟨vs, r1, r2⟩ := r
  exact ⟨vs, r1, l9 R ha hi r2⟩
 | .ref (.vec b e), y, hi, r => by
  simp only [jB] at hi ⊢
  unfold frzV at hi ⊢
  split at hi
  ·rename_i es e' sz hb
   split at hi
   ·rename_i rows h1 h2
    have he := DX h1
    subst he
    rw [jC h2] at hb
    simp only [Rel]
    exact uY R hb (by simpa only [Rel] using r) ha
   ·simp [CT] at hi
  ·simp [CT] at hi
 | .ref (.ptr _ _), _, hi, _ => by simp [jB, CT] at hi
 | .ref (.vs _ _ _ _ _), _, hi, _ => by simp [jB, CT] at hi
 | .ref (.av _ _ _ _), _, hi, _ => by simp [jB, CT] at hi
 | .ref (.vp _ _ _ _), _, hi, _ => by simp [jB, CT] at hi
 | .ref (.mp _), _, hi, _ => by simp [jB, CT] at hi
 | .ref (.it _), _, hi, _ => by simp [jB, CT] at hi
 | .ref (.yl _), _, hi, _ => by simp [jB, CT] at hi
 | .fn f a b, _, hi, r => by
  have := cE (l := l) (h := h) (n := 0) (fun k hk => (ha k hk).1) (by simpa [jB] using hi) r
  simpa [jB] using this
 | .tup a, _, hi, r => by
  have := cE (l := l) (h := h) (n := 0) (fun k hk => (ha k hk).1) (by simpa [jB] using hi) r
  simpa [jB] using this
 | .grd g a, _, hi, r => by
  have := cE (l := l) (h := h) (n := 0) (fun k hk => (ha k hk).1) (by simpa [jB] using hi) r
  simpa [jB] using this
theorem l9 (R : Rep Γ O w l h) {av' : Nat → Prop} (ha : ∀ k, av' k → avs O l h k ∧ ¬ oG l h k) : ∀ {ds : List D} {ys : List Value}, D.innL 0 (uz h ds) = true → RelL w (avs O l h) l h ds ys → RelL w av' l [] (uz h ds) ys
 | [], [], _, _ => by simp [uz, RelL]
 | [], _ :: _, _, r => by simp [RelL] at r
 | _ :: _, [], _, r => by simp [RelL] at r
 | _ :: _, _ :: _, hi, r => by
  simp only [uz, D.innL, zd] at hi
  simp only [uz, RelL] at r ⊢
  exact ⟨uZ R ha hi.1 r.1, l9 R ha hi.2 r.2⟩
end
mutual
theorem qc {w' : World} {av av' : Nat → Prop} {l' : Loc} {h' : List Blk} : ∀ {d : D} {y : Value}, gL d = true → Rel w av l h d y → Rel w' av' l' h' d y
 | .p (.v _), _, _, r => by simpa [Rel, RelP] using r
 | .agg cs, _, hf, r => by
  simp only [gL] at hf
  simp only [Rel] at r ⊢
  obtain ⟨vs, r1, r2⟩ := r
  exact ⟨vs, r1, jD hf r2⟩
 | .tup cs, _, hf, r => by
  simp only [gL] at hf
  simp only [Rel] at r ⊢
  obtain ⟨vs, r1, r2⟩ := r
  exact ⟨vs, r1, jD hf r2⟩
 | .p (.sl _), _, hf, _ => by simp [gL] at hf
 | .any, _, hf, _ => by simp [gL] at hf
 | .ref _, _, hf, _ => by simp [gL] at hf
 | .ep _, _, hf, _ => by simp [gL] at hf
 | .csl _, _, hf, _ => by simp [gL] at hf
 | .fn _ _ _, _, hf, _ => by simp [gL] at hf
 | .grd _ _, _, hf, _ => by simp [gL] at hf
theorem jD {w' : World} {av av' : Nat → Prop} {l' : Loc} {h' : List Blk} : ∀ {ds : List D} {ys : List Value}, oE ds = true → RelL w av l h ds ys → RelL w' av' l' h' ds ys
 | [], [], _, _ => by simp [RelL]
 | [], _ :: _, _, r => by simp [RelL] at r
 | _ :: _, [], _, r => by simp [RelL] at r
 | _ :: _, _ :: _, hf, r => by
  simp only [oE, zd] at hf
  simp only [RelL] at r ⊢
  exact ⟨qc hf.1 r.1, jD hf.2 r.2⟩
end
theorem Ev.frzArgs {f : FuncId} {args : List D} {d : D} (hi : D.innL 0 (uz h args) = true) (hd : gL d = true) (he : Ev P Γ f (uz h args) [] d []) : Ev P Γ f args h d h := by
 intro O w l vs R ra
 have hav : ∀ l' k, avs (fun k => avs O l h k ∧ ¬ oG l h k) l' [] k → avs O l h k ∧ ¬ oG l h k := fun l' k ho => ho.elim id (fun h => absurd h c5)
 have R0 : Rep Γ (fun k => avs O l h k ∧ ¬ oG l h k) w l [] := by
  refine ⟨fun blk ho => absurd ho c5, fun blk ho => ?_, fun b b' x x' k c c' hb => by simp at hb, fun b x hb => by simp at hb, fun g cs hg => ?_⟩
  ·rcases ho.1 with ho | ho
   ·exact R.obd blk ho
   ·exact (R.inb blk ho).1
  ·exact au (fun k hk => (hav l k hk).1) (R.glo g cs hg)
 have ra0 := l9 (av' := avs (fun k => avs O l h k ∧ ¬ oG l h k) l []) R (fun k hk => hav l k hk) hi ra
 refine AM (he _ w l vs R0 ra0) ?_
 rintro e w' ⟨v, d2, h2, l', rfl, ⟨rfl, rfl⟩, R', E', rd⟩
 have E : Ext w l h w' l h := ⟨E'.size, fun blk hb _ => E'.same blk hb c5, fun blk ho => .inl ho, fun b x hx => ⟨x, hx, x.le_refl, fun _ => rfl⟩, E'.tape⟩
 refine ⟨v, d2, h, l, rfl, ⟨rfl, rfl⟩, ⟨fun blk ho => ⟨Bf (R.inb blk ho).1 E'.size, (R.inb blk ho).2⟩, fun blk ho => Bf (R.obd blk ho) E'.size, R.inj, fun b x hx => ?_, fun g cs hg => ?_⟩, E, qc hd rd⟩
 ·by_cases hg : x = .gone
  ·subst hg; trivial
  exact BlkOk.ext E rfl (fun blk cp hl => E'.same blk (R.inb blk ⟨b, x, cp, hx, hg, hl⟩).1 c5) (R.blk b x hx)
 ·exact CY E.hc g 0 cs (R.glo g cs hg)
theorem VRes.of_ev {f : FuncId} {args : List D} {d : D} {h' : List Blk} (he : Ev P Γ f args h d h') : VRes P Γ f args h (.ret d h') := by
 intro O w l vs R ra
 refine AM (he O w l vs R ra) ?_
 rintro e w' ⟨v, d2, h2, l', rfl, ⟨rfl, rfl⟩, R', E', rd⟩
 exact ⟨v, l', rfl, R', E', rd⟩
end
end Go.Vi
namespace Go.Vi
open Go
def Shp (P : Program) : Nat → TypeId → List Dp → Prop
 | 0, _, _ => False
 | n + 1, t, ds => match P.underlying t with
  | some .bool => ∃ b, ds = [.v (.bool b)]
  | some (.int k) => ∃ x, ds = [.v (.int k x)] ∧ (Lit.int k x).wf = true
  | some .string => ∃ s, ds = [.v (.string s)] ∧ s.size ≤ reachBytes
  | some (.slice e) => ∃ es, ds = [.sl es] ∧ es.length * P.bytesOf e ≤ reachBytes ∧ ∀ r ∈ es, Shp P n e r
  | some (.struct fs) => ds.length = P.cellsOf t ∧ ∀ f ∈ fs.toList, Shp P n f.type ((ds.drop f.offset).take (P.cellsOf f.type))
  | _ => False
def ci (P : Program) : List Field → Nat → Nat → Bool
 | [], acc, total => acc == total
 | f :: fs, acc, total => (f.offset == acc) && ci P fs (acc + P.cellsOf f.type) total
def qd (P : Program) (ts : List TypeId) : Bool := ts.all fun t => match P.underlying t with
 | some .bool | some (.int _) | some .string => true
 | some (.slice e) => ts.contains e && decide (0 < P.cellsOf e)
 | some (.struct fs) => ci P fs.toList 0 (P.cellsOf t) && fs.toList.all fun f => ts.contains f.type
 | _ => false
def RelPL (w : World) (av : Nat → Prop) : List Dp → List Value → Prop
 | [], [] => True
 | d :: ds, y :: ys => RelP w av d y ∧ RelPL w av ds ys
 | _, _ => False
section
variable {w : World} {av : Nat → Prop}
theorem RelPL.length : ∀ {ds : List Dp} {ys : List Value}, RelPL w av ds ys → ds.length = ys.length
 | [], [], _ => rfl
 | _ :: _, _ :: _, h => by simp [RelPL.length h.2]
 | [], _ :: _, h => h.elim
 | _ :: _, [], h => h.elim
theorem RelPL.append : ∀ {ds ds' : List Dp} {ys ys' : List Value}, RelPL w av ds ys → RelPL w av ds' ys' → RelPL w av (ds ++ ds') (ys ++ ys')
 | [], _, [], _, _, h => h
 | _ :: _, _, _ :: _, _, h, h' => ⟨h.1, RelPL.append h.2 h'⟩
 | [], _, _ :: _, _, h, _ => h.elim
 | _ :: _, _, [], _, h, _ => h.elim
theorem RelPL.relL {l : Loc} {h : List Blk} : ∀ {ds : List Dp} {ys : List Value}, RelPL w av ds ys → RelL w av l h (ds.map .p) ys
 | [], [], _ => by simp [RelL]
 | _ :: _, _ :: _, r => by simp only [AH, RelL, Rel]; exact ⟨r.1, RelPL.relL r.2⟩
 | [], _ :: _, h => h.elim
 | _ :: _, [], h => h.elim
theorem nv {P : Program} : ∀ {fs : List Field} {acc total : Nat}, ci P fs acc total = true → acc ≤ total ∧ ∀ f ∈ fs, acc ≤ f.offset
 | [], acc, total, h => by simp only [ci, beq_iff_eq] at h; exact ⟨by omega, by simp⟩
 | f :: fs, acc, total, h => by
  simp only [ci, zd, beq_iff_eq] at h
  obtain ⟨h1, h2⟩ := nv h.2
  refine ⟨by omega, fun g hg => ?_⟩
  rcases zR.1 hg with rfl | hg
  ·omega
  ·have := h2 g hg; omega
theorem kT {blk c : Nat} : ∀ (es : List (List Dp)) (off : Nat), (∀ i e, es[i]? = some e → e.length = c ∧ RelCells w av blk (off + i * c) e) → RelRows w av blk c off es
 | [], _, _ => trivial
 | e :: es, off, h => by
  obtain ⟨h1, h2⟩ := h 0 e rfl
  refine ⟨h1, by simpa using h2, kT es (off + c) fun i e' he => ?_⟩
  obtain ⟨h3, h4⟩ := h (i + 1) e' (by simpa using he)
  refine ⟨h3, ?_⟩
  rw [show off + c + i * c = off + (i + 1) * c by rw [Bt]; omega]
  exact h4
theorem jE (hav : ∀ k, ¬ av k) {blk : Nat} : ∀ (ds : List Dp) (ys : List Value) (off : Nat), RelPL w av ds ys → (∀ (j : Nat) (y : Value), ys[j]? = some y → w.cell? ⟨blk, off + j, none⟩ = some y) → RelCells w av blk off ds
 | [], _, _, _, _ => trivial
 | d :: ds, [], _, r, _ => r.elim
 | d :: ds, y :: ys, off, r, hc => by
  refine ⟨⟨hav _, y, by simpa using hc 0 y rfl, r.1⟩, jE hav ds ys (off + 1) r.2 fun j z hz => ?_⟩
  have := hc (j + 1) z (by simpa using hz)
  rwa [show off + (j + 1) = off + 1 + j by omega] at this
theorem qe {a : Addr} {n : Nat} {cs : List Value} (h : w.cells? 0 a n = some cs) : cs.length = n ∧ ∀ (j : Nat) (y : Value), cs[j]? = some y → w.cell? (a.add j) = some y := by
 obtain ⟨h1, h2, h3⟩ := World.cells?_some h
 refine ⟨h2, fun j y hy => ?_⟩
 have hj : j < n := by rw [← h2]; exact (zc.1 hy).1
 rw [h3 j hj, hy]
theorem e7 {H : Type} {P : Program} {e : TypeId} {q : Nat → Bool} : ∀ {l : List (DataW H)}, (DataW.weightsAll P e l).all q = true → ∀ d ∈ l, (d.weights P e).all q = true
 | [], _, d, hd => by simp at hd
 | x :: l, h, d, hd => by
  simp only [DataW.weightsAll, List.all_append, zd] at h
  rcases zR.1 hd with rfl | hd
  ·exact h.1
  ·exact e7 h.2 d hd
theorem cn {H : Type} {P : Program} {q : Nat → Bool} : ∀ {ts : List TypeId} {l : List (DataW H)}, (Eh P ts l).all q = true → ∀ (i : Nat) (t : TypeId) (d : DataW H), ts[i]? = some t → l[i]? = some d → (d.weights P t).all q = true
 | [], _, _, i, t, d, ht, _ => by simp at ht
 | _ :: _, [], _, i, t, d, _, hd => by simp at hd
 | t0 :: ts, x :: l, h, i, t, d, ht, hd => by
  simp only [Eh, List.all_append, zd] at h
  cases i with
  | zero => simp at ht hd; subst ht; subst hd; exact h.1
  | succ i => exact cn h.2 i t d (by simpa using ht) (by simpa using hd)
end
end Go.Vi
namespace Go.Vi
open Go
section
variable {w : World} {av : Nat → Prop} {P : Program}
theorem u0 {ts : List TypeId} (hts : qd P ts = true) {t : TypeId} (ht : t ∈ ts) : (match P.underlying t with
 | some .bool | some (.int _) | some .string => true
 | some (.slice e) => ts.contains e && decide (0 < P.cellsOf e)
 | some (.struct fs) => ci P fs.toList 0 (P.cellsOf t) && fs.toList.all fun f => ts.contains f.type
 | _ => false) = true := zJ.1 hts t ht
end
theorem ma (k : Nat) : ¬ avs (fun _ => False) (fun _ => none) [] k := fun ho => ho.elim id (fun h => absurd h c5)
end Go.Vi
namespace Go.Vi
open Go Go.RowKit Go.ChangeShapes Go.WideShapes
section
variable {H : Type} {enc : TypeId × Value → H} {P : Program}
theorem fV (hl : laidOutB P = true) {W W' : World} (hb : Below W.heap.size W W') : ∀ {ts : List TypeId} {vs : List Value} {ds : List (DataW H)} {ps : List MemPlace},
  (ts.all fun t => P.readableRec t && decide (t < P.types.size)) = true → DataW.TrodAll enc P W 0 (fun _ => true) true ts vs ds ps → (∀ x ∈ ps, x.block < W.heap.size) →
  DataW.TrodAll enc P W' 0 (fun b => decide (b < W.heap.size)) true ts vs ds ps
 | [], vs, ds, ps, _, h, _ => by
  obtain ⟨rfl, rfl, rfl⟩ := trodAll_nil h
  rfl
 | t :: ts, vs, ds, ps, ht, h, hps => by
  obtain ⟨v, vs', d, ds', p, q, rfl, rfl, rfl, h1, h2⟩ := trodAll_cons h
  simp only [List.all_cons, zd, decide_eq_true_eq] at ht
  refine ⟨p, q, Below.trod hl ht.1.1 ht.1.2 h1 hb (fun x hx => hps x (List.mem_append_left _ hx)), fV hl hb (by simpa using ht.2) h2 (fun x hx => hps x (List.mem_append_right _ hx)), rfl⟩
theorem sS {f : Func} {s : ChangeSpec} {apart : Bool} {W W' : World} {args : Array Value} {ds gs : List (DataW H)} {before : List MemPlace} {b : TypeId}
  (hl : laidOutB P = true) (hp : (f.params.toList.all fun t => P.readableRec t && decide (t < P.types.size)) = true) (hv : s.vars = []) (hr : f.resultTypes = #[b]) (hbt : P.underlying b = some .bool)
  (hW : DataW.Whole enc P f.params.toList s.vars apart W args.toList ds gs before) (hs : s.fn H ds = { results := [.lit (.bool true)], args := ds }) (hb : Below W.heap.size W W') :
  s.post enc P f apart true false false W args (.bool true) W' := by
 have hW' := hW
 have hlt := hW.lt
 obtain ⟨p, q, hA, hV, rfl, _, _⟩ := hW
 rw [hv] at hV
 obtain ⟨rfl, rfl⟩ := trodVars_none hV
 refine ⟨ds, [], p ++ [], [], p, [], hW', ?_, ?_, ?_, hb.frame _, fun h => by cases h⟩
 ·simp only [CZ, hs, hr, Value.resultList]
  exact ⟨[], [], ⟨1, by simp [DataW.trod, Value.cells, hbt]⟩, rfl, rfl⟩
 ·simp only [CZ, hs]
  exact fV hl hb hp hA (fun x hx => hlt x (by simpa using hx))
 ·simp only [CZ, hs, hv]
  rfl
end
end Go.Vi
namespace Go.Vi
open Go Go.RowKit
theorem qZ {Γ : ah} {w : World} (hg : ∀ g cs, Γ g = some cs → RelCells w (avs (fun _ => False) (fun _ => none) []) g 0 cs) : Rep Γ (fun _ => False) w (fun _ => none) [] :=
 ⟨fun blk ho => absurd ho c5, fun blk ho => ho.elim, fun b b' x x' k c c' hb => by simp at hb, fun b x hb => by simp at hb, hg⟩
theorem sT {P : Program} {Γ : ah} {f : FuncId} {args : List D} {d : D} {W : World} {vs : List Value} (hg : ∀ g cs, Γ g = some cs → RelCells W (avs (fun _ => False) (fun _ => none) []) g 0 cs) (he : Ev P Γ f args [] d []) (hr : RelL W (avs (fun _ => False) (fun _ => none) []) (fun _ => none) [] args vs) :
  Calls P f vs.toArray W fun e W' => ∃ v, e = .returned v ∧ Rel W' (fun _ => False) (fun _ => none) [] d v ∧ Go.RowKit.Below W.heap.size W W' := by
 have h1 := he (fun _ => False) W (fun _ => none) vs (qZ hg) hr
 refine (callsIn_wide (n := 0)).1 (AM (h1 : CallsIn (FW none) 0 P f _ W _) ?_)
 rintro e W' ⟨v, d2, h2, l', rfl, ⟨rfl, rfl⟩, R', E', rd⟩
 refine ⟨v, rfl, Rel.mono (fun blk off y hn hc => ⟨hc, fun h => h.elim⟩) (fun b x hb => by simp at hb) d2 v rd, ?_⟩
 exact ⟨E'.tape.2.1, E'.tape.1, E'.tape.2.2.1, E'.size, fun k hk => E'.same k hk c5⟩
end Go.Vi
