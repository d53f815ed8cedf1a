/- RecordOfSpecUpto: part of the proof: an evaluator of the model's programs on abstract values, and its soundness. No conditions beyond the given statement's own. -/
import Derived.Test.YtilebidefogaiaaGreatDoorV5
open Go.Vi.Ref renaming blk → Fg
open Option renaming map_some → CQ, map_eq_some_iff → Cg, getD_some → Dh
open Option.some renaming injEq → B5
open List renaming mem_map → CC, all_cons → ED, getElem?_eq_some_iff → Ce, getElem?_append_left → Cr, getElem?_eq_none → Dk, getElem?_set_ne → ER, all_eq_true → CB, mem_filter → Ez, mk_mem_zipIdx_iff_getElem? → Du, range → C1, mem_cons → CP, filter_eq_nil_iff → Eg, mem_append → Dq
open Nat renaming le_refl → Cy, le_succ → Eb
open Bool renaming and_eq_true → Cd, false_eq_true → CU, not_eq_true' → Df, eq_false_iff → DX
open Go.Vi.Blk renaming inn → Cz, mapR → DN, vec → ET
open Go.Vi.D renaming mapRL → C6
open Prod.mk renaming injEq → Ca
open Go.Vi.DefOk renaming mono → F7
open Go.Region renaming binds → Dc, ready → Em, wanted → C9
open Array renaming getD_eq_getD_getElem? → CK, getElem?_eq_getElem → CL, all_eq_true_iff_forall_mem → DK, replicate → ES
open Classical renaming byContradiction → C8
open Go.Vi.St renaming unfix → HM
namespace Go.Vi
open Go
def qi (b e : Nat) (rows : List (List Dp)) (r : Ref) : D := match r.blk == b with
 | false => .ref r
 | true => match r with
  | .vec _ e1 => match e1 == e with
   | true => .p (.sl rows)
   | false => .any
  | _ => .any
def aS (b e k : Nat) (r : Ref) : D := match r.blk == b with
 | false => .ref r
 | true => match r with
  | .vec _ e1 => match e1 == e with
   | true => .ref (.vec b k)
   | false => .any
  | .vs _ e1 i n c => match e1 == e with
   | true => .ref (.vs b k i n c)
   | false => .any
  | .vp _ e1 i j => match e1 == e with
   | true => .ref (.vp b k i j)
   | false => .any
  | _ => .any
section
variable {Γ : ak} {O : Nat → Prop} {w w0 : World} {l l0 : Loc} {h h0 : List Blk} {b : Nat}
theorem fX {av av' : Nat → Prop} (ha : ∀ k, av' k → av k) {blk : Nat} (hb : ¬ av' blk) : ∀ (e : List Dp) (off : Nat), CellsAt w av l h blk off (e.map .p) → RelCells w av' blk off e
 | [], _, _ => trivial
 | d :: ds, off, c => by
  obtain ⟨y, h1, h2⟩ := c 0 (.p d) (by simp)
  refine ⟨⟨hb, y, by simpa using h1, dA ha (by simpa [Rel] using h2)⟩, fX ha hb ds (off + 1) fun j d' hd => ?_⟩
  obtain ⟨y', h3, h4⟩ := c (j + 1) d' (by simpa using hd)
  exact ⟨y', by rw [← h3]; congr 2; omega, h4⟩
theorem io {av : Nat → Prop} {blk c : Nat} : ∀ (es : List (List Dp)) (off : Nat), (∀ i e, es[i]? = some e → e.length = c ∧ RelCells w av blk (off + i * c) e) → RelRows w av blk c off es
 | [], _, _ => trivial
 | e :: es, off, h => by
  obtain ⟨h1, h2⟩ := h 0 e rfl
  refine ⟨h1, by simpa using h2, io es (off + c) fun i e' he => ?_⟩
  obtain ⟨h3, h4⟩ := h (i + 1) e' (by simpa using he)
  refine ⟨h3, ?_⟩
  rw [show off + c + i * c = off + (i + 1) * c by rw [Nat.add_mul]; omega]
  exact h4
theorem Ah (R : Rep Γ O w l h) {rows : List (List Dp)} {e sz : Nat} (hb : h[b]? = some (.vec (rows.map (·.map .p)) e sz)) {r : Ref} {y : Value} (rr : RefRel l h r y)
  {f : Ref → D} : Rel w (avs O l (mapH f b .gone h)) l (mapH f b .gone h) (qi b e rows r) y := by
 unfold qi
 split
 ·rename_i hr
  simp only [Rel]
  exact eA (by simpa using hr) rr
 ·rename_i hr
  split
  ·rename_i b1 e1
   split
   ·rename_i he
    have hr : b1 = b := by simpa [Fg] using hr
    have he : e1 = e := by simpa using he
    subst hr; subst he
    have hk := R.blk _ _ hb
    unfold RefRel at rr
    simp only [hb] at rr
    have hv := rr.2.2 trivial
    unfold BlkOk at hk
    simp only at hk
    simp only [Rel, RelP]
    cases hl : l b1 with
    | none =>
     rw [hl] at hv hk
     simp only [kT] at hv hk
     exact .inl ⟨by simpa using hk, none, 0, hv.2, fun _ => rfl⟩
    | some p =>
     obtain ⟨blk, cap⟩ := p
     rw [hl] at hv hk
     simp only [kT] at hv hk
     obtain ⟨c, T, fr, ys, q1, q2, q3, q4, q5, q6, rest, q7⟩ := hk
     refine .inr ⟨blk, 0, cap, sz, by simpa using hv.1, by simpa using hv.2, ?_⟩
     have hcell : ¬ avs O l (Vi.mapH f b1 .gone h) blk := by
      rintro (ho | ⟨i, x, cp, h1, h2, h3⟩)
      ·exact (R.inb blk ⟨b1, _, cap, hb, by simp, hl⟩).2 ho
      ·by_cases hi : i = b1
       ·subst hi; rw [jZ hb] at h1; cases h1; exact h2 rfl
       ·rw [fb hi] at h1
        cases hx : h[i]? with
        | none => rw [hx] at h1; simp at h1
        | some z =>
         rw [hx] at h1
         simp only [CQ, B5] at h1
         subst h1
         exact hi (R.inj i b1 z _ blk cp cap hx (fun e => h2 (jY.2 e)) hb (by simp) h3 hl)
     refine io rows 0 fun i e1 he1 => ?_
     have hlen : e1.length = sz := by
      have := q5 (e1.map .p) (CC.2 ⟨e1, List.mem_of_getElem? he1, rfl⟩)
      simpa using this
     refine ⟨hlen, fX (l := l) (h := h) (av := avs O l h) (av' := avs O l (Vi.mapH f b1 .gone h)) (fun _ ho => gx hb (by simp) ho) hcell e1 _ ?_⟩
     rw [Nat.zero_add]
     exact (CellsAt.of_rel (loc := l) (h := h) q1 q7 q6).row q5 (by rw [List.getElem?_map, he1]; rfl)
   ·simp [Rel]
  ·simp [Rel]
theorem Ai {es es' : List (List D)} (hlen : es'.length = es.length) {e k sz : Nat} (hb : h[b]? = some (.vec es e sz)) {av : Nat → Prop} {r : Ref} {y : Value} (rr : RefRel l h r y) {f : Ref → D} :
  Rel w av l (mapH f b (.vec es' k sz) h) (aS b e k r) y := by
 have hb' : (mapH f b (.vec es' k sz) h)[b]? = some (.vec es' k sz) := jZ hb
 unfold aS
 split
 ·rename_i hr
  simp only [Rel]
  exact eA (by simpa using hr) rr
 ·rename_i hr
  split
  ·rename_i b1 e1
   split
   ·rename_i he
    have hr : b1 = b := by simpa [Fg] using hr
    have he : e1 = e := by simpa using he
    subst hr; subst he
    unfold RefRel at rr
    simp only [hb] at rr
    simp only [Rel]
    unfold RefRel
    simp only [hb']
    exact ⟨rr.1, Cy _, fun _ => by rw [hlen]; exact rr.2.2 trivial⟩
   ·simp [Rel]
  ·rename_i b1 e1 i n c
   split
   ·rename_i he
    have hr : b1 = b := by simpa [Fg] using hr
    have he : e1 = e := by simpa using he
    subst hr; subst he
    unfold RefRel at rr
    simp only [hb] at rr
    simp only [Rel]
    unfold RefRel
    simp only [hb']
    exact ⟨rr.1, Cy _, fun _ => by rw [hlen]; exact rr.2.2 trivial⟩
   ·simp [Rel]
  ·rename_i b1 e1 i j
   split
   ·rename_i he
    have hr : b1 = b := by simpa [Fg] using hr
    have he : e1 = e := by simpa using he
    subst hr; subst he
    unfold RefRel at rr
    simp only [hb] at rr
    simp only [Rel]
    unfold RefRel
    simp only [hb']
    exact ⟨rr.1, Cy _, fun _ => rr.2.2 trivial⟩
   ·simp [Rel]
  ·simp [Rel]
end
end Go.Vi
namespace Go.Vi
open Go
inductive SOp where
 | mask (ks : List Nat)
 | trim (k : Nat)
 | trimV (k : Nat)
 | frz (b : Nat) (rows : List (List Dp))
 | ren (b k : Nat)
 | nilT (i sz : Nat)
 | nilC (b off sz : Nat)
def AllP : List Prop → Prop
 | [] => True
 | p :: ps => p ∧ AllP ps
theorem AllP.n : AllP [] := trivial
theorem AllP.c {p : Prop} {ps : List Prop} (h : p) (hs : AllP ps) : AllP (p :: ps) := ⟨h, hs⟩
theorem AllP.e {ps : List Prop} (d : D) (hs : AllP ps) : AllP ((d = d) :: ps) := ⟨rfl, hs⟩
theorem AllP.append {ps qs : List Prop} (h : AllP (ps ++ qs)) : AllP ps ∧ AllP qs := by
 induction ps with
 | nil => exact ⟨trivial, h⟩
 | cons p ps ih => exact ⟨⟨h.1, (ih h.2).1⟩, (ih h.2).2⟩
def uW (x : Nat) : List Nat → Bool
 | [] => false
 | y :: ys => x == y || uW x ys
theorem eB {x : Nat} : ∀ {ys : List Nat}, uW x ys = true ↔ x ∈ ys
 | [] => by simp [uW]
 | y :: ys => by simp [uW, eB (ys := ys)]
def qj (ks : List Nat) : Nat → List D → List D
 | _, [] => []
 | i, d :: ds => (match uW i ks with | true => d | false => .any) :: qj ks (i + 1) ds
theorem nd (ks : List Nat) : ∀ (i : Nat) (t : List D), (qj ks i t).length = t.length ∧ ∀ x, Wk (t.getD x .any) ((qj ks i t).getD x .any)
 | _, [] => ⟨rfl, fun x => Wk.refl _⟩
 | i, d :: ds => by
  obtain ⟨h1, h2⟩ := nd ks (i + 1) ds
  refine ⟨by simp [qj, h1], fun x => ?_⟩
  cases x with
  | zero =>
   simp only [qj, List.getD_cons_zero]
   split
   ·exact Wk.refl _
   ·exact fun _ _ _ _ _ _ => by simp [Rel]
  | succ x => simpa [qj] using h2 x
def oB (ks : List Nat) (s : AS) : AS := { t := qj ks 0 s.t, h := s.h, m := s.m }
theorem DefOk.take {D0 : List Deferred} {l : Loc} {h : List Blk} {k : Nat} : ∀ {bs : List Nat} {ds : List Deferred}, (bs.all fun b => decide (b < k)) = true → DefOk D0 l h bs ds → DefOk D0 l (h.take k) bs ds
 | [], _, _, r => r
 | b :: bs, d :: ds, hb, r => by
  simp only [DefOk, ED, Cd, decide_eq_true_eq] at r hb ⊢
  obtain ⟨⟨blk, cp, h1, h2, h3⟩, h4⟩ := r
  exact ⟨⟨blk, cp, by rw [take_get hb.1]; exact h1, h2, h3⟩, DefOk.take (by simpa using hb.2) h4⟩
 | _ :: _, [], _, r => by simp [DefOk] at r
theorem Ext.takeN {w0 w : World} {l0 l : Loc} {h0 h : List Blk} {k : Nat} (hk : h0.length ≤ k) (E : Ext w0 l0 h0 w l h) : Ext w0 l0 h0 w l (h.take k) where
 size := E.size
 same := E.same
 news blk ho := E.news blk (jl ho)
 keep b x hb := by
  have : b < h0.length := by
   rw [Ce] at hb
   exact hb.1
  rw [take_get (by omega)]
  exact E.keep b x hb
 tape := E.tape
def Blk.innC (k : Nat) : Blk → Bool
 | .vec _ _ _ => true
 | .map _ _ => true
 | x => Cz k x
def Blk.innP (k : Nat) : Blk → List Prop
 | .vec es _ _ => [es.all (D.innL k) = true]
 | .map kvs _ => [(kvs.all fun e => D.inn k e.1 && D.inn k e.2.1) = true]
 | _ => []
def j1 (k : Nat) : List Blk → List Prop
 | [] => []
 | x :: xs => Blk.innP k x ++ j1 k xs
theorem uX {k : Nat} {x : Blk} (h1 : Blk.innC k x = true) (h2 : AllP (Blk.innP k x)) : Cz k x = true := by
 cases x <;> first | exact h1 | exact h2.1
theorem r8 {k : Nat} : ∀ {h : List Blk}, h.all (Blk.innC k) = true → AllP (j1 k h) → h.all (Cz k) = true
 | [], _, _ => rfl
 | x :: xs, h1, h2 => by
  simp only [ED, Cd] at h1 ⊢
  simp only [j1] at h2
  obtain ⟨p1, p2⟩ := h2.append
  exact ⟨uX h1.1 p1, r8 h1.2 p2⟩
def trimC (k : Nat) (s : AS) : Option AS := match D.innL k s.t && (s.h.take k).all (Blk.innC k) && s.m.all (fun b => decide (b < k)) with
 | true => some { t := s.t, h := s.h.take k, m := s.m }
 | false => none
def j2 (f : Ref → D) : Blk → List Prop
 | .vec es _ _ => [es.map (C6 f) = es]
 | .map kvs _ => [kvs.map (fun e => (D.mapR f e.1, D.mapR f e.2.1, e.2.2)) = kvs]
 | _ => []
def keepX (f : Ref → D) : Blk → Blk
 | .vec es e sz => .vec es e sz
 | .map kvs c => .map kvs c
 | x => x.mapR f
theorem gy {f : Ref → D} {x : Blk} (h : AllP (j2 f x)) : keepX f x = x.mapR f := by
 cases x <;> simp only [keepX, DN]
 ·rw [h.1]
 ·rw [h.1]
def oC (f : Ref → D) (b : Nat) (xb : Blk) : Nat → List Blk → List Blk
 | _, [] => []
 | i, x :: xs => (match i == b with | true => xb | false => keepX f x) :: oC f b xb (i + 1) xs
def tm (f : Ref → D) (b : Nat) : Nat → List Blk → List Prop
 | _, [] => []
 | i, x :: xs => (match i == b with | true => [] | false => j2 f x) ++ tm f b (i + 1) xs
theorem oD {f : Ref → D} {b : Nat} {xb : Blk} : ∀ (i : Nat) (h : List Blk), AllP (tm f b i h) → ∀ j, (oC f b xb i h)[j]? = if i + j = b then (h[j]?).map (fun _ => xb) else (h[j]?).map (DN f)
 | i, [], _, j => by simp [oC]
 | i, x :: xs, hp, j => by
  simp only [tm] at hp
  obtain ⟨p1, p2⟩ := hp.append
  cases j with
  | zero =>
   simp only [oC, List.getElem?_cons_zero, Nat.add_zero, CQ]
   by_cases hi : i = b
   ·simp [hi]
   ·have : (i == b) = false := by simpa using hi
    rw [this] at p1 ⊢
    simp [hi, gy p1]
  | succ j =>
   simp only [oC, List.getElem?_cons_succ]
   rw [oD (i + 1) xs p2 j]
   rw [show i + 1 + j = i + (j + 1) by omega]
theorem r9 {f : Ref → D} {b : Nat} {xb x0 : Blk} {h : List Blk} (hb : h[b]? = some x0) (hp : AllP (tm f b 0 h)) : oC f b xb 0 h = mapH f b xb h := by
 apply List.ext_getElem?
 intro j
 rw [oD 0 h hp j]
 by_cases hj : j = b
 ·subst hj; rw [jZ hb, hb]; simp
 ·rw [fb hj, if_neg (by omega)]
def Aj (k : Nat) : List Blk → List Prop
 | [] => []
 | x :: xs => (Cz k x = true) :: Aj k xs
theorem sa {k : Nat} : ∀ {h : List Blk}, AllP (Aj k h) → h.all (Cz k) = true
 | [], _ => rfl
 | x :: xs, h => by
  simp only [ED, Cd]
  exact ⟨h.1, sa h.2⟩
def zu (k : Nat) (s : AS) : Option AS := match D.innL k s.t && s.m.all (fun b => decide (b < k)) with
 | true => some { t := s.t, h := s.h.take k, m := s.m }
 | false => none
def renOk (h0 : List Blk) (b k : Nat) : Bool := match h0[b]? with
 | some (.vec _ e0 _) => decide (e0 < k)
 | some _ => false
 | none => true
def xP : D → Bool
 | .p (.v (.slice none 0 0)) => true
 | _ => false
def SOp.app (h0 : List Blk) : SOp → AS → Option (AS × List Prop)
 | .mask ks, s => some (oB ks s, [])
 | .trim k, s => match decide (h0.length ≤ k) with
  | true => match trimC k s with
   | some s' => some (s', j1 k (s.h.take k))
   | none => none
  | false => none
 | .trimV k, s => match decide (h0.length ≤ k) with
  | true => match zu k s with
   | some s' => some (s', Aj k (s.h.take k))
   | none => none
  | false => none
 | .frz b rows, s => match s.h[b]? with
  | some (.vec es e _) => some ({ t := C6 (qi b e rows) s.t, h := oC (qi b e rows) b .gone 0 s.h, m := s.m }, (es = rows.map (·.map .p)) :: tm (qi b e rows) b 0 s.h)
  | _ => none
 | .ren b k, s => match s.h[b]? with
  | some (.vec es e sz) => match renOk h0 b k with
   | true => some ({ t := C6 (aS b e k) s.t, h := oC (aS b e k) b (.vec es k sz) 0 s.h, m := s.m }, (es.map (C6 (aS b e k)) = es) :: tm (aS b e k) b 0 s.h)
   | false => none
  | _ => none
 | .nilT i sz, s => match xP (s.t.getD i .any) && aC (s.h ++ [ET [] 0 sz]) s.m with
  | true => some ({ t := s.t.set i (.ref (.vec s.h.length 0)), h := s.h ++ [ET [] 0 sz], m := s.m }, [])
  | false => none
 | .nilC b off sz, s => match s.h[b]? with
  | some (.var cs) => match xP (cs.getD off .any) && (aC (s.h ++ [ET [] 0 sz]) s.m && aC ((s.h ++ [ET [] 0 sz]).set b (.var (cs.set off (.ref (.vec s.h.length 0))))) s.m) with
   | true => some ({ t := s.t, h := (s.h ++ [ET [] 0 sz]).set b (.var (cs.set off (.ref (.vec s.h.length 0)))), m := s.m }, [])
   | false => none
  | _ => none
section
variable {Γ : ak} {X : Ctx} {s s' : AS} {a : Act} {w : World}
theorem DefOk.mapH {D0 : List Deferred} {l : Loc} {h : List Blk} {f : Ref → D} {b : Nat} {xb x0 : Blk} (hb : h[b]? = some x0) (hd : x0 ≠ .defd) : ∀ {bs : List Nat} {ds : List Deferred}, DefOk D0 l h bs ds → DefOk D0 l (mapH f b xb h) bs ds
 | [], _, r => r
 | i :: bs, d :: ds, r => by
  simp only [DefOk] at r ⊢
  obtain ⟨⟨blk, cp, h1, h2, h3⟩, h4⟩ := r
  refine ⟨⟨blk, cp, ?_, h2, h3⟩, DefOk.mapH hb hd h4⟩
  by_cases hi : i = b
  ·subst hi; rw [hb] at h1; cases h1; exact absurd rfl hd
  ·rw [fb hi, h1]; rfl
 | _ :: _, [], r => by simp [DefOk] at r
theorem j3 {w : World} {av : Nat → Prop} {l : Loc} {h : List Blk} {d : D} : ∀ {t : List D} {ys : List Value} (i : Nat), RelL w av l h t ys → (∀ y, Rel w av l h (t.getD i .any) y → Rel w av l h d y) → RelL w av l h (t.set i d) ys
 | [], [], _, _, _ => by simp [RelL]
 | [], _ :: _, _, r, _ => by simp [RelL] at r
 | _ :: _, [], _, r, _ => by simp [RelL] at r
 | x :: xs, y :: ys, 0, r, hd => by
  simp only [RelL, List.set_cons_zero] at r ⊢
  exact ⟨hd y r.1, r.2⟩
 | x :: xs, y :: ys, i + 1, r, hd => by
  simp only [RelL, List.set_cons_succ] at r ⊢
  exact ⟨r.1, j3 i r.2 (by simpa using hd)⟩
theorem sb {w0 : World} {l0 l : Loc} {h0 h : List Blk} {O : Nat → Prop} (sz : Nat) (R : Rep Γ O w l h) (E : Ext w0 l0 h0 w l h) :
  ∃ l', Rep Γ O w l' (h ++ [ET [] 0 sz]) ∧ Ext w0 l0 h0 w l' (h ++ [ET [] 0 sz]) ∧ Ext w l h w l' (h ++ [ET [] 0 sz]) ∧ l' h.length = none := by
 obtain ⟨R', E'⟩ := Rep.step (l' := fun k => if k = h.length then none else l k) (h' := h ++ [ET [] 0 sz]) R h.length (.vec [] 0 sz) (Cy _) ⟨rfl, rfl, rfl, (by first | exact Cy _ | exact Eb _)⟩
  (fun b hb => by
   by_cases hlt : b < h.length
   ·rw [Cr hlt]
   ·rw [Dk (by simp; omega), Dk (by omega)])
  (by simp) (fun b hb => by simp [hb]) (fun x hx => by simp at hx) (fun _ _ _ => rfl) (fun k c hk => by simp at hk) (fun _ => by simp [BlkOk])
 exact ⟨_, R', E.trans E', E', by simp⟩
theorem oE {w : World} {av : Nat → Prop} {l : Loc} {h : List Blk} {d : D} {y : Value} (hd : xP d = true) (r : Rel w av l h d y) : y = .slice none 0 0 := by
 unfold xP at hd
 split at hd
 ·simpa [Rel, RelP] using r
 ·simp at hd
theorem uY {w : World} {av : Nat → Prop} {l : Loc} {h : List Blk} {b sz : Nat} (hb : h[b]? = some (.vec [] 0 sz)) (hl : l b = none) : Rel w av l h (.ref (.vec b 0)) (.slice none 0 0) := by
 simp only [Rel]
 unfold RefRel
 simp only [hb]
 refine ⟨by simp [Value.oneCell'], Cy _, fun _ => ?_⟩
 rw [hl]
 exact ⟨rfl, rfl⟩
theorem SOp.sound {o : SOp} {φ : List Prop} (ha : o.app X.h s = some (s', φ)) (hp : AllP φ) (hs : St Γ X s a w) : St Γ X s' a w := by
 cases o with
 | mask ks =>
  simp only [SOp.app, B5, Ca] at ha
  obtain ⟨rfl, _⟩ := ha
  obtain ⟨k1, k2⟩ := nd ks 0 s.t
  exact hs.wk k1 k2
 | trim k =>
  simp only [SOp.app] at ha
  split at ha
  case h_2 => simp at ha
  rename_i hk
  split at ha
  case h_2 => simp at ha
  rename_i s1 ht
  simp only [B5, Ca] at ha
  obtain ⟨rfl, rfl⟩ := ha
  unfold trimC at ht
  split at ht
  case h_2 => simp at ht
  rename_i hb
  simp only [Cd] at hb
  cases ht
  obtain ⟨l, R, E, rt, rd⟩ := hs
  exact ⟨l, R.take (r8 hb.1.2 hp), E.takeN (by simpa using hk), bJ (fun _ => ft) hb.1.1 rt, rd.take hb.2⟩
 | trimV k =>
  simp only [SOp.app] at ha
  split at ha
  case h_2 => simp at ha
  rename_i hk
  split at ha
  case h_2 => simp at ha
  rename_i s1 ht
  simp only [B5, Ca] at ha
  obtain ⟨rfl, rfl⟩ := ha
  unfold zu at ht
  split at ht
  case h_2 => simp at ht
  rename_i hb
  simp only [Cd] at hb
  cases ht
  obtain ⟨l, R, E, rt, rd⟩ := hs
  exact ⟨l, R.take (sa hp), E.takeN (by simpa using hk), bJ (fun _ => ft) hb.1 rt, rd.take hb.2⟩
 | frz b rows =>
  simp only [SOp.app] at ha
  split at ha
  case h_2 => simp at ha
  rename_i es e sz hb
  simp only [B5, Ca] at ha
  obtain ⟨rfl, rfl⟩ := ha
  obtain ⟨rfl, hp⟩ := hp
  obtain ⟨l, R, E, rt, rd⟩ := hs
  refine ⟨l, ?_⟩
  simp only [r9 hb hp]
  have hf := fun (r : Ref) (y : Value) (rr : RefRel l s.h r y) => Ah R hb rr (f := qi b e rows)
  refine ⟨R.mapH hb (by simp) hf (by simp [BlkOk]) (fun y hr => ?_), E.mapH hb (by simp) (fun x _ _ => ⟨by cases x <;> simp [Blk.le], fun h => by cases x <;> simp [Blk.stays] at h⟩),
   bZ (fun _ ho => gx hb (by simp) ho) hf rt, rd.mapH hb (by simp)⟩
  unfold RefRel at hr
  simp [hb] at hr
 | ren b k =>
  simp only [SOp.app] at ha
  split at ha
  case h_2 => simp at ha
  rename_i es e sz hb
  split at ha
  case h_2 => simp at ha
  rename_i hk
  simp only [B5, Ca] at ha
  obtain ⟨rfl, rfl⟩ := ha
  obtain ⟨he, hp⟩ := hp
  obtain ⟨l, R, E, rt, rd⟩ := hs
  refine ⟨l, ?_⟩
  simp only [r9 hb hp]
  have hm : ∀ y, ¬ RefRel l s.h (.mp b) y := fun y hr => by
   unfold RefRel at hr
   simp [hb] at hr
  have ha' : ∀ k', avs X.O l (mapH (aS b e k) b (.vec es k sz) s.h) k' → avs X.O l s.h k' := fun _ ho => gx hb (by simp) ho
  have hf : ∀ (r : Ref) (y : Value), RefRel l s.h r y → Rel w (avs X.O l (mapH (aS b e k) b (.vec es k sz) s.h)) l (mapH (aS b e k) b (.vec es k sz) s.h) (aS b e k r) y :=
   fun r y rr => Ai rfl hb rr
  have hbk := lM ha' hf (fun c y hr => by
    by_cases hc : c = b
    ·subst hc; exact absurd hr (hm y)
    ·exact eA (by simpa [Fg] using hc) hr) (R.blk b _ hb)
  simp only [DN, he] at hbk
  refine ⟨R.mapH hb (by simp) hf (by unfold BlkOk at hbk ⊢; exact hbk) hm, E.mapH hb (by simp) (fun x hx hle => ?_), bZ ha' hf rt, rd.mapH hb (by simp)⟩
  unfold renOk at hk
  rw [hx] at hk
  cases x with
  | vec es0 e0 sz0 =>
   simp only [decide_eq_true_eq] at hk
   simp only [Blk.le] at hle ⊢
   simp only [Blk.stays]
   exact ⟨⟨by omega, fun h => by omega, hle.2.2⟩, fun h => by omega⟩
  | _ => simp at hk
 | nilT i sz =>
  simp only [SOp.app] at ha
  split at ha
  case h_2 => simp at ha
  rename_i hn
  simp only [Cd] at hn
  simp only [B5, Ca] at ha
  obtain ⟨rfl, _⟩ := ha
  obtain ⟨l, R, E, rt, rd⟩ := hs
  obtain ⟨l', R', E', E2, hl⟩ := sb sz R E
  refine ⟨l', R', E', ?_, F7 E2.keep hn.2 rd⟩
  have rt' := E2.relL rt
  refine j3 i rt' fun y hy => ?_
  obtain rfl := oE hn.1 hy
  exact uY (sz := sz) (by simp) hl
 | nilC b off sz =>
  simp only [SOp.app] at ha
  split at ha
  case h_2 => simp at ha
  rename_i cs hb
  split at ha
  case h_2 => simp at ha
  rename_i hn
  simp only [Cd] at hn
  simp only [B5, Ca] at ha
  obtain ⟨rfl, _⟩ := ha
  obtain ⟨l, R, E, rt, rd⟩ := hs
  obtain ⟨l', R', E', E2, hl⟩ := sb sz R E
  have hlt := (Ce.1 hb).1
  have hb' : (s.h ++ [ET [] 0 sz])[b]? = some (.var cs) := by rw [Cr hlt]; exact hb
  obtain ⟨R3, E3⟩ := Rep.step (w' := w) (l' := l') (h' := (s.h ++ [ET [] 0 sz]).set b (.var (cs.set off (.ref (.vec s.h.length 0))))) R' b (.var (cs.set off (.ref (.vec s.h.length 0)))) (Cy _) ⟨rfl, rfl, rfl, (by first | exact Cy _ | exact Eb _)⟩
   (fun i hi => by rw [ER (Ne.symm hi)]) (by rw [List.getElem?_set_self (by simp; omega)]) (fun _ _ => rfl) (fun x hx => by rw [hb'] at hx; cases hx; simp [Blk.le])
   (fun _ _ _ => rfl) (fun k c hk => .inl ⟨_, c, hb', by simp, hk⟩) (fun E3 => by
    obtain ⟨blk, cp, c, T, q1, q2, q3⟩ := R'.blk b _ hb'
    refine ⟨blk, cp, c, T, q1, q2, j3 off (E3.relL q3) fun y hy => ?_⟩
    obtain rfl := oE hn.1 hy
    refine uY (sz := sz) ?_ hl
    rw [ER (by omega)]
    simp)
  exact ⟨l', R3, E'.trans E3, E3.relL (E2.relL rt), F7 E3.keep hn.2.2 (F7 E2.keep hn.2.1 rd)⟩
end
end Go.Vi
namespace Go.Vi
open Go
def notRef : D → Bool
  | .ref _ => false
  | _ => true
def heapless : Op → Bool
  | .move _ | .assign _ | .pick .. | .build .. | .binOp .. | .unOp .. | .convert .. | .makeFunc .. | .field .. | .index .. | .extract .. => true
  | .call { callee := .builtin b, .. } => match b with
    | .max | .min => true
    | _ => false
  | _ => false
section
variable {P : Program} {Γ : ak} {t : List D} {h : List Blk}
theorem b4 {o : Op} (ho : heapless o = true) {ok : Bool} {d : D} {h' : List Blk} (hs : opSem P Γ t h o = some (ok, d, h')) (g : List Blk) : ∃ g', opSem P Γ t g o = some (ok, d, g') := by
  cases o <;> simp only [heapless, CU] at ho <;> simp only [opSem, Cg, keep, keepB, Ca, B5] at hs ⊢
  case call c =>
    obtain ⟨callee, args, ats⟩ := c
    cases callee with
    | builtin b =>
      cases b <;> simp only [CU] at ho <;> simp only [] at hs ⊢ <;> unfold builtinD at hs ⊢ <;> split at hs <;> simp_all [keep] <;> (obtain ⟨a, h1, h2, h3, _⟩ := hs; exact ⟨g, a, h1, h2, h3, rfl⟩)
    | _ => simp [] at ho
  case binOp op ty x y yt =>
    split at hs
    · simp only [B5, Ca] at hs ⊢
      exact ⟨g, hs.1, hs.2.1, rfl⟩
    · split at hs
      · simp only [B5, Ca] at hs ⊢
        exact ⟨g, hs.1, hs.2.1, rfl⟩
      · simp only [Cg, keep, Ca] at hs ⊢
        obtain ⟨a, h1, h2, h3, _⟩ := hs
        exact ⟨g, a, h1, h2, h3, rfl⟩
  case extract x i =>
    split at hs
    · simp only [Cg, keep, Ca] at hs ⊢
      obtain ⟨a, h1, h2, h3, _⟩ := hs
      exact ⟨g, a, h1, h2, h3, rfl⟩
    · simp at hs
  all_goals first
    | (obtain ⟨h1, h2, _⟩ := hs; exact ⟨g, h1, h2, rfl⟩)
    | (obtain ⟨a, h1, h2, h3, _⟩ := hs; exact ⟨g, a, h1, h2, h3, rfl⟩)
theorem oG {ty : TypeId} {x : D} (hx : notRef x = true) (g : List Blk) : bD P g ty x = bD P h ty x := by
  cases x <;> first | rfl | simp [notRef] at hx
theorem j4 {x : D} (hx : notRef x = true) (g : List Blk) : lenD g x = lenD h x := by
  cases x with
  | p y =>
    unfold lenD
    split <;> first | rfl | simp_all
  | fn f a c => cases f <;> rfl
  | ref r => simp [notRef] at hx
  | _ => rfl
theorem iZ {n : Nat} {x : D} (hx : notRef x = true) (g : List Blk) : nX g n x = nX h n x := by
  cases x <;> first | rfl | simp [notRef] at hx
theorem jg {x : D} (hx : notRef x = true) (g : List Blk) : cR g x = cR h x := by
  cases x with
  | p y =>
    unfold cR
    split <;> first | rfl | simp_all
  | fn f a c => cases f <;> rfl
  | ref r => simp [notRef] at hx
  | _ => rfl
theorem oH {x : D} (hx : notRef x = true) (g : List Blk) : n8 g x = n8 h x := by
  cases x with
  | p y =>
    unfold n8
    split <;> first | rfl | simp_all
  | fn f a c => cases f <;> rfl
  | ref r => simp [notRef] at hx
  | _ => rfl
theorem ne {x : D} (hx : notRef x = true) (g : List Blk) : lx g x = lx h x := by
  cases x <;> first | rfl | simp [notRef] at hx
theorem j5 {x : D} {sz n : Nat} {l u : Int} {mx : Option Int} (hx : notRef x = true) (g : List Blk) : sliceRow g x sz n l u mx = sliceRow h x sz n l u mx := by
  cases x with
  | p y =>
    unfold sliceRow
    split <;> first | rfl | simp_all
  | fn f a c => cases f <;> rfl
  | ref r => simp [notRef] at hx
  | _ => rfl
theorem j6 {x : D} {len : Nat} {e : TypeId} {l : Int} {hi : Option D} {mx : Option Int} (hx : notRef x = true) (g : List Blk) : fm P g len e x l hi mx = fm P h len e x l hi mx := by
  cases x <;> first | rfl | simp [notRef] at hx
theorem oI {ty : TypeId} {x : D} (hx : notRef x = true) (g : List Blk) : s6 P g ty x = s6 P h ty x := by
  unfold s6
  simp only [j4 (h := h) hx g]
  cases P.underlying ty with
  | none => rfl
  | some ud =>
    cases ud <;> first
      | rfl
      | (dsimp only
         cases x with
         | p y =>
           split <;> first | rfl | simp_all
         | ref r => simp [notRef] at hx
         | _ => rfl)
def headOf : Op → Option Operand
  | .load _ a => some a
  | .nilCheck x => some x
  | .slice _ x _ _ _ => some x
  | .fieldAddr _ x _ => some x
  | .indexAddr _ x _ => some x
  | .lookup _ x _ _ => some x
  | .entry x => some x
  | .call { callee := .builtin .len, args, .. } => match args.toList with
    | [x] => some x
    | _ => none
  | _ => none
theorem cS {o : Op} (hq : quietOp o = true) {x : Operand} (hx : headOf o = some x) (hn : notRef (evalD Γ t x) = true) {ok : Bool} {d : D} {h' : List Blk} (hs : opSem P Γ t h o = some (ok, d, h')) (g : List Blk) : ∃ g', opSem P Γ t g o = some (ok, d, g') := by
  cases o <;> simp only [headOf, B5, reduceCtorEq] at hx
  case load ty a =>
    subst hx
    simp only [opSem, Cg, keep, Ca] at hs ⊢
    obtain ⟨a, h1, h2, h3, _⟩ := hs
    exact ⟨g, a, by rw [oG (h := h) hn]; exact h1, h2, h3, rfl⟩
  case nilCheck a =>
    subst hx
    simp only [opSem, Cg, keep, Ca] at hs ⊢
    obtain ⟨a, h1, h2, h3, _⟩ := hs
    exact ⟨g, a, by rw [jg (h := h) hn]; exact h1, h2, h3, rfl⟩
  case slice ty a lo hi mx =>
    subst hx
    simp only [opSem, Cg, keepB, Ca] at hs ⊢
    obtain ⟨a, h1, h2, h3, _⟩ := hs
    refine ⟨g, a, ?_, h2, h3, rfl⟩
    unfold n7 at h1 ⊢
    simp only [j4 (h := h) hn g, j5 (h := h) hn g, j6 (h := h) hn g]
    exact h1
  case fieldAddr s a f =>
    subst hx
    simp only [opSem, Cg, keep, Ca] at hs ⊢
    obtain ⟨a, h1, h2, h3, _⟩ := hs
    refine ⟨g, a, ?_, h2, h3, rfl⟩
    unfold d7 at h1 ⊢
    simp only [iZ (h := h) hn g]
    exact h1
  case indexAddr ty a i =>
    subst hx
    simp only [opSem, Cg, keepB, Ca] at hs ⊢
    obtain ⟨r, h1, h2, h3, _⟩ := hs
    refine ⟨g, r, ?_, h2, h3, rfl⟩
    rw [← h1]
    generalize evalD Γ t a = y at hn
    unfold cz
    simp only [iZ (h := h) hn g]
    cases intOf? (evalD Γ t i) with
    | none => rfl
    | some ki =>
      cases P.underlying ty with
      | none => rfl
      | some ud =>
        cases ud <;> first
          | rfl
          | (rename_i e
             dsimp only
             cases szOf P e <;> cases y with
               | p z => cases z <;> rfl
               | ref r => simp [notRef] at hn
               | _ => rfl)
  case lookup ty a k ok' =>
    subst hx
    simp only [opSem, Cg, keep, Ca] at hs ⊢
    obtain ⟨a, h1, h2, h3, _⟩ := hs
    refine ⟨g, a, ?_, h2, h3, rfl⟩
    unfold cj at h1 ⊢
    simp only [oH (h := h) hn g]
    exact h1
  case entry a =>
    subst hx
    simp only [opSem, Cg, keep, Ca] at hs ⊢
    obtain ⟨a, h1, h2, h3, _⟩ := hs
    exact ⟨g, a, by rw [ne (h := h) hn]; exact h1, h2, h3, rfl⟩
  case call c =>
    obtain ⟨callee, args, ats⟩ := c
    cases callee with
    | builtin b =>
      cases b <;> simp only [reduceCtorEq] at hx
      split at hx
      · rename_i y hy
        cases hx
        simp only [opSem, hy, List.map_cons, List.map_nil] at hs ⊢
        unfold builtinD at hs ⊢
        split at hs
        all_goals first
          | (simp only [Cg] at hs ⊢
             obtain ⟨a, h1, h2⟩ := hs
             simp only [keep, Ca] at h2 ⊢
             obtain ⟨h2, h3, _⟩ := h2
             exact ⟨g, a, by rw [oI (h := h) (by simp_all)]; exact h1, h2, h3, rfl⟩)
          | simp_all
      · simp at hx
    | _ => simp [] at hx
end
end Go.Vi
namespace Go.Vi
open Go
def memN (x : Nat) : List Nat → Bool
 | [] => false
 | y :: ys => x == y || memN x ys
def cT (F : List Nat) (i : Nat) (o : Oper) : Bool := quietOp o.op || memN i F
structure DrawOkF (F : List Nat) (L : List Oper) (B : List Nat) : Prop where
 self : ∀ (i : Nat) (o : Oper), L[i]? = some o → (B.getD i 0).testBit i = false
 edge : ∀ (i : Nat) (o : Oper), L[i]? = some o → ∀ e ∈ o.after.toList, Dc .any e = true → e.on < i
 uniq : ∀ (i k : Nat) (o o' : Oper) (x : Tmp), L[i]? = some o → L[k]? = some o' → o.dst = some x → o'.dst = some x → i = k
 oper : ∀ (i : Nat) (o : Oper) (x : Tmp), L[i]? = some o → x ∈ bX L o → ∀ (k : Nat) (o' : Oper), L[k]? = some o' → o'.dst = some x → (B.getD i 0).testBit k = true ∨ (B.getD k 0).testBit i = true
 chain : ∀ (i k : Nat) (o o' : Oper), L[i]? = some o → L[k]? = some o' → i < k → cT F i o = false → cT F k o' = false → (B.getD k 0).testBit i = true
def sc (F : List Nat) (L : List Oper) (B : List Nat) : Bool :=
 L.zipIdx.all fun p => !(B.getD p.2 0).testBit p.2 && (
  (p.1.after.toList.all fun e => !Dc .any e || decide (e.on < p.2)) &&
  (L.zipIdx.all fun q => (p.2 == q.2 || p.1.dst.isNone || !(p.1.dst == q.1.dst)) &&
   (!decide (q.2 < p.2) || cT F q.2 q.1 || cT F p.2 p.1 || (B.getD p.2 0).testBit q.2)) &&
  ((bX L p.1).all fun x => L.zipIdx.all fun q => !(q.1.dst == some x) || (B.getD p.2 0).testBit q.2 || (B.getD q.2 0).testBit p.2))
theorem tn {F : List Nat} {L : List Oper} {B : List Nat} (h : sc F L B = true) : DrawOkF F L B where
 self i o ho := by
  have := aQ h ho
  simp only [Cd] at this
  simpa using this.1
 edge i o ho e he hb := by
  have := aQ h ho
  simp only [Cd] at this
  have := CB.1 this.2.1.1 e he
  simpa [hb] using this
 uniq i k o o' x ho ho' hd hd' := by
  have := aQ h ho
  simp only [Cd] at this
  have := aQ this.2.1.2 ho'
  simp only [Cd] at this
  have := this.1
  simpa [hd, hd'] using this
 oper i o x ho hx k o' ho' hd := by
  have := aQ h ho
  simp only [Cd] at this
  have := CB.1 this.2.2 x hx
  have := aQ this ho'
  simpa [hd, Bool.or_assoc] using this
 chain i k o o' ho ho' hik hq hq' := by
  have := aQ h ho'
  simp only [Cd] at this
  have := aQ this.2.1.2 ho
  simp only [Cd] at this
  have := this.2
  simpa [hik, hq, hq'] using this
def ip (F : List Nat) (L : List Oper) : List Nat := (L.zipIdx.filter fun p => !cT F p.2 p.1).map (·.2)
def j7 (F : List Nat) (L : List Oper) (B : List Nat) (i k : Nat) : Bool := (ip F L).all fun c => if c < k then !(B.getD c 0).testBit i else !(B.getD i 0).testBit c
def gz (F : List Nat) (L : List Oper) : List Nat := 0 :: (ip F L).map (· + 1)
theorem qk {F : List Nat} {L : List Oper} {c : Nat} {o : Oper} (ho : L[c]? = some o) (hq : cT F c o = false) : c ∈ ip F L := by
 unfold ip
 rw [CC]
 exact ⟨(o, c), by rw [Ez, Du]; exact ⟨ho, by simp [hq]⟩, rfl⟩
theorem dW {F : List Nat} {L : List Oper} {c : Nat} (h : c ∈ ip F L) : ∃ o, L[c]? = some o ∧ cT F c o = false := by
 unfold ip at h
 rw [CC] at h
 obtain ⟨⟨o, i⟩, h1, rfl⟩ := h
 rw [Ez, Du] at h1
 exact ⟨o, h1.1, by simpa using h1.2⟩
def uZ (P : Program) (Γ : ak) (F : List Nat) (L : List Oper) (B : List Nat) (tF : List D) (hs : List (List Blk)) (ts : List (List D)) : Prop :=
 ∀ (i : Nat) (o : Oper), L[i]? = some o → cT F i o = true → (∃ f, FixOk f ∧ aL L ((ts.getD i []).map f) o.guard = some true) → ∀ k ∈ gz F L, j7 F L B i k = true →
  ∃ f d, FixOk f ∧ OpOk P Γ ((ts.getD i []).map f) (hs.getD k []) o.op d (hs.getD k []) ∧ ∀ x, o.dst = some x → Wk d (tF.getD x .any)
section
variable {P : Program} {Γ : ak} {X : Ctx} {r : Option Nat} {call : CallF} {ops : Array Oper} {m : List Nat} {t0 tF : List D} {hs : List (List Blk)} {ts : List (List D)} {Q : Exit → AS → Prop} {F : List Nat}
structure InvF (F : List Nat) (Γ : ak) (X : Ctx) (L : List Oper) (m : List Nat) (t0 tF : List D) (hs : List (List Blk)) (k : Nat) (S : Array Bool) (a : Act) (w : World) : Prop where
 size : S.size = L.length
 closed : e8 L (Lst S)
 st : St Γ X { t := dc L S t0 tF, h := hs.getD k [], m := m } a w
 cand : k ∈ gz F L
 chain : ∀ c o, L[c]? = some o → cT F c o = false → (Lst S c ↔ c < k)
theorem ql (hD : DrawOkF F ops.toList (bR ops.toList [])) (hr : runR P Γ m ops.toList Wk FixOk ops.toList t0 (hs.getD 0 []) tF hs ts)
  (hq : uZ P Γ F ops.toList (bR ops.toList []) tF hs ts) (hF : ∀ j o, ops.toList[j]? = some o → memN j F = true → hs.getD (j + 1) [] = hs.getD j []) (hQ : Q .normal { t := tF, h := hs.getD ops.size [], m := m }) :
  ∀ (fuel : Nat) (k : Nat) (S : Array Bool) (a : Act) (w : World), InvF F Γ X ops.toList m t0 tF hs k S a w → (C1 ops.size).countP (fun j => !S.getD j false) ≤ fuel →
   wpAnyIn (FW r) 0 P .any ops (fJ Γ X Q) fuel S a w := by
 obtain ⟨hlen0, _, _, _, hat⟩ := fU _ _ _ _ _ _ hr
 have hn : ops.toList.length = ops.size := by simp
 have hconst1 : ∀ j o, ops.toList[j]? = some o → cT F j o = true → hs.getD (j + 1) [] = hs.getD j [] := by
  intro j o ho hqo
  unfold cT at hqo
  rw [Bool.or_eq_true] at hqo
  rcases hqo with hqo | hqo
  case inr => exact hF j o ho hqo
  obtain ⟨call, hc, f, d', d, ⟨_, h1, _⟩, _⟩ := hat j o ho
  exact fV hqo h1
 have hconst : ∀ (n k : Nat), (∀ c o, ops.toList[c]? = some o → cT F c o = false → ¬ (k ≤ c ∧ c < k + n)) → k + n ≤ ops.size → hs.getD (k + n) [] = hs.getD k [] := by
  intro n
  induction n with
  | zero => intro k _ _; rfl
  | succ n ih =>
   intro k h1 h2
   have hlt : k + n < ops.toList.length := by omega
   have ho := List.getElem?_eq_getElem hlt
   have hqo : cT F (k + n) (ops.toList[k + n]) = true := by
    rw [← Bool.not_eq_false]
    exact fun hf => h1 _ _ ho hf (by omega)
   rw [← Nat.add_assoc, hconst1 _ _ ho hqo]
   exact ih k (fun c o hc1 hc2 => fun hx => h1 c o hc1 hc2 (by omega)) (by omega)
 have bound : ∀ i j o, ops.toList[i]? = some o → ((bR ops.toList []).getD i 0).testBit j = true → j < i := by
  intro i j o ho hb
  have hcl : e8 ops.toList (fun x => x ≤ i) := fun k o' hk ho' e he hbe => by
   have := hD.edge k o' ho' e he hbe
   show e.on ≤ i
   omega
  have h1 : j ≤ i := br hcl (k := i) (Cy i) j hb
  have h2 := hD.self i o ho
  rcases Nat.lt_or_eq_of_le h1 with h | h
  ·exact h
  ·subst h; rw [h2] at hb; cases hb
 have fin : ∀ (k : Nat) (S : Array Bool) (a : Act) (w : World), InvF F Γ X ops.toList m t0 tF hs k S a w → (∀ j, j < ops.size → Lst S j) → fJ Γ X Q .normal a w := by
  intro k S a w I hall
  refine ⟨by simp, _, hQ, ?_⟩
  have e1 : dc ops.toList S t0 tF = tF := by
   refine a7 (ax ..) fun x hx => ?_
   rw [ax] at hx
   refine bL fun c o hc1 _ => hall c ?_
   have := (Ce.1 hc1).1
   omega
  have hk : k ≤ ops.size := by
   have := I.cand
   simp only [gz, CP, CC] at this
   rcases this with rfl | ⟨c, hc1, rfl⟩
   ·omega
   ·obtain ⟨o, ho, _⟩ := dW hc1
    have := (Ce.1 ho).1
    omega
  have e2 : hs.getD ops.size [] = hs.getD k [] := by
   have := hconst (ops.size - k) k (fun c o hc1 hc2 hx => by
    have h1 := (I.chain c o hc1 hc2).1 (hall c (by omega))
    omega) (by omega)
   rwa [show k + (ops.size - k) = ops.size by omega] at this
  rw [e2]
  have := I.st
  rw [e1] at this
  exact this
 intro fuel
 induction fuel with
 | zero =>
  intro k S a w I hcnt
  have hall : ∀ j, j < ops.size → Lst S j := by
   intro j hj
   have h0 : (C1 ops.size).countP (fun j => !S.getD j false) = 0 := by omega
   rw [List.countP_eq_zero] at h0
   have := h0 j (by simpa using hj)
   simpa [Lst] using this
  refine ⟨?_, fin k S a w I hall⟩
  unfold Em
  rw [Eg]
  intro j hj
  have hj' : j < ops.size := by simpa using hj
  have := hall j hj'
  have hs2 : j < S.size := by rw [I.size, hn]; exact hj'
  unfold Lst at this
  have h3 : S.getD j true = true := by
   simp only [CK, CL hs2, Dh] at this ⊢
   exact this
  simp [h3]
 | succ fuel ih =>
  intro k S a w I hcnt
  refine ⟨fun hnone => ?_, fun i hi => ?_⟩
  ·-- nothing is ready: all is done
   refine fin k S a w I ?_
   have key : ∀ n, ∀ j, j < n → j < ops.size → Lst S j := by
    intro n
    induction n with
    | zero => intro j hj; omega
    | succ n ihn =>
     intro j hj hjs
     by_cases hjn : j < n
     ·exact ihn j hjn hjs
     have : j = n := by omega
     subst this
     apply C8
     intro hno
     unfold Em at hnone
     rw [Eg] at hnone
     have h1 := hnone j (by simpa using hjs)
     apply h1
     have hs2 : j < S.size := by rw [I.size, hn]; exact hjs
     have ho : ops[j]? = some ops[j] := CL hjs
     have h3 : S.getD j true = false := by
      unfold Lst at hno
      simp only [CK, CL hs2, Dh] at hno ⊢
      simpa using hno
     have h4 : (ops[j].after.all fun e => !Dc .any e || S.getD e.on false) = true := by
      rw [DK]
      intro e he
      cases hb : Dc .any e
      ·rfl
      ·have hlt := hD.edge j ops[j] (by simp) e (by simpa using he) hb
       have := ihn e.on hlt (by omega)
       simpa [Lst] using this
     rw [h3, ho]
     simpa using h4
   exact fun j hj => key (j + 1) j (by omega) hj
  ·-- an operation that is ready
   unfold Em at hi
   rw [Ez] at hi
   obtain ⟨hi1, hi2⟩ := hi
   have his : i < ops.size := by simpa using hi1
   have hiS : i < S.size := by rw [I.size, hn]; exact his
   have ho : ops[i]? = some ops[i] := CL his
   generalize ho0 : ops[i] = o at ho
   have hoL : ops.toList[i]? = some o := by simpa using ho
   simp only [ho, CQ, Dh, Cd, Df] at hi2
   obtain ⟨hi3, hi4⟩ := hi2
   have hnotS : ¬ Lst S i := by
    unfold Lst
    simp only [CK, CL hiS, Dh] at hi3 ⊢
    simp [hi3]
   have hpre : ∀ e ∈ o.after.toList, Dc .any e = true → Lst S e.on := by
    intro e he hb
    rw [DK] at hi4
    have := hi4 e (by simpa using he)
    simpa [hb, Lst] using this
   have hsetS : ∀ j, Lst (S.setIfInBounds i true) j ↔ j = i ∨ Lst S j := fun j => jQ hiS
   have hclosed' : e8 ops.toList (Lst (S.setIfInBounds i true)) := by
    intro k' o' hk' ho' e he hb
    rw [hsetS] at hk' ⊢
    rcases hk' with rfl | hk'
    ·rw [hoL] at ho'
     cases ho'
     exact .inr (hpre e he hb)
    ·exact .inr (I.closed k' o' hk' ho' e he hb)
   have hbits : ∀ j, ((bR ops.toList []).getD i 0).testBit j = true → j < i ∧ Lst S j := by
    intro j hj
    have h1 := bound i j o hoL hj
    have h2 := br hclosed' (k := i) ((hsetS i).2 (.inl rfl)) j hj
    rw [hsetS] at h2
    exact ⟨h1, h2.resolve_left (by omega)⟩
   obtain ⟨call, hc, f, dw, d, ⟨hfx, hst, hwk⟩, htF, ht0, hdF⟩ := hat i o hoL
   have hseen : ∀ x ∈ bX ops.toList o, (dc ops.toList S t0 tF).getD x .any = (ts.getD i []).getD x .any := by
    intro x hx
    by_cases hwr : ∃ (k' : Nat) (o' : Oper), ops.toList[k']? = some o' ∧ o'.dst = some x
    ·obtain ⟨k', o', hk', hd'⟩ := hwr
     have huq : ∀ (j : Nat) (o2 : Oper), ops.toList[j]? = some o2 → o2.dst = some x → j = k' := fun j o2 hj hd2 => hD.uniq j k' o2 o' x hj hk' hd2 hd'
     rcases hD.oper i o x hoL hx k' o' hk' hd' with hb | hb
     ·obtain ⟨hlt, hSk⟩ := hbits k' hb
      rw [bL (fun k2 o2 hk2 hd2 => by rw [huq k2 o2 hk2 hd2]; exact hSk)]
      exact htF x fun j o2 hj ho2 hd2 => by
       have := huq j o2 ho2 hd2
       omega
     ·have hlt := bound k' i o' hk' hb
      have hnk : ¬ Lst S k' := fun hSk => hnotS (br I.closed hSk i hb)
      rw [m9 hlen0 hk' hd' (by unfold Lst at hnk; simpa using hnk)]
      exact (ht0 x fun j o2 hj ho2 hd2 => by
       have := huq j o2 ho2 hd2
       omega).symm
    ·rw [bL (fun k2 o2 hk2 hd2 => absurd ⟨k2, o2, hk2, hd2⟩ hwr)]
     exact htF x fun j o2 hj ho2 hd2 => hwr ⟨j, o2, ho2, hd2⟩
   have hseenF : ∀ x ∈ bX ops.toList o, (ts.getD i []).getD x .any = (dc ops.toList S t0 tF).getD x .any := fun x hx => (hseen x hx).symm
   have hst' : cw P Γ call m ops.toList ((dc ops.toList S t0 tF).map f) (hs.getD i []) o = some (dw, hs.getD (i + 1) []) := by
    rw [fT (t' := (ts.getD i []).map f) (fun x hx => by rw [aM hfx.any, aM hfx.any, hseen x hx])]; exact hst
   have hfixed : ∀ {a : Act} {w : World}, InvF F Γ X ops.toList m t0 tF hs k S a w → St Γ X { t := (dc ops.toList S t0 tF).map f, h := hs.getD k [], m := m } a w := fun I => I.st.fix hfx
   have hput : putD (dc ops.toList S t0 tF) o.dst d = dc ops.toList (S.setIfInBounds i true) t0 tF := by
    refine jn hoL hiS (fun k' o' hk' x hx hx' => hD.uniq k' i o' o x hk' hoL hx' hx) fun x hx hlt => hdF x hx (fun j o' hj ho' hd' => ?_) ?_
    ·have := hD.uniq j i o' o x ho' hoL hd' hx
     omega
    ·rw [← hlen0]; exact hlt
   have hcnt' : (C1 ops.size).countP (fun j => !(S.setIfInBounds i true).getD j false) ≤ fuel := by
    have : (C1 ops.size).countP (fun j => !(S.setIfInBounds i true).getD j false) < (C1 ops.size).countP (fun j => !S.getD j false) := by
     refine gt (fun x hx => ?_) i (by simpa using his) ?_ ?_
     ·have h1 : ¬ Lst (S.setIfInBounds i true) x := by unfold Lst; simpa using hx
      rw [hsetS] at h1
      have : ¬ Lst S x := fun h => h1 (.inr h)
      unfold Lst at this
      simpa using this
     ·unfold Lst at hnotS; simpa using hnotS
     ·have : Lst (S.setIfInBounds i true) i := (hsetS i).2 (.inl rfl)
      unfold Lst at this
      simpa using this
    omega
   have hk_le : cT F i o = false → k ≤ i := by
    intro hqo
    have := I.cand
    simp only [gz, CP, CC] at this
    rcases this with rfl | ⟨c, hc1, rfl⟩
    ·omega
    ·obtain ⟨o', ho', hq'⟩ := dW hc1
     have hcS : Lst S c := (I.chain c o' ho' hq').2 (by omega)
     apply C8
     intro hlt
     by_cases hci : c = i
     ·exact hnotS (hci ▸ hcS)
     ·exact hnotS (br I.closed hcS i (hD.chain i c o o' hoL ho' (by omega) hqo hq'))
   have hheap : cT F i o = false → hs.getD i [] = hs.getD k [] := by
    intro hqo
    have hk := hk_le hqo
    have := hconst (i - k) k (fun c o' hc1 hc2 hx => by
     have h1 := hbits c (hD.chain c i o' o hc1 hoL (by omega) hc2 hqo)
     have := (I.chain c o' hc1 hc2).1 h1.2
     omega) (by omega)
    rwa [show k + (i - k) = i by omega] at this
   unfold wpOpIn
   simp only [ho]
   cases hqo : cT F i o
   ·-- it may change the heap
    have hInv : ∀ a' w', St Γ X { t := putD (dc ops.toList S t0 tF) o.dst d, h := hs.getD (i + 1) [], m := m } a' w' → InvF F Γ X ops.toList m t0 tF hs (i + 1) (S.setIfInBounds i true) a' w' := by
     intro a' w' hst2
     refine ⟨by simpa using I.size, hclosed', by rw [← hput]; exact hst2, ?_, ?_⟩
     ·simp only [gz, CP, CC]
      exact .inr ⟨i, qk hoL hqo, rfl⟩
     ·intro c o' ho' hq'
      rw [hsetS, I.chain c o' ho' hq']
      have hk := hk_le hqo
      constructor
      ·rintro (rfl | h) <;> omega
      ·intro h
       by_cases hci : c = i
       ·exact .inl hci
       ·have h1 := hbits c (hD.chain c i o' o ho' hoL (by omega) hq' hqo)
        exact .inr ((I.chain c o' ho' hq').1 h1.2)
    rw [hheap hqo] at hst'
    unfold cw at hst'
    split at hst'
    ·rename_i hg
     split at hst'
     ·rename_i d1 h1 hop
      split at hst'
      ·rename_i hm
       simp only [B5, Ca] at hst'
       obtain ⟨rfl, rfl⟩ := hst'
       have hw : C9 o (yielded ops a.tmps) = true := by
        obtain ⟨l, R, E, rt, rd⟩ := hfixed I
        exact ay rt hg
       rw [if_pos hw]
       exact gm (s := { t := (dc ops.toList S t0 tF).map f, h := hs.getD k [], m := m }) hc hop hm (fun a' w' hs' => ih (i + 1) _ a' w' (hInv a' w' (HM hfx hwk hs')) hcnt') (hfixed I)
      ·simp at hst'
     ·simp at hst'
    ·rename_i hg
     simp only [B5, Ca] at hst'
     obtain ⟨rfl, hh⟩ := hst'
     have hw : C9 o (yielded ops a.tmps) = false := by
      obtain ⟨l, R, E, rt, rd⟩ := hfixed I
      exact ay rt hg
     rw [if_neg (by simp [hw])]
     refine ⟨fun _ _ => trivial, ih (i + 1) _ _ w (hInv _ w (HM hfx hwk ?_)) hcnt'⟩
     rw [← hh]
     exact St.skip o.dst (hfixed I)
    ·simp at hst'
   ·-- it leaves the heap alone
    have hInv : ∀ a' w', St Γ X { t := putD (dc ops.toList S t0 tF) o.dst d, h := hs.getD k [], m := m } a' w' → InvF F Γ X ops.toList m t0 tF hs k (S.setIfInBounds i true) a' w' := by
     intro a' w' hst2
     refine ⟨by simpa using I.size, hclosed', by rw [← hput]; exact hst2, I.cand, ?_⟩
     intro c o' ho' hq'
     rw [hsetS, ← I.chain c o' ho' hq']
     constructor
     ·rintro (rfl | h)
      ·rw [hoL] at ho'; cases ho'; rw [hqo] at hq'; cases hq'
      ·exact h
     ·exact .inr
    have hgF : ∀ f : D → D, f .any = .any → aL ops.toList ((ts.getD i []).map f) o.guard = aL ops.toList ((dc ops.toList S t0 tF).map f) o.guard := fun f hf =>
     dP fun x hx => by rw [aM hf, aM hf, hseenF x (by unfold bX; simp only [Dq, Option.mem_toList]; exact .inr hx)]
    unfold cw at hst'
    split at hst'
    ·rename_i hg
     have hw : C9 o (yielded ops a.tmps) = true := by
      obtain ⟨l, R, E, rt, rd⟩ := hfixed I
      exact ay rt hg
     rw [if_pos hw]
     have hcomp : j7 F ops.toList (bR ops.toList []) i k = true := by
      unfold j7
      rw [CB]
      intro c hc1
      obtain ⟨o', ho', hq'⟩ := dW hc1
      split
      ·rename_i hlt
       have hcS := (I.chain c o' ho' hq').2 hlt
       rw [Df, DX]
       exact fun hb => hnotS (br I.closed hcS i hb)
      ·rename_i hlt
       rw [Df, DX]
       exact fun hb => hlt ((I.chain c o' ho' hq').1 (hbits c hb).2)
     obtain ⟨f2, d2, hfx2, hopk, hd2⟩ := hq i o hoL hqo ⟨f, hfx, by rw [hgF f hfx.any]; exact hg⟩ k I.cand hcomp
     obtain ⟨call2, hc2, hop⟩ := OpOk.congr (t' := (dc ops.toList S t0 tF).map f2) (fun x hx => er fun j hj => by
      rw [aM hfx2.any, aM hfx2.any, hseenF j (by
      unfold bX; simp only [Dq, List.mem_filterMap]; exact .inl ⟨x, by simpa using hx, hj⟩)]) hopk
     refine gm (s := { t := (dc ops.toList S t0 tF).map f2, h := hs.getD k [], m := m }) hc2 hop I.st.marks (fun a' w' hs' => ih k _ a' w' ⟨by simpa using I.size, hclosed', ?_, I.cand, ?_⟩ hcnt') (I.st.fix hfx2)
     ·rw [← hput]
      refine St.put_wk (fun x hx hlt => ?_) (HM hfx2 (Wk.refl d2) hs')
      have h3 := hdF x hx (fun j o' hj ho' hd' => by
       have := hD.uniq j i o' o x ho' hoL hd' hx
       omega) (by rw [ax] at hlt; rw [← hlen0]; exact hlt)
      rw [← h3]
      exact hd2 x hx
     ·intro c o' ho' hq'
      rw [hsetS, ← I.chain c o' ho' hq']
      constructor
      ·rintro (rfl | h)
       ·rw [hoL] at ho'; cases ho'; rw [hqo] at hq'; cases hq'
       ·exact h
      ·exact .inr
    ·rename_i hg
     simp only [B5, Ca] at hst'
     obtain ⟨rfl, hh⟩ := hst'
     have hw : C9 o (yielded ops a.tmps) = false := by
      obtain ⟨l, R, E, rt, rd⟩ := hfixed I
      exact ay rt hg
     rw [if_neg (by simp [hw])]
     exact ⟨fun _ _ => trivial, ih k _ _ w (hInv _ w (HM hfx hwk (St.skip (s := { t := (dc ops.toList S t0 tF).map f, h := hs.getD k [], m := m }) o.dst (hfixed I)))) hcnt'⟩
    ·simp at hst'
theorem VW.drawF {s : AS} (ok : POk P) {id : Nat} (hD : DrawOkF F ops.toList (bR ops.toList [])) (hr : runR P Γ s.m ops.toList Wk FixOk ops.toList s.t s.h tF hs ts)
  (hq : uZ P Γ F ops.toList (bR ops.toList []) tF hs ts) (hF : ∀ j o, ops.toList[j]? = some o → memN j F = true → hs.getD (j + 1) [] = hs.getD j []) (hQ : Q .normal { t := tF, h := hs.getD ops.size [], m := s.m }) : VW P Γ X r (.region id ops true) Q s := by
 obtain ⟨g1, g2, g3, g4, _⟩ := fU _ _ _ _ _ _ hr
 have h0 : hs.getD 0 [] = s.h := by simp [List.getD_eq_getElem?_getD, g3]
 intro a w hst
 refine wpIn_region_any ok.mixed ?_
 rw [← h0] at hr
 refine ql (t0 := s.t) (hs := hs) hD hr hq hF hQ ops.size 0 _ a _ ?_ ?_
 ·have hrep : ∀ j, (ES ops.size false).getD j false = false := by
   intro j
   simp only [CK, Array.getElem?_replicate]
   split <;> rfl
  refine ⟨by simp, fun k o hk _ _ _ _ => ?_, ?_, by simp [gz], fun c o _ _ => ?_⟩
  ·unfold Lst at hk; rw [hrep] at hk; cases hk
  ·have e1 : dc ops.toList (ES ops.size false) s.t tF = s.t := by
    refine a7 (by rw [ax, g1]) fun x hx => ?_
    rw [ax] at hx
    rw [eu hx]
    split
    ·rfl
    ·rename_i hp
     refine g2 x fun o ho hd => hp ?_
     obtain ⟨k, hk⟩ := List.mem_iff_getElem?.1 ho
     exact cE.2 ⟨k, o, hk, hd, hrep k⟩
   rw [e1, h0]
   obtain ⟨l, R, E, rt, rd⟩ := hst
   obtain ⟨R', E'⟩ := R.of_heap (w' := { w with drawn := w.drawn + 1 }) rfl ⟨rfl, rfl, rfl, (by first | exact Cy _ | exact Eb _)⟩
   exact ⟨l, R', E.trans E', E'.relL rt, rd⟩
  ·unfold Lst
   rw [hrep]
   simp
 ·refine Nat.le_trans List.countP_le_length (by simp)
end
end Go.Vi
