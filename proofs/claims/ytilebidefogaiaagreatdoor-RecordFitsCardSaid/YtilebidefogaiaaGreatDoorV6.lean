/- RecordFits: part of the proof: an evaluator of the model's programs on abstract values, and its soundness. No conditions beyond the given statement's own. -/
import Derived.Test.YtilebidefogaiaaGreatDoorV5
open Go.Vi.Ref renaming blk → GB
open Option renaming map_some → D9, map_eq_some_iff → Dq, getD_some → ED
open Option.some renaming injEq → Df
open List renaming mem_map → DL, all_cons → FH, getElem?_eq_some_iff → Dm, getElem?_append_left → DB, getElem?_eq_none → EH, getElem?_set_ne → Gf, all_eq_true → DX, mem_filter → FM, mk_mem_zipIdx_iff_getElem? → EO, range → Ef, mem_cons → D2, filter_eq_nil_iff → FB, mem_append → EJ
open Nat renaming le_refl → DH, le_succ → Fs
open Bool renaming and_eq_true → Dl, false_eq_true → D8, not_eq_true' → EL, eq_false_iff → Fh
open Go.Vi.Blk renaming inn → Dy, mapR → Fb, vec → Gh
open Go.Vi.D renaming mapRL → D6
open Prod.mk renaming injEq → Di
open Go.Vi.DefOk renaming mono → Hn
open Go.Region renaming binds → Ew, ready → FK, wanted → Ei
open Array renaming getD_eq_getD_getElem? → D1, getElem?_eq_getElem → D4, all_eq_true_iff_forall_mem → E9, replicate → Gg
open Classical renaming byContradiction → Et
open Go.Vi.St renaming unfix → IP
namespace Go.Vi
open Go
def dh (b e : Nat) (rows : List (List Dp)) (r : Ref) : D := match r.blk == b with
 | false => .ref r
 | true => match r with
  | .vec _ e1 => match e1 == e with
   | true => .p (.sl rows)
   | false => .any
  | _ => .any
def au (b e k : Nat) (r : Ref) : D := match r.blk == b with
 | false => .ref r
 | true => match r with
  | .vec _ e1 => match e1 == e with
   | true => .ref (.vec b k)
   | false => .any
  | .vs _ e1 i n c => match e1 == e with
   | true => .ref (.vs b k i n c)
   | false => .any
  | .vp _ e1 i j => match e1 == e with
   | true => .ref (.vp b k i j)
   | false => .any
  | _ => .any
section
variable {Γ : am} {O : Nat → Prop} {w w0 : World} {l l0 : Loc} {h h0 : List Blk} {b : Nat}
theorem gg {av av' : Nat → Prop} (ha : ∀ k, av' k → av k) {blk : Nat} (hb : ¬ av' blk) : ∀ (e : List Dp) (off : Nat), CellsAt w av l h blk off (e.map .p) → RelCells w av' blk off e
 | [], _, _ => trivial
 | d :: ds, off, c => by
  obtain ⟨y, h1, h2⟩ := c 0 (.p d) (by simp)
  refine ⟨⟨hb, y, by simpa using h1, dK ha (by simpa [Rel] using h2)⟩, gg ha hb ds (off + 1) fun j d' hd => ?_⟩
  obtain ⟨y', h3, h4⟩ := c (j + 1) d' (by simpa using hd)
  exact ⟨y', by rw [← h3]; congr 2; omega, h4⟩
theorem iI {av : Nat → Prop} {blk c : Nat} : ∀ (es : List (List Dp)) (off : Nat), (∀ i e, es[i]? = some e → e.length = c ∧ RelCells w av blk (off + i * c) e) → RelRows w av blk c off es
 | [], _, _ => trivial
 | e :: es, off, h => by
  obtain ⟨h1, h2⟩ := h 0 e rfl
  refine ⟨h1, by simpa using h2, iI es (off + c) fun i e' he => ?_⟩
  obtain ⟨h3, h4⟩ := h (i + 1) e' (by simpa using he)
  refine ⟨h3, ?_⟩
  rw [show off + c + i * c = off + (i + 1) * c by rw [Nat.add_mul]; omega]
  exact h4
theorem Az (R : Rep Γ O w l h) {rows : List (List Dp)} {e sz : Nat} (hb : h[b]? = some (.vec (rows.map (·.map .p)) e sz)) {r : Ref} {y : Value} (rr : RefRel l h r y)
  {f : Ref → D} : Rel w (avs O l (mapH f b .gone h)) l (mapH f b .gone h) (dh b e rows r) y := by
 unfold dh
 split
 ·rename_i hr
  simp only [Rel]
  exact eN (by simpa using hr) rr
 ·rename_i hr
  split
  ·rename_i b1 e1
   split
   ·rename_i he
    have hr : b1 = b := by simpa [GB] using hr
    have he : e1 = e := by simpa using he
    subst hr; subst he
    have hk := R.blk _ _ hb
    unfold RefRel at rr
    simp only [hb] at rr
    have hv := rr.2.2 trivial
    unfold BlkOk at hk
    simp only at hk
    simp only [Rel, RelP]
    cases hl : l b1 with
    | none =>
     rw [hl] at hv hk
     simp only [lD] at hv hk
     exact .inl ⟨by simpa using hk, none, 0, hv.2, fun _ => rfl⟩
    | some p =>
     obtain ⟨blk, cap⟩ := p
     rw [hl] at hv hk
     simp only [lD] at hv hk
     obtain ⟨c, T, fr, ys, q1, q2, q3, q4, q5, q6, rest, q7⟩ := hk
     refine .inr ⟨blk, 0, cap, sz, by simpa using hv.1, by simpa using hv.2, ?_⟩
     have hcell : ¬ avs O l (Vi.mapH f b1 .gone h) blk := by
      rintro (ho | ⟨i, x, cp, h1, h2, h3⟩)
      ·exact (R.inb blk ⟨b1, _, cap, hb, by simp, hl⟩).2 ho
      ·by_cases hi : i = b1
       ·subst hi; rw [kl hb] at h1; cases h1; exact h2 rfl
       ·rw [ft hi] at h1
        cases hx : h[i]? with
        | none => rw [hx] at h1; simp at h1
        | some z =>
         rw [hx] at h1
         simp only [D9, Df] at h1
         subst h1
         exact hi (R.inj i b1 z _ blk cp cap hx (fun e => h2 (kj.2 e)) hb (by simp) h3 hl)
     refine iI rows 0 fun i e1 he1 => ?_
     have hlen : e1.length = sz := by
      have := q5 (e1.map .p) (DL.2 ⟨e1, List.mem_of_getElem? he1, rfl⟩)
      simpa using this
     refine ⟨hlen, gg (l := l) (h := h) (av := avs O l h) (av' := avs O l (Vi.mapH f b1 .gone h)) (fun _ ho => gH hb (by simp) ho) hcell e1 _ ?_⟩
     rw [Nat.zero_add]
     exact (CellsAt.of_rel (loc := l) (h := h) q1 q7 q6).row q5 (by rw [List.getElem?_map, he1]; rfl)
   ·simp [Rel]
  ·simp [Rel]
theorem AA {es es' : List (List D)} (hlen : es'.length = es.length) {e k sz : Nat} (hb : h[b]? = some (.vec es e sz)) {av : Nat → Prop} {r : Ref} {y : Value} (rr : RefRel l h r y) {f : Ref → D} :
  Rel w av l (mapH f b (.vec es' k sz) h) (au b e k r) y := by
 have hb' : (mapH f b (.vec es' k sz) h)[b]? = some (.vec es' k sz) := kl hb
 unfold au
 split
 ·rename_i hr
  simp only [Rel]
  exact eN (by simpa using hr) rr
 ·rename_i hr
  split
  ·rename_i b1 e1
   split
   ·rename_i he
    have hr : b1 = b := by simpa [GB] using hr
    have he : e1 = e := by simpa using he
    subst hr; subst he
    unfold RefRel at rr
    simp only [hb] at rr
    simp only [Rel]
    unfold RefRel
    simp only [hb']
    exact ⟨rr.1, DH _, fun _ => by rw [hlen]; exact rr.2.2 trivial⟩
   ·simp [Rel]
  ·rename_i b1 e1 i n c
   split
   ·rename_i he
    have hr : b1 = b := by simpa [GB] using hr
    have he : e1 = e := by simpa using he
    subst hr; subst he
    unfold RefRel at rr
    simp only [hb] at rr
    simp only [Rel]
    unfold RefRel
    simp only [hb']
    exact ⟨rr.1, DH _, fun _ => by rw [hlen]; exact rr.2.2 trivial⟩
   ·simp [Rel]
  ·rename_i b1 e1 i j
   split
   ·rename_i he
    have hr : b1 = b := by simpa [GB] using hr
    have he : e1 = e := by simpa using he
    subst hr; subst he
    unfold RefRel at rr
    simp only [hb] at rr
    simp only [Rel]
    unfold RefRel
    simp only [hb']
    exact ⟨rr.1, DH _, fun _ => rr.2.2 trivial⟩
   ·simp [Rel]
  ·simp [Rel]
end
end Go.Vi
namespace Go.Vi
open Go
inductive SOp where
 | mask (ks : List Nat)
 | trim (k : Nat)
 | trimV (k : Nat)
 | frz (b : Nat) (rows : List (List Dp))
 | ren (b k : Nat)
 | nilT (i sz : Nat)
 | nilC (b off sz : Nat)
def AllP : List Prop → Prop
 | [] => True
 | p :: ps => p ∧ AllP ps
theorem AllP.n : AllP [] := trivial
theorem AllP.c {p : Prop} {ps : List Prop} (h : p) (hs : AllP ps) : AllP (p :: ps) := ⟨h, hs⟩
theorem AllP.e {ps : List Prop} (d : D) (hs : AllP ps) : AllP ((d = d) :: ps) := ⟨rfl, hs⟩
theorem AllP.append {ps qs : List Prop} (h : AllP (ps ++ qs)) : AllP ps ∧ AllP qs := by
 induction ps with
 | nil => exact ⟨trivial, h⟩
 | cons p ps ih => exact ⟨⟨h.1, (ih h.2).1⟩, (ih h.2).2⟩
def vv (x : Nat) : List Nat → Bool
 | [] => false
 | y :: ys => x == y || vv x ys
theorem eO {x : Nat} : ∀ {ys : List Nat}, vv x ys = true ↔ x ∈ ys
 | [] => by simp [vv]
 | y :: ys => by simp [vv, eO (ys := ys)]
def qZ (ks : List Nat) : Nat → List D → List D
 | _, [] => []
 | i, d :: ds => (match vv i ks with | true => d | false => .any) :: qZ ks (i + 1) ds
theorem nM (ks : List Nat) : ∀ (i : Nat) (t : List D), (qZ ks i t).length = t.length ∧ ∀ x, Wk (t.getD x .any) ((qZ ks i t).getD x .any)
 | _, [] => ⟨rfl, fun x => Wk.refl _⟩
 | i, d :: ds => by
  obtain ⟨h1, h2⟩ := nM ks (i + 1) ds
  refine ⟨by simp [qZ, h1], fun x => ?_⟩
  cases x with
  | zero =>
   simp only [qZ, List.getD_cons_zero]
   split
   ·exact Wk.refl _
   ·exact fun _ _ _ _ _ _ => by simp [Rel]
  | succ x => simpa [qZ] using h2 x
def vw (ks : List Nat) (s : AS) : AS := { t := qZ ks 0 s.t, h := s.h, m := s.m }
theorem DefOk.take {D0 : List Deferred} {l : Loc} {h : List Blk} {k : Nat} : ∀ {bs : List Nat} {ds : List Deferred}, (bs.all fun b => decide (b < k)) = true → DefOk D0 l h bs ds → DefOk D0 l (h.take k) bs ds
 | [], _, _, r => r
 | b :: bs, d :: ds, hb, r => by
  simp only [DefOk, FH, Dl, decide_eq_true_eq] at r hb ⊢
  obtain ⟨⟨blk, cp, h1, h2, h3⟩, h4⟩ := r
  exact ⟨⟨blk, cp, by rw [take_get hb.1]; exact h1, h2, h3⟩, DefOk.take (by simpa using hb.2) h4⟩
 | _ :: _, [], _, r => by simp [DefOk] at r
theorem Ext.takeN {w0 w : World} {l0 l : Loc} {h0 h : List Blk} {k : Nat} (hk : h0.length ≤ k) (E : Ext w0 l0 h0 w l h) : Ext w0 l0 h0 w l (h.take k) where
 size := E.size
 same := E.same
 news blk ho := E.news blk (jF ho)
 keep b x hb := by
  have : b < h0.length := by
   rw [Dm] at hb
   exact hb.1
  rw [take_get (by omega)]
  exact E.keep b x hb
 tape := E.tape
def Blk.innC (k : Nat) : Blk → Bool
 | .vec _ _ _ => true
 | .map _ _ => true
 | x => Dy k x
def Blk.innP (k : Nat) : Blk → List Prop
 | .vec es _ _ => [es.all (D.innL k) = true]
 | .map kvs _ => [(kvs.all fun e => D.inn k e.1 && D.inn k e.2.1) = true]
 | _ => []
def yd (k : Nat) : List Blk → List Prop
 | [] => []
 | x :: xs => Blk.innP k x ++ yd k xs
theorem AB {k : Nat} {x : Blk} (h1 : Blk.innC k x = true) (h2 : AllP (Blk.innP k x)) : Dy k x = true := by
 cases x <;> first | exact h1 | exact h2.1
theorem sC {k : Nat} : ∀ {h : List Blk}, h.all (Blk.innC k) = true → AllP (yd k h) → h.all (Dy k) = true
 | [], _, _ => rfl
 | x :: xs, h1, h2 => by
  simp only [FH, Dl] at h1 ⊢
  simp only [yd] at h2
  obtain ⟨p1, p2⟩ := h2.append
  exact ⟨AB h1.1 p1, sC h1.2 p2⟩
def trimC (k : Nat) (s : AS) : Option AS := match D.innL k s.t && (s.h.take k).all (Blk.innC k) && s.m.all (fun b => decide (b < k)) with
 | true => some { t := s.t, h := s.h.take k, m := s.m }
 | false => none
def kn (f : Ref → D) : Blk → List Prop
 | .vec es _ _ => [es.map (D6 f) = es]
 | .map kvs _ => [kvs.map (fun e => (D.mapR f e.1, D.mapR f e.2.1, e.2.2)) = kvs]
 | _ => []
def keepX (f : Ref → D) : Blk → Blk
 | .vec es e sz => .vec es e sz
 | .map kvs c => .map kvs c
 | x => x.mapR f
theorem gJ {f : Ref → D} {x : Blk} (h : AllP (kn f x)) : keepX f x = x.mapR f := by
 cases x <;> simp only [keepX, Fb]
 ·rw [h.1]
 ·rw [h.1]
def pz (f : Ref → D) (b : Nat) (xb : Blk) : Nat → List Blk → List Blk
 | _, [] => []
 | i, x :: xs => (match i == b with | true => xb | false => keepX f x) :: pz f b xb (i + 1) xs
def t6 (f : Ref → D) (b : Nat) : Nat → List Blk → List Prop
 | _, [] => []
 | i, x :: xs => (match i == b with | true => [] | false => kn f x) ++ t6 f b (i + 1) xs
theorem pA {f : Ref → D} {b : Nat} {xb : Blk} : ∀ (i : Nat) (h : List Blk), AllP (t6 f b i h) → ∀ j, (pz f b xb i h)[j]? = if i + j = b then (h[j]?).map (fun _ => xb) else (h[j]?).map (Fb f)
 | i, [], _, j => by simp [pz]
 | i, x :: xs, hp, j => by
  simp only [t6] at hp
  obtain ⟨p1, p2⟩ := hp.append
  cases j with
  | zero =>
   simp only [pz, List.getElem?_cons_zero, Nat.add_zero, D9]
   by_cases hi : i = b
   ·simp [hi]
   ·have : (i == b) = false := by simpa using hi
    rw [this] at p1 ⊢
    simp [hi, gJ p1]
  | succ j =>
   simp only [pz, List.getElem?_cons_succ]
   rw [pA (i + 1) xs p2 j]
   rw [show i + 1 + j = i + (j + 1) by omega]
theorem sD {f : Ref → D} {b : Nat} {xb x0 : Blk} {h : List Blk} (hb : h[b]? = some x0) (hp : AllP (t6 f b 0 h)) : pz f b xb 0 h = mapH f b xb h := by
 apply List.ext_getElem?
 intro j
 rw [pA 0 h hp j]
 by_cases hj : j = b
 ·subst hj; rw [kl hb, hb]; simp
 ·rw [ft hj, if_neg (by omega)]
def AC (k : Nat) : List Blk → List Prop
 | [] => []
 | x :: xs => (Dy k x = true) :: AC k xs
theorem sG {k : Nat} : ∀ {h : List Blk}, AllP (AC k h) → h.all (Dy k) = true
 | [], _ => rfl
 | x :: xs, h => by
  simp only [FH, Dl]
  exact ⟨h.1, sG h.2⟩
def zO (k : Nat) (s : AS) : Option AS := match D.innL k s.t && s.m.all (fun b => decide (b < k)) with
 | true => some { t := s.t, h := s.h.take k, m := s.m }
 | false => none
def renOk (h0 : List Blk) (b k : Nat) : Bool := match h0[b]? with
 | some (.vec _ e0 _) => decide (e0 < k)
 | some _ => false
 | none => true
def ye : D → Bool
 | .p (.v (.slice none 0 0)) => true
 | _ => false
def SOp.app (h0 : List Blk) : SOp → AS → Option (AS × List Prop)
 | .mask ks, s => some (vw ks s, [])
 | .trim k, s => match decide (h0.length ≤ k) with
  | true => match trimC k s with
   | some s' => some (s', yd k (s.h.take k))
   | none => none
  | false => none
 | .trimV k, s => match decide (h0.length ≤ k) with
  | true => match zO k s with
   | some s' => some (s', AC k (s.h.take k))
   | none => none
  | false => none
 | .frz b rows, s => match s.h[b]? with
  | some (.vec es e _) => some ({ t := D6 (dh b e rows) s.t, h := pz (dh b e rows) b .gone 0 s.h, m := s.m }, (es = rows.map (·.map .p)) :: t6 (dh b e rows) b 0 s.h)
  | _ => none
 | .ren b k, s => match s.h[b]? with
  | some (.vec es e sz) => match renOk h0 b k with
   | true => some ({ t := D6 (au b e k) s.t, h := pz (au b e k) b (.vec es k sz) 0 s.h, m := s.m }, (es.map (D6 (au b e k)) = es) :: t6 (au b e k) b 0 s.h)
   | false => none
  | _ => none
 | .nilT i sz, s => match ye (s.t.getD i .any) && aw (s.h ++ [Gh [] 0 sz]) s.m with
  | true => some ({ t := s.t.set i (.ref (.vec s.h.length 0)), h := s.h ++ [Gh [] 0 sz], m := s.m }, [])
  | false => none
 | .nilC b off sz, s => match s.h[b]? with
  | some (.var cs) => match ye (cs.getD off .any) && (aw (s.h ++ [Gh [] 0 sz]) s.m && aw ((s.h ++ [Gh [] 0 sz]).set b (.var (cs.set off (.ref (.vec s.h.length 0))))) s.m) with
   | true => some ({ t := s.t, h := (s.h ++ [Gh [] 0 sz]).set b (.var (cs.set off (.ref (.vec s.h.length 0)))), m := s.m }, [])
   | false => none
  | _ => none
section
variable {Γ : am} {X : Ctx} {s s' : AS} {a : Act} {w : World}
theorem DefOk.mapH {D0 : List Deferred} {l : Loc} {h : List Blk} {f : Ref → D} {b : Nat} {xb x0 : Blk} (hb : h[b]? = some x0) (hd : x0 ≠ .defd) : ∀ {bs : List Nat} {ds : List Deferred}, DefOk D0 l h bs ds → DefOk D0 l (mapH f b xb h) bs ds
 | [], _, r => r
 | i :: bs, d :: ds, r => by
  simp only [DefOk] at r ⊢
  obtain ⟨⟨blk, cp, h1, h2, h3⟩, h4⟩ := r
  refine ⟨⟨blk, cp, ?_, h2, h3⟩, DefOk.mapH hb hd h4⟩
  by_cases hi : i = b
  ·subst hi; rw [hb] at h1; cases h1; exact absurd rfl hd
  ·rw [ft hi, h1]; rfl
 | _ :: _, [], r => by simp [DefOk] at r
theorem kp {w : World} {av : Nat → Prop} {l : Loc} {h : List Blk} {d : D} : ∀ {t : List D} {ys : List Value} (i : Nat), RelL w av l h t ys → (∀ y, Rel w av l h (t.getD i .any) y → Rel w av l h d y) → RelL w av l h (t.set i d) ys
 | [], [], _, _, _ => by simp [RelL]
 | [], _ :: _, _, r, _ => by simp [RelL] at r
 | _ :: _, [], _, r, _ => by simp [RelL] at r
 | x :: xs, y :: ys, 0, r, hd => by
  simp only [RelL, List.set_cons_zero] at r ⊢
  exact ⟨hd y r.1, r.2⟩
 | x :: xs, y :: ys, i + 1, r, hd => by
  simp only [RelL, List.set_cons_succ] at r ⊢
  exact ⟨r.1, kp i r.2 (by simpa using hd)⟩
theorem sH {w0 : World} {l0 l : Loc} {h0 h : List Blk} {O : Nat → Prop} (sz : Nat) (R : Rep Γ O w l h) (E : Ext w0 l0 h0 w l h) :
  ∃ l', Rep Γ O w l' (h ++ [Gh [] 0 sz]) ∧ Ext w0 l0 h0 w l' (h ++ [Gh [] 0 sz]) ∧ Ext w l h w l' (h ++ [Gh [] 0 sz]) ∧ l' h.length = none := by
 obtain ⟨R', E'⟩ := Rep.step (l' := fun k => if k = h.length then none else l k) (h' := h ++ [Gh [] 0 sz]) R h.length (.vec [] 0 sz) (DH _) ⟨rfl, rfl, rfl, (by first | exact DH _ | exact Fs _)⟩
  (fun b hb => by
   by_cases hlt : b < h.length
   ·rw [DB hlt]
   ·rw [EH (by simp; omega), EH (by omega)])
  (by simp) (fun b hb => by simp [hb]) (fun x hx => by simp at hx) (fun _ _ _ => rfl) (fun k c hk => by simp at hk) (fun _ => by simp [BlkOk])
 exact ⟨_, R', E.trans E', E', by simp⟩
theorem pB {w : World} {av : Nat → Prop} {l : Loc} {h : List Blk} {d : D} {y : Value} (hd : ye d = true) (r : Rel w av l h d y) : y = .slice none 0 0 := by
 unfold ye at hd
 split at hd
 ·simpa [Rel, RelP] using r
 ·simp at hd
theorem vz {w : World} {av : Nat → Prop} {l : Loc} {h : List Blk} {b sz : Nat} (hb : h[b]? = some (.vec [] 0 sz)) (hl : l b = none) : Rel w av l h (.ref (.vec b 0)) (.slice none 0 0) := by
 simp only [Rel]
 unfold RefRel
 simp only [hb]
 refine ⟨by simp [Value.oneCell'], DH _, fun _ => ?_⟩
 rw [hl]
 exact ⟨rfl, rfl⟩
theorem SOp.sound {o : SOp} {φ : List Prop} (ha : o.app X.h s = some (s', φ)) (hp : AllP φ) (hs : St Γ X s a w) : St Γ X s' a w := by
 cases o with
 | mask ks =>
  simp only [SOp.app, Df, Di] at ha
  obtain ⟨rfl, _⟩ := ha
  obtain ⟨k1, k2⟩ := nM ks 0 s.t
  exact hs.wk k1 k2
 | trim k =>
  simp only [SOp.app] at ha
  split at ha
  case h_2 => simp at ha
  rename_i hk
  split at ha
  case h_2 => simp at ha
  rename_i s1 ht
  simp only [Df, Di] at ha
  obtain ⟨rfl, rfl⟩ := ha
  unfold trimC at ht
  split at ht
  case h_2 => simp at ht
  rename_i hb
  simp only [Dl] at hb
  cases ht
  obtain ⟨l, R, E, rt, rd⟩ := hs
  exact ⟨l, R.take (sC hb.1.2 hp), E.takeN (by simpa using hk), bW (fun _ => fJ) hb.1.1 rt, rd.take hb.2⟩
 | trimV k =>
  simp only [SOp.app] at ha
  split at ha
  case h_2 => simp at ha
  rename_i hk
  split at ha
  case h_2 => simp at ha
  rename_i s1 ht
  simp only [Df, Di] at ha
  obtain ⟨rfl, rfl⟩ := ha
  unfold zO at ht
  split at ht
  case h_2 => simp at ht
  rename_i hb
  simp only [Dl] at hb
  cases ht
  obtain ⟨l, R, E, rt, rd⟩ := hs
  exact ⟨l, R.take (sG hp), E.takeN (by simpa using hk), bW (fun _ => fJ) hb.1 rt, rd.take hb.2⟩
 | frz b rows =>
  simp only [SOp.app] at ha
  split at ha
  case h_2 => simp at ha
  rename_i es e sz hb
  simp only [Df, Di] at ha
  obtain ⟨rfl, rfl⟩ := ha
  obtain ⟨rfl, hp⟩ := hp
  obtain ⟨l, R, E, rt, rd⟩ := hs
  refine ⟨l, ?_⟩
  simp only [sD hb hp]
  have hf := fun (r : Ref) (y : Value) (rr : RefRel l s.h r y) => Az R hb rr (f := dh b e rows)
  refine ⟨R.mapH hb (by simp) hf (by simp [BlkOk]) (fun y hr => ?_), E.mapH hb (by simp) (fun x _ _ => ⟨by cases x <;> simp [Blk.le], fun h => by cases x <;> simp [Blk.stays] at h⟩),
   ck (fun _ ho => gH hb (by simp) ho) hf rt, rd.mapH hb (by simp)⟩
  unfold RefRel at hr
  simp [hb] at hr
 | ren b k =>
  simp only [SOp.app] at ha
  split at ha
  case h_2 => simp at ha
  rename_i es e sz hb
  split at ha
  case h_2 => simp at ha
  rename_i hk
  simp only [Df, Di] at ha
  obtain ⟨rfl, rfl⟩ := ha
  obtain ⟨he, hp⟩ := hp
  obtain ⟨l, R, E, rt, rd⟩ := hs
  refine ⟨l, ?_⟩
  simp only [sD hb hp]
  have hm : ∀ y, ¬ RefRel l s.h (.mp b) y := fun y hr => by
   unfold RefRel at hr
   simp [hb] at hr
  have ha' : ∀ k', avs X.O l (mapH (au b e k) b (.vec es k sz) s.h) k' → avs X.O l s.h k' := fun _ ho => gH hb (by simp) ho
  have hf : ∀ (r : Ref) (y : Value), RefRel l s.h r y → Rel w (avs X.O l (mapH (au b e k) b (.vec es k sz) s.h)) l (mapH (au b e k) b (.vec es k sz) s.h) (au b e k r) y :=
   fun r y rr => AA rfl hb rr
  have hbk := mm ha' hf (fun c y hr => by
    by_cases hc : c = b
    ·subst hc; exact absurd hr (hm y)
    ·exact eN (by simpa [GB] using hc) hr) (R.blk b _ hb)
  simp only [Fb, he] at hbk
  refine ⟨R.mapH hb (by simp) hf (by unfold BlkOk at hbk ⊢; exact hbk) hm, E.mapH hb (by simp) (fun x hx hle => ?_), ck ha' hf rt, rd.mapH hb (by simp)⟩
  unfold renOk at hk
  rw [hx] at hk
  cases x with
  | vec es0 e0 sz0 =>
   simp only [decide_eq_true_eq] at hk
   simp only [Blk.le] at hle ⊢
   simp only [Blk.stays]
   exact ⟨⟨by omega, fun h => by omega, hle.2.2⟩, fun h => by omega⟩
  | _ => simp at hk
 | nilT i sz =>
  simp only [SOp.app] at ha
  split at ha
  case h_2 => simp at ha
  rename_i hn
  simp only [Dl] at hn
  simp only [Df, Di] at ha
  obtain ⟨rfl, _⟩ := ha
  obtain ⟨l, R, E, rt, rd⟩ := hs
  obtain ⟨l', R', E', E2, hl⟩ := sH sz R E
  refine ⟨l', R', E', ?_, Hn E2.keep hn.2 rd⟩
  have rt' := E2.relL rt
  refine kp i rt' fun y hy => ?_
  obtain rfl := pB hn.1 hy
  exact vz (sz := sz) (by simp) hl
 | nilC b off sz =>
  simp only [SOp.app] at ha
  split at ha
  case h_2 => simp at ha
  rename_i cs hb
  split at ha
  case h_2 => simp at ha
  rename_i hn
  simp only [Dl] at hn
  simp only [Df, Di] at ha
  obtain ⟨rfl, _⟩ := ha
  obtain ⟨l, R, E, rt, rd⟩ := hs
  obtain ⟨l', R', E', E2, hl⟩ := sH sz R E
  have hlt := (Dm.1 hb).1
  have hb' : (s.h ++ [Gh [] 0 sz])[b]? = some (.var cs) := by rw [DB hlt]; exact hb
  obtain ⟨R3, E3⟩ := Rep.step (w' := w) (l' := l') (h' := (s.h ++ [Gh [] 0 sz]).set b (.var (cs.set off (.ref (.vec s.h.length 0))))) R' b (.var (cs.set off (.ref (.vec s.h.length 0)))) (DH _) ⟨rfl, rfl, rfl, (by first | exact DH _ | exact Fs _)⟩
   (fun i hi => by rw [Gf (Ne.symm hi)]) (by rw [List.getElem?_set_self (by simp; omega)]) (fun _ _ => rfl) (fun x hx => by rw [hb'] at hx; cases hx; simp [Blk.le])
   (fun _ _ _ => rfl) (fun k c hk => .inl ⟨_, c, hb', by simp, hk⟩) (fun E3 => by
    obtain ⟨blk, cp, c, T, q1, q2, q3⟩ := R'.blk b _ hb'
    refine ⟨blk, cp, c, T, q1, q2, kp off (E3.relL q3) fun y hy => ?_⟩
    obtain rfl := pB hn.1 hy
    refine vz (sz := sz) ?_ hl
    rw [Gf (by omega)]
    simp)
  exact ⟨l', R3, E'.trans E3, E3.relL (E2.relL rt), Hn E3.keep hn.2.2 (Hn E2.keep hn.2.1 rd)⟩
end
end Go.Vi
namespace Go.Vi
open Go
def notRef : D → Bool
  | .ref _ => false
  | _ => true
def heapless : Op → Bool
  | .move _ | .assign _ | .pick .. | .build .. | .binOp .. | .unOp .. | .convert .. | .makeFunc .. | .field .. | .index .. | .extract .. => true
  | .call { callee := .builtin b, .. } => match b with
    | .max | .min => true
    | _ => false
  | _ => false
section
variable {P : Program} {Γ : am} {t : List D} {h : List Blk}
theorem cm {o : Op} (ho : heapless o = true) {ok : Bool} {d : D} {h' : List Blk} (hs : opSem P Γ t h o = some (ok, d, h')) (g : List Blk) : ∃ g', opSem P Γ t g o = some (ok, d, g') := by
  cases o <;> simp only [heapless, D8] at ho <;> simp only [opSem, Dq, keep, keepB, Di, Df] at hs ⊢
  case call c =>
    obtain ⟨callee, args, ats⟩ := c
    cases callee with
    | builtin b =>
      cases b <;> simp only [heapless, D8] at ho <;> simp only [opSem] at hs ⊢ <;> unfold builtinD at hs ⊢ <;> split at hs <;> simp_all [keep] <;> (obtain ⟨a, h1, h2, h3, _⟩ := hs; exact ⟨g, a, h1, h2, h3, rfl⟩)
    | _ => simp [heapless] at ho
  case binOp op ty x y yt =>
    split at hs
    · simp only [Df, Di] at hs ⊢
      exact ⟨g, hs.1, hs.2.1, rfl⟩
    · split at hs
      · simp only [Df, Di] at hs ⊢
        exact ⟨g, hs.1, hs.2.1, rfl⟩
      · simp only [Dq, keep, Di] at hs ⊢
        obtain ⟨a, h1, h2, h3, _⟩ := hs
        exact ⟨g, a, h1, h2, h3, rfl⟩
  case extract x i =>
    split at hs
    · simp only [Dq, keep, Di] at hs ⊢
      obtain ⟨a, h1, h2, h3, _⟩ := hs
      exact ⟨g, a, h1, h2, h3, rfl⟩
    · simp at hs
  all_goals first
    | (obtain ⟨h1, h2, _⟩ := hs; exact ⟨g, h1, h2, rfl⟩)
    | (obtain ⟨a, h1, h2, h3, _⟩ := hs; exact ⟨g, a, h1, h2, h3, rfl⟩)
theorem pC {ty : TypeId} {x : D} (hx : notRef x = true) (g : List Blk) : bp P g ty x = bp P h ty x := by
  cases x <;> first | rfl | simp [notRef] at hx
theorem kq {x : D} (hx : notRef x = true) (g : List Blk) : lenD g x = lenD h x := by
  cases x with
  | p y =>
    unfold lenD
    split <;> first | rfl | simp_all
  | fn f a c => cases f <;> rfl
  | ref r => simp [notRef] at hx
  | _ => rfl
theorem jk {n : Nat} {x : D} (hx : notRef x = true) (g : List Blk) : oS g n x = oS h n x := by
  cases x <;> first | rfl | simp [notRef] at hx
theorem jy {x : D} (hx : notRef x = true) (g : List Blk) : dc g x = dc h x := by
  cases x with
  | p y =>
    unfold dc
    split <;> first | rfl | simp_all
  | fn f a c => cases f <;> rfl
  | ref r => simp [notRef] at hx
  | _ => rfl
theorem pD {x : D} (hx : notRef x = true) (g : List Blk) : jV g x = jV h x := by
  cases x with
  | p y =>
    unfold jV
    split <;> first | rfl | simp_all
  | fn f a c => cases f <;> rfl
  | ref r => simp [notRef] at hx
  | _ => rfl
theorem nN {x : D} (hx : notRef x = true) (g : List Blk) : fX g x = fX h x := by
  cases x <;> first | rfl | simp [notRef] at hx
theorem kr {x : D} {sz n : Nat} {l u : Int} {mx : Option Int} (hx : notRef x = true) (g : List Blk) : sliceRow g x sz n l u mx = sliceRow h x sz n l u mx := by
  cases x with
  | p y =>
    unfold sliceRow
    split <;> first | rfl | simp_all
  | fn f a c => cases f <;> rfl
  | ref r => simp [notRef] at hx
  | _ => rfl
theorem ku {x : D} {len : Nat} {e : TypeId} {l : Int} {hi : Option D} {mx : Option Int} (hx : notRef x = true) (g : List Blk) : fG P g len e x l hi mx = fG P h len e x l hi mx := by
  cases x <;> first | rfl | simp [notRef] at hx
theorem pE {ty : TypeId} {x : D} (hx : notRef x = true) (g : List Blk) : tK P g ty x = tK P h ty x := by
  unfold tK
  simp only [kq (h := h) hx g]
  cases P.underlying ty with
  | none => rfl
  | some ud =>
    cases ud <;> first
      | rfl
      | (dsimp only
         cases x with
         | p y =>
           split <;> first | rfl | simp_all
         | ref r => simp [notRef] at hx
         | _ => rfl)
def headOf : Op → Option Operand
  | .load _ a => some a
  | .nilCheck x => some x
  | .slice _ x _ _ _ => some x
  | .fieldAddr _ x _ => some x
  | .indexAddr _ x _ => some x
  | .lookup _ x _ _ => some x
  | .entry x => some x
  | .call { callee := .builtin .len, args, .. } => match args.toList with
    | [x] => some x
    | _ => none
  | _ => none
theorem dd {o : Op} (hq : quietOp o = true) {x : Operand} (hx : headOf o = some x) (hn : notRef (evalD Γ t x) = true) {ok : Bool} {d : D} {h' : List Blk} (hs : opSem P Γ t h o = some (ok, d, h')) (g : List Blk) : ∃ g', opSem P Γ t g o = some (ok, d, g') := by
  cases o <;> simp only [headOf, Df, reduceCtorEq] at hx
  case load ty a =>
    subst hx
    simp only [opSem, Dq, keep, Di] at hs ⊢
    obtain ⟨a, h1, h2, h3, _⟩ := hs
    exact ⟨g, a, by rw [pC (h := h) hn]; exact h1, h2, h3, rfl⟩
  case nilCheck a =>
    subst hx
    simp only [opSem, Dq, keep, Di] at hs ⊢
    obtain ⟨a, h1, h2, h3, _⟩ := hs
    exact ⟨g, a, by rw [jy (h := h) hn]; exact h1, h2, h3, rfl⟩
  case slice ty a lo hi mx =>
    subst hx
    simp only [opSem, Dq, keepB, Di] at hs ⊢
    obtain ⟨a, h1, h2, h3, _⟩ := hs
    refine ⟨g, a, ?_, h2, h3, rfl⟩
    unfold oY at h1 ⊢
    simp only [kq (h := h) hn g, kr (h := h) hn g, ku (h := h) hn g]
    exact h1
  case fieldAddr s a f =>
    subst hx
    simp only [opSem, Dq, keep, Di] at hs ⊢
    obtain ⟨a, h1, h2, h3, _⟩ := hs
    refine ⟨g, a, ?_, h2, h3, rfl⟩
    unfold em at h1 ⊢
    simp only [jk (h := h) hn g]
    exact h1
  case indexAddr ty a i =>
    subst hx
    simp only [opSem, Dq, keepB, Di] at hs ⊢
    obtain ⟨r, h1, h2, h3, _⟩ := hs
    refine ⟨g, r, ?_, h2, h3, rfl⟩
    rw [← h1]
    generalize evalD Γ t a = y at hn
    unfold cP
    simp only [jk (h := h) hn g]
    cases intOf? (evalD Γ t i) with
    | none => rfl
    | some ki =>
      cases P.underlying ty with
      | none => rfl
      | some ud =>
        cases ud <;> first
          | rfl
          | (rename_i e
             dsimp only
             cases szOf P e <;> cases y with
               | p z => cases z <;> rfl
               | ref r => simp [notRef] at hn
               | _ => rfl)
  case lookup ty a k ok' =>
    subst hx
    simp only [opSem, Dq, keep, Di] at hs ⊢
    obtain ⟨a, h1, h2, h3, _⟩ := hs
    refine ⟨g, a, ?_, h2, h3, rfl⟩
    unfold ar at h1 ⊢
    simp only [pD (h := h) hn g]
    exact h1
  case entry a =>
    subst hx
    simp only [opSem, Dq, keep, Di] at hs ⊢
    obtain ⟨a, h1, h2, h3, _⟩ := hs
    exact ⟨g, a, by rw [nN (h := h) hn]; exact h1, h2, h3, rfl⟩
  case call c =>
    obtain ⟨callee, args, ats⟩ := c
    cases callee with
    | builtin b =>
      cases b <;> simp only [headOf, reduceCtorEq] at hx
      split at hx
      · rename_i y hy
        cases hx
        simp only [opSem, hy, List.map_cons, List.map_nil] at hs ⊢
        unfold builtinD at hs ⊢
        split at hs
        all_goals first
          | (simp only [Dq] at hs ⊢
             obtain ⟨a, h1, h2⟩ := hs
             simp only [keep, Di] at h2 ⊢
             obtain ⟨h2, h3, _⟩ := h2
             exact ⟨g, a, by rw [pE (h := h) (by simp_all)]; exact h1, h2, h3, rfl⟩)
          | simp_all
      · simp at hx
    | _ => simp [headOf] at hx
end
end Go.Vi
namespace Go.Vi
open Go
def C4 (x : Nat) : List Nat → Bool
 | [] => false
 | y :: ys => x == y || C4 x ys
def de (F : List Nat) (i : Nat) (o : Oper) : Bool := quietOp o.op || C4 i F
structure DrawOkF (F : List Nat) (L : List Oper) (B : List Nat) : Prop where
 self : ∀ (i : Nat) (o : Oper), L[i]? = some o → (B.getD i 0).testBit i = false
 edge : ∀ (i : Nat) (o : Oper), L[i]? = some o → ∀ e ∈ o.after.toList, Ew .any e = true → e.on < i
 uniq : ∀ (i k : Nat) (o o' : Oper) (x : Tmp), L[i]? = some o → L[k]? = some o' → o.dst = some x → o'.dst = some x → i = k
 oper : ∀ (i : Nat) (o : Oper) (x : Tmp), L[i]? = some o → x ∈ cj L o → ∀ (k : Nat) (o' : Oper), L[k]? = some o' → o'.dst = some x → (B.getD i 0).testBit k = true ∨ (B.getD k 0).testBit i = true
 chain : ∀ (i k : Nat) (o o' : Oper), L[i]? = some o → L[k]? = some o' → i < k → de F i o = false → de F k o' = false → (B.getD k 0).testBit i = true
def sI (F : List Nat) (L : List Oper) (B : List Nat) : Bool :=
 L.zipIdx.all fun p => !(B.getD p.2 0).testBit p.2 && (
  (p.1.after.toList.all fun e => !Ew .any e || decide (e.on < p.2)) &&
  (L.zipIdx.all fun q => (p.2 == q.2 || p.1.dst.isNone || !(p.1.dst == q.1.dst)) &&
   (!decide (q.2 < p.2) || de F q.2 q.1 || de F p.2 p.1 || (B.getD p.2 0).testBit q.2)) &&
  ((cj L p.1).all fun x => L.zipIdx.all fun q => !(q.1.dst == some x) || (B.getD p.2 0).testBit q.2 || (B.getD q.2 0).testBit p.2))
theorem t7 {F : List Nat} {L : List Oper} {B : List Nat} (h : sI F L B = true) : DrawOkF F L B where
 self i o ho := by
  have := aX h ho
  simp only [Dl] at this
  simpa using this.1
 edge i o ho e he hb := by
  have := aX h ho
  simp only [Dl] at this
  have := DX.1 this.2.1.1 e he
  simpa [hb] using this
 uniq i k o o' x ho ho' hd hd' := by
  have := aX h ho
  simp only [Dl] at this
  have := aX this.2.1.2 ho'
  simp only [Dl] at this
  have := this.1
  simpa [hd, hd'] using this
 oper i o x ho hx k o' ho' hd := by
  have := aX h ho
  simp only [Dl] at this
  have := DX.1 this.2.2 x hx
  have := aX this ho'
  simpa [hd, Bool.or_assoc] using this
 chain i k o o' ho ho' hik hq hq' := by
  have := aX h ho'
  simp only [Dl] at this
  have := aX this.2.1.2 ho
  simp only [Dl] at this
  have := this.2
  simpa [hik, hq, hq'] using this
def iJ (F : List Nat) (L : List Oper) : List Nat := (L.zipIdx.filter fun p => !de F p.2 p.1).map (·.2)
def kv (F : List Nat) (L : List Oper) (B : List Nat) (i k : Nat) : Bool := (iJ F L).all fun c => if c < k then !(B.getD c 0).testBit i else !(B.getD i 0).testBit c
def gK (F : List Nat) (L : List Oper) : List Nat := 0 :: (iJ F L).map (· + 1)
theorem q8 {F : List Nat} {L : List Oper} {c : Nat} {o : Oper} (ho : L[c]? = some o) (hq : de F c o = false) : c ∈ iJ F L := by
 unfold iJ
 rw [DL]
 exact ⟨(o, c), by rw [FM, EO]; exact ⟨ho, by simp [hq]⟩, rfl⟩
theorem eh {F : List Nat} {L : List Oper} {c : Nat} (h : c ∈ iJ F L) : ∃ o, L[c]? = some o ∧ de F c o = false := by
 unfold iJ at h
 rw [DL] at h
 obtain ⟨⟨o, i⟩, h1, rfl⟩ := h
 rw [FM, EO] at h1
 exact ⟨o, h1.1, by simpa using h1.2⟩
def vA (P : Program) (Γ : am) (F : List Nat) (L : List Oper) (B : List Nat) (tF : List D) (hs : List (List Blk)) (ts : List (List D)) : Prop :=
 ∀ (i : Nat) (o : Oper), L[i]? = some o → de F i o = true → (∃ f, FixOk f ∧ aP L ((ts.getD i []).map f) o.guard = some true) → ∀ k ∈ gK F L, kv F L B i k = true →
  ∃ f d, FixOk f ∧ OpOk P Γ ((ts.getD i []).map f) (hs.getD k []) o.op d (hs.getD k []) ∧ ∀ x, o.dst = some x → Wk d (tF.getD x .any)
section
variable {P : Program} {Γ : am} {X : Ctx} {r : Option Nat} {call : CallF} {ops : Array Oper} {m : List Nat} {t0 tF : List D} {hs : List (List Blk)} {ts : List (List D)} {Q : Exit → AS → Prop} {F : List Nat}
structure InvF (F : List Nat) (Γ : am) (X : Ctx) (L : List Oper) (m : List Nat) (t0 tF : List D) (hs : List (List Blk)) (k : Nat) (S : Array Bool) (a : Act) (w : World) : Prop where
 size : S.size = L.length
 closed : fm L (Lst S)
 st : St Γ X { t := dv L S t0 tF, h := hs.getD k [], m := m } a w
 cand : k ∈ gK F L
 chain : ∀ c o, L[c]? = some o → de F c o = false → (Lst S c ↔ c < k)
theorem q9 (hD : DrawOkF F ops.toList (ct ops.toList [])) (hr : runR P Γ m ops.toList Wk FixOk ops.toList t0 (hs.getD 0 []) tF hs ts)
  (hq : vA P Γ F ops.toList (ct ops.toList []) tF hs ts) (hF : ∀ j o, ops.toList[j]? = some o → C4 j F = true → hs.getD (j + 1) [] = hs.getD j []) (hQ : Q .normal { t := tF, h := hs.getD ops.size [], m := m }) :
  ∀ (fuel : Nat) (k : Nat) (S : Array Bool) (a : Act) (w : World), InvF F Γ X ops.toList m t0 tF hs k S a w → (Ef ops.size).countP (fun j => !S.getD j false) ≤ fuel →
   wpAnyIn (FW r) 0 P .any ops (eG Γ X Q) fuel S a w := by
 obtain ⟨hlen0, _, _, _, hat⟩ := gb _ _ _ _ _ _ hr
 have hn : ops.toList.length = ops.size := by simp
 have hconst1 : ∀ j o, ops.toList[j]? = some o → de F j o = true → hs.getD (j + 1) [] = hs.getD j [] := by
  intro j o ho hqo
  unfold de at hqo
  rw [Bool.or_eq_true] at hqo
  rcases hqo with hqo | hqo
  case inr => exact hF j o ho hqo
  obtain ⟨call, hc, f, d', d, ⟨_, h1, _⟩, _⟩ := hat j o ho
  exact ge hqo h1
 have hconst : ∀ (n k : Nat), (∀ c o, ops.toList[c]? = some o → de F c o = false → ¬ (k ≤ c ∧ c < k + n)) → k + n ≤ ops.size → hs.getD (k + n) [] = hs.getD k [] := by
  intro n
  induction n with
  | zero => intro k _ _; rfl
  | succ n ih =>
   intro k h1 h2
   have hlt : k + n < ops.toList.length := by omega
   have ho := List.getElem?_eq_getElem hlt
   have hqo : de F (k + n) (ops.toList[k + n]) = true := by
    rw [← Bool.not_eq_false]
    exact fun hf => h1 _ _ ho hf (by omega)
   rw [← Nat.add_assoc, hconst1 _ _ ho hqo]
   exact ih k (fun c o hc1 hc2 => fun hx => h1 c o hc1 hc2 (by omega)) (by omega)
 have bound : ∀ i j o, ops.toList[i]? = some o → ((ct ops.toList []).getD i 0).testBit j = true → j < i := by
  intro i j o ho hb
  have hcl : fm ops.toList (fun x => x ≤ i) := fun k o' hk ho' e he hbe => by
   have := hD.edge k o' ho' e he hbe
   show e.on ≤ i
   omega
  have h1 : j ≤ i := bI hcl (k := i) (DH i) j hb
  have h2 := hD.self i o ho
  rcases Nat.lt_or_eq_of_le h1 with h | h
  ·exact h
  ·subst h; rw [h2] at hb; cases hb
 have fin : ∀ (k : Nat) (S : Array Bool) (a : Act) (w : World), InvF F Γ X ops.toList m t0 tF hs k S a w → (∀ j, j < ops.size → Lst S j) → eG Γ X Q .normal a w := by
  intro k S a w I hall
  refine ⟨by simp, _, hQ, ?_⟩
  have e1 : dv ops.toList S t0 tF = tF := by
   refine bc (ay ..) fun x hx => ?_
   rw [ay] at hx
   refine bZ fun c o hc1 _ => hall c ?_
   have := (Dm.1 hc1).1
   omega
  have hk : k ≤ ops.size := by
   have := I.cand
   simp only [gK, D2, DL] at this
   rcases this with rfl | ⟨c, hc1, rfl⟩
   ·omega
   ·obtain ⟨o, ho, _⟩ := eh hc1
    have := (Dm.1 ho).1
    omega
  have e2 : hs.getD ops.size [] = hs.getD k [] := by
   have := hconst (ops.size - k) k (fun c o hc1 hc2 hx => by
    have h1 := (I.chain c o hc1 hc2).1 (hall c (by omega))
    omega) (by omega)
   rwa [show k + (ops.size - k) = ops.size by omega] at this
  rw [e2]
  have := I.st
  rw [e1] at this
  exact this
 intro fuel
 induction fuel with
 | zero =>
  intro k S a w I hcnt
  have hall : ∀ j, j < ops.size → Lst S j := by
   intro j hj
   have h0 : (Ef ops.size).countP (fun j => !S.getD j false) = 0 := by omega
   rw [List.countP_eq_zero] at h0
   have := h0 j (by simpa using hj)
   simpa [Lst] using this
  refine ⟨?_, fin k S a w I hall⟩
  unfold FK
  rw [FB]
  intro j hj
  have hj' : j < ops.size := by simpa using hj
  have := hall j hj'
  have hs2 : j < S.size := by rw [I.size, hn]; exact hj'
  unfold Lst at this
  have h3 : S.getD j true = true := by
   simp only [D1, D4 hs2, ED] at this ⊢
   exact this
  simp [h3]
 | succ fuel ih =>
  intro k S a w I hcnt
  refine ⟨fun hnone => ?_, fun i hi => ?_⟩
  ·-- nothing is ready: all is done
   refine fin k S a w I ?_
   have key : ∀ n, ∀ j, j < n → j < ops.size → Lst S j := by
    intro n
    induction n with
    | zero => intro j hj; omega
    | succ n ihn =>
     intro j hj hjs
     by_cases hjn : j < n
     ·exact ihn j hjn hjs
     have : j = n := by omega
     subst this
     apply Et
     intro hno
     unfold FK at hnone
     rw [FB] at hnone
     have h1 := hnone j (by simpa using hjs)
     apply h1
     have hs2 : j < S.size := by rw [I.size, hn]; exact hjs
     have ho : ops[j]? = some ops[j] := D4 hjs
     have h3 : S.getD j true = false := by
      unfold Lst at hno
      simp only [D1, D4 hs2, ED] at hno ⊢
      simpa using hno
     have h4 : (ops[j].after.all fun e => !Ew .any e || S.getD e.on false) = true := by
      rw [E9]
      intro e he
      cases hb : Ew .any e
      ·rfl
      ·have hlt := hD.edge j ops[j] (by simp) e (by simpa using he) hb
       have := ihn e.on hlt (by omega)
       simpa [Lst] using this
     rw [h3, ho]
     simpa using h4
   exact fun j hj => key (j + 1) j (by omega) hj
  ·-- an operation that is ready
   unfold FK at hi
   rw [FM] at hi
   obtain ⟨hi1, hi2⟩ := hi
   have his : i < ops.size := by simpa using hi1
   have hiS : i < S.size := by rw [I.size, hn]; exact his
   have ho : ops[i]? = some ops[i] := D4 his
   generalize ho0 : ops[i] = o at ho
   have hoL : ops.toList[i]? = some o := by simpa using ho
   simp only [ho, D9, ED, Dl, EL] at hi2
   obtain ⟨hi3, hi4⟩ := hi2
   have hnotS : ¬ Lst S i := by
    unfold Lst
    simp only [D1, D4 hiS, ED] at hi3 ⊢
    simp [hi3]
   have hpre : ∀ e ∈ o.after.toList, Ew .any e = true → Lst S e.on := by
    intro e he hb
    rw [E9] at hi4
    have := hi4 e (by simpa using he)
    simpa [hb, Lst] using this
   have hsetS : ∀ j, Lst (S.setIfInBounds i true) j ↔ j = i ∨ Lst S j := fun j => j9 hiS
   have hclosed' : fm ops.toList (Lst (S.setIfInBounds i true)) := by
    intro k' o' hk' ho' e he hb
    rw [hsetS] at hk' ⊢
    rcases hk' with rfl | hk'
    ·rw [hoL] at ho'
     cases ho'
     exact .inr (hpre e he hb)
    ·exact .inr (I.closed k' o' hk' ho' e he hb)
   have hbits : ∀ j, ((ct ops.toList []).getD i 0).testBit j = true → j < i ∧ Lst S j := by
    intro j hj
    have h1 := bound i j o hoL hj
    have h2 := bI hclosed' (k := i) ((hsetS i).2 (.inl rfl)) j hj
    rw [hsetS] at h2
    exact ⟨h1, h2.resolve_left (by omega)⟩
   obtain ⟨call, hc, f, dw, d, ⟨hfx, hst, hwk⟩, htF, ht0, hdF⟩ := hat i o hoL
   have hseen : ∀ x ∈ cj ops.toList o, (dv ops.toList S t0 tF).getD x .any = (ts.getD i []).getD x .any := by
    intro x hx
    by_cases hwr : ∃ (k' : Nat) (o' : Oper), ops.toList[k']? = some o' ∧ o'.dst = some x
    ·obtain ⟨k', o', hk', hd'⟩ := hwr
     have huq : ∀ (j : Nat) (o2 : Oper), ops.toList[j]? = some o2 → o2.dst = some x → j = k' := fun j o2 hj hd2 => hD.uniq j k' o2 o' x hj hk' hd2 hd'
     rcases hD.oper i o x hoL hx k' o' hk' hd' with hb | hb
     ·obtain ⟨hlt, hSk⟩ := hbits k' hb
      rw [bZ (fun k2 o2 hk2 hd2 => by rw [huq k2 o2 hk2 hd2]; exact hSk)]
      exact htF x fun j o2 hj ho2 hd2 => by
       have := huq j o2 ho2 hd2
       omega
     ·have hlt := bound k' i o' hk' hb
      have hnk : ¬ Lst S k' := fun hSk => hnotS (bI I.closed hSk i hb)
      rw [nI hlen0 hk' hd' (by unfold Lst at hnk; simpa using hnk)]
      exact (ht0 x fun j o2 hj ho2 hd2 => by
       have := huq j o2 ho2 hd2
       omega).symm
    ·rw [bZ (fun k2 o2 hk2 hd2 => absurd ⟨k2, o2, hk2, hd2⟩ hwr)]
     exact htF x fun j o2 hj ho2 hd2 => hwr ⟨j, o2, ho2, hd2⟩
   have hseenF : ∀ x ∈ cj ops.toList o, (ts.getD i []).getD x .any = (dv ops.toList S t0 tF).getD x .any := fun x hx => (hseen x hx).symm
   have hst' : cM P Γ call m ops.toList ((dv ops.toList S t0 tF).map f) (hs.getD i []) o = some (dw, hs.getD (i + 1) []) := by
    rw [ga (t' := (ts.getD i []).map f) (fun x hx => by rw [aS hfx.any, aS hfx.any, hseen x hx])]; exact hst
   have hfixed : ∀ {a : Act} {w : World}, InvF F Γ X ops.toList m t0 tF hs k S a w → St Γ X { t := (dv ops.toList S t0 tF).map f, h := hs.getD k [], m := m } a w := fun I => I.st.fix hfx
   have hput : putD (dv ops.toList S t0 tF) o.dst d = dv ops.toList (S.setIfInBounds i true) t0 tF := by
    refine jH hoL hiS (fun k' o' hk' x hx hx' => hD.uniq k' i o' o x hk' hoL hx' hx) fun x hx hlt => hdF x hx (fun j o' hj ho' hd' => ?_) ?_
    ·have := hD.uniq j i o' o x ho' hoL hd' hx
     omega
    ·rw [← hlen0]; exact hlt
   have hcnt' : (Ef ops.size).countP (fun j => !(S.setIfInBounds i true).getD j false) ≤ fuel := by
    have : (Ef ops.size).countP (fun j => !(S.setIfInBounds i true).getD j false) < (Ef ops.size).countP (fun j => !S.getD j false) := by
     refine gF (fun x hx => ?_) i (by simpa using his) ?_ ?_
     ·have h1 : ¬ Lst (S.setIfInBounds i true) x := by unfold Lst; simpa using hx
      rw [hsetS] at h1
      have : ¬ Lst S x := fun h => h1 (.inr h)
      unfold Lst at this
      simpa using this
     ·unfold Lst at hnotS; simpa using hnotS
     ·have : Lst (S.setIfInBounds i true) i := (hsetS i).2 (.inl rfl)
      unfold Lst at this
      simpa using this
    omega
   have hk_le : de F i o = false → k ≤ i := by
    intro hqo
    have := I.cand
    simp only [gK, D2, DL] at this
    rcases this with rfl | ⟨c, hc1, rfl⟩
    ·omega
    ·obtain ⟨o', ho', hq'⟩ := eh hc1
     have hcS : Lst S c := (I.chain c o' ho' hq').2 (by omega)
     apply Et
     intro hlt
     by_cases hci : c = i
     ·exact hnotS (hci ▸ hcS)
     ·exact hnotS (bI I.closed hcS i (hD.chain i c o o' hoL ho' (by omega) hqo hq'))
   have hheap : de F i o = false → hs.getD i [] = hs.getD k [] := by
    intro hqo
    have hk := hk_le hqo
    have := hconst (i - k) k (fun c o' hc1 hc2 hx => by
     have h1 := hbits c (hD.chain c i o' o hc1 hoL (by omega) hc2 hqo)
     have := (I.chain c o' hc1 hc2).1 h1.2
     omega) (by omega)
    rwa [show k + (i - k) = i by omega] at this
   unfold wpOpIn
   simp only [ho]
   cases hqo : de F i o
   ·-- it may change the heap
    have hInv : ∀ a' w', St Γ X { t := putD (dv ops.toList S t0 tF) o.dst d, h := hs.getD (i + 1) [], m := m } a' w' → InvF F Γ X ops.toList m t0 tF hs (i + 1) (S.setIfInBounds i true) a' w' := by
     intro a' w' hst2
     refine ⟨by simpa using I.size, hclosed', by rw [← hput]; exact hst2, ?_, ?_⟩
     ·simp only [gK, D2, DL]
      exact .inr ⟨i, q8 hoL hqo, rfl⟩
     ·intro c o' ho' hq'
      rw [hsetS, I.chain c o' ho' hq']
      have hk := hk_le hqo
      constructor
      ·rintro (rfl | h) <;> omega
      ·intro h
       by_cases hci : c = i
       ·exact .inl hci
       ·have h1 := hbits c (hD.chain c i o' o ho' hoL (by omega) hq' hqo)
        exact .inr ((I.chain c o' ho' hq').1 h1.2)
    rw [hheap hqo] at hst'
    unfold cM at hst'
    split at hst'
    ·rename_i hg
     split at hst'
     ·rename_i d1 h1 hop
      split at hst'
      ·rename_i hm
       simp only [Df, Di] at hst'
       obtain ⟨rfl, rfl⟩ := hst'
       have hw : Ei o (yielded ops a.tmps) = true := by
        obtain ⟨l, R, E, rt, rd⟩ := hfixed I
        exact aB rt hg
       rw [if_pos hw]
       exact gA (s := { t := (dv ops.toList S t0 tF).map f, h := hs.getD k [], m := m }) hc hop hm (fun a' w' hs' => ih (i + 1) _ a' w' (hInv a' w' (IP hfx hwk hs')) hcnt') (hfixed I)
      ·simp at hst'
     ·simp at hst'
    ·rename_i hg
     simp only [Df, Di] at hst'
     obtain ⟨rfl, hh⟩ := hst'
     have hw : Ei o (yielded ops a.tmps) = false := by
      obtain ⟨l, R, E, rt, rd⟩ := hfixed I
      exact aB rt hg
     rw [if_neg (by simp [hw])]
     refine ⟨fun _ _ => trivial, ih (i + 1) _ _ w (hInv _ w (IP hfx hwk ?_)) hcnt'⟩
     rw [← hh]
     exact St.skip o.dst (hfixed I)
    ·simp at hst'
   ·-- it leaves the heap alone
    have hInv : ∀ a' w', St Γ X { t := putD (dv ops.toList S t0 tF) o.dst d, h := hs.getD k [], m := m } a' w' → InvF F Γ X ops.toList m t0 tF hs k (S.setIfInBounds i true) a' w' := by
     intro a' w' hst2
     refine ⟨by simpa using I.size, hclosed', by rw [← hput]; exact hst2, I.cand, ?_⟩
     intro c o' ho' hq'
     rw [hsetS, ← I.chain c o' ho' hq']
     constructor
     ·rintro (rfl | h)
      ·rw [hoL] at ho'; cases ho'; rw [hqo] at hq'; cases hq'
      ·exact h
     ·exact .inr
    have hgF : ∀ f : D → D, f .any = .any → aP ops.toList ((ts.getD i []).map f) o.guard = aP ops.toList ((dv ops.toList S t0 tF).map f) o.guard := fun f hf =>
     dZ fun x hx => by rw [aS hf, aS hf, hseenF x (by unfold cj; simp only [EJ, Option.mem_toList]; exact .inr hx)]
    unfold cM at hst'
    split at hst'
    ·rename_i hg
     have hw : Ei o (yielded ops a.tmps) = true := by
      obtain ⟨l, R, E, rt, rd⟩ := hfixed I
      exact aB rt hg
     rw [if_pos hw]
     have hcomp : kv F ops.toList (ct ops.toList []) i k = true := by
      unfold kv
      rw [DX]
      intro c hc1
      obtain ⟨o', ho', hq'⟩ := eh hc1
      split
      ·rename_i hlt
       have hcS := (I.chain c o' ho' hq').2 hlt
       rw [EL, Fh]
       exact fun hb => hnotS (bI I.closed hcS i hb)
      ·rename_i hlt
       rw [EL, Fh]
       exact fun hb => hlt ((I.chain c o' ho' hq').1 (hbits c hb).2)
     obtain ⟨f2, d2, hfx2, hopk, hd2⟩ := hq i o hoL hqo ⟨f, hfx, by rw [hgF f hfx.any]; exact hg⟩ k I.cand hcomp
     obtain ⟨call2, hc2, hop⟩ := OpOk.congr (t' := (dv ops.toList S t0 tF).map f2) (fun x hx => eI fun j hj => by
      rw [aS hfx2.any, aS hfx2.any, hseenF j (by
      unfold cj; simp only [EJ, List.mem_filterMap]; exact .inl ⟨x, by simpa using hx, hj⟩)]) hopk
     refine gA (s := { t := (dv ops.toList S t0 tF).map f2, h := hs.getD k [], m := m }) hc2 hop I.st.marks (fun a' w' hs' => ih k _ a' w' ⟨by simpa using I.size, hclosed', ?_, I.cand, ?_⟩ hcnt') (I.st.fix hfx2)
     ·rw [← hput]
      refine St.put_wk (fun x hx hlt => ?_) (IP hfx2 (Wk.refl d2) hs')
      have h3 := hdF x hx (fun j o' hj ho' hd' => by
       have := hD.uniq j i o' o x ho' hoL hd' hx
       omega) (by rw [ay] at hlt; rw [← hlen0]; exact hlt)
      rw [← h3]
      exact hd2 x hx
     ·intro c o' ho' hq'
      rw [hsetS, ← I.chain c o' ho' hq']
      constructor
      ·rintro (rfl | h)
       ·rw [hoL] at ho'; cases ho'; rw [hqo] at hq'; cases hq'
       ·exact h
      ·exact .inr
    ·rename_i hg
     simp only [Df, Di] at hst'
     obtain ⟨rfl, hh⟩ := hst'
     have hw : Ei o (yielded ops a.tmps) = false := by
      obtain ⟨l, R, E, rt, rd⟩ := hfixed I
      exact aB rt hg
     rw [if_neg (by simp [hw])]
     exact ⟨fun _ _ => trivial, ih k _ _ w (hInv _ w (IP hfx hwk (St.skip (s := { t := (dv ops.toList S t0 tF).map f, h := hs.getD k [], m := m }) o.dst (hfixed I)))) hcnt'⟩
    ·simp at hst'
theorem VW.drawF {s : AS} (ok : POk P) {id : Nat} (hD : DrawOkF F ops.toList (ct ops.toList [])) (hr : runR P Γ s.m ops.toList Wk FixOk ops.toList s.t s.h tF hs ts)
  (hq : vA P Γ F ops.toList (ct ops.toList []) tF hs ts) (hF : ∀ j o, ops.toList[j]? = some o → C4 j F = true → hs.getD (j + 1) [] = hs.getD j []) (hQ : Q .normal { t := tF, h := hs.getD ops.size [], m := s.m }) : VW P Γ X r (.region id ops true) Q s := by
 obtain ⟨g1, g2, g3, g4, _⟩ := gb _ _ _ _ _ _ hr
 have h0 : hs.getD 0 [] = s.h := by simp [List.getD_eq_getElem?_getD, g3]
 intro a w hst
 refine wpIn_region_any ok.mixed ?_
 rw [← h0] at hr
 refine q9 (t0 := s.t) (hs := hs) hD hr hq hF hQ ops.size 0 _ a _ ?_ ?_
 ·have hrep : ∀ j, (Gg ops.size false).getD j false = false := by
   intro j
   simp only [D1, Array.getElem?_replicate]
   split <;> rfl
  refine ⟨by simp, fun k o hk _ _ _ _ => ?_, ?_, by simp [gK], fun c o _ _ => ?_⟩
  ·unfold Lst at hk; rw [hrep] at hk; cases hk
  ·have e1 : dv ops.toList (Gg ops.size false) s.t tF = s.t := by
    refine bc (by rw [ay, g1]) fun x hx => ?_
    rw [ay] at hx
    rw [eJ hx]
    split
    ·rfl
    ·rename_i hp
     refine g2 x fun o ho hd => hp ?_
     obtain ⟨k, hk⟩ := List.mem_iff_getElem?.1 ho
     exact cT.2 ⟨k, o, hk, hd, hrep k⟩
   rw [e1, h0]
   obtain ⟨l, R, E, rt, rd⟩ := hst
   obtain ⟨R', E'⟩ := R.of_heap (w' := { w with drawn := w.drawn + 1 }) rfl ⟨rfl, rfl, rfl, (by first | exact DH _ | exact Fs _)⟩
   exact ⟨l, R', E.trans E', E'.relL rt, rd⟩
  ·unfold Lst
   rw [hrep]
   simp
 ·refine Nat.le_trans List.countP_le_length (by simp)
end
end Go.Vi
