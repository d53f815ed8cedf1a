/- RecordOfSpecUpto: part of the proof: an evaluator of the model's programs on abstract values, and its soundness. No conditions beyond the given statement's own. -/
import Derived.Test.YtilebidefogaiaaGreatDoorV7
import Derived.Laws.BitsLemmas
import Derived.ChangeArms
import Derived.OpenShut
import Derived.Below
import Derived.Carry
open Go.Vi.D renaming innL → CT, inn → DS, mapR → Da, mapRL → C6
open Go.CallsIn renaming mono → DH
open Nat renaming lt_of_lt_of_le → D4, sub_zero → Fc, add_mul → EC, eq_of_beq_eq_true → Ho
open Go.Vi.RelCells renaming mono → FD
open Option.some renaming injEq → B5, inj → G3
open Prod.mk renaming injEq → Ca
open Bool renaming and_eq_true → Cd
open List renaming getElem?_eq_getElem → Cv, getElem?_cons_succ → DL, mem_of_getElem? → CS, getElem?_eq_some_iff → Ce, map_cons → Dj, mem_map → CC, getElem?_map → Dz, getD → Cl, all_eq_true → CB, getElem?_append_left → Cr, range → C1, flatten_cons → C7, drop_append → Gz, drop_eq_nil_of_le → FJ, mem_cons → CP, all_append → GO, append_nil → Gk
open Go.Vi.Blk renaming mapR → DN, le → Hb, stays → GM
open Go.Vi.Ref renaming blk → Fg
open Go.Vi.AllP renaming append → FH
open Option renaming map_some → CQ
open Go.DataW renaming weightsEach → HN
namespace Go.Vi
open Go
section
variable {P : Program} {Γ : ak}
theorem co {l : Loc} {blk : Nat} : ¬ own l [] blk := by
 rintro ⟨b, x, cp, h, _⟩
 simp at h
theorem Ev.frame0 {f : FuncId} {args : List D} {d : D} (ha : CT 0 args = true) (he : Ev P Γ f args [] d []) (h : List Blk) : Ev P Γ f args h d h := by
 intro O w l vs R ra
 have hav : ∀ l' k, avs (avs O l h) l' [] k ↔ avs O l h k := fun l' k => ⟨fun ho => ho.elim id (fun h => absurd h co), fun ho => .inl ho⟩
 have R0 : Rep Γ (avs O l h) w l [] := by
  refine ⟨fun blk ho => absurd ho co, fun blk ho => ?_, fun b b' x x' k c c' hb => by simp at hb, fun b x hb => by simp at hb, fun g cs hg => ?_⟩
  ·rcases ho with ho | ho
   ·exact R.obd blk ho
   ·exact (R.inb blk ho).1
  ·exact aD (fun k hk => (hav l k).1 hk) (R.glo g cs hg)
 have ra0 : RelL w (avs (avs O l h) l []) l [] args vs := bJ (h := h) (n := 0) (fun k hk => (hav l k).1 hk) ha ra
 refine DH (he (avs O l h) w l vs R0 ra0) ?_
 rintro e w' ⟨v, d2, h2, l', rfl, ⟨rfl, rfl⟩, R', E', rd⟩
 have E : Ext w l h w' l h := ⟨E'.size, fun blk hb _ => E'.same blk hb co, fun blk ho => .inl ho, fun b x hx => ⟨x, hx, x.le_refl, fun _ => rfl⟩, E'.tape⟩
 refine ⟨v, d2, h, l, rfl, ⟨rfl, rfl⟩, ⟨fun blk ho => ⟨D4 (R.inb blk ho).1 E'.size, (R.inb blk ho).2⟩, fun blk ho => D4 (R.obd blk ho) E'.size, R.inj, fun b x hx => ?_, fun g cs hg => ?_⟩, E, ?_⟩
 ·by_cases hg : x = .gone
  ·subst hg; trivial
  exact BlkOk.ext E rfl (fun blk cp hl => E'.same blk (R.inb blk ⟨b, x, cp, hx, hg, hl⟩).1 co) (R.blk b x hx)
 ·exact FD E.hc g 0 cs (R.glo g cs hg)
 ·exact Rel.mono (fun blk off y hn hc => ⟨hc, fun ho => hn ((hav l' blk).2 ho)⟩) (fun b x hb => by simp at hb) d2 v rd
def out0 (r : Option (D × List Blk × List Prop)) : Option (D × List Prop) := match r with
 | some (d, _, φ) => some (d, φ)
 | none => none
def outF (r : Option (D × List Blk × List Prop)) : Option (D × List Blk × List Prop) := match r with
 | some (d, h, φ) => some (d, h, φ)
 | none => none
theorem Ev.of_sym' (ok : POk P) {f : FuncId} {args : List D} {h h' : List Blk} {d : D} {φ : List Prop} (as : List Ans) (hs : symF P Γ f args h as = some (d, h', φ)) (hp : AllP φ) : Ev P Γ f args h d h' :=
 Ev.sym ok as (by rw [hs]; exact ⟨rfl, rfl, hp⟩)
theorem Ev.of_sym (ok : POk P) {f : FuncId} {args : List D} {h h' : List Blk} {d : D} {φ : List Prop} (as : List Ans) (hs : outF (symF P Γ f args h as) = some (d, h', φ)) (hp : AllP φ) : Ev P Γ f args h d h' := by
 refine Ev.of_sym' ok as ?_ hp
 unfold outF at hs
 split at hs
 ·rename_i h1
  rw [h1]
  exact hs
 ·simp at hs
theorem Ev.sym0 (ok : POk P) {f : FuncId} {args : List D} {d : D} {φ : List Prop} (as : List Ans) (hs : out0 (symF P Γ f args [] as) = some (d, φ)) (hp : AllP φ) (ha : CT 0 args = true) (hd : DS 0 d = true) (h : List Blk) : Ev P Γ f args h d h := by
 refine Ev.frame0 ha ?_ h
 unfold out0 at hs
 split at hs
 case h_2 => simp at hs
 rename_i d1 h1 φ1 hr
 simp only [B5, Ca] at hs
 obtain ⟨rfl, rfl⟩ := hs
 have := Ev.trim (h := []) hd rfl (Ev.of_sym' ok as hr hp)
 simpa using this
def outT (n : Nat) (r : Option (D × List Blk × List Prop)) : Option (D × List Blk × List Prop) := match r with
 | some (d, h, φ) => match DS n d && (h.take n).all (Blk.inn n) with
  | true => some (d, h.take n, φ)
  | false => none
 | none => none
theorem Ev.symT (ok : POk P) {f : FuncId} {args : List D} {h h' : List Blk} {d : D} {φ : List Prop} (as : List Ans) (hs : outT h.length (symF P Γ f args h as) = some (d, h', φ)) (hp : AllP φ) : Ev P Γ f args h d h' := by
 unfold outT at hs
 split at hs
 case h_2 => simp at hs
 rename_i d1 h1 φ1 hr
 split at hs
 case h_2 => simp at hs
 rename_i hb
 simp only [Cd] at hb
 simp only [B5, Ca] at hs
 obtain ⟨rfl, rfl, rfl⟩ := hs
 exact Ev.trim hb.1 hb.2 (Ev.of_sym' ok as hr hp)
def mkT : Nat → Nat → List (Nat × D) → List D
 | 0, _, _ => []
 | n + 1, i, [] => .any :: mkT n (i + 1) []
 | n + 1, i, (k, d) :: ds => match i == k with
  | true => d :: mkT n (i + 1) ds
  | false => .any :: mkT n (i + 1) ((k, d) :: ds)
theorem CW.post {h0 : List Blk} {rd : Bool} {c : Code} {s s' s'' : AS} {e : Exit} {as as' : List Ans} {φ : List Prop} (hq : Vi.pre h0 s' as = some (s'', as', φ)) (hp : AllP φ) (hw : CW P Γ h0 rd c s e s') : CW P Γ h0 rd c s e s'' := by
 intro X r hn hrd a w hs
 refine wpIn_mono (hw X r hn hrd a w hs) ?_
 rintro e' a' w' ⟨h2, s2, ⟨rfl, rfl⟩, h4⟩
 subst hn
 exact ⟨h2, _, ⟨rfl, rfl⟩, sj _ _ _ _ _ hq hp _ _ h4⟩
def outC (ks : List Nat) (r : Option Res) : Option (Exit × AS × List Prop) := match r with
 | some ((e, s, []), φ) => some (e, oB ks s, φ)
 | _ => none
theorem CW.mask {h0 : List Blk} {rd : Bool} {c : Code} {s s' : AS} {e : Exit} (ks : List Nat) (hw : CW P Γ h0 rd c s e s') : CW P Γ h0 rd c s e (oB ks s') :=
 CW.post (as := [.st (.mask ks)]) (as' := []) (φ := []) rfl trivial hw
theorem CW.sym (ok : POk P) {h0 : List Blk} {rd : Bool} {c : Code} {s s' : AS} {e : Exit} {φ : List Prop} (ks : List Nat) (as : List Ans) (hs : outC ks (symC P Γ h0 rd c s as) = some (e, s', φ)) (hp : AllP φ) : CW P Γ h0 rd c s e s' := by
 unfold outC at hs
 split at hs
 case h_2 => simp at hs
 rename_i e1 s1 φ1 hr
 simp only [B5, Ca] at hs
 obtain ⟨rfl, rfl, rfl⟩ := hs
 exact CW.mask ks (vf ok c _ _ _ _ _ _ hr hp)
def outCX (h0 : List Blk) (os : List Ans) (r : Option Res) : Option (Exit × AS × List Prop) := match r with
 | some ((e, s, []), φ) => match Vi.pre h0 s os with
  | some (s, [], φ') => some (e, s, φ ++ φ')
  | _ => none
 | _ => none
theorem CW.symX (ok : POk P) {h0 : List Blk} {rd : Bool} {c : Code} {s s' : AS} {e : Exit} {φ : List Prop} (os as : List Ans) (hs : outCX h0 os (symC P Γ h0 rd c s as) = some (e, s', φ)) (hp : AllP φ) : CW P Γ h0 rd c s e s' := by
 unfold outCX at hs
 split at hs
 case h_2 => simp at hs
 rename_i e1 s1 φ1 hr
 split at hs
 case h_2 => simp at hs
 rename_i s2 φ2 ht
 simp only [B5, Ca] at hs
 obtain ⟨rfl, rfl, rfl⟩ := hs
 obtain ⟨p1, p2⟩ := hp.append
 exact CW.post ht p2 (vf ok c _ _ _ _ _ _ hr p1)
theorem CW.loop {h0 : List Blk} {rd : Bool} {c : Code} {ι : Type} (st : ι → AS) (fin : ι → Exit × AS) (μ : ι → Nat)
  (round : ∀ i, (∃ j, μ j < μ i ∧ fin j = fin i ∧ CW P Γ h0 rd c (st i) .normal (st j)) ∨ ((fin i).1 ≠ .normal ∧ CW P Γ h0 rd c (st i) (fin i).1 (fin i).2)) (i0 : ι) : CW P Γ h0 rd (.loop c) (st i0) (fin i0).1 (fin i0).2 := by
 intro X r hn hrd
 refine VW.loop (fun i s => s = st i ∧ fin i = fin i0) μ i0 ⟨rfl, rfl⟩ ?_
 rintro i s ⟨rfl, hi⟩
 rcases round i with ⟨j, h1, h2, h3⟩ | ⟨h1, h2⟩
 ·refine (h3 X r hn hrd).mono ?_
  rintro e s ⟨rfl, rfl⟩
  exact ⟨j, ⟨rfl, h2.trans hi⟩, h1⟩
 ·refine (h2 X r hn hrd).mono ?_
  rintro e s ⟨rfl, rfl⟩
  rw [hi] at h1 ⊢
  generalize (fin i0).1 = e at h1
  cases e with
  | normal => exact absurd rfl h1
  | _ => exact ⟨rfl, rfl⟩
theorem CW.loopN {h0 : List Blk} {rd : Bool} {c : Code} (n : Nat) (st : Nat → AS) {e : Exit} {s' : AS} (he : e ≠ .normal) (hs : ∀ i, i < n → CW P Γ h0 rd c (st i) .normal (st (i + 1))) (hl : CW P Γ h0 rd c (st n) e s') : CW P Γ h0 rd (.loop c) (st 0) e s' := by
 refine CW.loop (ι := { i : Nat // i ≤ n }) (fun i => st i.1) (fun _ => (e, s')) (fun i => n - i.1) ?_ ⟨0, Nat.zero_le _⟩
 rintro ⟨i, hi⟩
 by_cases h : i < n
 ·exact .inl ⟨⟨i + 1, by omega⟩, by simp only; omega, rfl, hs i h⟩
 ·have : i = n := by omega
  subst this
  exact .inr ⟨he, hl⟩
def xA : Code → List Code
 | .seq a b => xA a ++ xA b
 | .cond _ a b => xA a ++ xA b
 | .block _ b => xA b
 | .scope b => xA b
 | .loop b => b :: xA b
 | .rangeFunc g ps a b => .rangeFunc g ps a b :: (xA a ++ xA b)
 | _ => []
def sub (fn : Func) (k : Nat) : Code := match fn.body with
 | some c => (xA c).getD k .skip
 | none => .skip
theorem wrap_i64 {n : Int} (h1 : -9223372036854775808 ≤ n) (h2 : n ≤ 9223372036854775807) : IntKind.i64.wrap n = n := by
 rw [IntKind.wrap_i64]
 omega
end
end Go.Vi
namespace Go.Vi
open Go
theorem Ev.castH {P : Program} {Γ : ak} {f : FuncId} {args : List D} {h h' h2 : List Blk} {d d2 : D} (he : Ev P Γ f args h d h') (hd : d = d2) (hh : h' = h2) : Ev P Γ f args h d2 h2 := hd ▸ hh ▸ he
theorem CW.cast {P : Program} {Γ : ak} {h0 : List Blk} {rd : Bool} {c : Code} {s s' s2 : AS} {e e2 : Exit} (hw : CW P Γ h0 rd c s e s') (he : e = e2) (hs : s' = s2) : CW P Γ h0 rd c s e2 s2 := he ▸ hs ▸ hw
def forL {α σ ρ : Type} (f : α → σ → σ ⊕ ρ) : List α → σ → σ ⊕ ρ
 | [], s => .inl s
 | a :: l, s => match f a s with
  | .inl s' => forL f l s'
  | .inr r => .inr r
def bn {σ ρ : Type} (eE : Exit) (sE : σ → AS) (fin : ρ → Exit × AS) : σ ⊕ ρ → Exit × AS
 | .inl s => (eE, sE s)
 | .inr r => fin r
def ad {σ ρ : Type} (st : σ → AS) (fin : ρ → Exit × AS) : σ ⊕ ρ → Exit × AS
 | .inl s => (.normal, st s)
 | .inr r => fin r
theorem CW.each {P : Program} {Γ : ak} {h0 : List Blk} {rd : Bool} {c : Code} {α σ ρ : Type} (l : List α) (f : α → σ → σ ⊕ ρ) (st : Nat → σ → AS) (eE : Exit) (sE : σ → AS) (fin : ρ → Exit × AS)
  (inv : Nat → σ → Prop) (hE : eE ≠ .normal) (hF : ∀ r, (fin r).1 ≠ .normal)
  (body : ∀ i a s, l[i]? = some a → inv i s → (∀ s', f a s = .inl s' → inv (i + 1) s') ∧ CW P Γ h0 rd c (st i s) (ad (st (i + 1)) fin (f a s)).1 (ad (st (i + 1)) fin (f a s)).2)
  (last : ∀ s, inv l.length s → CW P Γ h0 rd c (st l.length s) eE (sE s)) (s : σ) (h : inv 0 s) :
  CW P Γ h0 rd (.loop c) (st 0 s) (bn eE sE fin (forL f l s)).1 (bn eE sE fin (forL f l s)).2 := by
 refine CW.loop (ι := { p : Nat × σ // p.1 ≤ l.length ∧ inv p.1 p.2 }) (fun p => st p.1.1 p.1.2) (fun p => bn eE sE fin (forL f (l.drop p.1.1) p.1.2)) (fun p => l.length - p.1.1) ?_ ⟨(0, s), Nat.zero_le _, h⟩
 rintro ⟨⟨i, s⟩, hi, hv⟩
 simp only at hi hv ⊢
 by_cases hlt : i < l.length
 ·have ha : l[i]? = some l[i] := Cv hlt
  have hd : l.drop i = l[i] :: l.drop (i + 1) := List.drop_eq_getElem_cons hlt
  obtain ⟨b1, b2⟩ := body i _ s ha hv
  rw [hd]
  simp only [forL]
  cases hf : f l[i] s with
  | inl s' =>
   rw [hf] at b2
   exact .inl ⟨⟨(i + 1, s'), hlt, b1 _ hf⟩, by simp only; omega, rfl, b2⟩
  | inr r =>
   rw [hf] at b2
   exact .inr ⟨hF r, b2⟩
 ·have : i = l.length := by omega
  subst this
  rw [List.drop_length]
  exact .inr ⟨hE, last s hv⟩
def aI : Code → Code
 | .rangeFunc _ _ a _ => a
 | _ => .skip
def ar : Code → Code
 | .rangeFunc _ _ _ b => b
 | _ => .skip
theorem Iv.round {P : Program} {Γ : ak} {b : Nat} {args : List D} {h h1 h' : List Blk} {pend : Option Code} {f : FuncId} {ts : List D} {ps : Array Tmp} {asg body : Code} {t1 : List D} {p1 : Option Code} {f1 : FuncId} {ts1 : List D} {ps1 : Array Tmp}
  {a1 b1 : Code} {e2 : Exit} {s2 : AS} {d : D} (hb : h[b]? = some (.loop .ready pend f ts ps asg body)) (hlen : args.length = ps.size)
  (hasg : CW P Γ h true asg { t := eQ ts (ps.toList.zip args), h := h, m := [] } .normal { t := t1, h := h1, m := [] })
  (hb1 : h1[b]? = some (.loop .ready p1 f1 ts1 ps1 a1 b1))
  (hbody : CW P Γ h true body { t := t1, h := h1.set b (.loop .busy p1 0 ts1 ps1 a1 b1), m := [] } e2 s2)
  (hend : jp b e2 s2 = some (d, h')) : Iv P Γ (.ref (.yl b)) args h d h' :=
 jX hb hlen (fun X r hX => hasg X r hX (fun h => by cases h)) hb1 (fun X r hX => hbody X r hX (fun h => by cases h)) hend
theorem CW.rangeFunc {P : Program} {Γ : ak} (ok : POk P) {h0 : List Blk} {s s' : AS} {g : Operand} {ps : Array Tmp} {asg body : Code} {f : FuncId} {fi ca : List D} {d : D} {h2 : List Blk} {e : Exit} (hg : cC (evalD Γ s.t g) = some (f, fi, ca)) (hf : en P f = true)
  (hc : Ev P Γ f (fi ++ [.ref (.yl (s.h.length + 1))] ++ ca) (s.h ++ [.defd] ++ [.loop .ready none 0 s.t ps asg body]) d h2)
  (he : na s.h.length s.t s.m h2 = some (e, s')) : CW P Γ h0 false (.rangeFunc g ps asg body) s e s' := by
 intro X r _ hr
 obtain rfl := hr rfl
 exact VW.rangeFunc ok hg hf (hc.mono fun _ _ hq => hq.2) he
end Go.Vi
namespace Go.Vi
open Go
def Ref.to (n : Nat) : Ref → Ref
 | .ptr _ o => .ptr n o
 | .vec _ e => .vec n e
 | .vs _ e i k c => .vs n e i k c
 | .av _ o k s => .av n o k s
 | .vp _ e i j => .vp n e i j
 | .mp _ => .mp n
 | .it _ => .it n
 | .yl _ => .yl n
def idx (x : Nat) : Nat → List Nat → Option Nat
 | _, [] => none
 | k, y :: ys => match x == y with
  | true => some k
  | false => idx x (k + 1) ys
theorem fA {x : Nat} : ∀ {ys : List Nat} {k i : Nat}, idx x k ys = some i → k ≤ i ∧ ys[i - k]? = some x
 | [], k, i, h => by simp [idx] at h
 | y :: ys, k, i, h => by
  unfold idx at h
  split at h
  ·rename_i e
   simp only [B5] at h
   subst h
   simp only [beq_iff_eq] at e
   subst e
   simp
  ·obtain ⟨h1, h2⟩ := fA h
   refine ⟨by omega, ?_⟩
   rw [show i - k = (i - (k + 1)) + 1 by omega, DL]
   exact h2
theorem nt {x : Nat} : ∀ {ys : List Nat} {k : Nat}, idx x k ys = none → x ∉ ys
 | [], k, _ => by simp
 | y :: ys, k, h => by
  unfold idx at h
  split at h
  ·simp at h
  ·rename_i e
   simp only [beq_eq_false_iff_ne, ne_eq] at e
   simp [e, nt h]
theorem sm {x : Nat} {ys : List Nat} {i : Nat} (hn : ys.Nodup) (h : ys[i]? = some x) : idx x 0 ys = some i := by
 cases hi : idx x 0 ys with
 | none => exact absurd (CS h) (nt hi)
 | some j =>
  obtain ⟨_, h2⟩ := fA hi
  simp only [Fc] at h2
  have hj := (Ce.1 h2).1
  have hi' := (Ce.1 h).1
  rw [Cv hj] at h2
  rw [Cv hi'] at h
  have : ys[j] = ys[i] := by simp only [B5] at h h2; rw [h, h2]
  rw [(List.getElem_inj hn).1 this]
def inv (is : List Nat) (r : Ref) : D := match idx r.blk 0 is with
 | some i => .ref (r.to i)
 | none => .any
def fwd (is : List Nat) (m : Nat) (r : Ref) : D := match is[r.blk]? with
 | some i => .ref (r.to i)
 | none => .ref (r.to (m + (r.blk - is.length)))
def fZ : Blk → Bool
 | .mit .. => true
 | _ => false
section
variable {w : World} {av av' : Nat → Prop} {l l' : Loc} {h h' : List Blk} {f : Ref → D}
mutual
theorem ej (ha : ∀ k, av' k → av k) (hf : ∀ r y, RefRel l h r y → Rel w av' l' h' (f r) y) : ∀ {d : D} {y : Value}, Rel w av l h d y → Rel w av' l' h' (Da f d) y
 | .p _, _, r => by simp only [Rel, Da] at r ⊢; exact dA ha r
 | .any, _, _ => by simp [Rel, Da]
 | .ref r, y, rr => by simp only [Da]; exact hf r y (by simpa only [Rel] using rr)
 | .ep _, _, r => by
  simp only [Rel, Da] at r ⊢
  obtain ⟨blk, off, r1, r2⟩ := r
  exact ⟨blk, off, r1, aD ha r2⟩
 | .csl _, _, r => by
  simp only [Rel, Da] at r ⊢
  rcases r with r | ⟨blk, off, sz, r1, r2⟩
  ·exact .inl r
  ·exact .inr ⟨blk, off, sz, r1, bI ha r2⟩
 | .fn _ _ _, _, r => by
  simp only [Rel, Da] at r ⊢
  obtain ⟨a, c, r1, r2, r3⟩ := r
  exact ⟨a, c, r1, bo ha hf r2, bo ha hf r3⟩
 | .agg _, _, r => by
  simp only [Rel, Da] at r ⊢
  obtain ⟨vs, r1, r2⟩ := r
  exact ⟨vs, r1, bo ha hf r2⟩
 | .tup _, _, r => by
  simp only [Rel, Da] at r ⊢
  obtain ⟨vs, r1, r2⟩ := r
  exact ⟨vs, r1, bo ha hf r2⟩
 | .grd _ _, _, r => by
  simp only [Rel, Da] at r ⊢
  exact ⟨fun hg => ej ha hf (r.1 hg), r.2⟩
theorem bo (ha : ∀ k, av' k → av k) (hf : ∀ r y, RefRel l h r y → Rel w av' l' h' (f r) y) : ∀ {ds : List D} {ys : List Value}, RelL w av l h ds ys → RelL w av' l' h' (C6 f ds) ys
 | [], [], _ => by simp [RelL, C6]
 | [], _ :: _, r => by simp [RelL] at r
 | _ :: _, [], r => by simp [RelL] at r
 | _ :: _, _ :: _, r => by
  simp only [RelL, C6] at r ⊢
  exact ⟨ej ha hf r.1, bo ha hf r.2⟩
end
theorem kj (ha : ∀ k, av' k → av k) (hf : ∀ r y, RefRel l h r y → Rel w av' l' h' (f r) y) : ∀ {kvs : List (D × D × Nat)} {es : List MapEntry}, RelKV w av l h kvs es →
  RelKV w av' l' h' (kvs.map fun e => (Da f e.1, Da f e.2.1, e.2.2)) es
 | [], [], _ => by simp [RelKV]
 | [], _ :: _, r => by simp [RelKV] at r
 | _ :: _, [], r => by simp [RelKV] at r
 | (k, d, m) :: kvs, e :: es, r => by
  simp only [RelKV, Dj] at r ⊢
  exact ⟨ej ha hf r.1, ej ha hf r.2.1, r.2.2.1, kj ha hf r.2.2.2⟩
theorem eD (ha : ∀ k, av' k → av k) (hf : ∀ r y, RefRel l h r y → Rel w av' l' h' (f r) y) {b b' : Nat} (hl : l' b' = l b) {x : Blk} (hm : fZ x = false) (r : BlkOk w av l h b x) : BlkOk w av' l' h' b' (x.mapR f) := by
 cases x with
 | var cs =>
  obtain ⟨blk, cp, c, T, r1, r2, r3⟩ := r
  exact ⟨blk, cp, c, T, hl.trans r1, r2, bo ha hf r3⟩
 | vec es e sz =>
  unfold BlkOk at r ⊢
  simp only [DN, hl] at r ⊢
  split
  ·rename_i h0; rw [h0] at r; simp only at r; rw [r]; rfl
  ·rename_i blk cap h0
   rw [h0] at r
   obtain ⟨c, T, fr, ys, r1, r2, r3, r4, r5, r6, r7⟩ := r
   refine ⟨c, T, fr, ys, r1, r2, by simpa using r3, r4, ?_, ?_, r7⟩
   ·intro e he
    obtain ⟨e0, he0, rfl⟩ := CC.1 he
    rw [fa]; exact r5 e0 he0
   ·rw [← ez]; exact bo ha hf r6
 | map kvs clock =>
  obtain ⟨blk, cp, es, r1, r2, r3⟩ := r
  exact ⟨blk, cp, es, hl.trans r1, r2, kj ha hf r3⟩
 | sit s pos =>
  obtain ⟨blk, cp, r1, r2⟩ := r
  exact ⟨blk, cp, hl.trans r1, r2⟩
 | mit m since seen st => simp [fZ] at hm
 | loop st pend fn tmps params asg body =>
  obtain ⟨blk, cp, ts, dr, fn', r1, r2, r3⟩ := r
  exact ⟨blk, cp, ts, dr, fn', hl.trans r1, r2, bo ha hf r3⟩
 | defd =>
  obtain ⟨blk, cp, r1, r2⟩ := r
  exact ⟨blk, cp, hl.trans r1, r2⟩
 | gone => trivial
end
theorem lX {f : Ref → D} (x : Blk) : fZ (x.mapR f) = fZ x := by cases x <;> rfl
theorem sn {f g : Ref → D} {x y : Blk} (h : (x.mapR f).le y) : x.le (y.mapR g) ∧ (x.stays (y.mapR g) → (x.mapR f).stays y) := by
 cases x <;> cases y <;> simp only [Hb, DN] at h <;> simp_all [Hb, DN, GM]
theorem xW {g : Ref → D} {x y : Blk} (h : x.le y) : x.le (y.mapR g) ∧ (x.stays (y.mapR g) → x.stays y) := by
 cases x <;> cases y <;> simp only [Hb] at h <;> simp_all [Hb, DN, GM]
theorem kl {l l' : Loc} {h h' : List Blk} {f : Ref → D} {r : Ref} {n : Nat} {x : Blk} {y : Value} (hx : h[r.blk]? = some x) (hx' : h'[n]? = some (x.mapR f)) (hl : l' n = l r.blk) (rr : RefRel l h r y) : RefRel l' h' (r.to n) y := by
 unfold RefRel at rr ⊢
 refine ⟨rr.1, ?_⟩
 have rr := rr.2
 cases r <;> simp only [Fg] at hx hl <;> simp only [hx] at rr <;> simp only [Ref.to, hx', hl] <;> cases x <;> simp [DN] at rr ⊢ <;> exact rr
theorem eF {l : Loc} {h : List Blk} {r : Ref} {y : Value} (rr : RefRel l h r y) : ∃ x, h[r.blk]? = some x := by
 unfold RefRel at rr
 have rr := rr.2
 cases hx : h[r.blk]? with
 | some x => exact ⟨x, rfl⟩
 | none => cases r <;> simp only [Fg] at hx <;> simp only [hx] at rr
def pick (is : List Nat) (H : List Blk) : List Blk := is.map fun i => (H.getD i .gone).mapR (inv is)
theorem jt {is : List Nat} {H : List Blk} {b : Nat} {x : Blk} (h : (pick is H)[b]? = some x) : ∃ i, is[b]? = some i ∧ x = (H.getD i .gone).mapR (inv is) := by
 unfold pick at h
 rw [Dz] at h
 cases hi : is[b]? with
 | none => rw [hi] at h; simp at h
 | some i => rw [hi] at h; exact ⟨i, rfl, by simpa using h.symm⟩
section
variable {Γ : ak} {O : Nat → Prop} {w : World} {l : Loc} {H : List Blk} {is : List Nat}
def kV (is : List Nat) (l : Loc) : Loc := fun b => match is[b]? with
 | some i => l i
 | none => none
theorem so {k : Nat} (ho : own (kV is l) (pick is H) k) : ∃ (b i cp : Nat) (x : Blk), is[b]? = some i ∧ H[i]? = some x ∧ x ≠ .gone ∧ l i = some (k, cp) := by
 obtain ⟨b, x, cp, h1, h2, h3⟩ := ho
 obtain ⟨i, hi, rfl⟩ := jt h1
 unfold kV at h3
 rw [hi] at h3
 have hg : H.getD i .gone ≠ .gone := fun e => h2 (by rw [e]; rfl)
 refine ⟨b, i, cp, H.getD i .gone, hi, ?_, hg, h3⟩
 cases hx : H[i]? with
 | none => simp [Cl, hx] at hg
 | some x => simp [Cl, hx]
theorem bu {k : Nat} (ho : own (kV is l) (pick is H) k) : own l H k := by
 obtain ⟨b, i, cp, x, _, h2, h3, h4⟩ := so ho
 exact ⟨i, x, cp, h2, h3, h4⟩
theorem iA (hn : is.Nodup) {r : Ref} {y : Value} (rr : RefRel l H r y) {av : Nat → Prop} : Rel w av (kV is l) (pick is H) (inv is r) y := by
 unfold inv
 cases hi : idx r.blk 0 is with
 | none => simp [Rel]
 | some i =>
  obtain ⟨_, h2⟩ := fA hi
  simp only [Fc] at h2
  obtain ⟨x, hx⟩ := eF rr
  simp only [Rel]
  refine kl (f := inv is) hx ?_ ?_ rr
  ·unfold pick
   rw [Dz, h2]
   simp [Cl, hx]
  ·unfold kV
   rw [h2]
theorem Rep.pick (R : Rep Γ O w l H) (hn : is.Nodup) (hm : (pick is H).all (fun x => !fZ x) = true) {O' : Nat → Prop} (hO : ∀ k, avs O' (kV is l) (Vi.pick is H) k → avs O l H k) (hO2 : ∀ k, O' k → avs O l H k ∧ ¬ own (kV is l) (Vi.pick is H) k) :
  Rep Γ O' w (kV is l) (Vi.pick is H) where
 inb k ho := ⟨(R.inb k (bu ho)).1, fun h' => (hO2 k h').2 ho⟩
 obd k ho := by
  rcases (hO2 k ho).1 with h' | h'
  ·exact R.obd k h'
  ·exact (R.inb k h').1
 inj b b' x x' k c c' h1 h2 h3 h4 h5 h6 := by
  obtain ⟨i, hi, rfl⟩ := jt h1
  obtain ⟨i', hi', rfl⟩ := jt h3
  unfold kV at h5 h6
  rw [hi] at h5; rw [hi'] at h6
  have g1 : H.getD i .gone ≠ .gone := fun e => h2 (by rw [e]; rfl)
  have g2 : H.getD i' .gone ≠ .gone := fun e => h4 (by rw [e]; rfl)
  have e1 : H[i]? = some (H.getD i .gone) := by
   cases hx : H[i]? with
   | none => simp [Cl, hx] at g1
   | some x => simp [Cl, hx]
  have e2 : H[i']? = some (H.getD i' .gone) := by
   cases hx : H[i']? with
   | none => simp [Cl, hx] at g2
   | some x => simp [Cl, hx]
  have := R.inj i i' _ _ k c c' e1 g1 e2 g2 h5 h6
  subst this
  have a1 := sm hn hi
  have a2 := sm hn hi'
  rw [a1] at a2
  exact G3 a2
 blk b x h1 := by
  obtain ⟨i, hi, rfl⟩ := jt h1
  cases hx : H[i]? with
  | none => simp [Cl, hx, DN, BlkOk]
  | some x =>
   have hg : H.getD i .gone = x := by simp [Cl, hx]
   rw [hg] at h1 ⊢
   refine eD hO (fun r y rr => iA hn rr) (b := i) ?_ ?_ (R.blk i x hx)
   ·unfold kV; rw [hi]
   ·have := CB.1 hm _ (CS h1)
    rw [lX] at this
    simpa using this
 glo g cs hg := aD hO (R.glo g cs hg)
end
def eR (is : List Nat) (m : Nat) (h' : List Blk) : Nat → List Blk → List Blk
 | _, [] => []
 | b, x :: xs => (match idx b 0 is with
  | some i => (h'.getD i .gone).mapR (fwd is m)
  | none => x) :: eR is m h' (b + 1) xs
def lY (is : List Nat) (h' : List Blk) (H : List Blk) : List Blk := eR is H.length h' 0 H ++ (h'.drop is.length).map (DN (fwd is H.length))
theorem cq {is : List Nat} {m : Nat} {h' : List Blk} : ∀ (b : Nat) (xs : List Blk), (eR is m h' b xs).length = xs.length
 | _, [] => rfl
 | b, x :: xs => by simp [eR, cq (b + 1) xs]
theorem iB {is : List Nat} {m : Nat} {h' : List Blk} : ∀ (b : Nat) (xs : List Blk) (j : Nat), (eR is m h' b xs)[j]? = (xs[j]?).map fun x => match idx (b + j) 0 is with | some i => (h'.getD i .gone).mapR (fwd is m) | none => x
 | b, [], j => by simp [eR]
 | b, x :: xs, 0 => by simp [eR]
 | b, x :: xs, j + 1 => by
  simp only [eR, DL]
  rw [iB (b + 1) xs j, show b + 1 + j = b + (j + 1) by omega]
section
variable {is : List Nat} {h' H : List Blk}
theorem sq {b : Nat} {x : Blk} (hx : H[b]? = some x) (hi : idx b 0 is = none) : (lY is h' H)[b]? = some x := by
 have hlt := (Ce.1 hx).1
 unfold lY
 rw [Cr (by rw [cq]; exact hlt), iB, hx]
 simp [hi]
theorem qr {b i : Nat} {x : Blk} (hx : H[b]? = some x) (hi : idx b 0 is = some i) : (lY is h' H)[b]? = some ((h'.getD i .gone).mapR (fwd is H.length)) := by
 have hlt := (Ce.1 hx).1
 unfold lY
 rw [Cr (by rw [cq]; exact hlt), iB, hx]
 simp [hi]
theorem sr {j : Nat} : (lY is h' H)[H.length + j]? = (h'[is.length + j]?).map (DN (fwd is H.length)) := by
 unfold lY
 rw [List.getElem?_append_right (by rw [cq]; omega), cq, Dz, List.getElem?_drop]
 simp
theorem putB_cases {b : Nat} {x : Blk} (h : (lY is h' H)[b]? = some x) :
  (idx b 0 is = none ∧ H[b]? = some x) ∨ (∃ i, b < H.length ∧ idx b 0 is = some i ∧ x = (h'.getD i .gone).mapR (fwd is H.length)) ∨ ∃ j y, b = H.length + j ∧ h'[is.length + j]? = some y ∧ x = y.mapR (fwd is H.length) := by
 by_cases hb : b < H.length
 ·have hx : H[b]? = some H[b] := Cv hb
  cases hi : idx b 0 is with
  | none => rw [sq hx hi] at h; cases h; exact .inl ⟨rfl, hx⟩
  | some i => rw [qr hx hi] at h; cases h; exact .inr (.inl ⟨i, hb, rfl, rfl⟩)
 ·obtain ⟨j, rfl⟩ : ∃ j, b = H.length + j := ⟨b - H.length, by omega⟩
  rw [sr] at h
  cases hy : h'[is.length + j]? with
  | none => rw [hy] at h; simp at h
  | some y => rw [hy] at h; exact .inr (.inr ⟨j, y, rfl, hy, by simpa using h.symm⟩)
end
def ss (is : List Nat) (m : Nat) (l l0 : Loc) : Loc := fun b => match idx b 0 is with
 | some i => l0 i
 | none => match decide (b < m) with
  | true => l b
  | false => l0 (is.length + (b - m))
theorem Ev.frame {P : Program} {Γ : ak} {f : FuncId} {args0 args : List D} {h0 h0' H : List Blk} {d0 : D} (is : List Nat) (he : Ev P Γ f args0 h0 d0 h0') (hn : is.Nodup) (hb : ∀ i ∈ is, i < H.length)
  (ha : C6 (inv is) args = args0) (hh : pick is H = h0) (hm : (h0.all (fun x => !fZ x) && h0'.all (fun x => !fZ x)) = true) :
  Ev P Γ f args H (d0.mapR (fwd is H.length)) (lY is h0' H) := by
 simp only [Cd] at hm
 subst hh ha
 intro O w l vs R ra
 let O' : Nat → Prop := fun k => avs O l H k ∧ ¬ own (kV is l) (pick is H) k
 have hO1 : ∀ k, avs O' (kV is l) (pick is H) k → avs O l H k := fun k ho => ho.elim (·.1) (fun h => .inr (bu h))
 have hO2 : ∀ k, avs O l H k → avs O' (kV is l) (pick is H) k := fun k ho => by
  by_cases h : own (kV is l) (pick is H) k
  ·exact .inr h
  ·exact .inl ⟨ho, h⟩
 have R0 : Rep Γ O' w (kV is l) (pick is H) := R.pick hn hm.1 hO1 (fun k h => h)
 have ra0 : RelL w (avs O' (kV is l) (pick is H)) (kV is l) (pick is H) (C6 (inv is) args) vs := bo hO1 (fun r y rr => iA hn rr) ra
 refine DH (he O' w (kV is l) vs R0 ra0) ?_
 rintro e w' ⟨v, d2, h2, l', rfl, ⟨rfl, rfl⟩, R', E', rd⟩
 have hlen : is.length ≤ h2.length := by
  rcases Nat.lt_or_ge h2.length is.length with hlt | hge
  ·exfalso
   have hp : (pick is H)[h2.length]? ≠ none := by
    unfold pick; rw [Dz]; simp [hlt]
   cases hx : (pick is H)[h2.length]? with
   | none => exact hp hx
   | some x =>
    obtain ⟨x', h1, _⟩ := E'.keep _ x hx
    simp at h1
  ·exact hge
 have hisP : ∀ {b i : Nat}, is[b]? = some i → ∃ x, H[i]? = some x ∧ (pick is H)[b]? = some (x.mapR (inv is)) := fun {b i} hi => by
  have hlt := hb i (CS hi)
  refine ⟨H[i], Cv hlt, ?_⟩
  unfold pick
  rw [Dz, hi]
  simp [Cl, Cv hlt]
 have L1 : ∀ {i b : Nat}, is[i]? = some b → ss is H.length l l' b = l' i := fun {i b} hi => by
  unfold ss; rw [sm hn hi]
 have L2 : ∀ {b : Nat}, idx b 0 is = none → b < H.length → ss is H.length l l' b = l b := fun {b} h1 h2 => by
  unfold ss; rw [h1]; simp [h2]
 have L3 : ∀ {j : Nat}, ss is H.length l l' (H.length + j) = l' (is.length + j) := fun {j} => by
  unfold ss
  have : idx (H.length + j) 0 is = none := by
   cases hi : idx (H.length + j) 0 is with
   | none => rfl
   | some i =>
    obtain ⟨_, h2⟩ := fA hi
    have := hb _ (CS h2)
    omega
  rw [this]
  have : decide (H.length + j < H.length) = false := by simp
  simp only [this, show is.length + (H.length + j - H.length) = is.length + j by omega]
 have back : ∀ {b : Nat} {x : Blk}, (lY is h2 H)[b]? = some x → (idx b 0 is = none ∧ H[b]? = some x) ∨ ∃ i y, h2[i]? = some y ∧ x = y.mapR (fwd is H.length) ∧ ss is H.length l l' b = l' i ∧ (∀ b' x', (lY is h2 H)[b']? = some x' → (idx b' 0 is = none ∧ H[b']? = some x') ∨ ∃ i' y', h2[i']? = some y' ∧ x' = y'.mapR (fwd is H.length) ∧ ss is H.length l l' b' = l' i' ∧ (i = i' → b = b')) := by
  have one : ∀ {b : Nat} {x : Blk}, (lY is h2 H)[b]? = some x → (idx b 0 is = none ∧ H[b]? = some x) ∨ ∃ i y, h2[i]? = some y ∧ x = y.mapR (fwd is H.length) ∧ ss is H.length l l' b = l' i ∧ ((i < is.length ∧ is[i]? = some b) ∨ (is.length ≤ i ∧ b = H.length + (i - is.length))) := by
   intro b x hx
   rcases putB_cases hx with h | ⟨i, h1, h3, rfl⟩ | ⟨j, y, rfl, h3, rfl⟩
   ·exact .inl h
   ·obtain ⟨_, h4⟩ := fA h3
    simp only [Fc] at h4
    have hi := (Ce.1 h4).1
    have : h2[i]? = some (h2.getD i .gone) := by
     rw [Cl, Cv (by omega)]; rfl
    exact .inr ⟨i, _, this, rfl, L1 h4, .inl ⟨hi, h4⟩⟩
   ·exact .inr ⟨_, y, h3, rfl, L3, .inr ⟨by omega, by omega⟩⟩
  intro b x hx
  rcases one hx with h | ⟨i, y, h1, h3, h4, h5⟩
  ·exact .inl h
  ·refine .inr ⟨i, y, h1, h3, h4, fun b' x' hx' => ?_⟩
   rcases one hx' with h | ⟨i', y', g1, g3, g4, g5⟩
   ·exact .inl h
   ·refine .inr ⟨i', y', g1, g3, g4, fun e => ?_⟩
    subst e
    rcases h5 with ⟨a1, a2⟩ | ⟨a1, a2⟩ <;> rcases g5 with ⟨c1, c2⟩ | ⟨c1, c2⟩
    ·rw [a2] at c2; exact G3 c2
    ·omega
    ·omega
    ·omega
 have hgone : ∀ {y : Blk}, y.mapR (fwd is H.length) ≠ .gone → y ≠ .gone := fun {y} h e => h (by rw [e]; rfl)
 have oldO : ∀ {b : Nat} {x : Blk} {k c : Nat}, idx b 0 is = none → H[b]? = some x → x ≠ .gone → l b = some (k, c) → O' k := fun {b x k c} hi hx hg hl => by
  refine ⟨.inr ⟨b, x, c, hx, hg, hl⟩, fun ho => ?_⟩
  obtain ⟨b', i, cp, x', q1, q2, q3, q4⟩ := so ho
  have := R.inj b i x x' k c cp hx hg q2 q3 hl q4
  subst this
  exact nt hi (CS q1)
 have ownL : ∀ {k : Nat}, own (ss is H.length l l') (lY is h2 H) k → own l' h2 k ∨ (own l H k ∧ O' k) := fun {k} ⟨b, x, cp, g1, g2, g3⟩ => by
  rcases back g1 with ⟨a1, a2⟩ | ⟨i, y, a1, a2, a3, _⟩
  ·have hlt := (Ce.1 a2).1
   rw [L2 a1 hlt] at g3
   exact .inr ⟨⟨b, x, cp, a2, g2, g3⟩, oldO a1 a2 g2 g3⟩
  ·rw [a3] at g3
   exact .inl ⟨i, y, cp, a1, hgone (a2 ▸ g2), g3⟩
 have avL : ∀ k, avs O (ss is H.length l l') (lY is h2 H) k → avs O' l' h2 k := fun k ho => by
  rcases ho with ho | ho
  ·refine .inl ⟨.inl ho, fun h => (R.inb k (bu h)).2 ho⟩
  ·rcases ownL ho with h | h
   ·exact .inr h
   ·exact .inl h.2
 have hf : ∀ (r : Ref) (y : Value), RefRel l' h2 r y → Rel w' (avs O (ss is H.length l l') (lY is h2 H)) (ss is H.length l l') (lY is h2 H) (fwd is H.length r) y := fun r y rr => by
  obtain ⟨x, hx⟩ := eF rr
  unfold fwd
  cases hi : is[r.blk]? with
  | some b =>
   simp only [Rel]
   obtain ⟨x0, q1, _⟩ := hisP hi
   refine kl hx ?_ (L1 hi) rr (f := fwd is H.length)
   rw [qr q1 (sm hn hi)]
   simp [Cl, hx]
  | none =>
   simp only [Rel]
   have hge : is.length ≤ r.blk := by simpa using hi
   refine kl hx ?_ ?_ rr (f := fwd is H.length)
   ·rw [sr, show is.length + (r.blk - is.length) = r.blk by omega, hx]; rfl
   ·rw [L3, show is.length + (r.blk - is.length) = r.blk by omega]
 have E : Ext w l H w' (ss is H.length l l') (lY is h2 H) := by
  refine ⟨E'.size, fun blk hlt hno => E'.same blk hlt (fun ho => hno (bu ho)), fun blk ho => ?_, fun b x hx => ?_, E'.tape⟩
  ·rcases ownL ho with h | h
   ·rcases E'.news blk h with h | h
    ·exact .inl (bu h)
    ·exact .inr h
   ·exact .inl h.1
  ·have hlt := (Ce.1 hx).1
   cases hi : idx b 0 is with
   | none => exact ⟨x, sq hx hi, x.le_refl, fun _ => L2 hi hlt⟩
   | some i =>
    obtain ⟨_, h4⟩ := fA hi
    simp only [Fc] at h4
    obtain ⟨x0, q1, q2⟩ := hisP h4
    rw [hx] at q1; cases q1
    obtain ⟨x', k1, k2, k3⟩ := E'.keep i _ q2
    have hgd : h2.getD i .gone = x' := by simp [Cl, k1]
    refine ⟨_, qr hx hi, ?_, fun hs => ?_⟩
    ·rw [hgd]; exact (sn k2).1
    ·rw [hgd] at hs
     rw [L1 h4, k3 ((sn k2).2 hs)]
     unfold kV; rw [h4]
 refine ⟨v, _, _, _, rfl, ⟨rfl, rfl⟩, ⟨fun k ho => ?_, fun k ho => D4 (R.obd k ho) E'.size, ?_, fun b x hx => ?_, fun g cs hg => ?_⟩, E, ?_⟩
 ·rcases ownL ho with h | h
  ·obtain ⟨p1, p2⟩ := R'.inb k h
   refine ⟨p1, fun hk => p2 ⟨.inl hk, fun ho' => (R.inb k (bu ho')).2 hk⟩⟩
  ·obtain ⟨p1, p2⟩ := R.inb k h.1
   exact ⟨D4 p1 E'.size, p2⟩
 ·intro b b' x x' k c c' g1 g2 g3 g4 g5 g6
  rcases back g1 with ⟨a1, a2⟩ | ⟨i, y, a1, a2, a3, a4⟩
  ·have hlt := (Ce.1 a2).1
   rw [L2 a1 hlt] at g5
   rcases back g3 with ⟨d1, d2⟩ | ⟨i', y', d1, d2, d3, _⟩
   ·have hlt' := (Ce.1 d2).1
    rw [L2 d1 hlt'] at g6
    exact R.inj b b' x x' k c c' a2 g2 d2 g4 g5 g6
   ·rw [d3] at g6
    exact absurd (oldO a1 a2 g2 g5) (R'.inb k ⟨i', y', c', d1, hgone (d2 ▸ g4), g6⟩).2
  ·rw [a3] at g5
   rcases a4 b' x' g3 with ⟨d1, d2⟩ | ⟨i', y', d1, d2, d3, d4⟩
   ·have hlt' := (Ce.1 d2).1
    rw [L2 d1 hlt'] at g6
    exact absurd (oldO d1 d2 g4 g6) (R'.inb k ⟨i, y, c, a1, hgone (a2 ▸ g2), g5⟩).2
   ·rw [d3] at g6
    exact d4 (R'.inj i i' y y' k c c' a1 (hgone (a2 ▸ g2)) d1 (hgone (d2 ▸ g4)) g5 g6)
 ·rcases back hx with ⟨a1, a2⟩ | ⟨i, y, a1, rfl, a3, _⟩
  ·have hlt := (Ce.1 a2).1
   by_cases hg : x = .gone
   ·subst hg; trivial
   refine BlkOk.ext E (L2 a1 hlt) (fun blk cp hl => ?_) (R.blk b x a2)
   exact E'.same blk (R.inb blk ⟨b, x, cp, a2, hg, hl⟩).1 (oldO a1 a2 hg hl).2
  ·refine eD avL hf a3 ?_ (R'.blk i y a1)
   have := CB.1 hm.2 y (CS a1)
   simpa using this
 ·exact FD E.hc g 0 cs (R.glo g cs hg)
 ·exact ej avL hf rd
end Go.Vi
namespace Go.Vi
open Go
def oW : List Nat → Bool
 | [] => true
 | x :: xs => !uW x xs && oW xs
theorem iC : ∀ {xs : List Nat}, oW xs = true → xs.Nodup
 | [], _ => List.nodup_nil
 | x :: xs, h => by
  simp only [oW, Cd, Bool.not_eq_true'] at h
  refine List.nodup_cons.2 ⟨fun hm => ?_, iC h.2⟩
  rw [eB.2 hm] at h
  simp at h
def qt (is : List Nat) (H : List Blk) : List Nat → List Blk
 | [] => []
 | i :: js => keepX (inv is) (H.getD i .gone) :: qt is H js
def xX (is : List Nat) (H : List Blk) : List Nat → List Prop
 | [] => []
 | i :: js => j2 (inv is) (H.getD i .gone) ++ xX is H js
theorem nu {is : List Nat} {H : List Blk} : ∀ {js : List Nat}, AllP (xX is H js) → qt is H js = js.map fun i => (H.getD i .gone).mapR (inv is)
 | [], _ => rfl
 | i :: js, h => by
  obtain ⟨h1, h2⟩ := FH (ps := j2 (inv is) (H.getD i .gone)) h
  simp only [qt, Dj, gy h1, nu h2]
def nv (is : List Nat) (m : Nat) (h' : List Blk) : Nat → List Blk → List Blk
 | _, [] => []
 | b, x :: xs => (match idx b 0 is with
  | some i => keepX (fwd is m) (h'.getD i .gone)
  | none => x) :: nv is m h' (b + 1) xs
def mapX (f : Ref → D) : List Blk → List Blk
 | [] => []
 | x :: xs => keepX f x :: mapX f xs
def mapP (f : Ref → D) : List Blk → List Prop
 | [] => []
 | x :: xs => j2 f x ++ mapP f xs
theorem vg {f : Ref → D} : ∀ {h : List Blk}, AllP (mapP f h) → mapX f h = h.map (DN f)
 | [], _ => rfl
 | x :: xs, h => by
  obtain ⟨h1, h2⟩ := FH (ps := j2 f x) h
  simp only [mapX, Dj, gy h1, vg h2]
theorem su {f : Ref → D} : ∀ {h : List Blk} (i : Nat), AllP (mapP f h) → AllP (j2 f (h.getD i .gone))
 | [], i, _ => by simp [j2, AllP]
 | x :: xs, i, h => by
  obtain ⟨h1, h2⟩ := FH (ps := j2 f x) h
  cases i with
  | zero => exact h1
  | succ i => simpa using su i h2
theorem oX {f : Ref → D} : ∀ {h : List Blk} (i : Nat), AllP (mapP f h) → AllP (mapP f (h.drop i))
 | [], i, _ => by simp [mapP, AllP]
 | x :: xs, i, h => by
  cases i with
  | zero => exact h
  | succ i =>
   obtain ⟨h1, h2⟩ := FH (ps := j2 f x) h
   exact oX i h2
theorem lZ {is : List Nat} {m : Nat} {h' : List Blk} (hp : AllP (mapP (fwd is m) h')) : ∀ (b : Nat) (xs : List Blk), nv is m h' b xs = eR is m h' b xs
 | _, [] => rfl
 | b, x :: xs => by
  simp only [nv, eR, lZ hp (b + 1) xs]
  cases idx b 0 is with
  | none => rfl
  | some i => simp only [gy (su i hp)]
def putX (is : List Nat) (h' : List Blk) (H : List Blk) : List Blk := nv is H.length h' 0 H ++ mapX (fwd is H.length) (h'.drop is.length)
theorem Ax {is : List Nat} {h' H : List Blk} (hp : AllP (mapP (fwd is H.length) h')) : putX is h' H = lY is h' H := by
 unfold putX lY
 rw [lZ hp, vg (oX _ hp)]
def vj (is : List Nat) (h0 h0' H : List Blk) : Bool := oW is && is.all (fun i => decide (i < H.length)) && (h0.all (fun x => !fZ x) && h0'.all (fun x => !fZ x))
theorem Ev.frameX {P : Program} {Γ : ak} {f : FuncId} {args0 args : List D} {h0 h0' H : List Blk} {d0 : D} (is : List Nat) (he : Ev P Γ f args0 h0 d0 h0') (hk : vj is h0 h0' H = true)
  (ha : C6 (inv is) args = args0) (hh : qt is H is = h0) (p1 : AllP (xX is H is)) (p2 : AllP (mapP (fwd is H.length) h0')) : Ev P Γ f args H (d0.mapR (fwd is H.length)) (putX is h0' H) := by
 simp only [vj, Cd] at hk
 rw [Ax p2]
 refine Ev.frame is he (iC hk.1.1) (fun i hi => ?_) ha ?_ (by rw [hk.2.1, hk.2.2]; rfl)
 ·have := CB.1 hk.1.2 i hi
  simpa using this
 ·rw [← hh, nu p1]; rfl
def fwd0 (m : Nat) (r : Ref) : D := .ref (r.to (m + r.blk))
theorem vk (m : Nat) : fwd [] m = fwd0 m := by
 funext r; simp [fwd, fwd0]
theorem Ev.frameN {P : Program} {Γ : ak} {f : FuncId} {args : List D} {h0' : List Blk} {d0 : D} (he : Ev P Γ f args [] d0 h0') (hm : h0'.all (fun x => !fZ x) = true)
  (ha : CT 0 args = true) (h : List Blk) : Ev P Γ f args h (d0.mapR (fwd0 h.length)) (h ++ h0'.map (DN (fwd0 h.length))) := by
 have hr : ∀ (f : Ref → D), (∀ d, DS 0 d = true → Da f d = d) ∧ ∀ ds, CT 0 ds = true → C6 f ds = ds := fun f => by
  refine ⟨?_, ?_⟩
  ·intro d
   refine D.rec (motive_1 := fun d => DS 0 d = true → Da f d = d) (motive_2 := fun ds => CT 0 ds = true → C6 f ds = ds) ?_ ?_ ?_ ?_ ?_ ?_ ?_ ?_ ?_ ?_ ?_ d
   ·intros; rfl
   ·intros; rfl
   ·intro r h; cases r <;> simp [DS] at h
   ·intros; rfl
   ·intros; rfl
   ·intro g a b ih1 ih2 h; simp only [DS, Cd] at h; simp only [Da, ih1 h.1, ih2 h.2]
   ·intro cs ih h; simp only [DS] at h; simp only [Da, ih h]
   ·intro cs ih h; simp only [DS] at h; simp only [Da, ih h]
   ·intro g d ih h; simp only [DS] at h; simp only [Da, ih h]
   ·intros; rfl
   ·intro d ds ih1 ih2 h; simp only [CT, Cd] at h; simp only [C6, ih1 h.1, ih2 h.2]
  ·intro ds
   refine D.rec_1 (motive_1 := fun d => DS 0 d = true → Da f d = d) (motive_2 := fun ds => CT 0 ds = true → C6 f ds = ds) ?_ ?_ ?_ ?_ ?_ ?_ ?_ ?_ ?_ ?_ ?_ ds
   ·intros; rfl
   ·intros; rfl
   ·intro r h; cases r <;> simp [DS] at h
   ·intros; rfl
   ·intros; rfl
   ·intro g a b ih1 ih2 h; simp only [DS, Cd] at h; simp only [Da, ih1 h.1, ih2 h.2]
   ·intro cs ih h; simp only [DS] at h; simp only [Da, ih h]
   ·intro cs ih h; simp only [DS] at h; simp only [Da, ih h]
   ·intro g d ih h; simp only [DS] at h; simp only [Da, ih h]
   ·intros; rfl
   ·intro d ds ih1 ih2 h; simp only [CT, Cd] at h; simp only [C6, ih1 h.1, ih2 h.2]
 have := Ev.frame (H := h) [] he List.nodup_nil (by simp) ((hr _).2 args ha) rfl (by simpa using hm)
 rw [vk] at this
 have e : lY [] h0' h = h ++ h0'.map (DN (fwd0 h.length)) := by
  unfold lY
  have : ∀ (b : Nat) (xs : List Blk), eR [] h.length h0' b xs = xs := by
   intro b xs
   induction xs generalizing b with
   | nil => rfl
   | cons x xs ih => simp [eR, idx, ih]
  rw [this, vk]
  simp
 rw [e] at this
 exact this
section
variable {Γ : ak} {P : Program}
theorem Ev.keepB {f : FuncId} {args : List D} {h h' : List Blk} {d : D} (he : Ev P Γ f args h d h') (ks : List Nat) (hk : (oW (C1 h.length ++ ks) && (qt (C1 h.length ++ ks) h' (C1 h.length ++ ks)).all (fun x => !fZ x)) = true)
  (hp : AllP (xX (C1 h.length ++ ks) h' (C1 h.length ++ ks))) : Ev P Γ f args h (d.mapR (inv (C1 h.length ++ ks))) (qt (C1 h.length ++ ks) h' (C1 h.length ++ ks)) := by
 simp only [Cd] at hk
 intro O w l vs R ra
 refine DH (he O w l vs R ra) ?_
 rintro e w' ⟨v, d2, h2, l', rfl, ⟨rfl, rfl⟩, R', E', rd⟩
 have hn := iC hk.1
 have hpk : qt (C1 h.length ++ ks) h2 (C1 h.length ++ ks) = pick (C1 h.length ++ ks) h2 := by rw [nu hp]; rfl
 rw [hpk] at hk ⊢
 have hat : ∀ {b : Nat}, b < h.length → (C1 h.length ++ ks)[b]? = some b := fun {b} hb => by
  rw [Cr (by simpa using hb)]; simp [hb]
 generalize C1 h.length ++ ks = is at hn hk hat
 have hO : ∀ k, avs O (kV is l') (pick is h2) k → avs O l' h2 k := fun k ho => ho.imp id bu
 refine ⟨v, _, _, kV is l', rfl, ⟨rfl, rfl⟩, R'.pick hn hk.2 hO (fun k ho => ⟨.inl ho, fun h => (R'.inb k (bu h)).2 ho⟩),
  ⟨E'.size, E'.same, fun blk ho => E'.news blk (bu ho), fun b x hx => ?_, E'.tape⟩, bo hO (fun r y rr => iA hn rr) (ds := [d2]) (ys := [v]) ⟨rd, trivial⟩ |>.1⟩
 have hlt := (Ce.1 hx).1
 obtain ⟨x', h1, h2', h3⟩ := E'.keep b x hx
 obtain ⟨g1, g2⟩ := xW (g := inv is) h2'
 refine ⟨_, ?_, g1, fun hs => ?_⟩
 ·unfold pick
  rw [Dz, hat hlt]
  simp [Cl, h1]
 ·unfold kV
  rw [hat hlt]
  exact h3 (g2 hs)
end
end Go.Vi
namespace Go.Vi
open Go
def GLe (Γ Γ' : ak) : Prop := ∀ g cs, Γ g = some cs → Γ' g = some cs
theorem GLe.none (Γ' : ak) : GLe (fun _ => Option.none) Γ' := fun _ _ h => by simp at h
theorem Rep.less {Γ Γ' : ak} {O : Nat → Prop} {w : World} {l : Loc} {h : List Blk} (hg : GLe Γ Γ') (R : Rep Γ' O w l h) : Rep Γ O w l h :=
 ⟨R.inb, R.obd, R.inj, R.blk, fun g cs h => R.glo g cs (hg g cs h)⟩
theorem Rep.more {Γ Γ' : ak} {O : Nat → Prop} {w w' : World} {l l' : Loc} {h h' : List Blk} (R : Rep Γ' O w l h) (E : Ext w l h w' l' h') (R' : Rep Γ O w' l' h') : Rep Γ' O w' l' h' :=
 ⟨R'.inb, R'.obd, R'.inj, R'.blk, fun g cs hg => FD E.hc g 0 cs (R.glo g cs hg)⟩
theorem Ev.glob {P : Program} {Γ Γ' : ak} (hg : GLe Γ Γ') {f : FuncId} {args : List D} {h h' : List Blk} {d : D} (he : Ev P Γ f args h d h') : Ev P Γ' f args h d h' := by
 intro O w l vs R ra
 refine DH (he O w l vs (R.less hg) ra) ?_
 rintro e w' ⟨v, d2, h2, l', rfl, hq, R', E', rd⟩
 exact ⟨v, d2, h2, l', rfl, hq, R.more E' R', E', rd⟩
theorem Ev.glob0 {P : Program} {Γ' : ak} {f : FuncId} {args : List D} {h h' : List Blk} {d : D} (he : Ev P (fun _ => none) f args h d h') : Ev P Γ' f args h d h' := he.glob (GLe.none Γ')
end Go.Vi
namespace Go.Vi
open Go
mutual
def D.nilW : D → D
 | .p (.v (.slice none 0 0)) => .p (.sl [])
 | .agg cs => .agg (D.nilWL cs)
 | .tup cs => .tup (D.nilWL cs)
 | d => d
def D.nilWL : List D → List D
 | [] => []
 | d :: ds => D.nilW d :: D.nilWL ds
end
mutual
theorem sv {w : World} {av : Nat → Prop} {l : Loc} {h : List Blk} : ∀ (d : D) (y : Value), Rel w av l h d y → Rel w av l h (D.nilW d) y
 | .p x, y, r => by
  unfold D.nilW
  split
  ·rename_i hx
   simp only [D.p.injEq] at hx
   subst hx
   simp only [Rel, RelP] at r ⊢
   exact .inl ⟨trivial, none, 0, r, fun _ => rfl⟩
  ·rename_i hx; cases hx
  ·rename_i hx; cases hx
  ·exact r
 | .agg cs, y, r => by
  simp only [D.nilW, Rel] at r ⊢
  obtain ⟨vs, r1, r2⟩ := r
  exact ⟨vs, r1, kn cs vs.toList r2⟩
 | .tup cs, y, r => by
  simp only [D.nilW, Rel] at r ⊢
  obtain ⟨vs, r1, r2⟩ := r
  exact ⟨vs, r1, kn cs vs.toList r2⟩
 | .any, _, r => r
 | .ref _, _, r => r
 | .ep _, _, r => r
 | .csl _, _, r => r
 | .fn _ _ _, _, r => r
 | .grd _ _, _, r => r
theorem kn {w : World} {av : Nat → Prop} {l : Loc} {h : List Blk} : ∀ (ds : List D) (ys : List Value), RelL w av l h ds ys → RelL w av l h (D.nilWL ds) ys
 | [], [], _ => trivial
 | [], _ :: _, r => by simp [RelL] at r
 | _ :: _, [], r => by simp [RelL] at r
 | d :: ds, y :: ys, r => by
  simp only [RelL, D.nilWL] at r ⊢
  exact ⟨sv d y r.1, kn ds ys r.2⟩
end
theorem Ev.nilW {P : Program} {Γ : ak} {f : FuncId} {args : List D} {h h' : List Blk} {d : D} (he : Ev P Γ f args h d h') : Ev P Γ f args h d.nilW h' := by
 intro O w l vs R ra
 refine DH (he O w l vs R ra) ?_
 rintro e w' ⟨v, d2, h2, l', rfl, ⟨rfl, rfl⟩, R', E', rd⟩
 exact ⟨v, _, _, l', rfl, ⟨rfl, rfl⟩, R', E', sv _ _ rd⟩
end Go.Vi
namespace Go.Vi
open Go
theorem kp {sz : Nat} : ∀ (es : List (List D)) (n : Nat) (row : List D), (∀ r ∈ es, r.length = sz) → es[n]? = some row → ∃ rest, es.flatten.drop (n * sz) = row ++ rest
 | [], n, row, _, h => by simp at h
 | e :: es, 0, row, hs, h => by
  simp at h; subst h
  exact ⟨es.flatten, by simp⟩
 | e :: es, n + 1, row, hs, h => by
  simp only [DL] at h
  obtain ⟨rest, hr⟩ := kp es n row (fun r hr => hs r (by simp [hr])) h
  refine ⟨rest, ?_⟩
  have he : e.length = sz := hs e (by simp)
  rw [C7, List.drop_append_of_le_length' e es.flatten n sz he, hr]
where
 List.drop_append_of_le_length' (e t : List D) (n sz : Nat) (he : e.length = sz) : (e ++ t).drop ((n + 1) * sz) = t.drop (n * sz) := by
  rw [show (n + 1) * sz = e.length + n * sz by rw [he, EC]; omega, Gz]
  simp
theorem kq {sz : Nat} : ∀ (es : List (List D)) (n : Nat) (new : List D), (∀ r ∈ es, r.length = sz) → new.length = sz → n < es.length → bS es.flatten (n * sz) new = (es.set n new).flatten
 | [], n, new, _, _, h => by simp at h
 | e :: es, 0, new, hs, hn, _ => by
  have he : e.length = sz := hs e (by simp)
  simp [bS, hn, ← he]
 | e :: es, n + 1, new, hs, hn, h => by
  have he : e.length = sz := hs e (by simp)
  have ih := kq es n new (fun r hr => hs r (by simp [hr])) hn (by simpa using h)
  simp only [List.set_cons_succ, C7, ← ih]
  unfold bS
  have e1 : (n + 1) * sz = e.length + n * sz := by rw [he, EC]; omega
  rw [e1, List.take_append, Gz]
  have h1 : List.take (e.length + n * sz) e = e := List.take_of_length_le (by omega)
  have h2 : List.drop (e.length + n * sz + new.length) e = [] := FJ (by omega)
  rw [h1, h2]
  have h3 : e.length + n * sz - e.length = n * sz := by omega
  have h4 : e.length + n * sz + new.length - e.length = n * sz + new.length := by omega
  rw [h3, h4]
  simp [List.append_assoc]
theorem eG {sz : Nat} : ∀ (es : List (List D)), (∀ r ∈ es, r.length = sz) → es.flatten.length = es.length * sz
 | [], _ => by simp
 | e :: es, hs => by
  rw [C7, List.length_append, eG es (fun r hr => hs r (by simp [hr])), hs e (by simp), List.length_cons, EC]; omega
section
variable {P : Program} {h : List Blk} {b sz : Nat} {es : List (List D)}
theorem xY {ty : TypeId} (ha : zh P ty = some true) (hz : szOf P ty = some sz) (hb : h[b]? = some (.var es.flatten)) (hs : ∀ r ∈ es, r.length = sz) {n : Nat} {row : List D} (hn : es[n]? = some row) : bD P h ty (.ref (.ptr b (n * sz))) = some (.agg row) := by
 obtain ⟨rest, hr⟩ := kp es n row hs hn
 have hl : row.length = sz := hs row (CS hn)
 unfold bD
 simp only [hb, hr, dS, ha, hz]
 rw [if_pos (by simp; omega), ← hl]
 simp
theorem kr {ty : TypeId} (ha : zh P ty = some false) (hz : szOf P ty = some 1) (hb : h[b]? = some (.var es.flatten)) (hs : ∀ r ∈ es, r.length = sz) {n j : Nat} {row : List D} {d : D} (hn : es[n]? = some row) (hj : row[j]? = some d) : bD P h ty (.ref (.ptr b (n * sz + j))) = some d := by
 obtain ⟨rest, hr⟩ := kp es n row hs hn
 unfold bD
 have : es.flatten.drop (n * sz + j) = (row ++ rest).drop j := by rw [← hr, List.drop_drop]
 simp only [hb, this, dS, ha, hz]
 rw [List.head?_drop]
 have hlt := (Ce.1 hj).1
 rw [Cr hlt, hj]
theorem xZ {ty : TypeId} (ha : zh P ty = some true) {cs : List D} (hz : szOf P ty = some cs.length) (hb : h[b]? = some (.var cs)) : bD P h ty (.ref (.ptr b 0)) = some (.agg cs) := by
 unfold bD
 simp only [hb, List.drop_zero, dS, ha, hz]
 simp
theorem ku {ty : TypeId} {x : D} {new : List D} (hx : x.cells = some new) (hz : szOf P ty = some sz) (hl : new.length = sz) (hb : h[b]? = some (.var es.flatten)) (hs : ∀ r ∈ es, r.length = sz) {n : Nat} (hn : n < es.length) : cb P h ty (.ref (.ptr b (n * sz))) x = some (h.set b (.var (es.set n new).flatten)) := by
 unfold cb
 simp only [hx, hz, hl, hb]
 have : (n + 1) * sz ≤ es.length * sz := Nat.mul_le_mul_right _ hn
 rw [EC] at this
 rw [if_pos trivial, if_pos (by rw [eG es hs]; omega), kq es n new hs hl hn]
theorem oY {ty : TypeId} {x : D} {new cs : List D} (hx : x.cells = some new) (hz : szOf P ty = some new.length) (hl : cs.length = new.length) (hb : h[b]? = some (.var cs)) : cb P h ty (.ref (.ptr b 0)) x = some (h.set b (.var new)) := by
 unfold cb
 simp only [hx, hz, hb]
 rw [if_pos trivial, if_pos (by omega)]
 have : List.drop new.length cs = [] := FJ (by omega)
 simp [bS, this]
end
end Go.Vi
namespace Go.Vi
open Go
def Ay (fn : Func) : Code := match fn.body with
 | some c => c
 | none => .skip
theorem Ev.of_cw {P : Program} {Γ : ak} {f : FuncId} {args : List D} {h h' : List Blk} {fn : Func} {d : D} {e : Exit} {s : AS} (hf : P.funcs[f]? = some fn) (hb : fn.body.isSome = true)
  (hw : CW P Γ h false (Ay fn) { t := dM fn args, h := h, m := [] } e s) (hs : finF P h fn (some ((e, s, []), [])) = some (d, h', [], [])) : Ev P Γ f args h d h' := by
 cases hc : fn.body with
 | none => rw [hc] at hb; simp at hb
 | some c =>
  unfold Ay at hw
  rw [hc] at hw
  refine ve (r := some ((e, s, []), [])) (φ := []) hf hc ?_ hs trivial
  intro e1 s1 as1 φ1 h1 _
  simp only [B5, Ca] at h1
  obtain ⟨⟨rfl, rfl, _⟩, _⟩ := h1
  exact hw
end Go.Vi
namespace Go.Vi
open Go
def Ref.up (k : Nat) : Ref → Ref
 | .vec b e => .vec b (e + k)
 | .vs b e i n c => .vs b (e + k) i n c
 | .vp b e i j => .vp b (e + k) i j
 | r => r
def Ref.dn (k : Nat) : Ref → D
 | .vec b e => match decide (k ≤ e) with
  | true => .ref (.vec b (e - k))
  | false => .any
 | .vs b e i n c => match decide (k ≤ e) with
  | true => .ref (.vs b (e - k) i n c)
  | false => .any
 | .vp b e i j => match decide (k ≤ e) with
  | true => .ref (.vp b (e - k) i j)
  | false => .any
 | r => .ref r
def upR (ks : List Nat) (r : Ref) : D := .ref (r.up (ks.getD r.blk 0))
def dnR (ks : List Nat) (r : Ref) : D := r.dn (ks.getD r.blk 0)
theorem Ref.up_blk (k : Nat) (r : Ref) : (r.up k).blk = r.blk := by cases r <;> rfl
theorem dn_up (ks : List Nat) (r : Ref) : Da (dnR ks) (upR ks r) = .ref r := by
 simp only [upR, Da, dnR, Ref.up_blk]
 cases r <;> simp [Ref.up, Ref.dn]
def Blk.up (k : Nat) : Blk → Blk
 | .vec es e sz => .vec es (e + k) sz
 | x => x
def pO (ks : List Nat) : Nat → List Blk → List Blk
 | _, [] => []
 | i, x :: xs => (x.mapR (upR ks)).up (ks.getD i 0) :: pO ks (i + 1) xs
theorem bP (ks : List Nat) : ∀ (i : Nat) (h : List Blk) (j : Nat), (pO ks i h)[j]? = (h[j]?).map fun x => (x.mapR (upR ks)).up (ks.getD (i + j) 0)
 | i, [], j => by simp [pO]
 | i, x :: xs, 0 => by simp [pO]
 | i, x :: xs, j + 1 => by
  simp only [pO, DL]
  rw [bP ks (i + 1) xs j, show i + 1 + j = i + (j + 1) by omega]
mutual
theorem ny {f g : Ref → D} (h : ∀ r, Da g (f r) = .ref r) : ∀ d : D, Da g (Da f d) = d
 | .p _ => rfl
 | .any => rfl
 | .ref r => by simp only [Da]; exact h r
 | .ep _ => rfl
 | .csl _ => rfl
 | .fn _ a b => by simp only [Da]; rw [ct h a, ct h b]
 | .agg cs => by simp only [Da]; rw [ct h cs]
 | .tup cs => by simp only [Da]; rw [ct h cs]
 | .grd _ d => by simp only [Da]; rw [ny h d]
theorem ct {f g : Ref → D} (h : ∀ r, Da g (f r) = .ref r) : ∀ ds : List D, C6 g (C6 f ds) = ds
 | [] => rfl
 | d :: ds => by simp only [C6]; rw [ny h d, ct h ds]
end
theorem Az {f g : Ref → D} (h : ∀ r, Da g (f r) = .ref r) (x : Blk) : (x.mapR f).mapR g = x := by
 cases x <;> simp only [DN]
 ·rw [ct h]
 ·rename_i es e sz
  congr 1
  rw [List.map_map]
  have : (C6 g ∘ C6 f) = id := by funext ds; exact ct h ds
  rw [this, List.map_id]
 ·rename_i kvs clock
  congr 1
  rw [List.map_map]
  have : ((fun e : D × D × Nat => (Da g e.1, Da g e.2.1, e.2.2)) ∘ fun e => (Da f e.1, Da f e.2.1, e.2.2)) = id := by
   funext e; simp only [Function.comp, ny h, id]
  rw [this, List.map_id]
 ·rw [ct h]
theorem iD {k : Nat} {f : Ref → D} {x : Blk} : (x.mapR f).up k = .gone ↔ x = .gone := by cases x <;> simp [DN, Blk.up]
theorem sw {w : World} {av : Nat → Prop} {l : Loc} {h : List Blk} {b k : Nat} {x : Blk} : BlkOk w av l h b (x.up k) ↔ BlkOk w av l h b x := by cases x <;> rfl
section
variable {l : Loc} {h : List Blk} {ks : List Nat} {w : World} {av : Nat → Prop} {y : Value}
theorem l4 {k : Nat} : own l (pO ks 0 h) k ↔ own l h k := by
 constructor
 ·rintro ⟨b, x, cp, h1, h2, h3⟩
  rw [bP] at h1
  cases hx : h[b]? with
  | none => rw [hx] at h1; simp at h1
  | some z =>
   rw [hx] at h1
   simp only [CQ, B5] at h1
   subst h1
   exact ⟨b, z, cp, hx, fun e => h2 (iD.2 e), h3⟩
 ·rintro ⟨b, x, cp, h1, h2, h3⟩
  exact ⟨b, (x.mapR (upR ks)).up (ks.getD (0 + b) 0), cp, by rw [bP, h1]; rfl, fun e => h2 (iD.1 e), h3⟩
theorem kv {O : Nat → Prop} {k : Nat} : avs O l (pO ks 0 h) k ↔ avs O l h k := or_congr Iff.rfl l4
theorem zw {r : Ref} (rr : RefRel l (pO ks 0 h) r y) : Rel w av l h (dnR ks r) y := by
 obtain ⟨x, hx⟩ := eF rr
 rw [bP] at hx
 cases hz : h[r.blk]? with
 | none => rw [hz] at hx; simp at hx
 | some z =>
  have key : (pO ks 0 h)[r.blk]? = some ((z.mapR (upR ks)).up (ks.getD r.blk 0)) := by rw [bP, hz]; simp
  unfold RefRel at rr
  obtain ⟨h1, rr⟩ := rr
  unfold dnR
  generalize ks.getD r.blk 0 = k at key ⊢
  cases r with
  | vec b e =>
   simp only [Fg] at hz key
   simp only [key] at rr
   simp only [Ref.dn]
   cases z <;> simp only [DN, Blk.up] at rr
   ·split
    ·rename_i hk
     simp only [decide_eq_true_eq] at hk
     simp only [Rel]
     unfold RefRel
     simp only [hz]
     exact ⟨h1, by omega, fun e => by simpa using rr.2 (by omega)⟩
    ·simp [Rel]
   ·split
    ·simp only [Rel]
     unfold RefRel
     simp only [hz]
     exact ⟨h1, trivial⟩
    ·simp [Rel]
  | vs b e i n c =>
   simp only [Fg] at hz key
   simp only [key] at rr
   simp only [Ref.dn]
   cases z <;> simp only [DN, Blk.up] at rr
   ·split
    ·rename_i hk
     simp only [decide_eq_true_eq] at hk
     simp only [Rel]
     unfold RefRel
     simp only [hz]
     exact ⟨h1, by omega, fun e => by simpa using rr.2 (by omega)⟩
    ·simp [Rel]
   ·split
    ·simp only [Rel]
     unfold RefRel
     simp only [hz]
     exact ⟨h1, trivial⟩
    ·simp [Rel]
  | vp b e i j =>
   simp only [Fg] at hz key
   simp only [key] at rr
   simp only [Ref.dn]
   cases z <;> simp only [DN, Blk.up] at rr
   ·split
    ·rename_i hk
     simp only [decide_eq_true_eq] at hk
     simp only [Rel]
     unfold RefRel
     simp only [hz]
     exact ⟨h1, by omega, fun e => by simpa using rr.2 (by omega)⟩
    ·simp [Rel]
   ·split
    ·simp only [Rel]
     unfold RefRel
     simp only [hz]
     exact ⟨h1, trivial⟩
    ·simp [Rel]
  | _ =>
   simp only [Fg] at hz key
   simp only [key] at rr
   simp only [Ref.dn, Rel]
   unfold RefRel
   simp only [hz]
   refine ⟨h1, ?_⟩
   cases z <;> simp only [DN, Blk.up] at rr <;> exact rr
theorem zx {r : Ref} (rr : RefRel l h r y) : Rel w av l (pO ks 0 h) (upR ks r) y := by
 obtain ⟨z, hz⟩ := eF rr
 have key : (pO ks 0 h)[r.blk]? = some ((z.mapR (upR ks)).up (ks.getD r.blk 0)) := by rw [bP, hz]; simp
 unfold RefRel at rr
 obtain ⟨h1, rr⟩ := rr
 unfold upR
 simp only [Rel]
 generalize ks.getD r.blk 0 = k at key ⊢
 unfold RefRel
 refine ⟨h1, ?_⟩
 cases r <;> simp only [Fg] at hz key <;> simp only [hz] at rr <;> simp only [Ref.up, key] <;> cases z <;> simp only [DN, Blk.up] <;> simp only at rr <;>
  first
  | exact rr
  | exact ⟨by omega, fun e => by simpa using rr.2 (by omega)⟩
end
theorem le_up {f g : Ref → D} {k : Nat} {x y : Blk} (h : x.le y) : ((x.mapR f).up k).le ((y.mapR g).up k) ∧ (((x.mapR f).up k).stays ((y.mapR g).up k) → x.stays y) := by
 cases x <;> cases y <;> simp only [Hb] at h <;> simp_all [Hb, DN, GM, Blk.up]
theorem Ev.up {P : Program} {Γ : ak} {f : FuncId} {args : List D} {h h' : List Blk} {d : D} (ks : List Nat) (he : Ev P Γ f args h d h') (hm : (h.all (fun x => !fZ x) && h'.all (fun x => !fZ x)) = true) :
  Ev P Γ f (C6 (upR ks) args) (pO ks 0 h) (d.mapR (upR ks)) (pO ks 0 h') := by
 simp only [Cd] at hm
 intro O w l vs R ra
 have hO : ∀ k, avs O l h k → avs O l (pO ks 0 h) k := fun k => kv.2
 have R0 : Rep Γ O w l h := by
  refine ⟨fun k ho => R.inb k (l4.2 ho), R.obd, fun b b' x x' k c c' h1 h2 h3 h4 h5 h6 => ?_, fun b x hx => ?_, fun g cs hg => aD (fun k hk => kv.2 hk) (R.glo g cs hg)⟩
  ·exact R.inj b b' _ _ k c c' (by rw [bP, h1]; rfl) (fun e => h2 (iD.1 e)) (by rw [bP, h3]; rfl) (fun e => h4 (iD.1 e)) h5 h6
  ·have hb := sw.1 (R.blk b ((x.mapR (upR ks)).up (ks.getD (0 + b) 0)) (by rw [bP, hx]; rfl))
   have := eD (l' := l) (h' := h) (b' := b) (f := dnR ks) (fun k hk => kv.2 hk) (fun r y rr => zw rr) rfl (by
    have := CB.1 hm.1 x (CS hx)
    rw [lX]; simpa using this) hb
   rw [Az (dn_up ks)] at this
   exact this
 have ra0 : RelL w (avs O l h) l h args vs := by
  have := bo (av' := avs O l h) (l' := l) (h' := h) (f := dnR ks) (fun k hk => kv.2 hk) (fun r y rr => zw rr) ra
  rw [ct (dn_up ks)] at this
  exact this
 refine DH (he O w l vs R0 ra0) ?_
 rintro e w' ⟨v, d2, h2, l', rfl, ⟨rfl, rfl⟩, R', E', rd⟩
 refine ⟨v, _, _, l', rfl, ⟨rfl, rfl⟩, ⟨fun k ho => R'.inb k (l4.1 ho), R'.obd, fun b b' x x' k c c' h1 h2' h3 h4 h5 h6 => ?_, fun b x hx => ?_, fun g cs hg => aD (fun k hk => kv.1 hk) (R'.glo g cs hg)⟩,
  ⟨E'.size, fun blk hlt hno => E'.same blk hlt (fun ho => hno (l4.2 ho)), fun blk ho => (E'.news blk (l4.1 ho)).imp l4.2 id, fun b x hx => ?_, E'.tape⟩, ?_⟩
 ·rw [bP] at h1 h3
  cases hx : h2[b]? with
  | none => rw [hx] at h1; simp at h1
  | some z =>
   cases hx' : h2[b']? with
   | none => rw [hx'] at h3; simp at h3
   | some z' =>
    rw [hx] at h1; rw [hx'] at h3
    simp only [CQ, B5] at h1 h3
    subst h1; subst h3
    exact R'.inj b b' z z' k c c' hx (fun e => h2' (iD.2 e)) hx' (fun e => h4 (iD.2 e)) h5 h6
 ·rw [bP] at hx
  cases hz : h2[b]? with
  | none => rw [hz] at hx; simp at hx
  | some z =>
   rw [hz] at hx
   simp only [CQ, B5] at hx
   subst hx
   refine sw.2 (eD (l' := l') (b' := b) (fun k hk => kv.1 hk) (fun r y rr => zx rr) rfl ?_ (R'.blk b z hz))
   have := CB.1 hm.2 z (CS hz)
   simpa using this
 ·rw [bP] at hx
  cases hz : h[b]? with
  | none => rw [hz] at hx; simp at hx
  | some z =>
   rw [hz] at hx
   simp only [CQ, B5] at hx
   subst hx
   obtain ⟨x', k1, k2, k3⟩ := E'.keep b z hz
   obtain ⟨g1, g2⟩ := le_up (f := upR ks) (g := upR ks) (k := ks.getD (0 + b) 0) k2
   exact ⟨_, by rw [bP, k1]; rfl, g1, fun hs => k3 (g2 hs)⟩
 ·exact ej (fun k hk => kv.1 hk) (fun r y rr => zx rr) rd
def upHX (ks : List Nat) : Nat → List Blk → List Blk
 | _, [] => []
 | i, x :: xs => (keepX (upR ks) x).up (ks.getD i 0) :: upHX ks (i + 1) xs
theorem qu {ks : List Nat} : ∀ {i : Nat} {h : List Blk}, AllP (mapP (upR ks) h) → upHX ks i h = pO ks i h
 | _, [], _ => rfl
 | i, x :: xs, hp => by
  obtain ⟨h1, h2⟩ := FH (ps := j2 (upR ks) x) hp
  simp only [upHX, pO, gy h1, qu h2]
theorem Ev.upX {P : Program} {Γ : ak} {f : FuncId} {args : List D} {h h' : List Blk} {d : D} (ks : List Nat) (he : Ev P Γ f args h d h') (hm : (h.all (fun x => !fZ x) && h'.all (fun x => !fZ x)) = true) (p1 : AllP (mapP (upR ks) h)) (p2 : AllP (mapP (upR ks) h')) :
  Ev P Γ f (C6 (upR ks) args) (upHX ks 0 h) (d.mapR (upR ks)) (upHX ks 0 h') := by
 rw [qu p1, qu p2]; exact Ev.up ks he hm
end Go.Vi
namespace Go.Vi
open Go
section
variable {P : Program} {Γ : ak} {O : Nat → Prop} {w : World} {l : Loc} {h : List Blk}
variable {X : Ctx} {r : Option Nat}
abbrev births (l : List (D × D × Nat)) : List Nat := l.map fun e => e.2.2
end
end Go.Vi
namespace Go.Vi
open Go
def sameBlk : Blk → Blk → Bool
 | .var a, .var b => je a b
 | .vec a e s, .vec b e' s' => sameLL a b && (decide (e = e') && decide (s = s'))
 | .map a c, .map b c' => sameKV a b && decide (c = c')
 | .gone, .gone => true
 | .defd, .defd => true
 | .mit (some a) b c d, .mit (some a') b' c' d' => (decide (a = a') && decide (b = b')) && (decide (c = c') && decide (d = d'))
 | .mit none b c d, .mit none b' c' d' => decide (b = b') && (decide (c = c') && decide (d = d'))
 | _, _ => false
where
 sameLL : List (List D) → List (List D) → Bool
  | [], [] => true
  | a :: as, b :: bs => je a b && sameLL as bs
  | _, _ => false
 sameKV : List (D × D × Nat) → List (D × D × Nat) → Bool
  | [], [] => true
  | (k, d, n) :: as, (k', d', n') :: bs => (sameD k k' && sameD d d') && (decide (n = n') && sameKV as bs)
  | _, _ => false
def qv : List Blk → List Blk → Bool
 | [], [] => true
 | a :: as, b :: bs => sameBlk a b && qv as bs
 | _, _ => false
theorem oZ : ∀ {a b : List (List D)}, sameBlk.sameLL a b = true → a = b
 | [], [], _ => rfl
 | a :: as, b :: bs, h => by simp only [sameBlk.sameLL, Cd] at h; rw [sameL_eq h.1, oZ h.2]
 | [], _ :: _, h => by simp [sameBlk.sameLL] at h
 | _ :: _, [], h => by simp [sameBlk.sameLL] at h
theorem o8 : ∀ {a b : List (D × D × Nat)}, sameBlk.sameKV a b = true → a = b
 | [], [], _ => rfl
 | (k, d, n) :: as, (k', d', n') :: bs, h => by
  simp only [sameBlk.sameKV, Cd, decide_eq_true_eq] at h
  rw [fw h.1.1, fw h.1.2, h.2.1, o8 h.2.2]
 | [], _ :: _, h => by simp [sameBlk.sameKV] at h
 | _ :: _, [], h => by simp [sameBlk.sameKV] at h
theorem tz {a b : Blk} (h : sameBlk a b = true) : a = b := by
 unfold sameBlk at h
 split at h
 ·rw [sameL_eq h]
 ·simp only [Cd, decide_eq_true_eq] at h; rw [oZ h.1, h.2.1, h.2.2]
 ·simp only [Cd, decide_eq_true_eq] at h; rw [o8 h.1, h.2]
 ·rfl
 ·rfl
 ·simp only [Cd, decide_eq_true_eq] at h; rw [h.1.1, h.1.2, h.2.1, h.2.2]
 ·simp only [Cd, decide_eq_true_eq] at h; rw [h.1, h.2.1, h.2.2]
 ·cases h
theorem nz : ∀ {a b : List Blk}, qv a b = true → a = b
 | [], [], _ => rfl
 | a :: as, b :: bs, h => by simp only [qv, Cd] at h; rw [tz h.1, nz h.2]
 | [], _ :: _, h => by simp [qv] at h
 | _ :: _, [], h => by simp [qv] at h
structure Memo where
 f : FuncId
 args : List D
 h : List Blk
 r : CR
def Memo.hit (m : Memo) (f : FuncId) (args : List D) (h : List Blk) : Bool := match Nat.beq m.f f with
 | true => match je m.args args with
  | true => qv m.h h
  | false => false
 | false => false
def vn : List Memo → FnF
 | [], _, _, _ => none
 | m :: ms, f, args, h => match m.hit f args h with
  | true => some m.r
  | false => vn ms f args h
def Memo.Ok (P : Program) (Γ : ak) (m : Memo) : Prop := en P m.f = true ∧ VRes P Γ m.f m.args m.h m.r
def qw (P : Program) (Γ : ak) : List Memo → Prop
 | [] => True
 | m :: ms => m.Ok P Γ ∧ qw P Γ ms
theorem Memo.hit_eq {m : Memo} {f : FuncId} {args : List D} {h : List Blk} (hh : m.hit f args h = true) : m.f = f ∧ m.args = args ∧ m.h = h := by
 unfold Memo.hit at hh
 split at hh
 ·rename_i h1
  split at hh
  ·rename_i h2
   exact ⟨Ho h1, sameL_eq h2, nz hh⟩
  ·cases hh
 ·cases hh
theorem sx {P : Program} {Γ : ak} : ∀ {ms : List Memo}, qw P Γ ms → xz P Γ (vn ms)
 | [], _, _, _, _, _, h => by simp [vn] at h
 | m :: ms, hm, f, args, h, r, hw => by
  simp only [vn] at hw
  split at hw
  ·rename_i hh
   obtain ⟨rfl, rfl, rfl⟩ := Memo.hit_eq hh
   cases hw
   exact hm.1
  ·exact sx hm.2 _ _ _ _ hw
def vo : CR → CR → Bool
 | .ret d h, .ret d' h' => sameD d d' && qv h h'
 | _, _ => false
theorem vq {a b : CR} (h : vo a b = true) : a = b := by
 unfold vo at h
 split at h
 ·simp only [Cd] at h; rw [fw h.1, nz h.2]
 ·cases h
theorem Memo.call {P : Program} {Γ : ak} {m : Memo} {d : D} {h' : List Blk} (hm : m.Ok P Γ) (hr : m.r = .ret d h') : VCall P Γ m.f m.args m.h fun d2 h2 => d2 = d ∧ h2 = h' := by
 have := hm.2
 rw [hr] at this
 exact this.call
def orW (a b : FnF) : FnF := fun f x h => match a f x h with
 | some r => some r
 | none => b f x h
theorem orW_ok {P : Program} {Γ : ak} {a b : FnF} (ha : xz P Γ a) (hb : xz P Γ b) : xz P Γ (orW a b) := by
 intro f x h r hw
 unfold orW at hw
 split at hw
 ·rename_i r' he; cases hw; exact ha _ _ _ _ he
 ·exact hb _ _ _ _ hw
def Memo.runsW (P : Program) (Γ : ak) (W : FnF) (ms : List Memo) (m : Memo) : Bool := match en P m.f, lj P Γ (orW W (vn ms)) 100000 m.f m.args m.h with
 | true, some r => vo r m.r
 | _, _ => false
theorem Memo.okW_of {P : Program} {Γ : ak} (ok : POk P) {W : FnF} (hW : xz P Γ W) {ms : List Memo} {m : Memo} (hr : m.runsW P Γ W ms = true) (hm : qw P Γ ms) : m.Ok P Γ := by
 unfold Memo.runsW at hr
 split at hr
 ·rename_i r h1 h2
  refine ⟨h1, ?_⟩
  rw [← vq hr]
  exact VRes.of_run ok (orW_ok hW (sx hm)) h2
 ·cases hr
end Go.Vi
namespace Go.Vi
open Go
def cG : List D → Option (List Dp)
 | [] => some []
 | .p x :: ds => match cG ds with
  | some xs => some (x :: xs)
  | none => none
 | _ => none
def eH : List (List D) → Option (List (List Dp))
 | [] => some []
 | r :: rs => match cG r, eH rs with
  | some x, some xs => some (x :: xs)
  | _, _ => none
def frzV (d : D) (e : Nat) : Option Blk → D
 | some (.vec es e' _) => match Nat.beq e' e, eH es with
  | true, some rows => .p (.sl rows)
  | _, _ => d
 | _ => d
mutual
def kw (h : List Blk) : D → D
 | .ref (.vec b e) => frzV (.ref (.vec b e)) e h[b]?
 | .agg cs => .agg (tA h cs)
 | d => d
def tA (h : List Blk) : List D → List D
 | [] => []
 | d :: ds => kw h d :: tA h ds
end
mutual
def iE : D → Bool
 | .p (.v _) => true
 | .agg cs => qx cs
 | .tup cs => qx cs
 | _ => false
def qx : List D → Bool
 | [] => true
 | d :: ds => iE d && qx ds
end
theorem l5 : ∀ {ds : List D} {xs : List Dp}, cG ds = some xs → ds = xs.map .p
 | [], xs, h => by simp only [cG, B5] at h; subst h; rfl
 | .p x :: ds, xs, h => by
  simp only [cG] at h
  split at h
  ·rename_i ys h1
   simp only [B5] at h
   subst h
   rw [l5 h1]; rfl
  ·simp at h
 | .any :: _, _, h => by simp [cG] at h
 | .ref _ :: _, _, h => by simp [cG] at h
 | .ep _ :: _, _, h => by simp [cG] at h
 | .csl _ :: _, _, h => by simp [cG] at h
 | .fn _ _ _ :: _, _, h => by simp [cG] at h
 | .agg _ :: _, _, h => by simp [cG] at h
 | .tup _ :: _, _, h => by simp [cG] at h
 | .grd _ _ :: _, _, h => by simp [cG] at h
theorem kx : ∀ {es : List (List D)} {xs : List (List Dp)}, eH es = some xs → es = xs.map (·.map .p)
 | [], xs, h => by simp only [eH, B5] at h; subst h; rfl
 | e :: es, xs, h => by
  simp only [eH] at h
  split at h
  ·rename_i y ys h1 h2
   simp only [B5] at h
   subst h
   rw [l5 h1, kx h2]; rfl
  ·simp at h
section
variable {P : Program} {Γ : ak} {O : Nat → Prop} {w : World} {l : Loc} {h : List Blk}
def qy (l : Loc) (h : List Blk) (k : Nat) : Prop := ∃ (b : Nat) (rows : List (List Dp)) (e sz cap : Nat), h[b]? = some (.vec (rows.map (·.map D.p)) e sz) ∧ l b = some (k, cap)
theorem x4 (R : Rep Γ O w l h) {b e : Nat} {y : Value} {rows : List (List Dp)} {sz : Nat} (hb : h[b]? = some (.vec (rows.map (·.map .p)) e sz)) (rr : RefRel l h (.vec b e) y) {av' : Nat → Prop} (ha : ∀ k, av' k → avs O l h k ∧ ¬ qy l h k) :
  RelP w av' (.sl rows) y := by
 have hk := R.blk _ _ hb
 unfold RefRel at rr
 simp only [hb] at rr
 have hv := rr.2.2 trivial
 unfold BlkOk at hk
 simp only at hk
 simp only [RelP]
 cases hl : l b with
 | none =>
  rw [hl] at hv hk
  simp only [kT] at hv hk
  exact .inl ⟨by simpa using hk, none, 0, hv.2, fun _ => rfl⟩
 | some p =>
  obtain ⟨blk, cap⟩ := p
  rw [hl] at hv hk
  simp only [kT] at hv hk
  obtain ⟨c, T, fr, ys, q1, q2, q3, q4, q5, q6, rest, q7⟩ := hk
  refine .inr ⟨blk, 0, cap, sz, by simpa using hv.1, by simpa using hv.2, ?_⟩
  have hcell : ¬ av' blk := fun ho => (ha blk ho).2 ⟨b, rows, e, sz, cap, hb, hl⟩
  refine io rows 0 fun i e1 he1 => ?_
  have hlen : e1.length = sz := by
   have := q5 (e1.map .p) (CC.2 ⟨e1, CS he1, rfl⟩)
   simpa using this
  refine ⟨hlen, fX (l := l) (h := h) (av := avs O l h) (av' := av') (fun _ ho => (ha _ ho).1) hcell e1 _ ?_⟩
  rw [Nat.zero_add]
  exact (CellsAt.of_rel (loc := l) (h := h) q1 q7 q6).row q5 (by rw [Dz, he1]; rfl)
mutual
theorem x5 (R : Rep Γ O w l h) {av' : Nat → Prop} (ha : ∀ k, av' k → avs O l h k ∧ ¬ qy l h k) : ∀ {d : D} {y : Value}, DS 0 (kw h d) = true → Rel w (avs O l h) l h d y → Rel w av' l [] (kw h d) y
 | .p _, _, _, r => by simp only [kw, Rel] at r ⊢; exact dA (fun k hk => (ha k hk).1) r
 | .any, _, _, _ => by simp [kw, Rel]
 | .ep _, _, _, r => by
  simp only [kw, Rel] at r ⊢
  obtain ⟨blk, off, r1, r2⟩ := r
  exact ⟨blk, off, r1, aD (fun k hk => (ha k hk).1) r2⟩
 | .csl _, _, _, r => by
  simp only [kw, Rel] at r ⊢
  rcases r with r | ⟨blk, off, sz, r1, r2⟩
  ·exact .inl r
  ·exact .inr ⟨blk, off, sz, r1, bI (fun k hk => (ha k hk).1) r2⟩
 | .agg cs, _, hi, r => by
  simp only [kw, DS] at hi
  simp only [kw, Rel] at r ⊢
  obtain ⟨vs, r1, r2⟩ := r
  exact ⟨vs, r1, nA R ha hi r2⟩
 | .ref (.vec b e), y, hi, r => by
  simp only [kw] at hi ⊢
  unfold frzV at hi ⊢
  split at hi
  ·rename_i es e' sz hb
   split at hi
   ·rename_i rows h1 h2
    have he := Ho h1
    subst he
    rw [kx h2] at hb
    simp only [Rel]
    exact x4 R hb (by simpa only [Rel] using r) ha
   ·simp [DS] at hi
  ·simp [DS] at hi
 | .ref (.ptr _ _), _, hi, _ => by simp [kw, DS] at hi
 | .ref (.vs _ _ _ _ _), _, hi, _ => by simp [kw, DS] at hi
 | .ref (.av _ _ _ _), _, hi, _ => by simp [kw, DS] at hi
 | .ref (.vp _ _ _ _), _, hi, _ => by simp [kw, DS] at hi
 | .ref (.mp _), _, hi, _ => by simp [kw, DS] at hi
 | .ref (.it _), _, hi, _ => by simp [kw, DS] at hi
 | .ref (.yl _), _, hi, _ => by simp [kw, DS] at hi
 | .fn f a b, _, hi, r => by
  have := c4 (l := l) (h := h) (n := 0) (fun k hk => (ha k hk).1) (by simpa [kw] using hi) r
  simpa [kw] using this
 | .tup a, _, hi, r => by
  have := c4 (l := l) (h := h) (n := 0) (fun k hk => (ha k hk).1) (by simpa [kw] using hi) r
  simpa [kw] using this
 | .grd g a, _, hi, r => by
  have := c4 (l := l) (h := h) (n := 0) (fun k hk => (ha k hk).1) (by simpa [kw] using hi) r
  simpa [kw] using this
theorem nA (R : Rep Γ O w l h) {av' : Nat → Prop} (ha : ∀ k, av' k → avs O l h k ∧ ¬ qy l h k) : ∀ {ds : List D} {ys : List Value}, CT 0 (tA h ds) = true → RelL w (avs O l h) l h ds ys → RelL w av' l [] (tA h ds) ys
 | [], [], _, _ => by simp [tA, RelL]
 | [], _ :: _, _, r => by simp [RelL] at r
 | _ :: _, [], _, r => by simp [RelL] at r
 | _ :: _, _ :: _, hi, r => by
  simp only [tA, CT, Cd] at hi
  simp only [tA, RelL] at r ⊢
  exact ⟨x5 R ha hi.1 r.1, nA R ha hi.2 r.2⟩
end
mutual
theorem sy {w' : World} {av av' : Nat → Prop} {l' : Loc} {h' : List Blk} : ∀ {d : D} {y : Value}, iE d = true → Rel w av l h d y → Rel w' av' l' h' d y
 | .p (.v _), _, _, r => by simpa [Rel, RelP] using r
 | .agg cs, _, hf, r => by
  simp only [iE] at hf
  simp only [Rel] at r ⊢
  obtain ⟨vs, r1, r2⟩ := r
  exact ⟨vs, r1, ky hf r2⟩
 | .tup cs, _, hf, r => by
  simp only [iE] at hf
  simp only [Rel] at r ⊢
  obtain ⟨vs, r1, r2⟩ := r
  exact ⟨vs, r1, ky hf r2⟩
 | .p (.sl _), _, hf, _ => by simp [iE] at hf
 | .any, _, hf, _ => by simp [iE] at hf
 | .ref _, _, hf, _ => by simp [iE] at hf
 | .ep _, _, hf, _ => by simp [iE] at hf
 | .csl _, _, hf, _ => by simp [iE] at hf
 | .fn _ _ _, _, hf, _ => by simp [iE] at hf
 | .grd _ _, _, hf, _ => by simp [iE] at hf
theorem ky {w' : World} {av av' : Nat → Prop} {l' : Loc} {h' : List Blk} : ∀ {ds : List D} {ys : List Value}, qx ds = true → RelL w av l h ds ys → RelL w' av' l' h' ds ys
 | [], [], _, _ => by simp [RelL]
 | [], _ :: _, _, r => by simp [RelL] at r
 | _ :: _, [], _, r => by simp [RelL] at r
 | _ :: _, _ :: _, hf, r => by
  simp only [qx, Cd] at hf
  simp only [RelL] at r ⊢
  exact ⟨sy hf.1 r.1, ky hf.2 r.2⟩
end
theorem Ev.frzArgs {f : FuncId} {args : List D} {d : D} (hi : CT 0 (tA h args) = true) (hd : iE d = true) (he : Ev P Γ f (tA h args) [] d []) : Ev P Γ f args h d h := by
 intro O w l vs R ra
 have hav : ∀ l' k, avs (fun k => avs O l h k ∧ ¬ qy l h k) l' [] k → avs O l h k ∧ ¬ qy l h k := fun l' k ho => ho.elim id (fun h => absurd h co)
 have R0 : Rep Γ (fun k => avs O l h k ∧ ¬ qy l h k) w l [] := by
  refine ⟨fun blk ho => absurd ho co, fun blk ho => ?_, fun b b' x x' k c c' hb => by simp at hb, fun b x hb => by simp at hb, fun g cs hg => ?_⟩
  ·rcases ho.1 with ho | ho
   ·exact R.obd blk ho
   ·exact (R.inb blk ho).1
  ·exact aD (fun k hk => (hav l k hk).1) (R.glo g cs hg)
 have ra0 := nA (av' := avs (fun k => avs O l h k ∧ ¬ qy l h k) l []) R (fun k hk => hav l k hk) hi ra
 refine DH (he _ w l vs R0 ra0) ?_
 rintro e w' ⟨v, d2, h2, l', rfl, ⟨rfl, rfl⟩, R', E', rd⟩
 have E : Ext w l h w' l h := ⟨E'.size, fun blk hb _ => E'.same blk hb co, fun blk ho => .inl ho, fun b x hx => ⟨x, hx, x.le_refl, fun _ => rfl⟩, E'.tape⟩
 refine ⟨v, d2, h, l, rfl, ⟨rfl, rfl⟩, ⟨fun blk ho => ⟨D4 (R.inb blk ho).1 E'.size, (R.inb blk ho).2⟩, fun blk ho => D4 (R.obd blk ho) E'.size, R.inj, fun b x hx => ?_, fun g cs hg => ?_⟩, E, sy hd rd⟩
 ·by_cases hg : x = .gone
  ·subst hg; trivial
  exact BlkOk.ext E rfl (fun blk cp hl => E'.same blk (R.inb blk ⟨b, x, cp, hx, hg, hl⟩).1 co) (R.blk b x hx)
 ·exact FD E.hc g 0 cs (R.glo g cs hg)
theorem VRes.of_ev {f : FuncId} {args : List D} {d : D} {h' : List Blk} (he : Ev P Γ f args h d h') : VRes P Γ f args h (.ret d h') := by
 intro O w l vs R ra
 refine DH (he O w l vs R ra) ?_
 rintro e w' ⟨v, d2, h2, l', rfl, ⟨rfl, rfl⟩, R', E', rd⟩
 exact ⟨v, l', rfl, R', E', rd⟩
end
end Go.Vi
namespace Go.Vi
open Go
def Shp (P : Program) : Nat → TypeId → List Dp → Prop
 | 0, _, _ => False
 | n + 1, t, ds => match P.underlying t with
  | some .bool => ∃ b, ds = [.v (.bool b)]
  | some (.int k) => ∃ x, ds = [.v (.int k x)] ∧ (Lit.int k x).wf = true
  | some .string => ∃ s, ds = [.v (.string s)] ∧ s.size ≤ reachBytes
  | some (.slice e) => ∃ es, ds = [.sl es] ∧ es.length * P.bytesOf e ≤ reachBytes ∧ ∀ r ∈ es, Shp P n e r
  | some (.struct fs) => ds.length = P.cellsOf t ∧ ∀ f ∈ fs.toList, Shp P n f.type ((ds.drop f.offset).take (P.cellsOf f.type))
  | _ => False
def cH (P : Program) : List Field → Nat → Nat → Bool
 | [], acc, total => acc == total
 | f :: fs, acc, total => (f.offset == acc) && cH P fs (acc + P.cellsOf f.type) total
def sA (P : Program) (ts : List TypeId) : Bool := ts.all fun t => match P.underlying t with
 | some .bool | some (.int _) | some .string => true
 | some (.slice e) => ts.contains e && decide (0 < P.cellsOf e)
 | some (.struct fs) => cH P fs.toList 0 (P.cellsOf t) && fs.toList.all fun f => ts.contains f.type
 | _ => false
def RelPL (w : World) (av : Nat → Prop) : List Dp → List Value → Prop
 | [], [] => True
 | d :: ds, y :: ys => RelP w av d y ∧ RelPL w av ds ys
 | _, _ => False
section
variable {w : World} {av : Nat → Prop}
theorem RelPL.length : ∀ {ds : List Dp} {ys : List Value}, RelPL w av ds ys → ds.length = ys.length
 | [], [], _ => rfl
 | _ :: _, _ :: _, h => by simp [RelPL.length h.2]
 | [], _ :: _, h => h.elim
 | _ :: _, [], h => h.elim
theorem RelPL.append : ∀ {ds ds' : List Dp} {ys ys' : List Value}, RelPL w av ds ys → RelPL w av ds' ys' → RelPL w av (ds ++ ds') (ys ++ ys')
 | [], _, [], _, _, h => h
 | _ :: _, _, _ :: _, _, h, h' => ⟨h.1, RelPL.append h.2 h'⟩
 | [], _, _ :: _, _, h, _ => h.elim
 | _ :: _, _, [], _, h, _ => h.elim
theorem RelPL.relL {l : Loc} {h : List Blk} : ∀ {ds : List Dp} {ys : List Value}, RelPL w av ds ys → RelL w av l h (ds.map .p) ys
 | [], [], _ => by simp [RelL]
 | _ :: _, _ :: _, r => by simp only [Dj, RelL, Rel]; exact ⟨r.1, RelPL.relL r.2⟩
 | [], _ :: _, h => h.elim
 | _ :: _, [], h => h.elim
theorem o9 {P : Program} : ∀ {fs : List Field} {acc total : Nat}, cH P fs acc total = true → acc ≤ total ∧ ∀ f ∈ fs, acc ≤ f.offset
 | [], acc, total, h => by simp only [cH, beq_iff_eq] at h; exact ⟨by omega, by simp⟩
 | f :: fs, acc, total, h => by
  simp only [cH, Cd, beq_iff_eq] at h
  obtain ⟨h1, h2⟩ := o9 h.2
  refine ⟨by omega, fun g hg => ?_⟩
  rcases CP.1 hg with rfl | hg
  ·omega
  ·have := h2 g hg; omega
theorem l6 {blk c : Nat} : ∀ (es : List (List Dp)) (off : Nat), (∀ i e, es[i]? = some e → e.length = c ∧ RelCells w av blk (off + i * c) e) → RelRows w av blk c off es
 | [], _, _ => trivial
 | e :: es, off, h => by
  obtain ⟨h1, h2⟩ := h 0 e rfl
  refine ⟨h1, by simpa using h2, l6 es (off + c) fun i e' he => ?_⟩
  obtain ⟨h3, h4⟩ := h (i + 1) e' (by simpa using he)
  refine ⟨h3, ?_⟩
  rw [show off + c + i * c = off + (i + 1) * c by rw [EC]; omega]
  exact h4
theorem kz (hav : ∀ k, ¬ av k) {blk : Nat} : ∀ (ds : List Dp) (ys : List Value) (off : Nat), RelPL w av ds ys → (∀ (j : Nat) (y : Value), ys[j]? = some y → w.cell? ⟨blk, off + j, none⟩ = some y) → RelCells w av blk off ds
 | [], _, _, _, _ => trivial
 | d :: ds, [], _, r, _ => r.elim
 | d :: ds, y :: ys, off, r, hc => by
  refine ⟨⟨hav _, y, by simpa using hc 0 y rfl, r.1⟩, kz hav ds ys (off + 1) r.2 fun j z hz => ?_⟩
  have := hc (j + 1) z (by simpa using hz)
  rwa [show off + (j + 1) = off + 1 + j by omega] at this
theorem sB {a : Addr} {n : Nat} {cs : List Value} (h : w.cells? 0 a n = some cs) : cs.length = n ∧ ∀ (j : Nat) (y : Value), cs[j]? = some y → w.cell? (a.add j) = some y := by
 obtain ⟨h1, h2, h3⟩ := World.cells?_some h
 refine ⟨h2, fun j y hy => ?_⟩
 have hj : j < n := by rw [← h2]; exact (Ce.1 hy).1
 rw [h3 j hj, hy]
theorem fO {H : Type} {P : Program} {e : TypeId} {q : Nat → Bool} : ∀ {l : List (DataW H)}, (DataW.weightsAll P e l).all q = true → ∀ d ∈ l, (d.weights P e).all q = true
 | [], _, d, hd => by simp at hd
 | x :: l, h, d, hd => by
  simp only [DataW.weightsAll, GO, Cd] at h
  rcases CP.1 hd with rfl | hd
  ·exact h.1
  ·exact fO h.2 d hd
theorem b5 {H : Type} {P : Program} {q : Nat → Bool} : ∀ {ts : List TypeId} {l : List (DataW H)}, (HN P ts l).all q = true → ∀ (i : Nat) (t : TypeId) (d : DataW H), ts[i]? = some t → l[i]? = some d → (d.weights P t).all q = true
 | [], _, _, i, t, d, ht, _ => by simp at ht
 | _ :: _, [], _, i, t, d, _, hd => by simp at hd
 | t0 :: ts, x :: l, h, i, t, d, ht, hd => by
  simp only [HN, GO, Cd] at h
  cases i with
  | zero => simp at ht hd; subst ht; subst hd; exact h.1
  | succ i => exact b5 h.2 i t d (by simpa using ht) (by simpa using hd)
end
end Go.Vi
namespace Go.Vi
open Go
section
variable {w : World} {av : Nat → Prop} {P : Program}
theorem x7 {ts : List TypeId} (hts : sA P ts = true) {t : TypeId} (ht : t ∈ ts) : (match P.underlying t with
 | some .bool | some (.int _) | some .string => true
 | some (.slice e) => ts.contains e && decide (0 < P.cellsOf e)
 | some (.struct fs) => cH P fs.toList 0 (P.cellsOf t) && fs.toList.all fun f => ts.contains f.type
 | _ => false) = true := CB.1 hts t ht
end
theorem ju (k : Nat) : ¬ avs (fun _ => False) (fun _ => none) [] k := fun ho => ho.elim id (fun h => absurd h co)
end Go.Vi
namespace Go.Vi
open Go Go.RowKit Go.ChangeShapes Go.WideShapes
section
variable {H : Type} {enc : TypeId × Value → H} {P : Program}
theorem gL (hl : laidOutB P = true) {W W' : World} (hb : Below W.heap.size W W') : ∀ {ts : List TypeId} {vs : List Value} {ds : List (DataW H)} {ps : List MemPlace},
  (ts.all fun t => P.readableRec t && decide (t < P.types.size)) = true → DataW.TrodAll enc P W 0 (fun _ => true) true ts vs ds ps → (∀ x ∈ ps, x.block < W.heap.size) →
  DataW.TrodAll enc P W' 0 (fun b => decide (b < W.heap.size)) true ts vs ds ps
 | [], vs, ds, ps, _, h, _ => by
  obtain ⟨rfl, rfl, rfl⟩ := trodAll_nil h
  rfl
 | t :: ts, vs, ds, ps, ht, h, hps => by
  obtain ⟨v, vs', d, ds', p, q, rfl, rfl, rfl, h1, h2⟩ := trodAll_cons h
  simp only [List.all_cons, Cd, decide_eq_true_eq] at ht
  refine ⟨p, q, Below.trod hl ht.1.1 ht.1.2 h1 hb (fun x hx => hps x (List.mem_append_left _ hx)), gL hl hb (by simpa using ht.2) h2 (fun x hx => hps x (List.mem_append_right _ hx)), rfl⟩
theorem vr {f : Func} {s : ChangeSpec} {apart : Bool} {W W' : World} {args : Array Value} {ds gs : List (DataW H)} {before : List MemPlace} {b : TypeId}
  (hl : laidOutB P = true) (hp : (f.params.toList.all fun t => P.readableRec t && decide (t < P.types.size)) = true) (hv : s.vars = []) (hr : f.resultTypes = #[b]) (hbt : P.underlying b = some .bool)
  (hW : DataW.Whole enc P f.params.toList s.vars apart W args.toList ds gs before) (hs : s.fn H ds = { results := [.lit (.bool true)], args := ds }) (hb : Below W.heap.size W W') :
  s.post enc P f apart true false false W args (.bool true) W' := by
 have hW' := hW
 have hlt := hW.lt
 obtain ⟨p, q, hA, hV, rfl, _, _⟩ := hW
 rw [hv] at hV
 obtain ⟨rfl, rfl⟩ := trodVars_none hV
 refine ⟨ds, [], p ++ [], [], p, [], hW', ?_, ?_, ?_, hb.frame _, fun h => by cases h⟩
 ·simp only [Gk, hs, hr, Value.resultList]
  exact ⟨[], [], ⟨1, by simp [DataW.trod, Value.cells, hbt]⟩, rfl, rfl⟩
 ·simp only [Gk, hs]
  exact gL hl hb hp hA (fun x hx => hlt x (by simpa using hx))
 ·simp only [Gk, hs, hv]
  rfl
end
end Go.Vi
namespace Go.Vi
open Go Go.RowKit
theorem tB {Γ : ak} {w : World} (hg : ∀ g cs, Γ g = some cs → RelCells w (avs (fun _ => False) (fun _ => none) []) g 0 cs) : Rep Γ (fun _ => False) w (fun _ => none) [] :=
 ⟨fun blk ho => absurd ho co, fun blk ho => ho.elim, fun b b' x x' k c c' hb => by simp at hb, fun b x hb => by simp at hb, hg⟩
theorem vt {P : Program} {Γ : ak} {f : FuncId} {args : List D} {d : D} {W : World} {vs : List Value} (hg : ∀ g cs, Γ g = some cs → RelCells W (avs (fun _ => False) (fun _ => none) []) g 0 cs) (he : Ev P Γ f args [] d []) (hr : RelL W (avs (fun _ => False) (fun _ => none) []) (fun _ => none) [] args vs) :
  Calls P f vs.toArray W fun e W' => ∃ v, e = .returned v ∧ Rel W' (fun _ => False) (fun _ => none) [] d v ∧ Go.RowKit.Below W.heap.size W W' := by
 have h1 := he (fun _ => False) W (fun _ => none) vs (tB hg) hr
 refine (callsIn_wide (n := 0)).1 (DH (h1 : CallsIn (FW none) 0 P f _ W _) ?_)
 rintro e W' ⟨v, d2, h2, l', rfl, ⟨rfl, rfl⟩, R', E', rd⟩
 refine ⟨v, rfl, Rel.mono (fun blk off y hn hc => ⟨hc, fun h => h.elim⟩) (fun b x hb => by simp at hb) d2 v rd, ?_⟩
 exact ⟨E'.tape.2.1, E'.tape.1, E'.tape.2.2.1, E'.size, fun k hk => E'.same k hk co⟩
end Go.Vi
