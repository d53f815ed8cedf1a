/- DegreeNetworkSpec: part of the proof: an evaluator of the model's programs on abstract values, and its soundness. No conditions beyond the given statement's own. -/
import Derived.Test.YthokmgafnhmlbaaGreatDoorV7
import Derived.ChangeArms
import Derived.OpenShut
import Derived.Below
import Derived.Carry
namespace Go.Vi
open Go
theorem Ev.castH {P : Program} {Γ : Glob} {f : FuncId} {args : List D} {h h' h2 : List Blk} {d d2 : D} (he : Ev P Γ f args h d h') (hd : d = d2) (hh : h' = h2) : Ev P Γ f args h d2 h2 := hd ▸ hh ▸ he
theorem CW.cast {P : Program} {Γ : Glob} {h0 : List Blk} {rd : Bool} {c : Code} {s s' s2 : AS} {e e2 : Exit} (hw : CW P Γ h0 rd c s e s') (he : e = e2) (hs : s' = s2) : CW P Γ h0 rd c s e2 s2 := he ▸ hs ▸ hw
def forL {α σ ρ : Type} (f : α → σ → σ ⊕ ρ) : List α → σ → σ ⊕ ρ
 | [], s => .inl s
 | a :: l, s => match f a s with
  | .inl s' => forL f l s'
  | .inr r => .inr r
def eachFin {σ ρ : Type} (eE : Exit) (sE : σ → AS) (fin : ρ → Exit × AS) : σ ⊕ ρ → Exit × AS
 | .inl s => (eE, sE s)
 | .inr r => fin r
def bodyFin {σ ρ : Type} (st : σ → AS) (fin : ρ → Exit × AS) : σ ⊕ ρ → Exit × AS
 | .inl s => (.normal, st s)
 | .inr r => fin r
theorem CW.each {P : Program} {Γ : Glob} {h0 : List Blk} {rd : Bool} {c : Code} {α σ ρ : Type} (l : List α) (f : α → σ → σ ⊕ ρ) (st : Nat → σ → AS) (eE : Exit) (sE : σ → AS) (fin : ρ → Exit × AS)
  (inv : Nat → σ → Prop) (hE : eE ≠ .normal) (hF : ∀ r, (fin r).1 ≠ .normal)
  (body : ∀ i a s, l[i]? = some a → inv i s → (∀ s', f a s = .inl s' → inv (i + 1) s') ∧ CW P Γ h0 rd c (st i s) (bodyFin (st (i + 1)) fin (f a s)).1 (bodyFin (st (i + 1)) fin (f a s)).2)
  (last : ∀ s, inv l.length s → CW P Γ h0 rd c (st l.length s) eE (sE s)) (s : σ) (h : inv 0 s) :
  CW P Γ h0 rd (.loop c) (st 0 s) (eachFin eE sE fin (forL f l s)).1 (eachFin eE sE fin (forL f l s)).2 := by
 refine CW.loop (ι := { p : Nat × σ // p.1 ≤ l.length ∧ inv p.1 p.2 }) (fun p => st p.1.1 p.1.2) (fun p => eachFin eE sE fin (forL f (l.drop p.1.1) p.1.2)) (fun p => l.length - p.1.1) ?_ ⟨(0, s), Nat.zero_le _, h⟩
 rintro ⟨⟨i, s⟩, hi, hv⟩
 simp only at hi hv ⊢
 by_cases hlt : i < l.length
 ·have ha : l[i]? = some l[i] := List.getElem?_eq_getElem hlt
  have hd : l.drop i = l[i] :: l.drop (i + 1) := List.drop_eq_getElem_cons hlt
  obtain ⟨b1, b2⟩ := body i _ s ha hv
  rw [hd]
  simp only [forL]
  cases hf : f l[i] s with
  | inl s' =>
   rw [hf] at b2
   exact .inl ⟨⟨(i + 1, s'), hlt, b1 _ hf⟩, by simp only; omega, rfl, b2⟩
  | inr r =>
   rw [hf] at b2
   exact .inr ⟨hF r, b2⟩
 ·have : i = l.length := by omega
  subst this
  rw [List.drop_length]
  exact .inr ⟨hE, last s hv⟩
def rfAsg : Code → Code
 | .rangeFunc _ _ a _ => a
 | _ => .skip
def rfBody : Code → Code
 | .rangeFunc _ _ _ b => b
 | _ => .skip
theorem Iv.round {P : Program} {Γ : Glob} {b : Nat} {args : List D} {h h1 h' : List Blk} {pend : Option Code} {f : FuncId} {ts : List D} {ps : Array Tmp} {asg body : Code} {t1 : List D} {p1 : Option Code} {f1 : FuncId} {ts1 : List D} {ps1 : Array Tmp}
  {a1 b1 : Code} {e2 : Exit} {s2 : AS} {d : D} (hb : h[b]? = some (.loop .ready pend f ts ps asg body)) (hlen : args.length = ps.size)
  (hasg : CW P Γ h true asg { t := setAll ts (ps.toList.zip args), h := h, m := [] } .normal { t := t1, h := h1, m := [] })
  (hb1 : h1[b]? = some (.loop .ready p1 f1 ts1 ps1 a1 b1))
  (hbody : CW P Γ h true body { t := t1, h := h1.set b (.loop .busy p1 0 ts1 ps1 a1 b1), m := [] } e2 s2)
  (hend : roundEnd b e2 s2 = some (d, h')) : Iv P Γ (.ref (.yl b)) args h d h' :=
 round_sound hb hlen (fun X r hX => hasg X r hX (fun h => by cases h)) hb1 (fun X r hX => hbody X r hX (fun h => by cases h)) hend
theorem CW.rangeFunc {P : Program} {Γ : Glob} (ok : POk P) {h0 : List Blk} {s s' : AS} {g : Operand} {ps : Array Tmp} {asg body : Code} {f : FuncId} {fi ca : List D} {d : D} {h2 : List Blk} {e : Exit} (hg : calleeD (evalD Γ s.t g) = some (f, fi, ca)) (hf : funOk P f = true)
  (hc : Ev P Γ f (fi ++ [.ref (.yl (s.h.length + 1))] ++ ca) (s.h ++ [.defd] ++ [.loop .ready none 0 s.t ps asg body]) d h2)
  (he : loopEnd s.h.length s.t s.m h2 = some (e, s')) : CW P Γ h0 false (.rangeFunc g ps asg body) s e s' := by
 intro X r _ hr
 obtain rfl := hr rfl
 exact VW.rangeFunc ok hg hf (hc.mono fun _ _ hq => hq.2) he
end Go.Vi
namespace Go.Vi
open Go
def Ref.to (n : Nat) : Ref → Ref
 | .ptr _ o => .ptr n o
 | .vec _ e => .vec n e
 | .vs _ e i k c => .vs n e i k c
 | .av _ o k s => .av n o k s
 | .vp _ e i j => .vp n e i j
 | .mp _ => .mp n
 | .it _ => .it n
 | .yl _ => .yl n
def idx (x : Nat) : Nat → List Nat → Option Nat
 | _, [] => none
 | k, y :: ys => match x == y with
  | true => some k
  | false => idx x (k + 1) ys
def inv (is : List Nat) (r : Ref) : D := match idx r.blk 0 is with
 | some i => .ref (r.to i)
 | none => .any
def pick (is : List Nat) (H : List Blk) : List Blk := is.map fun i => (H.getD i .gone).mapR (inv is)
end Go.Vi
namespace Go.Vi
open Go
end Go.Vi
namespace Go.Vi
open Go
end Go.Vi
namespace Go.Vi
open Go
mutual
def D.nilW : D → D
 | .p (.v (.slice none 0 0)) => .p (.sl [])
 | .agg cs => .agg (D.nilWL cs)
 | .tup cs => .tup (D.nilWL cs)
 | d => d
def D.nilWL : List D → List D
 | [] => []
 | d :: ds => D.nilW d :: D.nilWL ds
end
mutual
theorem rel_nilW {w : World} {av : Nat → Prop} {l : Loc} {h : List Blk} : ∀ (d : D) (y : Value), Rel w av l h d y → Rel w av l h (D.nilW d) y
 | .p x, y, r => by
  unfold D.nilW
  split
  ·rename_i hx
   simp only [D.p.injEq] at hx
   subst hx
   simp only [Rel, RelP] at r ⊢
   exact .inl ⟨trivial, none, 0, r, fun _ => rfl⟩
  ·rename_i hx; cases hx
  ·rename_i hx; cases hx
  ·exact r
 | .agg cs, y, r => by
  simp only [D.nilW, Rel] at r ⊢
  obtain ⟨vs, r1, r2⟩ := r
  exact ⟨vs, r1, relL_nilW cs vs.toList r2⟩
 | .tup cs, y, r => by
  simp only [D.nilW, Rel] at r ⊢
  obtain ⟨vs, r1, r2⟩ := r
  exact ⟨vs, r1, relL_nilW cs vs.toList r2⟩
 | .any, _, r => r
 | .ref _, _, r => r
 | .ep _, _, r => r
 | .csl _, _, r => r
 | .fn _ _ _, _, r => r
 | .grd _ _, _, r => r
theorem relL_nilW {w : World} {av : Nat → Prop} {l : Loc} {h : List Blk} : ∀ (ds : List D) (ys : List Value), RelL w av l h ds ys → RelL w av l h (D.nilWL ds) ys
 | [], [], _ => trivial
 | [], _ :: _, r => by simp [RelL] at r
 | _ :: _, [], r => by simp [RelL] at r
 | d :: ds, y :: ys, r => by
  simp only [RelL, D.nilWL] at r ⊢
  exact ⟨rel_nilW d y r.1, relL_nilW ds ys r.2⟩
end
theorem Ev.nilW {P : Program} {Γ : Glob} {f : FuncId} {args : List D} {h h' : List Blk} {d : D} (he : Ev P Γ f args h d h') : Ev P Γ f args h d.nilW h' := by
 intro O w l vs R ra
 refine CallsIn.mono (he O w l vs R ra) ?_
 rintro e w' ⟨v, d2, h2, l', rfl, ⟨rfl, rfl⟩, R', E', rd⟩
 exact ⟨v, _, _, l', rfl, ⟨rfl, rfl⟩, R', E', rel_nilW _ _ rd⟩
end Go.Vi
namespace Go.Vi
open Go
end Go.Vi
namespace Go.Vi
open Go
end Go.Vi
namespace Go.Vi
open Go
def sameBlk : Blk → Blk → Bool
 | .var a, .var b => sameL a b
 | .vec a e s, .vec b e' s' => sameLL a b && (decide (e = e') && decide (s = s'))
 | .map a c, .map b c' => sameKV a b && decide (c = c')
 | .gone, .gone => true
 | .defd, .defd => true
 | .mit (some a) b c d, .mit (some a') b' c' d' => (decide (a = a') && decide (b = b')) && (decide (c = c') && decide (d = d'))
 | .mit none b c d, .mit none b' c' d' => decide (b = b') && (decide (c = c') && decide (d = d'))
 | _, _ => false
where
 sameLL : List (List D) → List (List D) → Bool
  | [], [] => true
  | a :: as, b :: bs => sameL a b && sameLL as bs
  | _, _ => false
 sameKV : List (D × D × Nat) → List (D × D × Nat) → Bool
  | [], [] => true
  | (k, d, n) :: as, (k', d', n') :: bs => (sameD k k' && sameD d d') && (decide (n = n') && sameKV as bs)
  | _, _ => false
def sameH : List Blk → List Blk → Bool
 | [], [] => true
 | a :: as, b :: bs => sameBlk a b && sameH as bs
 | _, _ => false
theorem sameLL_eq : ∀ {a b : List (List D)}, sameBlk.sameLL a b = true → a = b
 | [], [], _ => rfl
 | a :: as, b :: bs, h => by simp only [sameBlk.sameLL, Bool.and_eq_true] at h; rw [sameL_eq h.1, sameLL_eq h.2]
 | [], _ :: _, h => by simp [sameBlk.sameLL] at h
 | _ :: _, [], h => by simp [sameBlk.sameLL] at h
theorem sameKV_eq : ∀ {a b : List (D × D × Nat)}, sameBlk.sameKV a b = true → a = b
 | [], [], _ => rfl
 | (k, d, n) :: as, (k', d', n') :: bs, h => by
  simp only [sameBlk.sameKV, Bool.and_eq_true, decide_eq_true_eq] at h
  rw [sameD_eq h.1.1, sameD_eq h.1.2, h.2.1, sameKV_eq h.2.2]
 | [], _ :: _, h => by simp [sameBlk.sameKV] at h
 | _ :: _, [], h => by simp [sameBlk.sameKV] at h
theorem sameBlk_eq {a b : Blk} (h : sameBlk a b = true) : a = b := by
 unfold sameBlk at h
 split at h
 ·rw [sameL_eq h]
 ·simp only [Bool.and_eq_true, decide_eq_true_eq] at h; rw [sameLL_eq h.1, h.2.1, h.2.2]
 ·simp only [Bool.and_eq_true, decide_eq_true_eq] at h; rw [sameKV_eq h.1, h.2]
 ·rfl
 ·rfl
 ·simp only [Bool.and_eq_true, decide_eq_true_eq] at h; rw [h.1.1, h.1.2, h.2.1, h.2.2]
 ·simp only [Bool.and_eq_true, decide_eq_true_eq] at h; rw [h.1, h.2.1, h.2.2]
 ·cases h
theorem sameH_eq : ∀ {a b : List Blk}, sameH a b = true → a = b
 | [], [], _ => rfl
 | a :: as, b :: bs, h => by simp only [sameH, Bool.and_eq_true] at h; rw [sameBlk_eq h.1, sameH_eq h.2]
 | [], _ :: _, h => by simp [sameH] at h
 | _ :: _, [], h => by simp [sameH] at h
structure Memo where
 f : FuncId
 args : List D
 h : List Blk
 r : CR
def Memo.hit (m : Memo) (f : FuncId) (args : List D) (h : List Blk) : Bool := match Nat.beq m.f f with
 | true => match sameL m.args args with
  | true => sameH m.h h
  | false => false
 | false => false
def memoW : List Memo → FnF
 | [], _, _, _ => none
 | m :: ms, f, args, h => match m.hit f args h with
  | true => some m.r
  | false => memoW ms f args h
def Memo.Ok (P : Program) (Γ : Glob) (m : Memo) : Prop := funOk P m.f = true ∧ VRes P Γ m.f m.args m.h m.r
def MemosOk (P : Program) (Γ : Glob) : List Memo → Prop
 | [] => True
 | m :: ms => m.Ok P Γ ∧ MemosOk P Γ ms
theorem Memo.hit_eq {m : Memo} {f : FuncId} {args : List D} {h : List Blk} (hh : m.hit f args h = true) : m.f = f ∧ m.args = args ∧ m.h = h := by
 unfold Memo.hit at hh
 split at hh
 ·rename_i h1
  split at hh
  ·rename_i h2
   exact ⟨Nat.eq_of_beq_eq_true h1, sameL_eq h2, sameH_eq hh⟩
  ·cases hh
 ·cases hh
theorem memoW_ok {P : Program} {Γ : Glob} : ∀ {ms : List Memo}, MemosOk P Γ ms → FnOk P Γ (memoW ms)
 | [], _, _, _, _, _, h => by simp [memoW] at h
 | m :: ms, hm, f, args, h, r, hw => by
  simp only [memoW] at hw
  split at hw
  ·rename_i hh
   obtain ⟨rfl, rfl, rfl⟩ := Memo.hit_eq hh
   cases hw
   exact hm.1
  ·exact memoW_ok hm.2 _ _ _ _ hw
def sameCR : CR → CR → Bool
 | .ret d h, .ret d' h' => sameD d d' && sameH h h'
 | _, _ => false
theorem sameCR_eq {a b : CR} (h : sameCR a b = true) : a = b := by
 unfold sameCR at h
 split at h
 ·simp only [Bool.and_eq_true] at h; rw [sameD_eq h.1, sameH_eq h.2]
 ·cases h
def Memo.runs (P : Program) (Γ : Glob) (ms : List Memo) (m : Memo) : Bool := match funOk P m.f, runFO P Γ (memoW ms) 100000 m.f m.args m.h with
 | true, some r => sameCR r m.r
 | _, _ => false
theorem Memo.ok_of {P : Program} {Γ : Glob} (ok : POk P) {ms : List Memo} {m : Memo} (hr : m.runs P Γ ms = true) (hm : MemosOk P Γ ms) : m.Ok P Γ := by
 unfold Memo.runs at hr
 split at hr
 ·rename_i r h1 h2
  refine ⟨h1, ?_⟩
  rw [← sameCR_eq hr]
  exact VRes.of_run ok (memoW_ok hm) h2
 ·cases hr
theorem Memo.call {P : Program} {Γ : Glob} {m : Memo} {d : D} {h' : List Blk} (hm : m.Ok P Γ) (hr : m.r = .ret d h') : VCall P Γ m.f m.args m.h fun d2 h2 => d2 = d ∧ h2 = h' := by
 have := hm.2
 rw [hr] at this
 exact this.call
end Go.Vi
namespace Go.Vi
open Go
def Shp (P : Program) : Nat → TypeId → List Dp → Prop
 | 0, _, _ => False
 | n + 1, t, ds => match P.underlying t with
  | some .bool => ∃ b, ds = [.v (.bool b)]
  | some (.int k) => ∃ x, ds = [.v (.int k x)] ∧ (Lit.int k x).wf = true
  | some .string => ∃ s, ds = [.v (.string s)] ∧ s.size ≤ reachBytes
  | some (.slice e) => ∃ es, ds = [.sl es] ∧ es.length * P.bytesOf e ≤ reachBytes ∧ ∀ r ∈ es, Shp P n e r
  | some (.struct fs) => ds.length = P.cellsOf t ∧ ∀ f ∈ fs.toList, Shp P n f.type ((ds.drop f.offset).take (P.cellsOf f.type))
  | _ => False
def contigB (P : Program) : List Field → Nat → Nat → Bool
 | [], acc, total => acc == total
 | f :: fs, acc, total => (f.offset == acc) && contigB P fs (acc + P.cellsOf f.type) total
def plainB (P : Program) (ts : List TypeId) : Bool := ts.all fun t => match P.underlying t with
 | some .bool | some (.int _) | some .string => true
 | some (.slice e) => ts.contains e && decide (0 < P.cellsOf e)
 | some (.struct fs) => contigB P fs.toList 0 (P.cellsOf t) && fs.toList.all fun f => ts.contains f.type
 | _ => false
def RelPL (w : World) (av : Nat → Prop) : List Dp → List Value → Prop
 | [], [] => True
 | d :: ds, y :: ys => RelP w av d y ∧ RelPL w av ds ys
 | _, _ => False
section
variable {w : World} {av : Nat → Prop}
theorem RelPL.length : ∀ {ds : List Dp} {ys : List Value}, RelPL w av ds ys → ds.length = ys.length
 | [], [], _ => rfl
 | _ :: _, _ :: _, h => by simp [RelPL.length h.2]
 | [], _ :: _, h => h.elim
 | _ :: _, [], h => h.elim
theorem RelPL.append : ∀ {ds ds' : List Dp} {ys ys' : List Value}, RelPL w av ds ys → RelPL w av ds' ys' → RelPL w av (ds ++ ds') (ys ++ ys')
 | [], _, [], _, _, h => h
 | _ :: _, _, _ :: _, _, h, h' => ⟨h.1, RelPL.append h.2 h'⟩
 | [], _, _ :: _, _, h, _ => h.elim
 | _ :: _, _, [], _, h, _ => h.elim
theorem RelPL.relL {l : Loc} {h : List Blk} : ∀ {ds : List Dp} {ys : List Value}, RelPL w av ds ys → RelL w av l h (ds.map .p) ys
 | [], [], _ => by simp [RelL]
 | _ :: _, _ :: _, r => by simp only [List.map_cons, RelL, Rel]; exact ⟨r.1, RelPL.relL r.2⟩
 | [], _ :: _, h => h.elim
 | _ :: _, [], h => h.elim
theorem contig_le {P : Program} : ∀ {fs : List Field} {acc total : Nat}, contigB P fs acc total = true → acc ≤ total ∧ ∀ f ∈ fs, acc ≤ f.offset
 | [], acc, total, h => by simp only [contigB, beq_iff_eq] at h; exact ⟨by omega, by simp⟩
 | f :: fs, acc, total, h => by
  simp only [contigB, Bool.and_eq_true, beq_iff_eq] at h
  obtain ⟨h1, h2⟩ := contig_le h.2
  refine ⟨by omega, fun g hg => ?_⟩
  rcases List.mem_cons.1 hg with rfl | hg
  ·omega
  ·have := h2 g hg; omega
theorem contig_join {P : Program} {cs : List Value} {S : TypeId → List Dp → Prop} {total : Nat} (hc : cs.length = total) : ∀ (fs : List Field) (acc : Nat), contigB P fs acc total = true →
  (∀ f ∈ fs, ∃ ds, S f.type ds ∧ RelPL w av ds ((cs.drop f.offset).take (P.cellsOf f.type))) →
  ∃ D, RelPL w av D (cs.drop acc) ∧ ∀ f ∈ fs, S f.type ((D.drop (f.offset - acc)).take (P.cellsOf f.type))
 | [], acc, h, _ => by
  simp only [contigB, beq_iff_eq] at h
  refine ⟨[], ?_, by simp⟩
  rw [List.drop_of_length_le (by omega)]
  trivial
 | f :: fs, acc, h, hf => by
  simp only [contigB, Bool.and_eq_true, beq_iff_eq] at h
  obtain ⟨rfl, h⟩ := h
  obtain ⟨ds, hs, hr⟩ := hf f (List.mem_cons_self ..)
  obtain ⟨D, hD, hS⟩ := contig_join hc fs _ h (fun g hg => hf g (List.mem_cons_of_mem _ hg))
  obtain ⟨hle, hoff⟩ := contig_le h
  have hlen : ds.length = P.cellsOf f.type := by
   have := hr.length
   rw [this, List.length_take, List.length_drop]
   omega
  refine ⟨ds ++ D, ?_, fun g hg => ?_⟩
  ·have := hr.append hD
   rw [← List.drop_drop, List.take_append_drop] at this
   exact this
  ·rcases List.mem_cons.1 hg with rfl | hg
   ·rw [Nat.sub_self, List.drop_zero, List.take_append_of_le_length (by omega), ← hlen, List.take_length]
    exact hs
   ·have h1 := hoff g hg
    have hd : ∀ k, (ds ++ D).drop (ds.length + k) = D.drop k := fun k => by rw [List.drop_append]; simp
    rw [show g.offset - f.offset = ds.length + (g.offset - (f.offset + P.cellsOf f.type)) by omega, hd]
    exact hS g hg
theorem relRows_of {blk c : Nat} : ∀ (es : List (List Dp)) (off : Nat), (∀ i e, es[i]? = some e → e.length = c ∧ RelCells w av blk (off + i * c) e) → RelRows w av blk c off es
 | [], _, _ => trivial
 | e :: es, off, h => by
  obtain ⟨h1, h2⟩ := h 0 e rfl
  refine ⟨h1, by simpa using h2, relRows_of es (off + c) fun i e' he => ?_⟩
  obtain ⟨h3, h4⟩ := h (i + 1) e' (by simpa using he)
  refine ⟨h3, ?_⟩
  rw [show off + c + i * c = off + (i + 1) * c by rw [Nat.add_mul]; omega]
  exact h4
theorem relCells_of (hav : ∀ k, ¬ av k) {blk : Nat} : ∀ (ds : List Dp) (ys : List Value) (off : Nat), RelPL w av ds ys → (∀ (j : Nat) (y : Value), ys[j]? = some y → w.cell? ⟨blk, off + j, none⟩ = some y) → RelCells w av blk off ds
 | [], _, _, _, _ => trivial
 | d :: ds, [], _, r, _ => r.elim
 | d :: ds, y :: ys, off, r, hc => by
  refine ⟨⟨hav _, y, by simpa using hc 0 y rfl, r.1⟩, relCells_of hav ds ys (off + 1) r.2 fun j z hz => ?_⟩
  have := hc (j + 1) z (by simpa using hz)
  rwa [show off + (j + 1) = off + 1 + j by omega] at this
theorem cells_at {a : Addr} {n : Nat} {cs : List Value} (h : w.cells? 0 a n = some cs) : cs.length = n ∧ ∀ (j : Nat) (y : Value), cs[j]? = some y → w.cell? (a.add j) = some y := by
 obtain ⟨h1, h2, h3⟩ := World.cells?_some h
 refine ⟨h2, fun j y hy => ?_⟩
 have hj : j < n := by rw [← h2]; exact (List.getElem?_eq_some_iff.1 hy).1
 rw [h3 j hj, hy]
theorem weightsAll_mem {H : Type} {P : Program} {e : TypeId} {q : Nat → Bool} : ∀ {l : List (DataW H)}, (DataW.weightsAll P e l).all q = true → ∀ d ∈ l, (d.weights P e).all q = true
 | [], _, d, hd => by simp at hd
 | x :: l, h, d, hd => by
  simp only [DataW.weightsAll, List.all_append, Bool.and_eq_true] at h
  rcases List.mem_cons.1 hd with rfl | hd
  ·exact h.1
  ·exact weightsAll_mem h.2 d hd
theorem weightsEach_at {H : Type} {P : Program} {q : Nat → Bool} : ∀ {ts : List TypeId} {l : List (DataW H)}, (DataW.weightsEach P ts l).all q = true → ∀ (i : Nat) (t : TypeId) (d : DataW H), ts[i]? = some t → l[i]? = some d → (d.weights P t).all q = true
 | [], _, _, i, t, d, ht, _ => by simp at ht
 | _ :: _, [], _, i, t, d, _, hd => by simp at hd
 | t0 :: ts, x :: l, h, i, t, d, ht, hd => by
  simp only [DataW.weightsEach, List.all_append, Bool.and_eq_true] at h
  cases i with
  | zero => simp at ht hd; subst ht; subst hd; exact h.1
  | succ i => exact weightsEach_at h.2 i t d (by simpa using ht) (by simpa using hd)
end
end Go.Vi
namespace Go.Vi
open Go
section
variable {w : World} {av : Nat → Prop} {P : Program}
theorem plain_at {ts : List TypeId} (hts : plainB P ts = true) {t : TypeId} (ht : t ∈ ts) : (match P.underlying t with
 | some .bool | some (.int _) | some .string => true
 | some (.slice e) => ts.contains e && decide (0 < P.cellsOf e)
 | some (.struct fs) => contigB P fs.toList 0 (P.cellsOf t) && fs.toList.all fun f => ts.contains f.type
 | _ => false) = true := List.all_eq_true.1 hts t ht
theorem open_plain {H : Type} {enc : TypeId × Value → H} {spare : Nat → Bool} {ts : List TypeId} (hts : plainB P ts = true) (hav : ∀ k, ¬ av k) :
  ∀ (fuel : Nat) (t : TypeId) (cs : List Value) (d : DataW H) (ps : List MemPlace), t ∈ ts → DataW.trod enc P w 0 spare true fuel t cs = some (d, ps) → (d.weights P t).all (· ≤ reachBytes) = true →
   ∃ ds, Shp P fuel t ds ∧ RelPL w av ds cs := by
 intro fuel
 induction fuel with
 | zero => intro t cs d ps _ h; simp [DataW.trod] at h
 | succ n ih =>
  intro t cs d ps ht h hw
  have hp := plain_at hts ht
  split at hp
  ·rename_i hu
   obtain ⟨b, rfl, _⟩ := DataW.trod_bool hu h
   exact ⟨[.v (.bool b)], by simp only [Shp, hu]; exact ⟨b, rfl⟩, by simp [RelPL, RelP]⟩
  ·rename_i k hu
   obtain ⟨x, rfl, _, hwf⟩ := DataW.trod_int hu h
   exact ⟨[.v (.int k x)], by simp only [Shp, hu]; exact ⟨x, rfl, hwf⟩, by simp [RelPL, RelP]⟩
  ·rename_i hu
   obtain ⟨s, rfl, hx, _⟩ := DataW.trod_string hu h
   simp only [Prod.mk.injEq] at hx
   obtain ⟨rfl, _⟩ := hx
   have hs : s.size ≤ reachBytes := by
    simp only [DataW.weights, List.all_cons, List.all_nil, Bool.and_true, decide_eq_true_eq, Array.length_toList] at hw
    exact hw
   exact ⟨[.v (.string s)], by simp only [Shp, hu]; exact ⟨s, rfl, hs⟩, by simp [RelPL, RelP]⟩
  ·rename_i e hu
   simp only [Bool.and_eq_true, decide_eq_true_eq, List.contains_iff_mem] at hp
   obtain ⟨he, hpos⟩ := hp
   rcases DataW.trod_slice hu h with ⟨rfl, _⟩ | ⟨a, len, cap, elems, rest, m, hm, rfl, hx, _, hle, _, hlen, hel, _⟩
   ·refine ⟨[.sl []], by simp only [Shp, hu]; exact ⟨[], rfl, by simp, by simp⟩, ?_⟩
    simp only [RelPL, RelP, and_true]
    exact .inl ⟨trivial, none, 0, rfl, fun _ => rfl⟩
   ·obtain rfl : n = m := by omega
    simp only [Prod.mk.injEq] at hx
    obtain ⟨rfl, _⟩ := hx
    simp only [DataW.weights, hu, List.all_cons, List.all_append, Bool.and_eq_true, decide_eq_true_eq, List.length_map] at hw
    obtain ⟨hw1, hw2, _⟩ := hw
    have key : ∀ i, i < len → ∃ ds ys, Shp P n e ds ∧ RelPL w av ds ys ∧ w.cells? 0 (a.add (i * P.cellsOf e)) (P.cellsOf e) = some ys := by
     intro i hi
     have h1 := hel i hi
     have h2 : elems[i]? = some elems[i] := List.getElem?_eq_getElem (by omega)
     generalize elems[i] = x at h2
     rw [h2] at h1
     obtain ⟨ys, h3, h4⟩ := Option.bind_eq_some_iff.1 h1
     obtain ⟨dx, px⟩ := x
     obtain ⟨ds, h5, h6⟩ := ih e ys dx px he h4 (weightsAll_mem hw2 dx (List.mem_map.2 ⟨(dx, px), List.mem_of_getElem? h2, rfl⟩))
     exact ⟨ds, ys, h5, h6, h3⟩
    obtain ⟨f, hf⟩ : ∃ f : Nat → List Dp, ∀ i, i < len → ∃ ys, Shp P n e (f i) ∧ RelPL w av (f i) ys ∧ w.cells? 0 (a.add (i * P.cellsOf e)) (P.cellsOf e) = some ys := by
     classical
     refine ⟨fun i => if hi : i < len then Classical.choose (key i hi) else [], fun i hi => ?_⟩
     simp only [dif_pos hi]
     exact Classical.choose_spec (key i hi)
    refine ⟨[.sl ((List.range len).map f)], ?_, ?_⟩
    ·simp only [Shp, hu]
     refine ⟨_, rfl, ?_, ?_⟩
     ·simp only [List.length_map, List.length_range]
      have : len * P.bytesOf e ≤ (elems.length + rest.length) * P.bytesOf e := Nat.mul_le_mul_right _ (by omega)
      omega
     ·intro r hr
      obtain ⟨i, hi, rfl⟩ := List.mem_map.1 hr
      obtain ⟨ys, h1, _⟩ := hf i (by simpa using hi)
      exact h1
    ·simp only [RelPL, RelP, and_true]
     by_cases h0 : len = 0
     ·subst h0
      exact .inl ⟨by simp, some a, cap, rfl, by simp⟩
     ·have hsp : a.spot = none := by
       obtain ⟨ys, _, _, h3⟩ := hf 0 (by omega)
       obtain ⟨h4, h5⟩ := cells_at h3
       have h6 : ys[0]? = some ys[0] := List.getElem?_eq_getElem (by omega)
       have h7 := h5 0 _ h6
       simp only [Nat.zero_mul, Addr.add, if_true] at h7
       unfold World.cell? at h7
       split at h7
       ·split at h7
        ·simp at h7
        ·rename_i hns
         cases hs : a.spot with
         | none => rfl
         | some _ => simp [hs] at hns
       ·simp at h7
      obtain ⟨blk, off, sp⟩ := a
      simp only at hsp
      subst hsp
      refine .inr ⟨blk, off, cap, P.cellsOf e, by simp, by simpa using hle, relRows_of _ _ fun i r hr => ?_⟩
      simp only [List.getElem?_map, Option.map_eq_some_iff] at hr
      obtain ⟨j, hj, rfl⟩ := hr
      rw [List.getElem?_eq_some_iff] at hj
      obtain ⟨hj1, hj2⟩ := hj
      simp only [List.getElem_range] at hj2
      subst hj2
      obtain ⟨ys, h1, h2, h3⟩ := hf i (by simpa using hj1)
      obtain ⟨h4, h5⟩ := cells_at h3
      refine ⟨by rw [h2.length, h4], relCells_of hav _ _ _ h2 fun k y hy => ?_⟩
      have := h5 k y hy
      have e1 : (((⟨blk, off, none⟩ : Addr).add (i * P.cellsOf e)).add k) = ⟨blk, off + i * P.cellsOf e + k, none⟩ := by
       rw [addr_add, addr_add]
      rwa [e1] at this
  ·rename_i fs hu
   simp only [Bool.and_eq_true, List.all_eq_true, List.contains_iff_mem] at hp
   obtain ⟨hc, hfs⟩ := hp
   obtain ⟨xs, m, hm, hx, hlen, hxs, hel⟩ := DataW.trod_struct hu h
   obtain rfl : n = m := by omega
   simp only [Prod.mk.injEq] at hx
   obtain ⟨rfl, _⟩ := hx
   simp only [DataW.weights, hu] at hw
   have key : ∀ f ∈ fs.toList, ∃ ds, Shp P n f.type ds ∧ RelPL w av ds ((cs.drop f.offset).take (P.cellsOf f.type)) := by
    intro f hf
    obtain ⟨i, hi⟩ := List.mem_iff_getElem?.1 hf
    have hi' : fs[i]? = some f := by rw [← Array.getElem?_toList]; exact hi
    have hil : i < xs.length := by
     rw [hxs]
     have := (Array.getElem?_eq_some_iff.1 hi').1
     exact this
    have h1 := hel i f hi'
    have h2 : xs[i]? = some xs[i] := List.getElem?_eq_getElem hil
    generalize xs[i] = x at h2
    rw [h2] at h1
    obtain ⟨dx, px⟩ := x
    exact ih f.type _ dx px (hfs f hf) h1 (weightsEach_at hw i f.type dx (by simp [hi]) (by simp [h2]))
   obtain ⟨D, hD, hS⟩ := contig_join hlen fs.toList 0 hc key
   rw [List.drop_zero] at hD
   refine ⟨D, ?_, hD⟩
   simp only [Shp, hu]
   refine ⟨by rw [hD.length, hlen], fun f hf => ?_⟩
   have := hS f hf
   rwa [Nat.sub_zero] at this
  ·simp at hp
end
theorem rep_start (_P : Program) (w : World) : Rep (fun _ => none) (fun _ => False) w (fun _ => none) [] :=
 ⟨fun blk ho => absurd ho own_nil, fun blk ho => ho.elim, fun b b' x x' k c c' hb => by simp at hb, fun b x hb => by simp at hb, fun g cs hg => by simp at hg⟩
theorem av_start (k : Nat) : ¬ avs (fun _ => False) (fun _ => none) [] k := fun ho => ho.elim id (fun h => absurd h own_nil)
theorem ev_calls {P : Program} {f : FuncId} {args : List D} {d : D} {W : World} {vs : List Value} (he : Ev P (fun _ => none) f args [] d []) (hr : RelL W (avs (fun _ => False) (fun _ => none) []) (fun _ => none) [] args vs) :
  Calls P f vs.toArray W fun e W' => ∃ v, e = .returned v ∧ Rel W' (fun _ => False) (fun _ => none) [] d v ∧ Go.RowKit.Below W.heap.size W W' := by
 have h1 := he (fun _ => False) W (fun _ => none) vs (rep_start P W) hr
 refine (callsIn_wide (n := 0)).1 (CallsIn.mono (h1 : CallsIn (FW none) 0 P f _ W _) ?_)
 rintro e W' ⟨v, d2, h2, l', rfl, ⟨rfl, rfl⟩, R', E', rd⟩
 refine ⟨v, rfl, Rel.mono (fun blk off y hn hc => ⟨hc, fun h => h.elim⟩) (fun b x hb => by simp at hb) d2 v rd, ?_⟩
 exact ⟨E'.tape.2.1, E'.tape.1, E'.tape.2.2.1, E'.size, fun k hk => E'.same k hk own_nil⟩
end Go.Vi
namespace Go.Vi
open Go Go.RowKit Go.ChangeShapes Go.WideShapes
section
variable {H : Type} {enc : TypeId × Value → H} {P : Program}
theorem trodAll_below (hl : laidOutB P = true) {W W' : World} (hb : Below W.heap.size W W') : ∀ {ts : List TypeId} {vs : List Value} {ds : List (DataW H)} {ps : List MemPlace},
  (ts.all fun t => P.readableRec t && decide (t < P.types.size)) = true → DataW.TrodAll enc P W 0 (fun _ => true) true ts vs ds ps → (∀ x ∈ ps, x.block < W.heap.size) →
  DataW.TrodAll enc P W' 0 (fun b => decide (b < W.heap.size)) true ts vs ds ps
 | [], vs, ds, ps, _, h, _ => by
  obtain ⟨rfl, rfl, rfl⟩ := trodAll_nil h
  rfl
 | t :: ts, vs, ds, ps, ht, h, hps => by
  obtain ⟨v, vs', d, ds', p, q, rfl, rfl, rfl, h1, h2⟩ := trodAll_cons h
  simp only [List.all_cons, Bool.and_eq_true, decide_eq_true_eq] at ht
  refine ⟨p, q, Below.trod hl ht.1.1 ht.1.2 h1 hb (fun x hx => hps x (List.mem_append_left _ hx)), trodAll_below hl hb (by simpa using ht.2) h2 (fun x hx => hps x (List.mem_append_right _ hx)), rfl⟩
theorem post_true {f : Func} {s : ChangeSpec} {apart : Bool} {W W' : World} {args : Array Value} {ds gs : List (DataW H)} {before : List MemPlace} {b : TypeId}
  (hl : laidOutB P = true) (hp : (f.params.toList.all fun t => P.readableRec t && decide (t < P.types.size)) = true) (hv : s.vars = []) (hr : f.resultTypes = #[b]) (hbt : P.underlying b = some .bool)
  (hW : DataW.Whole enc P f.params.toList s.vars apart W args.toList ds gs before) (hs : s.fn H ds = { results := [.lit (.bool true)], args := ds }) (hb : Below W.heap.size W W') :
  s.post enc P f apart true false false W args (.bool true) W' := by
 have hW' := hW
 have hlt := hW.lt
 obtain ⟨p, q, hA, hV, rfl, _, _⟩ := hW
 rw [hv] at hV
 obtain ⟨rfl, rfl⟩ := trodVars_none hV
 refine ⟨ds, [], p ++ [], [], p, [], hW', ?_, ?_, ?_, hb.frame _, fun h => by cases h⟩
 ·simp only [List.append_nil, hs, hr, Value.resultList]
  exact ⟨[], [], ⟨1, by simp [DataW.trod, Value.cells, hbt]⟩, rfl, rfl⟩
 ·simp only [List.append_nil, hs]
  exact trodAll_below hl hb hp hA (fun x hx => hlt x (by simpa using hx))
 ·simp only [List.append_nil, hs, hv]
  rfl
end
end Go.Vi
