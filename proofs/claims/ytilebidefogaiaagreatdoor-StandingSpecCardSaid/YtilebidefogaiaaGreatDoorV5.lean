/- StandingSpec: part of the proof: an evaluator of the model's programs on abstract values, and its soundness. No conditions beyond the given statement's own. -/
import Derived.Test.YtilebidefogaiaaGreatDoorV4
import Derived.Laws.BitsLemmas
import Derived.ChangeArms
import Derived.OpenShut
namespace Go.Vi
open Go
section
variable {P : Program} {Γ : Glob} {call : CallF} {m : List Nat} {L : List Oper} {ord lt : List Nat} {t0 tF : List D} {h0 : List Blk} {hs : List (List Blk)} {ts : List (List D)}

theorem ord_of (h : fxStatic L (befs L []) ord lt = true) : Ord L ord := by
  unfold fxStatic at h
  simp only [Bool.and_eq_true, decide_eq_true_eq] at h
  obtain ⟨⟨h1, h2⟩, h3⟩ := h
  refine ⟨h1, fun i o ho => ?_, fun q i hq => ?_⟩
  · have := zip_all h3 ho
    simp only [Bool.and_eq_true, decide_eq_true_eq, beq_iff_eq] at this
    exact this.1.1.1
  · have := List.all_eq_true.1 h2 (i, q) (by rw [List.mk_mem_zipIdx_iff_getElem?]; exact hq)
    simpa using this

theorem cand_mem (_hO : Ord L ord) {k : Nat} (hk : Cand L (posOf ord) k) : k ∈ candsAt L ord := by
  unfold candsAt
  rcases hk with rfl | ⟨c, o, ho, hq, rfl⟩
  · exact List.mem_cons_self ..
  · exact List.mem_cons_of_mem _ (List.mem_map.2 ⟨c, mem_chains ho hq, rfl⟩)

theorem fx_of (hs0 : fxStatic L (befs L []) ord lt = true) (hr : runR P Γ m L Eq (· = id) (opsOf L ord) t0 h0 tF hs ts) (hi : innB L ord lt hs = true) (hq : quiet5B P Γ L (befs L []) ord lt tF hs ts = true) :
    Fx P Γ L (befs L []) (posOf ord) (fun i => lt.contains i) m t0 tF hs ts ∧ hs.getD 0 [] = h0 ∧ ∀ x, (∀ o ∈ L, o.dst ≠ some x) → tF.getD x .any = t0.getD x .any := by
  have hO := ord_of hs0
  have hst := hs0
  unfold fxStatic at hst
  simp only [Bool.and_eq_true] at hst
  have hall := hst.2
  have fact := fun {i : Nat} {o : Oper} (ho : L[i]? = some o) => zip_all hall ho
  simp only [Bool.and_eq_true] at fact
  have edge : ∀ (i : Nat) (o : Oper), L[i]? = some o → ∀ e ∈ o.after.toList, Region.binds .any e = true → e.on < i := by
    intro i o ho e he hb
    have := List.all_eq_true.1 (fact ho).1.1.2.1 e he
    simpa [hb] using this
  have uniq : ∀ (i j : Nat) (o o' : Oper) (x : Tmp), L[i]? = some o → L[j]? = some o' → o.dst = some x → o'.dst = some x → i = j := by
    intro i j o o' x ho ho' hd hd'
    have := zip_all (fact ho).1.2.1 ho'
    simp only [Bool.and_eq_true] at this
    have := this.1
    simpa [hd, hd'] using this
  obtain ⟨g1, g2, g3, g4, g5⟩ := runR_at _ _ _ _ _ _ hr
  have inj : ∀ (i j : Nat) (o o' : Oper), L[i]? = some o → L[j]? = some o' → posOf ord i = posOf ord j → i = j := by
    intro i j o o' hi' hj he
    have h1 := (hO.at' i o hi').2
    have h2 := (hO.at' j o' hj).2
    rw [he, h2] at h1
    simpa using h1.symm
  have posB : ∀ (i : Nat) (o : Oper) (j : Nat), L[i]? = some o → ((befs L []).getD i 0).testBit j = true → posOf ord j < posOf ord i := by
    intro i o j ho hb
    have hcl : Closed L (fun x => x ≤ i) := fun k o' hk ho' e he hbe => by
      have := edge k o' ho' e he hbe
      show e.on ≤ i
      omega
    have h1 : j ≤ i := befs_all hcl (k := i) (Nat.le_refl i) j hb
    have := List.all_eq_true.1 (fact ho).1.1.2.2 j (by simp; omega)
    rw [hb] at this
    simpa using this
  have hlen : (opsOf L ord).length = L.length := by unfold opsOf; rw [List.length_map, hO.len]
  have hatP : ∀ (i : Nat) (o : Oper), L[i]? = some o → ∃ call, CallF.Ok P Γ call ∧ ∃ d, stepD P Γ call m L (ts.getD (posOf ord i) []) (hs.getD (posOf ord i) []) o = some (d, hs.getD (posOf ord i + 1) []) ∧
      (∀ x, (∀ (j : Nat) (o' : Oper), L[j]? = some o' → posOf ord i ≤ posOf ord j → o'.dst ≠ some x) → tF.getD x .any = (ts.getD (posOf ord i) []).getD x .any) ∧
      (∀ x, (∀ (j : Nat) (o' : Oper), L[j]? = some o' → posOf ord j < posOf ord i → o'.dst ≠ some x) → (ts.getD (posOf ord i) []).getD x .any = t0.getD x .any) ∧
      (∀ x, o.dst = some x → x < tF.length → tF.getD x .any = d) := by
    intro i o ho
    obtain ⟨call, hco, f, d', d, ⟨hf, k1, rfl⟩, k2, k3, k4⟩ := g5 (posOf ord i) o (ord_ops hO ho)
    rw [hf, List.map_id] at k1
    refine ⟨call, hco, d', k1, fun x hx => k2 x fun q o' hle hq' => ?_, fun x hx => k3 x fun q o' hle hq' => ?_, fun x hx hlt => k4 x hx (fun q o' hlt' hq' => ?_) (by rw [← g1]; exact hlt)⟩
    · obtain ⟨j, hj, rfl⟩ := ops_ord hO hq'
      exact hx j o' hj hle
    · obtain ⟨j, hj, rfl⟩ := ops_ord hO hq'
      exact hx j o' hj hle
    · obtain ⟨j, hj, rfl⟩ := ops_ord hO hq'
      intro hd
      have := uniq j i o' o x hj ho hd hx
      subst this
      omega
  have const1 : ∀ q o, (opsOf L ord)[q]? = some o → quietOp o.op = true → hs.getD (q + 1) [] = hs.getD q [] := by
    intro q o ho hqo
    obtain ⟨call, hco, f, d', d, ⟨_, k1, _⟩, _⟩ := g5 q o ho
    exact stepD_quiet hqo k1
  have const : ∀ n k, (∀ c o, L[c]? = some o → quietOp o.op = false → ¬ (k ≤ posOf ord c ∧ posOf ord c < k + n)) → k + n ≤ L.length → hs.getD (k + n) [] = hs.getD k [] := by
    intro n
    induction n with
    | zero => intro k _ _; rfl
    | succ n ih =>
      intro k h1 h2
      have hlt : k + n < (opsOf L ord).length := by omega
      have ho := List.getElem?_eq_getElem hlt
      obtain ⟨j, hj, hpj⟩ := ops_ord hO ho
      have hqo : quietOp ((opsOf L ord)[k + n]).op = true := by
        rw [← Bool.not_eq_false]
        exact fun hf => h1 j _ hj hf (by omega)
      rw [← Nat.add_assoc, const1 _ _ ho hqo]
      exact ih k (fun c o hc1 hc2 => fun hx => h1 c o hc1 hc2 (by omega)) (by omega)
  refine ⟨⟨edge, posB, uniq, inj, fun i o ho => (hO.at' i o ho).1, ?_, ?_, ?_, ?_, hatP, g1, const, ?_, ?_⟩, ?_, ?_⟩
  · intro i o x ho hx k o' hk hd
    have := List.all_eq_true.1 (fact ho).1.2.2 x hx
    have := zip_all this hk
    simp only [hd, beq_self_eq_true, Bool.not_true, Bool.false_or, Bool.or_eq_true, Bool.and_eq_true] at this
    rcases this with h | h
    · exact .inl h.1
    · exact .inr h.2
  · intro c c' o o' hc hc' hq1 hq2 hl hp
    have := zip_all (fact hc).1.2.1 hc'
    simp only [Bool.and_eq_true] at this
    have := this.2
    rw [hq1, hq2, hl] at this
    simpa [hp] using this
  · intro i o ho hl
    have := (fact ho).2
    simp only [hl, Bool.not_true, Bool.false_or, Bool.and_eq_true, Bool.not_eq_true', Option.isNone_iff_eq_none] at this
    exact ⟨this.1.1, this.2, this.1.2⟩
  · intro i j o o' x ho hx hj hd hl hb c o2 hc hq2 hp
    have := List.all_eq_true.1 (fact ho).1.2.2 x hx
    have := zip_all this hj
    simp only [hd, beq_self_eq_true, Bool.not_true, Bool.false_or, hb, Bool.true_and, hl, Bool.false_and, Bool.or_false] at this
    have := zip_all this hc
    simpa [hq2, hp] using this
  · intro i o k x ho hl hk hx
    have h1 := List.all_eq_true.1 hi i (by simpa using hl)
    have h2 := List.all_eq_true.1 h1 k (cand_mem hO hk)
    simp only [Bool.and_eq_true] at h2
    refine ⟨h2.1, ?_⟩
    have := h2.2
    rw [hx] at this
    simpa using this
  · intro i o ho hqo hg k hk hcomp
    have h1 := zip_all hq ho
    simp only [hqo, Bool.not_true, Bool.false_or, hg] at h1
    have h2 := List.all_eq_true.1 h1 k (cand_mem hO hk)
    have hc : compat5 L (befs L []) ord lt i k = true := by
      unfold compat5
      rw [List.all_eq_true]
      intro c hc1
      obtain ⟨o', ho', hq'⟩ := of_mem_chains hc1
      obtain ⟨k1, k2⟩ := hcomp c o' ho' hq'
      split
      · rename_i hlt
        rw [k1 hlt]; rfl
      · rename_i hlt
        cases hb : ((befs L []).getD i 0).testBit c
        · rfl
        · simpa using k2 (by omega) hb
    simp only [hc, Bool.not_true, Bool.false_or] at h2
    split at h2
    · rename_i d h' hop
      refine ⟨d, h', hop, fun x hx => ?_⟩
      rw [hx] at h2
      exact sameD_eq h2
    · simp at h2
  · simp [List.getD_eq_getElem?_getD, g3]
  · intro x hx
    refine g2 x fun o ho => ?_
    obtain ⟨q, hq'⟩ := List.mem_iff_getElem?.1 ho
    obtain ⟨j, hj, _⟩ := ops_ord hO hq'
    exact hx o (List.mem_of_getElem? hj)
end
end Go.Vi
namespace Go.Vi
open Go

def runLate (P : Program) (Γ : Glob) (call : CallF) (m : List Nat) (ops : List Oper) (B ord lt : List Nat) (t : List D) (h : List Blk) : Option (List D × List Blk) :=
  match fxStatic ops B ord lt with
  | true => match runD P Γ call m ops (opsOf ops ord) t h with
    | some (tF, hs, ts) => match innB ops ord lt hs with
      | true => match quiet5B P Γ ops B ord lt tF hs ts with
        | true => some (tF, hs.getD ops.length [])
        | false => none
      | false => none
    | none => none
  | false => none

def runRegion (P : Program) (Γ : Glob) (call : CallF) (m : List Nat) (ops : List Oper) (draw : Bool) (t : List D) (h : List Blk) : Option (List D × List Blk) :=
  match draw with
  | false => runOps P Γ call m ops ops t h
  | true => match drawOkB ops (befs ops []) with
    | true => match runD P Γ call m ops ops t h with
      | some (tF, hs, ts) => match quietB P Γ ops (befs ops []) tF hs ts with
        | true => some (tF, hs.getD ops.length [])
        | false => none
      | none => none
    | false => runLate P Γ call m ops (befs ops []) (ordOf ops (befs ops []) (lateIx ops (befs ops []))) (lateIx ops (befs ops [])) t h

theorem VW.runLate {P : Program} {Γ : Glob} {X : Ctx} {r : Option Nat} {call : CallF} {s : AS} {Q : Exit → AS → Prop} (ok : POk P) (hc : call.Ok P Γ) {id : Nat} {ops : Array Oper} {ord lt : List Nat} {t' : List D} {h' : List Blk}
    (hr : runLate P Γ call s.m ops.toList (befs ops.toList []) ord lt s.t s.h = some (t', h')) (hQ : Q .normal { t := t', h := h', m := s.m }) : VW P Γ X r (.region id ops true) Q s := by
  unfold Vi.runLate at hr
  split at hr
  · rename_i hs0
    split at hr
    · rename_i tF hs ts hrun
      split at hr
      · rename_i hi
        split at hr
        · rename_i hq
          simp only [Option.some.injEq, Prod.mk.injEq] at hr
          obtain ⟨rfl, rfl⟩ := hr
          obtain ⟨F, h0, hun⟩ := fx_of hs0 (runR_of_runD (wk := Eq) (fx := (· = _root_.id)) (fun _ => rfl) rfl hc _ _ _ _ _ _ hrun) hi hq
          exact VW.draw5 ok F h0 hun (by simpa using hQ)
        · simp at hr
      · simp at hr
    · simp at hr
  · simp at hr

theorem VW.run {P : Program} {Γ : Glob} {X : Ctx} {r : Option Nat} {call : CallF} {s : AS} {Q : Exit → AS → Prop} (ok : POk P) (hc : call.Ok P Γ) {id : Nat} {ops : Array Oper} {draw : Bool} {t' : List D} {h' : List Blk}
    (hr : runRegion P Γ call s.m ops.toList draw s.t s.h = some (t', h')) (hQ : Q .normal { t := t', h := h', m := s.m }) : VW P Γ X r (.region id ops draw) Q s := by
  unfold runRegion at hr
  cases draw with
  | false => exact VW.region hc hr hQ
  | true =>
    simp only at hr
    split at hr
    · rename_i hD
      split at hr
      · rename_i tF hs ts hrun
        split at hr
        · rename_i hqb
          simp only [Option.some.injEq, Prod.mk.injEq] at hr
          obtain ⟨rfl, rfl⟩ := hr
          exact VW.draw ok (drawOk_of hD) (runR_of_runD Wk.refl Vi.FixOk.id hc _ _ _ _ _ _ hrun) (quietOk_of hqb) (by simpa using hQ)
        · simp at hr
      · simp at hr
    · exact VW.runLate ok hc hr hQ
end Go.Vi
namespace Go.Vi
open Go

abbrev FnF := FuncId → List D → List Blk → Option (D × List Blk)
abbrev YlF := Nat → List D → List Blk → Option (D × List Blk)

def callOf (fnc : FnF) (yl : YlF) : CallF := fun x args h =>
  match calleeD x with
  | some (f, fi, ca) => fnc f (fi ++ args ++ ca) h
  | none => match x with
    | .ref (.yl b) => yl b args h
    | _ => none

def setAll (ts : List D) : List (Tmp × D) → List D
  | [] => ts
  | p :: ps => setAll (ts.set p.1 p.2) ps

/-- What a round leaves, by the way in which its body is left. -/
def roundEnd (b : Nat) (e : Exit) (s : AS) : Option (D × List Blk) :=
  match s.h[b]? with
  | some (.loop _ _ _ ts ps a c) => match e with
    | .normal => some (lit (.bool true), s.h.set b (.loop .ready none 0 ts ps a c))
    | .ret => some (lit (.bool false), s.h.set b (.loop .done (some .ret) 0 ts ps a c))
    | .exit i => some (lit (.bool false), s.h.set b (.loop .done (some (.exit i)) 0 ts ps a c))
    | _ => none
  | _ => none

/-- What a range over a function leaves. -/
def loopEnd (b : Nat) (t : List D) (m : List Nat) (h : List Blk) : Option (Exit × AS) :=
  match h[b + 1]? with
  | some (.loop st pend _ ts ps a c) => match st with
    | .busy => none
    | _ => match marksOk (h.set (b + 1) (.loop .exhausted pend 0 ts ps a c)) (b :: m) with
      | true => match pend with
        | none => some (.normal, { t := t, h := h.set (b + 1) (.loop .exhausted pend 0 ts ps a c), m := b :: m })
        | some .ret => some (.ret, { t := t, h := h.set (b + 1) (.loop .exhausted pend 0 ts ps a c), m := b :: m })
        | some (.exit i) => some (.exit i, { t := t, h := h.set (b + 1) (.loop .exhausted pend 0 ts ps a c), m := b :: m })
        | some _ => none
      | false => none
  | _ => none

/-- What a function's body leaves. -/
def bodyEnd (P : Program) (fn : Func) (n : Nat) (s : AS) : Option (D × List Blk) :=
  match marksOk s.h s.m && decide s.m.Nodup with
  | true => match resultsD P s.t (shut s.m s.h) fn.results.toList with
    | some ds => some (trimD n (oneOrTup ds) (shut s.m s.h))
    | none => none
  | false => none

mutual
def runC (P : Program) (Γ : Glob) : Nat → Bool → Code → AS → Option (Exit × AS)
  | 0, _, _, _ => none
  | n + 1, rd, c, s => match c with
    | .skip => some (.normal, s)
    | .label _ => some (.normal, s)
    | .ret => some (.ret, s)
    | .exit i => some (.exit i, s)
    | .goto i => some (.goto i, s)
    | .seq a b => match runC P Γ n rd a s with
      | some (.normal, s') => runC P Γ n rd b s'
      | r => r
    | .cond x a b => match evalD Γ s.t x with
      | .p (.v (.bool true)) => runC P Γ n rd a s
      | .p (.v (.bool false)) => runC P Γ n rd b s
      | _ => none
    | .block i b => match runC P Γ n rd b s with
      | some (.exit j, s') => if j = i then some (.normal, s') else some (.exit j, s')
      | r => r
    | .loop b => match runC P Γ n rd b s with
      | some (.normal, s') => runC P Γ n rd (.loop b) s'
      | r => r
    | .region _ ops draw => match runRegion P Γ (callOf (runF P Γ n) (runY P Γ n)) s.m ops.toList draw s.t s.h with
      | some (t, h) => some (.normal, { t := t, h := h, m := s.m })
      | none => none
    | .rangeFunc g ps asg body => match rd with
      | true => none
      | false => match calleeD (evalD Γ s.t g) with
        | some (f, fi, ca) => match runF P Γ n f (fi ++ [.ref (.yl (s.h.length + 1))] ++ ca) (s.h ++ [.defd] ++ [.loop .ready none 0 s.t ps asg body]) with
          | some (_, h2) => loopEnd s.h.length s.t s.m h2
          | none => none
        | none => none
    | _ => none
def runF (P : Program) (Γ : Glob) : Nat → FuncId → List D → List Blk → Option (D × List Blk)
  | 0, _, _, _ => none
  | n + 1, f, args, h => match P.funcs[f]? with
    | none => none
    | some fn => match fn.body with
      | none => none
      | some c => match runC P Γ n false c { t := entryT fn args, h := h, m := [] } with
        | some (.normal, s) => bodyEnd P fn h.length s
        | some (.ret, s) => bodyEnd P fn h.length s
        | _ => none
def runY (P : Program) (Γ : Glob) : Nat → Nat → List D → List Blk → Option (D × List Blk)
  | 0, _, _, _ => none
  | n + 1, b, args, h => match h[b]? with
    | some (.loop .ready _ _ ts ps asg body) => match decide (args.length = ps.size) with
      | true => match runC P Γ n true asg { t := setAll ts (ps.toList.zip args), h := h, m := [] } with
        | some (.normal, { t := t1, h := h1, m := [] }) => match h1[b]? with
          | some (.loop .ready p1 _ ts1 ps1 a1 b1) => match runC P Γ n true body { t := t1, h := h1.set b (.loop .busy p1 0 ts1 ps1 a1 b1), m := [] } with
            | some (e, s2) => roundEnd b e s2
            | none => none
          | _ => none
        | _ => none
      | false => none
    | _ => none
end
end Go.Vi
namespace Go.Vi
open Go
section
variable {P : Program} {Γ : Glob} {O : Nat → Prop} {w : World} {l : Loc} {h : List Blk}

theorem setLoop (R : Rep Γ O w l h) {b blk cp : Nat} {st : LoopState} {p : Option Code} {f : FuncId} {ts : List D} {ps : Array Tmp} {a c : Code} (hb : h[b]? = some (.loop st p f ts ps a c)) (hl : l b = some (blk, cp)) :
    ∃ rec : Loop, w.heap[blk]? = some (.loop rec) ∧ rec.state = st ∧ rec.pending = p ∧ rec.params = ps ∧ rec.assign = a ∧ rec.body = c ∧ RelL w (avs O l h) l h ts rec.tmps.toList ∧
      ∀ st' p', Rep Γ O { w with heap := w.heap.setIfInBounds blk (.loop { rec with state := st', pending := p' }) } l (h.set b (.loop st' p' 0 ts ps a c)) ∧
        Ext w l h { w with heap := w.heap.setIfInBounds blk (.loop { rec with state := st', pending := p' }) } l (h.set b (.loop st' p' 0 ts ps a c)) := by
  obtain ⟨blk', cp', tv, dr, fn', h1, h2, h3⟩ := R.blk b _ hb
  obtain ⟨rfl, rfl⟩ : blk = blk' ∧ cp = cp' := by simpa [hl] using h1
  refine ⟨_, h2, rfl, rfl, rfl, rfl, rfl, h3, fun st' p' => ?_⟩
  exact R.setAt hb (by simp) hl (x' := .loop st' p' 0 ts ps a c) trivial (fun E hg => ⟨blk, cp, tv, dr, fn', hl, hg, E.relL h3⟩)

theorem getLoop_run {r : Nat} {x : Loop} (hr : w.heap[r]? = some (.loop x)) : (Instr.getLoop r).run P w = .ok x w := by
  simp only [Instr.getLoop, Sem.run_bind, getObj_run (P := P) hr (by simp), Result.andThen_ok, Sem.run_pure]

theorem loop_stays {w' : World} {l' : Loc} {h' : List Blk} (E : Ext w l h w' l' h') {b : Nat} {st st' : LoopState} {p p' : Option Code} {f f' : FuncId} {ts ts' : List D} {ps ps' : Array Tmp} {a c a' c' : Code}
    (hb : h[b]? = some (.loop st p f ts ps a c)) (hb' : h'[b]? = some (.loop st' p' f' ts' ps' a' c')) : l' b = l b := by
  obtain ⟨x', h1, h2, h3⟩ := E.keep b _ hb
  rw [hb'] at h1
  cases h1
  exact h3 trivial

theorem relL_setAll {av : Nat → Prop} : ∀ (ps : List Tmp) (args : List D) (vs : List Value) (ts : List D) (tv : Array Value), RelL w av l h args vs → RelL w av l h ts tv.toList →
    RelL w av l h (setAll ts (ps.zip args)) ((ps.zip vs).foldl (fun (t : Array Value) (p : Tmp × Value) => t.setIfInBounds p.1 p.2) tv).toList
  | [], _, _, ts, tv, _, rt => by simpa [setAll] using rt
  | _ :: _, [], [], ts, tv, _, rt => by simpa [setAll] using rt
  | _ :: _, [], _ :: _, _, _, ra, _ => by simp [RelL] at ra
  | _ :: _, _ :: _, [], _, _, ra, _ => by simp [RelL] at ra
  | p :: ps, d :: args, v :: vs, ts, tv, ra, rt => by
    simp only [RelL] at ra
    simp only [List.zip_cons_cons, setAll, List.foldl_cons]
    exact relL_setAll ps args vs _ _ ra.2 (by rw [Array.toList_setIfInBounds]; exact relL_set ra.1 _ _ _ rt)

/-- One round. -/
theorem round_sound {b : Nat} {args : List D} {pend : Option Code} {f : FuncId} {ts : List D} {ps : Array Tmp} {asg body : Code} {t1 : List D} {h1 : List Blk} {p1 : Option Code} {f1 : FuncId} {ts1 : List D} {ps1 : Array Tmp}
    {a1 b1 : Code} {e2 : Exit} {s2 : AS} {d : D} {h' : List Blk} (hb : h[b]? = some (.loop .ready pend f ts ps asg body)) (hlen : args.length = ps.size)
    (hasg : ∀ X r, VW P Γ X r asg (fun e s => e = .normal ∧ s = { t := t1, h := h1, m := [] }) { t := setAll ts (ps.toList.zip args), h := h, m := [] })
    (hb1 : h1[b]? = some (.loop .ready p1 f1 ts1 ps1 a1 b1))
    (hbody : ∀ X r, VW P Γ X r body (fun e s => e = e2 ∧ s = s2) { t := t1, h := h1.set b (.loop .busy p1 0 ts1 ps1 a1 b1), m := [] })
    (hend : roundEnd b e2 s2 = some (d, h')) : VInv P Γ (.ref (.yl b)) args h fun d2 h2 => d2 = d ∧ h2 = h' := by
  intro O w l y vs R rx ra r o a next Q' hn
  simp only [Rel, RefRel, hb] at rx
  obtain ⟨_, blk, cp, hl, rfl⟩ := rx
  obtain ⟨rec, g1, g2, g3, g4, g5, g6, g7, _⟩ := setLoop R hb hl
  have hlv := relL_length _ _ ra
  have e1 : (do let d ← Deferred.ofValue (.func (.yield blk) #[] #[]) vs.toArray; invoke d.target d.args : Sem Next).run P w =
      .ok (.round blk rec.fn ((rec.params.zip vs.toArray).foldl (fun tmps (p : Tmp × Value) => tmps.setIfInBounds p.1 p.2) rec.tmps) rec.assign rec.body) w := by
    have hsz : vs.length = rec.params.size := by rw [g4, ← hlen, hlv]
    simp only [Deferred.ofValue, Sem.run_bind, Sem.run_pure, Result.andThen_ok, invoke, Instr.yield, getLoop_run (P := P) g1, Array.empty_append]
    simp [hsz]
  rw [e1]
  refine ⟨fun h => by simp [Fence.wide] at h, ?_⟩
  rw [g5, g6, g4]
  refine roundIn_of_wpIn (F := FW r) trivial ?_
  have st0 : St Γ { O := O, w := w, l := l, h := h } { t := setAll ts (ps.toList.zip args), h := h, m := [] }
      { tmps := (ps.zip vs.toArray).foldl (fun tmps (p : Tmp × Value) => tmps.setIfInBounds p.1 p.2) rec.tmps, defers := [] } w := by
    refine ⟨l, R, Ext.refl _ _ _, ?_, by simp [DefOk]⟩
    have := relL_setAll (w := w) (l := l) (h := h) (av := avs O l h) ps.toList args vs ts rec.tmps ra g7
    rw [← Array.foldl_toList]
    simpa using this
  refine wpIn_mono (hasg _ (some blk) _ _ st0) ?_
  rintro e a₁ w₁ ⟨_, _, s1, ⟨rfl, rfl⟩, l1, R1, E1, rt1, rd1⟩
  have hl1 : l1 b = some (blk, cp) := by rw [loop_stays E1 hb hb1]; exact hl
  obtain ⟨rec1, k1, k2, k3, k4, k5, k6, k7, k8⟩ := setLoop R1 hb1 hl1
  obtain ⟨R2, E2⟩ := k8 .busy p1
  refine ⟨{ w₁ with heap := w₁.heap.setIfInBounds blk (.loop { rec1 with state := .busy, pending := p1 }) }, ?_, ?_⟩
  · have : ({ rec1 with state := .busy } : Loop) = { rec1 with state := .busy, pending := p1 } := by rw [← k3]
    simp only [Instr.beginRound, Sem.run_bind, getLoop_run (P := P) k1, Result.andThen_ok, this, setObj_run (P := P) k1 (by simp), k2, Sem.run_pure]
  · have st1 : St Γ { O := O, w := w, l := l, h := h } { t := t1, h := h1.set b (.loop .busy p1 0 ts1 ps1 a1 b1), m := [] } a₁ { w₁ with heap := w₁.heap.setIfInBounds blk (.loop { rec1 with state := .busy, pending := p1 }) } := by
      refine ⟨l1, R2, E1.trans E2, E2.relL rt1, ?_⟩
      cases hdd : a₁.defers with
      | nil => simp [DefOk]
      | cons d ds => rw [hdd] at rd1; simp [DefOk] at rd1
    refine wpIn_mono (hbody _ (some blk) _ _ st1) ?_
    rintro e a₂ w₂ ⟨_, _, s3, ⟨rfl, rfl⟩, l2, R3, E3, rt3, rd3⟩
    unfold roundEnd at hend
    split at hend
    case h_2 => simp at hend
    rename_i st3 p3 f3 ts3 ps3 a3 b3 hb3
    have hl2 : l2 b = some (blk, cp) := by rw [loop_stays E3 hb hb3]; exact hl
    obtain ⟨rec3, m1, m2, m3, m4, m5, m6, m7, m8⟩ := setLoop R3 hb3 hl2
    have endRun : ∀ jump : Option Code, (Instr.endRound blk jump).run P w₂ = .ok (.bool jump.isNone) { w₂ with heap := w₂.heap.setIfInBounds blk (.loop { rec3 with state := if jump.isNone then .ready else .done, pending := jump }) } := by
      intro jump
      simp only [Instr.endRound, Sem.run_bind, getLoop_run (P := P) m1, Result.andThen_ok, setObj_run (P := P) m1 (by simp), Sem.run_pure]
    cases e with
    | normal =>
      simp only [Option.some.injEq, Prod.mk.injEq] at hend
      obtain ⟨rfl, rfl⟩ := hend
      obtain ⟨R4, E4⟩ := m8 .ready none
      exact ⟨_, _, endRun none, hn _ _ _ l2 _ ⟨rfl, rfl⟩ R4 (E3.trans E4) (by simp [Rel, RelP])⟩
    | exit i =>
      simp only [Option.some.injEq, Prod.mk.injEq] at hend
      obtain ⟨rfl, rfl⟩ := hend
      obtain ⟨R4, E4⟩ := m8 .done (some (.exit i))
      exact ⟨_, _, endRun (some (.exit i)), hn _ _ _ l2 _ ⟨rfl, rfl⟩ R4 (E3.trans E4) (by simp [Rel, RelP])⟩
    | ret =>
      simp only [Option.some.injEq, Prod.mk.injEq] at hend
      obtain ⟨rfl, rfl⟩ := hend
      obtain ⟨R4, E4⟩ := m8 .done (some .ret)
      exact ⟨_, _, endRun (some .ret), hn _ _ _ l2 _ ⟨rfl, rfl⟩ R4 (E3.trans E4) (by simp [Rel, RelP])⟩
    | _ => simp at hend
end
end Go.Vi
namespace Go.Vi
open Go
section
variable {P : Program} {Γ : Glob} {X : Ctx} {s : AS}

theorem newObj_run {w : World} (o : Obj) : (newObj o).run P w = .ok w.heap.size (w.alloc o) := rfl

theorem VW.rangeFunc (ok : POk P) {g : Operand} {ps : Array Tmp} {asg body : Code} {f : FuncId} {fi ca : List D} {h2 : List Blk} {e : Exit} {s' : AS} (hg : calleeD (evalD Γ s.t g) = some (f, fi, ca)) (hf : funOk P f = true)
    (hc : VCall P Γ f (fi ++ [.ref (.yl (s.h.length + 1))] ++ ca) (s.h ++ [.defd] ++ [.loop .ready none 0 s.t ps asg body]) fun _ h' => h' = h2)
    (he : loopEnd s.h.length s.t s.m h2 = some (e, s')) : VW P Γ X none (.rangeFunc g ps asg body) (fun e' s'' => e' = e ∧ s'' = s') s := by
  intro a w hs
  have hmk := hs.marks
  obtain ⟨l, R, E, rt, rd⟩ := hs
  refine wpIn_rangeFunc fun fn _ => ?_
  obtain ⟨R1, E1⟩ := rep_alloc R (.deferred (some [])) .defd 0 (fun E => ⟨w.heap.size, 0, by simp, heap_alloc_new w _⟩)
  generalize hw1 : w.alloc (.deferred (some [])) = w1 at R1 E1
  generalize hl1 : l.upd s.h.length (some (w.heap.size, 0)) = l1 at R1 E1
  have rt1 := E1.relL rt
  have hlen : (s.h ++ [Blk.defd]).length = s.h.length + 1 := by simp
  obtain ⟨R2, E2⟩ := rep_alloc R1 (.loop { state := .ready, pending := none, fn, tmps := a.tmps, params := ps, assign := asg, body, defers := w.heap.size }) (.loop .ready none 0 s.t ps asg body) 0
    (fun E => ⟨w1.heap.size, 0, a.tmps, w.heap.size, fn, by simp, heap_alloc_new w1 _, E.relL rt1⟩)
  generalize hw2 : w1.alloc (.loop { state := .ready, pending := none, fn, tmps := a.tmps, params := ps, assign := asg, body, defers := w.heap.size }) = w2 at R2 E2
  generalize hl2 : l1.upd (s.h ++ [Blk.defd]).length (some (w1.heap.size, 0)) = l2 at R2 E2
  rw [hlen] at hl2
  obtain ⟨a0, c0, e0, r1, r2⟩ := callee_sound (evalD_sound R2 ((E1.trans E2).relL rt) g) hg
  unfold funOk at hf
  split at hf
  case h_2 => simp at hf
  rename_i fn' hfn'
  refine ⟨w1.heap.size, [{ target := .collected w.heap.size, args := #[] }], w2, { target := .fn (.func f) c0, args := a0 ++ #[.func (.yield w1.heap.size) #[] #[]] }, w2, f, a0 ++ #[.func (.yield w1.heap.size) #[] #[]] ++ c0, w2, ?_, ?_, fun _ _ => trivial, ?_, fun h => by simp [Fence.wide] at h, ?_⟩
  · simp only [Instr.enterLoop, Sem.run_bind, newObj_run, Result.andThen_ok, Sem.run_pure, hw1, hw2]
  · simp only [resolve, e0, Deferred.ofValue, Sem.run_pure]
    simp
    rfl
  · exact call_run ok hfn' hf _ _
  · have hl2n : l2 (s.h.length + 1) = some (w1.heap.size, 0) := by rw [← hl2]; simp
    have hl2d : l2 s.h.length = some (w.heap.size, 0) := by rw [← hl2, Loc.upd_ne _ _ _ (by omega), ← hl1]; simp
    have hHn : (s.h ++ [Blk.defd] ++ [Blk.loop .ready none 0 s.t ps asg body])[s.h.length + 1]? = some (.loop .ready none 0 s.t ps asg body) := by
      rw [List.getElem?_append_right (by simp)]; simp
    have hHd : (s.h ++ [Blk.defd] ++ [Blk.loop .ready none 0 s.t ps asg body])[s.h.length]? = some .defd := by
      rw [List.getElem?_append_left (by simp), List.getElem?_append_right (by simp)]; simp
    have hd2 : DefOk l2 (s.h ++ [Blk.defd] ++ [Blk.loop .ready none 0 s.t ps asg body]) (s.h.length :: s.m) ({ target := .collected w.heap.size, args := #[] } :: a.defers) := by
      simp only [DefOk]
      refine ⟨⟨w.heap.size, 0, hHd, hl2d, rfl⟩, ?_⟩
      exact DefOk.mono (E1.trans E2).keep (by rw [List.append_assoc]; exact marksOk_append hmk) rd
    have hcall := hc X.O w2 l2 (a0 ++ #[Value.func (Fn.yield w1.heap.size) #[] #[]] ++ c0).toList R2 (by
      simp only [Array.toList_append]
      refine relL_append (relL_append r1 ?_) r2
      simp only [RelL, Rel, RefRel, hHn]
      exact ⟨⟨rfl, w1.heap.size, 0, hl2n, rfl⟩, trivial⟩)
    refine CallsIn.mono (hcall : CallsIn (FW none) 0 P f _ w2 _) ?_
    rintro e1 w3 ⟨v, d, h', l3, rfl, rfl, R3, E3, _⟩
    unfold loopEnd at he
    split at he
    case h_2 => simp at he
    rename_i st pend f3 ts3 ps3 a3 c3 hb3
    have hl3 : l3 (s.h.length + 1) = some (w1.heap.size, 0) := by rw [loop_stays E3 hHn hb3]; exact hl2n
    obtain ⟨rec3, m1, m2, m3, m4, m5, m6, m7, m8⟩ := setLoop R3 hb3 hl3
    obtain ⟨R4, E4⟩ := m8 .exhausted pend
    split at he
    · simp at he
    rename_i hbusy
    split at he
    case h_2 => simp at he
    rename_i hmk3
    have hst : St Γ X { t := s.t, h := h'.set (s.h.length + 1) (.loop .exhausted pend 0 ts3 ps3 a3 c3), m := s.h.length :: s.m } { a with defers := [{ target := .collected w.heap.size, args := #[] }] ++ a.defers }
        { w3 with heap := w3.heap.setIfInBounds w1.heap.size (.loop { rec3 with state := .exhausted, pending := pend }) } :=
      ⟨l3, R4, (E.trans (E1.trans E2)).trans (E3.trans E4), ((E1.trans E2).trans (E3.trans E4)).relL rt, DefOk.mono (E3.trans E4).keep hmk3 hd2⟩
    have hrun : (Instr.endLoop w1.heap.size).run P w3 = .ok pend { w3 with heap := w3.heap.setIfInBounds w1.heap.size (.loop { rec3 with state := .exhausted, pending := pend }) } := by
      have e1 : ({ rec3 with state := .exhausted } : Loop) = { rec3 with state := .exhausted, pending := pend } := by rw [← m3]
      have e2 : (rec3.state == LoopState.busy) = false := by
        rw [m2]
        cases st <;> first | rfl | exact absurd rfl hbusy
      simp only [Instr.endLoop, Sem.run_bind, getLoop_run (P := P) m1, Result.andThen_ok, e2, Bool.false_eq_true, if_false, Sem.run_pure, setObj_run (P := P) m1 (by simp), m3]
    refine ⟨pend, _, hrun, ?_⟩
    cases pend with
    | none =>
      simp only [Option.some.injEq, Prod.mk.injEq] at he
      obtain ⟨rfl, rfl⟩ := he
      exact ⟨by simp, by simp, _, ⟨rfl, rfl⟩, hst⟩
    | some c =>
      cases c <;> simp only [Option.some.injEq, Prod.mk.injEq, reduceCtorEq] at he
      · obtain ⟨rfl, rfl⟩ := he
        exact wpIn_exit ⟨by simp, by simp, _, ⟨rfl, rfl⟩, hst⟩
      · obtain ⟨rfl, rfl⟩ := he
        exact wpIn_ret ⟨by simp, by simp, _, ⟨rfl, rfl⟩, hst⟩
end
end Go.Vi
namespace Go.Vi
open Go
section
variable {P : Program} {Γ : Glob}

def FnOk (P : Program) (Γ : Glob) (fnc : FnF) : Prop := ∀ f args h d h', fnc f args h = some (d, h') → funOk P f = true ∧ VCall P Γ f args h fun d2 h2 => d2 = d ∧ h2 = h'
def YlOk (P : Program) (Γ : Glob) (yl : YlF) : Prop := ∀ b args h d h', yl b args h = some (d, h') → VInv P Γ (.ref (.yl b)) args h fun d2 h2 => d2 = d ∧ h2 = h'

theorem callOf_ok (ok : POk P) {fnc : FnF} {yl : YlF} (hf : FnOk P Γ fnc) (hy : YlOk P Γ yl) : (callOf fnc yl).Ok P Γ := by
  intro x args h d h' hc
  unfold callOf at hc
  split at hc
  · rename_i f fi ca hx
    obtain ⟨h1, h2⟩ := hf _ _ _ _ _ hc
    exact VInv.of_call ok hx h1 h2
  · split at hc
    · exact hy _ _ _ _ _ hc
    · simp at hc

abbrev Det (e : Exit) (s' : AS) : Exit → AS → Prop := fun e' s'' => e' = e ∧ s'' = s'

def CodeOk (P : Program) (Γ : Glob) (run : Bool → Code → AS → Option (Exit × AS)) : Prop :=
  ∀ rd c s e s', run rd c s = some (e, s') → ∀ X r, (rd = false → r = none) → VW P Γ X r c (Det e s') s
def LoopOk (P : Program) (Γ : Glob) (run : Bool → Code → AS → Option (Exit × AS)) : Prop :=
  ∀ rd c s e s', run rd (.loop c) s = some (e, s') → ∀ X r, (rd = false → r = none) → LoopW P Γ X r c (Det e s') s

theorem bodyEnd_q {fn : Func} {n : Nat} {s : AS} {d : D} {h' : List Blk} {e : Exit} (he : e = .normal ∨ e = .ret) (hb : bodyEnd P fn n s = some (d, h')) :
    bodyQ P fn (fun d2 h2 => trimD n d2 h2 = (d, h')) e s := by
  unfold bodyEnd at hb
  split at hb
  · rename_i hm
    simp only [Bool.and_eq_true, decide_eq_true_eq] at hm
    split at hb
    · rename_i ds hr
      simp only [Option.some.injEq] at hb
      exact ⟨he, hm.1, hm.2, ds, hr, hb⟩
    · simp at hb
  · simp at hb

theorem run_ok (ok : POk P) : ∀ n, CodeOk P Γ (runC P Γ n) ∧ LoopOk P Γ (runC P Γ n) ∧ FnOk P Γ (runF P Γ n) ∧ YlOk P Γ (runY P Γ n)
  | 0 => ⟨fun _ _ _ _ _ h => by simp [runC] at h, fun _ _ _ _ _ h => by simp [runC] at h, fun _ _ _ _ _ h => by simp [runF] at h, fun _ _ _ _ _ h => by simp [runY] at h⟩
  | n + 1 => by
    obtain ⟨hC, hL, hF, hY⟩ := run_ok ok n
    have hcall := callOf_ok ok hF hY
    have hloop : LoopOk P Γ (runC P Γ (n + 1)) := by
      intro rd c s e s' hr X r hrd
      refine LoopW.step ?_
      simp only [runC] at hr
      split at hr
      · rename_i s1 h1
        refine (hC rd c s _ _ h1 X r hrd).mono ?_
        rintro e' s'' ⟨rfl, rfl⟩
        exact hL rd c _ _ _ hr X r hrd
      · rename_i hno
        refine (hC rd c s _ _ hr X r hrd).mono ?_
        rintro e' s'' ⟨rfl, rfl⟩
        cases e' with
        | normal => exact absurd hr (hno _)
        | _ => exact ⟨rfl, rfl⟩
    refine ⟨?_, hloop, ?_, ?_⟩
    · intro rd c s e s' hr X r hrd
      cases c with
      | skip => simp only [runC, Option.some.injEq, Prod.mk.injEq] at hr; exact VW.skip ⟨hr.1, hr.2⟩
      | label k => simp only [runC, Option.some.injEq, Prod.mk.injEq] at hr; exact VW.label ⟨hr.1, hr.2⟩
      | ret => simp only [runC, Option.some.injEq, Prod.mk.injEq] at hr; exact VW.ret ⟨hr.1, hr.2⟩
      | exit i => simp only [runC, Option.some.injEq, Prod.mk.injEq] at hr; exact VW.exit ⟨hr.1, hr.2⟩
      | goto i => simp only [runC, Option.some.injEq, Prod.mk.injEq] at hr; exact VW.goto ⟨hr.1, hr.2⟩
      | scope b => simp [runC] at hr
      | refuse w => simp [runC] at hr
      | seq a b =>
        simp only [runC] at hr
        refine VW.seq ?_
        split at hr
        · rename_i s1 h1
          refine (hC rd a s _ _ h1 X r hrd).mono ?_
          rintro e' s'' ⟨rfl, rfl⟩
          exact hC rd b _ _ _ hr X r hrd
        · rename_i hno
          refine (hC rd a s _ _ hr X r hrd).mono ?_
          rintro e' s'' ⟨rfl, rfl⟩
          cases e' with
          | normal => exact absurd hr (hno _)
          | _ => exact ⟨rfl, rfl⟩
      | cond x a b =>
        simp only [runC] at hr
        split at hr
        · rename_i hx
          exact VW.cond hx (fun _ => hC rd a s _ _ hr X r hrd) (fun h => by cases h)
        · rename_i hx
          exact VW.cond hx (fun h => by cases h) (fun _ => hC rd b s _ _ hr X r hrd)
        · simp at hr
      | block i b =>
        simp only [runC] at hr
        refine VW.block ?_
        split at hr
        · rename_i j s1 h1
          refine (hC rd b s _ _ h1 X r hrd).mono ?_
          rintro e' s'' ⟨rfl, rfl⟩
          simp only [blockQ]
          split at hr <;> rename_i hj
          · simp only [Option.some.injEq, Prod.mk.injEq] at hr; rw [if_pos hj]; exact ⟨hr.1, hr.2⟩
          · simp only [Option.some.injEq, Prod.mk.injEq] at hr; rw [if_neg hj]; exact ⟨hr.1, hr.2⟩
        · rename_i hno
          refine (hC rd b s _ _ hr X r hrd).mono ?_
          rintro e' s'' ⟨rfl, rfl⟩
          cases e' with
          | exit j => exact absurd hr (hno _ _)
          | _ => exact ⟨rfl, rfl⟩
      | loop b => exact (hloop rd b s e s' hr X r hrd).loop
      | region id ops draw =>
        simp only [runC] at hr
        split at hr
        · rename_i t h h1
          simp only [Option.some.injEq, Prod.mk.injEq] at hr
          exact VW.run ok hcall h1 ⟨hr.1, hr.2⟩
        · simp at hr
      | rangeFunc g ps asg body =>
        simp only [runC] at hr
        cases rd with
        | true => simp at hr
        | false =>
          obtain rfl := hrd rfl
          simp only at hr
          split at hr
          · rename_i f fi ca hg
            split at hr
            · rename_i d h2 h1
              obtain ⟨k1, k2⟩ := hF _ _ _ _ _ h1
              exact VW.rangeFunc ok hg k1 (k2.mono fun _ _ hq => hq.2) hr
            · simp at hr
          · simp at hr
    · intro f args h d h' hr
      simp only [runF] at hr
      split at hr
      · simp at hr
      rename_i fn hf
      split at hr
      · simp at hr
      rename_i c hb
      refine ⟨by simp [funOk, hf, hb], ?_⟩
      refine VCall.trim ?_
      split at hr
      · rename_i s1 h1
        refine VCall.of_body hf hb fun X _ => (hC false c _ _ _ h1 X none (fun _ => rfl)).mono ?_
        rintro e' s'' ⟨rfl, rfl⟩
        obtain ⟨q1, q2, q3, ds, q4, q5⟩ := bodyEnd_q (P := P) (.inl rfl) hr
        exact ⟨q1, q2, q3, ds, q4, by simp only [q5]; exact ⟨trivial, trivial⟩⟩
      · rename_i s1 h1
        refine VCall.of_body hf hb fun X _ => (hC false c _ _ _ h1 X none (fun _ => rfl)).mono ?_
        rintro e' s'' ⟨rfl, rfl⟩
        obtain ⟨q1, q2, q3, ds, q4, q5⟩ := bodyEnd_q (P := P) (.inr rfl) hr
        exact ⟨q1, q2, q3, ds, q4, by simp only [q5]; exact ⟨trivial, trivial⟩⟩
      · simp at hr
    · intro b args h d h' hr
      simp only [runY] at hr
      split at hr
      · rename_i p f ts ps asg body hb
        split at hr
        · rename_i hlen
          simp only [decide_eq_true_eq] at hlen
          split at hr
          · rename_i t1 h1 hasg
            split at hr
            · rename_i p1 f1 ts1 ps1 a1 b1 hb1
              split at hr
              · rename_i e2 s2 hbody
                exact round_sound hb hlen (fun X r => hC true asg _ _ _ hasg X r (fun h => by cases h)) hb1 (fun X r => hC true body _ _ _ hbody X r (fun h => by cases h)) hr
              · simp at hr
            · simp at hr
          · simp at hr
        · simp at hr
      · simp at hr

/-- A closed call, run. -/
theorem VCall.of_run (ok : POk P) {n : Nat} {f : FuncId} {args : List D} {h : List Blk} {d : D} {h' : List Blk} (hr : runF P Γ n f args h = some (d, h')) : VCall P Γ f args h fun d2 h2 => d2 = d ∧ h2 = h' :=
  ((run_ok ok n).2.2.1 f args h d h' hr).2
end
end Go.Vi
namespace Go.Vi
open Go

/-- A function's contract: from these arguments, with this heap, this result and that heap. -/
def Ev (P : Program) (Γ : Glob) (f : FuncId) (args : List D) (h : List Blk) (d : D) (h' : List Blk) : Prop := VCall P Γ f args h fun d2 h2 => d2 = d ∧ h2 = h'

/-- The same of a value that is called. -/
def Iv (P : Program) (Γ : Glob) (x : D) (args : List D) (h : List Blk) (d : D) (h' : List Blk) : Prop := VInv P Γ x args h fun d2 h2 => d2 = d ∧ h2 = h'

/-- One operation. -/
def OpW (P : Program) (Γ : Glob) (t : List D) (h : List Blk) (o : Op) (K : D → List Blk → Prop) : Prop :=
  match o with
  | .call { callee := .value fv, args, .. } => ∃ d h', Iv P Γ (evalD Γ t fv) (args.toList.map (evalD Γ t)) h d h' ∧ K d h'
  | op => ∃ d h', opSem P Γ t h op = some (true, d, h') ∧ K d h'

theorem OpW.call {P : Program} {Γ : Glob} {t : List D} {h h' : List Blk} {d : D} {fv : Operand} {args : Array Operand} {ats : Array TypeId} {K : D → List Blk → Prop} (hi : Iv P Γ (evalD Γ t fv) (args.toList.map (evalD Γ t)) h d h') (hK : K d h') :
    OpW P Γ t h (.call { callee := .value fv, args, argTypes := ats }) K := ⟨d, h', hi, hK⟩

theorem OpW.sem {P : Program} {Γ : Glob} {t : List D} {h h' : List Blk} {d : D} {op : Op} {K : D → List Blk → Prop} (hi : opSem P Γ t h op = some (true, d, h')) (hK : K d h') : OpW P Γ t h op K := by
  unfold OpW
  split
  · simp [opSem] at hi
  · exact ⟨d, h', hi, hK⟩

theorem OpW.run {P : Program} {Γ : Glob} {t : List D} {h : List Blk} {op : Op} {K : D → List Blk → Prop} (hw : OpW P Γ t h op K) : ∃ call, CallF.Ok P Γ call ∧ ∃ d h', runOp P Γ call t h op = some (d, h') ∧ K d h' := by
  unfold OpW at hw
  split at hw
  · rename_i fv args ats
    obtain ⟨d, h', hi, hK⟩ := hw
    classical
    refine ⟨fun x as g => if x = evalD Γ t fv ∧ as = args.toList.map (evalD Γ t) ∧ g = h then some (d, h') else none, ?_, d, h', ?_, hK⟩
    · intro x as g d1 h1 hc
      simp only at hc
      split at hc
      · rename_i he
        obtain ⟨rfl, rfl, rfl⟩ := he
        simp only [Option.some.injEq, Prod.mk.injEq] at hc
        obtain ⟨rfl, rfl⟩ := hc
        exact hi
      · simp at hc
    · simp [runOp]
  · rename_i hno
    obtain ⟨d, h', hi, hK⟩ := hw
    refine ⟨fun _ _ _ => none, fun _ _ _ _ _ hc => by simp at hc, d, h', ?_, hK⟩
    unfold runOp
    split
    · exact absurd rfl (hno _ _ _)
    · rw [hi]

/-- One operation with its guard. -/
def StW (P : Program) (Γ : Glob) (m : List Nat) (L : List Oper) (t : List D) (h : List Blk) (o : Oper) (K : D → List Blk → Prop) : Prop :=
  ∃ call, CallF.Ok P Γ call ∧ ∃ f d' d h', (FixOk f ∧ stepD P Γ call m L (t.map f) h o = some (d', h') ∧ Wk d' d) ∧ K d h'

/-- A contract for one operation. -/
def OpOk (P : Program) (Γ : Glob) (t : List D) (h : List Blk) (o : Op) (d : D) (h' : List Blk) : Prop := ∃ call, CallF.Ok P Γ call ∧ runOp P Γ call t h o = some (d, h')

theorem OpOk.sem {P : Program} {Γ : Glob} {t : List D} {h h' : List Blk} {o : Op} {d : D} (hs : opSem P Γ t h o = some (true, d, h')) : OpOk P Γ t h o d h' := by
  obtain ⟨call, hc, d1, h1, h2, rfl, rfl⟩ := (OpW.sem (K := fun d1 h1 => d1 = d ∧ h1 = h') hs ⟨rfl, rfl⟩).run
  exact ⟨call, hc, h2⟩
theorem OpOk.call {P : Program} {Γ : Glob} {t : List D} {h h' : List Blk} {d : D} {fv : Operand} {args : Array Operand} {ats : Array TypeId} (hi : Iv P Γ (evalD Γ t fv) (args.toList.map (evalD Γ t)) h d h') :
    OpOk P Γ t h (.call { callee := .value fv, args, argTypes := ats }) d h' := by
  obtain ⟨call, hc, d1, h1, h2, rfl, rfl⟩ := (OpW.call (ats := ats) (K := fun d1 h1 => d1 = d ∧ h1 = h') hi ⟨rfl, rfl⟩).run
  exact ⟨call, hc, h2⟩

theorem OpOk.congr {P : Program} {Γ : Glob} {t t' : List D} {h h' : List Blk} {o : Op} {d : D} (he : ∀ x ∈ o.operands, evalD Γ t x = evalD Γ t' x) (ho : OpOk P Γ t h o d h') : OpOk P Γ t' h o d h' := by
  obtain ⟨call, hc, hr⟩ := ho
  exact ⟨call, hc, by rw [← runOp_congr o he]; exact hr⟩

theorem StW.on {P : Program} {Γ : Glob} {m : List Nat} {L : List Oper} {t : List D} {h h' : List Blk} {o : Oper} {K : D → List Blk → Prop} {d : D} (hg : guardD L t o.guard = some true) (ho : OpOk P Γ t h o.op d h') (hm : marksOk h' m = true) (hK : K d h') : StW P Γ m L t h o K := by
  obtain ⟨call, hc, hr⟩ := ho
  exact ⟨call, hc, id, d, d, h', ⟨FixOk.id, by rw [List.map_id]; unfold stepD; rw [hg, hr]; simp [hm], Wk.refl _⟩, hK⟩

theorem StW.off {P : Program} {Γ : Glob} {m : List Nat} {L : List Oper} {t : List D} {h : List Blk} {o : Oper} {K : D → List Blk → Prop} (hg : guardD L t o.guard = some false) (hK : K (lit undef) h) : StW P Γ m L t h o K :=
  ⟨fun _ _ _ => none, fun _ _ _ _ _ hc => by simp at hc, id, _, _, h, ⟨FixOk.id, by rw [List.map_id]; unfold stepD; rw [hg], Wk.refl _⟩, hK⟩

theorem StW.spec {P : Program} {Γ : Glob} {m : List Nat} {L : List Oper} {t : List D} {h : List Blk} {o : Oper} {K : D → List Blk → Prop} {d : D} {b : Bool} (hg : guardD L t o.guard = some b) (ho : b = true → OpOk P Γ (t.map fixD) h o.op d h) (hm : marksOk h m = true) (hK : K (.grd b d) h) : StW P Γ m L t h o K := by
  cases b with
  | true =>
    obtain ⟨call, hc, hr⟩ := ho rfl
    exact ⟨call, hc, fixD, d, .grd true d, h, ⟨FixOk.fixD, by unfold stepD; rw [guardD_fix FixOk.fixD hg, hr]; simp [hm], fun _ _ _ _ _ r => by simpa [Rel] using r⟩, hK⟩
  | false =>
    exact ⟨fun _ _ _ => none, fun _ _ _ _ _ hc => by simp at hc, id, lit undef, .grd false d, h, ⟨FixOk.id, by rw [List.map_id]; unfold stepD; rw [hg], fun _ _ _ _ _ _ => by simp [Rel]⟩, hK⟩

theorem guardD_same (w : World) {f f0 : D → D} (hf : FixOk f) (hf0 : FixOk f0) {L : List Oper} {t : List D} {g : Option (Nat × Bool)} {b b0 : Bool} (h : guardD L (t.map f) g = some b) (h0 : guardD L (t.map f0) g = some b0) : b = b0 := by
  unfold guardD at h h0
  split at h
  · simp_all
  · split at h
    · rename_i x hx
      simp only [hx] at h0
      split at h
      · rename_i v hv
        split at h0
        · rename_i v0 hv0
          have e : v0 = v := by
            rw [getD_map hf.any] at hv
            rw [getD_map hf0.any] at hv0
            generalize t.getD x .any = d at hv hv0
            have h1 := (hf.both d).2
            have h2 := (hf0.both d).1
            rw [hv] at h1
            rw [hv0] at h2
            have := h2 w (fun _ => False) (fun _ => none) [] v (h1 w (fun _ => False) (fun _ => none) [] v (by simp [Rel, RelP]))
            simpa [Rel, RelP] using this.symm
          subst e
          simp only [Option.some.injEq] at h h0
          rw [← h, ← h0]
        · simp at h0
      · simp at h
    · simp_all

/-- The operations one by one; c: none of them changes the heap. -/
def RW (P : Program) (Γ : Glob) (m : List Nat) (L : List Oper) (c : Bool) : List Oper → List D → List Blk → (List D → List Blk → Prop) → Prop
  | [], t, h, K => K t h
  | o :: os, t, h, K => StW P Γ m L t h o fun d h' => (c = true → h' = h) ∧ RW P Γ m L c os (putD t o.dst d) h' K

theorem RW.runR {P : Program} {Γ : Glob} {m : List Nat} {L : List Oper} {K : List D → List Blk → Prop} : ∀ (os : List Oper) (t : List D) (h : List Blk), RW P Γ m L true os t h K →
    ∃ tF hs ts, Vi.runR P Γ m L Wk FixOk os t h tF hs ts ∧ K tF h ∧ (∀ k, k ≤ os.length → hs.getD k [] = h)
  | [], t, h, hw => ⟨t, [h], [], ⟨rfl, rfl, rfl⟩, hw, fun k hk => by simp at hk; subst hk; rfl⟩
  | o :: os, t, h, hw => by
    obtain ⟨call, hc, f, d', d, h', h1, h2, h3⟩ := hw
    obtain rfl := h2 rfl
    obtain ⟨tF, hs, ts, g1, g2, g3⟩ := RW.runR os _ _ h3
    exact ⟨tF, h' :: hs, t :: ts, ⟨call, f, d', d, h', hs, ts, hc, h1, g1, rfl, rfl⟩, g2, fun k hk => by
      cases k with
      | zero => rfl
      | succ k => simpa using g3 k (by simpa using hk)⟩

section
variable {P : Program} {Γ : Glob} {X : Ctx} {r : Option Nat} {Q : Exit → AS → Prop} {t : List D} {h : List Blk} {m : List Nat}

theorem St_put_step {L : List Oper} {ops : Array Oper} (hL : ops.toList = L) {o : Oper} {K : Act → World → Prop} {Q' : Exit → Act → World → Prop} {Kd : D → List Blk → Prop} (hw : StW P Γ m L t h o Kd)
    (hK : ∀ d h' a' w', Kd d h' → St Γ X { t := putD t o.dst d, h := h', m := m } a' w' → K a' w') {a : Act} {w : World} (hs : St Γ X { t := t, h := h, m := m } a w) :
    if Region.wanted o (yielded ops a.tmps) then o.wpIn (FW r) 0 P a w K Q' else (∀ f, o.about P w a.eval = some f → (FW r).fn f) ∧ K (a.put o.dst undef) w := by
  subst hL
  obtain ⟨call, hc, f, dw, d, h', ⟨hfx, h1, hwk⟩, h2⟩ := hw
  have hsf : St Γ X { t := t.map f, h := h, m := m } a w := hs.fix hfx
  unfold stepD at h1
  split at h1
  · rename_i hg
    have hwt : Region.wanted o (yielded ops a.tmps) = true := by
      obtain ⟨l, R, E, rt, rd⟩ := hsf
      exact guardD_sound rt hg
    rw [if_pos hwt]
    split at h1
    · rename_i d1 h1' hop
      split at h1
      · rename_i hm
        simp only [Option.some.injEq, Prod.mk.injEq] at h1
        obtain ⟨rfl, rfl⟩ := h1
        exact runOp_wp (s := { t := t.map f, h := h, m := m }) hc hop hm (fun a' w' hs' => hK _ _ a' w' h2 (St.unfix hfx hwk hs')) hsf
      · simp at h1
    · simp at h1
  · rename_i hg
    simp only [Option.some.injEq, Prod.mk.injEq] at h1
    obtain ⟨rfl, rfl⟩ := h1
    have hwt : Region.wanted o (yielded ops a.tmps) = false := by
      obtain ⟨l, R, E, rt, rd⟩ := hsf
      exact guardD_sound rt hg
    rw [if_neg (by simp [hwt])]
    exact ⟨fun _ _ => trivial, hK _ _ _ _ h2 (St.unfix hfx hwk (St.skip (s := { t := t.map f, h := h, m := m }) o.dst hsf))⟩
  · simp at h1

theorem RW.sound {ops : Array Oper} : ∀ (os : List Oper) (i : Nat) (t : List D) (h : List Blk), ops.toList.drop i = os → RW P Γ m ops.toList false os t h (fun t' h' => Q .normal { t := t', h := h', m := m }) →
    ∀ (a : Act) (w : World), St Γ X { t := t, h := h, m := m } a w → wpOpsIn (FW r) 0 P ops (LiftQ Γ X Q) (List.range' i os.length) a w := by
  intro os
  induction os with
  | nil =>
    intro i t h hd hr a w hs
    exact ⟨by simp, by simp, _, hr, hs⟩
  | cons o os ih =>
    intro i t h hd hr a w hs
    have ho : ops[i]? = some o := by
      rw [← Array.getElem?_toList]
      have := congrArg (·[0]?) hd
      simpa using this
    have hd' : ops.toList.drop (i + 1) = os := by
      have := congrArg (List.drop 1) hd
      simpa [Nat.add_comm] using this
    simp only [List.length_cons, List.range'_succ, wpOpsIn, ho]
    exact St_put_step rfl hr (fun d h' a' w' hk hs' => ih (i + 1) _ _ hd' hk.2 a' w' hs') hs

theorem VW.regionW {id : Nat} {ops : Array Oper} (hr : RW P Γ m ops.toList false ops.toList t h (fun t' h' => Q .normal { t := t', h := h', m := m })) : VW P Γ X r (.region id ops false) Q { t := t, h := h, m := m } := fun a w hs =>
  wpIn_region (by
    have := RW.sound (r := r) (X := X) (Q := Q) ops.toList 0 t h (by simp) hr a w hs
    simpa [List.range_eq_range'] using this)

theorem VW.drawW (ok : POk P) {id : Nat} {ops : Array Oper} (hD : drawOkB ops.toList (befs ops.toList []) = true) (hx : ops.toList.all (fun o => match o.dst with | some x => decide (x < t.length) | none => true) = true)
    (hr : RW P Γ m ops.toList true ops.toList t h (fun t' h' => Q .normal { t := t', h := h', m := m })) : VW P Γ X r (.region id ops true) Q { t := t, h := h, m := m } := by
  obtain ⟨tF, hs, ts, g1, g2, g3⟩ := RW.runR _ _ _ hr
  have hD' := drawOk_of hD
  have hx' := hx
  clear hx
  refine VW.draw (hs := hs) (ts := ts) ok hD' g1 ?_ ?_
  · intro i o ho hq ⟨f0, hf0, hg0⟩ k hk hcomp
    obtain ⟨g5, g6, g7, g8, hat⟩ := runR_at _ _ _ _ _ _ g1
    obtain ⟨call, hc, f, dw, d, ⟨hfx, h1, hwk⟩, h2, h3, h4⟩ := hat i o ho
    have hi : i ≤ ops.toList.length := by
      have := (List.getElem?_eq_some_iff.1 ho).1
      omega
    have hk' : k ≤ ops.toList.length := by
      simp only [cands, List.mem_cons, List.mem_map] at hk
      rcases hk with rfl | ⟨c, hc1, rfl⟩
      · omega
      · obtain ⟨o', ho', _⟩ := of_mem_chains hc1
        have := (List.getElem?_eq_some_iff.1 ho').1
        omega
    rw [g3 i hi] at h1
    rw [g3 k hk']
    have hwx : ∀ x, o.dst = some x → Wk dw (tF.getD x .any) := fun x hx => by
      have hxl : x < t.length := by
        have := List.all_eq_true.1 hx' o (List.mem_of_getElem? ho)
        simpa [hx] using this
      rw [h4 x hx (fun j o' hj ho' hd => by have := hD'.uniq i j o o' x ho ho' hx hd; omega) hxl]
      exact hwk
    unfold stepD at h1
    split at h1
    · rename_i hg
      split at h1
      · rename_i d1 h1' hop
        split at h1
        · simp only [Option.some.injEq, Prod.mk.injEq] at h1
          obtain ⟨rfl, _⟩ := h1
          unfold runOp at hop
          split at hop
          · rename_i ho2
            rw [ho2] at hq
            simp [quietOp] at hq
          · split at hop
            · rename_i hsem
              cases hop
              exact ⟨f, _, _, hfx, hsem, hwx⟩
            · simp at hop
        · simp at h1
      · simp at h1
    · rename_i hg
      exact absurd (guardD_same X.w hfx hf0 hg hg0) (by simp)
    · simp at h1
  · have := g3 ops.toList.length (Nat.le_refl _)
    rw [show ops.size = ops.toList.length by simp, this]
    exact g2
end
end Go.Vi
namespace Go.Vi
open Go

/-- Answers: which way, which row, what a call gives, what a piece of code leaves. -/
inductive Ans where
  | b (v : Bool)
  | g (v : Bool)
  | row (r : List Dp)
  | call (d : D) (h : List Blk)
  | val (d : D)
  | ival (d : D)
  | inv (d : D) (h : List Blk)
  | sum (ks : List Nat) (e : Exit) (s : AS)
  | rsum (e : Exit) (s : AS)
  | csum (e : Exit) (s : AS)

def AllP : List Prop → Prop
  | [] => True
  | p :: ps => p ∧ AllP ps

theorem AllP.append {ps qs : List Prop} (h : AllP (ps ++ qs)) : AllP ps ∧ AllP qs := by
  induction ps with
  | nil => exact ⟨trivial, h⟩
  | cons p ps ih => exact ⟨⟨h.1, (ih h.2).1⟩, (ih h.2).2⟩

def rowsP : D → Option (List (List Dp))
  | .p (.sl es) => some es
  | .csl es => some es
  | _ => none

/-- The n-th row. -/
def RowAt (n : Int) (es : List (List Dp)) (r : List Dp) (sz : Nat) : Prop := inR n es.length = true ∧ es.getD n.toNat [] = r ∧ r.length = sz

/-- Operations that always go through where they have a value. -/
def sureOp (P : Program) : Op → Bool
  | .pick .. | .slice .. | .indexAddr .. | .index .. | .makeSlice .. => false
  | .binOp op ty _ _ _ => match op with
    | .add => (match P.underlying ty with
      | some (.int _) => true
      | _ => false)
    | .quo | .rem | .shl | .shr => false
    | _ => true
  | .call { callee := .builtin b, .. } => match b with
    | .append => false
    | _ => true
  | _ => true

def symSem (P : Program) (Γ : Glob) (t : List D) (h : List Blk) (o : Op) (as : List Ans) : Option (D × List Blk × List Ans × List Prop) :=
  match sureOp P o with
  | true => match opSem P Γ t h o with
    | some (true, d, h') => some (d, h', as, [])
    | _ => none
  | false => match opSem P Γ t h o with
    | some (ok, d, h') => some (d, h', as, [ok = true])
    | none => none

def symIx (P : Program) (Γ : Glob) (t : List D) (h : List Blk) (ty : TypeId) (x i : Operand) (r : List Dp) (as : List Ans) : Option (D × List Blk × List Ans × List Prop) :=
  match rowsP (evalD Γ t x), intOf? (evalD Γ t i), elemT P ty with
  | some es, some (_, n), some e => match szOf P e with
    | some sz => some (.ep r, h, as, [RowAt n es r sz])
    | none => none
  | _, _, _ => none

/-- What is asked of a call. -/
def symCall (P : Program) (Γ : Glob) (x : D) (args : List D) (h : List Blk) (d : D) (h' : List Blk) : Option Prop :=
  match calleeD x with
  | some (f, fi, ca) => match funOk P f with
    | true => some (Ev P Γ f (fi ++ args ++ ca) h d h')
    | false => none
  | none => some (Iv P Γ x args h d h')

theorem symCall_ok {P : Program} {Γ : Glob} (ok : POk P) {x : D} {args : List D} {h : List Blk} {d : D} {h' : List Blk} {p : Prop} (hs : symCall P Γ x args h d h' = some p) (hp : p) : Iv P Γ x args h d h' := by
  unfold symCall at hs
  split at hs
  · rename_i f fi ca hx
    split at hs
    · rename_i hf
      cases hs
      exact VInv.of_call ok hx hf hp
    · simp at hs
  · cases hs
    exact hp

def symOp (P : Program) (Γ : Glob) (t : List D) (h : List Blk) (o : Op) (as : List Ans) : Option (D × List Blk × List Ans × List Prop) :=
  match o with
  | .call { callee := .value fv, args, .. } => match as with
    | .call d h' :: as => match symCall P Γ (evalD Γ t fv) (args.toList.map (evalD Γ t)) h d h' with
      | some p => some (d, h', as, [p])
      | none => none
    | .val d :: as => match symCall P Γ (evalD Γ t fv) (args.toList.map (evalD Γ t)) h d h with
      | some p => some (d, h, as, [p])
      | none => none
    | .ival d :: as => some (d, h, as, [Iv P Γ (evalD Γ t fv) (args.toList.map (evalD Γ t)) h d h])
    | .inv d h' :: as => some (d, h', as, [Iv P Γ (evalD Γ t fv) (args.toList.map (evalD Γ t)) h d h'])
    | _ => none
  | .indexAddr ty x i => match as with
    | .row r :: as => symIx P Γ t h ty x i r as
    | as => symSem P Γ t h (.indexAddr ty x i) as
  | op => symSem P Γ t h op as

/-- The same where the heap must stay. -/
def symOpQ (P : Program) (Γ : Glob) (t : List D) (h : List Blk) (o : Op) (as : List Ans) : Option (D × List Ans × List Prop) :=
  match o with
  | .call { callee := .value fv, args, .. } => match as with
    | .val d :: as => match symCall P Γ (evalD Γ t fv) (args.toList.map (evalD Γ t)) h d h with
      | some p => some (d, as, [p])
      | none => none
    | .ival d :: as => some (d, as, [Iv P Γ (evalD Γ t fv) (args.toList.map (evalD Γ t)) h d h])
    | _ => none
  | op => match quietOp op with
    | true => match symOp P Γ t h op as with
      | some (d, _, as, φ) => some (d, as, φ)
      | none => none
    | false => none

section
variable {P : Program} {Γ : Glob} {t : List D} {h : List Blk}

theorem symSem_ok {o : Op} {as as' : List Ans} {d : D} {h' : List Blk} {φ : List Prop} (hs : symSem P Γ t h o as = some (d, h', as', φ)) (hp : AllP φ) : opSem P Γ t h o = some (true, d, h') := by
  unfold symSem at hs
  split at hs
  · split at hs
    · rename_i h1
      simp only [Option.some.injEq, Prod.mk.injEq] at hs
      obtain ⟨rfl, rfl, _, _⟩ := hs
      exact h1
    · simp at hs
  · split at hs
    · rename_i h1
      simp only [Option.some.injEq, Prod.mk.injEq] at hs
      obtain ⟨rfl, rfl, _, rfl⟩ := hs
      rw [h1, hp.1]
    · simp at hs

theorem symIx_ok {ty : TypeId} {x i : Operand} {r : List Dp} {as as' : List Ans} {d : D} {h' : List Blk} {φ : List Prop} (hs : symIx P Γ t h ty x i r as = some (d, h', as', φ)) (hp : AllP φ) : opSem P Γ t h (.indexAddr ty x i) = some (true, d, h') := by
  unfold symIx at hs
  split at hs
  case h_2 => simp at hs
  rename_i es k n e hx hi he
  split at hs
  case h_2 => simp at hs
  rename_i sz hsz
  simp only [Option.some.injEq, Prod.mk.injEq] at hs
  obtain ⟨rfl, rfl, _, rfl⟩ := hs
  obtain ⟨⟨p1, p2, p3⟩, _⟩ := hp
  have hu : P.underlying ty = some (.slice e) := by
    unfold elemT at he
    split at he
    · cases he; assumption
    · simp at he
  simp only [opSem, indexAddrD, hi, hu, hsz]
  unfold rowsP at hx
  split at hx
  · rename_i es' hx2
    cases hx
    rw [hx2]
    simp only [p1, p2, p3, decide_true, Bool.and_self, Option.map_some, keepB]
  · rename_i es' hx2
    cases hx
    rw [hx2]
    simp only [p1, p2, p3, decide_true, Bool.and_self, Option.map_some, keepB]
  · simp at hx

theorem symOp_ok (ok : POk P) {o : Op} {as as' : List Ans} {d : D} {h' : List Blk} {φ : List Prop} (hs : symOp P Γ t h o as = some (d, h', as', φ)) (hp : AllP φ) : OpOk P Γ t h o d h' := by
  unfold symOp at hs
  split at hs
  · split at hs
    · split at hs
      · rename_i hc
        simp only [Option.some.injEq, Prod.mk.injEq] at hs
        obtain ⟨rfl, rfl, _, rfl⟩ := hs
        exact OpOk.call (symCall_ok ok hc hp.1)
      · simp at hs
    · split at hs
      · rename_i hc
        simp only [Option.some.injEq, Prod.mk.injEq] at hs
        obtain ⟨rfl, rfl, _, rfl⟩ := hs
        exact OpOk.call (symCall_ok ok hc hp.1)
      · simp at hs
    · simp only [Option.some.injEq, Prod.mk.injEq] at hs
      obtain ⟨rfl, rfl, _, rfl⟩ := hs
      exact OpOk.call hp.1
    · simp only [Option.some.injEq, Prod.mk.injEq] at hs
      obtain ⟨rfl, rfl, _, rfl⟩ := hs
      exact OpOk.call hp.1
    · simp at hs
  · split at hs
    · exact OpOk.sem (symIx_ok hs hp)
    · exact OpOk.sem (symSem_ok hs hp)
  · exact OpOk.sem (symSem_ok hs hp)

theorem symOpQ_ok (ok : POk P) {o : Op} {as as' : List Ans} {d : D} {φ : List Prop} (hs : symOpQ P Γ t h o as = some (d, as', φ)) (hp : AllP φ) : OpOk P Γ t h o d h := by
  unfold symOpQ at hs
  split at hs
  · split at hs
    · split at hs
      · rename_i hc
        simp only [Option.some.injEq, Prod.mk.injEq] at hs
        obtain ⟨rfl, _, rfl⟩ := hs
        exact OpOk.call (symCall_ok ok hc hp.1)
      · simp at hs
    · simp only [Option.some.injEq, Prod.mk.injEq] at hs
      obtain ⟨rfl, _, rfl⟩ := hs
      exact OpOk.call hp.1
    · simp at hs
  · split at hs
    case h_2 => simp at hs
    rename_i hq
    split at hs
    case h_2 => simp at hs
    rename_i h1
    simp only [Option.some.injEq, Prod.mk.injEq] at hs
    obtain ⟨rfl, _, rfl⟩ := hs
    have h2 := symOp_ok ok h1 hp
    obtain ⟨call, hc, hr⟩ := h2
    refine ⟨call, hc, ?_⟩
    have hr' := hr
    unfold runOp at hr
    split at hr
    · simp [quietOp] at hq
    · split at hr
      · rename_i hop
        cases hr
        have := opSem_quiet hq hop
        rw [this] at hr'
        exact hr'
      · simp at hr
end

def stripD : D → D
  | .grd _ d => d
  | d => d

/-- The guard that is being assumed: its value, and what was put under it. -/
structure Cur where
  g : Nat × Bool
  x : Tmp
  b : Bool
  xs : List Tmp

def memT (x : Nat) : List Nat → Bool
  | [] => false
  | y :: ys => x == y || memT x ys
theorem memT_iff {x : Nat} : ∀ {ys : List Nat}, memT x ys = true ↔ x ∈ ys
  | [] => by simp [memT]
  | y :: ys => by simp [memT, memT_iff (ys := ys)]

def notGrd : D → Bool
  | .grd _ _ => false
  | _ => true

/-- Is all that is seen either plain, or put under the guard? -/
def seenOk (t : List D) (xs : List Tmp) : List Operand → Bool
  | [] => true
  | .tmp i :: os => (memT i xs || notGrd (t.getD i .any)) && seenOk t xs os
  | _ :: os => seenOk t xs os

def onB (b : Bool) : List Prop → List Prop
  | [] => []
  | p :: ps => (b = true → p) :: onB b ps

def gv (v want : Bool) : Bool := match want with
  | true => v
  | false => !v

def newCur (L : List Oper) (t : List D) (g : Nat × Bool) : Option Cur :=
  match (L[g.1]?).bind (·.dst) with
  | some x => match t.getD x .any with
    | .p (.v (.bool v)) => some ⟨g, x, gv v g.2, []⟩
    | _ => none
  | none => none

def sameG (a b : Nat × Bool) : Bool := (a.1 == b.1) && (match a.2, b.2 with | true, true => true | false, false => true | _, _ => false)

def curFor (L : List Oper) (t : List D) (cur : Option Cur) (g : Nat × Bool) : Option Cur :=
  match cur with
  | some c => match sameG c.g g with
    | true => some c
    | false => newCur L t g
  | none => newCur L t g

/-- Behind a plain operation. -/
def curKeep (cur : Option Cur) (dst : Option Tmp) : Option Cur :=
  match cur with
  | none => none
  | some c => match dst with
    | none => some c
    | some y => match (y == c.x) || memT y c.xs with
      | true => none
      | false => some c

/-- Behind an operation under the guard. -/
def curPut (c : Cur) (n : Nat) (dst : Option Tmp) : Option Cur :=
  match dst with
  | none => some c
  | some y => match (y == c.x) || memT y c.xs || !(decide (y < n)) with
    | true => none
    | false => some ⟨c.g, c.x, c.b, y :: c.xs⟩

/-- A pick between the guard's value and what was put under it. -/
def pickOk (cur : Option Cur) (t : List D) (o : Op) : Bool :=
  match cur, o with
  | some c, .pick (.tmp xc) a b => (xc == c.x) && (match c.g.2 with
    | true => (match a with
      | .tmp y => memT y c.xs
      | _ => false) && (match b with
      | .tmp y => notGrd (t.getD y .any)
      | _ => true)
    | false => (match b with
      | .tmp y => memT y c.xs
      | _ => false) && (match a with
      | .tmp y => notGrd (t.getD y .any)
      | _ => true))
  | _, _ => false

/-- 'and', 'or' by their names. -/
def andOr (t : List D) (o : Op) (d : D) : D :=
  match o with
  | .pick (.tmp xc) (.tmp y) (.const (.bool false)) => match t.getD xc .any, t.getD y .any with
    | .p (.v (.bool v)), .grd _ (.p (.v (.bool q))) => lit (.bool (v && q))
    | _, _ => d
  | .pick (.tmp xc) (.const (.bool true)) (.tmp y) => match t.getD xc .any, t.getD y .any with
    | .p (.v (.bool v)), .grd _ (.p (.v (.bool q))) => lit (.bool (v || q))
    | _, _ => d
  | _ => d

theorem andOr_eq {P : Program} {Γ : Glob} {t : List D} {h h' : List Blk} {o : Op} {ok : Bool} {d : D} (hs : opSem P Γ t h o = some (ok, d, h')) : andOr t o d = d := by
  unfold andOr
  split
  · split
    · rename_i h1 h2
      simp only [opSem, evalD, constD, h1, h2, pickD, Option.map_some, keepB, Option.some.injEq, Prod.mk.injEq] at hs
      rw [← hs.2.1]
      rename_i v g q
      cases v <;> rfl
    · rfl
  · split
    · rename_i h1 h2
      simp only [opSem, evalD, constD, h1, h2, pickD, Option.map_some, keepB, Option.some.injEq, Prod.mk.injEq] at hs
      rw [← hs.2.1]
      rename_i v g q
      cases v <;> rfl
    · rfl
  · rfl

def symStep (P : Program) (Γ : Glob) (m : List Nat) (L : List Oper) (c : Bool) (cur : Option Cur) (t : List D) (h : List Blk) (o : Oper) (as : List Ans) : Option (D × List Blk × Option Cur × List Ans × List Prop) :=
  match o.guard with
  | none => match pickOk cur t o.op with
    | true => match opSem P Γ t h o.op with
      | some (_, d, _) => some (andOr t o.op d, h, curKeep cur o.dst, as, [])
      | none => none
    | false => match c with
      | true => match symOpQ P Γ t h o.op as with
        | some (d, as, φ) => some (d, h, curKeep cur o.dst, as, φ)
        | none => none
      | false => match symOp P Γ t h o.op as with
        | some (d, h', as, φ) => match marksOk h' m with
          | true => some (d, h', curKeep cur o.dst, as, φ)
          | false => none
        | none => none
  | some g => match as with
    | .g v :: as => match guardD L t (some g) with
      | none => none
      | some b => match v with
        | false => some (lit undef, h, none, as, [b = false])
        | true => match c with
          | true => match symOpQ P Γ t h o.op as with
            | some (d, as, φ) => some (d, h, none, as, (b = true) :: φ)
            | none => none
          | false => match symOp P Γ t h o.op as with
            | some (d, h', as, φ) => match marksOk h' m with
              | true => some (d, h', none, as, (b = true) :: φ)
              | false => none
            | none => none
    | as => match curFor L t cur g with
      | none => none
      | some cu => match seenOk t cu.xs o.op.operands.toList with
        | false => none
        | true => match symOpQ P Γ (t.map stripD) h o.op as with
          | some (d, as, φ) => some (.grd cu.b d, h, curPut cu t.length o.dst, as, onB cu.b φ)
          | none => none

structure CurOk (L : List Oper) (t : List D) (c : Cur) : Prop where
  g : guardD L t (some c.g) = some c.b
  x : (L[c.g.1]?).bind (·.dst) = some c.x
  v : ∃ v, t.getD c.x .any = .p (.v (.bool v)) ∧ c.b = gv v c.g.2
  xs : ∀ y ∈ c.xs, ∃ d, t.getD y .any = .grd c.b d

section
variable {P : Program} {Γ : Glob} {t : List D} {h : List Blk} {m : List Nat} {L : List Oper}

theorem gv_eq (v w : Bool) : (v == w) = gv v w := by cases v <;> cases w <;> rfl

theorem newCur_ok {g : Nat × Bool} {c : Cur} (hn : newCur L t g = some c) : CurOk L t c ∧ c.g = g := by
  unfold newCur at hn
  split at hn
  · rename_i x hx
    split at hn
    · rename_i v hv
      cases hn
      refine ⟨⟨?_, hx, ⟨v, hv, rfl⟩, by simp⟩, rfl⟩
      unfold guardD
      simp only [hx, hv, gv_eq]
    · simp at hn
  · simp at hn

theorem sameG_eq {a b : Nat × Bool} (h : sameG a b = true) : a = b := by
  unfold sameG at h
  simp only [Bool.and_eq_true, beq_iff_eq] at h
  obtain ⟨a1, a2⟩ := a
  obtain ⟨b1, b2⟩ := b
  obtain ⟨h1, h2⟩ := h
  cases a2 <;> cases b2 <;> simp_all

theorem curFor_ok {cur : Option Cur} (hc : ∀ c, cur = some c → CurOk L t c) {g : Nat × Bool} {c : Cur} (hn : curFor L t cur g = some c) : CurOk L t c ∧ c.g = g := by
  unfold curFor at hn
  split at hn
  · rename_i c0
    split at hn
    · rename_i hs
      cases hn
      exact ⟨hc _ rfl, sameG_eq hs⟩
    · exact newCur_ok hn
  · exact newCur_ok hn

theorem CurOk.putD {c : Cur} (hc : CurOk L t c) {y : Tmp} {d : D} (hy : y ≠ c.x) (hxs : ∀ z ∈ c.xs, y ≠ z) : CurOk L (putD t (some y) d) c := by
  have hx : (Vi.putD t (some y) d).getD c.x .any = t.getD c.x .any := putD_ne (by simpa using hy)
  obtain ⟨v, hv, hb⟩ := hc.v
  refine ⟨?_, hc.x, ⟨v, by rw [hx]; exact hv, hb⟩, fun z hz => ?_⟩
  · have := hc.g
    unfold guardD at this ⊢
    simp only [hc.x] at this ⊢
    rw [hx]
    exact this
  · obtain ⟨d', hd'⟩ := hc.xs z hz
    exact ⟨d', by rw [putD_ne (by simpa using hxs z hz)]; exact hd'⟩

theorem curKeep_ok {cur : Option Cur} (hc : ∀ c, cur = some c → CurOk L t c) {dst : Option Tmp} {d : D} {c : Cur} (hn : curKeep cur dst = some c) : CurOk L (putD t dst d) c := by
  unfold curKeep at hn
  split at hn
  · simp at hn
  · rename_i c0
    split at hn
    · cases hn; exact hc _ rfl
    · rename_i y
      split at hn
      · simp at hn
      · rename_i hb
        cases hn
        simp only [Bool.or_eq_false_iff] at hb
        exact (hc _ rfl).putD (by simpa using hb.1) (fun z hz e => by
          subst e
          have := memT_iff.2 hz
          rw [this] at hb
          simp at hb)

theorem curPut_ok {c0 c : Cur} (hc : CurOk L t c0) {dst : Option Tmp} {d : D} (hn : curPut c0 t.length dst = some c) : CurOk L (putD t dst (.grd c0.b d)) c := by
  unfold curPut at hn
  split at hn
  · cases hn; exact hc
  · rename_i y
    split at hn
    · simp at hn
    · rename_i hb
      cases hn
      simp only [Bool.or_eq_false_iff, Bool.not_eq_false', decide_eq_true_eq] at hb
      have hno : ∀ z ∈ c0.xs, y ≠ z := fun z hz e => by
        subst e
        have := memT_iff.2 hz
        rw [this] at hb
        simp at hb
      have h1 := hc.putD (y := y) (d := .grd c0.b d) (by simpa using hb.1.1) hno
      refine ⟨h1.g, h1.x, h1.v, fun z hz => ?_⟩
      simp only [List.mem_cons] at hz
      rcases hz with rfl | hz
      · exact ⟨d, putD_eq hb.2⟩
      · exact h1.xs z hz

theorem onB_all {b : Bool} (hb : b = true) : ∀ {φ : List Prop}, AllP (onB b φ) → AllP φ
  | [], _ => trivial
  | _ :: _, h => ⟨h.1 hb, onB_all hb h.2⟩

theorem seenOk_fix {c : Cur} (hc : CurOk L t c) (hb : c.b = true) : ∀ {xs : List Operand}, seenOk t c.xs xs = true → ∀ i, .tmp i ∈ xs → fixD (t.getD i .any) = stripD (t.getD i .any)
  | [], _, i, hi => by simp at hi
  | x :: xs, h, i, hi => by
    have hrest : ∀ (_ : seenOk t c.xs xs = true), .tmp i ∈ xs → fixD (t.getD i .any) = stripD (t.getD i .any) := fun h hi => seenOk_fix hc hb h i hi
    cases x with
    | tmp j =>
      simp only [seenOk, Bool.and_eq_true, Bool.or_eq_true] at h
      simp only [List.mem_cons, Operand.tmp.injEq] at hi
      rcases hi with rfl | hi
      · rcases h.1 with h1 | h1
        · obtain ⟨d, hd⟩ := hc.xs i (memT_iff.1 h1)
          rw [hd, hb]
          rfl
        · generalize t.getD i .any = d at h1
          cases d <;> first | rfl | simp [notGrd] at h1
      · exact hrest h.2 hi
    | const v => exact hrest h (by simpa using hi)
    | global g => exact hrest h (by simpa using hi)
    | func f => exact hrest h (by simpa using hi)

theorem pickOk_flag {cur : Option Cur} (hc : ∀ c, cur = some c → CurOk L t c) {o : Op} (hp : pickOk cur t o = true) {ok : Bool} {d : D} {h' : List Blk} (hs : opSem P Γ t h o = some (ok, d, h')) : ok = true ∧ h' = h := by
  unfold pickOk at hp
  split at hp
  case h_2 => simp at hp
  rename_i c xc a b
  refine ⟨?_, opSem_quiet (o := .pick (.tmp xc) a b) rfl hs⟩
  have hco := hc _ rfl
  simp only [Bool.and_eq_true, beq_iff_eq] at hp
  obtain ⟨rfl, hp⟩ := hp
  obtain ⟨v, hv, hbv⟩ := hco.v
  simp only [opSem, evalD, Option.map_eq_some_iff, keepB, Prod.mk.injEq] at hs
  obtain ⟨⟨ok1, d1⟩, hpk, rfl, rfl, rfl⟩ := hs
  simp only [hv, pickD] at hpk
  show ok1 = true
  split at hp
  · rename_i hw
    simp only [Bool.and_eq_true] at hp
    obtain ⟨hp1, hp2⟩ := hp
    split at hp1
    case h_2 => simp at hp1
    rename_i y
    obtain ⟨da, hda⟩ := hco.xs y (memT_iff.1 hp1)
    simp only [hda] at hpk
    split at hpk
    · rename_i h1 _; cases h1
    · rename_i h1 _; cases h1
    · rename_i h1 _
      cases h1
      simp only [Option.some.injEq, Prod.mk.injEq] at hpk
      rw [← hpk.1, hbv, hw]
      cases v <;> rfl
    · simp only [Option.some.injEq, Prod.mk.injEq] at hpk
      exact hpk.1.symm
  · rename_i hw
    simp only [Bool.and_eq_true] at hp
    obtain ⟨hp1, hp2⟩ := hp
    split at hp1
    case h_2 => simp at hp1
    rename_i y
    obtain ⟨da, hda⟩ := hco.xs y (memT_iff.1 hp1)
    simp only [hda] at hpk
    split at hpk
    · rename_i h1; cases h1
    · rename_i h2 h1
      cases h1
      simp only [Option.some.injEq, Prod.mk.injEq] at hpk
      rw [← hpk.1, hbv, hw]
      cases v <;> rfl
    · rename_i h1; cases h1
    · simp only [Option.some.injEq, Prod.mk.injEq] at hpk
      exact hpk.1.symm

theorem symStep_ok (ok : POk P) {c : Bool} {cur cur' : Option Cur} (hc : ∀ c, cur = some c → CurOk L t c) {o : Oper} {as as' : List Ans} {d : D} {h' : List Blk} {φ : List Prop} (hm0 : marksOk h m = true) (hs : symStep P Γ m L c cur t h o as = some (d, h', cur', as', φ)) (hp : AllP φ) {K : D → List Blk → Prop} (hK : K d h') :
    StW P Γ m L t h o (fun d h' => (c = true → h' = h) ∧ K d h') ∧ marksOk h' m = true ∧ ∀ c, cur' = some c → CurOk L (putD t o.dst d) c := by
  unfold symStep at hs
  split at hs
  · rename_i hg0
    have hg : guardD L t o.guard = some true := by rw [hg0]; rfl
    split at hs
    · rename_i hpo
      split at hs
      case h_2 => simp at hs
      rename_i h1
      simp only [Option.some.injEq, Prod.mk.injEq] at hs
      obtain ⟨rfl, rfl, rfl, _, rfl⟩ := hs
      obtain ⟨e1, e2⟩ := pickOk_flag hc hpo h1
      rw [e1, e2] at h1
      rw [andOr_eq h1] at hK ⊢
      exact ⟨StW.on hg (OpOk.sem h1) hm0 ⟨fun _ => rfl, hK⟩, hm0, fun c => curKeep_ok hc⟩
    · split at hs
      · split at hs
        case h_2 => simp at hs
        rename_i h1
        simp only [Option.some.injEq, Prod.mk.injEq] at hs
        obtain ⟨rfl, rfl, rfl, _, rfl⟩ := hs
        exact ⟨StW.on hg (symOpQ_ok ok h1 hp) hm0 ⟨fun _ => rfl, hK⟩, hm0, fun c => curKeep_ok hc⟩
      · split at hs
        case h_2 => simp at hs
        rename_i h1
        split at hs
        case h_2 => simp at hs
        rename_i hm
        simp only [Option.some.injEq, Prod.mk.injEq] at hs
        obtain ⟨rfl, rfl, rfl, _, rfl⟩ := hs
        exact ⟨StW.on hg (symOp_ok ok h1 hp) hm ⟨fun h => by simp at h, hK⟩, hm, fun c => curKeep_ok hc⟩
  · rename_i g hg0
    split at hs
    · split at hs
      · simp at hs
      rename_i b hgb
      have hgb' : guardD L t o.guard = some b := by rw [hg0]; exact hgb
      split at hs
      · simp only [Option.some.injEq, Prod.mk.injEq] at hs
        obtain ⟨rfl, rfl, rfl, _, rfl⟩ := hs
        exact ⟨StW.off (by rw [hgb', hp.1]) ⟨fun _ => rfl, hK⟩, hm0, by simp⟩
      · split at hs
        · split at hs
          case h_2 => simp at hs
          rename_i h1
          simp only [Option.some.injEq, Prod.mk.injEq] at hs
          obtain ⟨rfl, rfl, rfl, _, rfl⟩ := hs
          exact ⟨StW.on (by rw [hgb', hp.1]) (symOpQ_ok ok h1 hp.2) hm0 ⟨fun _ => rfl, hK⟩, hm0, by simp⟩
        · split at hs
          case h_2 => simp at hs
          rename_i h1
          split at hs
          case h_2 => simp at hs
          rename_i hm
          simp only [Option.some.injEq, Prod.mk.injEq] at hs
          obtain ⟨rfl, rfl, rfl, _, rfl⟩ := hs
          exact ⟨StW.on (by rw [hgb', hp.1]) (symOp_ok ok h1 hp.2) hm ⟨fun h => by simp at h, hK⟩, hm, by simp⟩
    · split at hs
      · simp at hs
      rename_i cu hcu
      obtain ⟨hco, hcg⟩ := curFor_ok hc hcu
      split at hs
      · simp at hs
      rename_i hseen
      split at hs
      case h_2 => simp at hs
      rename_i h1
      simp only [Option.some.injEq, Prod.mk.injEq] at hs
      obtain ⟨rfl, rfl, rfl, _, rfl⟩ := hs
      refine ⟨StW.spec (b := cu.b) (by rw [hg0, ← hcg]; exact hco.g) (fun hb => ?_) hm0 ⟨fun _ => rfl, hK⟩, hm0, fun c => curPut_ok hco⟩
      refine (symOpQ_ok ok h1 (onB_all hb hp)).congr fun x hx => ?_
      cases x with
      | tmp i =>
        simp only [evalD]
        rw [getD_map rfl, getD_map rfl]
        exact (seenOk_fix hco hb hseen i (by simpa using hx)).symm
      | _ => rfl
end

def symOps (P : Program) (Γ : Glob) (m : List Nat) (L : List Oper) (c : Bool) : List Oper → Option Cur → List D → List Blk → List Ans → Option (List D × List Blk × List Ans × List Prop)
  | [], _, t, h, as => some (t, h, as, [])
  | o :: os, cur, t, h, as => match symStep P Γ m L c cur t h o as with
    | some (d, h', cur', as, φ) => match symOps P Γ m L c os cur' (putD t o.dst d) h' as with
      | some (t', h'', as, φ') => some (t', h'', as, φ ++ φ')
      | none => none
    | none => none

theorem symOps_ok {P : Program} {Γ : Glob} (ok : POk P) {m : List Nat} {L : List Oper} {c : Bool} {K : List D → List Blk → Prop} {t' : List D} {h' : List Blk} {as' : List Ans} (hK : K t' h') :
    ∀ (os : List Oper) (cur : Option Cur) (t : List D) (h : List Blk) (as : List Ans) (φ : List Prop), (∀ c, cur = some c → CurOk L t c) → marksOk h m = true → symOps P Γ m L c os cur t h as = some (t', h', as', φ) → AllP φ → RW P Γ m L c os t h K
  | [], cur, t, h, as, φ, _, _, hs, _ => by
    simp only [symOps, Option.some.injEq, Prod.mk.injEq] at hs
    obtain ⟨rfl, rfl, _, _⟩ := hs
    exact hK
  | o :: os, cur, t, h, as, φ, hc, hm, hs, hp => by
    simp only [symOps] at hs
    split at hs
    case h_2 => simp at hs
    rename_i d h1 cur1 as1 φ1 hst
    split at hs
    case h_2 => simp at hs
    rename_i t2 h2 as2 φ2 hrest
    simp only [Option.some.injEq, Prod.mk.injEq] at hs
    obtain ⟨rfl, rfl, _, rfl⟩ := hs
    obtain ⟨p1, p2⟩ := hp.append
    obtain ⟨_, hm1, hc1⟩ := symStep_ok (K := fun _ _ => True) ok hc hm hst p1 trivial
    exact (symStep_ok (K := fun d h' => RW P Γ m L c os (putD t o.dst d) h' K) ok hc hm hst p1 (symOps_ok ok hK os _ _ _ _ _ hc1 hm1 hrest p2)).1

/-- A piece of code leaves this. -/
def CW (P : Program) (Γ : Glob) (n : Nat) (rd : Bool) (c : Code) (s : AS) (e : Exit) (s' : AS) : Prop := ∀ X r, X.h.length = n → (rd = false → r = none) → VW P Γ X r c (Det e s') s

/-- Only these temporaries are told of. -/
def maskT (ks : List Nat) : Nat → List D → List D
  | _, [] => []
  | i, d :: ds => (match memT i ks with | true => d | false => .any) :: maskT ks (i + 1) ds

theorem maskT_wk (ks : List Nat) : ∀ (i : Nat) (t : List D), (maskT ks i t).length = t.length ∧ ∀ x, Wk (t.getD x .any) ((maskT ks i t).getD x .any)
  | _, [] => ⟨rfl, fun x => Wk.refl _⟩
  | i, d :: ds => by
    obtain ⟨h1, h2⟩ := maskT_wk ks (i + 1) ds
    refine ⟨by simp [maskT, h1], fun x => ?_⟩
    cases x with
    | zero =>
      simp only [maskT, List.getD_cons_zero]
      split
      · exact Wk.refl _
      · exact fun _ _ _ _ _ _ => by simp [Rel]
    | succ x => simpa [maskT] using h2 x

def maskS (ks : List Nat) (s : AS) : AS := { t := maskT ks 0 s.t, h := s.h, m := s.m }

theorem CW.pre {P : Program} {Γ : Glob} {n : Nat} {rd : Bool} {c : Code} {s s' : AS} {e : Exit} (ks : List Nat) (hw : CW P Γ n rd c (maskS ks s) e s') : CW P Γ n rd c s e s' := by
  intro X r hn hrd a w hs
  obtain ⟨k1, k2⟩ := maskT_wk ks 0 s.t
  exact hw X r hn hrd a w (hs.wk k1 k2)

def dstsOk (ops : List Oper) (n : Nat) : Bool := ops.all (fun o => match o.dst with | some x => decide (x < n) | none => true)

def symRegion (P : Program) (Γ : Glob) (m : List Nat) (ops : List Oper) (draw : Bool) (t : List D) (h : List Blk) (as : List Ans) : Option (List D × List Blk × List Ans × List Prop) :=
  match draw with
  | false => match marksOk h m with
    | true => symOps P Γ m ops false ops none t h as
    | false => none
  | true => match marksOk h m && drawOkB ops (befs ops []) && dstsOk ops t.length with
    | true => symOps P Γ m ops true ops none t h as
    | false => none

def symC (P : Program) (Γ : Glob) (n : Nat) (rd : Bool) : Code → AS → List Ans → Option (Exit × AS × List Ans × List Prop)
  | .skip, s, as => some (.normal, s, as, [])
  | .label _, s, as => some (.normal, s, as, [])
  | .ret, s, as => some (.ret, s, as, [])
  | .exit i, s, as => some (.exit i, s, as, [])
  | .goto i, s, as => some (.goto i, s, as, [])
  | .seq a b, s, as => match symC P Γ n rd a s as with
    | some (.normal, s', as, φ) => match symC P Γ n rd b s' as with
      | some (e, s'', as, φ') => some (e, s'', as, φ ++ φ')
      | none => none
    | r => r
  | .cond x a b, s, as => match as with
    | .csum e s' :: as => some (e, s', as, [CW P Γ n rd (.cond x a b) s e s'])
    | .b v :: as => match evalD Γ s.t x with
      | .p (.v (.bool b0)) => match v with
        | true => match symC P Γ n rd a s as with
          | some (e, s', as, φ) => some (e, s', as, (b0 = true) :: φ)
          | none => none
        | false => match symC P Γ n rd b s as with
          | some (e, s', as, φ) => some (e, s', as, (b0 = false) :: φ)
          | none => none
      | _ => none
    | _ => none
  | .block i b, s, as => match symC P Γ n rd b s as with
    | some (.exit j, s', as, φ) => if j = i then some (.normal, s', as, φ) else some (.exit j, s', as, φ)
    | r => r
  | .region id ops draw, s, as => match as with
    | .rsum e s' :: as => some (e, s', as, [CW P Γ n rd (.region id ops draw) s e s'])
    | as => match symRegion P Γ s.m ops.toList draw s.t s.h as with
      | some (t, h, as, φ) => some (.normal, { t := t, h := h, m := s.m }, as, φ)
      | none => none
  | .loop b, s, as => match as with
    | .sum ks e s' :: as => some (e, s', as, [CW P Γ n rd (.loop b) (maskS ks s) e s'])
    | _ => none
  | .rangeFunc g ps asg body, s, as => match as with
    | .sum ks e s' :: as => some (e, s', as, [CW P Γ n rd (.rangeFunc g ps asg body) (maskS ks s) e s'])
    | _ => none
  | _, _, _ => none

theorem symRegion_ok {P : Program} {Γ : Glob} (ok : POk P) {n : Nat} {rd : Bool} {id : Nat} {ops : Array Oper} {draw : Bool} {t t' : List D} {h h' : List Blk} {m : List Nat} {as as' : List Ans} {φ : List Prop}
    (hs : symRegion P Γ m ops.toList draw t h as = some (t', h', as', φ)) (hp : AllP φ) : CW P Γ n rd (.region id ops draw) { t := t, h := h, m := m } .normal { t := t', h := h', m := m } := by
  intro X r _ _
  unfold symRegion at hs
  split at hs
  · split at hs
    case h_2 => simp at hs
    rename_i hm
    exact VW.regionW (symOps_ok ok ⟨rfl, rfl⟩ _ _ _ _ _ _ (by simp) hm hs hp)
  · split at hs
    case h_2 => simp at hs
    rename_i hb
    simp only [Bool.and_eq_true] at hb
    exact VW.drawW ok hb.1.2 hb.2 (symOps_ok ok ⟨rfl, rfl⟩ _ _ _ _ _ _ (by simp) hb.1.1 hs hp)

theorem symC_ok {P : Program} {Γ : Glob} (ok : POk P) {n : Nat} {rd : Bool} : ∀ (c : Code) (s : AS) (as : List Ans) (e : Exit) (s' : AS) (as' : List Ans) (φ : List Prop), symC P Γ n rd c s as = some (e, s', as', φ) → AllP φ → CW P Γ n rd c s e s'
  | .skip, s, as, e, s', as', φ, hs, hp => by
    simp only [symC, Option.some.injEq, Prod.mk.injEq] at hs
    exact fun X r _ _ => VW.skip ⟨hs.1, hs.2.1⟩
  | .label _, s, as, e, s', as', φ, hs, hp => by
    simp only [symC, Option.some.injEq, Prod.mk.injEq] at hs
    exact fun X r _ _ => VW.label ⟨hs.1, hs.2.1⟩
  | .ret, s, as, e, s', as', φ, hs, hp => by
    simp only [symC, Option.some.injEq, Prod.mk.injEq] at hs
    exact fun X r _ _ => VW.ret ⟨hs.1, hs.2.1⟩
  | .exit i, s, as, e, s', as', φ, hs, hp => by
    simp only [symC, Option.some.injEq, Prod.mk.injEq] at hs
    exact fun X r _ _ => VW.exit ⟨hs.1, hs.2.1⟩
  | .goto i, s, as, e, s', as', φ, hs, hp => by
    simp only [symC, Option.some.injEq, Prod.mk.injEq] at hs
    exact fun X r _ _ => VW.goto ⟨hs.1, hs.2.1⟩
  | .seq a b, s, as, e, s', as', φ, hs, hp => by
    intro X r hn hrd
    simp only [symC] at hs
    refine VW.seq ?_
    split at hs
    · rename_i s1 as1 φ1 h1
      split at hs
      case h_2 => simp at hs
      rename_i e2 s2 as2 φ2 h2
      simp only [Option.some.injEq, Prod.mk.injEq] at hs
      obtain ⟨rfl, rfl, _, rfl⟩ := hs
      obtain ⟨p1, p2⟩ := hp.append
      refine (symC_ok ok a _ _ _ _ _ _ h1 p1 X r hn hrd).mono ?_
      rintro e' s'' ⟨rfl, rfl⟩
      exact symC_ok ok b _ _ _ _ _ _ h2 p2 X r hn hrd
    · rename_i hno
      refine (symC_ok ok a _ _ _ _ _ _ hs hp X r hn hrd).mono ?_
      rintro e' s'' ⟨rfl, rfl⟩
      cases e' with
      | normal => exact absurd hs (hno _ _ _)
      | _ => exact ⟨rfl, rfl⟩
  | .cond x a b, s, as, e, s', as', φ, hs, hp => by
    intro X r hn hrd
    simp only [symC] at hs
    split at hs
    · simp only [Option.some.injEq, Prod.mk.injEq] at hs
      obtain ⟨rfl, rfl, _, rfl⟩ := hs
      exact hp.1 X r hn hrd
    · split at hs
      case h_2 => simp at hs
      rename_i b0 hx
      split at hs
      · split at hs
        case h_2 => simp at hs
        rename_i h1
        simp only [Option.some.injEq, Prod.mk.injEq] at hs
        obtain ⟨rfl, rfl, _, rfl⟩ := hs
        exact VW.cond hx (fun _ => symC_ok ok a _ _ _ _ _ _ h1 hp.2 X r hn hrd) (fun h => by rw [hp.1] at h; cases h)
      · split at hs
        case h_2 => simp at hs
        rename_i h1
        simp only [Option.some.injEq, Prod.mk.injEq] at hs
        obtain ⟨rfl, rfl, _, rfl⟩ := hs
        exact VW.cond hx (fun h => by rw [hp.1] at h; cases h) (fun _ => symC_ok ok b _ _ _ _ _ _ h1 hp.2 X r hn hrd)
    · simp at hs
  | .block i b, s, as, e, s', as', φ, hs, hp => by
    intro X r hn hrd
    simp only [symC] at hs
    refine VW.block ?_
    split at hs
    · rename_i j s1 as1 φ1 h1
      split at hs <;> rename_i hj
      · simp only [Option.some.injEq, Prod.mk.injEq] at hs
        obtain ⟨rfl, rfl, _, rfl⟩ := hs
        refine (symC_ok ok b _ _ _ _ _ _ h1 hp X r hn hrd).mono ?_
        rintro e' s'' ⟨rfl, rfl⟩
        simp only [blockQ]
        rw [if_pos hj]; exact ⟨rfl, rfl⟩
      · simp only [Option.some.injEq, Prod.mk.injEq] at hs
        obtain ⟨rfl, rfl, _, rfl⟩ := hs
        refine (symC_ok ok b _ _ _ _ _ _ h1 hp X r hn hrd).mono ?_
        rintro e' s'' ⟨rfl, rfl⟩
        simp only [blockQ]
        rw [if_neg hj]; exact ⟨rfl, rfl⟩
    · rename_i hno
      refine (symC_ok ok b _ _ _ _ _ _ hs hp X r hn hrd).mono ?_
      rintro e' s'' ⟨rfl, rfl⟩
      cases e' with
      | exit j => exact absurd hs (hno _ _ _ _)
      | _ => exact ⟨rfl, rfl⟩
  | .region id ops draw, s, as, e, s', as', φ, hs, hp => by
    simp only [symC] at hs
    split at hs
    · simp only [Option.some.injEq, Prod.mk.injEq] at hs
      obtain ⟨rfl, rfl, _, rfl⟩ := hs
      exact hp.1
    · split at hs
      case h_2 => simp at hs
      rename_i h1
      simp only [Option.some.injEq, Prod.mk.injEq] at hs
      obtain ⟨rfl, rfl, _, rfl⟩ := hs
      exact symRegion_ok ok h1 hp
  | .loop b, s, as, e, s', as', φ, hs, hp => by
    simp only [symC] at hs
    split at hs
    · simp only [Option.some.injEq, Prod.mk.injEq] at hs
      obtain ⟨rfl, rfl, _, rfl⟩ := hs
      exact CW.pre _ hp.1
    · simp at hs
  | .rangeFunc g ps asg body, s, as, e, s', as', φ, hs, hp => by
    simp only [symC] at hs
    split at hs
    · simp only [Option.some.injEq, Prod.mk.injEq] at hs
      obtain ⟨rfl, rfl, _, rfl⟩ := hs
      exact CW.pre _ hp.1
    · simp at hs
  | .scope _, s, as, e, s', as', φ, hs, hp => by simp [symC] at hs
  | .refuse _, s, as, e, s', as', φ, hs, hp => by simp [symC] at hs

def symF (P : Program) (Γ : Glob) (f : FuncId) (args : List D) (h : List Blk) (as : List Ans) : Option (D × List Blk × List Prop) :=
  match P.funcs[f]? with
  | none => none
  | some fn => match fn.body with
    | none => none
    | some c => match symC P Γ h.length false c { t := entryT fn args, h := h, m := [] } as with
      | some (e, s, [], φ) => match e with
        | .normal | .ret => match marksOk s.h s.m && decide s.m.Nodup with
          | true => match resultsD P s.t (shut s.m s.h) fn.results.toList with
            | some ds => some (oneOrTup ds, shut s.m s.h, φ)
            | none => none
          | false => none
        | _ => none
      | _ => none

def okF (r : Option (D × List Blk × List Prop)) (d : D) (h' : List Blk) : Prop := match r with
  | some (d1, h1, φ) => d1 = d ∧ h1 = h' ∧ AllP φ
  | none => False

theorem Ev.sym {P : Program} {Γ : Glob} (ok : POk P) {f : FuncId} {args : List D} {h h' : List Blk} {d : D} (as : List Ans) (hs : okF (symF P Γ f args h as) d h') : Ev P Γ f args h d h' := by
  unfold okF at hs
  split at hs
  case h_2 => exact hs.elim
  rename_i d1 h1 φ hs1
  obtain ⟨rfl, rfl, hp⟩ := hs
  unfold symF at hs1
  split at hs1
  · simp at hs1
  rename_i fn hf
  split at hs1
  · simp at hs1
  rename_i c hb
  split at hs1
  case h_2 => simp at hs1
  rename_i e s φ' hc
  have key : ∀ (he : e = .normal ∨ e = .ret), (match marksOk s.h s.m && decide s.m.Nodup with
          | true => match resultsD P s.t (shut s.m s.h) fn.results.toList with
            | some ds => some (oneOrTup ds, shut s.m s.h, φ')
            | none => none
          | false => none) = some (d1, h1, φ) → Ev P Γ f args h d1 h1 := by
    intro he hk
    split at hk
    case h_2 => simp at hk
    rename_i hm
    simp only [Bool.and_eq_true, decide_eq_true_eq] at hm
    split at hk
    case h_2 => simp at hk
    rename_i ds hd
    simp only [Option.some.injEq, Prod.mk.injEq] at hk
    obtain ⟨rfl, rfl, rfl⟩ := hk
    refine VCall.of_body hf hb fun X hX => (symC_ok ok c _ _ _ _ _ _ hc hp X none (by rw [hX]) (fun _ => rfl)).mono ?_
    rintro e' s'' ⟨rfl, rfl⟩
    exact ⟨he, hm.1, hm.2, ds, hd, rfl, rfl⟩
  split at hs1
  · exact key (.inl rfl) hs1
  · exact key (.inr rfl) hs1
  · simp at hs1

theorem Ev.trim {P : Program} {Γ : Glob} {f : FuncId} {args : List D} {h h' : List Blk} {d : D} (hd : D.inn h.length d = true) (hh : (h'.take h.length).all (Blk.inn h.length) = true) (he : Ev P Γ f args h d h') : Ev P Γ f args h d (h'.take h.length) := by
  refine VCall.trim (VCall.mono he ?_)
  rintro d2 h2 ⟨rfl, rfl⟩
  unfold trimD
  simp [hd, hh]
end Go.Vi
namespace Go.Vi
open Go

section
variable {P : Program} {Γ : Glob}

theorem own_nil {l : Loc} {blk : Nat} : ¬ own l [] blk := by
  rintro ⟨b, x, cp, h, _⟩
  simp at h

theorem Ev.frame0 {f : FuncId} {args : List D} {d : D} (ha : D.innL 0 args = true) (he : Ev P Γ f args [] d []) (h : List Blk) : Ev P Γ f args h d h := by
  intro O w l vs R ra
  have hav : ∀ l' k, avs (avs O l h) l' [] k ↔ avs O l h k := fun l' k => ⟨fun ho => ho.elim id (fun h => absurd h own_nil), fun ho => .inl ho⟩
  have R0 : Rep Γ (avs O l h) w l [] := by
    refine ⟨fun blk ho => absurd ho own_nil, fun blk ho => ?_, fun b b' x x' k c c' hb => by simp at hb, fun b x hb => by simp at hb, fun g cs hg => ?_⟩
    · rcases ho with ho | ho
      · exact R.obd blk ho
      · exact (R.inb blk ho).1
    · exact relCells_take (fun k hk => (hav l k).1 hk) (R.glo g cs hg)
  have ra0 : RelL w (avs (avs O l h) l []) l [] args vs := relL_take (h := h) (n := 0) (fun k hk => (hav l k).1 hk) ha ra
  refine CallsIn.mono (he (avs O l h) w l vs R0 ra0) ?_
  rintro e w' ⟨v, d2, h2, l', rfl, ⟨rfl, rfl⟩, R', E', rd⟩
  have E : Ext w l h w' l h := ⟨E'.size, fun blk hb _ => E'.same blk hb own_nil, fun blk ho => .inl ho, fun b x hx => ⟨x, hx, x.le_refl, fun _ => rfl⟩, E'.tape⟩
  refine ⟨v, d2, h, l, rfl, ⟨rfl, rfl⟩, ⟨fun blk ho => ⟨Nat.lt_of_lt_of_le (R.inb blk ho).1 E'.size, (R.inb blk ho).2⟩, fun blk ho => Nat.lt_of_lt_of_le (R.obd blk ho) E'.size, R.inj, fun b x hx => ?_, fun g cs hg => ?_⟩, E, ?_⟩
  · by_cases hg : x = .gone
    · subst hg; trivial
    exact BlkOk.ext E rfl (fun blk cp hl => E'.same blk (R.inb blk ⟨b, x, cp, hx, hg, hl⟩).1 own_nil) (R.blk b x hx)
  · exact RelCells.mono E.hc g 0 cs (R.glo g cs hg)
  · exact Rel.mono (fun blk off y hn hc => ⟨hc, fun ho => hn ((hav l' blk).2 ho)⟩) (fun b x hb => by simp at hb) d2 v rd

/-- A run's outcome where it begins with no heap. -/
def out0 (r : Option (D × List Blk × List Prop)) : Option (D × List Prop) := match r with
  | some (d, _, φ) => some (d, φ)
  | none => none

def outF (r : Option (D × List Blk × List Prop)) : Option (D × List Blk × List Prop) := match r with
  | some (d, h, φ) => some (d, h, φ)
  | none => none

theorem Ev.of_sym' (ok : POk P) {f : FuncId} {args : List D} {h h' : List Blk} {d : D} {φ : List Prop} (as : List Ans) (hs : symF P Γ f args h as = some (d, h', φ)) (hp : AllP φ) : Ev P Γ f args h d h' :=
  Ev.sym ok as (by rw [hs]; exact ⟨rfl, rfl, hp⟩)

theorem Ev.of_sym (ok : POk P) {f : FuncId} {args : List D} {h h' : List Blk} {d : D} {φ : List Prop} (as : List Ans) (hs : outF (symF P Γ f args h as) = some (d, h', φ)) (hp : AllP φ) : Ev P Γ f args h d h' := by
  refine Ev.of_sym' ok as ?_ hp
  unfold outF at hs
  split at hs
  · rename_i h1
    rw [h1]
    exact hs
  · simp at hs

theorem Ev.sym0 (ok : POk P) {f : FuncId} {args : List D} {d : D} {φ : List Prop} (as : List Ans) (hs : out0 (symF P Γ f args [] as) = some (d, φ)) (hp : AllP φ) (ha : D.innL 0 args = true) (hd : D.inn 0 d = true) (h : List Blk) : Ev P Γ f args h d h := by
  refine Ev.frame0 ha ?_ h
  unfold out0 at hs
  split at hs
  case h_2 => simp at hs
  rename_i d1 h1 φ1 hr
  simp only [Option.some.injEq, Prod.mk.injEq] at hs
  obtain ⟨rfl, rfl⟩ := hs
  have := Ev.trim (h := []) hd rfl (Ev.of_sym' ok as hr hp)
  simpa using this

/-- A run's outcome, trimmed. -/
def outT (n : Nat) (r : Option (D × List Blk × List Prop)) : Option (D × List Blk × List Prop) := match r with
  | some (d, h, φ) => match D.inn n d && (h.take n).all (Blk.inn n) with
    | true => some (d, h.take n, φ)
    | false => none
  | none => none

theorem Ev.symT (ok : POk P) {f : FuncId} {args : List D} {h h' : List Blk} {d : D} {φ : List Prop} (as : List Ans) (hs : outT h.length (symF P Γ f args h as) = some (d, h', φ)) (hp : AllP φ) : Ev P Γ f args h d h' := by
  unfold outT at hs
  split at hs
  case h_2 => simp at hs
  rename_i d1 h1 φ1 hr
  split at hs
  case h_2 => simp at hs
  rename_i hb
  simp only [Bool.and_eq_true] at hb
  simp only [Option.some.injEq, Prod.mk.injEq] at hs
  obtain ⟨rfl, rfl, rfl⟩ := hs
  exact Ev.trim hb.1 hb.2 (Ev.of_sym' ok as hr hp)

theorem Iv.of (ok : POk P) {x : D} {args : List D} {h h' : List Blk} {d : D} {f : FuncId} {fi ca : List D} (hx : calleeD x = some (f, fi, ca)) (hf : funOk P f = true) (he : Ev P Γ f (fi ++ args ++ ca) h d h') : Iv P Γ x args h d h' := VInv.of_call ok hx hf he

/-- A list of temporaries with these told of. -/
def mkT : Nat → Nat → List (Nat × D) → List D
  | 0, _, _ => []
  | n + 1, i, [] => .any :: mkT n (i + 1) []
  | n + 1, i, (k, d) :: ds => match i == k with
    | true => d :: mkT n (i + 1) ds
    | false => .any :: mkT n (i + 1) ((k, d) :: ds)

theorem CW.mask {n : Nat} {rd : Bool} {c : Code} {s s' : AS} {e : Exit} (ks : List Nat) (hw : CW P Γ n rd c s e s') : CW P Γ n rd c s e (maskS ks s') := by
  intro X r hn hrd a w hs
  refine wpIn_mono (hw X r hn hrd a w hs) ?_
  rintro e' a' w' ⟨h1, h2, s2, ⟨rfl, rfl⟩, h4⟩
  obtain ⟨k1, k2⟩ := maskT_wk ks 0 s2.t
  exact ⟨h1, h2, _, ⟨rfl, rfl⟩, h4.wk k1 k2⟩

theorem DefOk.take {l : Loc} {h : List Blk} {k : Nat} : ∀ {bs : List Nat} {ds : List Deferred}, (bs.all fun b => decide (b < k)) = true → DefOk l h bs ds → DefOk l (h.take k) bs ds
  | [], [], _, _ => trivial
  | b :: bs, d :: ds, hb, r => by
    simp only [DefOk, List.all_cons, Bool.and_eq_true, decide_eq_true_eq] at r hb ⊢
    obtain ⟨⟨blk, cp, h1, h2, h3⟩, h4⟩ := r
    exact ⟨⟨blk, cp, by rw [take_get hb.1]; exact h1, h2, h3⟩, DefOk.take (by simpa using hb.2) h4⟩
  | [], _ :: _, _, r => by simp [DefOk] at r
  | _ :: _, [], _, r => by simp [DefOk] at r

theorem Ext.takeN {w0 w : World} {l0 l : Loc} {h0 h : List Blk} {k : Nat} (hk : h0.length ≤ k) (E : Ext w0 l0 h0 w l h) : Ext w0 l0 h0 w l (h.take k) where
  size := E.size
  same := E.same
  news blk ho := E.news blk (own_take ho)
  keep b x hb := by
    have : b < h0.length := by
      rw [List.getElem?_eq_some_iff] at hb
      exact hb.1
    rw [take_get (by omega)]
    exact E.keep b x hb
  tape := E.tape

/-- What nothing points to any more is dropped. -/
def trimS (k : Nat) (s : AS) : Option AS := match D.innL k s.t && (s.h.take k).all (Blk.inn k) && s.m.all (fun b => decide (b < k)) with
  | true => some { t := s.t, h := s.h.take k, m := s.m }
  | false => none

theorem CW.trim {n : Nat} {rd : Bool} {c : Code} {s s' s'' : AS} {e : Exit} {k : Nat} (hk : n ≤ k) (ht : trimS k s' = some s'') (hw : CW P Γ n rd c s e s') : CW P Γ n rd c s e s'' := by
  unfold trimS at ht
  split at ht
  case h_2 => simp at ht
  rename_i hb
  simp only [Bool.and_eq_true] at hb
  cases ht
  intro X r hn hrd a w hs
  refine wpIn_mono (hw X r hn hrd a w hs) ?_
  rintro e' a' w' ⟨h1, h2, s2, ⟨rfl, rfl⟩, l, R, E, rt, rd'⟩
  exact ⟨h1, h2, _, ⟨rfl, rfl⟩, l, R.take hb.1.2, E.takeN (by omega), relL_take (fun _ => avs_take) hb.1.1 rt, rd'.take hb.2⟩

def outC (ks : List Nat) (r : Option (Exit × AS × List Ans × List Prop)) : Option (Exit × AS × List Prop) := match r with
  | some (e, s, [], φ) => some (e, maskS ks s, φ)
  | _ => none

theorem CW.sym (ok : POk P) {n : Nat} {rd : Bool} {c : Code} {s s' : AS} {e : Exit} {φ : List Prop} (ks : List Nat) (as : List Ans) (hs : outC ks (symC P Γ n rd c s as) = some (e, s', φ)) (hp : AllP φ) : CW P Γ n rd c s e s' := by
  unfold outC at hs
  split at hs
  case h_2 => simp at hs
  rename_i e1 s1 φ1 hr
  simp only [Option.some.injEq, Prod.mk.injEq] at hs
  obtain ⟨rfl, rfl, rfl⟩ := hs
  exact CW.mask ks (symC_ok ok c _ _ _ _ _ _ hr hp)

def outCT (ks : List Nat) (k : Nat) (r : Option (Exit × AS × List Ans × List Prop)) : Option (Exit × AS × List Prop) := match r with
  | some (e, s, [], φ) => match trimS k (maskS ks s) with
    | some s => some (e, s, φ)
    | none => none
  | _ => none

theorem CW.symT (ok : POk P) {n : Nat} {rd : Bool} {c : Code} {s s' : AS} {e : Exit} {φ : List Prop} (ks : List Nat) (k : Nat) (hk : n ≤ k) (as : List Ans) (hs : outCT ks k (symC P Γ n rd c s as) = some (e, s', φ)) (hp : AllP φ) : CW P Γ n rd c s e s' := by
  unfold outCT at hs
  split at hs
  case h_2 => simp at hs
  rename_i e1 s1 φ1 hr
  split at hs
  case h_2 => simp at hs
  rename_i s2 ht
  simp only [Option.some.injEq, Prod.mk.injEq] at hs
  obtain ⟨rfl, rfl, rfl⟩ := hs
  exact CW.trim hk ht (CW.mask ks (symC_ok ok c _ _ _ _ _ _ hr hp))

/-- A loop: its states, what it leaves from each, a measure. -/
theorem CW.loop {n : Nat} {rd : Bool} {c : Code} {ι : Type} (st : ι → AS) (fin : ι → Exit × AS) (μ : ι → Nat)
    (round : ∀ i, (∃ j, μ j < μ i ∧ fin j = fin i ∧ CW P Γ n rd c (st i) .normal (st j)) ∨ ((fin i).1 ≠ .normal ∧ CW P Γ n rd c (st i) (fin i).1 (fin i).2)) (i0 : ι) : CW P Γ n rd (.loop c) (st i0) (fin i0).1 (fin i0).2 := by
  intro X r hn hrd
  refine VW.loop (fun i s => s = st i ∧ fin i = fin i0) μ i0 ⟨rfl, rfl⟩ ?_
  rintro i s ⟨rfl, hi⟩
  rcases round i with ⟨j, h1, h2, h3⟩ | ⟨h1, h2⟩
  · refine (h3 X r hn hrd).mono ?_
    rintro e s ⟨rfl, rfl⟩
    exact ⟨j, ⟨rfl, h2.trans hi⟩, h1⟩
  · refine (h2 X r hn hrd).mono ?_
    rintro e s ⟨rfl, rfl⟩
    rw [hi] at h1 ⊢
    generalize (fin i0).1 = e at h1
    cases e with
    | normal => exact absurd rfl h1
    | _ => exact ⟨rfl, rfl⟩

/-- A loop that goes round n times. -/
theorem CW.loopN {n0 : Nat} {rd : Bool} {c : Code} (n : Nat) (st : Nat → AS) {e : Exit} {s' : AS} (he : e ≠ .normal) (hs : ∀ i, i < n → CW P Γ n0 rd c (st i) .normal (st (i + 1))) (hl : CW P Γ n0 rd c (st n) e s') : CW P Γ n0 rd (.loop c) (st 0) e s' := by
  refine CW.loop (ι := { i : Nat // i ≤ n }) (fun i => st i.1) (fun _ => (e, s')) (fun i => n - i.1) ?_ ⟨0, Nat.zero_le _⟩
  rintro ⟨i, hi⟩
  by_cases h : i < n
  · exact .inl ⟨⟨i + 1, by omega⟩, by simp only; omega, rfl, hs i h⟩
  · have : i = n := by omega
    subst this
    exact .inr ⟨he, hl⟩

/-- The loops of a body, outer ones first. -/
def subs : Code → List Code
  | .seq a b => subs a ++ subs b
  | .cond _ a b => subs a ++ subs b
  | .block _ b => subs b
  | .loop b => b :: subs b
  | .rangeFunc g ps a b => .rangeFunc g ps a b :: (subs a ++ subs b)
  | _ => []
def sub (fn : Func) (k : Nat) : Code := match fn.body with
  | some c => (subs c).getD k .skip
  | none => .skip

theorem wrap_i64 {n : Int} (h1 : -9223372036854775808 ≤ n) (h2 : n ≤ 9223372036854775807) : IntKind.i64.wrap n = n := by
  rw [IntKind.wrap_i64]
  omega
end
end Go.Vi
namespace Go.Vi
open Go

/-- What a type's cells look like as pure data. -/
def Shp (P : Program) : Nat → TypeId → List Dp → Prop
  | 0, _, _ => False
  | n + 1, t, ds => match P.underlying t with
    | some .bool => ∃ b, ds = [.v (.bool b)]
    | some (.int k) => ∃ x, ds = [.v (.int k x)] ∧ (Lit.int k x).wf = true
    | some .string => ∃ s, ds = [.v (.string s)] ∧ s.size ≤ maxLen
    | some (.slice e) => ∃ es, ds = [.sl es] ∧ es.length * P.bytesOf e ≤ reachBytes ∧ ∀ r ∈ es, Shp P n e r
    | some (.struct fs) => ds.length = P.cellsOf t ∧ ∀ f ∈ fs.toList, Shp P n f.type ((ds.drop f.offset).take (P.cellsOf f.type))
    | _ => False

/-- The types that are read so: closed under their parts, laid out part behind part. -/
def contigB (P : Program) : List Field → Nat → Nat → Bool
  | [], acc, total => acc == total
  | f :: fs, acc, total => (f.offset == acc) && contigB P fs (acc + P.cellsOf f.type) total

def plainB (P : Program) (ts : List TypeId) : Bool := ts.all fun t => match P.underlying t with
  | some .bool | some (.int _) | some .string => true
  | some (.slice e) => ts.contains e && decide (0 < P.cellsOf e)
  | some (.struct fs) => contigB P fs.toList 0 (P.cellsOf t) && fs.toList.all fun f => ts.contains f.type
  | _ => false

def RelPL (w : World) (av : Nat → Prop) : List Dp → List Value → Prop
  | [], [] => True
  | d :: ds, y :: ys => RelP w av d y ∧ RelPL w av ds ys
  | _, _ => False

section
variable {w : World} {av : Nat → Prop}

theorem RelPL.length : ∀ {ds : List Dp} {ys : List Value}, RelPL w av ds ys → ds.length = ys.length
  | [], [], _ => rfl
  | _ :: _, _ :: _, h => by simp [RelPL.length h.2]
  | [], _ :: _, h => h.elim
  | _ :: _, [], h => h.elim
theorem RelPL.append : ∀ {ds ds' : List Dp} {ys ys' : List Value}, RelPL w av ds ys → RelPL w av ds' ys' → RelPL w av (ds ++ ds') (ys ++ ys')
  | [], _, [], _, _, h => h
  | _ :: _, _, _ :: _, _, h, h' => ⟨h.1, RelPL.append h.2 h'⟩
  | [], _, _ :: _, _, h, _ => h.elim
  | _ :: _, _, [], _, h, _ => h.elim
theorem RelPL.relL {l : Loc} {h : List Blk} : ∀ {ds : List Dp} {ys : List Value}, RelPL w av ds ys → RelL w av l h (ds.map .p) ys
  | [], [], _ => by simp [RelL]
  | _ :: _, _ :: _, r => by simp only [List.map_cons, RelL, Rel]; exact ⟨r.1, RelPL.relL r.2⟩
  | [], _ :: _, h => h.elim
  | _ :: _, [], h => h.elim

theorem contig_le {P : Program} : ∀ {fs : List Field} {acc total : Nat}, contigB P fs acc total = true → acc ≤ total ∧ ∀ f ∈ fs, acc ≤ f.offset
  | [], acc, total, h => by simp only [contigB, beq_iff_eq] at h; exact ⟨by omega, by simp⟩
  | f :: fs, acc, total, h => by
    simp only [contigB, Bool.and_eq_true, beq_iff_eq] at h
    obtain ⟨h1, h2⟩ := contig_le h.2
    refine ⟨by omega, fun g hg => ?_⟩
    rcases List.mem_cons.1 hg with rfl | hg
    · omega
    · have := h2 g hg; omega

theorem contig_join {P : Program} {cs : List Value} {S : TypeId → List Dp → Prop} {total : Nat} (hc : cs.length = total) : ∀ (fs : List Field) (acc : Nat), contigB P fs acc total = true →
    (∀ f ∈ fs, ∃ ds, S f.type ds ∧ RelPL w av ds ((cs.drop f.offset).take (P.cellsOf f.type))) →
    ∃ D, RelPL w av D (cs.drop acc) ∧ ∀ f ∈ fs, S f.type ((D.drop (f.offset - acc)).take (P.cellsOf f.type))
  | [], acc, h, _ => by
    simp only [contigB, beq_iff_eq] at h
    refine ⟨[], ?_, by simp⟩
    rw [List.drop_of_length_le (by omega)]
    trivial
  | f :: fs, acc, h, hf => by
    simp only [contigB, Bool.and_eq_true, beq_iff_eq] at h
    obtain ⟨rfl, h⟩ := h
    obtain ⟨ds, hs, hr⟩ := hf f (List.mem_cons_self ..)
    obtain ⟨D, hD, hS⟩ := contig_join hc fs _ h (fun g hg => hf g (List.mem_cons_of_mem _ hg))
    obtain ⟨hle, hoff⟩ := contig_le h
    have hlen : ds.length = P.cellsOf f.type := by
      have := hr.length
      rw [this, List.length_take, List.length_drop]
      omega
    refine ⟨ds ++ D, ?_, fun g hg => ?_⟩
    · have := hr.append hD
      rw [← List.drop_drop, List.take_append_drop] at this
      exact this
    · rcases List.mem_cons.1 hg with rfl | hg
      · rw [Nat.sub_self, List.drop_zero, List.take_append_of_le_length (by omega), ← hlen, List.take_length]
        exact hs
      · have h1 := hoff g hg
        have hd : ∀ k, (ds ++ D).drop (ds.length + k) = D.drop k := fun k => by rw [List.drop_append]; simp
        rw [show g.offset - f.offset = ds.length + (g.offset - (f.offset + P.cellsOf f.type)) by omega, hd]
        exact hS g hg

theorem relRows_of {blk c : Nat} : ∀ (es : List (List Dp)) (off : Nat), (∀ i e, es[i]? = some e → e.length = c ∧ RelCells w av blk (off + i * c) e) → RelRows w av blk c off es
  | [], _, _ => trivial
  | e :: es, off, h => by
    obtain ⟨h1, h2⟩ := h 0 e rfl
    refine ⟨h1, by simpa using h2, relRows_of es (off + c) fun i e' he => ?_⟩
    obtain ⟨h3, h4⟩ := h (i + 1) e' (by simpa using he)
    refine ⟨h3, ?_⟩
    rw [show off + c + i * c = off + (i + 1) * c by rw [Nat.add_mul]; omega]
    exact h4

theorem relCells_of (hav : ∀ k, ¬ av k) {blk : Nat} : ∀ (ds : List Dp) (ys : List Value) (off : Nat), RelPL w av ds ys → (∀ (j : Nat) (y : Value), ys[j]? = some y → w.cell? ⟨blk, off + j, none⟩ = some y) → RelCells w av blk off ds
  | [], _, _, _, _ => trivial
  | d :: ds, [], _, r, _ => r.elim
  | d :: ds, y :: ys, off, r, hc => by
    refine ⟨⟨hav _, y, by simpa using hc 0 y rfl, r.1⟩, relCells_of hav ds ys (off + 1) r.2 fun j z hz => ?_⟩
    have := hc (j + 1) z (by simpa using hz)
    rwa [show off + (j + 1) = off + 1 + j by omega] at this

theorem cells_at {a : Addr} {n : Nat} {cs : List Value} (h : w.cells? 0 a n = some cs) : cs.length = n ∧ ∀ (j : Nat) (y : Value), cs[j]? = some y → w.cell? (a.add j) = some y := by
  obtain ⟨h1, h2, h3⟩ := World.cells?_some h
  refine ⟨h2, fun j y hy => ?_⟩
  have hj : j < n := by rw [← h2]; exact (List.getElem?_eq_some_iff.1 hy).1
  rw [h3 j hj, hy]

theorem weightsAll_mem {H : Type} {P : Program} {e : TypeId} {q : Nat → Bool} : ∀ {l : List (DataW H)}, (DataW.weightsAll P e l).all q = true → ∀ d ∈ l, (d.weights P e).all q = true
  | [], _, d, hd => by simp at hd
  | x :: l, h, d, hd => by
    simp only [DataW.weightsAll, List.all_append, Bool.and_eq_true] at h
    rcases List.mem_cons.1 hd with rfl | hd
    · exact h.1
    · exact weightsAll_mem h.2 d hd
theorem weightsEach_at {H : Type} {P : Program} {q : Nat → Bool} : ∀ {ts : List TypeId} {l : List (DataW H)}, (DataW.weightsEach P ts l).all q = true → ∀ (i : Nat) (t : TypeId) (d : DataW H), ts[i]? = some t → l[i]? = some d → (d.weights P t).all q = true
  | [], _, _, i, t, d, ht, _ => by simp at ht
  | _ :: _, [], _, i, t, d, _, hd => by simp at hd
  | t0 :: ts, x :: l, h, i, t, d, ht, hd => by
    simp only [DataW.weightsEach, List.all_append, Bool.and_eq_true] at h
    cases i with
    | zero => simp at ht hd; subst ht; subst hd; exact h.1
    | succ i => exact weightsEach_at h.2 i t d (by simpa using ht) (by simpa using hd)
end
end Go.Vi
