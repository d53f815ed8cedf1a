/- StandingNames: part of the proof: an evaluator of the model's programs on abstract values, and its soundness. No conditions beyond the given statement's own. -/
import Derived.Test.YtilebidefogaiaaGreatDoorV4
namespace Go.Vi
open Go
section
variable {P : Program} {Γ : Glob} {call : CallF} {m : List Nat} {L : List Oper} {ord lt : List Nat} {t0 tF : List D} {h0 : List Blk} {hs : List (List Blk)} {ts : List (List D)}

theorem ord_of (h : fxStatic L (befs L []) ord lt = true) : Ord L ord := by
  unfold fxStatic at h
  simp only [Bool.and_eq_true, decide_eq_true_eq] at h
  obtain ⟨⟨h1, h2⟩, h3⟩ := h
  refine ⟨h1, fun i o ho => ?_, fun q i hq => ?_⟩
  · have := zip_all h3 ho
    simp only [Bool.and_eq_true, decide_eq_true_eq, beq_iff_eq] at this
    exact this.1.1.1
  · have := List.all_eq_true.1 h2 (i, q) (by rw [List.mk_mem_zipIdx_iff_getElem?]; exact hq)
    simpa using this

theorem cand_mem (_hO : Ord L ord) {k : Nat} (hk : Cand L (posOf ord) k) : k ∈ candsAt L ord := by
  unfold candsAt
  rcases hk with rfl | ⟨c, o, ho, hq, rfl⟩
  · exact List.mem_cons_self ..
  · exact List.mem_cons_of_mem _ (List.mem_map.2 ⟨c, mem_chains ho hq, rfl⟩)

theorem fx_of (hs0 : fxStatic L (befs L []) ord lt = true) (hr : runR P Γ m L Eq (· = id) (opsOf L ord) t0 h0 tF hs ts) (hi : innB L ord lt hs = true) (hq : quiet5B P Γ L (befs L []) ord lt tF hs ts = true) :
    Fx P Γ L (befs L []) (posOf ord) (fun i => lt.contains i) m t0 tF hs ts ∧ hs.getD 0 [] = h0 ∧ ∀ x, (∀ o ∈ L, o.dst ≠ some x) → tF.getD x .any = t0.getD x .any := by
  have hO := ord_of hs0
  have hst := hs0
  unfold fxStatic at hst
  simp only [Bool.and_eq_true] at hst
  have hall := hst.2
  have fact := fun {i : Nat} {o : Oper} (ho : L[i]? = some o) => zip_all hall ho
  simp only [Bool.and_eq_true] at fact
  have edge : ∀ (i : Nat) (o : Oper), L[i]? = some o → ∀ e ∈ o.after.toList, Region.binds .any e = true → e.on < i := by
    intro i o ho e he hb
    have := List.all_eq_true.1 (fact ho).1.1.2.1 e he
    simpa [hb] using this
  have uniq : ∀ (i j : Nat) (o o' : Oper) (x : Tmp), L[i]? = some o → L[j]? = some o' → o.dst = some x → o'.dst = some x → i = j := by
    intro i j o o' x ho ho' hd hd'
    have := zip_all (fact ho).1.2.1 ho'
    simp only [Bool.and_eq_true] at this
    have := this.1
    simpa [hd, hd'] using this
  obtain ⟨g1, g2, g3, g4, g5⟩ := runR_at _ _ _ _ _ _ hr
  have inj : ∀ (i j : Nat) (o o' : Oper), L[i]? = some o → L[j]? = some o' → posOf ord i = posOf ord j → i = j := by
    intro i j o o' hi' hj he
    have h1 := (hO.at' i o hi').2
    have h2 := (hO.at' j o' hj).2
    rw [he, h2] at h1
    simpa using h1.symm
  have posB : ∀ (i : Nat) (o : Oper) (j : Nat), L[i]? = some o → ((befs L []).getD i 0).testBit j = true → posOf ord j < posOf ord i := by
    intro i o j ho hb
    have hcl : Closed L (fun x => x ≤ i) := fun k o' hk ho' e he hbe => by
      have := edge k o' ho' e he hbe
      show e.on ≤ i
      omega
    have h1 : j ≤ i := befs_all hcl (k := i) (Nat.le_refl i) j hb
    have := List.all_eq_true.1 (fact ho).1.1.2.2 j (by simp; omega)
    rw [hb] at this
    simpa using this
  have hlen : (opsOf L ord).length = L.length := by unfold opsOf; rw [List.length_map, hO.len]
  have hatP : ∀ (i : Nat) (o : Oper), L[i]? = some o → ∃ call, CallF.Ok P Γ call ∧ ∃ d, stepD P Γ call m L (ts.getD (posOf ord i) []) (hs.getD (posOf ord i) []) o = some (d, hs.getD (posOf ord i + 1) []) ∧
      (∀ x, (∀ (j : Nat) (o' : Oper), L[j]? = some o' → posOf ord i ≤ posOf ord j → o'.dst ≠ some x) → tF.getD x .any = (ts.getD (posOf ord i) []).getD x .any) ∧
      (∀ x, (∀ (j : Nat) (o' : Oper), L[j]? = some o' → posOf ord j < posOf ord i → o'.dst ≠ some x) → (ts.getD (posOf ord i) []).getD x .any = t0.getD x .any) ∧
      (∀ x, o.dst = some x → x < tF.length → tF.getD x .any = d) := by
    intro i o ho
    obtain ⟨call, hco, f, d', d, ⟨hf, k1, rfl⟩, k2, k3, k4⟩ := g5 (posOf ord i) o (ord_ops hO ho)
    rw [hf, List.map_id] at k1
    refine ⟨call, hco, d', k1, fun x hx => k2 x fun q o' hle hq' => ?_, fun x hx => k3 x fun q o' hle hq' => ?_, fun x hx hlt => k4 x hx (fun q o' hlt' hq' => ?_) (by rw [← g1]; exact hlt)⟩
    · obtain ⟨j, hj, rfl⟩ := ops_ord hO hq'
      exact hx j o' hj hle
    · obtain ⟨j, hj, rfl⟩ := ops_ord hO hq'
      exact hx j o' hj hle
    · obtain ⟨j, hj, rfl⟩ := ops_ord hO hq'
      intro hd
      have := uniq j i o' o x hj ho hd hx
      subst this
      omega
  have const1 : ∀ q o, (opsOf L ord)[q]? = some o → quietOp o.op = true → hs.getD (q + 1) [] = hs.getD q [] := by
    intro q o ho hqo
    obtain ⟨call, hco, f, d', d, ⟨_, k1, _⟩, _⟩ := g5 q o ho
    exact stepD_quiet hqo k1
  have const : ∀ n k, (∀ c o, L[c]? = some o → quietOp o.op = false → ¬ (k ≤ posOf ord c ∧ posOf ord c < k + n)) → k + n ≤ L.length → hs.getD (k + n) [] = hs.getD k [] := by
    intro n
    induction n with
    | zero => intro k _ _; rfl
    | succ n ih =>
      intro k h1 h2
      have hlt : k + n < (opsOf L ord).length := by omega
      have ho := List.getElem?_eq_getElem hlt
      obtain ⟨j, hj, hpj⟩ := ops_ord hO ho
      have hqo : quietOp ((opsOf L ord)[k + n]).op = true := by
        rw [← Bool.not_eq_false]
        exact fun hf => h1 j _ hj hf (by omega)
      rw [← Nat.add_assoc, const1 _ _ ho hqo]
      exact ih k (fun c o hc1 hc2 => fun hx => h1 c o hc1 hc2 (by omega)) (by omega)
  refine ⟨⟨edge, posB, uniq, inj, fun i o ho => (hO.at' i o ho).1, ?_, ?_, ?_, ?_, hatP, g1, const, ?_, ?_⟩, ?_, ?_⟩
  · intro i o x ho hx k o' hk hd
    have := List.all_eq_true.1 (fact ho).1.2.2 x hx
    have := zip_all this hk
    simp only [hd, beq_self_eq_true, Bool.not_true, Bool.false_or, Bool.or_eq_true, Bool.and_eq_true] at this
    rcases this with h | h
    · exact .inl h.1
    · exact .inr h.2
  · intro c c' o o' hc hc' hq1 hq2 hl hp
    have := zip_all (fact hc).1.2.1 hc'
    simp only [Bool.and_eq_true] at this
    have := this.2
    rw [hq1, hq2, hl] at this
    simpa [hp] using this
  · intro i o ho hl
    have := (fact ho).2
    simp only [hl, Bool.not_true, Bool.false_or, Bool.and_eq_true, Bool.not_eq_true', Option.isNone_iff_eq_none] at this
    exact ⟨this.1.1, this.2, this.1.2⟩
  · intro i j o o' x ho hx hj hd hl hb c o2 hc hq2 hp
    have := List.all_eq_true.1 (fact ho).1.2.2 x hx
    have := zip_all this hj
    simp only [hd, beq_self_eq_true, Bool.not_true, Bool.false_or, hb, Bool.true_and, hl, Bool.false_and, Bool.or_false] at this
    have := zip_all this hc
    simpa [hq2, hp] using this
  · intro i o k x ho hl hk hx
    have h1 := List.all_eq_true.1 hi i (by simpa using hl)
    have h2 := List.all_eq_true.1 h1 k (cand_mem hO hk)
    simp only [Bool.and_eq_true] at h2
    refine ⟨h2.1, ?_⟩
    have := h2.2
    rw [hx] at this
    simpa using this
  · intro i o ho hqo hg k hk hcomp
    have h1 := zip_all hq ho
    simp only [hqo, Bool.not_true, Bool.false_or, hg] at h1
    have h2 := List.all_eq_true.1 h1 k (cand_mem hO hk)
    have hc : compat5 L (befs L []) ord lt i k = true := by
      unfold compat5
      rw [List.all_eq_true]
      intro c hc1
      obtain ⟨o', ho', hq'⟩ := of_mem_chains hc1
      obtain ⟨k1, k2⟩ := hcomp c o' ho' hq'
      split
      · rename_i hlt
        rw [k1 hlt]; rfl
      · rename_i hlt
        cases hb : ((befs L []).getD i 0).testBit c
        · rfl
        · simpa using k2 (by omega) hb
    simp only [hc, Bool.not_true, Bool.false_or] at h2
    split at h2
    · rename_i d h' hop
      refine ⟨d, h', hop, fun x hx => ?_⟩
      rw [hx] at h2
      exact sameD_eq h2
    · simp at h2
  · simp [List.getD_eq_getElem?_getD, g3]
  · intro x hx
    refine g2 x fun o ho => ?_
    obtain ⟨q, hq'⟩ := List.mem_iff_getElem?.1 ho
    obtain ⟨j, hj, _⟩ := ops_ord hO hq'
    exact hx o (List.mem_of_getElem? hj)
end
end Go.Vi
namespace Go.Vi
open Go

def runLate (P : Program) (Γ : Glob) (call : CallF) (m : List Nat) (ops : List Oper) (B ord lt : List Nat) (t : List D) (h : List Blk) : Option (List D × List Blk) :=
  match fxStatic ops B ord lt with
  | true => match runD P Γ call m ops (opsOf ops ord) t h with
    | some (tF, hs, ts) => match innB ops ord lt hs with
      | true => match quiet5B P Γ ops B ord lt tF hs ts with
        | true => some (tF, hs.getD ops.length [])
        | false => none
      | false => none
    | none => none
  | false => none

def runRegion (P : Program) (Γ : Glob) (call : CallF) (m : List Nat) (ops : List Oper) (draw : Bool) (t : List D) (h : List Blk) : Option (List D × List Blk) :=
  match draw with
  | false => runOps P Γ call m ops ops t h
  | true => match drawOkB ops (befs ops []) with
    | true => match runD P Γ call m ops ops t h with
      | some (tF, hs, ts) => match quietB P Γ ops (befs ops []) tF hs ts with
        | true => some (tF, hs.getD ops.length [])
        | false => none
      | none => none
    | false => runLate P Γ call m ops (befs ops []) (ordOf ops (befs ops []) (lateIx ops (befs ops []))) (lateIx ops (befs ops [])) t h

theorem VW.runLate {P : Program} {Γ : Glob} {X : Ctx} {r : Option Nat} {call : CallF} {s : AS} {Q : Exit → AS → Prop} (ok : POk P) (hc : call.Ok P Γ) {id : Nat} {ops : Array Oper} {ord lt : List Nat} {t' : List D} {h' : List Blk}
    (hr : runLate P Γ call s.m ops.toList (befs ops.toList []) ord lt s.t s.h = some (t', h')) (hQ : Q .normal { t := t', h := h', m := s.m }) : VW P Γ X r (.region id ops true) Q s := by
  unfold Vi.runLate at hr
  split at hr
  · rename_i hs0
    split at hr
    · rename_i tF hs ts hrun
      split at hr
      · rename_i hi
        split at hr
        · rename_i hq
          simp only [Option.some.injEq, Prod.mk.injEq] at hr
          obtain ⟨rfl, rfl⟩ := hr
          obtain ⟨F, h0, hun⟩ := fx_of hs0 (runR_of_runD (wk := Eq) (fx := (· = _root_.id)) (fun _ => rfl) rfl hc _ _ _ _ _ _ hrun) hi hq
          exact VW.draw5 ok F h0 hun (by simpa using hQ)
        · simp at hr
      · simp at hr
    · simp at hr
  · simp at hr

theorem VW.run {P : Program} {Γ : Glob} {X : Ctx} {r : Option Nat} {call : CallF} {s : AS} {Q : Exit → AS → Prop} (ok : POk P) (hc : call.Ok P Γ) {id : Nat} {ops : Array Oper} {draw : Bool} {t' : List D} {h' : List Blk}
    (hr : runRegion P Γ call s.m ops.toList draw s.t s.h = some (t', h')) (hQ : Q .normal { t := t', h := h', m := s.m }) : VW P Γ X r (.region id ops draw) Q s := by
  unfold runRegion at hr
  cases draw with
  | false => exact VW.region hc hr hQ
  | true =>
    simp only at hr
    split at hr
    · rename_i hD
      split at hr
      · rename_i tF hs ts hrun
        split at hr
        · rename_i hqb
          simp only [Option.some.injEq, Prod.mk.injEq] at hr
          obtain ⟨rfl, rfl⟩ := hr
          exact VW.draw ok (drawOk_of hD) (runR_of_runD Wk.refl Vi.FixOk.id hc _ _ _ _ _ _ hrun) (quietOk_of hqb) (by simpa using hQ)
        · simp at hr
      · simp at hr
    · exact VW.runLate ok hc hr hQ
end Go.Vi
namespace Go.Vi
open Go

abbrev FnF := FuncId → List D → List Blk → Option (D × List Blk)
abbrev YlF := Nat → List D → List Blk → Option (D × List Blk)

def callOf (fnc : FnF) (yl : YlF) : CallF := fun x args h =>
  match calleeD x with
  | some (f, fi, ca) => fnc f (fi ++ args ++ ca) h
  | none => match x with
    | .ref (.yl b) => yl b args h
    | _ => none

def setAll (ts : List D) : List (Tmp × D) → List D
  | [] => ts
  | p :: ps => setAll (ts.set p.1 p.2) ps

/-- What a round leaves, by the way in which its body is left. -/
def roundEnd (b : Nat) (e : Exit) (s : AS) : Option (D × List Blk) :=
  match s.h[b]? with
  | some (.loop _ _ _ ts ps a c) => match e with
    | .normal => some (lit (.bool true), s.h.set b (.loop .ready none 0 ts ps a c))
    | .ret => some (lit (.bool false), s.h.set b (.loop .done (some .ret) 0 ts ps a c))
    | .exit i => some (lit (.bool false), s.h.set b (.loop .done (some (.exit i)) 0 ts ps a c))
    | _ => none
  | _ => none

/-- What a range over a function leaves. -/
def loopEnd (b : Nat) (t : List D) (m : List Nat) (h : List Blk) : Option (Exit × AS) :=
  match h[b + 1]? with
  | some (.loop st pend _ ts ps a c) => match st with
    | .busy => none
    | _ => match marksOk (h.set (b + 1) (.loop .exhausted pend 0 ts ps a c)) (b :: m) with
      | true => match pend with
        | none => some (.normal, { t := t, h := h.set (b + 1) (.loop .exhausted pend 0 ts ps a c), m := b :: m })
        | some .ret => some (.ret, { t := t, h := h.set (b + 1) (.loop .exhausted pend 0 ts ps a c), m := b :: m })
        | some (.exit i) => some (.exit i, { t := t, h := h.set (b + 1) (.loop .exhausted pend 0 ts ps a c), m := b :: m })
        | some _ => none
      | false => none
  | _ => none

/-- What a function's body leaves. -/
def bodyEnd (P : Program) (fn : Func) (n : Nat) (s : AS) : Option (D × List Blk) :=
  match marksOk s.h s.m && decide s.m.Nodup with
  | true => match resultsD P s.t (shut s.m s.h) fn.results.toList with
    | some ds => some (trimD n (oneOrTup ds) (shut s.m s.h))
    | none => none
  | false => none

mutual
def runC (P : Program) (Γ : Glob) : Nat → Bool → Code → AS → Option (Exit × AS)
  | 0, _, _, _ => none
  | n + 1, rd, c, s => match c with
    | .skip => some (.normal, s)
    | .label _ => some (.normal, s)
    | .ret => some (.ret, s)
    | .exit i => some (.exit i, s)
    | .goto i => some (.goto i, s)
    | .seq a b => match runC P Γ n rd a s with
      | some (.normal, s') => runC P Γ n rd b s'
      | r => r
    | .cond x a b => match evalD Γ s.t x with
      | .p (.v (.bool true)) => runC P Γ n rd a s
      | .p (.v (.bool false)) => runC P Γ n rd b s
      | _ => none
    | .block i b => match runC P Γ n rd b s with
      | some (.exit j, s') => if j = i then some (.normal, s') else some (.exit j, s')
      | r => r
    | .loop b => match runC P Γ n rd b s with
      | some (.normal, s') => runC P Γ n rd (.loop b) s'
      | r => r
    | .region _ ops draw => match runRegion P Γ (callOf (runF P Γ n) (runY P Γ n)) s.m ops.toList draw s.t s.h with
      | some (t, h) => some (.normal, { t := t, h := h, m := s.m })
      | none => none
    | .rangeFunc g ps asg body => match rd with
      | true => none
      | false => match calleeD (evalD Γ s.t g) with
        | some (f, fi, ca) => match runF P Γ n f (fi ++ [.ref (.yl (s.h.length + 1))] ++ ca) (s.h ++ [.defd] ++ [.loop .ready none 0 s.t ps asg body]) with
          | some (_, h2) => loopEnd s.h.length s.t s.m h2
          | none => none
        | none => none
    | _ => none
def runF (P : Program) (Γ : Glob) : Nat → FuncId → List D → List Blk → Option (D × List Blk)
  | 0, _, _, _ => none
  | n + 1, f, args, h => match P.funcs[f]? with
    | none => none
    | some fn => match fn.body with
      | none => none
      | some c => match runC P Γ n false c { t := entryT fn args, h := h, m := [] } with
        | some (.normal, s) => bodyEnd P fn h.length s
        | some (.ret, s) => bodyEnd P fn h.length s
        | _ => none
def runY (P : Program) (Γ : Glob) : Nat → Nat → List D → List Blk → Option (D × List Blk)
  | 0, _, _, _ => none
  | n + 1, b, args, h => match h[b]? with
    | some (.loop .ready _ _ ts ps asg body) => match decide (args.length = ps.size) with
      | true => match runC P Γ n true asg { t := setAll ts (ps.toList.zip args), h := h, m := [] } with
        | some (.normal, { t := t1, h := h1, m := [] }) => match h1[b]? with
          | some (.loop .ready p1 _ ts1 ps1 a1 b1) => match runC P Γ n true body { t := t1, h := h1.set b (.loop .busy p1 0 ts1 ps1 a1 b1), m := [] } with
            | some (e, s2) => roundEnd b e s2
            | none => none
          | _ => none
        | _ => none
      | false => none
    | _ => none
end
end Go.Vi
namespace Go.Vi
open Go
section
variable {P : Program} {Γ : Glob} {O : Nat → Prop} {w : World} {l : Loc} {h : List Blk}

theorem setLoop (R : Rep Γ O w l h) {b blk cp : Nat} {st : LoopState} {p : Option Code} {f : FuncId} {ts : List D} {ps : Array Tmp} {a c : Code} (hb : h[b]? = some (.loop st p f ts ps a c)) (hl : l b = some (blk, cp)) :
    ∃ rec : Loop, w.heap[blk]? = some (.loop rec) ∧ rec.state = st ∧ rec.pending = p ∧ rec.params = ps ∧ rec.assign = a ∧ rec.body = c ∧ RelL w (avs O l h) l h ts rec.tmps.toList ∧
      ∀ st' p', Rep Γ O { w with heap := w.heap.setIfInBounds blk (.loop { rec with state := st', pending := p' }) } l (h.set b (.loop st' p' 0 ts ps a c)) ∧
        Ext w l h { w with heap := w.heap.setIfInBounds blk (.loop { rec with state := st', pending := p' }) } l (h.set b (.loop st' p' 0 ts ps a c)) := by
  obtain ⟨blk', cp', tv, dr, fn', h1, h2, h3⟩ := R.blk b _ hb
  obtain ⟨rfl, rfl⟩ : blk = blk' ∧ cp = cp' := by simpa [hl] using h1
  refine ⟨_, h2, rfl, rfl, rfl, rfl, rfl, h3, fun st' p' => ?_⟩
  exact R.setAt hb (by simp) hl (x' := .loop st' p' 0 ts ps a c) trivial (fun E hg => ⟨blk, cp, tv, dr, fn', hl, hg, E.relL h3⟩)

theorem getLoop_run {r : Nat} {x : Loop} (hr : w.heap[r]? = some (.loop x)) : (Instr.getLoop r).run P w = .ok x w := by
  simp only [Instr.getLoop, Sem.run_bind, getObj_run (P := P) hr (by simp), Result.andThen_ok, Sem.run_pure]

theorem loop_stays {w' : World} {l' : Loc} {h' : List Blk} (E : Ext w l h w' l' h') {b : Nat} {st st' : LoopState} {p p' : Option Code} {f f' : FuncId} {ts ts' : List D} {ps ps' : Array Tmp} {a c a' c' : Code}
    (hb : h[b]? = some (.loop st p f ts ps a c)) (hb' : h'[b]? = some (.loop st' p' f' ts' ps' a' c')) : l' b = l b := by
  obtain ⟨x', h1, h2, h3⟩ := E.keep b _ hb
  rw [hb'] at h1
  cases h1
  exact h3 trivial

theorem relL_setAll {av : Nat → Prop} : ∀ (ps : List Tmp) (args : List D) (vs : List Value) (ts : List D) (tv : Array Value), RelL w av l h args vs → RelL w av l h ts tv.toList →
    RelL w av l h (setAll ts (ps.zip args)) ((ps.zip vs).foldl (fun (t : Array Value) (p : Tmp × Value) => t.setIfInBounds p.1 p.2) tv).toList
  | [], _, _, ts, tv, _, rt => by simpa [setAll] using rt
  | _ :: _, [], [], ts, tv, _, rt => by simpa [setAll] using rt
  | _ :: _, [], _ :: _, _, _, ra, _ => by simp [RelL] at ra
  | _ :: _, _ :: _, [], _, _, ra, _ => by simp [RelL] at ra
  | p :: ps, d :: args, v :: vs, ts, tv, ra, rt => by
    simp only [RelL] at ra
    simp only [List.zip_cons_cons, setAll, List.foldl_cons]
    exact relL_setAll ps args vs _ _ ra.2 (by rw [Array.toList_setIfInBounds]; exact relL_set ra.1 _ _ _ rt)

/-- One round. -/
theorem round_sound {b : Nat} {args : List D} {pend : Option Code} {f : FuncId} {ts : List D} {ps : Array Tmp} {asg body : Code} {t1 : List D} {h1 : List Blk} {p1 : Option Code} {f1 : FuncId} {ts1 : List D} {ps1 : Array Tmp}
    {a1 b1 : Code} {e2 : Exit} {s2 : AS} {d : D} {h' : List Blk} (hb : h[b]? = some (.loop .ready pend f ts ps asg body)) (hlen : args.length = ps.size)
    (hasg : ∀ X r, VW P Γ X r asg (fun e s => e = .normal ∧ s = { t := t1, h := h1, m := [] }) { t := setAll ts (ps.toList.zip args), h := h, m := [] })
    (hb1 : h1[b]? = some (.loop .ready p1 f1 ts1 ps1 a1 b1))
    (hbody : ∀ X r, VW P Γ X r body (fun e s => e = e2 ∧ s = s2) { t := t1, h := h1.set b (.loop .busy p1 0 ts1 ps1 a1 b1), m := [] })
    (hend : roundEnd b e2 s2 = some (d, h')) : VInv P Γ (.ref (.yl b)) args h fun d2 h2 => d2 = d ∧ h2 = h' := by
  intro O w l y vs R rx ra r o a next Q' hn
  simp only [Rel, RefRel, hb] at rx
  obtain ⟨_, blk, cp, hl, rfl⟩ := rx
  obtain ⟨rec, g1, g2, g3, g4, g5, g6, g7, _⟩ := setLoop R hb hl
  have hlv := relL_length _ _ ra
  have e1 : (do let d ← Deferred.ofValue (.func (.yield blk) #[] #[]) vs.toArray; invoke d.target d.args : Sem Next).run P w =
      .ok (.round blk rec.fn ((rec.params.zip vs.toArray).foldl (fun tmps (p : Tmp × Value) => tmps.setIfInBounds p.1 p.2) rec.tmps) rec.assign rec.body) w := by
    have hsz : vs.length = rec.params.size := by rw [g4, ← hlen, hlv]
    simp only [Deferred.ofValue, Sem.run_bind, Sem.run_pure, Result.andThen_ok, invoke, Instr.yield, getLoop_run (P := P) g1, Array.empty_append]
    simp [hsz]
  rw [e1]
  refine ⟨fun h => by simp [Fence.wide] at h, ?_⟩
  rw [g5, g6, g4]
  refine roundIn_of_wpIn (F := FW r) trivial ?_
  have st0 : St Γ { O := O, w := w, l := l, h := h } { t := setAll ts (ps.toList.zip args), h := h, m := [] }
      { tmps := (ps.zip vs.toArray).foldl (fun tmps (p : Tmp × Value) => tmps.setIfInBounds p.1 p.2) rec.tmps, defers := [] } w := by
    refine ⟨l, R, Ext.refl _ _ _, ?_, by simp [DefOk]⟩
    have := relL_setAll (w := w) (l := l) (h := h) (av := avs O l h) ps.toList args vs ts rec.tmps ra g7
    rw [← Array.foldl_toList]
    simpa using this
  refine wpIn_mono (hasg _ (some blk) _ _ st0) ?_
  rintro e a₁ w₁ ⟨_, _, s1, ⟨rfl, rfl⟩, l1, R1, E1, rt1, rd1⟩
  have hl1 : l1 b = some (blk, cp) := by rw [loop_stays E1 hb hb1]; exact hl
  obtain ⟨rec1, k1, k2, k3, k4, k5, k6, k7, k8⟩ := setLoop R1 hb1 hl1
  obtain ⟨R2, E2⟩ := k8 .busy p1
  refine ⟨{ w₁ with heap := w₁.heap.setIfInBounds blk (.loop { rec1 with state := .busy, pending := p1 }) }, ?_, ?_⟩
  · have : ({ rec1 with state := .busy } : Loop) = { rec1 with state := .busy, pending := p1 } := by rw [← k3]
    simp only [Instr.beginRound, Sem.run_bind, getLoop_run (P := P) k1, Result.andThen_ok, this, setObj_run (P := P) k1 (by simp), k2, Sem.run_pure]
  · have st1 : St Γ { O := O, w := w, l := l, h := h } { t := t1, h := h1.set b (.loop .busy p1 0 ts1 ps1 a1 b1), m := [] } a₁ { w₁ with heap := w₁.heap.setIfInBounds blk (.loop { rec1 with state := .busy, pending := p1 }) } := by
      refine ⟨l1, R2, E1.trans E2, E2.relL rt1, ?_⟩
      cases hdd : a₁.defers with
      | nil => simp [DefOk]
      | cons d ds => rw [hdd] at rd1; simp [DefOk] at rd1
    refine wpIn_mono (hbody _ (some blk) _ _ st1) ?_
    rintro e a₂ w₂ ⟨_, _, s3, ⟨rfl, rfl⟩, l2, R3, E3, rt3, rd3⟩
    unfold roundEnd at hend
    split at hend
    case h_2 => simp at hend
    rename_i st3 p3 f3 ts3 ps3 a3 b3 hb3
    have hl2 : l2 b = some (blk, cp) := by rw [loop_stays E3 hb hb3]; exact hl
    obtain ⟨rec3, m1, m2, m3, m4, m5, m6, m7, m8⟩ := setLoop R3 hb3 hl2
    have endRun : ∀ jump : Option Code, (Instr.endRound blk jump).run P w₂ = .ok (.bool jump.isNone) { w₂ with heap := w₂.heap.setIfInBounds blk (.loop { rec3 with state := if jump.isNone then .ready else .done, pending := jump }) } := by
      intro jump
      simp only [Instr.endRound, Sem.run_bind, getLoop_run (P := P) m1, Result.andThen_ok, setObj_run (P := P) m1 (by simp), Sem.run_pure]
    cases e with
    | normal =>
      simp only [Option.some.injEq, Prod.mk.injEq] at hend
      obtain ⟨rfl, rfl⟩ := hend
      obtain ⟨R4, E4⟩ := m8 .ready none
      exact ⟨_, _, endRun none, hn _ _ _ l2 _ ⟨rfl, rfl⟩ R4 (E3.trans E4) (by simp [Rel, RelP])⟩
    | exit i =>
      simp only [Option.some.injEq, Prod.mk.injEq] at hend
      obtain ⟨rfl, rfl⟩ := hend
      obtain ⟨R4, E4⟩ := m8 .done (some (.exit i))
      exact ⟨_, _, endRun (some (.exit i)), hn _ _ _ l2 _ ⟨rfl, rfl⟩ R4 (E3.trans E4) (by simp [Rel, RelP])⟩
    | ret =>
      simp only [Option.some.injEq, Prod.mk.injEq] at hend
      obtain ⟨rfl, rfl⟩ := hend
      obtain ⟨R4, E4⟩ := m8 .done (some .ret)
      exact ⟨_, _, endRun (some .ret), hn _ _ _ l2 _ ⟨rfl, rfl⟩ R4 (E3.trans E4) (by simp [Rel, RelP])⟩
    | _ => simp at hend
end
end Go.Vi
namespace Go.Vi
open Go
section
variable {P : Program} {Γ : Glob} {X : Ctx} {s : AS}

theorem newObj_run {w : World} (o : Obj) : (newObj o).run P w = .ok w.heap.size (w.alloc o) := rfl

theorem VW.rangeFunc (ok : POk P) {g : Operand} {ps : Array Tmp} {asg body : Code} {f : FuncId} {fi ca : List D} {h2 : List Blk} {e : Exit} {s' : AS} (hg : calleeD (evalD Γ s.t g) = some (f, fi, ca)) (hf : funOk P f = true)
    (hc : VCall P Γ f (fi ++ [.ref (.yl (s.h.length + 1))] ++ ca) (s.h ++ [.defd] ++ [.loop .ready none 0 s.t ps asg body]) fun _ h' => h' = h2)
    (he : loopEnd s.h.length s.t s.m h2 = some (e, s')) : VW P Γ X none (.rangeFunc g ps asg body) (fun e' s'' => e' = e ∧ s'' = s') s := by
  intro a w hs
  have hmk := hs.marks
  obtain ⟨l, R, E, rt, rd⟩ := hs
  refine wpIn_rangeFunc fun fn _ => ?_
  obtain ⟨R1, E1⟩ := rep_alloc R (.deferred (some [])) .defd 0 (fun E => ⟨w.heap.size, 0, by simp, heap_alloc_new w _⟩)
  generalize hw1 : w.alloc (.deferred (some [])) = w1 at R1 E1
  generalize hl1 : l.upd s.h.length (some (w.heap.size, 0)) = l1 at R1 E1
  have rt1 := E1.relL rt
  have hlen : (s.h ++ [Blk.defd]).length = s.h.length + 1 := by simp
  obtain ⟨R2, E2⟩ := rep_alloc R1 (.loop { state := .ready, pending := none, fn, tmps := a.tmps, params := ps, assign := asg, body, defers := w.heap.size }) (.loop .ready none 0 s.t ps asg body) 0
    (fun E => ⟨w1.heap.size, 0, a.tmps, w.heap.size, fn, by simp, heap_alloc_new w1 _, E.relL rt1⟩)
  generalize hw2 : w1.alloc (.loop { state := .ready, pending := none, fn, tmps := a.tmps, params := ps, assign := asg, body, defers := w.heap.size }) = w2 at R2 E2
  generalize hl2 : l1.upd (s.h ++ [Blk.defd]).length (some (w1.heap.size, 0)) = l2 at R2 E2
  rw [hlen] at hl2
  obtain ⟨a0, c0, e0, r1, r2⟩ := callee_sound (evalD_sound R2 ((E1.trans E2).relL rt) g) hg
  unfold funOk at hf
  split at hf
  case h_2 => simp at hf
  rename_i fn' hfn'
  refine ⟨w1.heap.size, [{ target := .collected w.heap.size, args := #[] }], w2, { target := .fn (.func f) c0, args := a0 ++ #[.func (.yield w1.heap.size) #[] #[]] }, w2, f, a0 ++ #[.func (.yield w1.heap.size) #[] #[]] ++ c0, w2, ?_, ?_, fun _ _ => trivial, ?_, fun h => by simp [Fence.wide] at h, ?_⟩
  · simp only [Instr.enterLoop, Sem.run_bind, newObj_run, Result.andThen_ok, Sem.run_pure, hw1, hw2]
  · simp only [resolve, e0, Deferred.ofValue, Sem.run_pure]
    simp
    rfl
  · exact call_run ok hfn' hf _ _
  · have hl2n : l2 (s.h.length + 1) = some (w1.heap.size, 0) := by rw [← hl2]; simp
    have hl2d : l2 s.h.length = some (w.heap.size, 0) := by rw [← hl2, Loc.upd_ne _ _ _ (by omega), ← hl1]; simp
    have hHn : (s.h ++ [Blk.defd] ++ [Blk.loop .ready none 0 s.t ps asg body])[s.h.length + 1]? = some (.loop .ready none 0 s.t ps asg body) := by
      rw [List.getElem?_append_right (by simp)]; simp
    have hHd : (s.h ++ [Blk.defd] ++ [Blk.loop .ready none 0 s.t ps asg body])[s.h.length]? = some .defd := by
      rw [List.getElem?_append_left (by simp), List.getElem?_append_right (by simp)]; simp
    have hd2 : DefOk l2 (s.h ++ [Blk.defd] ++ [Blk.loop .ready none 0 s.t ps asg body]) (s.h.length :: s.m) ({ target := .collected w.heap.size, args := #[] } :: a.defers) := by
      simp only [DefOk]
      refine ⟨⟨w.heap.size, 0, hHd, hl2d, rfl⟩, ?_⟩
      exact DefOk.mono (E1.trans E2).keep (by rw [List.append_assoc]; exact marksOk_append hmk) rd
    have hcall := hc X.O w2 l2 (a0 ++ #[Value.func (Fn.yield w1.heap.size) #[] #[]] ++ c0).toList R2 (by
      simp only [Array.toList_append]
      refine relL_append (relL_append r1 ?_) r2
      simp only [RelL, Rel, RefRel, hHn]
      exact ⟨⟨rfl, w1.heap.size, 0, hl2n, rfl⟩, trivial⟩)
    refine CallsIn.mono (hcall : CallsIn (FW none) 0 P f _ w2 _) ?_
    rintro e1 w3 ⟨v, d, h', l3, rfl, rfl, R3, E3, _⟩
    unfold loopEnd at he
    split at he
    case h_2 => simp at he
    rename_i st pend f3 ts3 ps3 a3 c3 hb3
    have hl3 : l3 (s.h.length + 1) = some (w1.heap.size, 0) := by rw [loop_stays E3 hHn hb3]; exact hl2n
    obtain ⟨rec3, m1, m2, m3, m4, m5, m6, m7, m8⟩ := setLoop R3 hb3 hl3
    obtain ⟨R4, E4⟩ := m8 .exhausted pend
    split at he
    · simp at he
    rename_i hbusy
    split at he
    case h_2 => simp at he
    rename_i hmk3
    have hst : St Γ X { t := s.t, h := h'.set (s.h.length + 1) (.loop .exhausted pend 0 ts3 ps3 a3 c3), m := s.h.length :: s.m } { a with defers := [{ target := .collected w.heap.size, args := #[] }] ++ a.defers }
        { w3 with heap := w3.heap.setIfInBounds w1.heap.size (.loop { rec3 with state := .exhausted, pending := pend }) } :=
      ⟨l3, R4, (E.trans (E1.trans E2)).trans (E3.trans E4), ((E1.trans E2).trans (E3.trans E4)).relL rt, DefOk.mono (E3.trans E4).keep hmk3 hd2⟩
    have hrun : (Instr.endLoop w1.heap.size).run P w3 = .ok pend { w3 with heap := w3.heap.setIfInBounds w1.heap.size (.loop { rec3 with state := .exhausted, pending := pend }) } := by
      have e1 : ({ rec3 with state := .exhausted } : Loop) = { rec3 with state := .exhausted, pending := pend } := by rw [← m3]
      have e2 : (rec3.state == LoopState.busy) = false := by
        rw [m2]
        cases st <;> first | rfl | exact absurd rfl hbusy
      simp only [Instr.endLoop, Sem.run_bind, getLoop_run (P := P) m1, Result.andThen_ok, e2, Bool.false_eq_true, if_false, Sem.run_pure, setObj_run (P := P) m1 (by simp), m3]
    refine ⟨pend, _, hrun, ?_⟩
    cases pend with
    | none =>
      simp only [Option.some.injEq, Prod.mk.injEq] at he
      obtain ⟨rfl, rfl⟩ := he
      exact ⟨by simp, by simp, _, ⟨rfl, rfl⟩, hst⟩
    | some c =>
      cases c <;> simp only [Option.some.injEq, Prod.mk.injEq, reduceCtorEq] at he
      · obtain ⟨rfl, rfl⟩ := he
        exact wpIn_exit ⟨by simp, by simp, _, ⟨rfl, rfl⟩, hst⟩
      · obtain ⟨rfl, rfl⟩ := he
        exact wpIn_ret ⟨by simp, by simp, _, ⟨rfl, rfl⟩, hst⟩
end
end Go.Vi
namespace Go.Vi
open Go
section
variable {P : Program} {Γ : Glob}

def FnOk (P : Program) (Γ : Glob) (fnc : FnF) : Prop := ∀ f args h d h', fnc f args h = some (d, h') → funOk P f = true ∧ VCall P Γ f args h fun d2 h2 => d2 = d ∧ h2 = h'
def YlOk (P : Program) (Γ : Glob) (yl : YlF) : Prop := ∀ b args h d h', yl b args h = some (d, h') → VInv P Γ (.ref (.yl b)) args h fun d2 h2 => d2 = d ∧ h2 = h'

theorem callOf_ok (ok : POk P) {fnc : FnF} {yl : YlF} (hf : FnOk P Γ fnc) (hy : YlOk P Γ yl) : (callOf fnc yl).Ok P Γ := by
  intro x args h d h' hc
  unfold callOf at hc
  split at hc
  · rename_i f fi ca hx
    obtain ⟨h1, h2⟩ := hf _ _ _ _ _ hc
    exact VInv.of_call ok hx h1 h2
  · split at hc
    · exact hy _ _ _ _ _ hc
    · simp at hc

abbrev Det (e : Exit) (s' : AS) : Exit → AS → Prop := fun e' s'' => e' = e ∧ s'' = s'

def CodeOk (P : Program) (Γ : Glob) (run : Bool → Code → AS → Option (Exit × AS)) : Prop :=
  ∀ rd c s e s', run rd c s = some (e, s') → ∀ X r, (rd = false → r = none) → VW P Γ X r c (Det e s') s
def LoopOk (P : Program) (Γ : Glob) (run : Bool → Code → AS → Option (Exit × AS)) : Prop :=
  ∀ rd c s e s', run rd (.loop c) s = some (e, s') → ∀ X r, (rd = false → r = none) → LoopW P Γ X r c (Det e s') s

theorem bodyEnd_q {fn : Func} {n : Nat} {s : AS} {d : D} {h' : List Blk} {e : Exit} (he : e = .normal ∨ e = .ret) (hb : bodyEnd P fn n s = some (d, h')) :
    bodyQ P fn (fun d2 h2 => trimD n d2 h2 = (d, h')) e s := by
  unfold bodyEnd at hb
  split at hb
  · rename_i hm
    simp only [Bool.and_eq_true, decide_eq_true_eq] at hm
    split at hb
    · rename_i ds hr
      simp only [Option.some.injEq] at hb
      exact ⟨he, hm.1, hm.2, ds, hr, hb⟩
    · simp at hb
  · simp at hb

theorem run_ok (ok : POk P) : ∀ n, CodeOk P Γ (runC P Γ n) ∧ LoopOk P Γ (runC P Γ n) ∧ FnOk P Γ (runF P Γ n) ∧ YlOk P Γ (runY P Γ n)
  | 0 => ⟨fun _ _ _ _ _ h => by simp [runC] at h, fun _ _ _ _ _ h => by simp [runC] at h, fun _ _ _ _ _ h => by simp [runF] at h, fun _ _ _ _ _ h => by simp [runY] at h⟩
  | n + 1 => by
    obtain ⟨hC, hL, hF, hY⟩ := run_ok ok n
    have hcall := callOf_ok ok hF hY
    have hloop : LoopOk P Γ (runC P Γ (n + 1)) := by
      intro rd c s e s' hr X r hrd
      refine LoopW.step ?_
      simp only [runC] at hr
      split at hr
      · rename_i s1 h1
        refine (hC rd c s _ _ h1 X r hrd).mono ?_
        rintro e' s'' ⟨rfl, rfl⟩
        exact hL rd c _ _ _ hr X r hrd
      · rename_i hno
        refine (hC rd c s _ _ hr X r hrd).mono ?_
        rintro e' s'' ⟨rfl, rfl⟩
        cases e' with
        | normal => exact absurd hr (hno _)
        | _ => exact ⟨rfl, rfl⟩
    refine ⟨?_, hloop, ?_, ?_⟩
    · intro rd c s e s' hr X r hrd
      cases c with
      | skip => simp only [runC, Option.some.injEq, Prod.mk.injEq] at hr; exact VW.skip ⟨hr.1, hr.2⟩
      | label k => simp only [runC, Option.some.injEq, Prod.mk.injEq] at hr; exact VW.label ⟨hr.1, hr.2⟩
      | ret => simp only [runC, Option.some.injEq, Prod.mk.injEq] at hr; exact VW.ret ⟨hr.1, hr.2⟩
      | exit i => simp only [runC, Option.some.injEq, Prod.mk.injEq] at hr; exact VW.exit ⟨hr.1, hr.2⟩
      | goto i => simp only [runC, Option.some.injEq, Prod.mk.injEq] at hr; exact VW.goto ⟨hr.1, hr.2⟩
      | scope b => simp [runC] at hr
      | refuse w => simp [runC] at hr
      | seq a b =>
        simp only [runC] at hr
        refine VW.seq ?_
        split at hr
        · rename_i s1 h1
          refine (hC rd a s _ _ h1 X r hrd).mono ?_
          rintro e' s'' ⟨rfl, rfl⟩
          exact hC rd b _ _ _ hr X r hrd
        · rename_i hno
          refine (hC rd a s _ _ hr X r hrd).mono ?_
          rintro e' s'' ⟨rfl, rfl⟩
          cases e' with
          | normal => exact absurd hr (hno _)
          | _ => exact ⟨rfl, rfl⟩
      | cond x a b =>
        simp only [runC] at hr
        split at hr
        · rename_i hx
          exact VW.cond hx (fun _ => hC rd a s _ _ hr X r hrd) (fun h => by cases h)
        · rename_i hx
          exact VW.cond hx (fun h => by cases h) (fun _ => hC rd b s _ _ hr X r hrd)
        · simp at hr
      | block i b =>
        simp only [runC] at hr
        refine VW.block ?_
        split at hr
        · rename_i j s1 h1
          refine (hC rd b s _ _ h1 X r hrd).mono ?_
          rintro e' s'' ⟨rfl, rfl⟩
          simp only [blockQ]
          split at hr <;> rename_i hj
          · simp only [Option.some.injEq, Prod.mk.injEq] at hr; rw [if_pos hj]; exact ⟨hr.1, hr.2⟩
          · simp only [Option.some.injEq, Prod.mk.injEq] at hr; rw [if_neg hj]; exact ⟨hr.1, hr.2⟩
        · rename_i hno
          refine (hC rd b s _ _ hr X r hrd).mono ?_
          rintro e' s'' ⟨rfl, rfl⟩
          cases e' with
          | exit j => exact absurd hr (hno _ _)
          | _ => exact ⟨rfl, rfl⟩
      | loop b => exact (hloop rd b s e s' hr X r hrd).loop
      | region id ops draw =>
        simp only [runC] at hr
        split at hr
        · rename_i t h h1
          simp only [Option.some.injEq, Prod.mk.injEq] at hr
          exact VW.run ok hcall h1 ⟨hr.1, hr.2⟩
        · simp at hr
      | rangeFunc g ps asg body =>
        simp only [runC] at hr
        cases rd with
        | true => simp at hr
        | false =>
          obtain rfl := hrd rfl
          simp only at hr
          split at hr
          · rename_i f fi ca hg
            split at hr
            · rename_i d h2 h1
              obtain ⟨k1, k2⟩ := hF _ _ _ _ _ h1
              exact VW.rangeFunc ok hg k1 (k2.mono fun _ _ hq => hq.2) hr
            · simp at hr
          · simp at hr
    · intro f args h d h' hr
      simp only [runF] at hr
      split at hr
      · simp at hr
      rename_i fn hf
      split at hr
      · simp at hr
      rename_i c hb
      refine ⟨by simp [funOk, hf, hb], ?_⟩
      refine VCall.trim ?_
      split at hr
      · rename_i s1 h1
        refine VCall.of_body hf hb fun X _ => (hC false c _ _ _ h1 X none (fun _ => rfl)).mono ?_
        rintro e' s'' ⟨rfl, rfl⟩
        obtain ⟨q1, q2, q3, ds, q4, q5⟩ := bodyEnd_q (P := P) (.inl rfl) hr
        exact ⟨q1, q2, q3, ds, q4, by simp only [q5]; exact ⟨trivial, trivial⟩⟩
      · rename_i s1 h1
        refine VCall.of_body hf hb fun X _ => (hC false c _ _ _ h1 X none (fun _ => rfl)).mono ?_
        rintro e' s'' ⟨rfl, rfl⟩
        obtain ⟨q1, q2, q3, ds, q4, q5⟩ := bodyEnd_q (P := P) (.inr rfl) hr
        exact ⟨q1, q2, q3, ds, q4, by simp only [q5]; exact ⟨trivial, trivial⟩⟩
      · simp at hr
    · intro b args h d h' hr
      simp only [runY] at hr
      split at hr
      · rename_i p f ts ps asg body hb
        split at hr
        · rename_i hlen
          simp only [decide_eq_true_eq] at hlen
          split at hr
          · rename_i t1 h1 hasg
            split at hr
            · rename_i p1 f1 ts1 ps1 a1 b1 hb1
              split at hr
              · rename_i e2 s2 hbody
                exact round_sound hb hlen (fun X r => hC true asg _ _ _ hasg X r (fun h => by cases h)) hb1 (fun X r => hC true body _ _ _ hbody X r (fun h => by cases h)) hr
              · simp at hr
            · simp at hr
          · simp at hr
        · simp at hr
      · simp at hr

/-- A closed call, run. -/
theorem VCall.of_run (ok : POk P) {n : Nat} {f : FuncId} {args : List D} {h : List Blk} {d : D} {h' : List Blk} (hr : runF P Γ n f args h = some (d, h')) : VCall P Γ f args h fun d2 h2 => d2 = d ∧ h2 = h' :=
  ((run_ok ok n).2.2.1 f args h d h' hr).2
end
end Go.Vi
namespace Go.Vi
open Go

/-- A function's contract: from these arguments, with this heap, this result and that heap. -/
def Ev (P : Program) (Γ : Glob) (f : FuncId) (args : List D) (h : List Blk) (d : D) (h' : List Blk) : Prop := VCall P Γ f args h fun d2 h2 => d2 = d ∧ h2 = h'

/-- The same of a value that is called. -/
def Iv (P : Program) (Γ : Glob) (x : D) (args : List D) (h : List Blk) (d : D) (h' : List Blk) : Prop := VInv P Γ x args h fun d2 h2 => d2 = d ∧ h2 = h'

/-- One operation. -/
def OpW (P : Program) (Γ : Glob) (t : List D) (h : List Blk) (o : Op) (K : D → List Blk → Prop) : Prop :=
  match o with
  | .call { callee := .value fv, args, .. } => ∃ d h', Iv P Γ (evalD Γ t fv) (args.toList.map (evalD Γ t)) h d h' ∧ K d h'
  | op => ∃ d h', opSem P Γ t h op = some (true, d, h') ∧ K d h'

theorem OpW.call {P : Program} {Γ : Glob} {t : List D} {h h' : List Blk} {d : D} {fv : Operand} {args : Array Operand} {ats : Array TypeId} {K : D → List Blk → Prop} (hi : Iv P Γ (evalD Γ t fv) (args.toList.map (evalD Γ t)) h d h') (hK : K d h') :
    OpW P Γ t h (.call { callee := .value fv, args, argTypes := ats }) K := ⟨d, h', hi, hK⟩

theorem OpW.sem {P : Program} {Γ : Glob} {t : List D} {h h' : List Blk} {d : D} {op : Op} {K : D → List Blk → Prop} (hi : opSem P Γ t h op = some (true, d, h')) (hK : K d h') : OpW P Γ t h op K := by
  unfold OpW
  split
  · simp [opSem] at hi
  · exact ⟨d, h', hi, hK⟩

theorem OpW.run {P : Program} {Γ : Glob} {t : List D} {h : List Blk} {op : Op} {K : D → List Blk → Prop} (hw : OpW P Γ t h op K) : ∃ call, CallF.Ok P Γ call ∧ ∃ d h', runOp P Γ call t h op = some (d, h') ∧ K d h' := by
  unfold OpW at hw
  split at hw
  · rename_i fv args ats
    obtain ⟨d, h', hi, hK⟩ := hw
    classical
    refine ⟨fun x as g => if x = evalD Γ t fv ∧ as = args.toList.map (evalD Γ t) ∧ g = h then some (d, h') else none, ?_, d, h', ?_, hK⟩
    · intro x as g d1 h1 hc
      simp only at hc
      split at hc
      · rename_i he
        obtain ⟨rfl, rfl, rfl⟩ := he
        simp only [Option.some.injEq, Prod.mk.injEq] at hc
        obtain ⟨rfl, rfl⟩ := hc
        exact hi
      · simp at hc
    · simp [runOp]
  · rename_i hno
    obtain ⟨d, h', hi, hK⟩ := hw
    refine ⟨fun _ _ _ => none, fun _ _ _ _ _ hc => by simp at hc, d, h', ?_, hK⟩
    unfold runOp
    split
    · exact absurd rfl (hno _ _ _)
    · rw [hi]

/-- One operation with its guard. -/
def StW (P : Program) (Γ : Glob) (m : List Nat) (L : List Oper) (t : List D) (h : List Blk) (o : Oper) (K : D → List Blk → Prop) : Prop :=
  ∃ call, CallF.Ok P Γ call ∧ ∃ f d' d h', (FixOk f ∧ stepD P Γ call m L (t.map f) h o = some (d', h') ∧ Wk d' d) ∧ K d h'

/-- A contract for one operation. -/
def OpOk (P : Program) (Γ : Glob) (t : List D) (h : List Blk) (o : Op) (d : D) (h' : List Blk) : Prop := ∃ call, CallF.Ok P Γ call ∧ runOp P Γ call t h o = some (d, h')

theorem OpOk.sem {P : Program} {Γ : Glob} {t : List D} {h h' : List Blk} {o : Op} {d : D} (hs : opSem P Γ t h o = some (true, d, h')) : OpOk P Γ t h o d h' := by
  obtain ⟨call, hc, d1, h1, h2, rfl, rfl⟩ := (OpW.sem (K := fun d1 h1 => d1 = d ∧ h1 = h') hs ⟨rfl, rfl⟩).run
  exact ⟨call, hc, h2⟩
theorem OpOk.call {P : Program} {Γ : Glob} {t : List D} {h h' : List Blk} {d : D} {fv : Operand} {args : Array Operand} {ats : Array TypeId} (hi : Iv P Γ (evalD Γ t fv) (args.toList.map (evalD Γ t)) h d h') :
    OpOk P Γ t h (.call { callee := .value fv, args, argTypes := ats }) d h' := by
  obtain ⟨call, hc, d1, h1, h2, rfl, rfl⟩ := (OpW.call (ats := ats) (K := fun d1 h1 => d1 = d ∧ h1 = h') hi ⟨rfl, rfl⟩).run
  exact ⟨call, hc, h2⟩

theorem OpOk.congr {P : Program} {Γ : Glob} {t t' : List D} {h h' : List Blk} {o : Op} {d : D} (he : ∀ x ∈ o.operands, evalD Γ t x = evalD Γ t' x) (ho : OpOk P Γ t h o d h') : OpOk P Γ t' h o d h' := by
  obtain ⟨call, hc, hr⟩ := ho
  exact ⟨call, hc, by rw [← runOp_congr o he]; exact hr⟩

theorem StW.on {P : Program} {Γ : Glob} {m : List Nat} {L : List Oper} {t : List D} {h h' : List Blk} {o : Oper} {K : D → List Blk → Prop} {d : D} (hg : guardD L t o.guard = some true) (ho : OpOk P Γ t h o.op d h') (hm : marksOk h' m = true) (hK : K d h') : StW P Γ m L t h o K := by
  obtain ⟨call, hc, hr⟩ := ho
  exact ⟨call, hc, id, d, d, h', ⟨FixOk.id, by rw [List.map_id]; unfold stepD; rw [hg, hr]; simp [hm], Wk.refl _⟩, hK⟩

theorem StW.off {P : Program} {Γ : Glob} {m : List Nat} {L : List Oper} {t : List D} {h : List Blk} {o : Oper} {K : D → List Blk → Prop} (hg : guardD L t o.guard = some false) (hK : K (lit undef) h) : StW P Γ m L t h o K :=
  ⟨fun _ _ _ => none, fun _ _ _ _ _ hc => by simp at hc, id, _, _, h, ⟨FixOk.id, by rw [List.map_id]; unfold stepD; rw [hg], Wk.refl _⟩, hK⟩

theorem StW.spec {P : Program} {Γ : Glob} {m : List Nat} {L : List Oper} {t : List D} {h : List Blk} {o : Oper} {K : D → List Blk → Prop} {d : D} {b : Bool} (hg : guardD L t o.guard = some b) (ho : b = true → OpOk P Γ (t.map fixD) h o.op d h) (hm : marksOk h m = true) (hK : K (.grd b d) h) : StW P Γ m L t h o K := by
  cases b with
  | true =>
    obtain ⟨call, hc, hr⟩ := ho rfl
    exact ⟨call, hc, fixD, d, .grd true d, h, ⟨FixOk.fixD, by unfold stepD; rw [guardD_fix FixOk.fixD hg, hr]; simp [hm], fun _ _ _ _ _ r => by simpa [Rel] using r⟩, hK⟩
  | false =>
    exact ⟨fun _ _ _ => none, fun _ _ _ _ _ hc => by simp at hc, id, lit undef, .grd false d, h, ⟨FixOk.id, by rw [List.map_id]; unfold stepD; rw [hg], fun _ _ _ _ _ r => by simpa [Rel, RelP] using r⟩, hK⟩

theorem guardD_same (w : World) {f f0 : D → D} (hf : FixOk f) (hf0 : FixOk f0) {L : List Oper} {t : List D} {g : Option (Nat × Bool)} {b b0 : Bool} (h : guardD L (t.map f) g = some b) (h0 : guardD L (t.map f0) g = some b0) : b = b0 := by
  unfold guardD at h h0
  split at h
  · simp_all
  · split at h
    · rename_i x hx
      simp only [hx] at h0
      rw [getD_map hf.any] at h
      rw [getD_map hf0.any] at h0
      generalize t.getD x .any = d at h h0
      obtain ⟨g1, y, g2⟩ := guardV_spec h w (fun _ => False) (fun _ => none) []
      have g3 := (hf0.both d).1 w (fun _ => False) (fun _ => none) [] y ((hf.both d).2 w (fun _ => False) (fun _ => none) [] y g2)
      rw [← g1 y g2, ← (guardV_spec h0 w (fun _ => False) (fun _ => none) []).1 y g3]
    · simp_all

/-- The operations one by one; c: none of them changes the heap. -/
def RW (P : Program) (Γ : Glob) (m : List Nat) (L : List Oper) (c : Bool) : List Oper → List D → List Blk → (List D → List Blk → Prop) → Prop
  | [], t, h, K => K t h
  | o :: os, t, h, K => StW P Γ m L t h o fun d h' => (c = true → h' = h) ∧ RW P Γ m L c os (putD t o.dst d) h' K

theorem RW.runR {P : Program} {Γ : Glob} {m : List Nat} {L : List Oper} {K : List D → List Blk → Prop} : ∀ (os : List Oper) (t : List D) (h : List Blk), RW P Γ m L true os t h K →
    ∃ tF hs ts, Vi.runR P Γ m L Wk FixOk os t h tF hs ts ∧ K tF h ∧ (∀ k, k ≤ os.length → hs.getD k [] = h)
  | [], t, h, hw => ⟨t, [h], [], ⟨rfl, rfl, rfl⟩, hw, fun k hk => by simp at hk; subst hk; rfl⟩
  | o :: os, t, h, hw => by
    obtain ⟨call, hc, f, d', d, h', h1, h2, h3⟩ := hw
    obtain rfl := h2 rfl
    obtain ⟨tF, hs, ts, g1, g2, g3⟩ := RW.runR os _ _ h3
    exact ⟨tF, h' :: hs, t :: ts, ⟨call, f, d', d, h', hs, ts, hc, h1, g1, rfl, rfl⟩, g2, fun k hk => by
      cases k with
      | zero => rfl
      | succ k => simpa using g3 k (by simpa using hk)⟩

section
variable {P : Program} {Γ : Glob} {X : Ctx} {r : Option Nat} {Q : Exit → AS → Prop} {t : List D} {h : List Blk} {m : List Nat}

theorem St_put_step {L : List Oper} {ops : Array Oper} (hL : ops.toList = L) {o : Oper} {K : Act → World → Prop} {Q' : Exit → Act → World → Prop} {Kd : D → List Blk → Prop} (hw : StW P Γ m L t h o Kd)
    (hK : ∀ d h' a' w', Kd d h' → St Γ X { t := putD t o.dst d, h := h', m := m } a' w' → K a' w') {a : Act} {w : World} (hs : St Γ X { t := t, h := h, m := m } a w) :
    if Region.wanted o (yielded ops a.tmps) then o.wpIn (FW r) 0 P a w K Q' else (∀ f, o.about P w a.eval = some f → (FW r).fn f) ∧ K (a.put o.dst undef) w := by
  subst hL
  obtain ⟨call, hc, f, dw, d, h', ⟨hfx, h1, hwk⟩, h2⟩ := hw
  have hsf : St Γ X { t := t.map f, h := h, m := m } a w := hs.fix hfx
  unfold stepD at h1
  split at h1
  · rename_i hg
    have hwt : Region.wanted o (yielded ops a.tmps) = true := by
      obtain ⟨l, R, E, rt, rd⟩ := hsf
      exact guardD_sound rt hg
    rw [if_pos hwt]
    split at h1
    · rename_i d1 h1' hop
      split at h1
      · rename_i hm
        simp only [Option.some.injEq, Prod.mk.injEq] at h1
        obtain ⟨rfl, rfl⟩ := h1
        exact runOp_wp (s := { t := t.map f, h := h, m := m }) hc hop hm (fun a' w' hs' => hK _ _ a' w' h2 (St.unfix hfx hwk hs')) hsf
      · simp at h1
    · simp at h1
  · rename_i hg
    simp only [Option.some.injEq, Prod.mk.injEq] at h1
    obtain ⟨rfl, rfl⟩ := h1
    have hwt : Region.wanted o (yielded ops a.tmps) = false := by
      obtain ⟨l, R, E, rt, rd⟩ := hsf
      exact guardD_sound rt hg
    rw [if_neg (by simp [hwt])]
    exact ⟨fun _ _ => trivial, hK _ _ _ _ h2 (St.unfix hfx hwk (St.skip (s := { t := t.map f, h := h, m := m }) o.dst hsf))⟩
  · simp at h1

theorem RW.sound {ops : Array Oper} : ∀ (os : List Oper) (i : Nat) (t : List D) (h : List Blk), ops.toList.drop i = os → RW P Γ m ops.toList false os t h (fun t' h' => Q .normal { t := t', h := h', m := m }) →
    ∀ (a : Act) (w : World), St Γ X { t := t, h := h, m := m } a w → wpOpsIn (FW r) 0 P ops (LiftQ Γ X Q) (List.range' i os.length) a w := by
  intro os
  induction os with
  | nil =>
    intro i t h hd hr a w hs
    exact ⟨by simp, by simp, _, hr, hs⟩
  | cons o os ih =>
    intro i t h hd hr a w hs
    have ho : ops[i]? = some o := by
      rw [← Array.getElem?_toList]
      have := congrArg (·[0]?) hd
      simpa using this
    have hd' : ops.toList.drop (i + 1) = os := by
      have := congrArg (List.drop 1) hd
      simpa [Nat.add_comm] using this
    simp only [List.length_cons, List.range'_succ, wpOpsIn, ho]
    exact St_put_step rfl hr (fun d h' a' w' hk hs' => ih (i + 1) _ _ hd' hk.2 a' w' hs') hs

theorem VW.regionW {id : Nat} {ops : Array Oper} (hr : RW P Γ m ops.toList false ops.toList t h (fun t' h' => Q .normal { t := t', h := h', m := m })) : VW P Γ X r (.region id ops false) Q { t := t, h := h, m := m } := fun a w hs =>
  wpIn_region (by
    have := RW.sound (r := r) (X := X) (Q := Q) ops.toList 0 t h (by simp) hr a w hs
    simpa [List.range_eq_range'] using this)

theorem VW.drawW (ok : POk P) {id : Nat} {ops : Array Oper} (hD : drawOkB ops.toList (befs ops.toList []) = true) (hx : ops.toList.all (fun o => match o.dst with | some x => decide (x < t.length) | none => true) = true)
    (hr : RW P Γ m ops.toList true ops.toList t h (fun t' h' => Q .normal { t := t', h := h', m := m })) : VW P Γ X r (.region id ops true) Q { t := t, h := h, m := m } := by
  obtain ⟨tF, hs, ts, g1, g2, g3⟩ := RW.runR _ _ _ hr
  have hD' := drawOk_of hD
  have hx' := hx
  clear hx
  refine VW.draw (hs := hs) (ts := ts) ok hD' g1 ?_ ?_
  · intro i o ho hq ⟨f0, hf0, hg0⟩ k hk hcomp
    obtain ⟨g5, g6, g7, g8, hat⟩ := runR_at _ _ _ _ _ _ g1
    obtain ⟨call, hc, f, dw, d, ⟨hfx, h1, hwk⟩, h2, h3, h4⟩ := hat i o ho
    have hi : i ≤ ops.toList.length := by
      have := (List.getElem?_eq_some_iff.1 ho).1
      omega
    have hk' : k ≤ ops.toList.length := by
      simp only [cands, List.mem_cons, List.mem_map] at hk
      rcases hk with rfl | ⟨c, hc1, rfl⟩
      · omega
      · obtain ⟨o', ho', _⟩ := of_mem_chains hc1
        have := (List.getElem?_eq_some_iff.1 ho').1
        omega
    rw [g3 i hi] at h1
    rw [g3 k hk']
    have hwx : ∀ x, o.dst = some x → Wk dw (tF.getD x .any) := fun x hx => by
      have hxl : x < t.length := by
        have := List.all_eq_true.1 hx' o (List.mem_of_getElem? ho)
        simpa [hx] using this
      rw [h4 x hx (fun j o' hj ho' hd => by have := hD'.uniq i j o o' x ho ho' hx hd; omega) hxl]
      exact hwk
    unfold stepD at h1
    split at h1
    · rename_i hg
      split at h1
      · rename_i d1 h1' hop
        split at h1
        · simp only [Option.some.injEq, Prod.mk.injEq] at h1
          obtain ⟨rfl, _⟩ := h1
          unfold runOp at hop
          split at hop
          · rename_i ho2
            rw [ho2] at hq
            simp [quietOp] at hq
          · split at hop
            · rename_i hsem
              cases hop
              exact ⟨f, _, _, hfx, hsem, hwx⟩
            · simp at hop
        · simp at h1
      · simp at h1
    · rename_i hg
      exact absurd (guardD_same X.w hfx hf0 hg hg0) (by simp)
    · simp at h1
  · have := g3 ops.toList.length (Nat.le_refl _)
    rw [show ops.size = ops.toList.length by simp, this]
    exact g2
end
end Go.Vi
namespace Go.Vi
open Go

mutual
def D.mapR (f : Ref → D) : D → D
  | .ref r => f r
  | .fn g a b => .fn g (D.mapRL f a) (D.mapRL f b)
  | .agg cs => .agg (D.mapRL f cs)
  | .tup cs => .tup (D.mapRL f cs)
  | .grd g d => .grd g (D.mapR f d)
  | .p x => .p x
  | .any => .any
  | .ep cs => .ep cs
  | .csl es => .csl es
def D.mapRL (f : Ref → D) : List D → List D
  | [] => []
  | d :: ds => D.mapR f d :: D.mapRL f ds
end

def Blk.mapR (f : Ref → D) : Blk → Blk
  | .var cs => .var (D.mapRL f cs)
  | .vec es e sz => .vec (es.map (D.mapRL f)) e sz
  | .map kvs clock => .map (kvs.map fun e => (D.mapR f e.1, D.mapR f e.2.1, e.2.2)) clock
  | .loop st pend fn ts ps asg body => .loop st pend fn (D.mapRL f ts) ps asg body
  | x => x

theorem mapRL_length (f : Ref → D) : ∀ ds : List D, (D.mapRL f ds).length = ds.length
  | [] => rfl
  | _ :: ds => by simp [D.mapRL, mapRL_length f ds]
theorem mapRL_append (f : Ref → D) : ∀ xs ys : List D, D.mapRL f (xs ++ ys) = D.mapRL f xs ++ D.mapRL f ys
  | [], _ => rfl
  | x :: xs, ys => by simp [D.mapRL, mapRL_append f xs ys]
theorem mapRL_flatten (f : Ref → D) : ∀ es : List (List D), D.mapRL f es.flatten = (es.map (D.mapRL f)).flatten
  | [] => rfl
  | e :: es => by simp [mapRL_append, mapRL_flatten f es]
theorem mapRL_pure (f : Ref → D) : ∀ ds : List Dp, D.mapRL f (ds.map .p) = ds.map .p
  | [] => rfl
  | d :: ds => by simp [D.mapRL, D.mapR, mapRL_pure f ds]
/-- Rows without references stay. -/
theorem mapRL_rows (f : Ref → D) (es : List (List Dp)) : (es.map (·.map D.p)).map (D.mapRL f) = es.map (·.map D.p) := by
  simp [Function.comp_def, mapRL_pure]

section
variable {w : World} {av av' : Nat → Prop} {l : Loc} {h h' : List Blk} {f : Ref → D}
mutual
theorem rel_mapR (ha : ∀ k, av' k → av k) (hf : ∀ r y, RefRel l h r y → Rel w av' l h' (f r) y) : ∀ {d : D} {y : Value}, Rel w av l h d y → Rel w av' l h' (D.mapR f d) y
  | .p _, _, r => by simp only [Rel, D.mapR] at r ⊢; exact relP_take ha r
  | .any, _, _ => by simp [Rel, D.mapR]
  | .ref r, y, rr => by simp only [D.mapR]; exact hf r y (by simpa only [Rel] using rr)
  | .ep _, _, r => by
    simp only [Rel, D.mapR] at r ⊢
    obtain ⟨blk, off, r1, r2⟩ := r
    exact ⟨blk, off, r1, relCells_take ha r2⟩
  | .csl _, _, r => by
    simp only [Rel, D.mapR] at r ⊢
    rcases r with r | ⟨blk, off, sz, r1, r2⟩
    · exact .inl r
    · exact .inr ⟨blk, off, sz, r1, relRows_take ha r2⟩
  | .fn _ _ _, _, r => by
    simp only [Rel, D.mapR] at r ⊢
    obtain ⟨a, c, r1, r2, r3⟩ := r
    exact ⟨a, c, r1, relL_mapR ha hf r2, relL_mapR ha hf r3⟩
  | .agg _, _, r => by
    simp only [Rel, D.mapR] at r ⊢
    obtain ⟨vs, r1, r2⟩ := r
    exact ⟨vs, r1, relL_mapR ha hf r2⟩
  | .tup _, _, r => by
    simp only [Rel, D.mapR] at r ⊢
    obtain ⟨vs, r1, r2⟩ := r
    exact ⟨vs, r1, relL_mapR ha hf r2⟩
  | .grd _ _, _, r => by
    simp only [Rel, D.mapR] at r ⊢
    exact ⟨fun hg => rel_mapR ha hf (r.1 hg), r.2⟩
theorem relL_mapR (ha : ∀ k, av' k → av k) (hf : ∀ r y, RefRel l h r y → Rel w av' l h' (f r) y) : ∀ {ds : List D} {ys : List Value}, RelL w av l h ds ys → RelL w av' l h' (D.mapRL f ds) ys
  | [], [], _ => by simp [RelL, D.mapRL]
  | [], _ :: _, r => by simp [RelL] at r
  | _ :: _, [], r => by simp [RelL] at r
  | _ :: _, _ :: _, r => by
    simp only [RelL, D.mapRL] at r ⊢
    exact ⟨rel_mapR ha hf r.1, relL_mapR ha hf r.2⟩
end

theorem relKV_mapR (ha : ∀ k, av' k → av k) (hf : ∀ r y, RefRel l h r y → Rel w av' l h' (f r) y) : ∀ {kvs : List (D × D × Nat)} {es : List MapEntry}, RelKV w av l h kvs es →
    RelKV w av' l h' (kvs.map fun e => (D.mapR f e.1, D.mapR f e.2.1, e.2.2)) es
  | [], [], _ => by simp [RelKV]
  | [], _ :: _, r => by simp [RelKV] at r
  | _ :: _, [], r => by simp [RelKV] at r
  | (k, d, m) :: kvs, e :: es, r => by
    simp only [RelKV, List.map_cons] at r ⊢
    exact ⟨rel_mapR ha hf r.1, rel_mapR ha hf r.2.1, r.2.2.1, relKV_mapR ha hf r.2.2.2⟩

theorem blkOk_mapR (ha : ∀ k, av' k → av k) (hf : ∀ r y, RefRel l h r y → Rel w av' l h' (f r) y) (hm : ∀ b y, RefRel l h (.mp b) y → RefRel l h' (.mp b) y) {b : Nat} {x : Blk} (r : BlkOk w av l h b x) : BlkOk w av' l h' b (x.mapR f) := by
  cases x with
  | var cs =>
    obtain ⟨blk, cp, c, T, r1, r2, r3⟩ := r
    exact ⟨blk, cp, c, T, r1, r2, relL_mapR ha hf r3⟩
  | vec es e sz =>
    unfold BlkOk at r ⊢
    simp only [Blk.mapR] at r ⊢
    split
    · rename_i h0; rw [h0] at r; simp only at r; rw [r]; rfl
    · rename_i blk cap h0
      rw [h0] at r
      obtain ⟨c, T, fr, ys, r1, r2, r3, r4, r5, r6, r7⟩ := r
      refine ⟨c, T, fr, ys, r1, r2, by simpa using r3, r4, ?_, ?_, r7⟩
      · intro e he
        obtain ⟨e0, he0, rfl⟩ := List.mem_map.1 he
        rw [mapRL_length]; exact r5 e0 he0
      · rw [← mapRL_flatten]; exact relL_mapR ha hf r6
  | map kvs clock =>
    obtain ⟨blk, cp, es, r1, r2, r3⟩ := r
    exact ⟨blk, cp, es, r1, r2, relKV_mapR ha hf r3⟩
  | sit s pos => exact r
  | mit m since seen st =>
    obtain ⟨blk, cp, mr, r1, r2, r3⟩ := r
    refine ⟨blk, cp, mr, r1, r2, ?_⟩
    cases m with
    | none => exact r3
    | some mb => exact hm mb _ r3
  | loop st pend fn tmps params asg body =>
    obtain ⟨blk, cp, ts, dr, fn', r1, r2, r3⟩ := r
    exact ⟨blk, cp, ts, dr, fn', r1, r2, relL_mapR ha hf r3⟩
  | defd => exact r
  | gone => trivial
end

theorem mapR_gone {f : Ref → D} {x : Blk} : x.mapR f = .gone ↔ x = .gone := by cases x <;> simp [Blk.mapR]

/-- The blocks, all references told anew, one block another. -/
def mapH (f : Ref → D) (b : Nat) (xb : Blk) (h : List Blk) : List Blk := (h.map (Blk.mapR f)).set b xb

def Ref.blk : Ref → Nat
  | .ptr b _ | .vec b _ | .vs b _ _ _ _ | .av b _ _ _ | .vp b _ _ _ | .mp b | .it b | .yl b => b

section
variable {Γ : Glob} {O : Nat → Prop} {w w0 : World} {l l0 : Loc} {h h0 : List Blk} {f : Ref → D} {b : Nat} {xb x0 : Blk}

theorem mapH_ne {i : Nat} (hi : i ≠ b) : (mapH f b xb h)[i]? = (h[i]?).map (Blk.mapR f) := by
  unfold mapH
  rw [List.getElem?_set_ne (Ne.symm hi), List.getElem?_map]
theorem mapH_eq (hb : h[b]? = some x0) : (mapH f b xb h)[b]? = some xb := by
  unfold mapH
  have := (List.getElem?_eq_some_iff.1 hb).1
  rw [List.getElem?_set_self (by simpa using this)]

theorem own_mapH (hb : h[b]? = some x0) (hg : x0 ≠ .gone) {k : Nat} (ho : own l (mapH f b xb h) k) : own l h k := by
  obtain ⟨i, x, cp, h1, h2, h3⟩ := ho
  by_cases hi : i = b
  · subst hi; exact ⟨i, x0, cp, hb, hg, h3⟩
  · rw [mapH_ne hi] at h1
    cases hx : h[i]? with
    | none => rw [hx] at h1; simp at h1
    | some y =>
      rw [hx] at h1
      simp only [Option.map_some, Option.some.injEq] at h1
      subst h1
      exact ⟨i, y, cp, hx, fun e => h2 (mapR_gone.2 e), h3⟩
theorem avs_mapH (hb : h[b]? = some x0) (hg : x0 ≠ .gone) {k : Nat} (ho : avs O l (mapH f b xb h) k) : avs O l h k := ho.imp id (own_mapH hb hg)

theorem refRel_mapH {r : Ref} {y : Value} (hr : r.blk ≠ b) (rr : RefRel l h r y) : RefRel l (mapH f b xb h) r y := by
  have key : (mapH f b xb h)[r.blk]? = (h[r.blk]?).map (Blk.mapR f) := mapH_ne hr
  unfold RefRel at rr ⊢
  refine ⟨rr.1, ?_⟩
  have rr := rr.2
  cases hx : h[r.blk]? with
  | none => cases r <;> simp only [Ref.blk] at hx <;> simp only [hx] at rr
  | some x =>
    rw [hx] at key
    cases r <;> simp only [Ref.blk] at hx key <;> simp only [hx] at rr <;> simp only [key, Option.map_some] <;> cases x <;> simp [Blk.mapR] at rr ⊢ <;> exact rr

theorem le_mapR {x y : Blk} (h : x.le y) : x.le (y.mapR f) ∧ (x.stays (y.mapR f) → x.stays y) := by
  cases x <;> cases y <;> simp only [Blk.le] at h <;> simp_all [Blk.le, Blk.mapR, Blk.stays]

/-- All references are told anew, one block is another. -/
theorem Rep.mapH (R : Rep Γ O w l h) (hb : h[b]? = some x0) (hg : x0 ≠ .gone) (hf : ∀ r y, RefRel l h r y → Rel w (avs O l (mapH f b xb h)) l (mapH f b xb h) (f r) y)
    (hok : BlkOk w (avs O l (mapH f b xb h)) l (mapH f b xb h) b xb) (hm : ∀ y, ¬ RefRel l h (.mp b) y) : Rep Γ O w l (mapH f b xb h) where
  inb blk ho := R.inb blk (own_mapH hb hg ho)
  obd := R.obd
  inj i i' x x' k c c' h1 h2 h3 h4 h5 h6 := by
    have back : ∀ {i : Nat} {x : Blk}, (Vi.mapH f b xb h)[i]? = some x → x ≠ .gone → ∃ y, h[i]? = some y ∧ y ≠ .gone := by
      intro i x h1 h2
      by_cases hi : i = b
      · subst hi; exact ⟨x0, hb, hg⟩
      · rw [mapH_ne hi] at h1
        cases hx : h[i]? with
        | none => rw [hx] at h1; simp at h1
        | some y =>
          rw [hx] at h1
          simp only [Option.map_some, Option.some.injEq] at h1
          subst h1
          exact ⟨y, rfl, fun e => h2 (mapR_gone.2 e)⟩
    obtain ⟨y, e1, e2⟩ := back h1 h2
    obtain ⟨y', e3, e4⟩ := back h3 h4
    exact R.inj i i' y y' k c c' e1 e2 e3 e4 h5 h6
  blk i x h1 := by
    by_cases hi : i = b
    · subst hi
      rw [mapH_eq hb] at h1
      cases h1
      exact hok
    · rw [mapH_ne hi] at h1
      cases hx : h[i]? with
      | none => rw [hx] at h1; simp at h1
      | some y =>
        rw [hx] at h1
        simp only [Option.map_some, Option.some.injEq] at h1
        subst h1
        refine blkOk_mapR (fun _ => avs_mapH hb hg) hf (fun c y hr => ?_) (R.blk i y hx)
        by_cases hc : c = b
        · subst hc; exact absurd hr (hm y)
        · exact refRel_mapH (by simpa [Ref.blk] using hc) hr
  glo g cs hg' := relCells_take (fun _ => avs_mapH hb hg) (R.glo g cs hg')

theorem Ext.mapH (E : Ext w0 l0 h0 w l h) (hb : h[b]? = some x0) (hg : x0 ≠ .gone) (hle : ∀ x, h0[b]? = some x → x.le x0 → x.le xb ∧ (x.stays xb → x.stays x0)) : Ext w0 l0 h0 w l (mapH f b xb h) where
  size := E.size
  same := E.same
  news blk ho := E.news blk (own_mapH hb hg ho)
  keep i x hx := by
    obtain ⟨x', h1, h2, h3⟩ := E.keep i x hx
    by_cases hi : i = b
    · subst hi
      rw [hb] at h1
      cases h1
      obtain ⟨g1, g2⟩ := hle x hx h2
      exact ⟨xb, mapH_eq hb, g1, fun hs => h3 (g2 hs)⟩
    · obtain ⟨g1, g2⟩ := le_mapR (f := f) h2
      exact ⟨_, by rw [mapH_ne hi, h1]; rfl, g1, fun hs => h3 (g2 hs)⟩
  tape := E.tape
end
end Go.Vi
namespace Go.Vi
open Go

/-- A vector's rows are data from here on. -/
def frzR (b e : Nat) (rows : List (List Dp)) (r : Ref) : D := match r.blk == b with
  | false => .ref r
  | true => match r with
    | .vec _ e1 => match e1 == e with
      | true => .p (.sl rows)
      | false => .any
    | _ => .any

/-- A vector's count of changes is k. -/
def renR (b e k : Nat) (r : Ref) : D := match r.blk == b with
  | false => .ref r
  | true => match r with
    | .vec _ e1 => match e1 == e with
      | true => .ref (.vec b k)
      | false => .any
    | .vs _ e1 i n c => match e1 == e with
      | true => .ref (.vs b k i n c)
      | false => .any
    | .vp _ e1 i j => match e1 == e with
      | true => .ref (.vp b k i j)
      | false => .any
    | _ => .any

section
variable {Γ : Glob} {O : Nat → Prop} {w w0 : World} {l l0 : Loc} {h h0 : List Blk} {b : Nat}

theorem relCells_at {av av' : Nat → Prop} (ha : ∀ k, av' k → av k) {blk : Nat} (hb : ¬ av' blk) : ∀ (e : List Dp) (off : Nat), CellsAt w av l h blk off (e.map .p) → RelCells w av' blk off e
  | [], _, _ => trivial
  | d :: ds, off, c => by
    obtain ⟨y, h1, h2⟩ := c 0 (.p d) (by simp)
    refine ⟨⟨hb, y, by simpa using h1, relP_take ha (by simpa [Rel] using h2)⟩, relCells_at ha hb ds (off + 1) fun j d' hd => ?_⟩
    obtain ⟨y', h3, h4⟩ := c (j + 1) d' (by simpa using hd)
    exact ⟨y', by rw [← h3]; congr 2; omega, h4⟩

theorem relRows_at {av : Nat → Prop} {blk c : Nat} : ∀ (es : List (List Dp)) (off : Nat), (∀ i e, es[i]? = some e → e.length = c ∧ RelCells w av blk (off + i * c) e) → RelRows w av blk c off es
  | [], _, _ => trivial
  | e :: es, off, h => by
    obtain ⟨h1, h2⟩ := h 0 e rfl
    refine ⟨h1, by simpa using h2, relRows_at es (off + c) fun i e' he => ?_⟩
    obtain ⟨h3, h4⟩ := h (i + 1) e' (by simpa using he)
    refine ⟨h3, ?_⟩
    rw [show off + c + i * c = off + (i + 1) * c by rw [Nat.add_mul]; omega]
    exact h4

theorem frz_rel (R : Rep Γ O w l h) {rows : List (List Dp)} {e sz : Nat} (hb : h[b]? = some (.vec (rows.map (·.map .p)) e sz)) {r : Ref} {y : Value} (rr : RefRel l h r y)
    {f : Ref → D} : Rel w (avs O l (mapH f b .gone h)) l (mapH f b .gone h) (frzR b e rows r) y := by
  unfold frzR
  split
  · rename_i hr
    simp only [Rel]
    exact refRel_mapH (by simpa using hr) rr
  · rename_i hr
    split
    · rename_i b1 e1
      split
      · rename_i he
        have hr : b1 = b := by simpa [Ref.blk] using hr
        have he : e1 = e := by simpa using he
        subst hr; subst he
        have hk := R.blk _ _ hb
        unfold RefRel at rr
        simp only [hb] at rr
        have hv := rr.2.2 trivial
        unfold BlkOk at hk
        simp only at hk
        simp only [Rel, RelP]
        cases hl : l b1 with
        | none =>
          rw [hl] at hv hk
          simp only [VecV] at hv hk
          exact .inl ⟨by simpa using hk, none, 0, hv.2, fun _ => rfl⟩
        | some p =>
          obtain ⟨blk, cap⟩ := p
          rw [hl] at hv hk
          simp only [VecV] at hv hk
          obtain ⟨c, T, fr, ys, q1, q2, q3, q4, q5, q6, rest, q7⟩ := hk
          refine .inr ⟨blk, 0, cap, sz, by simpa using hv.1, by simpa using hv.2, ?_⟩
          have hcell : ¬ avs O l (Vi.mapH f b1 .gone h) blk := by
            rintro (ho | ⟨i, x, cp, h1, h2, h3⟩)
            · exact (R.inb blk ⟨b1, _, cap, hb, by simp, hl⟩).2 ho
            · by_cases hi : i = b1
              · subst hi; rw [mapH_eq hb] at h1; cases h1; exact h2 rfl
              · rw [mapH_ne hi] at h1
                cases hx : h[i]? with
                | none => rw [hx] at h1; simp at h1
                | some z =>
                  rw [hx] at h1
                  simp only [Option.map_some, Option.some.injEq] at h1
                  subst h1
                  exact hi (R.inj i b1 z _ blk cp cap hx (fun e => h2 (mapR_gone.2 e)) hb (by simp) h3 hl)
          refine relRows_at rows 0 fun i e1 he1 => ?_
          have hlen : e1.length = sz := by
            have := q5 (e1.map .p) (List.mem_map.2 ⟨e1, List.mem_of_getElem? he1, rfl⟩)
            simpa using this
          refine ⟨hlen, relCells_at (l := l) (h := h) (av := avs O l h) (av' := avs O l (Vi.mapH f b1 .gone h)) (fun _ ho => avs_mapH hb (by simp) ho) hcell e1 _ ?_⟩
          rw [Nat.zero_add]
          exact (CellsAt.of_rel (loc := l) (h := h) q1 q7 q6).row q5 (by rw [List.getElem?_map, he1]; rfl)
      · simp [Rel]
    · simp [Rel]

theorem ren_rel {es es' : List (List D)} (hlen : es'.length = es.length) {e k sz : Nat} (hb : h[b]? = some (.vec es e sz)) {av : Nat → Prop} {r : Ref} {y : Value} (rr : RefRel l h r y) {f : Ref → D} :
    Rel w av l (mapH f b (.vec es' k sz) h) (renR b e k r) y := by
  have hb' : (mapH f b (.vec es' k sz) h)[b]? = some (.vec es' k sz) := mapH_eq hb
  unfold renR
  split
  · rename_i hr
    simp only [Rel]
    exact refRel_mapH (by simpa using hr) rr
  · rename_i hr
    split
    · rename_i b1 e1
      split
      · rename_i he
        have hr : b1 = b := by simpa [Ref.blk] using hr
        have he : e1 = e := by simpa using he
        subst hr; subst he
        unfold RefRel at rr
        simp only [hb] at rr
        simp only [Rel]
        unfold RefRel
        simp only [hb']
        exact ⟨rr.1, Nat.le_refl _, fun _ => by rw [hlen]; exact rr.2.2 trivial⟩
      · simp [Rel]
    · rename_i b1 e1 i n c
      split
      · rename_i he
        have hr : b1 = b := by simpa [Ref.blk] using hr
        have he : e1 = e := by simpa using he
        subst hr; subst he
        unfold RefRel at rr
        simp only [hb] at rr
        simp only [Rel]
        unfold RefRel
        simp only [hb']
        exact ⟨rr.1, Nat.le_refl _, fun _ => by rw [hlen]; exact rr.2.2 trivial⟩
      · simp [Rel]
    · rename_i b1 e1 i j
      split
      · rename_i he
        have hr : b1 = b := by simpa [Ref.blk] using hr
        have he : e1 = e := by simpa using he
        subst hr; subst he
        unfold RefRel at rr
        simp only [hb] at rr
        simp only [Rel]
        unfold RefRel
        simp only [hb']
        exact ⟨rr.1, Nat.le_refl _, fun _ => rr.2.2 trivial⟩
      · simp [Rel]
    · simp [Rel]
end
end Go.Vi
namespace Go.Vi
open Go

inductive SOp where
  | mask (ks : List Nat)
  | trim (k : Nat)
  | frz (b : Nat) (rows : List (List Dp))
  | ren (b k : Nat)
  | nilT (i sz : Nat)
  | nilC (b off sz : Nat)

def AllP : List Prop → Prop
  | [] => True
  | p :: ps => p ∧ AllP ps

theorem AllP.append {ps qs : List Prop} (h : AllP (ps ++ qs)) : AllP ps ∧ AllP qs := by
  induction ps with
  | nil => exact ⟨trivial, h⟩
  | cons p ps ih => exact ⟨⟨h.1, (ih h.2).1⟩, (ih h.2).2⟩

def memT (x : Nat) : List Nat → Bool
  | [] => false
  | y :: ys => x == y || memT x ys
theorem memT_iff {x : Nat} : ∀ {ys : List Nat}, memT x ys = true ↔ x ∈ ys
  | [] => by simp [memT]
  | y :: ys => by simp [memT, memT_iff (ys := ys)]

/-- Only these temporaries are told of. -/
def maskT (ks : List Nat) : Nat → List D → List D
  | _, [] => []
  | i, d :: ds => (match memT i ks with | true => d | false => .any) :: maskT ks (i + 1) ds

theorem maskT_wk (ks : List Nat) : ∀ (i : Nat) (t : List D), (maskT ks i t).length = t.length ∧ ∀ x, Wk (t.getD x .any) ((maskT ks i t).getD x .any)
  | _, [] => ⟨rfl, fun x => Wk.refl _⟩
  | i, d :: ds => by
    obtain ⟨h1, h2⟩ := maskT_wk ks (i + 1) ds
    refine ⟨by simp [maskT, h1], fun x => ?_⟩
    cases x with
    | zero =>
      simp only [maskT, List.getD_cons_zero]
      split
      · exact Wk.refl _
      · exact fun _ _ _ _ _ _ => by simp [Rel]
    | succ x => simpa [maskT] using h2 x

def maskS (ks : List Nat) (s : AS) : AS := { t := maskT ks 0 s.t, h := s.h, m := s.m }

theorem DefOk.take {l : Loc} {h : List Blk} {k : Nat} : ∀ {bs : List Nat} {ds : List Deferred}, (bs.all fun b => decide (b < k)) = true → DefOk l h bs ds → DefOk l (h.take k) bs ds
  | [], [], _, _ => trivial
  | b :: bs, d :: ds, hb, r => by
    simp only [DefOk, List.all_cons, Bool.and_eq_true, decide_eq_true_eq] at r hb ⊢
    obtain ⟨⟨blk, cp, h1, h2, h3⟩, h4⟩ := r
    exact ⟨⟨blk, cp, by rw [take_get hb.1]; exact h1, h2, h3⟩, DefOk.take (by simpa using hb.2) h4⟩
  | [], _ :: _, _, r => by simp [DefOk] at r
  | _ :: _, [], _, r => by simp [DefOk] at r

theorem Ext.takeN {w0 w : World} {l0 l : Loc} {h0 h : List Blk} {k : Nat} (hk : h0.length ≤ k) (E : Ext w0 l0 h0 w l h) : Ext w0 l0 h0 w l (h.take k) where
  size := E.size
  same := E.same
  news blk ho := E.news blk (own_take ho)
  keep b x hb := by
    have : b < h0.length := by
      rw [List.getElem?_eq_some_iff] at hb
      exact hb.1
    rw [take_get (by omega)]
    exact E.keep b x hb
  tape := E.tape

/-- What nothing points to any more is dropped. -/
def trimS (k : Nat) (s : AS) : Option AS := match D.innL k s.t && (s.h.take k).all (Blk.inn k) && s.m.all (fun b => decide (b < k)) with
  | true => some { t := s.t, h := s.h.take k, m := s.m }
  | false => none

/-- The same, but that nothing is asked here of rows. -/
def Blk.innC (k : Nat) : Blk → Bool
  | .vec _ _ _ => true
  | .map _ _ => true
  | x => Blk.inn k x
/-- What is asked of rows. -/
def Blk.innP (k : Nat) : Blk → List Prop
  | .vec es _ _ => [es.all (D.innL k) = true]
  | .map kvs _ => [(kvs.all fun e => D.inn k e.1 && D.inn k e.2.1) = true]
  | _ => []
def innPs (k : Nat) : List Blk → List Prop
  | [] => []
  | x :: xs => Blk.innP k x ++ innPs k xs
theorem innC_ok {k : Nat} {x : Blk} (h1 : Blk.innC k x = true) (h2 : AllP (Blk.innP k x)) : Blk.inn k x = true := by
  cases x <;> first | exact h1 | exact h2.1
theorem innPs_ok {k : Nat} : ∀ {h : List Blk}, h.all (Blk.innC k) = true → AllP (innPs k h) → h.all (Blk.inn k) = true
  | [], _, _ => rfl
  | x :: xs, h1, h2 => by
    simp only [List.all_cons, Bool.and_eq_true] at h1 ⊢
    simp only [innPs] at h2
    obtain ⟨p1, p2⟩ := h2.append
    exact ⟨innC_ok h1.1 p1, innPs_ok h1.2 p2⟩
theorem allP_append {ps qs : List Prop} (h1 : AllP ps) (h2 : AllP qs) : AllP (ps ++ qs) := by
  induction ps with
  | nil => exact h2
  | cons p ps ih => exact ⟨h1.1, ih h1.2⟩
theorem innPs_of {k : Nat} : ∀ {h : List Blk}, h.all (Blk.inn k) = true → h.all (Blk.innC k) = true ∧ AllP (innPs k h)
  | [], _ => ⟨rfl, trivial⟩
  | x :: xs, h => by
    simp only [List.all_cons, Bool.and_eq_true] at h ⊢
    obtain ⟨i1, i2⟩ := innPs_of h.2
    have hx := h.1
    refine ⟨⟨?_, i1⟩, allP_append ?_ i2⟩
    · cases x <;> first | rfl | exact hx
    · cases x <;> first | trivial | exact ⟨hx, trivial⟩
def trimC (k : Nat) (s : AS) : Option AS := match D.innL k s.t && (s.h.take k).all (Blk.innC k) && s.m.all (fun b => decide (b < k)) with
  | true => some { t := s.t, h := s.h.take k, m := s.m }
  | false => none
theorem trimC_of {k : Nat} {s s' : AS} (h : trimS k s = some s') : trimC k s = some s' ∧ AllP (innPs k (s.h.take k)) := by
  unfold trimS at h
  split at h
  case h_2 => simp at h
  rename_i hb
  simp only [Bool.and_eq_true] at hb
  obtain ⟨i1, i2⟩ := innPs_of hb.1.2
  refine ⟨?_, i2⟩
  unfold trimC
  rw [hb.1.1, i1, hb.2]
  exact h

def keepK (f : Ref → D) : Blk → List Prop
  | .vec es _ _ => [es.map (D.mapRL f) = es]
  | .map kvs _ => [kvs.map (fun e => (D.mapR f e.1, D.mapR f e.2.1, e.2.2)) = kvs]
  | _ => []
def keepX (f : Ref → D) : Blk → Blk
  | .vec es e sz => .vec es e sz
  | .map kvs c => .map kvs c
  | x => x.mapR f
theorem keepX_eq {f : Ref → D} {x : Blk} (h : AllP (keepK f x)) : keepX f x = x.mapR f := by
  cases x <;> simp only [keepX, Blk.mapR]
  · rw [h.1]
  · rw [h.1]
def keepH (f : Ref → D) (b : Nat) (xb : Blk) : Nat → List Blk → List Blk
  | _, [] => []
  | i, x :: xs => (match i == b with | true => xb | false => keepX f x) :: keepH f b xb (i + 1) xs
def keepP (f : Ref → D) (b : Nat) : Nat → List Blk → List Prop
  | _, [] => []
  | i, x :: xs => (match i == b with | true => [] | false => keepK f x) ++ keepP f b (i + 1) xs

theorem keepH_get {f : Ref → D} {b : Nat} {xb : Blk} : ∀ (i : Nat) (h : List Blk), AllP (keepP f b i h) → ∀ j, (keepH f b xb i h)[j]? = if i + j = b then (h[j]?).map (fun _ => xb) else (h[j]?).map (Blk.mapR f)
  | i, [], _, j => by simp [keepH]
  | i, x :: xs, hp, j => by
    simp only [keepP] at hp
    obtain ⟨p1, p2⟩ := hp.append
    cases j with
    | zero =>
      simp only [keepH, List.getElem?_cons_zero, Nat.add_zero, Option.map_some]
      by_cases hi : i = b
      · simp [hi]
      · have : (i == b) = false := by simpa using hi
        rw [this] at p1 ⊢
        simp [hi, keepX_eq p1]
    | succ j =>
      simp only [keepH, List.getElem?_cons_succ]
      rw [keepH_get (i + 1) xs p2 j]
      rw [show i + 1 + j = i + (j + 1) by omega]

theorem keepH_eq {f : Ref → D} {b : Nat} {xb x0 : Blk} {h : List Blk} (hb : h[b]? = some x0) (hp : AllP (keepP f b 0 h)) : keepH f b xb 0 h = mapH f b xb h := by
  apply List.ext_getElem?
  intro j
  rw [keepH_get 0 h hp j]
  by_cases hj : j = b
  · subst hj; rw [mapH_eq hb, hb]; simp
  · rw [mapH_ne hj, if_neg (by omega)]

def renOk (h0 : List Blk) (b k : Nat) : Bool := match h0[b]? with
  | some (.vec _ e0 _) => decide (e0 < k)
  | some _ => false
  | none => true

def isNil : D → Bool
  | .p (.v (.slice none 0 0)) => true
  | _ => false

def SOp.app (h0 : List Blk) : SOp → AS → Option (AS × List Prop)
  | .mask ks, s => some (maskS ks s, [])
  | .trim k, s => match decide (h0.length ≤ k) with
    | true => match trimC k s with
      | some s' => some (s', innPs k (s.h.take k))
      | none => none
    | false => none
  | .frz b rows, s => match s.h[b]? with
    | some (.vec es e _) => some ({ t := D.mapRL (frzR b e rows) s.t, h := keepH (frzR b e rows) b .gone 0 s.h, m := s.m }, (es = rows.map (·.map .p)) :: keepP (frzR b e rows) b 0 s.h)
    | _ => none
  | .ren b k, s => match s.h[b]? with
    | some (.vec es e sz) => match renOk h0 b k with
      | true => some ({ t := D.mapRL (renR b e k) s.t, h := keepH (renR b e k) b (.vec es k sz) 0 s.h, m := s.m }, (es.map (D.mapRL (renR b e k)) = es) :: keepP (renR b e k) b 0 s.h)
      | false => none
    | _ => none
  | .nilT i sz, s => match isNil (s.t.getD i .any) && marksOk (s.h ++ [Blk.vec [] 0 sz]) s.m with
    | true => some ({ t := s.t.set i (.ref (.vec s.h.length 0)), h := s.h ++ [Blk.vec [] 0 sz], m := s.m }, [])
    | false => none
  | .nilC b off sz, s => match s.h[b]? with
    | some (.var cs) => match isNil (cs.getD off .any) && (marksOk (s.h ++ [Blk.vec [] 0 sz]) s.m && marksOk ((s.h ++ [Blk.vec [] 0 sz]).set b (.var (cs.set off (.ref (.vec s.h.length 0))))) s.m) with
      | true => some ({ t := s.t, h := (s.h ++ [Blk.vec [] 0 sz]).set b (.var (cs.set off (.ref (.vec s.h.length 0)))), m := s.m }, [])
      | false => none
    | _ => none

section
variable {Γ : Glob} {X : Ctx} {s s' : AS} {a : Act} {w : World}

theorem DefOk.mapH {l : Loc} {h : List Blk} {f : Ref → D} {b : Nat} {xb x0 : Blk} (hb : h[b]? = some x0) (hd : x0 ≠ .defd) : ∀ {bs : List Nat} {ds : List Deferred}, DefOk l h bs ds → DefOk l (mapH f b xb h) bs ds
  | [], [], _ => trivial
  | i :: bs, d :: ds, r => by
    simp only [DefOk] at r ⊢
    obtain ⟨⟨blk, cp, h1, h2, h3⟩, h4⟩ := r
    refine ⟨⟨blk, cp, ?_, h2, h3⟩, DefOk.mapH hb hd h4⟩
    by_cases hi : i = b
    · subst hi; rw [hb] at h1; cases h1; exact absurd rfl hd
    · rw [mapH_ne hi, h1]; rfl
  | [], _ :: _, r => by simp [DefOk] at r
  | _ :: _, [], r => by simp [DefOk] at r

theorem relL_setG {w : World} {av : Nat → Prop} {l : Loc} {h : List Blk} {d : D} : ∀ {t : List D} {ys : List Value} (i : Nat), RelL w av l h t ys → (∀ y, Rel w av l h (t.getD i .any) y → Rel w av l h d y) → RelL w av l h (t.set i d) ys
  | [], [], _, _, _ => by simp [RelL]
  | [], _ :: _, _, r, _ => by simp [RelL] at r
  | _ :: _, [], _, r, _ => by simp [RelL] at r
  | x :: xs, y :: ys, 0, r, hd => by
    simp only [RelL, List.set_cons_zero] at r ⊢
    exact ⟨hd y r.1, r.2⟩
  | x :: xs, y :: ys, i + 1, r, hd => by
    simp only [RelL, List.set_cons_succ] at r ⊢
    exact ⟨r.1, relL_setG i r.2 (by simpa using hd)⟩

/-- A nil slice is an empty vector that one may append to. -/
theorem nil_step {w0 : World} {l0 l : Loc} {h0 h : List Blk} {O : Nat → Prop} (sz : Nat) (R : Rep Γ O w l h) (E : Ext w0 l0 h0 w l h) :
    ∃ l', Rep Γ O w l' (h ++ [Blk.vec [] 0 sz]) ∧ Ext w0 l0 h0 w l' (h ++ [Blk.vec [] 0 sz]) ∧ Ext w l h w l' (h ++ [Blk.vec [] 0 sz]) ∧ l' h.length = none := by
  obtain ⟨R', E'⟩ := Rep.step (l' := fun k => if k = h.length then none else l k) (h' := h ++ [Blk.vec [] 0 sz]) R h.length (.vec [] 0 sz) (Nat.le_refl _) ⟨rfl, rfl, rfl⟩
    (fun b hb => by
      by_cases hlt : b < h.length
      · rw [List.getElem?_append_left hlt]
      · rw [List.getElem?_eq_none (by simp; omega), List.getElem?_eq_none (by omega)])
    (by simp) (fun b hb => by simp [hb]) (fun x hx => by simp at hx) (fun _ _ _ => rfl) (fun k c hk => by simp at hk) (fun _ => by simp [BlkOk])
  exact ⟨_, R', E.trans E', E', by simp⟩

theorem isNil_rel {w : World} {av : Nat → Prop} {l : Loc} {h : List Blk} {d : D} {y : Value} (hd : isNil d = true) (r : Rel w av l h d y) : y = .slice none 0 0 := by
  unfold isNil at hd
  split at hd
  · simpa [Rel, RelP] using r
  · simp at hd

theorem nil_rel {w : World} {av : Nat → Prop} {l : Loc} {h : List Blk} {b sz : Nat} (hb : h[b]? = some (.vec [] 0 sz)) (hl : l b = none) : Rel w av l h (.ref (.vec b 0)) (.slice none 0 0) := by
  simp only [Rel]
  unfold RefRel
  simp only [hb]
  refine ⟨by simp [Value.oneCell'], Nat.le_refl _, fun _ => ?_⟩
  rw [hl]
  exact ⟨rfl, rfl⟩

theorem SOp.sound {o : SOp} {φ : List Prop} (ha : o.app X.h s = some (s', φ)) (hp : AllP φ) (hs : St Γ X s a w) : St Γ X s' a w := by
  cases o with
  | mask ks =>
    simp only [SOp.app, Option.some.injEq, Prod.mk.injEq] at ha
    obtain ⟨rfl, _⟩ := ha
    obtain ⟨k1, k2⟩ := maskT_wk ks 0 s.t
    exact hs.wk k1 k2
  | trim k =>
    simp only [SOp.app] at ha
    split at ha
    case h_2 => simp at ha
    rename_i hk
    split at ha
    case h_2 => simp at ha
    rename_i s1 ht
    simp only [Option.some.injEq, Prod.mk.injEq] at ha
    obtain ⟨rfl, rfl⟩ := ha
    unfold trimC at ht
    split at ht
    case h_2 => simp at ht
    rename_i hb
    simp only [Bool.and_eq_true] at hb
    cases ht
    obtain ⟨l, R, E, rt, rd⟩ := hs
    exact ⟨l, R.take (innPs_ok hb.1.2 hp), E.takeN (by simpa using hk), relL_take (fun _ => avs_take) hb.1.1 rt, rd.take hb.2⟩
  | frz b rows =>
    simp only [SOp.app] at ha
    split at ha
    case h_2 => simp at ha
    rename_i es e sz hb
    simp only [Option.some.injEq, Prod.mk.injEq] at ha
    obtain ⟨rfl, rfl⟩ := ha
    obtain ⟨rfl, hp⟩ := hp
    obtain ⟨l, R, E, rt, rd⟩ := hs
    refine ⟨l, ?_⟩
    simp only [keepH_eq hb hp]
    have hf := fun (r : Ref) (y : Value) (rr : RefRel l s.h r y) => frz_rel R hb rr (f := frzR b e rows)
    refine ⟨R.mapH hb (by simp) hf (by simp [BlkOk]) (fun y hr => ?_), E.mapH hb (by simp) (fun x _ _ => ⟨by cases x <;> simp [Blk.le], fun h => by cases x <;> simp [Blk.stays] at h⟩),
      relL_mapR (fun _ ho => avs_mapH hb (by simp) ho) hf rt, rd.mapH hb (by simp)⟩
    unfold RefRel at hr
    simp [hb] at hr
  | ren b k =>
    simp only [SOp.app] at ha
    split at ha
    case h_2 => simp at ha
    rename_i es e sz hb
    split at ha
    case h_2 => simp at ha
    rename_i hk
    simp only [Option.some.injEq, Prod.mk.injEq] at ha
    obtain ⟨rfl, rfl⟩ := ha
    obtain ⟨he, hp⟩ := hp
    obtain ⟨l, R, E, rt, rd⟩ := hs
    refine ⟨l, ?_⟩
    simp only [keepH_eq hb hp]
    have hm : ∀ y, ¬ RefRel l s.h (.mp b) y := fun y hr => by
      unfold RefRel at hr
      simp [hb] at hr
    have ha' : ∀ k', avs X.O l (mapH (renR b e k) b (.vec es k sz) s.h) k' → avs X.O l s.h k' := fun _ ho => avs_mapH hb (by simp) ho
    have hf : ∀ (r : Ref) (y : Value), RefRel l s.h r y → Rel w (avs X.O l (mapH (renR b e k) b (.vec es k sz) s.h)) l (mapH (renR b e k) b (.vec es k sz) s.h) (renR b e k r) y :=
      fun r y rr => ren_rel rfl hb rr
    have hbk := blkOk_mapR ha' hf (fun c y hr => by
        by_cases hc : c = b
        · subst hc; exact absurd hr (hm y)
        · exact refRel_mapH (by simpa [Ref.blk] using hc) hr) (R.blk b _ hb)
    simp only [Blk.mapR, he] at hbk
    refine ⟨R.mapH hb (by simp) hf (by unfold BlkOk at hbk ⊢; exact hbk) hm, E.mapH hb (by simp) (fun x hx hle => ?_), relL_mapR ha' hf rt, rd.mapH hb (by simp)⟩
    unfold renOk at hk
    rw [hx] at hk
    cases x with
    | vec es0 e0 sz0 =>
      simp only [decide_eq_true_eq] at hk
      simp only [Blk.le] at hle ⊢
      simp only [Blk.stays]
      exact ⟨⟨by omega, fun h => by omega, hle.2.2⟩, fun h => by omega⟩
    | _ => simp at hk
  | nilT i sz =>
    simp only [SOp.app] at ha
    split at ha
    case h_2 => simp at ha
    rename_i hn
    simp only [Bool.and_eq_true] at hn
    simp only [Option.some.injEq, Prod.mk.injEq] at ha
    obtain ⟨rfl, _⟩ := ha
    obtain ⟨l, R, E, rt, rd⟩ := hs
    obtain ⟨l', R', E', E2, hl⟩ := nil_step sz R E
    refine ⟨l', R', E', ?_, DefOk.mono E2.keep hn.2 rd⟩
    have rt' := E2.relL rt
    refine relL_setG i rt' fun y hy => ?_
    obtain rfl := isNil_rel hn.1 hy
    exact nil_rel (sz := sz) (by simp) hl
  | nilC b off sz =>
    simp only [SOp.app] at ha
    split at ha
    case h_2 => simp at ha
    rename_i cs hb
    split at ha
    case h_2 => simp at ha
    rename_i hn
    simp only [Bool.and_eq_true] at hn
    simp only [Option.some.injEq, Prod.mk.injEq] at ha
    obtain ⟨rfl, _⟩ := ha
    obtain ⟨l, R, E, rt, rd⟩ := hs
    obtain ⟨l', R', E', E2, hl⟩ := nil_step sz R E
    have hlt := (List.getElem?_eq_some_iff.1 hb).1
    have hb' : (s.h ++ [Blk.vec [] 0 sz])[b]? = some (.var cs) := by rw [List.getElem?_append_left hlt]; exact hb
    obtain ⟨R3, E3⟩ := Rep.step (w' := w) (l' := l') (h' := (s.h ++ [Blk.vec [] 0 sz]).set b (.var (cs.set off (.ref (.vec s.h.length 0))))) R' b (.var (cs.set off (.ref (.vec s.h.length 0)))) (Nat.le_refl _) ⟨rfl, rfl, rfl⟩
      (fun i hi => by rw [List.getElem?_set_ne (Ne.symm hi)]) (by rw [List.getElem?_set_self (by simp; omega)]) (fun _ _ => rfl) (fun x hx => by rw [hb'] at hx; cases hx; simp [Blk.le])
      (fun _ _ _ => rfl) (fun k c hk => .inl ⟨_, c, hb', by simp, hk⟩) (fun E3 => by
        obtain ⟨blk, cp, c, T, q1, q2, q3⟩ := R'.blk b _ hb'
        refine ⟨blk, cp, c, T, q1, q2, relL_setG off (E3.relL q3) fun y hy => ?_⟩
        obtain rfl := isNil_rel hn.1 hy
        refine nil_rel (sz := sz) ?_ hl
        rw [List.getElem?_set_ne (by omega)]
        simp)
    exact ⟨l', R3, E'.trans E3, E3.relL (E2.relL rt), DefOk.mono E3.keep hn.2.2 (DefOk.mono E2.keep hn.2.1 rd)⟩
end
end Go.Vi
