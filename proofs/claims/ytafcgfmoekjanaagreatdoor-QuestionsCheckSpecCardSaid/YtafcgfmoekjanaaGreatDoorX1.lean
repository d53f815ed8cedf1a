/- QuestionsCheckSpec: for every input the law returns true and each argument reads behind the call as it read before: the given card, proved. No conditions beyond the statement's own. -/
import Derived.Test.YtafcgfmoekjanaaGreatDoorW3
import Derived.Test.YtafcgfmoekjanaaGreatDoorCards
import Derived.Test.YtafcgfmoekjanaaGreatDoorTie
import Derived.WalkKit
import Derived.ProofKit
import Derived.OpenShut
import Derived.Deep.DeepHandedRow
import Derived.Lib.LaidTab
import Derived.ChangeMaps5
open Go Go.Proofs
namespace Go.Vi
open Go.ChangeShapes Go.WideShapes Go.ChangeAt Go.RowKit Go.Proofs.YtafcgfmoekjanaaGreatDoor
set_option maxRecDepth 100000

theorem cells3 : Tryz.prog.cellsOf 3 = 1 := by kernel_rfl
theorem cells23 : Tryz.prog.cellsOf 23 = 4 := by kernel_rfl
theorem cells24 : Tryz.prog.cellsOf 24 = 1 := by kernel_rfl
theorem cells25 : Tryz.prog.cellsOf 25 = 1 := by kernel_rfl
theorem cells27 : Tryz.prog.cellsOf 27 = 10 := by kernel_rfl
theorem cells47 : Tryz.prog.cellsOf 47 = 3 := by kernel_rfl
theorem cells49 : Tryz.prog.cellsOf 49 = 5 := by kernel_rfl
theorem bytes3 : Tryz.prog.bytesOf 3 = 8 := by kernel_rfl
theorem bytes49 : Tryz.prog.bytesOf 49 = 40 := by kernel_rfl
theorem plain34 : plainB Tryz.prog [3, 23, 24, 25, 27, 47, 49] = true := by kernel_rfl

theorem shp_int {n : Nat} {ds : List Dp} (h : Shp Tryz.prog n 3 ds) : ∃ x, ds = [vi x] ∧ I64 x := by
  cases n with
  | zero => exact h.elim
  | succ n =>
    simp only [Shp, Tryz.underlying3] at h
    obtain ⟨x, rfl, hw⟩ := h
    refine ⟨x, rfl, ?_⟩
    have := bounds_i64 hw
    exact this

theorem shp_qu {n : Nat} {ds : List Dp} (h : Shp Tryz.prog n 23 ds) : ∃ q : QuT, ds = q.row := by
  cases n with
  | zero => exact h.elim
  | succ n =>
    simp only [Shp, Tryz.underlying23, List.forall_mem_cons, cells3, cells23] at h
    obtain ⟨hl, h1, h2, h3, h4, _⟩ := h
    obtain ⟨a, e1, _⟩ := shp_int h1
    obtain ⟨b, e2, _⟩ := shp_int h2
    obtain ⟨c, e3, _⟩ := shp_int h3
    obtain ⟨d, e4, _⟩ := shp_int h4
    match ds, hl with
    | [p, q, r, t], _ =>
      simp at e1 e2 e3 e4
      subst e1; subst e2; subst e3; subst e4
      exact ⟨⟨a, b, c, d⟩, rfl⟩

theorem map_of {α : Type} {row : α → List Dp} {ok : α → Prop} : ∀ {es : List (List Dp)}, (∀ r ∈ es, ∃ a, r = row a ∧ ok a) → ∃ l : List α, es = l.map row ∧ ∀ a ∈ l, ok a
  | [], _ => ⟨[], rfl, by simp⟩
  | r :: es, h => by
    obtain ⟨a, rfl, ha⟩ := h r (List.mem_cons_self ..)
    obtain ⟨l, rfl, hl⟩ := map_of (fun r hr => h r (List.mem_cons_of_mem _ hr))
    exact ⟨a :: l, rfl, fun b hb => (List.mem_cons.1 hb).elim (fun e => e ▸ ha) (hl b)⟩

theorem short_of {n k : Nat} (h : n * k ≤ reachBytes) (hk : 1 ≤ k) : n ≤ 140737488355328 := by
  have : n ≤ n * k := Nat.le_mul_of_pos_right n hk
  unfold reachBytes at h
  omega

/-- A struct that comes as an argument. -/
theorem arg_struct {H : Type} {enc : TypeId × Value → H} {W : World} {base : Nat} {t : TypeId} {fs : Array Field} {v : Value} {d : DataW H} {p : List MemPlace} (hu : Tryz.prog.underlying t = some (.struct fs)) (ht : t ∈ [3, 23, 24, 25, 27, 47, 49])
    (hok : Value.okWide Tryz.prog W .any base t v) (h : DataW.Trod enc Tryz.prog W 0 (fun _ => true) true t v d p) (hw : (d.weights Tryz.prog t).all (· ≤ reachBytes) = true) :
    ∃ n ds, Shp Tryz.prog n t ds ∧ Rel W (avs (fun _ => False) (fun _ => none) []) (fun _ => none) [] (.agg (ds.map .p)) v := by
  unfold Value.okWide at hok
  rw [hu] at hok
  obtain ⟨cs, rfl, _, _⟩ := hok
  obtain ⟨fuel, hf⟩ := h
  obtain ⟨ds, h1, h2⟩ := open_plain plain34 av_start fuel t _ d p ht hf hw
  refine ⟨fuel, ds, h1, ?_⟩
  simp only [Rel]
  exact ⟨cs, rfl, h2.relL⟩
end Go.Vi
open Go Go.Proofs
namespace Go.Vi
open Go.ChangeShapes Go.WideShapes Go.ChangeAt Go.RowKit Go.Proofs.YtafcgfmoekjanaaGreatDoor
set_option maxRecDepth 100000

theorem ownK : ownKnob Tryz.prog.godebug = none := by kernel_rfl
theorem laidOut : laidOutB Tryz.prog = true := by kernel_rfl

def kd (a b c d : Bool) (f g : Value) : List Value := [.bool a, .bool b, .bool c, .bool d, f, g]
def kf (k : Nat) : Value := .func (.func k) #[] #[]
def kindsCells : List Value :=
  kd false false false false .nilFunc .nilFunc ++ kd false false false true (kf 266) (kf 267) ++ kd false false false true (kf 268) (kf 269) ++ kd false true false true (kf 270) (kf 271) ++
  kd false false false true (kf 272) (kf 273) ++ kd true true false false (kf 274) (kf 276) ++ kd true true false false (kf 278) (kf 279) ++ kd false true false false (kf 280) (kf 281) ++
  kd false true true false (kf 282) (kf 283) ++ kd true false false false (kf 275) (kf 284)

noncomputable def laidWorld (os : Os) : World :=
  { World.holding Tryz.prog os ⟨#[], #[], []⟩ with heap := (World.holding Tryz.prog os ⟨#[], #[], []⟩).heap.modify 0 fun
      | .cells _ t frozen => .cells kindsCells.toArray t frozen
      | o => o }
theorem laid_met (os : Os) (args : Array Value) : laidMetH Tryz.prog [("sizar/rules.kinds", Rows.laid_sizar_rules_kinds)] ((laidWorld os).forCall (fun _ _ => 0) ⟨#[], args, []⟩).memory :=
  laidMetH_of_parts3 (fuel := 8) (laidMet_nil _ _) (by kernel_rfl) (by kernel_rfl)
end Go.Vi
open Go Go.Proofs
namespace Go.Vi
open Go.ChangeShapes Go.WideShapes Go.ChangeAt Go.RowKit Go.Proofs.YtafcgfmoekjanaaGreatDoor
set_option maxRecDepth 100000

theorem shp_ints {n : Nat} {ds : List Dp} (h : Shp Tryz.prog n 24 ds) : ∃ l : List Int, ds = [.sl (l.map fun n : Int => [vi n])] ∧ Short l := by
  cases n with
  | zero => exact h.elim
  | succ n =>
    simp only [Shp, Tryz.underlying24, bytes3] at h
    obtain ⟨es, rfl, hb, he⟩ := h
    obtain ⟨l, rfl, _⟩ := map_of (row := fun n : Int => [vi n]) (ok := fun _ => True) (fun r hr => by obtain ⟨x, e, _⟩ := shp_int (he r hr); exact ⟨x, e, trivial⟩)
    exact ⟨l, rfl, by have := short_of hb (by omega); simpa [Short] using this⟩
theorem shp_key {n : Nat} {ds : List Dp} (h : Shp Tryz.prog n 47 ds) : ∃ a b c, ds = [vi a, vi b, vi c] := by
  cases n with
  | zero => exact h.elim
  | succ n =>
    simp only [Shp, Tryz.underlying47, List.forall_mem_cons, cells3, cells47] at h
    obtain ⟨hl, h1, h2, h3, _⟩ := h
    obtain ⟨a, e1, _⟩ := shp_int h1
    obtain ⟨b, e2, _⟩ := shp_int h2
    obtain ⟨c, e3, _⟩ := shp_int h3
    match ds, hl with
    | [p, q, r], _ =>
      simp at e1 e2 e3
      subst e1; subst e2; subst e3
      exact ⟨a, b, c, rfl⟩
theorem shp_read {n : Nat} {ds : List Dp} (h : Shp Tryz.prog n 49 ds) : ∃ r : ReadT, ds = r.row := by
  cases n with
  | zero => exact h.elim
  | succ n =>
    simp only [Shp, Tryz.underlying49, List.forall_mem_cons, cells3, cells47, cells49] at h
    obtain ⟨hl, h1, h2, h3, _⟩ := h
    obtain ⟨a, b, c, e1⟩ := shp_key h1
    obtain ⟨d, e2, _⟩ := shp_int h2
    obtain ⟨e, e3, _⟩ := shp_int h3
    match ds, hl with
    | [p, q, r, s, t], _ =>
      simp at e1 e2 e3
      obtain ⟨rfl, rfl, rfl⟩ := e1
      subst e2; subst e3
      exact ⟨⟨a, b, c, d, e⟩, rfl⟩
theorem shp_reads {n : Nat} {ds : List Dp} (h : Shp Tryz.prog n 25 ds) : ∃ l : List ReadT, ds = [.sl (l.map ReadT.row)] ∧ Short l := by
  cases n with
  | zero => exact h.elim
  | succ n =>
    simp only [Shp, Tryz.underlying25, bytes49] at h
    obtain ⟨es, rfl, hb, he⟩ := h
    obtain ⟨l, rfl, _⟩ := map_of (row := ReadT.row) (ok := fun _ => True) (fun r hr => by obtain ⟨x, e⟩ := shp_read (he r hr); exact ⟨x, e, trivial⟩)
    exact ⟨l, rfl, by have := short_of hb (by omega); simpa [Short] using this⟩
theorem shp_dec {n : Nat} {ds : List Dp} (h : Shp Tryz.prog n 27 ds) : ∃ d : DecT, ds.map .p = d.l ∧ d.ok := by
  cases n with
  | zero => exact h.elim
  | succ n =>
    simp only [Shp, Tryz.underlying27, List.forall_mem_cons, cells3, cells23, cells24, cells25, cells27] at h
    obtain ⟨hl, h1, h2, h3, h4, h5, h6, h7, _⟩ := h
    obtain ⟨q, e1⟩ := shp_qu h1
    obtain ⟨a, e2, _⟩ := shp_int h2
    obtain ⟨b, e3, _⟩ := shp_int h3
    obtain ⟨c, e4, _⟩ := shp_int h4
    obtain ⟨now, e5, s5⟩ := shp_ints h5
    obtain ⟨rs, e6, s6⟩ := shp_reads h6
    obtain ⟨nm, e7, s7⟩ := shp_ints h7
    match ds, hl with
    | [p1, p2, p3, p4, p5, p6, p7, p8, p9, p10], _ =>
      simp [QuT.row] at e1 e2 e3 e4 e5 e6 e7
      obtain ⟨rfl, rfl, rfl, rfl⟩ := e1
      subst e2; subst e3; subst e4; subst e5; subst e6; subst e7
      exact ⟨⟨q, a, b, c, now, rs, nm⟩, rfl, s5, s6, s7⟩
theorem questionsCheckSpec_ev {p q : QuT} {a b : DecT} (ha : a.ok) (_hb : b.ok) (h : List Blk) : Ev Tryz.prog Γ0 3 [ag p.row, ag q.row, .agg a.l, .agg b.l] h (bool true) h := qspec_a ha sane34_ev h
end Go.Vi
open Go Go.Proofs
namespace Go.Vi.questionsCheckSpec
open Go.ChangeShapes Go.WideShapes Go.ChangeAt Go.RowKit Go.Proofs.YtafcgfmoekjanaaGreatDoor
set_option maxRecDepth 100000
theorem jf0 : (Rows.questionsCheckSpecRow.wf (OpenSpec.ofChange (OpenSpec.ofChange Rows.questionsCheckSpecSpec).bare)) = true := by kernel_rfl
theorem jf1 : (laidOutB Tryz.pinned.checked.prog) = true := by kernel_rfl
theorem jf2 : (mapsRowed Tryz.pinned.checked.prog) = true := by kernel_rfl
theorem jf3 : (Tryz.f3.params.all (Tryz.pinned.checked.prog.readableRec ·)) = true := by kernel_rfl
theorem jf4 : (namedTie Tryz.pinned.checked.prog Rows.questionsCheckSpecRow.named (OpenSpec.ofChange Rows.questionsCheckSpecSpec).bare.vars) = true := by kernel_rfl
theorem jf5 : ((Rows.questionsCheckSpecRow.stops == [])) = true := by kernel_rfl
theorem jf6 : ((Tryz.pinned.checked.prog.stops == [])) = true := by kernel_rfl
theorem jf7 : ((Rows.questionsCheckSpecRow.knobs == [])) = true := by kernel_rfl
theorem jf8 : ((Tryz.pinned.checked.prog.stopKnobs == [])) = true := by kernel_rfl
theorem jf9 : ((Rows.questionsCheckSpecRow.inPlace == Tryz.pinned.checked.prog.inPlace 3)) = true := by kernel_rfl
theorem jf10 : ((Rows.questionsCheckSpecRow.unfollowed == Tryz.pinned.checked.prog.unfollowed 3)) = true := by kernel_rfl
theorem jf11 : ((Rows.questionsCheckSpecRow.recurses == Tryz.pinned.checked.prog.recurses 3)) = true := by kernel_rfl
theorem jf12 : ((Rows.questionsCheckSpecRow.named == Tryz.pinned.checked.prog.varsNamed 3)) = true := by kernel_rfl
theorem jf13 : ((Rows.questionsCheckSpecRow.maps == (Tryz.f3.params.toList ++ (OpenSpec.ofChange Rows.questionsCheckSpecSpec).bare.plain.varTypes Tryz.pinned.checked.prog).any (Tryz.pinned.checked.prog.mapsRec ·))) = true := by kernel_rfl
theorem jf14 : ((Rows.questionsCheckSpecRow.ifaces == (Tryz.f3.params.toList ++ (OpenSpec.ofChange Rows.questionsCheckSpecSpec).bare.plain.varTypes Tryz.pinned.checked.prog).any (Tryz.pinned.checked.prog.ifacesRec ·))) = true := by kernel_rfl
theorem jf15 : ((Rows.questionsCheckSpecRow.mapsOut == Tryz.pinned.checked.prog.mapsAmong Tryz.f3.resultTypes.toList)) = true := by kernel_rfl
theorem jf16 : ((Rows.questionsCheckSpecRow.loops == (Tryz.f3.params.toList ++ (OpenSpec.ofChange Rows.questionsCheckSpecSpec).bare.plain.varTypes Tryz.pinned.checked.prog).any (Tryz.pinned.checked.prog.loopsFrom ·))) = true := by kernel_rfl
theorem jf17 : ((Rows.questionsCheckSpecRow.wideKeys == (Tryz.f3.params.toList ++ (OpenSpec.ofChange Rows.questionsCheckSpecSpec).bare.plain.varTypes Tryz.pinned.checked.prog ++ Tryz.f3.resultTypes.toList).any (Tryz.pinned.checked.prog.wideKeysFrom ·))) = true := by kernel_rfl
theorem jf18 : ((OpenSpec.ofChange Rows.questionsCheckSpecSpec).bare.vars.all (Tryz.pinned.checked.prog.varReadable ·)) = true := by kernel_rfl
theorem jf19 : (Tryz.f3.resultTypes.all (fun t => Tryz.pinned.checked.prog.readableRec t && decide (t < Tryz.pinned.checked.prog.types.size))) = true := by kernel_rfl
theorem jf20 : ((Rows.questionsCheckSpecRow.ifacesOut == Tryz.f3.resultTypes.toList.any (Tryz.pinned.checked.prog.ifacesRec ·))) = true := by kernel_rfl
theorem jf21 : ((Rows.questionsCheckSpecRow.loopsOut == Tryz.f3.resultTypes.toList.any (Tryz.pinned.checked.prog.loopsFrom ·))) = true := by kernel_rfl
theorem jf22 : ((Rows.questionsCheckSpecRow.plainKeys == Tryz.pinned.checked.prog.plainKeys)) = true := by kernel_rfl
theorem jf23 : (Rows.questionsCheckSpecRow.shortTexts.isNone) = true := by kernel_rfl
theorem jf24 : (Tryz.pinned.checked.prog.stopsHeard) = true := by kernel_rfl
theorem jf25 : (Tryz.pinned.checked.prog.mayEnter) = true := by kernel_rfl
theorem jf26 : ((Rows.questionsCheckSpecRow.lifted == Tryz.pinned.checked.prog.liftsFinal)) = true := by kernel_rfl
theorem jf27 : ((Tryz.pinned.checked.prog.make == some Rows.questionsCheckSpecRow.make)) = true := by kernel_rfl
theorem jf28 : ((Rows.questionsCheckSpecRow.kinds == (if Rows.questionsCheckSpecRow.domain.isEmpty then [] else Tryz.f3.params.toList.map fun t => match Tryz.pinned.checked.prog.underlying t with | some (.int k) => some k | _ => none))) = true := by kernel_rfl
theorem jf29 : ((Rows.questionsCheckSpecRow.pinned == Rows.questionsCheckSpecRow.pinnedBy)) = true := by kernel_rfl
theorem jf30 : ((Rows.questionsCheckSpecRow.veiled == (Tryz.f3.params.toList ++ (OpenSpec.ofChange Rows.questionsCheckSpecSpec).bare.plain.varTypes Tryz.pinned.checked.prog ++ Tryz.f3.resultTypes.toList).any (Tryz.pinned.checked.prog.veiledRec ·))) = true := by kernel_rfl
theorem jf31 : (Rows.questionsCheckSpecRow.veiledFits Tryz.pinned.checked.prog Tryz.f3.params.toList (Tryz.f3.params.toList ++ (OpenSpec.ofChange Rows.questionsCheckSpecSpec).bare.plain.varTypes Tryz.pinned.checked.prog ++ Tryz.f3.resultTypes.toList)) = true := by kernel_rfl
theorem andT {a b : Bool} (ha : a = true) (hb : b = true) : (a && b) = true := by rw [ha, hb]; rfl
theorem jf : joinedFacts Tryz.pinned.checked.prog 3 Tryz.f3 (OpenSpec.ofChange Rows.questionsCheckSpecSpec).bare Rows.questionsCheckSpecRow = true := by
  unfold joinedFacts
  exact andT (andT (andT (andT (andT (andT (andT (andT (andT (andT (andT (andT (andT (andT (andT (andT (andT (andT (andT (andT (andT (andT (andT (andT (andT (andT (andT (andT (andT (andT (andT jf0 jf1) jf2) jf3) jf4) jf5) jf6) jf7) jf8) jf9) jf10) jf11) jf12) jf13) jf14) jf15) jf16) jf17) jf18) jf19) jf20) jf21) jf22) jf23) jf24) jf25) jf26) jf27) jf28) jf29) jf30) jf31
end Go.Vi.questionsCheckSpec
open Go Go.Proofs
namespace Go.Vi.questionsCheckSpec
open Go.ChangeShapes Go.WideShapes Go.ChangeAt Go.RowKit Go.Proofs.YtafcgfmoekjanaaGreatDoor
set_option maxRecDepth 100000

theorem contract (H : Type) (enc : TypeId × Value → H) (W : World) (base : Nat) (args : Array Value) (ds gs : List (DataW H)) (before : List MemPlace)
    (hval : ∀ (j : Nat) t v, Tryz.f3.params[j]? = some t → args[j]? = some v → Value.okWide Tryz.prog W .any base t v)
    (hW : DataW.Whole enc Tryz.prog Tryz.f3.params.toList Rows.questionsCheckSpecSpec.vars false W args.toList ds gs before)
    (hz : (DataW.weightsEach Tryz.prog (Tryz.f3.params.toList ++ (OpenSpec.ofChange Rows.questionsCheckSpecSpec).bare.plain.varTypes Tryz.prog) (ds ++ gs)).all (· ≤ reachBytes) = true) :
    Calls Tryz.prog 3 args W fun e W' => ∃ v, e = .returned v ∧ Rows.questionsCheckSpecSpec.post enc Tryz.prog Tryz.f3 false true false false W args v W' := by
  have hW' := hW
  obtain ⟨p, q, hA0, hV, rfl, hfz, hnd⟩ := hW
  obtain ⟨rfl, rfl⟩ := trodVars_none (show DataW.TrodVars enc Tryz.prog W (fun _ => true) [] gs q from hV)
  have hA : DataW.TrodAll enc Tryz.prog W 0 (fun _ => true) true Tryz.f3.params.toList args.toList ds p := hA0
  rw [Tryz.params3] at hA hval hz
  obtain ⟨v0, vs0, d0, ds0, p0, q0, hargs, rfl, rfl, h0, r0⟩ := trodAll_cons hA
  obtain ⟨v1, vs1, d1, ds1, p1, q1, rfl, rfl, rfl, h1, r1⟩ := trodAll_cons r0
  obtain ⟨v2, vs2, d2, ds2, p2, q2, rfl, rfl, rfl, h2, r2⟩ := trodAll_cons r1
  obtain ⟨v3, vs3, d3, ds3, p3, q3, rfl, rfl, rfl, h3, r3⟩ := trodAll_cons r2
  obtain ⟨rfl, rfl, rfl⟩ := trodAll_nil r3
  obtain rfl : args = #[v0, v1, v2, v3] := by cases args; simp_all
  have w0 := weightsEach_at hz 0 23 d0 rfl rfl
  obtain ⟨n0, c0, s0, rel0⟩ := arg_struct Tryz.underlying23 (by decide) (hval 0 23 v0 rfl rfl) h0 w0
  obtain ⟨Q0, rfl⟩ := shp_qu s0
  have w1 := weightsEach_at hz 1 23 d1 rfl rfl
  obtain ⟨n1, c1, s1, rel1⟩ := arg_struct Tryz.underlying23 (by decide) (hval 1 23 v1 rfl rfl) h1 w1
  obtain ⟨Q1, rfl⟩ := shp_qu s1
  have w2 := weightsEach_at hz 2 27 d2 rfl rfl
  obtain ⟨n2, c2, s2, rel2⟩ := arg_struct Tryz.underlying27 (by decide) (hval 2 27 v2 rfl rfl) h2 w2
  obtain ⟨Q2, e2, hs2⟩ := shp_dec s2
  rw [e2] at rel2
  have w3 := weightsEach_at hz 3 27 d3 rfl rfl
  obtain ⟨n3, c3, s3, rel3⟩ := arg_struct Tryz.underlying27 (by decide) (hval 3 27 v3 rfl rfl) h3 w3
  obtain ⟨Q3, e3, hs3⟩ := shp_dec s3
  rw [e3] at rel3
  have hrel : RelL W (avs (fun _ => False) (fun _ => none) []) (fun _ => none) [] [ag (QuT.row Q0), ag (QuT.row Q1), .agg (DecT.l Q2), .agg (DecT.l Q3)] [v0, v1, v2, v3] := by
    simp only [RelL]
    exact ⟨rel0, rel1, rel2, rel3, trivial⟩
  refine (ev_calls (questionsCheckSpec_ev hs2 hs3 []) hrel).mono fun e W' ⟨v, he, hv, hbw⟩ => ?_
  have hv' : v = .bool true := by simpa [Rel, RelP] using hv
  subst hv'
  exact ⟨_, he, post_true laidOut (by kernel_rfl) rfl rfl Tryz.underlying4 hW' rfl hbw⟩

def wArgs : Array Value := #[Value.agg #[.int .i64 0, .int .i64 0, .int .i64 0, .int .i64 0], Value.agg #[.int .i64 0, .int .i64 0, .int .i64 0, .int .i64 0], Value.agg #[.int .i64 0, .int .i64 0, .int .i64 0, .int .i64 0, .int .i64 0, .int .i64 0, .int .i64 0, .slice none 0 0, .slice none 0 0, .slice none 0 0], Value.agg #[.int .i64 0, .int .i64 0, .int .i64 0, .int .i64 0, .int .i64 0, .int .i64 0, .int .i64 0, .slice none 0 0, .slice none 0 0, .slice none 0 0]]

theorem reads (os : Os) {H : Type} (enc : TypeId × Value → H) : ∃ places, DataW.whole enc Tryz.prog ((laidWorld os).forCall (fun _ _ => 0) ⟨#[], wArgs, []⟩).memory Tryz.f3.params.toList Rows.questionsCheckSpecSpec.vars false
    wArgs.toList 8 = some ([.agg [.lit (.int .i64 0), .lit (.int .i64 0), .lit (.int .i64 0), .lit (.int .i64 0)], .agg [.lit (.int .i64 0), .lit (.int .i64 0), .lit (.int .i64 0), .lit (.int .i64 0)], .agg [.agg [.lit (.int .i64 0), .lit (.int .i64 0), .lit (.int .i64 0), .lit (.int .i64 0)], .lit (.int .i64 0), .lit (.int .i64 0), .lit (.int .i64 0), .nil, .nil, .nil], .agg [.agg [.lit (.int .i64 0), .lit (.int .i64 0), .lit (.int .i64 0), .lit (.int .i64 0)], .lit (.int .i64 0), .lit (.int .i64 0), .lit (.int .i64 0), .nil, .nil, .nil]], [], places) :=
  ⟨[], by kernel_rfl⟩

theorem lifted (os : Os) (started : os.Started) (H : Type) (enc : TypeId × Value → H) (F : Stop.Interp) :
    ReturnsInHanded {} Tryz.checked os 3 .any ((OpenSpec.ofChange Rows.questionsCheckSpecSpec).preRow enc Tryz.prog Tryz.f3 Rows.questionsCheckSpecRow.domain false Rows.questionsCheckSpecRow.laid) (((OpenSpec.ofChange Rows.questionsCheckSpecSpec).at F).post enc Tryz.prog Tryz.f3 false true false false) := by
  obtain ⟨places, hx⟩ := reads os enc
  refine returnsInHanded_of_row (C := Tryz.checked) (s := OpenSpec.ofChange Rows.questionsCheckSpecSpec) ownK started (by kernel_rfl) Tryz.func3
    (witness_row_at (enc := enc) (C := Tryz.checked) false (laidWorld os) wArgs rfl (by kernel_rfl) (by kernel_rfl) (by kernel_rfl)
      (OpenSpec.preRow_of_cond 8 hx (by kernel_rfl) (fun k hk => by cases hk) (by kernel_rfl) (laid_met os _))) ?_
  intro W base args ds gs before hval hW _ _ hz hL _ _
  exact contract H enc W base args ds gs before hval hW hz

theorem said : Rows.QuestionsCheckSpecSaid :=
  OpenClaim.holds_of_cond 3 Tryz.f3 rfl rfl rfl rfl rfl rfl rfl ⟨rfl, rfl, rfl, rfl, rfl⟩ rfl rfl rfl rfl rfl (by kernel_rfl) Tryz.func3 jf
    (of_decide_eq_true (by kernel_rfl)) (by unfold Func.isWrapper; first | (rw [if_pos (by decide +kernel)]; kernel_rfl) | (rw [if_neg (by decide +kernel)]; exact ⟨rfl, rfl⟩))
    (fun os started H enc _ F => by rw [OpenClaim.pre_eq_preRow]; exact lifted os started H enc F)

theorem plain (f : FuncId) (fn : Func) (hf : Tryz.pinned.checked.prog.funcNamed "sizar/sizarlaw34.QuestionsCheckSpec" = some f) (hfn : Tryz.pinned.checked.prog.funcs[f]? = some fn) :
    true = Tryz.pinned.checked.prog.looks [] ∧ ∀ (j : Nat) t, fn.params[j]? = some t → Tryz.pinned.checked.prog.wantsStandIn t = false := by
  obtain rfl : f = 3 := Option.some.inj ((show Tryz.prog.funcNamed "sizar/sizarlaw34.QuestionsCheckSpec" = some 3 by kernel_rfl).symm.trans hf) |>.symm
  obtain rfl : fn = Tryz.f3 := (Option.some.inj (Tryz.func3.symm.trans hfn)).symm
  refine ⟨by kernel_rfl, fun j t ht => ?_⟩
  rw [Tryz.params3] at ht
  have hm : t ∈ [23, 23, 27, 27] := by simpa using Array.mem_of_getElem? ht
  have hall : ([23, 23, 27, 27].all fun u => !Tryz.prog.wantsStandIn u) = true := by kernel_rfl
  exact (show Tryz.prog.wantsStandIn t = false by simpa using List.all_eq_true.1 hall t hm)

theorem card : Rows.QuestionsCheckSpecCardSaid :=
  Claim7.holds_tied_plain_at .later [] _ _ _ _ said (fun _ h => by cases h) (by kernel_rfl) (fun _ h => by cases h) questionsCheckSpec_row_tie rfl ⟨rfl, rfl⟩ (by kernel_rfl) rfl plain (by kernel_rfl)
end Go.Vi.questionsCheckSpec
namespace Go.Proofs.YtafcgfmoekjanaaGreatDoor
/-- The given card. -/
theorem questionsCheckSpec_holds : Rows.QuestionsCheckSpecCardSaid := Go.Vi.questionsCheckSpec.card
#print axioms questionsCheckSpec_holds
end Go.Proofs.YtafcgfmoekjanaaGreatDoor
