/- RecordCountedSpecUpto: for every input, where the arguments together are of bulk at most 1048576 (each value counted each time it is reached), the law returns true and each argument reads behind the call as it read before: the given card, proved. No conditions beyond the statement's own. -/
import Derived.Test.YtilebidefogaiaaGreatDoorW6
import Derived.ChangeMaps5
open Go Go.Proofs
namespace Go.Vi.recordCountedSpec
open Go.ChangeShapes Go.WideShapes Go.ChangeAt Go.RowKit Go.Proofs.YtilebidefogaiaaGreatDoor
set_option maxRecDepth 100000
theorem jf0 : (Rows.recordCountedSpecUptoRow.wf (OpenSpec.ofChange (OpenSpec.ofChange Rows.recordCountedSpecSpec).bare)) = true := by kernel_rfl
theorem jf1 : (laidOutB Tryz.pinned.checked.prog) = true := by kernel_rfl
theorem jf2 : (mapsRowed Tryz.pinned.checked.prog) = true := by kernel_rfl
theorem jf3 : (Tryz.f14.params.all (Tryz.pinned.checked.prog.readableRec ·)) = true := by kernel_rfl
theorem jf4 : (namedTie Tryz.pinned.checked.prog Rows.recordCountedSpecUptoRow.named (OpenSpec.ofChange Rows.recordCountedSpecSpec).bare.vars) = true := by kernel_rfl
theorem jf5 : ((Rows.recordCountedSpecUptoRow.stops == [])) = true := by kernel_rfl
theorem jf6 : ((Tryz.pinned.checked.prog.stops == [])) = true := by kernel_rfl
theorem jf7 : ((Rows.recordCountedSpecUptoRow.knobs == [])) = true := by kernel_rfl
theorem jf8 : ((Tryz.pinned.checked.prog.stopKnobs == [])) = true := by kernel_rfl
theorem jf9 : ((Rows.recordCountedSpecUptoRow.inPlace == Tryz.pinned.checked.prog.inPlace 14)) = true := by kernel_rfl
theorem jf10 : ((Rows.recordCountedSpecUptoRow.unfollowed == Tryz.pinned.checked.prog.unfollowed 14)) = true := by kernel_rfl
theorem jf11 : ((Rows.recordCountedSpecUptoRow.recurses == Tryz.pinned.checked.prog.recurses 14)) = true := by kernel_rfl
theorem jf12 : ((Rows.recordCountedSpecUptoRow.named == Tryz.pinned.checked.prog.varsNamed 14)) = true := by kernel_rfl
theorem jf13 : ((Rows.recordCountedSpecUptoRow.maps == (Tryz.f14.params.toList ++ (OpenSpec.ofChange Rows.recordCountedSpecSpec).bare.plain.varTypes Tryz.pinned.checked.prog).any (Tryz.pinned.checked.prog.mapsRec ·))) = true := by kernel_rfl
theorem jf14 : ((Rows.recordCountedSpecUptoRow.ifaces == (Tryz.f14.params.toList ++ (OpenSpec.ofChange Rows.recordCountedSpecSpec).bare.plain.varTypes Tryz.pinned.checked.prog).any (Tryz.pinned.checked.prog.ifacesRec ·))) = true := by kernel_rfl
theorem jf15 : ((Rows.recordCountedSpecUptoRow.mapsOut == Tryz.pinned.checked.prog.mapsAmong Tryz.f14.resultTypes.toList)) = true := by kernel_rfl
theorem jf16 : ((Rows.recordCountedSpecUptoRow.loops == (Tryz.f14.params.toList ++ (OpenSpec.ofChange Rows.recordCountedSpecSpec).bare.plain.varTypes Tryz.pinned.checked.prog).any (Tryz.pinned.checked.prog.loopsFrom ·))) = true := by kernel_rfl
theorem jf17 : ((Rows.recordCountedSpecUptoRow.wideKeys == (Tryz.f14.params.toList ++ (OpenSpec.ofChange Rows.recordCountedSpecSpec).bare.plain.varTypes Tryz.pinned.checked.prog ++ Tryz.f14.resultTypes.toList).any (Tryz.pinned.checked.prog.wideKeysFrom ·))) = true := by kernel_rfl
theorem jf18 : ((OpenSpec.ofChange Rows.recordCountedSpecSpec).bare.vars.all (Tryz.pinned.checked.prog.varReadable ·)) = true := by kernel_rfl
theorem jf19 : (Tryz.f14.resultTypes.all (fun t => Tryz.pinned.checked.prog.readableRec t && decide (t < Tryz.pinned.checked.prog.types.size))) = true := by kernel_rfl
theorem jf20 : ((Rows.recordCountedSpecUptoRow.ifacesOut == Tryz.f14.resultTypes.toList.any (Tryz.pinned.checked.prog.ifacesRec ·))) = true := by kernel_rfl
theorem jf21 : ((Rows.recordCountedSpecUptoRow.loopsOut == Tryz.f14.resultTypes.toList.any (Tryz.pinned.checked.prog.loopsFrom ·))) = true := by kernel_rfl
theorem jf22 : ((Rows.recordCountedSpecUptoRow.plainKeys == Tryz.pinned.checked.prog.plainKeys)) = true := by kernel_rfl
theorem jf23 : (Rows.recordCountedSpecUptoRow.shortTexts.isNone) = true := by kernel_rfl
theorem jf24 : (Tryz.pinned.checked.prog.stopsHeard) = true := by kernel_rfl
theorem jf25 : (Tryz.pinned.checked.prog.mayEnter) = true := by kernel_rfl
theorem jf26 : ((Rows.recordCountedSpecUptoRow.lifted == Tryz.pinned.checked.prog.liftsFinal)) = true := by kernel_rfl
theorem jf27 : ((Tryz.pinned.checked.prog.make == some Rows.recordCountedSpecUptoRow.make)) = true := by kernel_rfl
theorem jf28 : ((Rows.recordCountedSpecUptoRow.kinds == (if Rows.recordCountedSpecUptoRow.domain.isEmpty then [] else Tryz.f14.params.toList.map fun t => match Tryz.pinned.checked.prog.underlying t with | some (.int k) => some k | _ => none))) = true := by kernel_rfl
theorem jf29 : ((Rows.recordCountedSpecUptoRow.pinned == Rows.recordCountedSpecUptoRow.pinnedBy)) = true := by kernel_rfl
theorem jf30 : ((Rows.recordCountedSpecUptoRow.veiled == (Tryz.f14.params.toList ++ (OpenSpec.ofChange Rows.recordCountedSpecSpec).bare.plain.varTypes Tryz.pinned.checked.prog ++ Tryz.f14.resultTypes.toList).any (Tryz.pinned.checked.prog.veiledRec ·))) = true := by kernel_rfl
theorem jf31 : (Rows.recordCountedSpecUptoRow.veiledFits Tryz.pinned.checked.prog Tryz.f14.params.toList (Tryz.f14.params.toList ++ (OpenSpec.ofChange Rows.recordCountedSpecSpec).bare.plain.varTypes Tryz.pinned.checked.prog ++ Tryz.f14.resultTypes.toList)) = true := by kernel_rfl
theorem fm {a b : Bool} (ha : a = true) (hb : b = true) : (a && b) = true := by rw [ha, hb]; rfl
theorem jf : joinedFacts Tryz.pinned.checked.prog 14 Tryz.f14 (OpenSpec.ofChange Rows.recordCountedSpecSpec).bare Rows.recordCountedSpecUptoRow = true := by
 unfold joinedFacts
 exact fm (fm (fm (fm (fm (fm (fm (fm (fm (fm (fm (fm (fm (fm (fm (fm (fm (fm (fm (fm (fm (fm (fm (fm (fm (fm (fm (fm (fm (fm (fm jf0 jf1) jf2) jf3) jf4) jf5) jf6) jf7) jf8) jf9) jf10) jf11) jf12) jf13) jf14) jf15) jf16) jf17) jf18) jf19) jf20) jf21) jf22) jf23) jf24) jf25) jf26) jf27) jf28) jf29) jf30) jf31
end Go.Vi.recordCountedSpec
open Go Go.Proofs
namespace Go.Vi.recordCountedSpec
open Go.ChangeShapes Go.WideShapes Go.ChangeAt Go.RowKit Go.Proofs.YtilebidefogaiaaGreatDoor
set_option maxRecDepth 100000

theorem wm (H : Type) (enc : TypeId × Value → H) (W : World) (base : Nat) (args : Array Value) (ds gs : List (DataW H)) (before : List MemPlace)
  (hval : ∀ (j : Nat) t v, Tryz.f14.params[j]? = some t → args[j]? = some v → Value.okWide Tryz.prog W .any base t v)
  (hW : DataW.Whole enc Tryz.prog Tryz.f14.params.toList Rows.recordCountedSpecSpec.vars false W args.toList ds gs before)
  (hz : (DataW.weightsEach Tryz.prog (Tryz.f14.params.toList ++ (Rows.OpenSpec.upto Rows.recordCountedSpecSpec).bare.plain.varTypes Tryz.prog) (ds ++ gs)).all (· ≤ reachBytes) = true) (hc : Rows.uptoSmall H (ds ++ gs) = true) (hL : laidMetH Tryz.prog [("sizar/rules.kinds", Rows.laid_sizar_rules_kinds)] W) :
  Calls Tryz.prog 14 args W fun e W' => ∃ v, e = .returned v ∧ Rows.recordCountedSpecSpec.post enc Tryz.prog Tryz.f14 false true false false W args v W' := by
 have hW' := hW
 obtain ⟨p, q, hA0, hV, rfl, hfz, hnd⟩ := hW
 obtain ⟨rfl, rfl⟩ := trodVars_none (show DataW.TrodVars enc Tryz.prog W (fun _ => true) [] gs q from hV)
 have hA : DataW.TrodAll enc Tryz.prog W 0 (fun _ => true) true Tryz.f14.params.toList args.toList ds p := hA0
 rw [Tryz.params14] at hA hval hz
 obtain ⟨v0, vs0, d0, ds0, p0, q0, hargs, rfl, rfl, h0, r0⟩ := trodAll_cons hA
 obtain ⟨v1, vs1, d1, ds1, p1, q1, rfl, rfl, rfl, h1, r1⟩ := trodAll_cons r0
 obtain ⟨v2, vs2, d2, ds2, p2, q2, rfl, rfl, rfl, h2, r2⟩ := trodAll_cons r1
 obtain ⟨v3, vs3, d3, ds3, p3, q3, rfl, rfl, rfl, h3, r3⟩ := trodAll_cons r2
 obtain ⟨rfl, rfl, rfl⟩ := trodAll_nil r3
 obtain rfl : args = #[v0, v1, v2, v3] := by cases args; simp_all
 have w0 := cn hz 0 29 d0 rfl rfl
 obtain ⟨S0, hs0, rel0, hm0⟩ := rI (hval 0 29 v0 rfl rfl) h0 w0 (rJ hc (by simp))
 have w1 := cn hz 1 47 d1 rfl rfl
 obtain ⟨S1, rel1⟩ := arg_rec (hval 1 47 v1 rfl rfl) h1 w1
 obtain ⟨x2, rfl, rfl, rfl, wx2⟩ := open_int Tryz.underlying3 (hval 2 3 v2 rfl rfl) h2
 obtain ⟨x3, rfl, rfl, rfl, wx3⟩ := open_int Tryz.underlying3 (hval 3 3 v3 rfl rfl) h3
 have hrel : RelL W (avs (fun _ => False) (fun _ => none) []) (fun _ => none) [] [.agg (WorldT.l S0), .agg (RecT.l S1), int x2, int x3] [v0, v1, .int .i64 x2, .int .i64 x3] := by
  simp only [RelL]
  exact ⟨rel0, rel1, by simp [Rel, RelP], by simp [Rel, RelP], trivial⟩
 refine (sT (uw hL) (eV hs0 hm0 []) hrel).mono fun e W' ⟨v, he, hv, hbw⟩ => ?_
 have hv' : v = .bool true := by simpa [Rel, RelP] using hv
 subst hv'
 exact ⟨_, he, sS laidOut (by kernel_rfl) rfl rfl Tryz.underlying4 hW' rfl hbw⟩

def wArgs : Array Value := #[Value.agg #[.slice none 0 0, .slice none 0 0, .slice none 0 0, .slice none 0 0], Value.agg #[.int .i64 0, .slice none 0 0], Value.int .i64 0, Value.int .i64 0]

theorem reads (os : Os) {H : Type} (enc : TypeId × Value → H) : ∃ places, DataW.whole enc Tryz.prog ((jT os).forCall (fun _ _ => 0) ⟨#[], wArgs, []⟩).memory Tryz.f14.params.toList Rows.recordCountedSpecSpec.vars false
  wArgs.toList 8 = some ([.agg [.agg [.nil, .nil, .nil], .nil], .agg [.lit (.int .i64 0), .nil], .lit (.int .i64 0), .lit (.int .i64 0)], [], places) :=
 ⟨[], by kernel_rfl⟩

theorem lifted (os : Os) (started : os.Started) (H : Type) (enc : TypeId × Value → H) (F : Stop.Interp) :
  ReturnsInHanded {} Tryz.checked os 14 .any ((Rows.OpenSpec.upto Rows.recordCountedSpecSpec).preRow enc Tryz.prog Tryz.f14 Rows.recordCountedSpecUptoRow.domain false Rows.recordCountedSpecUptoRow.laid) (((Rows.OpenSpec.upto Rows.recordCountedSpecSpec).at F).post enc Tryz.prog Tryz.f14 false true false false) := by
 obtain ⟨places, hx⟩ := reads os enc
 refine returnsInHanded_of_row (C := Tryz.checked) (s := Rows.OpenSpec.upto Rows.recordCountedSpecSpec) ownK started (by kernel_rfl) Tryz.func14
  (witness_row_at (enc := enc) (C := Tryz.checked) false (jT os) wArgs rfl (by kernel_rfl) (by kernel_rfl) (by kernel_rfl)
   (OpenSpec.preRow_of_cond 8 hx (by kernel_rfl) (fun k hk => by cases hk; kernel_rfl) (by kernel_rfl) (laid_met os _))) ?_
 intro W base args ds gs before hval hW _ hc hz hL _ _
 exact wm H enc W base args ds gs before hval hW hz (hc _ rfl) hL

theorem said : Rows.RecordCountedSpecUptoSaid :=
 OpenClaim.holds_of_cond 14 Tryz.f14 rfl rfl rfl rfl rfl rfl rfl ⟨rfl, rfl, rfl, rfl, rfl⟩ rfl rfl rfl rfl rfl (by kernel_rfl) Tryz.func14 jf
  (of_decide_eq_true (by kernel_rfl)) (by unfold Func.isWrapper; first | (rw [if_pos (by decide +kernel)]; kernel_rfl) | (rw [if_neg (by decide +kernel)]; exact ⟨rfl, rfl⟩))
  (fun os started H enc _ F => by rw [OpenClaim.pre_eq_preRow]; exact lifted os started H enc F)

theorem plain (f : FuncId) (fn : Func) (hf : Tryz.pinned.checked.prog.funcNamed "sizar/sizarlaw16.RecordCountedSpec" = some f) (hfn : Tryz.pinned.checked.prog.funcs[f]? = some fn) :
  false = Tryz.pinned.checked.prog.looks [] ∧ ∀ (j : Nat) t, fn.params[j]? = some t → Tryz.pinned.checked.prog.wantsStandIn t = false := by
 obtain rfl : f = 14 := Option.some.inj ((show Tryz.prog.funcNamed "sizar/sizarlaw16.RecordCountedSpec" = some 14 by kernel_rfl).symm.trans hf) |>.symm
 obtain rfl : fn = Tryz.f14 := (Option.some.inj (Tryz.func14.symm.trans hfn)).symm
 refine ⟨by kernel_rfl, fun j t ht => ?_⟩
 rw [Tryz.params14] at ht
 have hm : t ∈ [29, 47, 3, 3] := by simpa using Array.mem_of_getElem? ht
 have hall : ([29, 47, 3, 3].all fun u => !Tryz.prog.wantsStandIn u) = true := by kernel_rfl
 exact (show Tryz.prog.wantsStandIn t = false by simpa using List.all_eq_true.1 hall t hm)

theorem card : Rows.RecordCountedSpecUptoCardSaid :=
 Claim7.holds_tied_plain_at .later [] _ _ _ _ said (fun _ h => by cases h) (by kernel_rfl) (fun _ h => by cases h) recordCountedSpecUpto_row_tie rfl ⟨rfl, rfl⟩ (by kernel_rfl) rfl plain (by kernel_rfl)
end Go.Vi.recordCountedSpec
namespace Go.Proofs.YtilebidefogaiaaGreatDoor
/-- The given card. -/
theorem recordCountedSpec_holds : Rows.RecordCountedSpecUptoCardSaid := Go.Vi.recordCountedSpec.card
#print axioms recordCountedSpec_holds
end Go.Proofs.YtilebidefogaiaaGreatDoor
