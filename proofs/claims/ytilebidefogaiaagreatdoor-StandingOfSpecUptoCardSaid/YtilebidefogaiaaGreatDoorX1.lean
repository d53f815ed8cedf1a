/- StandingOfSpecUpto: for every input, where the arguments together are of bulk at most 1048576 (each value counted each time it is reached), the law returns true and each argument reads behind the call as it read before: the given card, proved. No conditions beyond the statement's own. -/
import Derived.Test.YtilebidefogaiaaGreatDoorW10
import Derived.ChangeMaps5
open Go Go.Proofs
namespace Go.Vi.standingOfSpec
open Go.ChangeShapes Go.WideShapes Go.ChangeAt Go.RowKit Go.Proofs.YtilebidefogaiaaGreatDoor
set_option maxRecDepth 100000
theorem jf0 : (Rows.standingOfSpecUptoRow.wf (OpenSpec.ofChange (OpenSpec.ofChange Rows.standingOfSpecSpec).bare)) = true:=by kernel_rfl
theorem jf1 : (laidOutB Tryz.pinned.checked.prog) = true:=by kernel_rfl
theorem jf2 : (mapsRowed Tryz.pinned.checked.prog) = true:=by kernel_rfl
theorem jf3 : (Tryz.f8.params.all (Tryz.pinned.checked.prog.readableRec ·)) = true:=by kernel_rfl
theorem jf4 : (namedTie Tryz.pinned.checked.prog Rows.standingOfSpecUptoRow.named (OpenSpec.ofChange Rows.standingOfSpecSpec).bare.vars) = true:=by kernel_rfl
theorem jf5 : ((Rows.standingOfSpecUptoRow.stops == [])) = true:=by kernel_rfl
theorem jf6 : ((Tryz.pinned.checked.prog.stops == [])) = true:=by kernel_rfl
theorem jf7 : ((Rows.standingOfSpecUptoRow.knobs == [])) = true:=by kernel_rfl
theorem jf8 : ((Tryz.pinned.checked.prog.stopKnobs == [])) = true:=by kernel_rfl
theorem jf9 : ((Rows.standingOfSpecUptoRow.inPlace == Tryz.pinned.checked.prog.inPlace 8)) = true:=by kernel_rfl
theorem jf10 : ((Rows.standingOfSpecUptoRow.unfollowed == Tryz.pinned.checked.prog.unfollowed 8)) = true:=by kernel_rfl
theorem jf11 : ((Rows.standingOfSpecUptoRow.recurses == Tryz.pinned.checked.prog.recurses 8)) = true:=by kernel_rfl
theorem jf12 : ((Rows.standingOfSpecUptoRow.named == Tryz.pinned.checked.prog.varsNamed 8)) = true:=by kernel_rfl
theorem jf13 : ((Rows.standingOfSpecUptoRow.maps == (Tryz.f8.params.toList ++ (OpenSpec.ofChange Rows.standingOfSpecSpec).bare.plain.varTypes Tryz.pinned.checked.prog).any (Tryz.pinned.checked.prog.mapsRec ·))) = true:=by kernel_rfl
theorem jf14 : ((Rows.standingOfSpecUptoRow.ifaces == (Tryz.f8.params.toList ++ (OpenSpec.ofChange Rows.standingOfSpecSpec).bare.plain.varTypes Tryz.pinned.checked.prog).any (Tryz.pinned.checked.prog.ifacesRec ·))) = true:=by kernel_rfl
theorem jf15 : ((Rows.standingOfSpecUptoRow.mapsOut == Tryz.pinned.checked.prog.mapsAmong Tryz.f8.resultTypes.toList)) = true:=by kernel_rfl
theorem jf16 : ((Rows.standingOfSpecUptoRow.loops == (Tryz.f8.params.toList ++ (OpenSpec.ofChange Rows.standingOfSpecSpec).bare.plain.varTypes Tryz.pinned.checked.prog).any (Tryz.pinned.checked.prog.loopsFrom ·))) = true:=by kernel_rfl
theorem jf17 : ((Rows.standingOfSpecUptoRow.wideKeys == (Tryz.f8.params.toList ++ (OpenSpec.ofChange Rows.standingOfSpecSpec).bare.plain.varTypes Tryz.pinned.checked.prog ++ Tryz.f8.resultTypes.toList).any (Tryz.pinned.checked.prog.wideKeysFrom ·))) = true:=by kernel_rfl
theorem jf18 : ((OpenSpec.ofChange Rows.standingOfSpecSpec).bare.vars.all (Tryz.pinned.checked.prog.varReadable ·)) = true:=by kernel_rfl
theorem jf19 : (Tryz.f8.resultTypes.all (fun t=>Tryz.pinned.checked.prog.readableRec t && decide (t < Tryz.pinned.checked.prog.types.size))) = true:=by kernel_rfl
theorem jf20 : ((Rows.standingOfSpecUptoRow.ifacesOut == Tryz.f8.resultTypes.toList.any (Tryz.pinned.checked.prog.ifacesRec ·))) = true:=by kernel_rfl
theorem jf21 : ((Rows.standingOfSpecUptoRow.loopsOut == Tryz.f8.resultTypes.toList.any (Tryz.pinned.checked.prog.loopsFrom ·))) = true:=by kernel_rfl
theorem jf22 : ((Rows.standingOfSpecUptoRow.plainKeys == Tryz.pinned.checked.prog.plainKeys)) = true:=by kernel_rfl
theorem jf23 : (Rows.standingOfSpecUptoRow.shortTexts.isNone) = true:=by kernel_rfl
theorem jf24 : (Tryz.pinned.checked.prog.stopsHeard) = true:=by kernel_rfl
theorem jf25 : (Tryz.pinned.checked.prog.mayEnter) = true:=by kernel_rfl
theorem jf26 : ((Rows.standingOfSpecUptoRow.lifted == Tryz.pinned.checked.prog.liftsFinal)) = true:=by kernel_rfl
theorem jf27 : ((Tryz.pinned.checked.prog.make == some Rows.standingOfSpecUptoRow.make)) = true:=by kernel_rfl
theorem jf28 : ((Rows.standingOfSpecUptoRow.kinds == (if Rows.standingOfSpecUptoRow.domain.isEmpty then [] else Tryz.f8.params.toList.map fun t=>match Tryz.pinned.checked.prog.underlying t with | some (.int k)=>some k | _=>none))) = true:=by kernel_rfl
theorem jf29 : ((Rows.standingOfSpecUptoRow.pinned == Rows.standingOfSpecUptoRow.pinnedBy)) = true:=by kernel_rfl
theorem jf30 : ((Rows.standingOfSpecUptoRow.veiled == (Tryz.f8.params.toList ++ (OpenSpec.ofChange Rows.standingOfSpecSpec).bare.plain.varTypes Tryz.pinned.checked.prog ++ Tryz.f8.resultTypes.toList).any (Tryz.pinned.checked.prog.veiledRec ·))) = true:=by kernel_rfl
theorem jf31 : (Rows.standingOfSpecUptoRow.veiledFits Tryz.pinned.checked.prog Tryz.f8.params.toList (Tryz.f8.params.toList ++ (OpenSpec.ofChange Rows.standingOfSpecSpec).bare.plain.varTypes Tryz.pinned.checked.prog ++ Tryz.f8.resultTypes.toList)) = true:=by kernel_rfl
theorem gQ {a b : Bool} (ha : a = true) (hb : b = true) : (a && b) = true:=by rw [ha,hb]; rfl
theorem jf : joinedFacts Tryz.pinned.checked.prog 8 Tryz.f8 (OpenSpec.ofChange Rows.standingOfSpecSpec).bare Rows.standingOfSpecUptoRow = true:=by
 unfold joinedFacts
 exact gQ (gQ (gQ (gQ (gQ (gQ (gQ (gQ (gQ (gQ (gQ (gQ (gQ (gQ (gQ (gQ (gQ (gQ (gQ (gQ (gQ (gQ (gQ (gQ (gQ (gQ (gQ (gQ (gQ (gQ (gQ jf0 jf1) jf2) jf3) jf4) jf5) jf6) jf7) jf8) jf9) jf10) jf11) jf12) jf13) jf14) jf15) jf16) jf17) jf18) jf19) jf20) jf21) jf22) jf23) jf24) jf25) jf26) jf27) jf28) jf29) jf30) jf31
end Go.Vi.standingOfSpec
open Go Go.Proofs
namespace Go.Vi.standingOfSpec
open Go.ChangeShapes Go.WideShapes Go.ChangeAt Go.RowKit Go.Proofs.YtilebidefogaiaaGreatDoor
set_option maxRecDepth 100000

theorem B3 (H : Type) (enc : TypeId × Value → H) (W : World) (base : Nat) (args : Array Value) (ds gs : List (DataW H)) (before : List MemPlace)
  (hval : ∀ (j : Nat) t v,Tryz.f8.params[j]? = some t → args[j]? = some v → Value.okWide Tryz.prog W .any base t v)
  (hW : DataW.Whole enc Tryz.prog Tryz.f8.params.toList Rows.standingOfSpecSpec.vars false W args.toList ds gs before)
  (hz : (DataW.weightsEach Tryz.prog (Tryz.f8.params.toList ++ (Rows.OpenSpec.upto Rows.standingOfSpecSpec).bare.plain.varTypes Tryz.prog) (ds ++ gs)).all (· ≤ reachBytes) = true) (hc : Rows.uptoSmall H (ds ++ gs) = true) (hL : laidMetH Tryz.prog [("sizar/rules.kinds",Rows.laid_sizar_rules_kinds)] W) :
  Calls Tryz.prog 8 args W fun e W'=>∃ v,e = .returned v ∧ Rows.standingOfSpecSpec.post enc Tryz.prog Tryz.f8 false true false false W args v W':=by
 have hW':=hW
 obtain ⟨p,q,hA0,hV,rfl,hfz,hnd⟩:=hW
 obtain ⟨rfl,rfl⟩:=trodVars_none (show DataW.TrodVars enc Tryz.prog W (fun _=>true) [] gs q from hV)
 have hA : DataW.TrodAll enc Tryz.prog W 0 (fun _=>true) true Tryz.f8.params.toList args.toList ds p:=hA0
 rw [Tryz.params8] at hA hval hz
 obtain ⟨v0,vs0,d0,ds0,p0,q0,hargs,rfl,rfl,h0,r0⟩:=trodAll_cons hA
 obtain ⟨v1,vs1,d1,ds1,p1,q1,rfl,rfl,rfl,h1,r1⟩:=trodAll_cons r0
 obtain ⟨v2,vs2,d2,ds2,p2,q2,rfl,rfl,rfl,h2,r2⟩:=trodAll_cons r1
 obtain ⟨v3,vs3,d3,ds3,p3,q3,rfl,rfl,rfl,h3,r3⟩:=trodAll_cons r2
 obtain ⟨v4,vs4,d4,ds4,p4,q4,rfl,rfl,rfl,h4,r4⟩:=trodAll_cons r3
 obtain ⟨v5,vs5,d5,ds5,p5,q5,rfl,rfl,rfl,h5,r5⟩:=trodAll_cons r4
 obtain ⟨rfl,rfl,rfl⟩:=trodAll_nil r5
 obtain rfl : args = #[v0,v1,v2,v3,v4,v5]:=by cases args; simp_all
 have w0:=ei hz 0 29 d0 rfl rfl
 obtain ⟨S0,hs0,rel0,hm0⟩:=vw (hval 0 29 v0 rfl rfl) h0 w0 (vz hc (by simp))
 obtain ⟨x1,rfl,rfl,rfl,wx1⟩:=open_int Tryz.underlying3 (hval 1 3 v1 rfl rfl) h1
 obtain ⟨x2,rfl,rfl,rfl,wx2⟩:=open_int Tryz.underlying3 (hval 2 3 v2 rfl rfl) h2
 obtain ⟨x3,rfl,rfl,rfl,wx3⟩:=open_int Tryz.underlying3 (hval 3 3 v3 rfl rfl) h3
 obtain ⟨x4,rfl,rfl,rfl,wx4⟩:=open_int Tryz.underlying3 (hval 4 3 v4 rfl rfl) h4
 obtain ⟨x5,rfl,rfl,rfl,wx5⟩:=open_int Tryz.underlying3 (hval 5 3 v5 rfl rfl) h5
 have hrel : RelL W (avs (fun _=>False) (fun _=>none) []) (fun _=>none) [] [.agg (WorldT.l S0),int x1,int x2,int x3,int x4,int x5] [v0,.int .i64 x1,.int .i64 x2,.int .i64 x3,.int .i64 x4,.int .i64 x5]:=by
  simp only [RelL]
  exact ⟨rel0,by simp [Rel,RelP],by simp [Rel,RelP],by simp [Rel,RelP],by simp [Rel,RelP],by simp [Rel,RelP],trivial⟩
 refine (xp (xX hL) (jp hs0 hm0 []) hrel).mono fun e W' ⟨v,he,hv,hbw⟩=>?_
 have hv' : v = .bool true:=by simpa [Rel,RelP] using hv
 subst hv'
 exact ⟨_,he,xn DH (by kernel_rfl) rfl rfl Tryz.underlying4 hW' rfl hbw⟩

def wArgs : Array Value:=#[Value.agg #[.slice none 0 0,.slice none 0 0,.slice none 0 0,.slice none 0 0],Value.int .i64 0,Value.int .i64 0,Value.int .i64 0,Value.int .i64 0,Value.int .i64 0]

theorem reads (os : Os) {H : Type} (enc : TypeId × Value → H) : ∃ places,DataW.whole enc Tryz.prog ((lA os).forCall (fun _ _=>0) ⟨#[],wArgs,[]⟩).memory Tryz.f8.params.toList Rows.standingOfSpecSpec.vars false
  wArgs.toList 8 = some ([.agg [.agg [.nil,.nil,.nil],.nil],.lit (.int .i64 0),.lit (.int .i64 0),.lit (.int .i64 0),.lit (.int .i64 0),.lit (.int .i64 0)],[],places) :=
 ⟨[],by kernel_rfl⟩

theorem lifted (os : Os) (started : os.Started) (H : Type) (enc : TypeId × Value → H) (F : Stop.Interp) :
  ReturnsInHanded {} Tryz.checked os 8 .any ((Rows.OpenSpec.upto Rows.standingOfSpecSpec).preRow enc Tryz.prog Tryz.f8 Rows.standingOfSpecUptoRow.domain false Rows.standingOfSpecUptoRow.laid) (((Rows.OpenSpec.upto Rows.standingOfSpecSpec).at F).post enc Tryz.prog Tryz.f8 false true false false):=by
 obtain ⟨places,hx⟩:=reads os enc
 refine returnsInHanded_of_row (C:=Tryz.checked) (s:=Rows.OpenSpec.upto Rows.standingOfSpecSpec) ownK started (by kernel_rfl) Tryz.func8
  (witness_row_at (enc:=enc) (C:=Tryz.checked) false (lA os) wArgs rfl (by kernel_rfl) (by kernel_rfl) (by kernel_rfl)
   (OpenSpec.preRow_of_cond 8 hx (by kernel_rfl) (fun k hk=>by cases hk; kernel_rfl) (by kernel_rfl) (laid_met os _))) ?_
 intro W base args ds gs before hval hW _ hc hz hL _ _
 exact B3 H enc W base args ds gs before hval hW hz (hc _ rfl) hL

theorem said : Rows.StandingOfSpecUptoSaid :=
 OpenClaim.holds_of_cond 8 Tryz.f8 rfl rfl rfl rfl rfl rfl rfl ⟨rfl,rfl,rfl,rfl,rfl⟩ rfl rfl rfl rfl rfl (by kernel_rfl) Tryz.func8 jf
  (of_decide_eq_true (by kernel_rfl)) (by unfold Func.isWrapper; first | (rw [if_pos (by decide +kernel)]; kernel_rfl) | (rw [if_neg (by decide +kernel)]; exact ⟨rfl,rfl⟩))
  (fun os started H enc _ F=>by rw [OpenClaim.pre_eq_preRow]; exact lifted os started H enc F)

theorem plain (f : FuncId) (fn : Func) (hf : Tryz.pinned.checked.prog.funcNamed "sizar/sizarlaw21.StandingOfSpec" = some f) (hfn : Tryz.pinned.checked.prog.funcs[f]? = some fn) :
  false = Tryz.pinned.checked.prog.looks [] ∧ ∀ (j : Nat) t,fn.params[j]? = some t → Tryz.pinned.checked.prog.wantsStandIn t = false:=by
 obtain rfl : f = 8:=Option.some.inj ((show Tryz.prog.funcNamed "sizar/sizarlaw21.StandingOfSpec" = some 8 by kernel_rfl).symm.trans hf) |>.symm
 obtain rfl : fn = Tryz.f8:=(Option.some.inj (Tryz.func8.symm.trans hfn)).symm
 refine ⟨by kernel_rfl,fun j t ht=>?_⟩
 rw [Tryz.params8] at ht
 have hm : t ∈ [29,3,3,3,3,3]:=by simpa using Array.mem_of_getElem? ht
 have hall : ([29,3,3,3,3,3].all fun u=>!Tryz.prog.wantsStandIn u) = true:=by kernel_rfl
 exact (show Tryz.prog.wantsStandIn t = false by simpa using List.all_eq_true.1 hall t hm)

theorem card : Rows.StandingOfSpecUptoCardSaid :=
 Claim7.holds_tied_plain_at .later [] _ _ _ _ said (fun _ h=>by cases h) (by kernel_rfl) (fun _ h=>by cases h) standingOfSpecUpto_row_tie rfl ⟨rfl,rfl⟩ (by kernel_rfl) rfl plain (by kernel_rfl)
end Go.Vi.standingOfSpec
namespace Go.Proofs.YtilebidefogaiaaGreatDoor
/-- The given card. -/
theorem standingOfSpec_holds : Rows.StandingOfSpecUptoCardSaid:=Go.Vi.standingOfSpec.card
#print axioms standingOfSpec_holds
end Go.Proofs.YtilebidefogaiaaGreatDoor
