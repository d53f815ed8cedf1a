/- LedgerMergeSpec: for every input the law returns true and each argument reads behind the call as it read before: the given card, proved. No conditions beyond the statement's own. -/
import Derived.Test.YtoincdhjcahadaaGreatDoorW8
import Derived.ChangeMaps5
open Decidable renaming decide → Qd
open Go Go.Proofs
namespace Go.Vi.ledgerMergeSpec
open Go.ChangeShapes Go.WideShapes Go.ChangeAt Go.RowKit Go.Proofs.YtoincdhjcahadaaGreatDoor
set_option maxRecDepth 100000
theorem jf0:(Rows.ledgerMergeSpecRow.wf (OpenSpec.ofChange (OpenSpec.ofChange Rows.ledgerMergeSpecSpec).bare))=true:=by kernel_rfl
theorem jf1:(laidOutB Tryz.pinned.checked.prog)=true:=by kernel_rfl
theorem jf2:(mapsRowed Tryz.pinned.checked.prog)=true:=by kernel_rfl
theorem jf3:(Tryz.f5.params.all (Tryz.pinned.checked.prog.readableRec ·))=true:=by kernel_rfl
theorem jf4:(namedTie Tryz.pinned.checked.prog Rows.ledgerMergeSpecRow.named (OpenSpec.ofChange Rows.ledgerMergeSpecSpec).bare.vars)=true:=by kernel_rfl
theorem jf5:((Rows.ledgerMergeSpecRow.stops==[]))=true:=by kernel_rfl
theorem jf6:((Tryz.pinned.checked.prog.stops==[]))=true:=by kernel_rfl
theorem jf7:((Rows.ledgerMergeSpecRow.knobs==[]))=true:=by kernel_rfl
theorem jf8:((Tryz.pinned.checked.prog.stopKnobs==[]))=true:=by kernel_rfl
theorem jf9:((Rows.ledgerMergeSpecRow.inPlace==Tryz.pinned.checked.prog.inPlace 5))=true:=by kernel_rfl
theorem jf10:((Rows.ledgerMergeSpecRow.unfollowed==Tryz.pinned.checked.prog.unfollowed 5))=true:=by kernel_rfl
theorem jf11:((Rows.ledgerMergeSpecRow.recurses==Tryz.pinned.checked.prog.recurses 5))=true:=by kernel_rfl
theorem jf12:((Rows.ledgerMergeSpecRow.named==Tryz.pinned.checked.prog.varsNamed 5))=true:=by kernel_rfl
theorem jf13:((Rows.ledgerMergeSpecRow.maps==(Tryz.f5.params.toList++(OpenSpec.ofChange Rows.ledgerMergeSpecSpec).bare.plain.varTypes Tryz.pinned.checked.prog).any (Tryz.pinned.checked.prog.mapsRec ·)))=true:=by kernel_rfl
theorem jf14:((Rows.ledgerMergeSpecRow.ifaces==(Tryz.f5.params.toList++(OpenSpec.ofChange Rows.ledgerMergeSpecSpec).bare.plain.varTypes Tryz.pinned.checked.prog).any (Tryz.pinned.checked.prog.ifacesRec ·)))=true:=by kernel_rfl
theorem jf15:((Rows.ledgerMergeSpecRow.mapsOut==Tryz.pinned.checked.prog.mapsAmong Tryz.f5.resultTypes.toList))=true:=by kernel_rfl
theorem jf16:((Rows.ledgerMergeSpecRow.loops==(Tryz.f5.params.toList++(OpenSpec.ofChange Rows.ledgerMergeSpecSpec).bare.plain.varTypes Tryz.pinned.checked.prog).any (Tryz.pinned.checked.prog.loopsFrom ·)))=true:=by kernel_rfl
theorem jf17:((Rows.ledgerMergeSpecRow.wideKeys==(Tryz.f5.params.toList++(OpenSpec.ofChange Rows.ledgerMergeSpecSpec).bare.plain.varTypes Tryz.pinned.checked.prog++Tryz.f5.resultTypes.toList).any (Tryz.pinned.checked.prog.wideKeysFrom ·)))=true:=by kernel_rfl
theorem jf18:((OpenSpec.ofChange Rows.ledgerMergeSpecSpec).bare.vars.all (Tryz.pinned.checked.prog.varReadable ·))=true:=by kernel_rfl
theorem jf19:(Tryz.f5.resultTypes.all (fun t=>Tryz.pinned.checked.prog.readableRec t&&Qd (t<Tryz.pinned.checked.prog.types.size)))=true:=by kernel_rfl
theorem jf20:((Rows.ledgerMergeSpecRow.ifacesOut==Tryz.f5.resultTypes.toList.any (Tryz.pinned.checked.prog.ifacesRec ·)))=true:=by kernel_rfl
theorem jf21:((Rows.ledgerMergeSpecRow.loopsOut==Tryz.f5.resultTypes.toList.any (Tryz.pinned.checked.prog.loopsFrom ·)))=true:=by kernel_rfl
theorem jf22:((Rows.ledgerMergeSpecRow.plainKeys==Tryz.pinned.checked.prog.plainKeys))=true:=by kernel_rfl
theorem jf23:(Rows.ledgerMergeSpecRow.shortTexts.isNone)=true:=by kernel_rfl
theorem jf24:(Tryz.pinned.checked.prog.stopsHeard)=true:=by kernel_rfl
theorem jf25:(Tryz.pinned.checked.prog.mayEnter)=true:=by kernel_rfl
theorem jf26:((Rows.ledgerMergeSpecRow.lifted==Tryz.pinned.checked.prog.liftsFinal))=true:=by kernel_rfl
theorem jf27:((Tryz.pinned.checked.prog.make==some Rows.ledgerMergeSpecRow.make))=true:=by kernel_rfl
theorem jf28:((Rows.ledgerMergeSpecRow.kinds==(if Rows.ledgerMergeSpecRow.domain.isEmpty then [] else Tryz.f5.params.toList.map fun t=>match Tryz.pinned.checked.prog.underlying t with|some (.int k)=>some k|_=>none)))=true:=by kernel_rfl
theorem jf29:((Rows.ledgerMergeSpecRow.pinned==Rows.ledgerMergeSpecRow.pinnedBy))=true:=by kernel_rfl
theorem jf30:((Rows.ledgerMergeSpecRow.veiled==(Tryz.f5.params.toList++(OpenSpec.ofChange Rows.ledgerMergeSpecSpec).bare.plain.varTypes Tryz.pinned.checked.prog++Tryz.f5.resultTypes.toList).any (Tryz.pinned.checked.prog.veiledRec ·)))=true:=by kernel_rfl
theorem jf31:(Rows.ledgerMergeSpecRow.veiledFits Tryz.pinned.checked.prog Tryz.f5.params.toList (Tryz.f5.params.toList++(OpenSpec.ofChange Rows.ledgerMergeSpecSpec).bare.plain.varTypes Tryz.pinned.checked.prog++Tryz.f5.resultTypes.toList))=true:=by kernel_rfl
theorem f8{a b:Bool}(ha:a=true)(hb:b=true):(a&&b)=true:=by rw[ha,hb];rfl
theorem jf:joinedFacts Tryz.pinned.checked.prog 5 Tryz.f5 (OpenSpec.ofChange Rows.ledgerMergeSpecSpec).bare Rows.ledgerMergeSpecRow=true:=by
 unfold joinedFacts
 exact f8 (f8 (f8 (f8 (f8 (f8 (f8 (f8 (f8 (f8 (f8 (f8 (f8 (f8 (f8 (f8 (f8 (f8 (f8 (f8 (f8 (f8 (f8 (f8 (f8 (f8 (f8 (f8 (f8 (f8 (f8 jf0 jf1) jf2) jf3) jf4) jf5) jf6) jf7) jf8) jf9) jf10) jf11) jf12) jf13) jf14) jf15) jf16) jf17) jf18) jf19) jf20) jf21) jf22) jf23) jf24) jf25) jf26) jf27) jf28) jf29) jf30) jf31
end Go.Vi.ledgerMergeSpec
open Go Go.Proofs
namespace Go.Vi.ledgerMergeSpec
open Go.ChangeShapes Go.WideShapes Go.ChangeAt Go.RowKit Go.Proofs.YtoincdhjcahadaaGreatDoor
set_option maxRecDepth 100000

theorem yn(H:Type)(enc:TypeId×Value→H)(W:World)(base:Nat)(args:Array Value)(ds gs:List (DataW H))(before:List MemPlace)
  (hval:∀(j:Nat) t v,Tryz.f5.params[j]? = some t→args[j]? = some v→Value.okWide Tryz.prog W .any base t v)
  (hW:DataW.Whole enc Tryz.prog Tryz.f5.params.toList Rows.ledgerMergeSpecSpec.vars false W args.toList ds gs before)
  (hz:(DataW.weightsEach Tryz.prog (Tryz.f5.params.toList++(OpenSpec.ofChange Rows.ledgerMergeSpecSpec).bare.plain.varTypes Tryz.prog) (ds++gs)).all (· ≤ reachBytes)=true) (hL:laidMetH Tryz.prog laid3 W) :
  Calls Tryz.prog 5 args W fun e W'=>∃v,e=.returned v∧Rows.ledgerMergeSpecSpec.post enc Tryz.prog Tryz.f5 false true false false W args v W':=by
 have hW':=hW
 obtain⟨p,q,hA0,hV,rfl,hfz,hnd⟩:=hW
 obtain⟨rfl,rfl⟩:=trodVars_none (show DataW.TrodVars enc Tryz.prog W (fun _=>true) [] gs q from hV)
 have hA:DataW.TrodAll enc Tryz.prog W 0 (fun _=>true) true Tryz.f5.params.toList args.toList ds p:=hA0
 rw[Tryz.params5] at hA hval hz
 obtain⟨v0,vs0,d0,ds0,p0,q0,hargs,rfl,rfl,h0,r0⟩:=trodAll_cons hA
 obtain⟨v1,vs1,d1,ds1,p1,q1,rfl,rfl,rfl,h1,r1⟩:=trodAll_cons r0
 obtain⟨rfl,rfl,rfl⟩:=trodAll_nil r1
 obtain rfl:args=#[v0,v1]:=by cases args;simp_all
 have w0:=co hz 0 22 d0 rfl rfl
 obtain⟨S0,hs0,rel0⟩:=r8 (hval 0 22 v0 rfl rfl) h0 w0
 have w1:=co hz 1 22 d1 rfl rfl
 obtain⟨S1,hs1,rel1⟩:=r8 (hval 1 22 v1 rfl rfl) h1 w1
 have hrel:RelL W (avs (fun _=>False) (fun _=>none) []) (fun _=>none) [] [aa (S0.map EntT.row),aa (S1.map EntT.row)] [v0,v1]:=by
  simp only[RelL]
  exact⟨rel0,rel1,trivial⟩
 refine(uy (we hL) (iT hs0.1 hs0.2 hs1.1 hs1.2 []) hrel).mono fun e W' ⟨v,he,hv,hbw⟩=>?_
 have hv':v=.bool true:=by simpa[Rel,RelP] using hv
 subst hv'
 exact⟨_,he,ux Ca (by kernel_rfl) rfl rfl Tryz.underlying4 hW' rfl hbw⟩

def wArgs:Array Value:=#[.slice none 0 0,.slice none 0 0]

theorem reads(os:Os){H:Type}(enc:TypeId×Value→H):∃places,DataW.whole enc Tryz.prog ((kW os).forCall (fun _ _=>0) ⟨#[],wArgs,[]⟩).memory Tryz.f5.params.toList Rows.ledgerMergeSpecSpec.vars false
  wArgs.toList 8=some ([.nil,.nil],[],places) :=
 ⟨[],by kernel_rfl⟩

theorem lifted(os:Os)(started:os.Started)(H:Type)(enc:TypeId×Value→H)(F:Stop.Interp):
  ReturnsInHanded {} Tryz.checked os 5 .any ((OpenSpec.ofChange Rows.ledgerMergeSpecSpec).preRow enc Tryz.prog Tryz.f5 Rows.ledgerMergeSpecRow.domain false Rows.ledgerMergeSpecRow.laid) (((OpenSpec.ofChange Rows.ledgerMergeSpecSpec).at F).post enc Tryz.prog Tryz.f5 false true false false):=by
 obtain⟨places,hx⟩:=reads os enc
 refine returnsInHanded_of_row (C:=Tryz.checked) (s:=OpenSpec.ofChange Rows.ledgerMergeSpecSpec) ownK started (by kernel_rfl) Tryz.func5
  (witness_row_at (enc:=enc) (C:=Tryz.checked) false (kW os) wArgs rfl (by kernel_rfl) (by kernel_rfl) (by kernel_rfl)
   (OpenSpec.preRow_of_cond 8 hx (by kernel_rfl) (fun k hk=>by cases hk) (by kernel_rfl) (laid_met os _))) ?_
 intro W base args ds gs before hval hW _ _ hz hL _ _
 exact yn H enc W base args ds gs before hval hW hz hL

theorem said:Rows.LedgerMergeSpecSaid :=
 OpenClaim.holds_of_cond 5 Tryz.f5 rfl rfl rfl rfl rfl rfl rfl ⟨rfl,rfl,rfl,rfl,rfl⟩ rfl rfl rfl rfl rfl (by kernel_rfl) Tryz.func5 jf
  (of_decide_eq_true (by kernel_rfl)) (by unfold Func.isWrapper;first|(rw[if_pos (by decide +kernel)];kernel_rfl)|(rw[if_neg (by decide +kernel)];exact⟨rfl,rfl⟩))
  (fun os started H enc _ F=>by rw[OpenClaim.pre_eq_preRow];exact lifted os started H enc F)

theorem plain (f:FuncId) (fn:Func) (hf:Tryz.pinned.checked.prog.funcNamed "sizar/sizarlaw39.LedgerMergeSpec" = some f) (hfn:Tryz.pinned.checked.prog.funcs[f]? = some fn) :
  true=Tryz.pinned.checked.prog.looks []∧∀(j:Nat) t,fn.params[j]? = some t→Tryz.pinned.checked.prog.wantsStandIn t=false:=by
 obtain rfl:f=5:=Option.some.inj ((show Tryz.prog.funcNamed "sizar/sizarlaw39.LedgerMergeSpec" = some 5 by kernel_rfl).symm.trans hf) |>.symm
 obtain rfl:fn=Tryz.f5:=(Option.some.inj (Tryz.func5.symm.trans hfn)).symm
 refine⟨by kernel_rfl,fun j t ht=>?_⟩
 rw[Tryz.params5] at ht
 have hm:t∈[22,22]:=by simpa using Array.mem_of_getElem? ht
 have hall:([22,22].all fun u=>!Tryz.prog.wantsStandIn u)=true:=by kernel_rfl
 exact(show Tryz.prog.wantsStandIn t=false by simpa using List.all_eq_true.1 hall t hm)

theorem card:Rows.LedgerMergeSpecCardSaid :=
 Claim7.holds_tied_plain_at .later [] _ _ _ _ said (fun _ h=>by cases h) (by kernel_rfl) (fun _ h=>by cases h) ledgerMergeSpec_row_tie rfl ⟨rfl,rfl⟩ (by kernel_rfl) rfl plain (by kernel_rfl)
end Go.Vi.ledgerMergeSpec
namespace Go.Proofs.YtoincdhjcahadaaGreatDoor
/-- The given card. -/
theorem ledgerMergeSpec_holds:Rows.LedgerMergeSpecCardSaid:=Go.Vi.ledgerMergeSpec.card
#print axioms ledgerMergeSpec_holds
end Go.Proofs.YtoincdhjcahadaaGreatDoor
