/- LedgerArrival: for every input the law returns true and each argument reads behind the call as it read before: the given card, proved. No conditions beyond the statement's own. -/
import Derived.Test.YtbfpdhdcicjihaaGreatDoorW11
import Derived.ChangeMaps5
open Decidable renaming decide → Qd
open Go Go.Proofs
namespace Go.Vi.ledgerArrival
open Go.ChangeShapes Go.WideShapes Go.ChangeAt Go.RowKit Go.Proofs.YtbfpdhdcicjihaaGreatDoor
set_option maxRecDepth 100000
theorem jf0:(Rows.ledgerArrivalRow.wf (OpenSpec.ofChange (OpenSpec.ofChange Rows.ledgerArrivalSpec).bare))=true:=by kernel_rfl
theorem jf1:(laidOutB Tryz.pinned.checked.prog)=true:=by kernel_rfl
theorem jf2:(mapsRowed Tryz.pinned.checked.prog)=true:=by kernel_rfl
theorem jf3:(Tryz.f3.params.all (Tryz.pinned.checked.prog.readableRec ·))=true:=by kernel_rfl
theorem jf4:(namedTie Tryz.pinned.checked.prog Rows.ledgerArrivalRow.named (OpenSpec.ofChange Rows.ledgerArrivalSpec).bare.vars)=true:=by kernel_rfl
theorem jf5:((Rows.ledgerArrivalRow.stops==[]))=true:=by kernel_rfl
theorem jf6:((Tryz.pinned.checked.prog.stops==[]))=true:=by kernel_rfl
theorem jf7:((Rows.ledgerArrivalRow.knobs==[]))=true:=by kernel_rfl
theorem jf8:((Tryz.pinned.checked.prog.stopKnobs==[]))=true:=by kernel_rfl
theorem jf9:((Rows.ledgerArrivalRow.inPlace==Tryz.pinned.checked.prog.inPlace 3))=true:=by kernel_rfl
theorem jf10:((Rows.ledgerArrivalRow.unfollowed==Tryz.pinned.checked.prog.unfollowed 3))=true:=by kernel_rfl
theorem jf11:((Rows.ledgerArrivalRow.recurses==Tryz.pinned.checked.prog.recurses 3))=true:=by kernel_rfl
theorem jf12:((Rows.ledgerArrivalRow.named==Tryz.pinned.checked.prog.varsNamed 3))=true:=by kernel_rfl
theorem jf13:((Rows.ledgerArrivalRow.maps==(Tryz.f3.params.toList++(OpenSpec.ofChange Rows.ledgerArrivalSpec).bare.plain.varTypes Tryz.pinned.checked.prog).any (Tryz.pinned.checked.prog.mapsRec ·)))=true:=by kernel_rfl
theorem jf14:((Rows.ledgerArrivalRow.ifaces==(Tryz.f3.params.toList++(OpenSpec.ofChange Rows.ledgerArrivalSpec).bare.plain.varTypes Tryz.pinned.checked.prog).any (Tryz.pinned.checked.prog.ifacesRec ·)))=true:=by kernel_rfl
theorem jf15:((Rows.ledgerArrivalRow.mapsOut==Tryz.pinned.checked.prog.mapsAmong Tryz.f3.resultTypes.toList))=true:=by kernel_rfl
theorem jf16:((Rows.ledgerArrivalRow.loops==(Tryz.f3.params.toList++(OpenSpec.ofChange Rows.ledgerArrivalSpec).bare.plain.varTypes Tryz.pinned.checked.prog).any (Tryz.pinned.checked.prog.loopsFrom ·)))=true:=by kernel_rfl
theorem jf17:((Rows.ledgerArrivalRow.wideKeys==(Tryz.f3.params.toList++(OpenSpec.ofChange Rows.ledgerArrivalSpec).bare.plain.varTypes Tryz.pinned.checked.prog++Tryz.f3.resultTypes.toList).any (Tryz.pinned.checked.prog.wideKeysFrom ·)))=true:=by kernel_rfl
theorem jf18:((OpenSpec.ofChange Rows.ledgerArrivalSpec).bare.vars.all (Tryz.pinned.checked.prog.varReadable ·))=true:=by kernel_rfl
theorem jf19:(Tryz.f3.resultTypes.all (fun t=>Tryz.pinned.checked.prog.readableRec t&&Qd (t<Tryz.pinned.checked.prog.types.size)))=true:=by kernel_rfl
theorem jf20:((Rows.ledgerArrivalRow.ifacesOut==Tryz.f3.resultTypes.toList.any (Tryz.pinned.checked.prog.ifacesRec ·)))=true:=by kernel_rfl
theorem jf21:((Rows.ledgerArrivalRow.loopsOut==Tryz.f3.resultTypes.toList.any (Tryz.pinned.checked.prog.loopsFrom ·)))=true:=by kernel_rfl
theorem jf22:((Rows.ledgerArrivalRow.plainKeys==Tryz.pinned.checked.prog.plainKeys))=true:=by kernel_rfl
theorem jf23:(Rows.ledgerArrivalRow.shortTexts.isNone)=true:=by kernel_rfl
theorem jf24:(Tryz.pinned.checked.prog.stopsHeard)=true:=by kernel_rfl
theorem jf25:(Tryz.pinned.checked.prog.mayEnter)=true:=by kernel_rfl
theorem jf26:((Rows.ledgerArrivalRow.lifted==Tryz.pinned.checked.prog.liftsFinal))=true:=by kernel_rfl
theorem jf27:((Tryz.pinned.checked.prog.make==some Rows.ledgerArrivalRow.make))=true:=by kernel_rfl
theorem jf28:((Rows.ledgerArrivalRow.kinds==(if Rows.ledgerArrivalRow.domain.isEmpty then [] else Tryz.f3.params.toList.map fun t=>match Tryz.pinned.checked.prog.underlying t with|some (.int k)=>some k|_=>none)))=true:=by kernel_rfl
theorem jf29:((Rows.ledgerArrivalRow.pinned==Rows.ledgerArrivalRow.pinnedBy))=true:=by kernel_rfl
theorem jf30:((Rows.ledgerArrivalRow.veiled==(Tryz.f3.params.toList++(OpenSpec.ofChange Rows.ledgerArrivalSpec).bare.plain.varTypes Tryz.pinned.checked.prog++Tryz.f3.resultTypes.toList).any (Tryz.pinned.checked.prog.veiledRec ·)))=true:=by kernel_rfl
theorem jf31:(Rows.ledgerArrivalRow.veiledFits Tryz.pinned.checked.prog Tryz.f3.params.toList (Tryz.f3.params.toList++(OpenSpec.ofChange Rows.ledgerArrivalSpec).bare.plain.varTypes Tryz.pinned.checked.prog++Tryz.f3.resultTypes.toList))=true:=by kernel_rfl
theorem gU{a b:Bool}(ha:a=true)(hb:b=true):(a&&b)=true:=by rw[ha,hb];rfl
theorem jf:joinedFacts Tryz.pinned.checked.prog 3 Tryz.f3 (OpenSpec.ofChange Rows.ledgerArrivalSpec).bare Rows.ledgerArrivalRow=true:=by
 unfold joinedFacts
 exact gU (gU (gU (gU (gU (gU (gU (gU (gU (gU (gU (gU (gU (gU (gU (gU (gU (gU (gU (gU (gU (gU (gU (gU (gU (gU (gU (gU (gU (gU (gU jf0 jf1) jf2) jf3) jf4) jf5) jf6) jf7) jf8) jf9) jf10) jf11) jf12) jf13) jf14) jf15) jf16) jf17) jf18) jf19) jf20) jf21) jf22) jf23) jf24) jf25) jf26) jf27) jf28) jf29) jf30) jf31
end Go.Vi.ledgerArrival
open Go Go.Proofs
namespace Go.Vi.ledgerArrival
open Go.ChangeShapes Go.WideShapes Go.ChangeAt Go.RowKit Go.Proofs.YtbfpdhdcicjihaaGreatDoor
set_option maxRecDepth 100000

theorem BU(H:Type)(enc:TypeId×Value→H)(W:World)(base:Nat)(args:Array Value)(ds gs:List (DataW H))(before:List MemPlace)
  (hval:∀(j:Nat) t v,Tryz.f3.params[j]? = some t→args[j]? = some v→Value.okWide Tryz.prog W .any base t v)
  (hW:DataW.Whole enc Tryz.prog Tryz.f3.params.toList Rows.ledgerArrivalSpec.vars false W args.toList ds gs before)
  (hz:(DataW.weightsEach Tryz.prog (Tryz.f3.params.toList++(OpenSpec.ofChange Rows.ledgerArrivalSpec).bare.plain.varTypes Tryz.prog) (ds++gs)).all (· ≤ reachBytes)=true) (hL:laidMetH Tryz.prog laid5 W) :
  Calls Tryz.prog 3 args W fun e W'=>∃v,e=.returned v∧Rows.ledgerArrivalSpec.post enc Tryz.prog Tryz.f3 false true false false W args v W':=by
 have hW':=hW
 obtain⟨p,q,hA0,hV,rfl,hfz,hnd⟩:=hW
 obtain⟨rfl,rfl⟩:=trodVars_none (show DataW.TrodVars enc Tryz.prog W (fun _=>true) [] gs q from hV)
 have hA:DataW.TrodAll enc Tryz.prog W 0 (fun _=>true) true Tryz.f3.params.toList args.toList ds p:=hA0
 rw[Tryz.params3] at hA hval hz
 obtain⟨v0,vs0,d0,ds0,p0,q0,hargs,rfl,rfl,h0,r0⟩:=trodAll_cons hA
 obtain⟨v1,vs1,d1,ds1,p1,q1,rfl,rfl,rfl,h1,r1⟩:=trodAll_cons r0
 obtain⟨rfl,rfl,rfl⟩:=trodAll_nil r1
 obtain rfl:args=#[v0,v1]:=by cases args;simp_all
 have w0:=cF hz 0 22 d0 rfl rfl
 obtain⟨S0,hs0,rel0⟩:=Az (hval 0 22 v0 rfl rfl) h0 w0
 have w1:=cF hz 1 23 d1 rfl rfl
 obtain⟨S1,hs1,rel1⟩:=Eh (hval 1 23 v1 rfl rfl) h1 w1
 have hrel:RelL W (avs (fun _=>False) (fun _=>none) []) (fun _=>none) [] [aa (S0.map EntT.row),aa (S1.map u8R)] [v0,v1]:=by
  simp only[RelL]
  exact⟨rel0,rel1,trivial⟩
 refine(wD (yq hL) (kb hs0.1 hs1 []) hrel).mono fun e W' ⟨v,he,hv,hbw⟩=>?_
 have hv':v=.bool true:=by simpa[Rel,RelP] using hv
 subst hv'
 exact⟨_,he,wC Ei (by kernel_rfl) rfl rfl Tryz.underlying4 hW' rfl hbw⟩

def wArgs:Array Value:=#[.slice none 0 0,.slice none 0 0]

theorem reads(os:Os){H:Type}(enc:TypeId×Value→H):∃places,DataW.whole enc Tryz.prog ((me os).forCall (fun _ _=>0) ⟨#[],wArgs,[]⟩).memory Tryz.f3.params.toList Rows.ledgerArrivalSpec.vars false
  wArgs.toList 8=some ([.nil,.nil],[],places) :=
 ⟨[],by kernel_rfl⟩

theorem lifted(os:Os)(started:os.Started)(H:Type)(enc:TypeId×Value→H)(F:Stop.Interp):
  ReturnsInHanded {} Tryz.checked os 3 .any ((OpenSpec.ofChange Rows.ledgerArrivalSpec).preRow enc Tryz.prog Tryz.f3 Rows.ledgerArrivalRow.domain false Rows.ledgerArrivalRow.laid) (((OpenSpec.ofChange Rows.ledgerArrivalSpec).at F).post enc Tryz.prog Tryz.f3 false true false false):=by
 obtain⟨places,hx⟩:=reads os enc
 refine returnsInHanded_of_row (C:=Tryz.checked) (s:=OpenSpec.ofChange Rows.ledgerArrivalSpec) ownK started (by kernel_rfl) Tryz.func3
  (witness_row_at (enc:=enc) (C:=Tryz.checked) false (me os) wArgs rfl (by kernel_rfl) (by kernel_rfl) (by kernel_rfl)
   (OpenSpec.preRow_of_cond 8 hx (by kernel_rfl) (fun k hk=>by cases hk) (by kernel_rfl) (laid_met os _))) ?_
 intro W base args ds gs before hval hW _ _ hz hL _ _
 exact BU H enc W base args ds gs before hval hW hz hL

theorem said:Rows.LedgerArrivalSaid :=
 OpenClaim.holds_of_cond 3 Tryz.f3 rfl rfl rfl rfl rfl rfl rfl ⟨rfl,rfl,rfl,rfl,rfl⟩ rfl rfl rfl rfl rfl (by kernel_rfl) Tryz.func3 jf
  (of_decide_eq_true (by kernel_rfl)) (by unfold Func.isWrapper;first|(rw[if_pos (by decide +kernel)];kernel_rfl)|(rw[if_neg (by decide +kernel)];exact⟨rfl,rfl⟩))
  (fun os started H enc _ F=>by rw[OpenClaim.pre_eq_preRow];exact lifted os started H enc F)

theorem plain (f:FuncId) (fn:Func) (hf:Tryz.pinned.checked.prog.funcNamed "sizar/sizarlaw39.LedgerArrival" = some f) (hfn:Tryz.pinned.checked.prog.funcs[f]? = some fn) :
  true=Tryz.pinned.checked.prog.looks []∧∀(j:Nat) t,fn.params[j]? = some t→Tryz.pinned.checked.prog.wantsStandIn t=false:=by
 obtain rfl:f=3:=Option.some.inj ((show Tryz.prog.funcNamed "sizar/sizarlaw39.LedgerArrival" = some 3 by kernel_rfl).symm.trans hf) |>.symm
 obtain rfl:fn=Tryz.f3:=(Option.some.inj (Tryz.func3.symm.trans hfn)).symm
 refine⟨by kernel_rfl,fun j t ht=>?_⟩
 rw[Tryz.params3] at ht
 have hm:t∈[22,23]:=by simpa using Array.mem_of_getElem? ht
 have hall:([22,23].all fun u=>!Tryz.prog.wantsStandIn u)=true:=by kernel_rfl
 exact(show Tryz.prog.wantsStandIn t=false by simpa using List.all_eq_true.1 hall t hm)

theorem card:Rows.LedgerArrivalCardSaid :=
 Claim7.holds_tied_plain_at .later [] _ _ _ _ said (fun _ h=>by cases h) (by kernel_rfl) (fun _ h=>by cases h) ledgerArrival_row_tie rfl ⟨rfl,rfl⟩ (by kernel_rfl) rfl plain (by kernel_rfl)
end Go.Vi.ledgerArrival
namespace Go.Proofs.YtbfpdhdcicjihaaGreatDoor
/-- The given card. -/
theorem ledgerArrival_holds:Rows.LedgerArrivalCardSaid:=Go.Vi.ledgerArrival.card
#print axioms ledgerArrival_holds
end Go.Proofs.YtbfpdhdcicjihaaGreatDoor
