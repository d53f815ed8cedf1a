/- RecordSituateSpecUpto: for every input, where the arguments together are of bulk at most 1048576 (each value counted each time it is reached), the law returns true and each argument reads behind the call as it read before: the given card, proved. No conditions beyond the statement's own. -/
import Derived.Test.YtilebidefogaiaaGreatDoorW11
import Derived.ChangeMaps5
open Decidable renaming decide → Zd
open Go Go.Proofs
namespace Go.Vi.recordSituateSpec
open Go.ChangeShapes Go.WideShapes Go.ChangeAt Go.RowKit Go.Proofs.YtilebidefogaiaaGreatDoor
set_option maxRecDepth 100000
theorem jf0:(Rows.recordSituateSpecUptoRow.wf (OpenSpec.ofChange (OpenSpec.ofChange Rows.recordSituateSpecSpec).bare))=true:=by kernel_rfl
theorem jf1:(laidOutB Tryz.pinned.checked.prog)=true:=by kernel_rfl
theorem jf2:(mapsRowed Tryz.pinned.checked.prog)=true:=by kernel_rfl
theorem jf3:(Tryz.f3.params.all (Tryz.pinned.checked.prog.readableRec ·))=true:=by kernel_rfl
theorem jf4:(namedTie Tryz.pinned.checked.prog Rows.recordSituateSpecUptoRow.named (OpenSpec.ofChange Rows.recordSituateSpecSpec).bare.vars)=true:=by kernel_rfl
theorem jf5:((Rows.recordSituateSpecUptoRow.stops==[]))=true:=by kernel_rfl
theorem jf6:((Tryz.pinned.checked.prog.stops==[]))=true:=by kernel_rfl
theorem jf7:((Rows.recordSituateSpecUptoRow.knobs==[]))=true:=by kernel_rfl
theorem jf8:((Tryz.pinned.checked.prog.stopKnobs==[]))=true:=by kernel_rfl
theorem jf9:((Rows.recordSituateSpecUptoRow.inPlace==Tryz.pinned.checked.prog.inPlace 3))=true:=by kernel_rfl
theorem jf10:((Rows.recordSituateSpecUptoRow.unfollowed==Tryz.pinned.checked.prog.unfollowed 3))=true:=by kernel_rfl
theorem jf11:((Rows.recordSituateSpecUptoRow.recurses==Tryz.pinned.checked.prog.recurses 3))=true:=by kernel_rfl
theorem jf12:((Rows.recordSituateSpecUptoRow.named==Tryz.pinned.checked.prog.varsNamed 3))=true:=by kernel_rfl
theorem jf13:((Rows.recordSituateSpecUptoRow.maps==(Tryz.f3.params.toList++(OpenSpec.ofChange Rows.recordSituateSpecSpec).bare.plain.varTypes Tryz.pinned.checked.prog).any (Tryz.pinned.checked.prog.mapsRec ·)))=true:=by kernel_rfl
theorem jf14:((Rows.recordSituateSpecUptoRow.ifaces==(Tryz.f3.params.toList++(OpenSpec.ofChange Rows.recordSituateSpecSpec).bare.plain.varTypes Tryz.pinned.checked.prog).any (Tryz.pinned.checked.prog.ifacesRec ·)))=true:=by kernel_rfl
theorem jf15:((Rows.recordSituateSpecUptoRow.mapsOut==Tryz.pinned.checked.prog.mapsAmong Tryz.f3.resultTypes.toList))=true:=by kernel_rfl
theorem jf16:((Rows.recordSituateSpecUptoRow.loops==(Tryz.f3.params.toList++(OpenSpec.ofChange Rows.recordSituateSpecSpec).bare.plain.varTypes Tryz.pinned.checked.prog).any (Tryz.pinned.checked.prog.loopsFrom ·)))=true:=by kernel_rfl
theorem jf17:((Rows.recordSituateSpecUptoRow.wideKeys==(Tryz.f3.params.toList++(OpenSpec.ofChange Rows.recordSituateSpecSpec).bare.plain.varTypes Tryz.pinned.checked.prog++Tryz.f3.resultTypes.toList).any (Tryz.pinned.checked.prog.wideKeysFrom ·)))=true:=by kernel_rfl
theorem jf18:((OpenSpec.ofChange Rows.recordSituateSpecSpec).bare.vars.all (Tryz.pinned.checked.prog.varReadable ·))=true:=by kernel_rfl
theorem jf19:(Tryz.f3.resultTypes.all (fun t=>Tryz.pinned.checked.prog.readableRec t&&Zd (t<Tryz.pinned.checked.prog.types.size)))=true:=by kernel_rfl
theorem jf20:((Rows.recordSituateSpecUptoRow.ifacesOut==Tryz.f3.resultTypes.toList.any (Tryz.pinned.checked.prog.ifacesRec ·)))=true:=by kernel_rfl
theorem jf21:((Rows.recordSituateSpecUptoRow.loopsOut==Tryz.f3.resultTypes.toList.any (Tryz.pinned.checked.prog.loopsFrom ·)))=true:=by kernel_rfl
theorem jf22:((Rows.recordSituateSpecUptoRow.plainKeys==Tryz.pinned.checked.prog.plainKeys))=true:=by kernel_rfl
theorem jf23:(Rows.recordSituateSpecUptoRow.shortTexts.isNone)=true:=by kernel_rfl
theorem jf24:(Tryz.pinned.checked.prog.stopsHeard)=true:=by kernel_rfl
theorem jf25:(Tryz.pinned.checked.prog.mayEnter)=true:=by kernel_rfl
theorem jf26:((Rows.recordSituateSpecUptoRow.lifted==Tryz.pinned.checked.prog.liftsFinal))=true:=by kernel_rfl
theorem jf27:((Tryz.pinned.checked.prog.make==some Rows.recordSituateSpecUptoRow.make))=true:=by kernel_rfl
theorem jf28:((Rows.recordSituateSpecUptoRow.kinds==(if Rows.recordSituateSpecUptoRow.domain.isEmpty then [] else Tryz.f3.params.toList.map fun t=>match Tryz.pinned.checked.prog.underlying t with|some (.int k)=>some k|_=>none)))=true:=by kernel_rfl
theorem jf29:((Rows.recordSituateSpecUptoRow.pinned==Rows.recordSituateSpecUptoRow.pinnedBy))=true:=by kernel_rfl
theorem jf30:((Rows.recordSituateSpecUptoRow.veiled==(Tryz.f3.params.toList++(OpenSpec.ofChange Rows.recordSituateSpecSpec).bare.plain.varTypes Tryz.pinned.checked.prog++Tryz.f3.resultTypes.toList).any (Tryz.pinned.checked.prog.veiledRec ·)))=true:=by kernel_rfl
theorem jf31:(Rows.recordSituateSpecUptoRow.veiledFits Tryz.pinned.checked.prog Tryz.f3.params.toList (Tryz.f3.params.toList++(OpenSpec.ofChange Rows.recordSituateSpecSpec).bare.plain.varTypes Tryz.pinned.checked.prog++Tryz.f3.resultTypes.toList))=true:=by kernel_rfl
theorem gN{a b:Bool}(ha:a=true)(hb:b=true):(a&&b)=true:=by rw[ha,hb];rfl
theorem jf:joinedFacts Tryz.pinned.checked.prog 3 Tryz.f3 (OpenSpec.ofChange Rows.recordSituateSpecSpec).bare Rows.recordSituateSpecUptoRow=true:=by
 unfold joinedFacts
 exact gN (gN (gN (gN (gN (gN (gN (gN (gN (gN (gN (gN (gN (gN (gN (gN (gN (gN (gN (gN (gN (gN (gN (gN (gN (gN (gN (gN (gN (gN (gN jf0 jf1) jf2) jf3) jf4) jf5) jf6) jf7) jf8) jf9) jf10) jf11) jf12) jf13) jf14) jf15) jf16) jf17) jf18) jf19) jf20) jf21) jf22) jf23) jf24) jf25) jf26) jf27) jf28) jf29) jf30) jf31
end Go.Vi.recordSituateSpec
open Go Go.Proofs
namespace Go.Vi.recordSituateSpec
open Go.ChangeShapes Go.WideShapes Go.ChangeAt Go.RowKit Go.Proofs.YtilebidefogaiaaGreatDoor
set_option maxRecDepth 100000

theorem CV(H:Type)(enc:TypeId×Value→H)(W:World)(base:Nat)(args:Array Value)(ds gs:List (DataW H))(before:List MemPlace)
  (Q7:∀(j:Nat) t v,Tryz.f3.params[j]? = some t→args[j]? = some v→Value.okWide Tryz.prog W .any base t v)
  (hW:DataW.Whole enc Tryz.prog Tryz.f3.params.toList Rows.recordSituateSpecSpec.vars false W args.toList ds gs before)
  (hz:(DataW.weightsEach Tryz.prog (Tryz.f3.params.toList++(Rows.OpenSpec.upto Rows.recordSituateSpecSpec).bare.plain.varTypes Tryz.prog) (ds++gs)).all (· ≤ reachBytes)=true) (hc:Rows.uptoSmall H (ds++gs)=true) (hL:laidMetH Tryz.prog [("sizar/rules.kinds",Rows.laid_sizar_rules_kinds)] W) :
  Calls Tryz.prog 3 args W fun e W'=>∃v,e=.returned v∧Rows.recordSituateSpecSpec.post enc Tryz.prog Tryz.f3 false true false false W args v W':=by
 have hW':=hW
 obtain⟨p,q,hA0,hV,rfl,hfz,hnd⟩:=hW
 obtain⟨rfl,rfl⟩:=trodVars_none (show DataW.TrodVars enc Tryz.prog W (fun _=>true) [] gs q from hV)
 have hA:DataW.TrodAll enc Tryz.prog W 0 (fun _=>true) true Tryz.f3.params.toList args.toList ds p:=hA0
 rw[Tryz.params3] at hA Q7 hz
 obtain⟨v0,vs0,d0,ds0,p0,q0,hargs,rfl,rfl,h0,r0⟩:=trodAll_cons hA
 obtain⟨v1,vs1,d1,ds1,p1,q1,rfl,rfl,rfl,h1,r1⟩:=trodAll_cons r0
 obtain⟨v2,vs2,d2,ds2,p2,q2,rfl,rfl,rfl,h2,r2⟩:=trodAll_cons r1
 obtain⟨v3,vs3,d3,ds3,p3,q3,rfl,rfl,rfl,h3,r3⟩:=trodAll_cons r2
 obtain⟨v4,vs4,d4,ds4,p4,q4,rfl,rfl,rfl,h4,r4⟩:=trodAll_cons r3
 obtain⟨rfl,rfl,rfl⟩:=trodAll_nil r4
 obtain rfl:args=#[v0,v1,v2,v3,v4]:=by cases args;simp_all
 have w0:=b5 hz 0 29 d0 rfl rfl
 obtain⟨S0,hs0,rel0,Qq⟩:=wN (Q7 0 29 v0 rfl rfl) h0 w0 (wO hc (by simp))
 obtain⟨x1,rfl,rfl,rfl,wx1⟩:=open_int Tryz.underlying3 (Q7 1 3 v1 rfl rfl) h1
 obtain⟨x2,rfl,rfl,rfl,wx2⟩:=open_int Tryz.underlying3 (Q7 2 3 v2 rfl rfl) h2
 obtain⟨x3,rfl,rfl,rfl,wx3⟩:=open_int Tryz.underlying3 (Q7 3 3 v3 rfl rfl) h3
 have w4:=b5 hz 4 30 d4 rfl rfl
 obtain⟨S4,rel4⟩:=BR (Q7 4 30 v4 rfl rfl) h4 w4
 have Rc:RelL W (avs (fun _=>False) (fun _=>none) []) (fun _=>none) [] [.agg (WorldT.l S0),int x1,int x2,int x3,ab (S4.map fun n=>[vi n])] [v0,.int .i64 x1,.int .i64 x2,.int .i64 x3,v4]:=by
  simp only[RelL]
  exact⟨rel0,by simp[Rel,RelP],by simp[Rel,RelP],by simp[Rel,RelP],rel4,trivial⟩
 refine(yj (yY hL) (gj hs0 Qq []) Rc).mono fun e W' ⟨v,he,hv,hbw⟩=>?_
 have hv':v=.bool true:=by simpa[Rel,RelP] using hv
 subst hv'
 exact⟨_,he,ye Ep (by kernel_rfl) rfl rfl Tryz.underlying4 hW' rfl hbw⟩

def wArgs:Array Value:=#[Value.agg #[.slice none 0 0,.slice none 0 0,.slice none 0 0,.slice none 0 0],Value.int .i64 0,Value.int .i64 0,Value.int .i64 0,.slice none 0 0]

theorem reads(os:Os){H:Type}(enc:TypeId×Value→H):∃places,DataW.whole enc Tryz.prog ((lE os).forCall (fun _ _=>0) ⟨#[],wArgs,[]⟩).memory Tryz.f3.params.toList Rows.recordSituateSpecSpec.vars false
  wArgs.toList 8=some ([.agg [.agg [.nil,.nil,.nil],.nil],.lit (.int .i64 0),.lit (.int .i64 0),.lit (.int .i64 0),.nil],[],places) :=
 ⟨[],by kernel_rfl⟩

theorem lifted(os:Os)(started:os.Started)(H:Type)(enc:TypeId×Value→H)(F:Stop.Interp):
  ReturnsInHanded {} Tryz.checked os 3 .any ((Rows.OpenSpec.upto Rows.recordSituateSpecSpec).preRow enc Tryz.prog Tryz.f3 Rows.recordSituateSpecUptoRow.domain false Rows.recordSituateSpecUptoRow.laid) (((Rows.OpenSpec.upto Rows.recordSituateSpecSpec).at F).post enc Tryz.prog Tryz.f3 false true false false):=by
 obtain⟨places,hx⟩:=reads os enc
 refine returnsInHanded_of_row (C:=Tryz.checked) (s:=Rows.OpenSpec.upto Rows.recordSituateSpecSpec) ownK started (by kernel_rfl) Tryz.func3
  (witness_row_at (enc:=enc) (C:=Tryz.checked) false (lE os) wArgs rfl (by kernel_rfl) (by kernel_rfl) (by kernel_rfl)
   (OpenSpec.preRow_of_cond 8 hx (by kernel_rfl) (fun k hk=>by cases hk;kernel_rfl) (by kernel_rfl) (laid_met os _))) ?_
 intro W base args ds gs before Q7 hW _ hc hz hL _ _
 exact CV H enc W base args ds gs before Q7 hW hz (hc _ rfl) hL

theorem said:Rows.RecordSituateSpecUptoSaid :=
 OpenClaim.holds_of_cond 3 Tryz.f3 rfl rfl rfl rfl rfl rfl rfl ⟨rfl,rfl,rfl,rfl,rfl⟩ rfl rfl rfl rfl rfl (by kernel_rfl) Tryz.func3 jf
  (of_decide_eq_true (by kernel_rfl)) (by unfold Func.isWrapper;first|(rw[if_pos (by decide +kernel)];kernel_rfl)|(rw[if_neg (by decide +kernel)];exact⟨rfl,rfl⟩))
  (fun os started H enc _ F=>by rw[OpenClaim.pre_eq_preRow];exact lifted os started H enc F)

theorem plain (f:FuncId) (fn:Func) (hf:Tryz.pinned.checked.prog.funcNamed "sizar/sizarlaw16.RecordSituateSpec" = some f) (hfn:Tryz.pinned.checked.prog.funcs[f]? = some fn) :
  false=Tryz.pinned.checked.prog.looks []∧∀(j:Nat) t,fn.params[j]? = some t→Tryz.pinned.checked.prog.wantsStandIn t=false:=by
 obtain rfl:f=3:=Option.some.inj ((show Tryz.prog.funcNamed "sizar/sizarlaw16.RecordSituateSpec" = some 3 by kernel_rfl).symm.trans hf) |>.symm
 obtain rfl:fn=Tryz.f3:=(Option.some.inj (Tryz.func3.symm.trans hfn)).symm
 refine⟨by kernel_rfl,fun j t ht=>?_⟩
 rw[Tryz.params3] at ht
 have hm:t∈[29,3,3,3,30]:=by simpa using Array.mem_of_getElem? ht
 have N6:([29,3,3,3,30].all fun u=>!Tryz.prog.wantsStandIn u)=true:=by kernel_rfl
 exact(show Tryz.prog.wantsStandIn t=false by simpa using List.all_eq_true.1 N6 t hm)

theorem card:Rows.RecordSituateSpecUptoCardSaid :=
 Claim7.holds_tied_plain_at .later [] _ _ _ _ said (fun _ h=>by cases h) (by kernel_rfl) (fun _ h=>by cases h) recordSituateSpecUpto_row_tie rfl ⟨rfl,rfl⟩ (by kernel_rfl) rfl plain (by kernel_rfl)
end Go.Vi.recordSituateSpec
namespace Go.Proofs.YtilebidefogaiaaGreatDoor
/-- The given card. -/
theorem recordSituateSpec_holds:Rows.RecordSituateSpecUptoCardSaid:=Go.Vi.recordSituateSpec.card
#print axioms recordSituateSpec_holds
end Go.Proofs.YtilebidefogaiaaGreatDoor
