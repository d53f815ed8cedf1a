/- QuestionsPartsUpto: for every input, where the arguments together are of bulk at most 1048576 (each value counted each time it is reached), the law returns true and each argument reads behind the call as it read before: the given card, proved. No conditions beyond the statement's own. -/
import Derived.Test.YtgalafpinkflfaaGreatDoorW14
import Derived.ChangeMaps5
open Decidable renaming decide -> eY
open Go Go.Proofs
namespace Go.Vi.questionsParts
open Go.ChangeShapes Go.WideShapes Go.ChangeAt Go.RowKit Go.Proofs.YtgalafpinkflfaaGreatDoor
set_option maxRecDepth 100000
theorem jf0:(Rows.questionsPartsUptoRow.wf (OpenSpec.ofChange (OpenSpec.ofChange Rows.questionsPartsSpec).bare))=true:=by kernel_rfl
theorem jf1:(laidOutB Tryz.pinned.checked.prog)=true:=by kernel_rfl
theorem jf2:(mapsRowed Tryz.pinned.checked.prog)=true:=by kernel_rfl
theorem jf3:(Tryz.f4.params.all (Tryz.pinned.checked.prog.readableRec ·))=true:=by kernel_rfl
theorem jf4:(namedTie Tryz.pinned.checked.prog Rows.questionsPartsUptoRow.named (OpenSpec.ofChange Rows.questionsPartsSpec).bare.vars)=true:=by kernel_rfl
theorem jf5:((Rows.questionsPartsUptoRow.stops==[]))=true:=by kernel_rfl
theorem jf6:((Tryz.pinned.checked.prog.stops==[]))=true:=by kernel_rfl
theorem jf7:((Rows.questionsPartsUptoRow.knobs==[]))=true:=by kernel_rfl
theorem jf8:((Tryz.pinned.checked.prog.stopKnobs==[]))=true:=by kernel_rfl
theorem jf9:((Rows.questionsPartsUptoRow.inPlace==Tryz.pinned.checked.prog.inPlace 4))=true:=by kernel_rfl
theorem jf10:((Rows.questionsPartsUptoRow.unfollowed==Tryz.pinned.checked.prog.unfollowed 4))=true:=by kernel_rfl
theorem jf11:((Rows.questionsPartsUptoRow.recurses==Tryz.pinned.checked.prog.recurses 4))=true:=by kernel_rfl
theorem jf12:((Rows.questionsPartsUptoRow.named==Tryz.pinned.checked.prog.varsNamed 4))=true:=by kernel_rfl
theorem jf13:((Rows.questionsPartsUptoRow.maps==(Tryz.f4.params.toList++(OpenSpec.ofChange Rows.questionsPartsSpec).bare.plain.varTypes Tryz.pinned.checked.prog).any (Tryz.pinned.checked.prog.mapsRec ·)))=true:=by kernel_rfl
theorem jf14:((Rows.questionsPartsUptoRow.ifaces==(Tryz.f4.params.toList++(OpenSpec.ofChange Rows.questionsPartsSpec).bare.plain.varTypes Tryz.pinned.checked.prog).any (Tryz.pinned.checked.prog.ifacesRec ·)))=true:=by kernel_rfl
theorem jf15:((Rows.questionsPartsUptoRow.mapsOut==Tryz.pinned.checked.prog.mapsAmong Tryz.f4.resultTypes.toList))=true:=by kernel_rfl
theorem jf16:((Rows.questionsPartsUptoRow.loops==(Tryz.f4.params.toList++(OpenSpec.ofChange Rows.questionsPartsSpec).bare.plain.varTypes Tryz.pinned.checked.prog).any (Tryz.pinned.checked.prog.loopsFrom ·)))=true:=by kernel_rfl
theorem jf17:((Rows.questionsPartsUptoRow.wideKeys==(Tryz.f4.params.toList++(OpenSpec.ofChange Rows.questionsPartsSpec).bare.plain.varTypes Tryz.pinned.checked.prog++Tryz.f4.resultTypes.toList).any (Tryz.pinned.checked.prog.wideKeysFrom ·)))=true:=by kernel_rfl
theorem jf18:((OpenSpec.ofChange Rows.questionsPartsSpec).bare.vars.all (Tryz.pinned.checked.prog.varReadable ·))=true:=by kernel_rfl
theorem jf19:(Tryz.f4.resultTypes.all (λt=>Tryz.pinned.checked.prog.readableRec t&&eY (t<Tryz.pinned.checked.prog.types.size)))=true:=by kernel_rfl
theorem jf20:((Rows.questionsPartsUptoRow.ifacesOut==Tryz.f4.resultTypes.toList.any (Tryz.pinned.checked.prog.ifacesRec ·)))=true:=by kernel_rfl
theorem jf21:((Rows.questionsPartsUptoRow.loopsOut==Tryz.f4.resultTypes.toList.any (Tryz.pinned.checked.prog.loopsFrom ·)))=true:=by kernel_rfl
theorem jf22:((Rows.questionsPartsUptoRow.plainKeys==Tryz.pinned.checked.prog.plainKeys))=true:=by kernel_rfl
theorem jf23:(Rows.questionsPartsUptoRow.shortTexts.isNone)=true:=by kernel_rfl
theorem jf24:(Tryz.pinned.checked.prog.stopsHeard)=true:=by kernel_rfl
theorem jf25:(Tryz.pinned.checked.prog.mayEnter)=true:=by kernel_rfl
theorem jf26:((Rows.questionsPartsUptoRow.lifted==Tryz.pinned.checked.prog.liftsFinal))=true:=by kernel_rfl
theorem jf27:((Tryz.pinned.checked.prog.make==some Rows.questionsPartsUptoRow.make))=true:=by kernel_rfl
theorem jf28:((Rows.questionsPartsUptoRow.kinds==(if Rows.questionsPartsUptoRow.domain.isEmpty then [] else Tryz.f4.params.toList.map λt=>match Tryz.pinned.checked.prog.underlying t with|some (.int k)=>some k|_=>none)))=true:=by kernel_rfl
theorem jf29:((Rows.questionsPartsUptoRow.pinned==Rows.questionsPartsUptoRow.pinnedBy))=true:=by kernel_rfl
theorem jf30:((Rows.questionsPartsUptoRow.veiled==(Tryz.f4.params.toList++(OpenSpec.ofChange Rows.questionsPartsSpec).bare.plain.varTypes Tryz.pinned.checked.prog++Tryz.f4.resultTypes.toList).any (Tryz.pinned.checked.prog.veiledRec ·)))=true:=by kernel_rfl
theorem jf31:(Rows.questionsPartsUptoRow.veiledFits Tryz.pinned.checked.prog Tryz.f4.params.toList (Tryz.f4.params.toList++(OpenSpec.ofChange Rows.questionsPartsSpec).bare.plain.varTypes Tryz.pinned.checked.prog++Tryz.f4.resultTypes.toList))=true:=by kernel_rfl
theorem zbk{a b:Bool}(ha:a=true)(hb:b=true):(a&&b)=true:=by rw[ha,hb];rfl
theorem jf:joinedFacts Tryz.pinned.checked.prog 4 Tryz.f4 (OpenSpec.ofChange Rows.questionsPartsSpec).bare Rows.questionsPartsUptoRow=true:=by
 unfold joinedFacts
 exact zbk (zbk (zbk (zbk (zbk (zbk (zbk (zbk (zbk (zbk (zbk (zbk (zbk (zbk (zbk (zbk (zbk (zbk (zbk (zbk (zbk (zbk (zbk (zbk (zbk (zbk (zbk (zbk (zbk (zbk (zbk jf0 jf1) jf2) jf3) jf4) jf5) jf6) jf7) jf8) jf9) jf10) jf11) jf12) jf13) jf14) jf15) jf16) jf17) jf18) jf19) jf20) jf21) jf22) jf23) jf24) jf25) jf26) jf27) jf28) jf29) jf30) jf31
end Go.Vi.questionsParts
open Go Go.Proofs
namespace Go.Vi.questionsParts
open Go.ChangeShapes Go.WideShapes Go.ChangeAt Go.RowKit Go.Proofs.YtgalafpinkflfaaGreatDoor
set_option maxRecDepth 100000

theorem ztm(H:Type)(enc:TypeId×Value->H)(W:World)(base:Nat)(args:By)(ds gs:List (DataW H))(before:List MemPlace)
  (zpx:∀(j:Nat) t v,Tryz.f4.params[j]? = some t->args[j]? = some v->Value.okWide Tryz.prog W .any base t v)
  (hW:DataW.Whole enc Tryz.prog Tryz.f4.params.toList Rows.questionsPartsSpec.vars false W args.toList ds gs before)
  (hz:(DataW.weightsEach Tryz.prog (Tryz.f4.params.toList++(Rows.OpenSpec.upto Rows.questionsPartsSpec).bare.plain.varTypes Tryz.prog) (ds++gs)).all (· <= reachBytes)=true) (hc:Rows.uptoSmall H (ds++gs)=true) (hL:laidMetH Tryz.prog [("sizar/rules.kinds",Rows.laid_sizar_rules_kinds)] W) :
  Calls Tryz.prog 4 args W λe W'=>∃v,e=.returned v/\Rows.questionsPartsSpec.post enc Tryz.prog Tryz.f4 false true false false W args v W':=by
 have hW':=hW
 obtain⟨p,q,hA0,hV,rfl,hfz,hnd⟩:=hW
 obtain⟨rfl,rfl⟩:=trodVars_none (show DataW.TrodVars enc Tryz.prog W (λ_=>true) [] gs q from hV)
 have hA:DataW.TrodAll enc Tryz.prog W 0 (λ_=>true) true Tryz.f4.params.toList args.toList ds p:=hA0
 rw[Tryz.params4] at hA zpx hz
 obtain⟨v0,vs0,d0,ds0,p0,q0,hargs,rfl,rfl,h0,r0⟩:=trodAll_cons hA
 obtain⟨v1,vs1,d1,ds1,p1,q1,rfl,rfl,rfl,h1,r1⟩:=trodAll_cons r0
 obtain⟨v2,vs2,d2,ds2,p2,q2,rfl,rfl,rfl,h2,r2⟩:=trodAll_cons r1
 obtain⟨v3,vs3,d3,ds3,p3,q3,rfl,rfl,rfl,h3,r3⟩:=trodAll_cons r2
 obtain⟨rfl,rfl,rfl⟩:=trodAll_nil r3
 obtain rfl:args=#[v0,v1,v2,v3]:=by cases args;simp_all
 have w0:=aV hz 0 29 d0 rfl rfl
 obtain⟨S0,hs0,rel0,ps0,hp0⟩:=mU (zpx 0 29 v0 rfl rfl) h0 w0 (mV hc (by simp))
 have w1:=aV hz 1 31 d1 rfl rfl
 obtain⟨S1,rel1⟩:=Pn (zpx 1 31 v1 rfl rfl) h1 w1
 obtain⟨x2,rfl,rfl,rfl,wx2⟩:=open_int Tryz.underlying3 (zpx 2 3 v2 rfl rfl) h2
 have w3:=aV hz 3 32 d3 rfl rfl
 obtain⟨S3,rel3⟩:=uQ (zpx 3 32 v3 rfl rfl) h3 w3
 have zlJ:ia W (sU (λ_=>False) (λ_=>none) []) (λ_=>none) [] [.agg (eO.l S0),ag (QuT.row S1),dd x2,ab (S3.map λn=>[vi n])] [v0,v1,.int .i64 x2,v3]:=by
  simp only[ia]
  exact⟨rel0,rel1,by simp[Rel,F3],rel3,trivial⟩
 refine(qd (qG hL) (lk hs0 hp0 []) zlJ).mono λe W' ⟨v,he,hv,hbw⟩=>?_
 have hv':v=.bool true:=by simpa[Rel,F3] using hv
 subst hv'
 exact⟨_,he,qc zC (by kernel_rfl) rfl rfl Tryz.underlying4 hW' rfl hbw⟩

def zrY:By:=#[Value.agg #[.slice none 0 0,.slice none 0 0,.slice none 0 0,.slice none 0 0],Value.agg #[.int .i64 0,.int .i64 0,.int .i64 0,.int .i64 0],Value.int .i64 0,.slice none 0 0]

theorem reads(os:Os){H:Type}(enc:TypeId×Value->H):∃places,DataW.whole enc Tryz.prog ((fj os).forCall (λ_ _=>0) ⟨#[],zrY,[]⟩).memory Tryz.f4.params.toList Rows.questionsPartsSpec.vars false
  zrY.toList 8=some ([.agg [.agg [.nil,.nil,.nil],.nil],.agg [.lit (.int .i64 0),.lit (.int .i64 0),.lit (.int .i64 0),.lit (.int .i64 0)],.lit (.int .i64 0),.nil],[],places) :=
 ⟨[],by kernel_rfl⟩

theorem lifted(os:Os)(started:os.Started)(H:Type)(enc:TypeId×Value->H)(F:Stop.Interp):
  ReturnsInHanded {} Tryz.checked os 4 .any ((Rows.OpenSpec.upto Rows.questionsPartsSpec).preRow enc Tryz.prog Tryz.f4 Rows.questionsPartsUptoRow.domain false Rows.questionsPartsUptoRow.laid) (((Rows.OpenSpec.upto Rows.questionsPartsSpec).at F).post enc Tryz.prog Tryz.f4 false true false false):=by
 obtain⟨places,hx⟩:=reads os enc
 refine returnsInHanded_of_row (C:=Tryz.checked) (s:=Rows.OpenSpec.upto Rows.questionsPartsSpec) ownK started (by kernel_rfl) Tryz.func4
  (witness_row_at (enc:=enc) (C:=Tryz.checked) false (fj os) zrY rfl (by kernel_rfl) (by kernel_rfl) (by kernel_rfl)
   (OpenSpec.preRow_of_cond 8 hx (by kernel_rfl) (λk hk=>by cases hk;kernel_rfl) (by kernel_rfl) (zsB os _))) ?_
 intro W base args ds gs before zpx hW _ hc hz hL _ _
 exact ztm H enc W base args ds gs before zpx hW hz (hc _ rfl) hL

theorem said:Rows.QuestionsPartsUptoSaid :=
 OpenClaim.holds_of_cond 4 Tryz.f4 rfl rfl rfl rfl rfl rfl rfl ⟨rfl,rfl,rfl,rfl,rfl⟩ rfl rfl rfl rfl rfl (by kernel_rfl) Tryz.func4 jf
  (of_decide_eq_true (by kernel_rfl)) (by unfold Func.isWrapper;first|(rw[if_pos (by decide +kernel)];kernel_rfl)|(rw[if_neg (by decide +kernel)];exact⟨rfl,rfl⟩))
  (λos started H enc _ F=>by rw[OpenClaim.pre_eq_preRow];exact lifted os started H enc F)

theorem plain (f:FuncId) (fn:Func) (hf:Tryz.pinned.checked.prog.funcNamed "sizar/sizarlaw34.QuestionsParts" = some f) (hfn:Tryz.pinned.checked.prog.funcs[f]? = some fn) :
  true=Tryz.pinned.checked.prog.looks []/\∀(j:Nat) t,fn.params[j]? = some t->Tryz.pinned.checked.prog.wantsStandIn t=false:=by
 obtain rfl:f=4:=Option.some.inj ((show Tryz.prog.funcNamed "sizar/sizarlaw34.QuestionsParts" = some 4 by kernel_rfl).symm.trans hf) |>.symm
 obtain rfl:fn=Tryz.f4:=(Option.some.inj (Tryz.func4.symm.trans hfn)).symm
 refine⟨by kernel_rfl,λj t ht=>?_⟩
 rw[Tryz.params4] at ht
 have hm:t∈[29,31,3,32]:=by simpa using Array.mem_of_getElem? ht
 have χ:([29,31,3,32].all λu=>!Tryz.prog.wantsStandIn u)=true:=by kernel_rfl
 exact(show Tryz.prog.wantsStandIn t=false by simpa using List.all_eq_true.1 χ t hm)

theorem card:Rows.QuestionsPartsUptoCardSaid :=
 Claim7.holds_tied_plain_at .later [] _ _ _ _ said (λ_ h=>by cases h) (by kernel_rfl) (λ_ h=>by cases h) questionsPartsUpto_row_tie rfl ⟨rfl,rfl⟩ (by kernel_rfl) rfl plain (by kernel_rfl)
end Go.Vi.questionsParts
namespace Go.Proofs.YtgalafpinkflfaaGreatDoor
/-- The given card. -/
theorem questionsParts_holds:Rows.QuestionsPartsUptoCardSaid:=Go.Vi.questionsParts.card
#print axioms questionsParts_holds
end Go.Proofs.YtgalafpinkflfaaGreatDoor
