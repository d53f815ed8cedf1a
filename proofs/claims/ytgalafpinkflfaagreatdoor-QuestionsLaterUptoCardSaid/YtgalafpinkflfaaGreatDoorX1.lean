/- QuestionsLaterUpto: for every input, where the arguments together are of bulk at most 1048576 (each value counted each time it is reached), the law returns true and each argument reads behind the call as it read before: the given card, proved. No conditions beyond the statement's own. -/
import Derived.Test.YtgalafpinkflfaaGreatDoorW14
import Derived.ChangeMaps5
open Decidable renaming decide -> fE
open Go Go.Proofs
namespace Go.Vi.questionsLater
open Go.ChangeShapes Go.WideShapes Go.ChangeAt Go.RowKit Go.Proofs.YtgalafpinkflfaaGreatDoor
set_option maxRecDepth 100000
theorem jf0:(Rows.questionsLaterUptoRow.wf (OpenSpec.ofChange (OpenSpec.ofChange Rows.questionsLaterSpec).bare))=true:=by kernel_rfl
theorem jf1:(laidOutB Tryz.pinned.checked.prog)=true:=by kernel_rfl
theorem jf2:(mapsRowed Tryz.pinned.checked.prog)=true:=by kernel_rfl
theorem jf3:(Tryz.f5.params.all (Tryz.pinned.checked.prog.readableRec ·))=true:=by kernel_rfl
theorem jf4:(namedTie Tryz.pinned.checked.prog Rows.questionsLaterUptoRow.named (OpenSpec.ofChange Rows.questionsLaterSpec).bare.vars)=true:=by kernel_rfl
theorem jf5:((Rows.questionsLaterUptoRow.stops==[]))=true:=by kernel_rfl
theorem jf6:((Tryz.pinned.checked.prog.stops==[]))=true:=by kernel_rfl
theorem jf7:((Rows.questionsLaterUptoRow.knobs==[]))=true:=by kernel_rfl
theorem jf8:((Tryz.pinned.checked.prog.stopKnobs==[]))=true:=by kernel_rfl
theorem jf9:((Rows.questionsLaterUptoRow.inPlace==Tryz.pinned.checked.prog.inPlace 5))=true:=by kernel_rfl
theorem jf10:((Rows.questionsLaterUptoRow.unfollowed==Tryz.pinned.checked.prog.unfollowed 5))=true:=by kernel_rfl
theorem jf11:((Rows.questionsLaterUptoRow.recurses==Tryz.pinned.checked.prog.recurses 5))=true:=by kernel_rfl
theorem jf12:((Rows.questionsLaterUptoRow.named==Tryz.pinned.checked.prog.varsNamed 5))=true:=by kernel_rfl
theorem jf13:((Rows.questionsLaterUptoRow.maps==(Tryz.f5.params.toList++(OpenSpec.ofChange Rows.questionsLaterSpec).bare.plain.varTypes Tryz.pinned.checked.prog).any (Tryz.pinned.checked.prog.mapsRec ·)))=true:=by kernel_rfl
theorem jf14:((Rows.questionsLaterUptoRow.ifaces==(Tryz.f5.params.toList++(OpenSpec.ofChange Rows.questionsLaterSpec).bare.plain.varTypes Tryz.pinned.checked.prog).any (Tryz.pinned.checked.prog.ifacesRec ·)))=true:=by kernel_rfl
theorem jf15:((Rows.questionsLaterUptoRow.mapsOut==Tryz.pinned.checked.prog.mapsAmong Tryz.f5.resultTypes.toList))=true:=by kernel_rfl
theorem jf16:((Rows.questionsLaterUptoRow.loops==(Tryz.f5.params.toList++(OpenSpec.ofChange Rows.questionsLaterSpec).bare.plain.varTypes Tryz.pinned.checked.prog).any (Tryz.pinned.checked.prog.loopsFrom ·)))=true:=by kernel_rfl
theorem jf17:((Rows.questionsLaterUptoRow.wideKeys==(Tryz.f5.params.toList++(OpenSpec.ofChange Rows.questionsLaterSpec).bare.plain.varTypes Tryz.pinned.checked.prog++Tryz.f5.resultTypes.toList).any (Tryz.pinned.checked.prog.wideKeysFrom ·)))=true:=by kernel_rfl
theorem jf18:((OpenSpec.ofChange Rows.questionsLaterSpec).bare.vars.all (Tryz.pinned.checked.prog.varReadable ·))=true:=by kernel_rfl
theorem jf19:(Tryz.f5.resultTypes.all (λt=>Tryz.pinned.checked.prog.readableRec t&&fE (t<Tryz.pinned.checked.prog.types.size)))=true:=by kernel_rfl
theorem jf20:((Rows.questionsLaterUptoRow.ifacesOut==Tryz.f5.resultTypes.toList.any (Tryz.pinned.checked.prog.ifacesRec ·)))=true:=by kernel_rfl
theorem jf21:((Rows.questionsLaterUptoRow.loopsOut==Tryz.f5.resultTypes.toList.any (Tryz.pinned.checked.prog.loopsFrom ·)))=true:=by kernel_rfl
theorem jf22:((Rows.questionsLaterUptoRow.plainKeys==Tryz.pinned.checked.prog.plainKeys))=true:=by kernel_rfl
theorem jf23:(Rows.questionsLaterUptoRow.shortTexts.isNone)=true:=by kernel_rfl
theorem jf24:(Tryz.pinned.checked.prog.stopsHeard)=true:=by kernel_rfl
theorem jf25:(Tryz.pinned.checked.prog.mayEnter)=true:=by kernel_rfl
theorem jf26:((Rows.questionsLaterUptoRow.lifted==Tryz.pinned.checked.prog.liftsFinal))=true:=by kernel_rfl
theorem jf27:((Tryz.pinned.checked.prog.make==some Rows.questionsLaterUptoRow.make))=true:=by kernel_rfl
theorem jf28:((Rows.questionsLaterUptoRow.kinds==(if Rows.questionsLaterUptoRow.domain.isEmpty then [] else Tryz.f5.params.toList.map λt=>match Tryz.pinned.checked.prog.underlying t with|some (.int k)=>some k|_=>none)))=true:=by kernel_rfl
theorem jf29:((Rows.questionsLaterUptoRow.pinned==Rows.questionsLaterUptoRow.pinnedBy))=true:=by kernel_rfl
theorem jf30:((Rows.questionsLaterUptoRow.veiled==(Tryz.f5.params.toList++(OpenSpec.ofChange Rows.questionsLaterSpec).bare.plain.varTypes Tryz.pinned.checked.prog++Tryz.f5.resultTypes.toList).any (Tryz.pinned.checked.prog.veiledRec ·)))=true:=by kernel_rfl
theorem jf31:(Rows.questionsLaterUptoRow.veiledFits Tryz.pinned.checked.prog Tryz.f5.params.toList (Tryz.f5.params.toList++(OpenSpec.ofChange Rows.questionsLaterSpec).bare.plain.varTypes Tryz.pinned.checked.prog++Tryz.f5.resultTypes.toList))=true:=by kernel_rfl
theorem zdn{a b:Bool}(ha:a=true)(hb:b=true):(a&&b)=true:=by rw[ha,hb];rfl
theorem jf:joinedFacts Tryz.pinned.checked.prog 5 Tryz.f5 (OpenSpec.ofChange Rows.questionsLaterSpec).bare Rows.questionsLaterUptoRow=true:=by
 unfold joinedFacts
 exact zdn (zdn (zdn (zdn (zdn (zdn (zdn (zdn (zdn (zdn (zdn (zdn (zdn (zdn (zdn (zdn (zdn (zdn (zdn (zdn (zdn (zdn (zdn (zdn (zdn (zdn (zdn (zdn (zdn (zdn (zdn jf0 jf1) jf2) jf3) jf4) jf5) jf6) jf7) jf8) jf9) jf10) jf11) jf12) jf13) jf14) jf15) jf16) jf17) jf18) jf19) jf20) jf21) jf22) jf23) jf24) jf25) jf26) jf27) jf28) jf29) jf30) jf31
end Go.Vi.questionsLater
open Go Go.Proofs
namespace Go.Vi.questionsLater
open Go.ChangeShapes Go.WideShapes Go.ChangeAt Go.RowKit Go.Proofs.YtgalafpinkflfaaGreatDoor
set_option maxRecDepth 100000

theorem ztE(H:Type)(enc:TypeId×Value->H)(W:World)(base:Nat)(args:By)(ds gs:List (DataW H))(before:List MemPlace)
  (znU:∀(j:Nat) t v,Tryz.f5.params[j]? = some t->args[j]? = some v->Value.okWide Tryz.prog W .any base t v)
  (hW:DataW.Whole enc Tryz.prog Tryz.f5.params.toList Rows.questionsLaterSpec.vars false W args.toList ds gs before)
  (hz:(DataW.weightsEach Tryz.prog (Tryz.f5.params.toList++(Rows.OpenSpec.upto Rows.questionsLaterSpec).bare.plain.varTypes Tryz.prog) (ds++gs)).all (· <= reachBytes)=true) (hc:Rows.uptoSmall H (ds++gs)=true) (hL:laidMetH Tryz.prog [("sizar/rules.kinds",Rows.laid_sizar_rules_kinds)] W) :
  Calls Tryz.prog 5 args W λe W'=>∃v,e=.returned v/\Rows.questionsLaterSpec.post enc Tryz.prog Tryz.f5 false true false false W args v W':=by
 have hW':=hW
 obtain⟨p,q,hA0,hV,rfl,hfz,hnd⟩:=hW
 obtain⟨rfl,rfl⟩:=trodVars_none (show DataW.TrodVars enc Tryz.prog W (λ_=>true) [] gs q from hV)
 have hA:DataW.TrodAll enc Tryz.prog W 0 (λ_=>true) true Tryz.f5.params.toList args.toList ds p:=hA0
 rw[Tryz.params5] at hA znU hz
 obtain⟨v0,vs0,d0,ds0,p0,q0,hargs,rfl,rfl,h0,r0⟩:=trodAll_cons hA
 obtain⟨v1,vs1,d1,ds1,p1,q1,rfl,rfl,rfl,h1,r1⟩:=trodAll_cons r0
 obtain⟨v2,vs2,d2,ds2,p2,q2,rfl,rfl,rfl,h2,r2⟩:=trodAll_cons r1
 obtain⟨v3,vs3,d3,ds3,p3,q3,rfl,rfl,rfl,h3,r3⟩:=trodAll_cons r2
 obtain⟨v4,vs4,d4,ds4,p4,q4,rfl,rfl,rfl,h4,r4⟩:=trodAll_cons r3
 obtain⟨v5,vs5,d5,ds5,p5,q5,rfl,rfl,rfl,h5,r5⟩:=trodAll_cons r4
 obtain⟨rfl,rfl,rfl⟩:=trodAll_nil r5
 obtain rfl:args=#[v0,v1,v2,v3,v4,v5]:=by cases args;simp_all
 have w0:=aV hz 0 29 d0 rfl rfl
 obtain⟨S0,hs0,rel0,ps0,hp0⟩:=mU (znU 0 29 v0 rfl rfl) h0 w0 (mV hc (by simp))
 have w1:=aV hz 1 31 d1 rfl rfl
 obtain⟨S1,rel1⟩:=Pn (znU 1 31 v1 rfl rfl) h1 w1
 obtain⟨x2,rfl,rfl,rfl,wx2⟩:=open_int Tryz.underlying3 (znU 2 3 v2 rfl rfl) h2
 have w3:=aV hz 3 32 d3 rfl rfl
 obtain⟨S3,rel3⟩:=uQ (znU 3 32 v3 rfl rfl) h3 w3
 have w4:=aV hz 4 59 d4 rfl rfl
 obtain⟨S4,hg4,rel4⟩:=J4 (znU 4 59 v4 rfl rfl) h4 w4
 obtain⟨x5,rfl,rfl,rfl,wx5⟩:=open_int Tryz.underlying3 (znU 5 3 v5 rfl rfl) h5
 have zmf:kc W (tf (λ_=>False) (λ_=>none) []) (λ_=>none) [] [.agg (eQ.l S0),ag (QuT.row S1),eO x2,ab (S3.map λn=>[vi n]),ag (qH.row S4),eO x5] [v0,v1,.int .i64 x2,v3,v4,.int .i64 x5]:=by
  simp only[kc]
  exact⟨rel0,rel1,by simp[Rel,FL],rel3,rel4,by simp[Rel,FL],trivial⟩
 refine(qd (qG hL) (lm hs0 hp0 hg4 []) zmf).mono λe W' ⟨v,he,hv,hbw⟩=>?_
 have hv':v=.bool true:=by simpa[Rel,FL] using hv
 subst hv'
 exact⟨_,he,qc zC (by kernel_rfl) rfl rfl Tryz.underlying4 hW' rfl hbw⟩

def zso:By:=#[Value.agg #[.slice none 0 0,.slice none 0 0,.slice none 0 0,.slice none 0 0],Value.agg #[.int .i64 0,.int .i64 0,.int .i64 0,.int .i64 0],Value.int .i64 0,.slice none 0 0,Value.agg #[.int .i64 0,.int .i64 0,.int .i64 0,.int .i64 0,.int .i64 0,.int .i64 0,.int .i64 0,.int .i64 0],Value.int .i64 0]

theorem reads(os:Os){H:Type}(enc:TypeId×Value->H):∃places,DataW.whole enc Tryz.prog ((fj os).forCall (λ_ _=>0) ⟨#[],zso,[]⟩).memory Tryz.f5.params.toList Rows.questionsLaterSpec.vars false
  zso.toList 8=some ([.agg [.agg [.nil,.nil,.nil],.nil],.agg [.lit (.int .i64 0),.lit (.int .i64 0),.lit (.int .i64 0),.lit (.int .i64 0)],.lit (.int .i64 0),.nil,.agg [.agg [.lit (.int .i64 0),.lit (.int .i64 0),.lit (.int .i64 0)],.lit (.int .i64 0),.agg [.lit (.int .i64 0),.lit (.int .i64 0)],.lit (.int .i64 0),.lit (.int .i64 0)],.lit (.int .i64 0)],[],places) :=
 ⟨[],by kernel_rfl⟩

theorem lifted(os:Os)(started:os.Started)(H:Type)(enc:TypeId×Value->H)(F:Stop.Interp):
  ReturnsInHanded {} Tryz.checked os 5 .any ((Rows.OpenSpec.upto Rows.questionsLaterSpec).preRow enc Tryz.prog Tryz.f5 Rows.questionsLaterUptoRow.domain false Rows.questionsLaterUptoRow.laid) (((Rows.OpenSpec.upto Rows.questionsLaterSpec).at F).post enc Tryz.prog Tryz.f5 false true false false):=by
 obtain⟨places,hx⟩:=reads os enc
 refine returnsInHanded_of_row (C:=Tryz.checked) (s:=Rows.OpenSpec.upto Rows.questionsLaterSpec) ownK started (by kernel_rfl) Tryz.func5
  (witness_row_at (enc:=enc) (C:=Tryz.checked) false (fj os) zso rfl (by kernel_rfl) (by kernel_rfl) (by kernel_rfl)
   (OpenSpec.preRow_of_cond 8 hx (by kernel_rfl) (λk hk=>by cases hk;kernel_rfl) (by kernel_rfl) (zsV os _))) ?_
 intro W base args ds gs before znU hW _ hc hz hL _ _
 exact ztE H enc W base args ds gs before znU hW hz (hc _ rfl) hL

theorem said:Rows.QuestionsLaterUptoSaid :=
 OpenClaim.holds_of_cond 5 Tryz.f5 rfl rfl rfl rfl rfl rfl rfl ⟨rfl,rfl,rfl,rfl,rfl⟩ rfl rfl rfl rfl rfl (by kernel_rfl) Tryz.func5 jf
  (of_decide_eq_true (by kernel_rfl)) (by unfold Func.isWrapper;first|(rw[if_pos (by decide +kernel)];kernel_rfl)|(rw[if_neg (by decide +kernel)];exact⟨rfl,rfl⟩))
  (λos started H enc _ F=>by rw[OpenClaim.pre_eq_preRow];exact lifted os started H enc F)

theorem plain (f:FuncId) (fn:Func) (hf:Tryz.pinned.checked.prog.funcNamed "sizar/sizarlaw34.QuestionsLater" = some f) (hfn:Tryz.pinned.checked.prog.funcs[f]? = some fn) :
  true=Tryz.pinned.checked.prog.looks []/\∀(j:Nat) t,fn.params[j]? = some t->Tryz.pinned.checked.prog.wantsStandIn t=false:=by
 obtain rfl:f=5:=Option.some.inj ((show Tryz.prog.funcNamed "sizar/sizarlaw34.QuestionsLater" = some 5 by kernel_rfl).symm.trans hf) |>.symm
 obtain rfl:fn=Tryz.f5:=(Option.some.inj (Tryz.func5.symm.trans hfn)).symm
 refine⟨by kernel_rfl,λj t ht=>?_⟩
 rw[Tryz.params5] at ht
 have hm:t∈[29,31,3,32,59,3]:=by simpa using Array.mem_of_getElem? ht
 have Ν:([29,31,3,32,59,3].all λu=>!Tryz.prog.wantsStandIn u)=true:=by kernel_rfl
 exact(show Tryz.prog.wantsStandIn t=false by simpa using List.all_eq_true.1 Ν t hm)

theorem card:Rows.QuestionsLaterUptoCardSaid :=
 Claim7.holds_tied_plain_at .later [] _ _ _ _ said (λ_ h=>by cases h) (by kernel_rfl) (λ_ h=>by cases h) questionsLaterUpto_row_tie rfl ⟨rfl,rfl⟩ (by kernel_rfl) rfl plain (by kernel_rfl)
end Go.Vi.questionsLater
namespace Go.Proofs.YtgalafpinkflfaaGreatDoor
/-- The given card. -/
theorem questionsLater_holds:Rows.QuestionsLaterUptoCardSaid:=Go.Vi.questionsLater.card
#print axioms questionsLater_holds
end Go.Proofs.YtgalafpinkflfaaGreatDoor
