/- QuestionsAlikeUpto: for every input, where the arguments together are of bulk at most 1048576 (each value counted each time it is reached), the law returns true and each argument reads behind the call as it read before: the given card, proved. No conditions beyond the statement's own. -/
import Derived.Test.YtgalafpinkflfaaGreatDoorW14
import Derived.ChangeMaps5
open Decidable renaming decide -> lL
open Go Go.Proofs
namespace Go.Vi.questionsAlike
open Go.ChangeShapes Go.WideShapes Go.ChangeAt Go.RowKit Go.Proofs.YtgalafpinkflfaaGreatDoor
set_option maxRecDepth 100000
theorem jf0:(Rows.questionsAlikeUptoRow.wf (OpenSpec.ofChange (OpenSpec.ofChange Rows.questionsAlikeSpec).bare))=true:=by kernel_rfl
theorem jf1:(laidOutB Tryz.pinned.checked.prog)=true:=by kernel_rfl
theorem jf2:(mapsRowed Tryz.pinned.checked.prog)=true:=by kernel_rfl
theorem jf3:(Tryz.f7.params.all (Tryz.pinned.checked.prog.readableRec ·))=true:=by kernel_rfl
theorem jf4:(namedTie Tryz.pinned.checked.prog Rows.questionsAlikeUptoRow.named (OpenSpec.ofChange Rows.questionsAlikeSpec).bare.vars)=true:=by kernel_rfl
theorem jf5:((Rows.questionsAlikeUptoRow.stops==[]))=true:=by kernel_rfl
theorem jf6:((Tryz.pinned.checked.prog.stops==[]))=true:=by kernel_rfl
theorem jf7:((Rows.questionsAlikeUptoRow.knobs==[]))=true:=by kernel_rfl
theorem jf8:((Tryz.pinned.checked.prog.stopKnobs==[]))=true:=by kernel_rfl
theorem jf9:((Rows.questionsAlikeUptoRow.inPlace==Tryz.pinned.checked.prog.inPlace 7))=true:=by kernel_rfl
theorem jf10:((Rows.questionsAlikeUptoRow.unfollowed==Tryz.pinned.checked.prog.unfollowed 7))=true:=by kernel_rfl
theorem jf11:((Rows.questionsAlikeUptoRow.recurses==Tryz.pinned.checked.prog.recurses 7))=true:=by kernel_rfl
theorem jf12:((Rows.questionsAlikeUptoRow.named==Tryz.pinned.checked.prog.varsNamed 7))=true:=by kernel_rfl
theorem jf13:((Rows.questionsAlikeUptoRow.maps==(Tryz.f7.params.toList++(OpenSpec.ofChange Rows.questionsAlikeSpec).bare.plain.varTypes Tryz.pinned.checked.prog).any (Tryz.pinned.checked.prog.mapsRec ·)))=true:=by kernel_rfl
theorem jf14:((Rows.questionsAlikeUptoRow.ifaces==(Tryz.f7.params.toList++(OpenSpec.ofChange Rows.questionsAlikeSpec).bare.plain.varTypes Tryz.pinned.checked.prog).any (Tryz.pinned.checked.prog.ifacesRec ·)))=true:=by kernel_rfl
theorem jf15:((Rows.questionsAlikeUptoRow.mapsOut==Tryz.pinned.checked.prog.mapsAmong Tryz.f7.resultTypes.toList))=true:=by kernel_rfl
theorem jf16:((Rows.questionsAlikeUptoRow.loops==(Tryz.f7.params.toList++(OpenSpec.ofChange Rows.questionsAlikeSpec).bare.plain.varTypes Tryz.pinned.checked.prog).any (Tryz.pinned.checked.prog.loopsFrom ·)))=true:=by kernel_rfl
theorem jf17:((Rows.questionsAlikeUptoRow.wideKeys==(Tryz.f7.params.toList++(OpenSpec.ofChange Rows.questionsAlikeSpec).bare.plain.varTypes Tryz.pinned.checked.prog++Tryz.f7.resultTypes.toList).any (Tryz.pinned.checked.prog.wideKeysFrom ·)))=true:=by kernel_rfl
theorem jf18:((OpenSpec.ofChange Rows.questionsAlikeSpec).bare.vars.all (Tryz.pinned.checked.prog.varReadable ·))=true:=by kernel_rfl
theorem jf19:(Tryz.f7.resultTypes.all (λt=>Tryz.pinned.checked.prog.readableRec t&&lL (t<Tryz.pinned.checked.prog.types.size)))=true:=by kernel_rfl
theorem jf20:((Rows.questionsAlikeUptoRow.ifacesOut==Tryz.f7.resultTypes.toList.any (Tryz.pinned.checked.prog.ifacesRec ·)))=true:=by kernel_rfl
theorem jf21:((Rows.questionsAlikeUptoRow.loopsOut==Tryz.f7.resultTypes.toList.any (Tryz.pinned.checked.prog.loopsFrom ·)))=true:=by kernel_rfl
theorem jf22:((Rows.questionsAlikeUptoRow.plainKeys==Tryz.pinned.checked.prog.plainKeys))=true:=by kernel_rfl
theorem jf23:(Rows.questionsAlikeUptoRow.shortTexts.isNone)=true:=by kernel_rfl
theorem jf24:(Tryz.pinned.checked.prog.stopsHeard)=true:=by kernel_rfl
theorem jf25:(Tryz.pinned.checked.prog.mayEnter)=true:=by kernel_rfl
theorem jf26:((Rows.questionsAlikeUptoRow.lifted==Tryz.pinned.checked.prog.liftsFinal))=true:=by kernel_rfl
theorem jf27:((Tryz.pinned.checked.prog.make==some Rows.questionsAlikeUptoRow.make))=true:=by kernel_rfl
theorem jf28:((Rows.questionsAlikeUptoRow.kinds==(if Rows.questionsAlikeUptoRow.domain.isEmpty then [] else Tryz.f7.params.toList.map λt=>match Tryz.pinned.checked.prog.underlying t with|some (.int k)=>some k|_=>none)))=true:=by kernel_rfl
theorem jf29:((Rows.questionsAlikeUptoRow.pinned==Rows.questionsAlikeUptoRow.pinnedBy))=true:=by kernel_rfl
theorem jf30:((Rows.questionsAlikeUptoRow.veiled==(Tryz.f7.params.toList++(OpenSpec.ofChange Rows.questionsAlikeSpec).bare.plain.varTypes Tryz.pinned.checked.prog++Tryz.f7.resultTypes.toList).any (Tryz.pinned.checked.prog.veiledRec ·)))=true:=by kernel_rfl
theorem jf31:(Rows.questionsAlikeUptoRow.veiledFits Tryz.pinned.checked.prog Tryz.f7.params.toList (Tryz.f7.params.toList++(OpenSpec.ofChange Rows.questionsAlikeSpec).bare.plain.varTypes Tryz.pinned.checked.prog++Tryz.f7.resultTypes.toList))=true:=by kernel_rfl
theorem zis{a b:Bool}(ha:a=true)(hb:b=true):(a&&b)=true:=by rw[ha,hb];rfl
theorem jf:joinedFacts Tryz.pinned.checked.prog 7 Tryz.f7 (OpenSpec.ofChange Rows.questionsAlikeSpec).bare Rows.questionsAlikeUptoRow=true:=by
 unfold joinedFacts
 exact zis (zis (zis (zis (zis (zis (zis (zis (zis (zis (zis (zis (zis (zis (zis (zis (zis (zis (zis (zis (zis (zis (zis (zis (zis (zis (zis (zis (zis (zis (zis jf0 jf1) jf2) jf3) jf4) jf5) jf6) jf7) jf8) jf9) jf10) jf11) jf12) jf13) jf14) jf15) jf16) jf17) jf18) jf19) jf20) jf21) jf22) jf23) jf24) jf25) jf26) jf27) jf28) jf29) jf30) jf31
end Go.Vi.questionsAlike
open Go Go.Proofs
namespace Go.Vi.questionsAlike
open Go.ChangeShapes Go.WideShapes Go.ChangeAt Go.RowKit Go.Proofs.YtgalafpinkflfaaGreatDoor
set_option maxRecDepth 100000

theorem zur(H:Type)(enc:TypeId×Value->H)(W:World)(base:Nat)(args:By)(ds gs:List (DataW H))(before:List MemPlace)
  (zpA:∀(j:Nat) t v,Tryz.f7.params[j]? = some t->args[j]? = some v->Value.okWide Tryz.prog W .any base t v)
  (hW:DataW.Whole enc Tryz.prog Tryz.f7.params.toList Rows.questionsAlikeSpec.vars false W args.toList ds gs before)
  (hz:(DataW.weightsEach Tryz.prog (Tryz.f7.params.toList++(Rows.OpenSpec.upto Rows.questionsAlikeSpec).bare.plain.varTypes Tryz.prog) (ds++gs)).all (· <= reachBytes)=true) (hc:Rows.uptoSmall H (ds++gs)=true) (hL:laidMetH Tryz.prog [("sizar/rules.kinds",Rows.laid_sizar_rules_kinds)] W) :
  Calls Tryz.prog 7 args W λe W'=>∃v,e=.returned v/\Rows.questionsAlikeSpec.post enc Tryz.prog Tryz.f7 false true false false W args v W':=by
 have hW':=hW
 obtain⟨p,q,hA0,hV,rfl,hfz,hnd⟩:=hW
 obtain⟨rfl,rfl⟩:=trodVars_none (show DataW.TrodVars enc Tryz.prog W (λ_=>true) [] gs q from hV)
 have hA:DataW.TrodAll enc Tryz.prog W 0 (λ_=>true) true Tryz.f7.params.toList args.toList ds p:=hA0
 rw[Tryz.params7] at hA zpA hz
 obtain⟨v0,vs0,d0,ds0,p0,q0,hargs,rfl,rfl,h0,r0⟩:=trodAll_cons hA
 obtain⟨v1,vs1,d1,ds1,p1,q1,rfl,rfl,rfl,h1,r1⟩:=trodAll_cons r0
 obtain⟨v2,vs2,d2,ds2,p2,q2,rfl,rfl,rfl,h2,r2⟩:=trodAll_cons r1
 obtain⟨v3,vs3,d3,ds3,p3,q3,rfl,rfl,rfl,h3,r3⟩:=trodAll_cons r2
 obtain⟨v4,vs4,d4,ds4,p4,q4,rfl,rfl,rfl,h4,r4⟩:=trodAll_cons r3
 obtain⟨rfl,rfl,rfl⟩:=trodAll_nil r4
 obtain rfl:args=#[v0,v1,v2,v3,v4]:=by cases args;simp_all
 have w0:=aV hz 0 29 d0 rfl rfl
 obtain⟨S0,hs0,rel0,ps0,hp0⟩:=mU (zpA 0 29 v0 rfl rfl) h0 w0 (mV hc (by simp))
 have w1:=aV hz 1 31 d1 rfl rfl
 obtain⟨S1,rel1⟩:=Pn (zpA 1 31 v1 rfl rfl) h1 w1
 obtain⟨x2,rfl,rfl,rfl,wx2⟩:=open_int Tryz.underlying3 (zpA 2 3 v2 rfl rfl) h2
 obtain⟨x3,rfl,rfl,rfl,wx3⟩:=open_int Tryz.underlying3 (zpA 3 3 v3 rfl rfl) h3
 have w4:=aV hz 4 32 d4 rfl rfl
 obtain⟨S4,rel4⟩:=uQ (zpA 4 32 v4 rfl rfl) h4 w4
 have zmS:qH W (J4 (λ_=>False) (λ_=>none) []) (λ_=>none) [] [.agg (kc.l S0),ag (QuT.row S1),go x2,go x3,ab (S4.map λn=>[vi n])] [v0,v1,.int .i64 x2,.int .i64 x3,v4]:=by
  simp only[qH]
  exact⟨rel0,rel1,by simp[Rel,ς],by simp[Rel,ς],rel4,trivial⟩
 refine(qd (qG hL) (lj hs0 hp0 []) zmS).mono λe W' ⟨v,he,hv,hbw⟩=>?_
 have hv':v=.bool true:=by simpa[Rel,ς] using hv
 subst hv'
 exact⟨_,he,qc zC (by kernel_rfl) rfl rfl Tryz.underlying4 hW' rfl hbw⟩

def ztb:By:=#[Value.agg #[.slice none 0 0,.slice none 0 0,.slice none 0 0,.slice none 0 0],Value.agg #[.int .i64 0,.int .i64 0,.int .i64 0,.int .i64 0],Value.int .i64 0,Value.int .i64 0,.slice none 0 0]

theorem reads(os:Os){H:Type}(enc:TypeId×Value->H):∃places,DataW.whole enc Tryz.prog ((fj os).forCall (λ_ _=>0) ⟨#[],ztb,[]⟩).memory Tryz.f7.params.toList Rows.questionsAlikeSpec.vars false
  ztb.toList 8=some ([.agg [.agg [.nil,.nil,.nil],.nil],.agg [.lit (.int .i64 0),.lit (.int .i64 0),.lit (.int .i64 0),.lit (.int .i64 0)],.lit (.int .i64 0),.lit (.int .i64 0),.nil],[],places) :=
 ⟨[],by kernel_rfl⟩

theorem lifted(os:Os)(started:os.Started)(H:Type)(enc:TypeId×Value->H)(F:Stop.Interp):
  ReturnsInHanded {} Tryz.checked os 7 .any ((Rows.OpenSpec.upto Rows.questionsAlikeSpec).preRow enc Tryz.prog Tryz.f7 Rows.questionsAlikeUptoRow.domain false Rows.questionsAlikeUptoRow.laid) (((Rows.OpenSpec.upto Rows.questionsAlikeSpec).at F).post enc Tryz.prog Tryz.f7 false true false false):=by
 obtain⟨places,hx⟩:=reads os enc
 refine returnsInHanded_of_row (C:=Tryz.checked) (s:=Rows.OpenSpec.upto Rows.questionsAlikeSpec) ownK started (by kernel_rfl) Tryz.func7
  (witness_row_at (enc:=enc) (C:=Tryz.checked) false (fj os) ztb rfl (by kernel_rfl) (by kernel_rfl) (by kernel_rfl)
   (OpenSpec.preRow_of_cond 8 hx (by kernel_rfl) (λk hk=>by cases hk;kernel_rfl) (by kernel_rfl) (ztI os _))) ?_
 intro W base args ds gs before zpA hW _ hc hz hL _ _
 exact zur H enc W base args ds gs before zpA hW hz (hc _ rfl) hL

theorem said:Rows.QuestionsAlikeUptoSaid :=
 OpenClaim.holds_of_cond 7 Tryz.f7 rfl rfl rfl rfl rfl rfl rfl ⟨rfl,rfl,rfl,rfl,rfl⟩ rfl rfl rfl rfl rfl (by kernel_rfl) Tryz.func7 jf
  (of_decide_eq_true (by kernel_rfl)) (by unfold Func.isWrapper;first|(rw[if_pos (by decide +kernel)];kernel_rfl)|(rw[if_neg (by decide +kernel)];exact⟨rfl,rfl⟩))
  (λos started H enc _ F=>by rw[OpenClaim.pre_eq_preRow];exact lifted os started H enc F)

theorem plain (f:FuncId) (fn:Func) (hf:Tryz.pinned.checked.prog.funcNamed "sizar/sizarlaw34.QuestionsAlike" = some f) (hfn:Tryz.pinned.checked.prog.funcs[f]? = some fn) :
  true=Tryz.pinned.checked.prog.looks []/\∀(j:Nat) t,fn.params[j]? = some t->Tryz.pinned.checked.prog.wantsStandIn t=false:=by
 obtain rfl:f=7:=Option.some.inj ((show Tryz.prog.funcNamed "sizar/sizarlaw34.QuestionsAlike" = some 7 by kernel_rfl).symm.trans hf) |>.symm
 obtain rfl:fn=Tryz.f7:=(Option.some.inj (Tryz.func7.symm.trans hfn)).symm
 refine⟨by kernel_rfl,λj t ht=>?_⟩
 rw[Tryz.params7] at ht
 have hm:t∈[29,31,3,3,32]:=by simpa using Array.mem_of_getElem? ht
 have zet:([29,31,3,3,32].all λu=>!Tryz.prog.wantsStandIn u)=true:=by kernel_rfl
 exact(show Tryz.prog.wantsStandIn t=false by simpa using List.all_eq_true.1 zet t hm)

theorem card:Rows.QuestionsAlikeUptoCardSaid :=
 Claim7.holds_tied_plain_at .later [] _ _ _ _ said (λ_ h=>by cases h) (by kernel_rfl) (λ_ h=>by cases h) questionsAlikeUpto_row_tie rfl ⟨rfl,rfl⟩ (by kernel_rfl) rfl plain (by kernel_rfl)
end Go.Vi.questionsAlike
namespace Go.Proofs.YtgalafpinkflfaaGreatDoor
/-- The given card. -/
theorem questionsAlike_holds:Rows.QuestionsAlikeUptoCardSaid:=Go.Vi.questionsAlike.card
#print axioms questionsAlike_holds
end Go.Proofs.YtgalafpinkflfaaGreatDoor
