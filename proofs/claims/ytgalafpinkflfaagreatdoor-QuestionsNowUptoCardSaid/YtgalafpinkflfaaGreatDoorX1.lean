/- QuestionsNowUpto: for every input, where the arguments together are of bulk at most 1048576 (each value counted each time it is reached), the law returns true and each argument reads behind the call as it read before: the given card, proved. No conditions beyond the statement's own. -/
import Derived.Test.YtgalafpinkflfaaGreatDoorW11
import Derived.ChangeMaps5
open Decidable renaming decide -> Zd
open Go Go.Proofs
namespace Go.Vi.questionsNow
open Go.ChangeShapes Go.WideShapes Go.ChangeAt Go.RowKit Go.Proofs.YtgalafpinkflfaaGreatDoor
set_option maxRecDepth 100000
theorem jf0:(Rows.questionsNowUptoRow.wf (OpenSpec.ofChange (OpenSpec.ofChange Rows.questionsNowSpec).bare))=true:=by kernel_rfl
theorem jf1:(laidOutB Tryz.pinned.checked.prog)=true:=by kernel_rfl
theorem jf2:(mapsRowed Tryz.pinned.checked.prog)=true:=by kernel_rfl
theorem jf3:(Tryz.f6.params.all (Tryz.pinned.checked.prog.readableRec ·))=true:=by kernel_rfl
theorem jf4:(namedTie Tryz.pinned.checked.prog Rows.questionsNowUptoRow.named (OpenSpec.ofChange Rows.questionsNowSpec).bare.vars)=true:=by kernel_rfl
theorem jf5:((Rows.questionsNowUptoRow.stops==[]))=true:=by kernel_rfl
theorem jf6:((Tryz.pinned.checked.prog.stops==[]))=true:=by kernel_rfl
theorem jf7:((Rows.questionsNowUptoRow.knobs==[]))=true:=by kernel_rfl
theorem jf8:((Tryz.pinned.checked.prog.stopKnobs==[]))=true:=by kernel_rfl
theorem jf9:((Rows.questionsNowUptoRow.inPlace==Tryz.pinned.checked.prog.inPlace 6))=true:=by kernel_rfl
theorem jf10:((Rows.questionsNowUptoRow.unfollowed==Tryz.pinned.checked.prog.unfollowed 6))=true:=by kernel_rfl
theorem jf11:((Rows.questionsNowUptoRow.recurses==Tryz.pinned.checked.prog.recurses 6))=true:=by kernel_rfl
theorem jf12:((Rows.questionsNowUptoRow.named==Tryz.pinned.checked.prog.varsNamed 6))=true:=by kernel_rfl
theorem jf13:((Rows.questionsNowUptoRow.maps==(Tryz.f6.params.toList++(OpenSpec.ofChange Rows.questionsNowSpec).bare.plain.varTypes Tryz.pinned.checked.prog).any (Tryz.pinned.checked.prog.mapsRec ·)))=true:=by kernel_rfl
theorem jf14:((Rows.questionsNowUptoRow.ifaces==(Tryz.f6.params.toList++(OpenSpec.ofChange Rows.questionsNowSpec).bare.plain.varTypes Tryz.pinned.checked.prog).any (Tryz.pinned.checked.prog.ifacesRec ·)))=true:=by kernel_rfl
theorem jf15:((Rows.questionsNowUptoRow.mapsOut==Tryz.pinned.checked.prog.mapsAmong Tryz.f6.resultTypes.toList))=true:=by kernel_rfl
theorem jf16:((Rows.questionsNowUptoRow.loops==(Tryz.f6.params.toList++(OpenSpec.ofChange Rows.questionsNowSpec).bare.plain.varTypes Tryz.pinned.checked.prog).any (Tryz.pinned.checked.prog.loopsFrom ·)))=true:=by kernel_rfl
theorem jf17:((Rows.questionsNowUptoRow.wideKeys==(Tryz.f6.params.toList++(OpenSpec.ofChange Rows.questionsNowSpec).bare.plain.varTypes Tryz.pinned.checked.prog++Tryz.f6.resultTypes.toList).any (Tryz.pinned.checked.prog.wideKeysFrom ·)))=true:=by kernel_rfl
theorem jf18:((OpenSpec.ofChange Rows.questionsNowSpec).bare.vars.all (Tryz.pinned.checked.prog.varReadable ·))=true:=by kernel_rfl
theorem jf19:(Tryz.f6.resultTypes.all (λt=>Tryz.pinned.checked.prog.readableRec t&&Zd (t<Tryz.pinned.checked.prog.types.size)))=true:=by kernel_rfl
theorem jf20:((Rows.questionsNowUptoRow.ifacesOut==Tryz.f6.resultTypes.toList.any (Tryz.pinned.checked.prog.ifacesRec ·)))=true:=by kernel_rfl
theorem jf21:((Rows.questionsNowUptoRow.loopsOut==Tryz.f6.resultTypes.toList.any (Tryz.pinned.checked.prog.loopsFrom ·)))=true:=by kernel_rfl
theorem jf22:((Rows.questionsNowUptoRow.plainKeys==Tryz.pinned.checked.prog.plainKeys))=true:=by kernel_rfl
theorem jf23:(Rows.questionsNowUptoRow.shortTexts.isNone)=true:=by kernel_rfl
theorem jf24:(Tryz.pinned.checked.prog.stopsHeard)=true:=by kernel_rfl
theorem jf25:(Tryz.pinned.checked.prog.mayEnter)=true:=by kernel_rfl
theorem jf26:((Rows.questionsNowUptoRow.lifted==Tryz.pinned.checked.prog.liftsFinal))=true:=by kernel_rfl
theorem jf27:((Tryz.pinned.checked.prog.make==some Rows.questionsNowUptoRow.make))=true:=by kernel_rfl
theorem jf28:((Rows.questionsNowUptoRow.kinds==(if Rows.questionsNowUptoRow.domain.isEmpty then [] else Tryz.f6.params.toList.map λt=>match Tryz.pinned.checked.prog.underlying t with|some (.int k)=>some k|_=>none)))=true:=by kernel_rfl
theorem jf29:((Rows.questionsNowUptoRow.pinned==Rows.questionsNowUptoRow.pinnedBy))=true:=by kernel_rfl
theorem jf30:((Rows.questionsNowUptoRow.veiled==(Tryz.f6.params.toList++(OpenSpec.ofChange Rows.questionsNowSpec).bare.plain.varTypes Tryz.pinned.checked.prog++Tryz.f6.resultTypes.toList).any (Tryz.pinned.checked.prog.veiledRec ·)))=true:=by kernel_rfl
theorem jf31:(Rows.questionsNowUptoRow.veiledFits Tryz.pinned.checked.prog Tryz.f6.params.toList (Tryz.f6.params.toList++(OpenSpec.ofChange Rows.questionsNowSpec).bare.plain.varTypes Tryz.pinned.checked.prog++Tryz.f6.resultTypes.toList))=true:=by kernel_rfl
theorem iX{a b:Bool}(ha:a=true)(hb:b=true):(a&&b)=true:=by rw[ha,hb];rfl
theorem jf:joinedFacts Tryz.pinned.checked.prog 6 Tryz.f6 (OpenSpec.ofChange Rows.questionsNowSpec).bare Rows.questionsNowUptoRow=true:=by
 unfold joinedFacts
 exact iX (iX (iX (iX (iX (iX (iX (iX (iX (iX (iX (iX (iX (iX (iX (iX (iX (iX (iX (iX (iX (iX (iX (iX (iX (iX (iX (iX (iX (iX (iX jf0 jf1) jf2) jf3) jf4) jf5) jf6) jf7) jf8) jf9) jf10) jf11) jf12) jf13) jf14) jf15) jf16) jf17) jf18) jf19) jf20) jf21) jf22) jf23) jf24) jf25) jf26) jf27) jf28) jf29) jf30) jf31
end Go.Vi.questionsNow
open Go Go.Proofs
namespace Go.Vi.questionsNow
open Go.ChangeShapes Go.WideShapes Go.ChangeAt Go.RowKit Go.Proofs.YtgalafpinkflfaaGreatDoor
set_option maxRecDepth 100000

theorem G0(H:Type)(enc:TypeId×Value->H)(W:World)(base:Nat)(args:Array Value)(ds gs:List (DataW H))(before:List MemPlace)
  (Z9:∀(j:Nat) t v,Tryz.f6.params[j]? = some t->args[j]? = some v->Value.okWide Tryz.prog W .any base t v)
  (hW:DataW.Whole enc Tryz.prog Tryz.f6.params.toList Rows.questionsNowSpec.vars false W args.toList ds gs before)
  (hz:(DataW.weightsEach Tryz.prog (Tryz.f6.params.toList++(Rows.OpenSpec.upto Rows.questionsNowSpec).bare.plain.varTypes Tryz.prog) (ds++gs)).all (· <= reachBytes)=true) (hc:Rows.uptoSmall H (ds++gs)=true) (hL:laidMetH Tryz.prog [("sizar/rules.kinds",Rows.laid_sizar_rules_kinds)] W) :
  Calls Tryz.prog 6 args W λe W'=>∃v,e=.returned v/\Rows.questionsNowSpec.post enc Tryz.prog Tryz.f6 false true false false W args v W':=by
 have hW':=hW
 obtain⟨p,q,hA0,hV,rfl,hfz,hnd⟩:=hW
 obtain⟨rfl,rfl⟩:=trodVars_none (show DataW.TrodVars enc Tryz.prog W (λ_=>true) [] gs q from hV)
 have hA:DataW.TrodAll enc Tryz.prog W 0 (λ_=>true) true Tryz.f6.params.toList args.toList ds p:=hA0
 rw[Tryz.params6] at hA Z9 hz
 obtain⟨v0,vs0,d0,ds0,p0,q0,hargs,rfl,rfl,h0,r0⟩:=trodAll_cons hA
 obtain⟨v1,vs1,d1,ds1,p1,q1,rfl,rfl,rfl,h1,r1⟩:=trodAll_cons r0
 obtain⟨v2,vs2,d2,ds2,p2,q2,rfl,rfl,rfl,h2,r2⟩:=trodAll_cons r1
 obtain⟨v3,vs3,d3,ds3,p3,q3,rfl,rfl,rfl,h3,r3⟩:=trodAll_cons r2
 obtain⟨v4,vs4,d4,ds4,p4,q4,rfl,rfl,rfl,h4,r4⟩:=trodAll_cons r3
 obtain⟨rfl,rfl,rfl⟩:=trodAll_nil r4
 obtain rfl:args=#[v0,v1,v2,v3,v4]:=by cases args;simp_all
 have w0:=bU hz 0 29 d0 rfl rfl
 obtain⟨S0,hs0,rel0,ps0,hp0⟩:=zu (Z9 0 29 v0 rfl rfl) h0 w0 (zw hc (by simp))
 have w1:=bU hz 1 31 d1 rfl rfl
 obtain⟨S1,rel1⟩:=arg_q (Z9 1 31 v1 rfl rfl) h1 w1
 obtain⟨x2,rfl,rfl,rfl,wx2⟩:=open_int Tryz.underlying3 (Z9 2 3 v2 rfl rfl) h2
 have w3:=bU hz 3 32 d3 rfl rfl
 obtain⟨S3,rel3⟩:=xU (Z9 3 32 v3 rfl rfl) h3 w3
 have w4:=bU hz 4 32 d4 rfl rfl
 obtain⟨S4,rel4⟩:=xU (Z9 4 32 v4 rfl rfl) h4 w4
 have Xp:AT W (On (λ_=>False) (λ_=>none) []) (λ_=>none) [] [.agg (iS.l S0),ag (Wx.row S1),aT x2,ab (S3.map λn=>[vi n]),ab (S4.map λn=>[vi n])] [v0,v1,.int .i64 x2,v3,v4]:=by
  simp only[AT]
  exact⟨rel0,rel1,by simp[Rel,TB],rel3,rel4,trivial⟩
 refine(Bh (BR hL) (lS hs0 hp0 []) Xp).mono λe W' ⟨v,he,hv,hbw⟩=>?_
 have hv':v=.bool true:=by simpa[Rel,TB] using hv
 subst hv'
 exact⟨_,he,Bg Jt (by kernel_rfl) rfl rfl Tryz.underlying4 hW' rfl hbw⟩

def zaL:Array Value:=#[Value.agg #[.slice none 0 0,.slice none 0 0,.slice none 0 0,.slice none 0 0],Value.agg #[.int .i64 0,.int .i64 0,.int .i64 0,.int .i64 0],Value.int .i64 0,.slice none 0 0,.slice none 0 0]

theorem reads(os:Os){H:Type}(enc:TypeId×Value->H):∃places,DataW.whole enc Tryz.prog ((n8 os).forCall (λ_ _=>0) ⟨#[],zaL,[]⟩).memory Tryz.f6.params.toList Rows.questionsNowSpec.vars false
  zaL.toList 8=some ([.agg [.agg [.nil,.nil,.nil],.nil],.agg [.lit (.int .i64 0),.lit (.int .i64 0),.lit (.int .i64 0),.lit (.int .i64 0)],.lit (.int .i64 0),.nil,.nil],[],places) :=
 ⟨[],by kernel_rfl⟩

theorem lifted(os:Os)(started:os.Started)(H:Type)(enc:TypeId×Value->H)(F:Stop.Interp):
  ReturnsInHanded {} Tryz.checked os 6 .any ((Rows.OpenSpec.upto Rows.questionsNowSpec).preRow enc Tryz.prog Tryz.f6 Rows.questionsNowUptoRow.domain false Rows.questionsNowUptoRow.laid) (((Rows.OpenSpec.upto Rows.questionsNowSpec).at F).post enc Tryz.prog Tryz.f6 false true false false):=by
 obtain⟨places,hx⟩:=reads os enc
 refine returnsInHanded_of_row (C:=Tryz.checked) (s:=Rows.OpenSpec.upto Rows.questionsNowSpec) ownK started (by kernel_rfl) Tryz.func6
  (witness_row_at (enc:=enc) (C:=Tryz.checked) false (n8 os) zaL rfl (by kernel_rfl) (by kernel_rfl) (by kernel_rfl)
   (OpenSpec.preRow_of_cond 8 hx (by kernel_rfl) (λk hk=>by cases hk;kernel_rfl) (by kernel_rfl) (zbk os _))) ?_
 intro W base args ds gs before Z9 hW _ hc hz hL _ _
 exact G0 H enc W base args ds gs before Z9 hW hz (hc _ rfl) hL

theorem said:Rows.QuestionsNowUptoSaid :=
 OpenClaim.holds_of_cond 6 Tryz.f6 rfl rfl rfl rfl rfl rfl rfl ⟨rfl,rfl,rfl,rfl,rfl⟩ rfl rfl rfl rfl rfl (by kernel_rfl) Tryz.func6 jf
  (of_decide_eq_true (by kernel_rfl)) (by unfold Func.isWrapper;first|(rw[if_pos (by decide +kernel)];kernel_rfl)|(rw[if_neg (by decide +kernel)];exact⟨rfl,rfl⟩))
  (λos started H enc _ F=>by rw[OpenClaim.pre_eq_preRow];exact lifted os started H enc F)

theorem plain (f:FuncId) (fn:Func) (hf:Tryz.pinned.checked.prog.funcNamed "sizar/sizarlaw34.QuestionsNow" = some f) (hfn:Tryz.pinned.checked.prog.funcs[f]? = some fn) :
  true=Tryz.pinned.checked.prog.looks []/\∀(j:Nat) t,fn.params[j]? = some t->Tryz.pinned.checked.prog.wantsStandIn t=false:=by
 obtain rfl:f=6:=Option.some.inj ((show Tryz.prog.funcNamed "sizar/sizarlaw34.QuestionsNow" = some 6 by kernel_rfl).symm.trans hf) |>.symm
 obtain rfl:fn=Tryz.f6:=(Option.some.inj (Tryz.func6.symm.trans hfn)).symm
 refine⟨by kernel_rfl,λj t ht=>?_⟩
 rw[Tryz.params6] at ht
 have hm:t∈[29,31,3,32,32]:=by simpa using Array.mem_of_getElem? ht
 have UI:([29,31,3,32,32].all λu=>!Tryz.prog.wantsStandIn u)=true:=by kernel_rfl
 exact(show Tryz.prog.wantsStandIn t=false by simpa using List.all_eq_true.1 UI t hm)

theorem card:Rows.QuestionsNowUptoCardSaid :=
 Claim7.holds_tied_plain_at .later [] _ _ _ _ said (λ_ h=>by cases h) (by kernel_rfl) (λ_ h=>by cases h) questionsNowUpto_row_tie rfl ⟨rfl,rfl⟩ (by kernel_rfl) rfl plain (by kernel_rfl)
end Go.Vi.questionsNow
namespace Go.Proofs.YtgalafpinkflfaaGreatDoor
/-- The given card. -/
theorem questionsNow_holds:Rows.QuestionsNowUptoCardSaid:=Go.Vi.questionsNow.card
#print axioms questionsNow_holds
end Go.Proofs.YtgalafpinkflfaaGreatDoor
