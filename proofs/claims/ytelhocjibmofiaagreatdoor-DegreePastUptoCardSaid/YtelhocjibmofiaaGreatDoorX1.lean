/- DegreePastUpto: for every input, where the arguments together are of bulk at most 1048576 (each value counted each time it is reached), the law returns true and each argument reads behind the call as it read before: the given card, proved. No conditions beyond the statement's own. -/
import Derived.Test.YtelhocjibmofiaaGreatDoorW12
import Derived.ChangeMaps5
open Decidable renaming decide -> Zd
open Go Go.Proofs
namespace Go.Vi.degreePast
open Go.ChangeShapes Go.WideShapes Go.ChangeAt Go.RowKit Go.Proofs.YtelhocjibmofiaaGreatDoor
set_option maxRecDepth 100000
theorem jf0:(Rows.degreePastUptoRow.wf (OpenSpec.ofChange (OpenSpec.ofChange Rows.degreePastSpec).bare))=true:=by kernel_rfl
theorem jf1:(laidOutB Tryz.pinned.checked.prog)=true:=by kernel_rfl
theorem jf2:(mapsRowed Tryz.pinned.checked.prog)=true:=by kernel_rfl
theorem jf3:(Tryz.f4.params.all (Tryz.pinned.checked.prog.readableRec ·))=true:=by kernel_rfl
theorem jf4:(namedTie Tryz.pinned.checked.prog Rows.degreePastUptoRow.named (OpenSpec.ofChange Rows.degreePastSpec).bare.vars)=true:=by kernel_rfl
theorem jf5:((Rows.degreePastUptoRow.stops==[]))=true:=by kernel_rfl
theorem jf6:((Tryz.pinned.checked.prog.stops==[]))=true:=by kernel_rfl
theorem jf7:((Rows.degreePastUptoRow.knobs==[]))=true:=by kernel_rfl
theorem jf8:((Tryz.pinned.checked.prog.stopKnobs==[]))=true:=by kernel_rfl
theorem jf9:((Rows.degreePastUptoRow.inPlace==Tryz.pinned.checked.prog.inPlace 4))=true:=by kernel_rfl
theorem jf10:((Rows.degreePastUptoRow.unfollowed==Tryz.pinned.checked.prog.unfollowed 4))=true:=by kernel_rfl
theorem jf11:((Rows.degreePastUptoRow.recurses==Tryz.pinned.checked.prog.recurses 4))=true:=by kernel_rfl
theorem jf12:((Rows.degreePastUptoRow.named==Tryz.pinned.checked.prog.varsNamed 4))=true:=by kernel_rfl
theorem jf13:((Rows.degreePastUptoRow.maps==(Tryz.f4.params.toList++(OpenSpec.ofChange Rows.degreePastSpec).bare.plain.varTypes Tryz.pinned.checked.prog).any (Tryz.pinned.checked.prog.mapsRec ·)))=true:=by kernel_rfl
theorem jf14:((Rows.degreePastUptoRow.ifaces==(Tryz.f4.params.toList++(OpenSpec.ofChange Rows.degreePastSpec).bare.plain.varTypes Tryz.pinned.checked.prog).any (Tryz.pinned.checked.prog.ifacesRec ·)))=true:=by kernel_rfl
theorem jf15:((Rows.degreePastUptoRow.mapsOut==Tryz.pinned.checked.prog.mapsAmong Tryz.f4.resultTypes.toList))=true:=by kernel_rfl
theorem jf16:((Rows.degreePastUptoRow.loops==(Tryz.f4.params.toList++(OpenSpec.ofChange Rows.degreePastSpec).bare.plain.varTypes Tryz.pinned.checked.prog).any (Tryz.pinned.checked.prog.loopsFrom ·)))=true:=by kernel_rfl
theorem jf17:((Rows.degreePastUptoRow.wideKeys==(Tryz.f4.params.toList++(OpenSpec.ofChange Rows.degreePastSpec).bare.plain.varTypes Tryz.pinned.checked.prog++Tryz.f4.resultTypes.toList).any (Tryz.pinned.checked.prog.wideKeysFrom ·)))=true:=by kernel_rfl
theorem jf18:((OpenSpec.ofChange Rows.degreePastSpec).bare.vars.all (Tryz.pinned.checked.prog.varReadable ·))=true:=by kernel_rfl
theorem jf19:(Tryz.f4.resultTypes.all (λt=>Tryz.pinned.checked.prog.readableRec t&&Zd (t<Tryz.pinned.checked.prog.types.size)))=true:=by kernel_rfl
theorem jf20:((Rows.degreePastUptoRow.ifacesOut==Tryz.f4.resultTypes.toList.any (Tryz.pinned.checked.prog.ifacesRec ·)))=true:=by kernel_rfl
theorem jf21:((Rows.degreePastUptoRow.loopsOut==Tryz.f4.resultTypes.toList.any (Tryz.pinned.checked.prog.loopsFrom ·)))=true:=by kernel_rfl
theorem jf22:((Rows.degreePastUptoRow.plainKeys==Tryz.pinned.checked.prog.plainKeys))=true:=by kernel_rfl
theorem jf23:(Rows.degreePastUptoRow.shortTexts.isNone)=true:=by kernel_rfl
theorem jf24:(Tryz.pinned.checked.prog.stopsHeard)=true:=by kernel_rfl
theorem jf25:(Tryz.pinned.checked.prog.mayEnter)=true:=by kernel_rfl
theorem jf26:((Rows.degreePastUptoRow.lifted==Tryz.pinned.checked.prog.liftsFinal))=true:=by kernel_rfl
theorem jf27:((Tryz.pinned.checked.prog.make==some Rows.degreePastUptoRow.make))=true:=by kernel_rfl
theorem jf28:((Rows.degreePastUptoRow.kinds==(if Rows.degreePastUptoRow.domain.isEmpty then [] else Tryz.f4.params.toList.map λt=>match Tryz.pinned.checked.prog.underlying t with|some (.int k)=>some k|_=>none)))=true:=by kernel_rfl
theorem jf29:((Rows.degreePastUptoRow.pinned==Rows.degreePastUptoRow.pinnedBy))=true:=by kernel_rfl
theorem jf30:((Rows.degreePastUptoRow.veiled==(Tryz.f4.params.toList++(OpenSpec.ofChange Rows.degreePastSpec).bare.plain.varTypes Tryz.pinned.checked.prog++Tryz.f4.resultTypes.toList).any (Tryz.pinned.checked.prog.veiledRec ·)))=true:=by kernel_rfl
theorem jf31:(Rows.degreePastUptoRow.veiledFits Tryz.pinned.checked.prog Tryz.f4.params.toList (Tryz.f4.params.toList++(OpenSpec.ofChange Rows.degreePastSpec).bare.plain.varTypes Tryz.pinned.checked.prog++Tryz.f4.resultTypes.toList))=true:=by kernel_rfl
theorem jJ{a b:Bool}(ha:a=true)(hb:b=true):(a&&b)=true:=by rw[ha,hb];rfl
theorem jf:joinedFacts Tryz.pinned.checked.prog 4 Tryz.f4 (OpenSpec.ofChange Rows.degreePastSpec).bare Rows.degreePastUptoRow=true:=by
 unfold joinedFacts
 exact jJ (jJ (jJ (jJ (jJ (jJ (jJ (jJ (jJ (jJ (jJ (jJ (jJ (jJ (jJ (jJ (jJ (jJ (jJ (jJ (jJ (jJ (jJ (jJ (jJ (jJ (jJ (jJ (jJ (jJ (jJ jf0 jf1) jf2) jf3) jf4) jf5) jf6) jf7) jf8) jf9) jf10) jf11) jf12) jf13) jf14) jf15) jf16) jf17) jf18) jf19) jf20) jf21) jf22) jf23) jf24) jf25) jf26) jf27) jf28) jf29) jf30) jf31
end Go.Vi.degreePast
open Go Go.Proofs
namespace Go.Vi.degreePast
open Go.ChangeShapes Go.WideShapes Go.ChangeAt Go.RowKit Go.Proofs.YtelhocjibmofiaaGreatDoor
set_option maxRecDepth 100000

theorem Ht(H:Type)(enc:TypeId×Value->H)(W:World)(base:Nat)(args:BV)(ds gs:List (DataW H))(before:List MemPlace)
  (zix:∀(j:Nat) t v,Tryz.f4.params[j]? = some t->args[j]? = some v->Value.okWide Tryz.prog W .any base t v)
  (hW:DataW.Whole enc Tryz.prog Tryz.f4.params.toList Rows.degreePastSpec.vars false W args.toList ds gs before)
  (hz:(DataW.weightsEach Tryz.prog (Tryz.f4.params.toList++(Rows.OpenSpec.upto Rows.degreePastSpec).bare.plain.varTypes Tryz.prog) (ds++gs)).all (· <= reachBytes)=true) (hc:Rows.uptoSmall H (ds++gs)=true) (hL:laidMetH Tryz.prog [("sizar/rules.kinds",Rows.laid_sizar_rules_kinds)] W) :
  Calls Tryz.prog 4 args W λe W'=>∃v,e=.returned v/\Rows.degreePastSpec.post enc Tryz.prog Tryz.f4 false true false false W args v W':=by
 have hW':=hW
 obtain⟨p,q,hA0,hV,rfl,hfz,hnd⟩:=hW
 obtain⟨rfl,rfl⟩:=trodVars_none (show DataW.TrodVars enc Tryz.prog W (λ_=>true) [] gs q from hV)
 have hA:DataW.TrodAll enc Tryz.prog W 0 (λ_=>true) true Tryz.f4.params.toList args.toList ds p:=hA0
 rw[Tryz.params4] at hA zix hz
 obtain⟨v0,vs0,d0,ds0,p0,q0,hargs,rfl,rfl,h0,r0⟩:=trodAll_cons hA
 obtain⟨v1,vs1,d1,ds1,p1,q1,rfl,rfl,rfl,h1,r1⟩:=trodAll_cons r0
 obtain⟨v2,vs2,d2,ds2,p2,q2,rfl,rfl,rfl,h2,r2⟩:=trodAll_cons r1
 obtain⟨v3,vs3,d3,ds3,p3,q3,rfl,rfl,rfl,h3,r3⟩:=trodAll_cons r2
 obtain⟨v4,vs4,d4,ds4,p4,q4,rfl,rfl,rfl,h4,r4⟩:=trodAll_cons r3
 obtain⟨v5,vs5,d5,ds5,p5,q5,rfl,rfl,rfl,h5,r5⟩:=trodAll_cons r4
 obtain⟨rfl,rfl,rfl⟩:=trodAll_nil r5
 obtain rfl:args=#[v0,v1,v2,v3,v4,v5]:=by cases args;simp_all
 have w0:=fC hz 0 29 d0 rfl rfl
 obtain⟨S0,hs0,rel0,ps0,hp0,hm0⟩:=Ae (zix 0 29 v0 rfl rfl) h0 w0 (Af hc (by simp))
 obtain⟨x1,rfl,rfl,rfl,wx1⟩:=open_int Tryz.underlying3 (zix 1 3 v1 rfl rfl) h1
 obtain⟨x2,rfl,rfl,rfl,wx2⟩:=open_int Tryz.underlying3 (zix 2 3 v2 rfl rfl) h2
 obtain⟨x3,rfl,rfl,rfl,wx3⟩:=open_int Tryz.underlying3 (zix 3 3 v3 rfl rfl) h3
 obtain⟨x4,rfl,rfl,rfl,wx4⟩:=open_int Tryz.underlying3 (zix 4 3 v4 rfl rfl) h4
 obtain⟨x5,rfl,rfl,rfl,wx5⟩:=open_int Tryz.underlying3 (zix 5 3 v5 rfl rfl) h5
 have zgY:U1 W (Ub (λ_=>False) (λ_=>none) []) (λ_=>none) [] [.agg (T9.l S0),SW x1,SW x2,SW x3,SW x4,SW x5] [v0,.int .i64 x1,.int .i64 x2,.int .i64 x3,.int .i64 x4,.int .i64 x5]:=by
  simp only[U1]
  exact⟨rel0,by simp[Rel,UF],by simp[Rel,UF],by simp[Rel,UF],by simp[Rel,UF],by simp[Rel,UF],trivial⟩
 refine(A0 (CE hL) (qg hs0 hp0 hm0 []) zgY).mono λe W' ⟨v,he,hv,hbw⟩=>?_
 have hv':v=.bool true:=by simpa[Rel,UF] using hv
 subst hv'
 exact⟨_,he,AZ Kh (by kernel_rfl) rfl rfl Tryz.underlying4 hW' rfl hbw⟩

def zlE:BV:=#[Value.agg #[.slice none 0 0,.slice none 0 0,.slice none 0 0,.slice none 0 0],Value.int .i64 0,Value.int .i64 0,Value.int .i64 0,Value.int .i64 0,Value.int .i64 0]

theorem reads(os:Os){H:Type}(enc:TypeId×Value->H):∃places,DataW.whole enc Tryz.prog ((pj os).forCall (λ_ _=>0) ⟨#[],zlE,[]⟩).memory Tryz.f4.params.toList Rows.degreePastSpec.vars false
  zlE.toList 8=some ([.agg [.agg [.nil,.nil,.nil],.nil],.lit (.int .i64 0),.lit (.int .i64 0),.lit (.int .i64 0),.lit (.int .i64 0),.lit (.int .i64 0)],[],places) :=
 ⟨[],by kernel_rfl⟩

theorem lifted(os:Os)(started:os.Started)(H:Type)(enc:TypeId×Value->H)(F:Stop.Interp):
  ReturnsInHanded {} Tryz.checked os 4 .any ((Rows.OpenSpec.upto Rows.degreePastSpec).preRow enc Tryz.prog Tryz.f4 Rows.degreePastUptoRow.domain false Rows.degreePastUptoRow.laid) (((Rows.OpenSpec.upto Rows.degreePastSpec).at F).post enc Tryz.prog Tryz.f4 false true false false):=by
 obtain⟨places,hx⟩:=reads os enc
 refine returnsInHanded_of_row (C:=Tryz.checked) (s:=Rows.OpenSpec.upto Rows.degreePastSpec) ownK started (by kernel_rfl) Tryz.func4
  (witness_row_at (enc:=enc) (C:=Tryz.checked) false (pj os) zlE rfl (by kernel_rfl) (by kernel_rfl) (by kernel_rfl)
   (OpenSpec.preRow_of_cond 8 hx (by kernel_rfl) (λk hk=>by cases hk;kernel_rfl) (by kernel_rfl) (zmd os _))) ?_
 intro W base args ds gs before zix hW _ hc hz hL _ _
 exact Ht H enc W base args ds gs before zix hW hz (hc _ rfl) hL

theorem said:Rows.DegreePastUptoSaid :=
 OpenClaim.holds_of_cond 4 Tryz.f4 rfl rfl rfl rfl rfl rfl rfl ⟨rfl,rfl,rfl,rfl,rfl⟩ rfl rfl rfl rfl rfl (by kernel_rfl) Tryz.func4 jf
  (of_decide_eq_true (by kernel_rfl)) (by unfold Func.isWrapper;first|(rw[if_pos (by decide +kernel)];kernel_rfl)|(rw[if_neg (by decide +kernel)];exact⟨rfl,rfl⟩))
  (λos started H enc _ F=>by rw[OpenClaim.pre_eq_preRow];exact lifted os started H enc F)

theorem plain (f:FuncId) (fn:Func) (hf:Tryz.pinned.checked.prog.funcNamed "sizar/sizarlaw19.DegreePast" = some f) (hfn:Tryz.pinned.checked.prog.funcs[f]? = some fn) :
  true=Tryz.pinned.checked.prog.looks []/\∀(j:Nat) t,fn.params[j]? = some t->Tryz.pinned.checked.prog.wantsStandIn t=false:=by
 obtain rfl:f=4:=Option.some.inj ((show Tryz.prog.funcNamed "sizar/sizarlaw19.DegreePast" = some 4 by kernel_rfl).symm.trans hf) |>.symm
 obtain rfl:fn=Tryz.f4:=(Option.some.inj (Tryz.func4.symm.trans hfn)).symm
 refine⟨by kernel_rfl,λj t ht=>?_⟩
 rw[Tryz.params4] at ht
 have hm:t∈[29,3,3,3,3,3]:=by simpa using Array.mem_of_getElem? ht
 have τ:([29,3,3,3,3,3].all λu=>!Tryz.prog.wantsStandIn u)=true:=by kernel_rfl
 exact(show Tryz.prog.wantsStandIn t=false by simpa using List.all_eq_true.1 τ t hm)

theorem card:Rows.DegreePastUptoCardSaid :=
 Claim7.holds_tied_plain_at .later [] _ _ _ _ said (λ_ h=>by cases h) (by kernel_rfl) (λ_ h=>by cases h) degreePastUpto_row_tie rfl ⟨rfl,rfl⟩ (by kernel_rfl) rfl plain (by kernel_rfl)
end Go.Vi.degreePast
namespace Go.Proofs.YtelhocjibmofiaaGreatDoor
/-- The given card. -/
theorem degreePast_holds:Rows.DegreePastUptoCardSaid:=Go.Vi.degreePast.card
#print axioms degreePast_holds
end Go.Proofs.YtelhocjibmofiaaGreatDoor
