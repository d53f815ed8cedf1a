/- A part of the proof; no conditions of its own. -/
import Derived.Test.YtgalafpinkflfaaGreatDoorV4
import Derived.RecoverIn
open Bool renaming true->J,false->N
open Option renaming some->G,none->Y
open Go.Exit renaming exit->Y9,normal->U4
open Go.Vi.Ref renaming vp->YZ,vs->ZC,mp->Wv,ptr->U0,yl->ZB
open Go.Vi.iN renaming T1->TS,loop->Wh,Ts->Y8
open Go.Vi.D renaming fn->X3,any->Tp,ref->Tx,WW->VG
open Go.LoopState renaming exhausted->Τ,busy->zq0y,ready->Z0
open Decidable renaming decide -> Zd
open Option.some renaming injEq -> MS
open Prod.mk renaming injEq -> MV
open Go.Deferred renaming ofValue -> Oh
open Go.Sem renaming run_bind -> Ni,run_pure -> NN
open Go.Result renaming andThen_ok -> M6
open Go.Fence renaming wide -> RQ
open Go.CallsIn renaming mono -> OT
open List renaming range' -> Oo,length_cons -> N3,range'_succ -> QM,range_eq_range' -> PB,getElem?_append_right -> NJ,map_id -> PC
open Array renaming getElem?_toList -> NU,length_toList -> OZ,toList_append -> SJ
open Go.Region renaming wanted -> NM
open Go.Oper renaming semAt_eq -> Q7
open Go.Vi.TN renaming mono -> Rw
open Go.Vi.iN renaming T1 -> PO,Ts -> RX
open Go.Vi.Ue renaming Ok -> Rg
open Go.Vi.U9 renaming id -> P3
namespace Go.Vi
open Go
def WQ(P:Program)(Γ:ao)(call:Ue)(m:List Nat)(ops:List Oper)(B ord lt:List Nat)(t:List D)(h:List iN):Option (List D×List iN) :=
 match dU ops B ord lt with
 |true=>match runD P Γ call m ops (jl ops ord) t h with
  |some (tF,hs,ts)=>match Mz ops ord lt hs with
   |true=>match AH P Γ ops B ord lt tF hs ts with
    |true=>G (tF,hs.getD ops.length [])
    |false=>Y
   |false=>Y
  |none=>Y
 |false=>Y
def m9(P:Program)(Γ:ao)(call:Ue)(m:List Nat)(ops:List Oper)(draw:Bool)(t:List D)(h:List iN):Option (List D×List iN) :=
 match draw with
 |false=>mS P Γ call m ops ops t h
 |true=>match q9 ops (ck ops []) with
  |true=>match runD P Γ call m ops ops t h with
   |some (tF,hs,ts)=>match G4 P Γ ops (ck ops []) tF hs ts with
    |true=>G (tF,hs.getD ops.length [])
    |false=>Y
   |none=>Y
  |false=>WQ P Γ call m ops (ck ops []) (D2 ops (ck ops []) (mY ops (ck ops []))) (mY ops (ck ops [])) t h
theorem VW.WQ{P:Program}{Γ:ao}{X:Ctx}{r:Option Nat}{call:Ue}{s:AS}{Q:Exit->AS->Prop}(ok:Vl P)(hc:call.Ok P Γ){id:Nat}{ops:Array Oper}{ord lt:List Nat}{t':List D}{h':List iN}(hr:WQ P Γ call s.m ops.toList (ck ops.toList []) ord lt s.t s.h=G (t',h'))(hQ:Q U4 {t:=t',h:=h',m:=s.m}):VW P Γ X r (.region id ops J) Q s:=by
 unfold Vi.WQ at hr;split at hr
 ·rename_i hs0;split at hr
  ·rename_i tF hs ts UY;split at hr
   ·rename_i hi;split at hr;·rename_i hq;simp only[MS,MV] at hr;obtain⟨rfl,rfl⟩:=hr;obtain⟨F,h0,hun⟩:=fx_of hs0 (ln (wk:=Eq) (fx:=(· = _root_.id)) (λ_=>rfl) rfl hc _ _ _ _ _ _ UY) hi hq;exact VW.draw5 ok F h0 hun (by simpa using hQ)
    ·simp at hr
   ·simp at hr
  ·simp at hr
 ·simp at hr
theorem VW.run{P:Program}{Γ:ao}{X:Ctx}{r:Option Nat}{call:Ue}{s:AS}{Q:Exit->AS->Prop}(ok:Vl P)(hc:call.Ok P Γ){id:Nat}{ops:Array Oper}{draw:Bool}{t':List D}{h':List iN}(hr:m9 P Γ call s.m ops.toList draw s.t s.h=G (t',h'))(hQ:Q U4 {t:=t',h:=h',m:=s.m}):VW P Γ X r (.region id ops draw) Q s:=by
 unfold m9 at hr;cases draw with
 |false=>exact VW.region hc hr hQ
 |true=>
  simp only at hr;split at hr
  ·rename_i hD;split at hr
   ·rename_i tF hs ts UY;split at hr;·rename_i hqb;simp only[MS,MV] at hr;obtain⟨rfl,rfl⟩:=hr;exact VW.draw ok (mU hD) (ln Wk.refl Vi.U9.id hc _ _ _ _ _ _ UY) (y5 hqb) (by simpa using hQ)
    ·simp at hr
   ·simp at hr
  ·exact VW.WQ ok hc hr hQ
section
variable {P:Program}{Γ:ao}{X:Ctx}{r:Option Nat}
def Xn(P:Program)(Γ:ao)(x:D)(args:List D)(h:List iN)(K:List PanicEntry->List iN->Prop):Prop :=∀(O:Nat->Prop) (w:World) (l:Loc) (y:Value) (vs:List Value),TL Γ O w l h->Rel w (On O l h) l h x y->AT w (On O l h) l h args vs -> ∀(r:Option Nat) (o:Oper) (a:Act) (next:Act->World->Prop) (Q':Exit->Act->World->Prop),(∀c h' l' w',K c h'->TL Γ O w' l' h'->Ext w l h w' l' h'->Q' (.panic c) a w') -> o.uponIn (FW r) 0 P a next Q' ((do let d <-Oh y vs.toArray;invoke d.target d.args).run P w)
theorem Xn.Wt(ok:Vl P){x:D}{args:List D}{h:List iN}{f:FuncId}{fi ca:List D}{K:List PanicEntry->List iN->Prop}(hc:cK x=G (f,fi,ca))(hf:eP P f=J)(V6:XW P Γ f (fi++args++ca) h K):Xn P Γ x args h K:=by
 intro O w l y vs R rx ra r o a next Q' hn
 obtain⟨a0,c0,rfl,r1,r2⟩:=dK rx hc;unfold eP at hf;split at hf;case h_2=>simp at hf
 rename_i fn hfn;have e1:(do let d <-Oh (.func (.func f) a0 c0) vs.toArray;invoke d.target d.args:Sem Next).run P w=.ok (.enter f (a0++vs.toArray++c0)) w:=by simp only[Oh,Ni,NN,M6,invoke];exact VM ok hfn hf _ _
 rw[e1];refine⟨λh=>by simp[RQ] at h,?_⟩;have h1:=V6 O w l (a0++vs.toArray++c0).toList R (by simpa using bg (bg r1 ra) r2);refine OT (h1:CallsIn (FW r) 0 P f _ w _) ?_;grind
inductive CR where
 |ret (d:D) (h:List iN)
 |ψ (c:List PanicEntry) (h:List iN)
abbrev Un:=D->List D->List iN->Option CR
def CROk(P:Program)(Γ:ao)(x:D)(args:List D)(h:List iN):CR->Prop
 |.ret d h'=>WL P Γ x args h λd2 h2=>d2=d/\h2=h'
 |.ψ c h'=>Xn P Γ x args h λc2 h2=>c2=c/\h2=h'
def Un.Ok(P:Program)(Γ:ao)(call:Un):Prop:=∀x args h r,call x args h=G r->CROk P Γ x args h r
def Un.toF(call:Un):Ue:=λx args h=>match call x args h with
 |some (.ret d h')=>G (d,h')
 |_=>Y
theorem Un.toF_ok{call:Un}(hc:call.Ok P Γ):(call.toF).Ok P Γ:=by
 intro x args h d h' he;unfold Un.toF at he;split at he;·rename_i h1;cases he;exact hc _ _ _ _ h1
 ·simp at he
def tf(P:Program)(Γ:ao)(call:Un)(t:List D)(h:List iN)(o:Op):Option CR :=
 match o with
 |.call {callee:=.value fv,args,.. }=>call (Bv Γ t fv) (args.toList.map (Bv Γ t)) h
 |.panic x=>match vq (Bv Γ t x) with
  |some (.iface T v)=>G (.ψ [{v:=.iface T v,recovered:=N}] h)
  |_=>Y
 |op=>match Is P Γ t h op with
  |some (true,d,h')=>G (.ret d h')
  |_=>Y
def bb(P:Program)(Γ:ao)(call:Un)(m:List Nat)(L:List Oper):List Oper->List D->List iN->Option (Exit×List D×List iN)
 | [],t,h=>G (U4,t,h)
 |o::os,t,h=>match aR L t o.guard with
  |some true=>match tf P Γ call t h o.op with
   |some (.ret d h')=>if aB h' m then bb P Γ call m L os (TO t o.dst d) h' else Y
   |some (.ψ c h')=>if aB h' m then G (.panic c,t,h') else Y
   |none=>Y
  |some false=>bb P Γ call m L os (TO t o.dst (lit undef)) h
  |none=>Y
theorem AJ{x:D}{_t:List D}{h:List iN}{w:World}{l:Loc}{av:Nat->Prop}{y:Value}{T:TypeId}{v:Value}(rx:Rel w av l h x y)(hx:vq x=G (.iface T v)):(do pure (.value (<-Instr.panic y)):Sem Next).run P w=.halt (.panic (.iface T v)) w:=by obtain rfl:=j6 hx rx;simp only[Instr.panic,goPanic,Ni];rfl
theorem fG{call:Un}(hc:call.Ok P Γ){ops:Array Oper}{m:List Nat}{e:Exit}{t':List D}{h':List iN}{Q':Exit->Act->World->Prop}{tail:List Nat}(hN:e=U4->∀a w,St Γ X {t:=t',h:=h',m:=m} a w->wpOpsIn (FW r) 0 P ops Q' tail a w)(hP:∀c,e=.panic c->∀a w,St Γ X {t:=t',h:=h',m:=m} a w->Q' e a w) :∀(os:List Oper) (i:Nat) (t:List D) (h:List iN) (more:List Oper),ops.toList.drop i=os++more->bb P Γ call m ops.toList os t h=G (e,t',h')->∀(a:Act) (w:World),St Γ X {t:=t,h:=h,m:=m} a w -> wpOpsIn (FW r) 0 P ops Q' (Oo i os.length++tail) a w:=by
 intro os;induction os with
 |nil=>grind [bb,MS,MV]
 |cons o os ih=>
  intro i t h more hd hr a w hs;have ho:ops[i]?=G o:=by rw[<-NU];have:=congrArg (·[0]?) hd;simpa using this
  have Vv:ops.toList.drop (i+1)=os++more:=by have:=congrArg (List.drop 1) hd;simpa[Nat.add_comm] using this
  simp only[N3,QM,List.cons_append,wpOpsIn,ho];simp only[bb] at hr;split at hr
  ·rename_i hg;have hw:NM o (yielded ops a.tmps)=J:=by obtain⟨l,R,E,rt,rd⟩:=hs;exact aC rt hg
   rw[if_pos hw];split at hr
   ·rename_i d h1 Uk;split at hr
    ·rename_i hm;unfold tf at Uk;split at Uk;·rename_i ZV;have:=hc _ _ _ _ Uk;exact Ay (s:={t:=t,h:=h,m:=m}) ZV ((this:WL P Γ _ _ h λd2 h2=>d2=d/\h2=h1).mono λd2 h2 ⟨e1,e2⟩=>Tn) hs
     ·grind
     ·split at Uk;·rename_i hsem;simp only[MS,CR.ret.injEq] at Uk;obtain⟨rfl,rfl⟩:=Uk;exact H9 (s:={t:=t,h:=h,m:=m}) hsem hm (λa' w' Vq=>ih (i+1) _ _ more Vv hr a' w' Vq) hs
      ·simp at Uk
    ·simp at hr
   ·rename_i c h1 Uk;split at hr
    ·rename_i hm;simp only[MS,MV] at hr;obtain⟨rfl,rfl,rfl⟩:=hr;obtain⟨l,R,E,rt,rd⟩:=hs;unfold tf at Uk;split at Uk
     ·rename_i fv args ats ZV;have hk:=hc _ _ _ _ Uk;refine⟨λ_ _=>trivial,?_⟩;rw[Q7 _ _ _ Tn];have e1:(execOp a.eval o).run P w=(do let d <-Oh (a.eval fv) (args.toList.map a.eval).toArray;invoke d.target d.args:Sem Next).run P w:=by unfold execOp;rw[ZV];simp only[resolve];congr 3;rw[<-Array.toList_map]
      rw[e1];exact(hk:Xn P Γ _ _ h λc2 h2=>c2=c/\h2=h1) X.O w l _ _ R (a8 R rt fv) (eK R rt args.toList) r o a _ _ λc2 h2 l2 w2 ⟨g1,g2⟩ g3 g4=>by subst g1;subst g2;exact hP _ rfl _ _ ⟨l2,g3,E.trans g4,g4.Ur rt,Rw g4.keep hm rd⟩
     ·rename_i x ZV;split at Uk
      ·rename_i T v hx;simp only[MS,CR.ψ.injEq] at Uk;obtain⟨rfl,rfl⟩:=Uk;refine⟨λ_ _=>trivial,?_⟩;rw[Q7 _ _ _ Tn];have e1:(execOp a.eval o).run P w=.halt (.panic (.iface T v)) w:=by unfold execOp;rw[ZV];exact AJ (_t:=t) (a8 R rt x) hx
       rw[e1];exact hP _ rfl _ _ ⟨l,R,E,rt,rd⟩
      ·simp at Uk
     grind
    ·simp at hr
   ·simp at hr
  ·rename_i hg;have hw:NM o (yielded ops a.tmps)=N:=by obtain⟨l,R,E,rt,rd⟩:=hs;exact aC rt hg
   rw[if_neg (by simp[hw])];exact⟨λ_ _=>trivial,ih (i+1) _ _ more Vv hr _ _ (St.skip (s:={t:=t,h:=h,m:=m}) o.dst hs)⟩
  ·simp at hr
theorem kj{call:Un}(hc:call.Ok P Γ){ops:Array Oper}{m:List Nat}{e:Exit}{t':List D}{h':List iN}{Q:Exit->AS->Prop}(hQ:Q e {t:=t',h:=h',m:=m})(os:List Oper)(i:Nat)(t:List D)(h:List iN)(hd:ops.toList.drop i=os)(hr:bb P Γ call m ops.toList os t h=G (e,t',h'))(a:Act)(w:World)(hs:St Γ X {t:=t,h:=h,m:=m} a w):wpOpsIn (FW r) 0 P ops (ia Γ X Q) (Oo i os.length) a w:=by have:=fG (r:=r) (X:=X) hc (Q':=ia Γ X Q) (tail:=[]) (e:=e) (t':=t') (h':=h') (λhe a w hs=>by subst he;exact⟨To,_,hQ,hs⟩) (λc he a w hs=>⟨by rw[he];simp,_,hQ,hs⟩) os i t h [] (by simpa using hd) hr a w hs;grind
theorem VW.Va{call:Un}(hc:call.Ok P Γ){s:AS}{id:Nat}{ops:Array Oper}{e:Exit}{t':List D}{h':List iN}{Q:Exit->AS->Prop}(hr:bb P Γ call s.m ops.toList ops.toList s.t s.h=G (e,t',h'))(hQ:Q e {t:=t',h:=h',m:=s.m}):VW P Γ X r (.region id ops N) Q s:=λa w hs=>
 wpIn_region (by
  have:=kj (r:=r) (X:=X) hc hQ ops.toList 0 s.t s.h To hr a w hs
  grind [PB])
end
def oP(u:FrameMode):Value×FrameMode:=match u with
 |.panicking ({v,recovered:=N,goexit:=N}::older)=>(v,.panicking ({v,recovered:=J}::older))
 |u=>(.nilIface,u)
theorem Yc(c:Frame)(cs:List Frame):(recoverD (c::cs)=G ((oP c.mode).1,{c with mode:=(oP c.mode).2}::cs)) \/ (recoverD (c::cs)=Y/\(oP c.mode).1=.nilIface/\({c with mode:=(oP c.mode).2}:Frame)=c):=by
 simp[recoverD,oP];split;·grind
 simp_all
theorem f9{F:Fence}{n:Nat}{P:Program}{id:Nat}{ops:Array Oper}{o:Oper}{os:List Oper}{ats:Array TypeId}(h0:ops.toList=o::os)(ho:o.op=.call {callee:=.builtin .recover,args:=#[],argTypes:=ats})(hg:o.guard=Y){Q:Exit->Act->List Frame->World->Prop}{a:Act}{c:Frame}{cs:List Frame}{w:World}(Wb:F.round=Y){Q0:Exit->Act->World->Prop}(h:wpOpsIn F n P ops Q0 (Oo 1 os.length) (a.put o.dst (oP c.mode).1) w)(hQ0:∀e a' w',Q0 e a' w'->Q e a' ({c with mode:=(oP c.mode).2}::cs) w') :(Code.region id ops N).wpSIn F n P Q a (c::cs) w:=by
 intro b k hb hr hF Η;have hlen:ops.size=os.length+1:=by rw[<-OZ,h0];simp
 have WG:List.range ops.size=0::Oo 1 os.length:=by rw[hlen,PB,QM]
 have ho0:ops[0]?=G o:=by rw[<-NU,h0];rfl
 have hw:NM o (yielded ops a.tmps)=J:=by unfold NM;rw[hg]
 have UY:(execOp a.eval o).run P w=.ok .recover w:=by unfold execOp;rw[ho];simp[resolve,invoke,builtin]
 have hab:∀f,o.about P w a.eval=G f->F.fn f:=by intro f hf;unfold Oper.about at hf;rw[ho] at hf;simp[resolve,Target.leads] at hf
 have i0:(lone (b.atR a (.code (.region id ops N)::k)) (c::cs) w).fenced P F:=fenced_calm hF Η rfl;have i1:(lone (b.atR a (.inRegion ops (0::Oo 1 os.length)::k)) (c::cs) w).fenced P F:=fenced_oper hF Η ho0 hab;have Xz:=stepGR_op (P:=P) (b:=b) (k:=k) (cs:=c::cs) (w:=w) (rest:=Oo 1 os.length) ho0 hw;rw[hr,Oper.semAt_none] at Xz;have γ:∀v,(b.atR a (.inRegion ops (0::Oo 1 os.length)::k)).finish v=b.atR (a.put o.dst v) (.inRegion ops (Oo 1 os.length)::k):=by intro v;rw[Frame.finish_atR,ho0];rfl
 have hk:(b.atR a (.inRegion ops (0::Oo 1 os.length)::k)).kind=.deferred:=hb;have htr:=tryRecover_deferred hk (c::cs);have step1:step P (lone (b.atR a (.inRegion ops (0::Oo 1 os.length)::k)) (c::cs) w)=.next (lone (b.atR (a.put o.dst (oP c.mode).1) (.inRegion ops (Oo 1 os.length)::k)) ({c with mode:=(oP c.mode).2}::cs) w):=by
  refine step_lone_go ?_;rw[Xz,<-γ];simp only[Frame.atR,hr] at htr ⊢;rcases Yc c cs with h1|⟨h1,h2,h3⟩
  ·simp[stepG.apply,UY,htr,h1]
  ·rw[h2,h3];simp[stepG.apply,UY,htr,h1]
 obtain⟨e,a',w',hq,Uy⟩:=wp_opsIn _ _ _ h b k ({c with mode:=(oP c.mode).2}::cs) (hr.trans Wb.symm) hF Tn;refine⟨e,a',_,w',To,hQ0 _ _ _ hq,.of_steps (.one i0 ?_) (.of_steps (.one i1 step1) Uy)⟩;rw[<-WG];exact stepR_region
section
variable {P:Program}{Γ:ao}
def YM(P:Program)(Γ:ao)(g:FuncId)(args:List D)(h:List iN)(u:FrameMode)(Q:FrameMode->List iN->Prop):Prop :=∀(O:Nat->Prop) (w:World) (l:Loc) (vs:List Value),TL Γ O w l h->AT w (On O l h) l h args vs -> CallsDIn (FW Y) 0 P g vs.toArray u w λe u' w'=>∃v h' l',e=.returned v/\Q u' h'/\TL Γ O w' l' h'/\Ext w l h w' l' h'
def w8:Code->Option (Array Oper×Option Code)
 |.region _ ops false=>G (ops,Y)
 |.seq (.region _ ops false) c=>G (ops,G c)
 |_=>Y
def defQ(P:Program)(fn:Func)(u':FrameMode)(Q:FrameMode->List iN->Prop)(e:Exit)(s:AS):Prop :=(e=U4\/e=.ret)/\s.m=[]/\Q u' s.h/\∃ds,bz P s.t s.h fn.results.toList=G ds
theorem YM.Vo{g:FuncId}{fn:Func}{c:Code}{args:List D}{h:List iN}{u:FrameMode}{Q:FrameMode->List iN->Prop}{call:Un}(hc:call.Ok P Γ)(hf:P.funcs[g]?=G fn)(hb:fn.body=G c){ops:Array Oper}{rest:Option Code}(hs:w8 c=G (ops,rest)){o:Oper}{os:List Oper}{ats:Array TypeId}(h0:ops.toList=o::os)(ho:o.op=.call {callee:=.builtin .recover,args:=#[],argTypes:=ats})(hg:o.guard=Y){e1:Exit}{t1:List D}{h1:List iN}(hr:bb P Γ call [] ops.toList os (TO (cC fn args) o.dst (lit (oP u).1)) h=G (e1,t1,h1))(Up:∀X:Ctx,match rest with
   |none=>defQ P fn (oP u).2 Q e1 {t:=t1,h:=h1,m:=[]}
   |some d=>e1=U4/\VW P Γ X Y d (defQ P fn (oP u).2 Q) {t:=t1,h:=h1,m:=[]}):YM P Γ g args h u Q:=by
 intro O w l vs R ra
 refine callsDIn_of_wpSIn hf hb trivial λκ cs hu=>?_
 subst hu
 have Us:=gR R ra fn
 have ZT:St Γ {O:=O,w:=w,l:=l,h:=h} {t:=TO (cC fn args) o.dst (lit (oP κ.mode).1),h:=h,m:=[]} (({tmps:=vs.toArray++Array.replicate (fn.ntmps-vs.toArray.size) undef,defers:=[]}:Act).put o.dst (oP κ.mode).1) w:=by obtain⟨l1,R1,E1,rt,rd⟩:=Us;refine⟨l1,R1,E1,qX o.dst rt (by simp[Rel,TB]),?_⟩;cases o.dst<;>exact rd
 have hdrop:ops.toList.drop 1=os:=by rw[h0];rfl
 have fin:∀(e:Exit) (a':Act) (w':World),ia Γ {O:=O,w:=w,l:=l,h:=h} (defQ P fn (oP κ.mode).2 Q) e a' w' -> bodyPostS P fn κ cs (λe u' w'=>∃v h' l',e=.returned v/\Q u' h'/\TL Γ O w' l' h'/\Ext w l h w' l' h') e a' ({κ with mode:=(oP κ.mode).2}::cs) w':=by
  rintro e a' w' ⟨_,s,⟨he,hm,hq,ds,WI⟩,l',R',E',X7,Yp⟩;rw[hm] at Yp;have YE:a'.defers=[]:=Yp;obtain⟨v,hv,_⟩:=cU (P:=P) R' X7 WI;rcases he with rfl|rfl
  ·exact⟨YE,_,rfl,v,hv,v,s.h,l',rfl,hq,R',E'⟩
  ·exact⟨YE,_,rfl,v,hv,v,s.h,l',rfl,hq,R',E'⟩
 cases rest with
 |none=>
  unfold w8 at hs
  split at hs
  ·cases hs
   have hw:=kj (r:=Y) (X:={O:=O,w:=w,l:=l,h:=h}) hc (Q:=defQ P fn (oP κ.mode).2 Q) (Up {O:=O,w:=w,l:=l,h:=h}) os 1 _ _ hdrop hr _ _ ZT
   exact f9 h0 ho hg rfl hw fin
  ·simp at hs
  ·simp at hs
 |some d=>
  unfold w8 at hs
  split at hs
  ·simp at hs
  ·cases hs
   have hw:=kj (r:=Y) (X:={O:=O,w:=w,l:=l,h:=h}) hc (Q:=λe s=>e=U4/\s={t:=t1,h:=h1,m:=[]}) ⟨(Up {O:=O,w:=w,l:=l,h:=h}).1,rfl⟩ os 1 _ _ hdrop hr _ _ ZT
   refine wpSIn_seq (f9 h0 ho hg rfl hw ?_)
   rintro e a' w' ⟨_,s,⟨rfl,rfl⟩,Vq⟩
   refine wpSIn_of_wpIn rfl ?_
   exact wpIn_mono ((Up {O:=O,w:=w,l:=l,h:=h}).2 a' w' Vq) fin
  ·simp at hs
theorem YM.zaZ{g:FuncId}{fn:Func}{c:Code}{args:List D}{h:List iN}{u:FrameMode}{Q:FrameMode->List iN->Prop}(hf:P.funcs[g]?=G fn)(hb:fn.body=G c)(hv:∀X:Ctx,VW P Γ X Y c (defQ P fn u Q) {t:=cC fn args,h:=h,m:=[]}):YM P Γ g args h u Q:=by
 intro O w l vs R ra;have key:CallsDIn (FW Y) 0 P g vs.toArray u w λe u' w'=>u'=u/\∃v h' l',e=.returned v/\Q u h'/\TL Γ O w' l' h'/\Ext w l h w' l' h':=by
  refine callsDIn_of_wp hf hb trivial ?_ rfl;refine wpIn_mono (hv {O:=O,w:=w,l:=l,h:=h} _ w (gR R ra fn)) ?_;rintro e a' w' ⟨_,s,⟨he,hm,hq,ds,WI⟩,l',R',E',X7,Yp⟩;rw[hm] at Yp;have YE:a'.defers=[]:=Yp;obtain⟨v,hv,_⟩:=cU (P:=P) R' X7 WI;rcases he with rfl|rfl
  ·exact⟨YE,v,hv,v,s.h,l',rfl,hq,R',E'⟩
  ·exact⟨YE,v,hv,v,s.h,l',rfl,hq,R',E'⟩
 refine CallsDIn.mono key ?_;grind
end
section
variable {P:Program}{Γ:ao}
abbrev Dfc:=FuncId×List D
def AK(w:World)(O:Nat->Prop)(l:Loc)(h:List iN)(g:Dfc)(d:Deferred):Prop :=∃a0 cap,d={target:=.fn (.func g.1) cap,args:=a0}/\AT w (On O l h) l h g.2 (a0++cap).toList
def Vp(P:Program)(Γ:ao)(c:Code)(s:AS)(e:Exit)(s':AS)(df:Option Dfc):Prop :=∀(O:Nat->Prop) (w0:World) (l0:Loc) (h0:List iN) (a:Act) (w:World),St Γ {O:=O,w:=w0,l:=l0,h:=h0} s a w -> c.wpIn (FW Y) 0 P (λe1 a1 w1=>e1=e/\e1≠.outgrown/\match df with
   |none=>St Γ {O:=O,w:=w0,l:=l0,h:=h0} s' a1 w1
   |some g=>∃d wd ld hd,Ext w0 l0 h0 wd ld hd/\AK wd O ld hd g d/\St Γ {O:=O,w:=wd,l:=ld,h:=hd,D:=[d]} s' a1 w1) a w
theorem Vp.base{c:Code}{s s':AS}{e:Exit}(h:∀X:Ctx,VW P Γ X Y c (λe1 s1=>e1=e/\s1=s') s):Vp P Γ c s e s' Y:=by intro O w0 l0 h0 a w hs;refine wpIn_mono (h _ a w hs) ?_;rintro e1 a1 w1 ⟨h1,s1,⟨rfl,rfl⟩,h2⟩;grind
theorem Vp.seq{c d:Code}{s s1 s':AS}{e:Exit}{df:Option Dfc}(h:∀X:Ctx,VW P Γ X Y c (λe1 s2=>e1=U4/\s2=s1) s)(hd:Vp P Γ d s1 e s' df):Vp P Γ (.seq c d) s e s' df:=by intro O w0 l0 h0 a w hs;refine wpIn_seq (wpIn_mono (h _ a w hs) ?_);rintro e1 a1 w1 ⟨_,s2,⟨rfl,rfl⟩,h2⟩;exact hd O w0 l0 h0 a1 w1 h2
theorem Vp.out{c d:Code}{s s':AS}{e:Exit}(he:e≠U4)(h:∀X:Ctx,VW P Γ X Y c (λe1 s2=>e1=e/\s2=s') s):Vp P Γ (.seq c d) s e s' Y:=by
 intro O w0 l0 h0 a w hs;refine wpIn_seq (wpIn_mono (h _ a w hs) ?_);rintro e1 a1 w1 ⟨h1,s2,⟨rfl,rfl⟩,h2⟩;cases e1 with
 |normal=>grind
 |outgrown=>grind
 |_=>exact⟨rfl,h1,h2⟩
theorem Vp.defer(_ok:Vl P){call:Un}(hc:call.Ok P Γ){id:Nat}{ops:Array Oper}{d:Code}{s s':AS}{e:Exit}{os:List Oper}{o:Oper}(h0:ops.toList=os++[o]){fv:Operand}{args:Array Operand}{ats:Array TypeId}(ho:o.op=.defer {callee:=.value fv,args,argTypes:=ats}) (hg:o.guard=none) (Wm:o.dst=none) (hm:s.m=[]) {t1:List D} {h1:List iN} (hr:bb P Γ call [] ops.toList os s.t s.h=some (.normal,t1,h1)){f:FuncId} {fi ca:List D} (hcal:cK (Bv Γ t1 fv)=some (f,fi,ca))(Up:∀X:Ctx,VW P Γ X none d (λe1 s1=>e1=e/\s1=s') {t:=t1,h:=h1,m:=[]}) :Vp P Γ (.seq (.region id ops false) d) s e s' (some (f,fi++args.toList.map (Bv Γ t1)++ca)):=by
 intro O w0 l0 hh0 a w hs;have hlen:ops.size=os.length+1:=by rw[<-OZ,h0];simp
 have WG:List.range ops.size=Oo 0 os.length++[os.length]:=by rw[hlen,List.range_succ,PB]
 have ho0:ops[os.length]? = some o:=by rw[<-NU,h0];simp
 refine wpIn_seq (wpIn_region ?_);rw[WG];have hs2:St Γ {O:=O,w:=w0,l:=l0,h:=hh0} {t:=s.t,h:=s.h,m:=[]} a w:=by rw[<-hm];exact hs
 refine fG (r:=none) (X:={O:=O,w:=w0,l:=l0,h:=hh0}) hc (tail:=[os.length]) (λ_ a w hs=>?_) (λc he=>by cases he) os 0 s.t s.h [o] (by simpa using h0) hr a w hs2;obtain⟨l,R,E,rt,rd⟩:=hs;have YE:a.defers=[]:=rd;simp only[wpOpsIn,ho0];have hw:NM o (yielded ops a.tmps)=true:=by unfold NM;rw[hg]
 rw[if_pos hw];obtain⟨a0,c0,e0,r1,r2⟩:=dK (a8 R rt fv) hcal;refine⟨λ_ _=>trivial,?_⟩;have e0':(FW none).round=none:=rfl;rw[e0',Oper.semAt_none];have e1:(execOp a.eval o).run P w=.ok (.defer {target:=.fn (.func f) c0,args:=a0++args.map a.eval}) w:=by unfold execOp;rw[ho];simp only[resolve,e0,Oh,Ni,NN,M6]
 rw[e1,Oper.uponIn_defer,Wm];simp only[Act.put,Exit.then];have hD:AK w O l h1 (f,fi++args.toList.map (Bv Γ t1)++ca) {target:=.fn (.func f) c0,args:=a0++args.map a.eval}:=by refine⟨_,_,rfl,?_⟩;simp only[SJ];refine bg (bg r1 ?_) r2;have:=eK R rt args.toList;simpa using this
 refine wpIn_mono (Up {O:=O,w:=w,l:=l,h:=h1,D:=[{target:=.fn (.func f) c0,args:=a0++args.map a.eval}]} _ w ⟨l,R,Ext.refl _ _ _,rt,by simp[TN,YE]⟩) ?_;rintro e1 a1 w1 ⟨k1,s1,⟨rfl,rfl⟩,k2⟩;grind
end
section
variable {Γ:ao}{O:Nat->Prop}{w w':World}{l:Loc}{h h':List iN}
theorem pD(g:∀b:Nat,h'[b]?=h[b]? \/ h'[b]?=G PO){oR:Nat}(ho:own l h' oR):own l h oR:=by
 obtain⟨b,x,cp,h1,h2,h3⟩:=ho;rcases g b with e|e
 ·exact⟨b,x,cp,Tn,h2,h3⟩
 grind
theorem AL(g:∀b:Nat,h'[b]?=h[b]? \/ h'[b]?=G PO){oR:Nat}(ho:On O l h' oR):On O l h oR:=ho.imp id (pD g)
theorem tg(g:∀b:Nat,h'[b]?=h[b]? \/ h'[b]?=G PO){r:Ref}{y:Value}(rr:NE l h r y):NE l h' r y:=by
 obtain⟨h1,h2⟩:=rr;refine⟨h1,?_⟩;cases r with
 |ptr b off=>grind
 |bY b e0=>grind
 |vs b e0 i n c=>grind
 |av b off n sz=>grind
 |vp b e0 i j=>grind
 |mp b=>grind
 |it b=>grind
 |yl b=>grind
section
variable {av av':Nat->Prop}
mutual
theorem th(g:∀b:Nat,h'[b]?=h[b]? \/ h'[b]?=G PO)(ha:∀k,av' k->av k):∀{d:D} {y:Value},Rel w av l h d y->Rel w av' l h' d y
 |.p _,_,r=>by simp[Rel] at r ⊢;exact e9 ha r
 |.any,_,_=>by simp[Rel]
 |.ref _,_,r=>by simp[Rel] at r ⊢;exact tg g r
 |.ep _,_,r=>by simp[Rel] at r ⊢;obtain⟨oR,off,r1,r2⟩:=r;exact⟨oR,off,r1,aG ha r2⟩
 |.WK _,_,r=>by
  simp only[Rel] at r ⊢;rcases r with r|⟨oR,off,sz,r1,r2⟩
  ·exact .inl r
  ·exact .inr ⟨oR,off,sz,r1,cN ha r2⟩
 |.fn _ _ _,_,r=>by simp[Rel] at r ⊢;obtain⟨a,c,r1,r2,r3⟩:=r;exact⟨a,c,r1,fH g ha r2,fH g ha r3⟩
 |.agg _,_,r=>by simp[Rel] at r ⊢;obtain⟨vs,r1,r2⟩:=r;exact⟨vs,r1,fH g ha r2⟩
 |.Tt _,_,r=>by simp[Rel] at r ⊢;obtain⟨vs,r1,r2⟩:=r;exact⟨vs,r1,fH g ha r2⟩
 |.WW _ _,_,r=>by simp[Rel] at r ⊢;exact⟨λhg=>th g ha (r.1 hg),r.2⟩
theorem fH(g:∀b:Nat,h'[b]?=h[b]? \/ h'[b]?=G PO)(ha:∀k,av' k->av k):∀{ds:List D} {ys:List Value},AT w av l h ds ys->AT w av' l h' ds ys
 | [],[],_=>by simp[AT]
 | [],_::_,r=>by simp[AT] at r
 |_::_,[],r=>by simp[AT] at r
 |_::_,_::_,r=>by simp[AT] at r ⊢;exact⟨th g ha r.1,fH g ha r.2⟩
end
theorem w9(g:∀b:Nat,h'[b]?=h[b]? \/ h'[b]?=G PO)(ha:∀k,av' k->av k):∀{U1:List (D×D×Nat)} {es:List MapEntry},Tk w av l h U1 es->Tk w av' l h' U1 es
 | [],[],_=>by simp[Tk]
 | [],_::_,r=>by simp[Tk] at r
 |_::_,[],r=>by simp[Tk] at r
 |(k,d,m)::U1,e::es,r=>by simp[Tk] at r ⊢;exact⟨th g ha r.1,th g ha r.2.1,r.2.2.1,w9 g ha r.2.2.2⟩
theorem xa(g:∀b:Nat,h'[b]?=h[b]? \/ h'[b]?=G PO)(ha:∀k,av' k->av k){b:Nat}{x:iN}(r:Tl w av l h b x):Tl w av' l h' b x:=by
 cases x with
 |var cs=>obtain⟨oR,cp,c,T,r1,r2,r3⟩:=r;exact⟨oR,cp,c,T,r1,r2,fH g ha r3⟩
 |bY es e sz=>
  unfold Tl at r ⊢;simp only at r ⊢;split;·grind
  ·rename_i oR cap h0;rw[h0] at r;obtain⟨oo,cc,rc,c,T,fr,ys,r1,r2,r3,r4,r5,r6,r7⟩:=r;exact⟨oo,cc,rc,c,T,fr,ys,r1,r2,r3,r4,r5,fH g ha r6,r7⟩
 |map U1 clock=>obtain⟨oR,cp,es,r1,r2,r3⟩:=r;exact⟨oR,cp,es,r1,r2,w9 g ha r3⟩
 |Zq s pos=>exact r
 |Xa m since seen st=>
  obtain⟨oR,cp,mr,r1,r2,r3⟩:=r;refine⟨oR,cp,mr,r1,r2,?_⟩;cases m with
  |none=>exact r3
  |some mb=>exact tg g r3
 |loop st UC fn tmps params asg body=>obtain⟨oR,cp,ts,dr,Zx,r1,r2,r3,r4⟩:=r;exact⟨oR,cp,ts,dr,Zx,r1,r2,fH g ha r3,r4⟩
 |Ts=>exact r
 |T1=>trivial
end
theorem TL.gc(R:TL Γ O w l h)(g:∀b:Nat,h'[b]?=h[b]? \/ h'[b]?=G PO):TL Γ O w l h' where
 V3 oR ho:=R.V3 oR (pD g ho)
 We:=R.We
 inj b b' x x' k c c' h1 h2 h3 h4 h5 h6:=by
  rcases g b with e|e
  ·rcases g b' with e'|e';·exact R.inj b b' x x' k c c' Tn h2 Tn h4 h5 h6
   grind
  grind
 oR b x h1:=by
  rcases g b with e|e;·exact xa g (λ_=>AL g) (R.oR b x Tn)
  ·rw[e] at h1;cases h1;trivial
 Xk g0 cs hg:=aG (λ_=>AL g) (R.Xk g0 cs hg)
theorem Ext.gc{w0:World}{l0:Loc}{h0:List iN}(E:Ext w0 l0 h0 w l h)(g:∀b:Nat,h'[b]?=h[b]? \/ h'[b]?=G PO):Ext w0 l0 h0 w l h' where
 size:=E.size
 same:=E.same
 news oR ho:=E.news oR (pD g ho)
 keep b x hb:=by obtain⟨x',k1,k2,k3⟩:=E.keep b x hb;grind [iN.le,iN.stays]
 tape:=E.tape
end
def refN:Ref->Nat
 |.ptr b _=>b | .bY b _=>b | .vs b _ _ _ _=>b | .av b _ _ _=>b | .vp b _ _ _=>b | .mp b=>b | .it b=>b | .yl b=>b
mutual
def D.refs(n:Nat):D->List Nat->List Nat
 |.ref r,acc=>match Nat.ble n (refN r) with
  |true=>refN r::acc
  |false=>acc
 |.fn _ a b,acc=>D.Xe n a (D.Xe n b acc)
 |.agg cs,acc=>D.Xe n cs acc
 |.Tt cs,acc=>D.Xe n cs acc
 |.WW _ d,acc=>D.refs n d acc
 |_,acc=>acc
def D.Xe(n:Nat):List D->List Nat->List Nat
 | [],acc=>acc
 |d::ds,acc=>D.refs n d (D.Xe n ds acc)
end
def iN.refs(n:Nat)(acc:List Nat):iN->List Nat
 |.var cs=>D.Xe n cs acc
 |.bY es _ _=>es.foldr (λe a=>D.Xe n e a) acc
 |.map U1 _=>U1.foldr (λe a=>D.refs n e.1 (D.refs n e.2.1 a)) acc
 |.Xa (some m) _ _ _=>match Nat.ble n m with
  |true=>m::acc
  |false=>acc
 |.loop _ _ _ ts _ _ _=>D.Xe n ts acc
 |_=>acc
def Ig(x:Nat):List Nat->Bool
 | []=>N
 |y::ys=>match Nat.beq x y with
  |true=>J
  |false=>Ig x ys
def AM(n:Nat)(h:List iN):Nat->List Nat->List Nat->List Nat
 |0,_,seen=>seen
 |_+1,[],seen=>seen
 |k+1,b::bs,seen=>match Ig b seen with
  |true=>AM n h k bs seen
  |false=>AM n h k (iN.refs n bs (h.getD b TS)) (b::seen)
def pE(n:Nat)(keep:List Nat):Nat->List iN->List iN
 |_,[]=>[]
 |i,x::h=>(match Nat.blt i n||Ig i keep with
  |true=>x
  |false=>.T1)::pE n keep (i+1) h
def gcH(n:Nat)(d:D)(h:List iN):List iN:=pE n (AM n h 4000 (D.refs n d ((h.take n).foldr (λx a=>iN.refs n a x) [])) []) 0 h
theorem pF(n:Nat)(keep:List Nat):∀(h:List iN) (i b:Nat),(pE n keep i h)[b]?=h[b]? \/ (pE n keep i h)[b]?=G PO
 | [],_,_=>.inl rfl
 |x::h,i,0=>by grind [pE]
 |x::h,i,b+1=>by simp[pE];exact pF n keep h (i+1) b
theorem AN(n:Nat)(d:D)(h:List iN)(b:Nat):(gcH n d h)[b]?=h[b]? \/ (gcH n d h)[b]?=G PO:=pF _ _ h 0 b
def Ih(n:Nat)(h:List iN):List iN:=if (h.take n).all (iN.UV n) then h.take n else gcH n Tp h
def CRQ(Γ:ao)(O:Nat->Prop)(w:World)(l:Loc)(h:List iN)(r:CR)(e:Ending)(w':World):Prop:=match r with
 |.ret d h'=>∃v l',e=.returned v/\TL Γ O w' l' h'/\Ext w l h w' l' h'/\Rel w' (On O l' h') l' h' d v
 |.ψ c h'=>∃l',e=.panicked c/\TL Γ O w' l' h'/\Ext w l h w' l' h'
def VN(P:Program)(Γ:ao)(f:FuncId)(args:List D)(h:List iN)(r:CR):Prop :=∀(O:Nat->Prop) (w:World) (l:Loc) (vs:List Value),TL Γ O w l h->AT w (On O l h) l h args vs->CallsIn (FW Y) 0 P f vs.toArray w (CRQ Γ O w l h r)
section
variable {P:Program}{Γ:ao}
theorem VN.call{f:FuncId}{args:List D}{h:List iN}{d:D}{h':List iN}(hv:VN P Γ f args h (.ret d h')):V8 P Γ f args h λd2 h2=>d2=d/\h2=h':=by intro O w l vs R ra;refine OT (hv O w l vs R ra) ?_;rintro e w' ⟨v,l',g1,g2,g3,g4⟩;grind
theorem VN.ψ{f:FuncId}{args:List D}{h:List iN}{c:List PanicEntry}{h':List iN}(hv:VN P Γ f args h (.ψ c h')):XW P Γ f args h λc2 h2=>c2=c/\h2=h':=by intro O w l vs R ra;refine OT (hv O w l vs R ra) ?_;rintro e w' ⟨l',g1,g2,g3⟩;grind
theorem VN.ok(ok:Vl P){x:D}{args:List D}{h:List iN}{f:FuncId}{fi ca:List D}{r:CR}(hc:cK x=G (f,fi,ca))(hf:eP P f=J)(hv:VN P Γ f (fi++args++ca) h r):CROk P Γ x args h r:=by
 cases r with
 |ret d h'=>exact WL.Wt ok hc hf hv.call
 |ψ c h'=>exact Xn.Wt ok hc hf hv.ψ
def Ii:Exit->Option FrameMode
 |U4 | .ret=>G .returning
 |.panic c=>G (.panicking c)
 |_=>Y
def finV(n:Nat)(d:D)(h:List iN):CR:=match D.UV n d&&(h.take n).all (iN.UV n) with
 |true=>.ret d (h.take n)
 |false=>.ret d (gcH n d h)
def MA(P:Program)(fn:Func)(n:Nat)(t:List D)(h:List iN):FrameMode->Option CR
 |.returning=>match bz P t h fn.results.toList with
  |some ds=>G (finV n (dT ds) h)
  |none=>Y
 |.panicking c=>G (.ψ c (Ih n h))
 |.run=>Y
abbrev DfF:=FuncId->List D->List iN->FrameMode->Option (FrameMode×List iN)
def DfF.Ok(P:Program)(Γ:ao)(dfn:DfF):Prop:=∀g as h u u' h',dfn g as h u=G (u',h')->eP P g=J/\YM P Γ g as h u λu2 h2=>u2=u'/\h2=h'
def pG(P:Program)(fn:Func)(dfn:DfF)(n:Nat)(e:Exit)(s:AS)(df:Option Dfc):Option CR :=
 match aB s.h s.m&&decide s.m.Nodup with
 |true=>match Ii e with
  |some u=>match df with
   |none=>MA P fn n s.t (qY s.m s.h) u
   |some g=>match dfn g.1 g.2 (qY s.m s.h) u with
    |some (u',h2)=>MA P fn n s.t h2 (settle u')
    |none=>Y
  |none=>Y
 |false=>Y
theorem na{fn:Func}{O:Nat->Prop}{w w2:World}{l l2:Loc}{h h2:List iN}{t:List D}{ts:Array Value}{u:FrameMode}{r:CR}(hf:MA P fn h.length t h2 u=G r)(R2:TL Γ O w2 l2 h2)(E2:Ext w l h w2 l2 h2)(rt:AT w2 (On O l2 h2) l2 h2 t ts.toList):LeavesInM (FW Y) 0 P fn ts (CRQ Γ O w l h r) [] u w2:=by
 cases u with
 |run=>simp[MA] at hf
 |returning=>
  simp[MA] at hf;split at hf
  ·rename_i ds WI;obtain⟨v,h1,h3⟩:=cU (P:=P) R2 rt WI;refine⟨v,h1,?_⟩;simp at hf;subst hf;unfold finV;split;·rename_i hb;simp only[Bool.and_eq_true] at hb;exact⟨v,l2,rfl,R2.take hb.2,E2.take,gQ (λ_=>fy) hb.1 h3⟩
   ·have g:=AN h.length (dT ds) h2;exact⟨v,l2,rfl,R2.gc g,E2.gc g,th g (λ_=>AL g) h3⟩
  ·simp at hf
 |panicking c=>
  simp[MA] at hf;subst hf;show CRQ Γ O w l h (.ψ c (Ih h.length h2)) (.panicked c) w2;unfold Ih;split;·rename_i hb;exact⟨l2,rfl,R2.take hb,E2.take⟩
  ·have g:=AN h.length Tp h2;exact⟨l2,rfl,R2.gc g,E2.gc g⟩
theorem VN.ZL(ok:Vl P){f:FuncId}{fn:Func}{c:Code}{args:List D}{h:List iN}{dfn:DfF}{e:Exit}{s':AS}{df:Option Dfc}{r:CR}(hf:P.funcs[f]? = some fn)(hb:fn.body=some c)(hdf:dfn.Ok P Γ)(ht:Vp P Γ c {t:=cC fn args,h:=h,m:=[]} e s' df) (he:pG P fn dfn h.length e s' df=some r):VN P Γ f args h r:=by
 intro O w l vs R ra;refine callsIn_of_wp_marks hf hb trivial ?_ rfl;refine wpIn_mono (ht O w l h _ w (gR R ra fn)) ?_;rintro e1 a1 w1 ⟨rfl,UQ,Us⟩;unfold pG at he;split at he;case h_2=>simp at he
 rename_i Xq;simp at Xq;split at he;case h_2=>simp at he
 rename_i u hu;have UY:u≠.run:=by unfold Ii at hu;split at hu<;>first|grind|simp at hu
 have key:LeavesInM (FW none) 0 P fn a1.tmps (CRQ Γ O w l h r) a1.defers u w1:=by
  cases df with
  | none =>obtain⟨l',R',E',X7,Yp⟩:=Us;exact cO UY s'.m a1.defers w1 l' s'.h R' E' X7 Yp Xq.2 λw2 l2 R2 E2 rt2=>na he R2 E2 rt2
  | some g =>
   obtain⟨d,wd,ld,hd,E0,⟨a0,cap,rfl,Xp⟩,l',R',E',X7,Yp⟩:=Us;simp only at he;split at he;case h_2=>simp at he
   rename_i u' h2 hrun2;obtain⟨k1,k2⟩:=hdf _ _ _ _ _ _ hrun2;unfold eP at k1;split at k1;case h_2=>simp at k1
   rename_i fng hfg;refine cO UY s'.m a1.defers w1 l' s'.h R' E' X7 Yp Xq.2 λw2 l2 R2 E2 rt2=>?_;refine⟨UY,.inr ⟨λh=>by simp[RQ] at h,.func g.1,cap,g.1,a0++cap,rfl,?_,λ_ _=>trivial,?_⟩⟩;·simp[invoke];exact VM ok hfg k1 _ _
   ·have hc:=k2 O w2 l2 (a0++cap).toList R2 (E2.Ur Xp);rw[Array.toArray_toList] at hc;refine CallsDIn.mono hc ?_;rintro e2 u2 w3 ⟨v,h3,l3,rfl,⟨rfl,rfl⟩,R3,E3⟩;exact na he R3 ((E0.trans E2).trans E3) (E3.Ur rt2)
 unfold Ii at hu;split at hu;·cases hu;exact key
 ·cases hu;exact key
 ·cases hu;exact key
 ·simp at hu
end
abbrev Zp:=FuncId->List D->List iN->Option CR
abbrev YlF:=Nat->List D->List iN->Option (D×List iN)
def nb(fnc:Zp)(yl:YlF):Un:=λx args h=>
 match cK x with
 |some (f,fi,ca)=>fnc f (fi++args++ca) h
 |none=>match x with
  |.ref (.yl b)=>match yl b args h with
   |some (d,h')=>G (.ret d h')
   |none=>Y
  |_=>Y
def dL(ts:List D):List (Tmp×D)->List D
 | []=>ts
 |p::ps=>dL (ts.set p.1 p.2) ps
def l9(b:Nat)(e:Exit)(s:AS):Option (D×List iN) :=
 match s.h[b]? with
 | some (.loop _ _ f ts ps a c)=>match e with
  | .normal=>some (lit (.bool true),s.h.set b (.loop .ready none f ts ps a c))
  | .ret=>some (lit (.bool false),s.h.set b (.loop .done (some .ret) f ts ps a c))
  | .exit i=>some (lit (.bool false),s.h.set b (.loop .done (some (.exit i)) f ts ps a c))
  | _=>none
 | _=>none
def re(b:Nat)(t:List D)(m:List Nat)(h:List iN):Option (Exit×AS) :=
 match h[b+1]? with
 |some (.loop st UC f ts ps a c)=>match st with
  |.busy=>Y
  |_=>match aB (h.set (b+1) (Wh Τ UC f ts ps a c)) (b::m) with
   |true=>match UC with
    |none=>G (U4,{t:=t,h:=h.set (b+1) (Wh Τ UC f ts ps a c),m:=b::m})
    |some .ret=>G (.ret,{t:=t,h:=h.set (b+1) (Wh Τ UC f ts ps a c),m:=b::m})
    |some (.exit i)=>G (Y9 i,{t:=t,h:=h.set (b+1) (Wh Τ UC f ts ps a c),m:=b::m})
    |some _=>Y
   |false=>Y
 |_=>Y
def fa{α:Type}:List α->Option (List α×α)
 | []=>Y
 |x::xs=>match fa xs with
  |some (ys,y)=>G (x::ys,y)
  |none=>G ([],x)
def G7:Code->Option (List Oper×List Oper×Operand×List Operand)
 |.region _ ops false=>match fa ops.toList with
  |G (os,{op:=.defer {callee:=.value fv,args,.. },guard:=Y,dst:=Y,.. })=>G (ops.toList,os,fv,args.toList)
  |_=>Y
 |_=>Y
def xd(P:Program)(Γ:ao)(run:Bool->Code->AS->Option (Exit×AS))(call:Un):Code->AS->Option (Exit×AS×Option Dfc)
 |.seq a b,s=>match G7 a with
  |some (ops,os,fv,args)=>match s.m with
   | []=>match bb P Γ call [] ops os s.t s.h with
    |some (.normal,t1,h1)=>match cK (Bv Γ t1 fv) with
     |some (f,fi,ca)=>match run N b {t:=t1,h:=h1,m:=[]} with
      |some (e,s')=>G (e,s',G (f,fi++args.map (Bv Γ t1)++ca))
      |none=>Y
     |none=>Y
    |_=>Y
   |_::_=>Y
  |none=>match run N a s with
   |some (.normal,s1)=>xd P Γ run call b s1
   |some (e,s1)=>G (e,s1,Y)
   |none=>Y
 |c,s=>match run N c s with
  |some (e,s')=>G (e,s',Y)
  |none=>Y
def recOf:List Oper->Option (Option Tmp×List Oper)
 | {op:=.call {callee:=.builtin .recover,args:=⟨[]⟩,.. },guard:=Y,dst,.. }::os=>G (dst,os)
 |_=>Y
def vB(run:Bool->Code->AS->Option (Exit×AS))(rest:Option Code)(e:Exit)(s:AS):Option (Exit×AS):=match rest with
 |none=>G (e,s)
 |some d=>match e with
  |.normal=>run N d s
  |_=>Y
mutual
def cv(P:Program)(Γ:ao)(W:Zp):Nat->Bool->Code->AS->Option (Exit×AS)
 | 0,_,_,_=>none
 | n+1,rd,c,s=>match c with
  | .skip=>some (.normal,s)
  | .label _=>some (.normal,s)
  | .ret=>some (.ret,s)
  | .exit i=>some (.exit i,s)
  | .goto i=>some (.goto i,s)
  | .seq a b=>match cv P Γ W n rd a s with
   | some (.normal,s')=>cv P Γ W n rd b s'
   | r=>r
  | .cond x a b=>match Bv Γ s.t x with
   | .p (.v (.bool true))=>cv P Γ W n rd a s
   | .p (.v (.bool false))=>cv P Γ W n rd b s
   | _=>none
  | .block i b=>match cv P Γ W n rd b s with
   | some (.exit j,s')=>if j=i then some (.normal,s') else some (.exit j,s')
   | r=>r
  | .scope b=>match cv P Γ W n rd b s with
   | some (.goto _,_)=>none
   | r=>r
  | .loop b=>match cv P Γ W n rd b s with
   | some (.normal,s')=>cv P Γ W n rd (.loop b) s'
   | r=>r
  | .region _ ops draw=>match draw with
   | false=>match bb P Γ (nb (nc P Γ W n) (vC P Γ W n)) s.m ops.toList ops.toList s.t s.h with
    | some (e,t,h)=>some (e,{t:=t,h:=h,m:=s.m})
    | none=>none
   | true=>match m9 P Γ (nb (nc P Γ W n) (vC P Γ W n)).toF s.m ops.toList true s.t s.h with
    | some (t,h)=>some (.normal,{t:=t,h:=h,m:=s.m})
    | none=>none
  | .rangeFunc g ps asg body=>match rd with
   | true=>none
   | false=>match cK (Bv Γ s.t g) with
    | some (f,fi,ca)=>match nc P Γ W n f (fi++[.ref (.yl (s.h.length+1))]++ca) (s.h++[.Ts]++[.loop .ready none 0 s.t ps asg body]) with
     | some (.ret _ h2)=>re s.h.length s.t s.m h2
     | _=>none
    | none=>none
  | _=>none
def nc(P:Program)(Γ:ao)(W:Zp):Nat->FuncId->List D->List iN->Option CR
 |0,_,_,_=>Y
 |n+1,f,args,h=>match W f args h with
 |some r=>G r
 |none=>match P.funcs[f]? with
  |none=>Y
  |some fn=>match fn.body with
   |none=>Y
   |some c=>match xd P Γ (cv P Γ W n) (nb (nc P Γ W n) (vC P Γ W n)) c {t:=cC fn args,h:=h,m:=[]} with
    |some (e,s,df)=>pG P fn (fb P Γ W n) h.length e s df
    |none=>Y
def fb(P:Program)(Γ:ao)(W:Zp):Nat->FuncId->List D->List iN->FrameMode->Option (FrameMode×List iN)
 |0,_,_,_,_=>Y
 |n+1,f,args,h,u=>match P.funcs[f]? with
  |none=>Y
  |some fn=>match fn.body with
   |none=>Y
   |some c=>match w8 c with
    |none=>Y
    |some (ops,rest)=>match recOf ops.toList with
     |none=>match cv P Γ W n N c {t:=cC fn args,h:=h,m:=[]} with
      |G (U4,{t:=t2,h:=h2,m:=[]})=>match bz P t2 h2 fn.results.toList with
       |some _=>G (u,h2)
       |none=>Y
      |G (.ret,{t:=t2,h:=h2,m:=[]})=>match bz P t2 h2 fn.results.toList with
       |some _=>G (u,h2)
       |none=>Y
      |_=>Y
     |some (dst,os)=>match bb P Γ (nb (nc P Γ W n) (vC P Γ W n)) [] ops.toList os (TO (cC fn args) dst (lit (oP u).1)) h with
      |none=>Y
      |some (e,t1,h1)=>match vB (cv P Γ W n) rest e {t:=t1,h:=h1,m:=[]} with
       |G (U4,{t:=t2,h:=h2,m:=[]})=>match bz P t2 h2 fn.results.toList with
        |some _=>G ((oP u).2,h2)
        |none=>Y
       |G (.ret,{t:=t2,h:=h2,m:=[]})=>match bz P t2 h2 fn.results.toList with
        |some _=>G ((oP u).2,h2)
        |none=>Y
       |_=>Y
def vC(P:Program)(Γ:ao)(W:Zp):Nat->Nat->List D->List iN->Option (D×List iN)
 |0,_,_,_=>Y
 |n+1,b,args,h=>match h[b]? with
  |some (.loop .ready _ _ ts ps asg body)=>match Zd (args.length=ps.size) with
   |true=>match cv P Γ W n J asg {t:=dL ts (ps.toList.zip args),h:=h,m:=[]} with
    |G (U4,{t:=t1,h:=h1,m:=[]})=>match h1[b]? with
     |some (.loop .ready p1 f1 ts1 ps1 a1 b1)=>match cv P Γ W n J body {t:=t1,h:=h1.set b (Wh zq0y p1 f1 ts1 ps1 a1 b1),m:=[]} with
      |some (e,s2)=>l9 b e s2
      |none=>Y
     |_=>Y
    |_=>Y
   |false=>Y
  |_=>Y
end
def Zr:Zp:=λ_ _ _=>Y
section
variable {P:Program}{Γ:ao}{O:Nat->Prop}{w:World}{l:Loc}{h:List iN}
theorem rf(R:TL Γ O w l h){b oR cp:Nat}{st:LoopState}{p:Option Code}{f:FuncId}{ts:List D}{ps:Array Tmp}{a c:Code}(hb:h[b]? = some (.loop st p f ts ps a c))(hl:l b=some (oR,cp)):∃rec:Loop,w.heap[oR]? = some (.loop rec)/\rec.state=st/\rec.pending=p/\rec.params=ps/\rec.assign=a/\rec.body=c/\AT w (On O l h) l h ts rec.tmps.toList/\(f=0\/rec.fn=f) /\ ∀st' p',TL Γ O {w with heap:=w.heap.setIfInBounds oR (.loop {rec with state:=st',pending:=p' })} l (h.set b (.loop st' p' f ts ps a c)) /\ Ext w l h {w with heap:=w.heap.setIfInBounds oR (.loop {rec with state:=st',pending:=p' })} l (h.set b (.loop st' p' f ts ps a c)):=by
 obtain⟨V4,X2,tv,dr,Zx,h1,h2,h3,h4⟩:=R.oR b _ hb;obtain⟨rfl,rfl⟩:oR=V4/\cp=X2:=by grind
 refine⟨_,h2,rfl,rfl,rfl,rfl,rfl,h3,h4,λst' p'=>?_⟩;exact R.setAt hb (by simp) hl (x':=.loop st' p' f ts ps a c) trivial (λE hg=>⟨oR,cp,tv,dr,Zx,hl,hg,E.Ur h3,h4⟩)
theorem fI{r:Nat}{x:Loop}(hr:w.heap[r]? = some (.loop x)):(Instr.getLoop r).run P w=.ok x w:=by simp[Instr.getLoop,bS (P:=P) hr (by simp)]
theorem kl{w':World}{l':Loc}{h':List iN}(E:Ext w l h w' l' h'){b:Nat}{st st':LoopState}{p p':Option Code}{f f':FuncId}{ts XG:List D}{ps ps':Array Tmp}{a c a' c':Code}(hb:h[b]?=G (Wh st p f ts ps a c))(YG:h'[b]?=G (Wh st' p' f' XG ps' a' c')):l' b=l b:=by obtain⟨x',h1,h2,h3⟩:=E.keep b _ hb;rw[YG] at h1;cases h1;exact h3 trivial
theorem nf{av:Nat->Prop}:∀(ps:List Tmp) (args:List D) (vs:List Value) (ts:List D) (tv:Array Value),AT w av l h args vs->AT w av l h ts tv.toList -> AT w av l h (dL ts (ps.zip args)) ((ps.zip vs).foldl (λ(t:Array Value) (p:Tmp×Value)=>t.setIfInBounds p.1 p.2) tv).toList
 | [],_,_,ts,tv,_,rt=>by simpa[dL] using rt
 |_::_,[],[],ts,tv,_,rt=>by simpa[dL] using rt
 |_::_,[],_::_,_,_,ra,_=>by simp[AT] at ra
 |_::_,_::_,[],_,_,ra,_=>by simp[AT] at ra
 |p::ps,d::args,v::vs,ts,tv,ra,rt=>by simp[AT] at ra;simp[dL];exact nf ps args vs _ _ ra.2 (by rw[Array.toList_setIfInBounds];exact qW ra.1 _ _ _ rt)
theorem ng{b:Nat}{args:List D}{UC:Option Code}{f:FuncId}{ts:List D}{ps:Array Tmp}{asg body:Code}{t1:List D}{h1:List iN}{p1:Option Code}{f1:FuncId}{ts1:List D}{ps1:Array Tmp}{a1 b1:Code} {e2:Exit} {s2:AS} {d:D} {h':List iN} (hb:h[b]? = some (.loop .ready UC f ts ps asg body)) (hlen:args.length=ps.size)(hasg:∀X r,X.h=h->VW P Γ X r asg (λe s=>e=.normal/\s={t:=t1,h:=h1,m:=[]}) {t:=dL ts (ps.toList.zip args),h:=h,m:=[]})
  (hb1:h1[b]? = some (.loop .ready p1 f1 ts1 ps1 a1 b1))
  (Zl:∀X r,X.h=h->VW P Γ X r body (λe s=>e=e2/\s=s2) {t:=t1,h:=h1.set b (.loop .busy p1 f1 ts1 ps1 a1 b1),m:=[]})
  (YD:l9 b e2 s2=some (d,h')):WL P Γ (.ref (.yl b)) args h λd2 h2=>d2=d/\h2=h':=by
 intro O w l y vs R rx ra r o a next Q' hn
 simp only[Rel,NE,hb] at rx
 obtain⟨_,oR,cp,hl,rfl⟩:=rx
 obtain⟨rec,g1,g2,g3,g4,g5,g6,g7,gf,_⟩:=rf R hb hl
 have hlv:=fB _ _ ra
 have e1:(do let d <-Oh (.func (.yield oR) #[] #[]) vs.toArray;invoke d.target d.args:Sem Next).run P w =.ok (.round oR rec.fn ((rec.params.zip vs.toArray).foldl (λtmps (p:Tmp×Value)=>tmps.setIfInBounds p.1 p.2) rec.tmps) rec.assign rec.body) w:=by
  have XO:vs.length=rec.params.size:=by rw[g4,<-hlen,hlv]
  simp only[Oh,Ni,NN,M6,invoke,Instr.yield,fI (P:=P) g1,Array.empty_append];simp[XO]
 rw[e1]
 refine⟨λh=>by simp[RQ] at h,?_⟩
 rw[g5,g6,g4]
 refine roundIn_of_wpIn (F:=FW r) trivial ?_
 have st0:St Γ {O:=O,w:=w,l:=l,h:=h} {t:=dL ts (ps.toList.zip args),h:=h,m:=[]}
   {tmps:=(ps.zip vs.toArray).foldl (λtmps (p:Tmp×Value)=>tmps.setIfInBounds p.1 p.2) rec.tmps,defers:=[]} w:=by
  refine⟨l,R,Ext.refl _ _ _,?_,by simp[TN]⟩
  have:=nf (w:=w) (l:=l) (h:=h) (av:=On O l h) ps.toList args vs ts rec.tmps ra g7
  rw[<-Array.foldl_toList]
  simpa using this
 refine wpIn_mono (hasg _ (some oR) rfl _ _ st0) ?_
 rintro e V2 UM ⟨_,s1,⟨rfl,rfl⟩,l1,R1,E1,rt1,rd1⟩
 have W1:l1 b=some (oR,cp):=by rw[kl E1 hb hb1];exact hl
 obtain⟨rec1,k1,k2,k3,k4,k5,k6,k7,_,k8⟩:=rf R1 hb1 W1
 obtain⟨R2,E2⟩:=k8 .busy p1
 refine⟨{UM with heap:=UM.heap.setIfInBounds oR (.loop {rec1 with state:=.busy,pending:=p1})},?_,?_⟩
 ·have:({rec1 with state:=.busy}:Loop)={rec1 with state:=.busy,pending:=p1}:=by rw[<-k3]
  simp[Instr.beginRound,fI (P:=P) k1,this,cj (P:=P) k1 (by simp),k2]
 ·have st1:St Γ {O:=O,w:=w,l:=l,h:=h} {t:=t1,h:=h1.set b (.loop .busy p1 f1 ts1 ps1 a1 b1),m:=[]} V2 {UM with heap:=UM.heap.setIfInBounds oR (.loop {rec1 with state:=.busy,pending:=p1})}:=by
   refine⟨l1,R2,E1.trans E2,E2.Ur rt1,?_⟩
   exact rd1
  refine wpIn_mono (Zl _ (some oR) rfl _ _ st1) ?_
  rintro e a₂ Yu ⟨_,s3,⟨rfl,rfl⟩,l2,R3,E3,rt3,rd3⟩
  unfold l9 at YD
  split at YD
  case h_2=>simp at YD
  rename_i st3 p3 f3 ts3 ps3 a3 b3 hb3
  have YW:l2 b=some (oR,cp):=by rw[kl E3 hb hb3];exact hl
  obtain⟨ZH,m1,m2,m3,m4,m5,m6,m7,_,m8⟩:=rf R3 hb3 YW
  have θ:∀jump:Option Code,(Instr.endRound oR jump).run P Yu=.ok (.bool jump.isNone) {Yu with heap:=Yu.heap.setIfInBounds oR (.loop {ZH with state:=if jump.isNone then .ready else .done,pending:=jump})}:=by intro jump;simp only[Instr.endRound,Ni,fI (P:=P) m1,M6,cj (P:=P) m1 (by simp),NN]
  cases e with
  | normal =>
   cases YD
   obtain⟨R4,E4⟩:=m8 .ready none
   exact⟨_,_,θ none,hn _ _ _ l2 _ ⟨rfl,rfl⟩ R4 (E3.trans E4) (by simp[Rel,TB])⟩
  | exit i =>
   cases YD
   obtain⟨R4,E4⟩:=m8 .done (some (.exit i))
   exact⟨_,_,θ (some (.exit i)),hn _ _ _ l2 _ ⟨rfl,rfl⟩ R4 (E3.trans E4) (by simp[Rel,TB])⟩
  | ret =>
   cases YD
   obtain⟨R4,E4⟩:=m8 .done (some .ret)
   exact⟨_,_,θ (some .ret),hn _ _ _ l2 _ ⟨rfl,rfl⟩ R4 (E3.trans E4) (by simp[Rel,TB])⟩
  | _=>simp at YD
end
section
variable {P:Program}{Γ:ao}{X:Ctx}{s:AS}
theorem VW.rangeFunc(ok:Vl P){g:Operand}{ps:Array Tmp}{asg body:Code}{f:FuncId}{fi ca:List D}{h2:List iN}{e:Exit}{s':AS}(hg:cK (Bv Γ s.t g)=some (f,fi,ca))(hf:eP P f=true)(hc:V8 P Γ f (fi++[.ref (.yl (s.h.length+1))]++ca) (s.h++[.Ts]++[.loop .ready none 0 s.t ps asg body]) λ_ h'=>h'=h2)(he:re s.h.length s.t s.m h2=some (e,s')):VW P Γ X none (.rangeFunc g ps asg body) (λe' Yn=>e'=e/\Yn=s') s:=by
 intro a w hs;have Xq:=hs.marks;obtain⟨l,R,E,rt,rd⟩:=hs;refine wpIn_rangeFunc λfn _=>?_;obtain⟨R1,E1⟩:=e7 R (.deferred (some [])) .Ts 0 (λE=>⟨w.heap.size,0,by simp,heap_alloc_new w _⟩);generalize Ε:w.alloc (.deferred (some []))=w1 at R1 E1;generalize W1:l.Vh s.h.length (some (w.heap.size,0))=l1 at R1 E1;have rt1:=E1.Ur rt;have hlen:(s.h++[RX]).length=s.h.length+1:=by simp
 obtain⟨R2,E2⟩:=e7 R1 (.loop {state:=.ready,pending:=none,fn,tmps:=a.tmps,params:=ps,assign:=asg,body,defers:=w.heap.size}) (.loop .ready none 0 s.t ps asg body) 0
  (λE=>⟨w1.heap.size,0,a.tmps,w.heap.size,fn,by simp,heap_alloc_new w1 _,E.Ur rt1,.inl rfl⟩)
 generalize hw2:w1.alloc (.loop {state:=.ready,pending:=none,fn,tmps:=a.tmps,params:=ps,assign:=asg,body,defers:=w.heap.size})=w2 at R2 E2;generalize YW:l1.Vh (s.h++[RX]).length (some (w1.heap.size,0))=l2 at R2 E2;rw[hlen] at YW;obtain⟨a0,c0,e0,r1,r2⟩:=dK (a8 R2 ((E1.trans E2).Ur rt) g) hg;unfold eP at hf;split at hf;case h_2=>simp at hf
 rename_i Zx hfn';refine⟨w1.heap.size,[{target:=.collected w.heap.size,args:=#[]}],w2,{target:=.fn (.func f) c0,args:=a0++#[.func (.yield w1.heap.size) #[] #[]]},w2,f,a0++#[.func (.yield w1.heap.size) #[] #[]]++c0,w2,?_,?_,λ_ _=>trivial,?_,λh=>by simp[RQ] at h,?_⟩;·simp[Instr.enterLoop,Ε,hw2]
 ·simp only[resolve,e0,Oh,NN];simp;rfl
 ·exact VM ok hfn' hf _ _
 ·have hl2n:l2 (s.h.length+1)=some (w1.heap.size,0):=by rw[<-YW];simp
  have hl2d:l2 s.h.length=some (w.heap.size,0):=by rw[<-YW,Loc.X4 _ _ _ (by omega),<-W1];simp
  have hHn:(s.h++[RX]++[iN.loop .ready none 0 s.t ps asg body])[s.h.length+1]? = some (.loop .ready none 0 s.t ps asg body):=by rw[NJ (by simp)];simp
  have hHd:(s.h++[RX]++[iN.loop .ready none 0 s.t ps asg body])[s.h.length]? = some .Ts:=by rw[List.getElem?_append_left (by simp),NJ (by simp)];simp
  have W6:TN X.D l2 (s.h++[RX]++[iN.loop .ready none 0 s.t ps asg body]) (s.h.length::s.m) ({target:=.collected w.heap.size,args:=#[]}::a.defers):=by simp only[TN];refine⟨⟨w.heap.size,0,hHd,hl2d,rfl⟩,?_⟩;exact Rw (E1.trans E2).keep (by rw[List.append_assoc];exact ij Xq) rd
  have V6:=hc X.O w2 l2 (a0++#[Value.func (Fn.yield w1.heap.size) #[] #[]]++c0).toList R2 (by simp only[SJ];refine bg (bg r1 ?_) r2;simp only[AT,Rel,NE,hHn];exact⟨⟨rfl,w1.heap.size,0,hl2n,rfl⟩,trivial⟩);refine OT (V6:CallsIn (FW none) 0 P f _ w2 _) ?_;rintro e1 w3 ⟨v,d,h',l3,rfl,rfl,R3,E3,_⟩;unfold re at he;split at he;case h_2=>simp at he
  rename_i st UC f3 ts3 ps3 a3 c3 hb3;have hl3:l3 (s.h.length+1)=some (w1.heap.size,0):=by rw[kl E3 hHn hb3];exact hl2n
  obtain⟨ZH,m1,m2,m3,m4,m5,m6,m7,_,m8⟩:=rf R3 hb3 hl3;obtain⟨R4,E4⟩:=m8 .exhausted UC;split at he;·simp at he
  rename_i hbusy;split at he;case h_2=>simp at he
  rename_i hmk3
  have Us:St Γ X {t:=s.t,h:=h'.set (s.h.length+1) (.loop .exhausted UC f3 ts3 ps3 a3 c3),m:=s.h.length::s.m} {a with defers:=[{target:=.collected w.heap.size,args:=#[]}]++a.defers}
    {w3 with heap:=w3.heap.setIfInBounds w1.heap.size (.loop {ZH with state:=.exhausted,pending:=UC})} :=
   ⟨l3,R4,(E.trans (E1.trans E2)).trans (E3.trans E4),((E1.trans E2).trans (E3.trans E4)).Ur rt,Rw (E3.trans E4).keep hmk3 W6⟩
  have UY:(Instr.endLoop w1.heap.size).run P w3=.ok UC {w3 with heap:=w3.heap.setIfInBounds w1.heap.size (.loop {ZH with state:=.exhausted,pending:=UC})}:=by
   have e1:({ZH with state:=.exhausted}:Loop)={ZH with state:=.exhausted,pending:=UC}:=by rw[<-m3]
   have e2:(ZH.state==LoopState.busy)=false:=by rw[m2];cases st<;>first|rfl|grind
   simp only[Instr.endLoop,Ni,fI (P:=P) m1,M6,e2,Bool.false_eq_true,if_false,NN,cj (P:=P) m1 (by simp),m3]
  refine⟨UC,_,UY,?_⟩;cases UC with
  | none =>cases he;exact⟨by simp,_,⟨rfl,rfl⟩,Us⟩
  | some c =>
   cases c<;>simp only[MS,MV,reduceCtorEq] at he;·obtain⟨rfl,rfl⟩:=he;exact wpIn_exit ⟨by simp,_,⟨rfl,rfl⟩,Us⟩
   ·obtain⟨rfl,rfl⟩:=he;exact wpIn_ret ⟨by simp,_,⟨rfl,rfl⟩,Us⟩
end
section
variable {P:Program}{Γ:ao}
def DL(P:Program)(Γ:ao)(fnc:Zp):Prop:=∀f args h r,fnc f args h=G r->eP P f=J/\VN P Γ f args h r
def YlOk(P:Program)(Γ:ao)(yl:YlF):Prop:=∀b args h d h',yl b args h=G (d,h')->WL P Γ (Tx (ZB b)) args h λd2 h2=>d2=d/\h2=h'
theorem ti(ok:Vl P){fnc:Zp}{yl:YlF}(hf:DL P Γ fnc)(hy:YlOk P Γ yl):(nb fnc yl).Ok P Γ:=by
 intro x args h r hc;unfold nb at hc;split at hc;·rename_i f fi ca hx;obtain⟨h1,h2⟩:=hf _ _ _ _ hc;exact VN.ok ok hx h1 h2
 ·split at hc
  ·split at hc;·rename_i h1;cases hc;exact hy _ _ _ _ _ h1
   ·simp at hc
  ·simp at hc
abbrev Det(e:Exit)(s':AS):Exit->AS->Prop:=λe' Yn=>e'=e/\Yn=s'
def G8(P:Program)(Γ:ao)(run:Bool->Code->AS->Option (Exit×AS)):Prop :=∀rd c s e s',run rd c s=G (e,s')->∀X r,(rd=N->r=Y)->VW P Γ X r c (Det e s') s
def G9(P:Program)(Γ:ao)(run:Bool->Code->AS->Option (Exit×AS)):Prop :=∀rd c s e s',run rd (.loop c) s=some (e,s')->∀X r,(rd=false->r=none)->XZ P Γ X r c (Det e s') s
theorem lp{α:Type}:∀{l:List α} {os:List α} {o:α},fa l=G (os,o)->l=os++[o]
 | [],_,_,h=>by simp[fa] at h
 |x::xs,os,o,h=>by
  simp[fa] at h;split at h;·rename_i ys y h1;simp at h;obtain⟨rfl,rfl⟩:=h;rw[lp h1];rfl
  ·rename_i h1;cases h;cases xs with
   |nil=>rfl
   |cons y ys=>grind [fa]
theorem AO(ok:Vl P){run:Bool->Code->AS->Option (Exit×AS)}{call:Un}(hC:G8 P Γ run)(hc:call.Ok P Γ):∀(c:Code) (s:AS) (e:Exit) (s':AS) (df:Option Dfc),xd P Γ run call c s=G (e,s',df)->Vp P Γ c s e s' df:=by
 have base:∀(c:Code) (s:AS) (e:Exit) (s':AS) (df:Option Dfc),(match run N c s with
  |some (e,s')=>G (e,s',(Y:Option Dfc))
  |none=>Y)=G (e,s',df)->Vp P Γ c s e s' df:=by
  intro c s e s' df h
  split at h
  ·rename_i h1
   simp at h;obtain⟨rfl,rfl,rfl⟩:=h
   exact Vp.base λX=>hC N c _ _ _ h1 X Y (λ_=>rfl)
  ·simp at h
 intro c;induction c with
 |seq a b _ ihb=>
  intro s e s' df h;simp only[xd] at h;split at h
  ·rename_i ops os fv args hp;split at h
   ·rename_i hm;split at h
    ·rename_i t1 h1 hr;split at h
     ·rename_i f fi ca hcal;split at h
      ·rename_i e1 s1 UY;simp only[MS,MV] at h;obtain⟨rfl,rfl,rfl⟩:=h;unfold G7 at hp;split at hp
       ·rename_i id ops0;split at hp;·rename_i hsl;simp at hp;obtain⟨rfl,rfl,rfl,rfl⟩:=hp;exact Vp.defer ok hc (lp hsl) rfl rfl rfl hm hr hcal λX=>hC N b _ _ _ UY X Y (λ_=>rfl)
        ·simp at hp
       ·simp at hp
      ·simp at h
     ·simp at h
    ·simp at h
   ·simp at h
  ·split at h;·rename_i s1 h1;exact Vp.seq (λX=>hC N a _ _ _ h1 X Y (λ_=>rfl)) (ihb _ _ _ _ h)
   ·rename_i e1 s1 Ve h1;simp at h;obtain⟨rfl,rfl,rfl⟩:=h;refine Vp.out (λhe=>?_) (λX=>hC N a _ _ _ h1 X Y (λ_=>rfl));grind
   ·simp at h
 |_=>exact λs e s' df h=>base _ s e s' df h
theorem tj(ok:Vl P){W:Zp}(hW:DL P Γ W):∀n,G8 P Γ (cv P Γ W n)/\G9 P Γ (cv P Γ W n)/\DL P Γ (nc P Γ W n)/\YlOk P Γ (vC P Γ W n)/\DfF.Ok P Γ (fb P Γ W n)
 | 0=>⟨λ_ _ _ _ _ h=>by simp[cv] at h,λ_ _ _ _ _ h=>by simp[cv] at h,λ_ _ _ _ h=>by simp[nc] at h,λ_ _ _ _ _ h=>by simp[vC] at h,λ_ _ _ _ _ _ h=>by simp[fb] at h⟩
 | n+1=>by
  obtain⟨hC,hL,hF,hY,hD⟩:=tj ok hW n;have V6:=ti ok hF hY;have W5:G9 P Γ (cv P Γ W (n+1)):=by
   intro rd c s e s' hr X r VJ;refine XZ.step ?_;simp only[cv] at hr;split at hr;·rename_i s1 h1;refine(hC rd c s _ _ h1 X r VJ).mono ?_;rintro e' Yn ⟨rfl,rfl⟩;exact hL rd c _ _ _ hr X r VJ
   ·rename_i Ve;refine(hC rd c s _ _ hr X r VJ).mono ?_;rintro e' Yn ⟨rfl,rfl⟩;cases e' with
    | normal=>grind
    | _=>exact⟨rfl,rfl⟩
  refine⟨?_,W5,?_,?_,?_⟩
  ·intro rd c s e s' hr X r VJ;cases c with
   | skip=>simp[cv] at hr;exact VW.skip ⟨hr.1,hr.2⟩
   | label k=>simp[cv] at hr;exact VW.label ⟨hr.1,hr.2⟩
   | ret=>simp[cv] at hr;exact VW.ret ⟨hr.1,hr.2⟩
   | exit i=>simp[cv] at hr;exact VW.exit ⟨hr.1,hr.2⟩
   | goto i=>simp[cv] at hr;exact VW.goto ⟨hr.1,hr.2⟩
   | scope b =>
    simp[cv] at hr;refine VW.scope ?_;split at hr;·simp at hr
    ·rename_i Ve;refine(hC rd b s _ _ hr X r VJ).mono ?_;rintro e' Yn ⟨rfl,rfl⟩;exact⟨λl hl=>by simp_all,rfl,rfl⟩
   | refuse w=>simp[cv] at hr
   | seq a b =>
    simp[cv] at hr;refine VW.seq ?_;split at hr;·rename_i s1 h1;refine(hC rd a s _ _ h1 X r VJ).mono ?_;rintro e' Yn ⟨rfl,rfl⟩;exact hC rd b _ _ _ hr X r VJ
    ·rename_i Ve;refine(hC rd a s _ _ hr X r VJ).mono ?_;rintro e' Yn ⟨rfl,rfl⟩;cases e' with
     | normal=>grind
     | _=>exact⟨rfl,rfl⟩
   | cond x a b =>
    simp[cv] at hr;split at hr;·rename_i hx;exact VW.cond hx (λ_=>hC rd a s _ _ hr X r VJ) (λh=>by cases h)
    ·rename_i hx;exact VW.cond hx (λh=>by cases h) (λ_=>hC rd b s _ _ hr X r VJ)
    ·simp at hr
   | block i b =>
    simp[cv] at hr;refine VW.block ?_;split at hr;·rename_i j s1 h1;refine(hC rd b s _ _ h1 X r VJ).mono ?_;grind [mQ,MS,MV]
    ·rename_i Ve;refine(hC rd b s _ _ hr X r VJ).mono ?_;rintro e' Yn ⟨rfl,rfl⟩;cases e' with
     | exit j=>grind
     | _=>exact⟨rfl,rfl⟩
   | loop b=>exact(W5 rd b s e s' hr X r VJ).loop
   | region id ops draw =>
    simp[cv] at hr;cases draw with
    | false =>
     simp only at hr;split at hr;·rename_i e1 t h h1;simp at hr;obtain⟨rfl,rfl⟩:=hr;exact VW.Va V6 h1 ⟨rfl,rfl⟩
     ·simp at hr
    | true =>
     simp only at hr;split at hr;·rename_i t h h1;simp at hr;exact VW.run ok (Un.toF_ok V6) h1 ⟨hr.1,hr.2⟩
     ·simp at hr
   | rangeFunc g ps asg body =>
    simp only[cv] at hr;cases rd with
    | true=>simp at hr
    | false =>
     obtain rfl:=VJ rfl;simp only at hr;split at hr
     ·rename_i f fi ca hg;split at hr;·rename_i d h2 h1;obtain⟨k1,k2⟩:=hF _ _ _ _ h1;exact VW.rangeFunc ok hg k1 (k2.call.mono λ_ _ hq=>hq.2) hr
      ·simp at hr
     ·simp at hr
  ·intro f args h r hr;simp[nc] at hr;split at hr;·rename_i r0 hw;cases hr;exact hW _ _ _ _ hw
   split at hr;·simp at hr
   rename_i fn hf;split at hr;·simp at hr
   rename_i c hb;refine⟨by simp[eP,hf,hb],?_⟩;split at hr;·rename_i e s df h1;exact VN.ZL ok hf hb hD (AO ok hC V6 _ _ _ _ _ h1) hr
   ·simp at hr
  ·intro b args h d h' hr;simp[vC] at hr;split at hr
   ·rename_i p f ts ps asg body hb;split at hr
    ·rename_i hlen;simp at hlen;split at hr
     ·rename_i t1 h1 hasg;split at hr
      ·rename_i p1 f1 ts1 ps1 a1 b1 hb1;split at hr;·rename_i e2 s2 Zl;exact ng hb hlen (λX r _=>hC true asg _ _ _ hasg X r (λh=>by cases h)) hb1 (λX r _=>hC true body _ _ _ Zl X r (λh=>by cases h)) hr
       ·simp at hr
      ·simp at hr
     ·simp at hr
    ·simp at hr
   ·simp at hr
  ·intro g as h u u' h' hr;simp[fb] at hr;split at hr;·simp at hr
   rename_i fn hf;split at hr;·simp at hr
   rename_i c hb;refine⟨by simp[eP,hf,hb],?_⟩;split at hr;·simp at hr
   rename_i ops rest hs;split at hr
   ·have fin0:∀(t2:List D) (h2:List iN) (e2:Exit),(e2=.normal\/e2=.ret)->cv P Γ W n false c {t:=cC fn as,h:=h,m:=[]}=some (e2,{t:=t2,h:=h2,m:=[]})->(match bz P t2 h2 fn.results.toList with
      | some _=>some (u,h2)
      | none=>none)=some (u',h')->YM P Γ g as h u λu2 h2=>u2=u'/\h2=h':=by
     intro t2 h2 e2 he UY YA
     split at YA
     case h_2=>simp at YA
     rename_i ds WI
     simp only[MS,MV] at YA
     obtain⟨rfl,rfl⟩:=YA
     refine YM.zaZ hf hb λX=>(hC false c _ _ _ UY X none (λ_=>rfl)).mono ?_
     rintro e' Yn ⟨rfl,rfl⟩
     exact⟨he,rfl,⟨rfl,rfl⟩,ds,WI⟩
    grind
   rename_i dst os Wb;have hrec:∃o ats,ops.toList=o::os/\o.op=.call {callee:=.builtin .recover,args:=#[],argTypes:=ats}/\o.guard=none/\o.dst=dst:=by
    unfold recOf at Wb;split at Wb;·simp_all
    ·simp at Wb
   obtain⟨o,ats,h0,ho,hg,rfl⟩:=hrec;split at hr;·simp at hr
   rename_i e1 t1 h1 hops;have fin:∀(t2:List D) (h2:List iN) (e2:Exit),(e2=.normal\/e2=.ret)->vB (cv P Γ W n) rest e1 {t:=t1,h:=h1,m:=[]}=some (e2,{t:=t2,h:=h2,m:=[]})->(match bz P t2 h2 fn.results.toList with
     | some _=>some ((oP u).2,h2)
     | none=>none)=some (u',h')->YM P Γ g as h u λu2 h2=>u2=u'/\h2=h':=by
    intro t2 h2 e2 he UY YA
    split at YA
    case h_2=>simp at YA
    rename_i ds WI
    simp only[MS,MV] at YA
    obtain⟨rfl,rfl⟩:=YA
    refine YM.Vo V6 hf hb hs h0 ho hg hops λX=>?_
    unfold vB at UY
    cases rest with
    | none =>
     simp only[MS,MV,AS.mk.injEq] at UY
     obtain⟨rfl,rfl,rfl,_⟩:=UY
     exact⟨he,rfl,⟨rfl,rfl⟩,ds,WI⟩
    | some d =>
     simp only at UY ⊢
     split at UY
     ·refine⟨rfl,(hC false d _ _ _ UY X none (λ_=>rfl)).mono ?_⟩
      rintro e' Yn ⟨rfl,rfl⟩
      exact⟨he,rfl,⟨rfl,rfl⟩,ds,WI⟩
     ·simp at UY
   grind
theorem VN.of_run(ok:Vl P){W:Zp}(hW:DL P Γ W){n:Nat}{f:FuncId}{args:List D}{h:List iN}{r:CR}(hr:nc P Γ W n f args h=G r):VN P Γ f args h r :=((tj ok hW n).2.2.1 f args h _ hr).2
end
def Ev(P:Program)(Γ:ao)(f:FuncId)(args:List D)(h:List iN)(d:D)(h':List iN):Prop:=V8 P Γ f args h λd2 h2=>d2=d/\h2=h'
def Iv(P:Program)(Γ:ao)(x:D)(args:List D)(h:List iN)(d:D)(h':List iN):Prop:=WL P Γ x args h λd2 h2=>d2=d/\h2=h'
def OpW(P:Program)(Γ:ao)(t:List D)(h:List iN)(o:Op)(K:D->List iN->Prop):Prop :=
 match o with
 |.call {callee:=.value fv,args,.. }=>∃d h',Iv P Γ (Bv Γ t fv) (args.toList.map (Bv Γ t)) h d h'/\K d h'
 |op=>∃d h',Is P Γ t h op=G (J,d,h')/\K d h'
theorem OpW.call{P:Program}{Γ:ao}{t:List D}{h h':List iN}{d:D}{fv:Operand}{args:Array Operand}{ats:Array TypeId}{K:D->List iN->Prop}(hi:Iv P Γ (Bv Γ t fv) (args.toList.map (Bv Γ t)) h d h')(hK:K d h'):OpW P Γ t h (.call {callee:=.value fv,args,argTypes:=ats}) K:=⟨d,h',hi,hK⟩
theorem OpW.sem{P:Program}{Γ:ao}{t:List D}{h h':List iN}{d:D}{op:Op}{K:D->List iN->Prop}(hi:Is P Γ t h op=G (J,d,h'))(hK:K d h'):OpW P Γ t h op K:=by unfold OpW;grind [Is]
theorem OpW.run{P:Program}{Γ:ao}{t:List D}{h:List iN}{op:Op}{K:D->List iN->Prop}(hw:OpW P Γ t h op K):∃call,Rg P Γ call/\∃d h',gh P Γ call t h op=some (d,h')/\K d h':=by
 unfold OpW at hw
 split at hw
 ·rename_i fv args ats
  obtain⟨d,h',hi,hK⟩:=hw
  classical
  refine⟨λx as g=>if x=Bv Γ t fv/\as=args.toList.map (Bv Γ t)/\g=h then some (d,h') else none,?_,d,h',?_,hK⟩
  ·intro x as g d1 h1 hc
   simp only at hc
   split at hc
   ·rename_i he
    obtain⟨rfl,rfl,rfl⟩:=he
    cases hc
    exact hi
   ·simp at hc
  ·simp[gh]
 ·rename_i Ve
  obtain⟨d,h',hi,hK⟩:=hw
  refine⟨λ_ _ _=>none,λ_ _ _ _ _ hc=>by simp at hc,d,h',?_,hK⟩
  unfold gh
  grind
def Zo(P:Program)(Γ:ao)(m:List Nat)(L:List Oper)(t:List D)(h:List iN)(o:Oper)(K:D->List iN->Prop):Prop :=∃call,Rg P Γ call/\∃f d' d h',(U9 f/\de P Γ call m L (t.map f) h o=G (d',h')/\Wk d' d)/\K d h'
def Wd(P:Program)(Γ:ao)(t:List D)(h:List iN)(o:Op)(d:D)(h':List iN):Prop:=∃call,Rg P Γ call/\gh P Γ call t h o=G (d,h')
theorem Wd.sem{P:Program}{Γ:ao}{t:List D}{h h':List iN}{o:Op}{d:D}(hs:Is P Γ t h o=G (J,d,h')):Wd P Γ t h o d h':=by obtain⟨call,hc,d1,h1,h2,rfl,rfl⟩:=(OpW.sem (K:=λd1 h1=>d1=d/\h1=h') hs ⟨rfl,rfl⟩).run;exact⟨call,hc,h2⟩
theorem Wd.call{P:Program}{Γ:ao}{t:List D}{h h':List iN}{d:D}{fv:Operand}{args:Array Operand}{ats:Array TypeId}(hi:Iv P Γ (Bv Γ t fv) (args.toList.map (Bv Γ t)) h d h'):Wd P Γ t h (.call {callee:=.value fv,args,argTypes:=ats}) d h':=by obtain⟨call,hc,d1,h1,h2,rfl,rfl⟩:=(OpW.call (ats:=ats) (K:=λd1 h1=>d1=d/\h1=h') hi ⟨rfl,rfl⟩).run;exact⟨call,hc,h2⟩
theorem Wd.congr{P:Program}{Γ:ao}{t t':List D}{h h':List iN}{o:Op}{d:D}(he:∀x∈o.operands,Bv Γ t x=Bv Γ t' x)(ho:Wd P Γ t h o d h'):Wd P Γ t' h o d h':=by obtain⟨call,hc,hr⟩:=ho;exact⟨call,hc,by rw[<-mV o he];exact hr⟩
theorem Zo.on{P:Program}{Γ:ao}{m:List Nat}{L:List Oper}{t:List D}{h h':List iN}{o:Oper}{K:D->List iN->Prop}{d:D}(hg:aR L t o.guard=G J)(ho:Wd P Γ t h o.op d h')(hm:aB h' m=J)(hK:K d h'):Zo P Γ m L t h o K:=by obtain⟨call,hc,hr⟩:=ho;exact⟨call,hc,id,d,d,h',⟨P3,by rw[PC];unfold de;grind,Wk.refl _⟩,hK⟩
theorem Zo.off{P:Program}{Γ:ao}{m:List Nat}{L:List Oper}{t:List D}{h:List iN}{o:Oper}{K:D->List iN->Prop}(hg:aR L t o.guard=G N)(hK:K (lit undef) h):Zo P Γ m L t h o K :=⟨λ_ _ _=>Y,λ_ _ _ _ _ hc=>by simp at hc,id,_,_,h,⟨P3,by rw[PC];unfold de;rw[hg],Wk.refl _⟩,hK⟩
theorem Zo.spec{P:Program}{Γ:ao}{m:List Nat}{L:List Oper}{t:List D}{h:List iN}{o:Oper}{K:D->List iN->Prop}{d:D}{b:Bool}(hg:aR L t o.guard=G b)(ho:b=J->Wd P Γ (t.map W2) h o.op d h)(hm:aB h m=J)(hK:K (VG b d) h):Zo P Γ m L t h o K:=by
 cases b with
 |true=>obtain⟨call,hc,hr⟩:=ho rfl;exact⟨call,hc,W2,d,VG J d,h,⟨U9.W2,by unfold de;rw[pC U9.W2 hg,hr];simp[hm],λ_ _ _ _ _ r=>by simpa[Rel] using r⟩,hK⟩
 |false=>exact⟨λ_ _ _=>Y,λ_ _ _ _ _ hc=>by simp at hc,id,lit undef,VG N d,h,⟨P3,by rw[PC];unfold de;rw[hg],λ_ _ _ _ _ r=>by grind [Rel,TB]⟩,hK⟩
theorem iy(w:World){f f0:D->D}(hf:U9 f)(hf0:U9 f0){L:List Oper}{t:List D}{g:Option (Nat×Bool)}{b b0:Bool}(h:aR L (t.map f) g=G b)(h0:aR L (t.map f0) g=G b0):b=b0:=by
 unfold aR at h h0;split at h;·simp_all
 ·split at h;·rename_i x hx;simp only[hx] at h0;rw[aW hf.any] at h;rw[aW hf0.any] at h0;generalize t.getD x Tp=d at h h0;obtain⟨g1,y,g2⟩:=ir h w (λ_=>False) (λ_=>Y) [];have g3:=(hf0.both d).1 w (λ_=>False) (λ_=>Y) [] y ((hf.both d).2 w (λ_=>False) (λ_=>Y) [] y g2);rw[<-g1 y g2,<-(ir h0 w (λ_=>False) (λ_=>Y) []).1 y g3]
  ·simp_all
def RW(P:Program)(Γ:ao)(m:List Nat)(L:List Oper)(c:Bool):List Oper->List D->List iN->(List D->List iN->Prop)->Prop
 | [],t,h,K=>K t h
 |o::os,t,h,K=>Zo P Γ m L t h o λd h'=>(c=J->h'=h)/\RW P Γ m L c os (TO t o.dst d) h' K
theorem RW.W7{P:Program}{Γ:ao}{m:List Nat}{L:List Oper}{K:List D->List iN->Prop}:∀(os:List Oper) (t:List D) (h:List iN),RW P Γ m L J os t h K -> ∃tF hs ts,Vi.W7 P Γ m L Wk U9 os t h tF hs ts/\K tF h/\(∀k,k<=os.length->hs.getD k []=h)
 | [],t,h,hw=>⟨t,[h],[],⟨rfl,rfl,rfl⟩,hw,λk hk=>Tn⟩
 |o::os,t,h,hw=>by
  obtain⟨call,hc,f,d',d,h',h1,h2,h3⟩:=hw;obtain rfl:=h2 rfl;obtain⟨tF,hs,ts,g1,g2,g3⟩:=RW.W7 os _ _ h3;exact⟨tF,h'::hs,t::ts,⟨call,f,d',d,h',hs,ts,hc,h1,g1,rfl,rfl⟩,g2,λk hk=>by
   cases k with
   |zero=>rfl
   |succ k=>simp_all⟩
section
variable {P:Program}{Γ:ao}{X:Ctx}{r:Option Nat}{Q:Exit->AS->Prop}{t:List D}{h:List iN}{m:List Nat}
theorem vD{L:List Oper}{ops:Array Oper}(hL:ops.toList=L){o:Oper}{K:Act->World->Prop}{Q':Exit->Act->World->Prop}{Kd:D->List iN->Prop}(hw:Zo P Γ m L t h o Kd)(hK:∀d h' a' w',Kd d h'->St Γ X {t:=TO t o.dst d,h:=h',m:=m} a' w'->K a' w'){a:Act}{w:World}(hs:St Γ X {t:=t,h:=h,m:=m} a w) :
  if NM o (yielded ops a.tmps) then o.wpIn (FW r) 0 P a w K Q' else (∀f,o.about P w a.eval=G f->(FW r).fn f)/\K (a.put o.dst undef) w:=by
 subst hL
 obtain⟨call,hc,f,dw,d,h',⟨Xr,h1,Δ⟩,h2⟩:=hw
 have hsf:St Γ X {t:=t.map f,h:=h,m:=m} a w:=hs.fix Xr
 unfold de at h1
 split at h1
 ·rename_i hg
  have hwt:NM o (yielded ops a.tmps)=J:=by obtain⟨l,R,E,rt,rd⟩:=hsf;exact aC rt hg
  rw[if_pos hwt]
  split at h1
  ·rename_i d1 h1' Uk
   split at h1
   ·rename_i hm
    simp at h1;obtain⟨rfl,rfl⟩:=h1
    exact je (s:={t:=t.map f,h:=h,m:=m}) hc Uk hm (λa' w' Vq=>hK _ _ a' w' h2 (St.XF Xr Δ Vq)) hsf
   ·simp at h1
  ·simp at h1
 ·rename_i hg
  cases h1
  have hwt:NM o (yielded ops a.tmps)=N:=by obtain⟨l,R,E,rt,rd⟩:=hsf;exact aC rt hg
  rw[if_neg (by simp[hwt])]
  exact⟨λ_ _=>trivial,hK _ _ _ _ h2 (St.XF Xr Δ (St.skip (s:={t:=t.map f,h:=h,m:=m}) o.dst hsf))⟩
 ·simp at h1
theorem RW.sound{ops:Array Oper}:∀(os:List Oper) (i:Nat) (t:List D) (h:List iN),ops.toList.drop i=os->RW P Γ m ops.toList N os t h (λt' h'=>Q U4 {t:=t',h:=h',m:=m}) -> ∀(a:Act) (w:World),St Γ X {t:=t,h:=h,m:=m} a w->wpOpsIn (FW r) 0 P ops (ia Γ X Q) (Oo i os.length) a w:=by
 intro os;induction os with
 |nil=>intro i t h hd hr a w hs;exact⟨To,_,hr,hs⟩
 |cons o os ih=>
  intro i t h hd hr a w hs;have ho:ops[i]?=G o:=by rw[<-NU];have:=congrArg (·[0]?) hd;simpa using this
  have Vv:ops.toList.drop (i+1)=os:=by have:=congrArg (List.drop 1) hd;simpa[Nat.add_comm] using this
  simp only[N3,QM,wpOpsIn,ho];exact vD rfl hr (λd h' a' w' hk Vq=>ih (i+1) _ _ Vv hk.2 a' w' Vq) hs
theorem VW.regionW{id:Nat}{ops:Array Oper}(hr:RW P Γ m ops.toList N ops.toList t h (λt' h'=>Q U4 {t:=t',h:=h',m:=m})):VW P Γ X r (.region id ops N) Q {t:=t,h:=h,m:=m}:=λa w hs=>
 wpIn_region (by
  have:=RW.sound (r:=r) (X:=X) (Q:=Q) ops.toList 0 t h To hr a w hs
  grind [PB])
end
mutual
def D.Tz(f:Ref->D):D->D
 |.ref r=>f r
 |.fn g a b=>.fn g (D.U7 f a) (D.U7 f b)
 |.agg cs=>.agg (D.U7 f cs)
 |.Tt cs=>.Tt (D.U7 f cs)
 |.WW g d=>.WW g (D.Tz f d)
 |.p x=>.p x
 |.any=>.any
 |.ep cs=>.ep cs
 |.WK es=>.WK es
def D.U7(f:Ref->D):List D->List D
 | []=>[]
 |d::ds=>D.Tz f d::D.U7 f ds
end
def iN.Tz(f:Ref->D):iN->iN
 |.var cs=>.var (D.U7 f cs)
 |.bY es e sz=>.bY (es.map (D.U7 f)) e sz
 |.map U1 clock=>.map (U1.map λe=>(D.Tz f e.1,D.Tz f e.2.1,e.2.2)) clock
 |.loop st UC fn ts ps asg body=>.loop st UC fn (D.U7 f ts) ps asg body
 |x=>x
theorem gt(f:Ref->D):∀ds:List D,(D.U7 f ds).length=ds.length
 | []=>rfl
 |_::ds=>by simp[D.U7,gt f ds]
theorem lq(f:Ref->D):∀xs ys:List D,D.U7 f (xs++ys)=D.U7 f xs++D.U7 f ys
 | [],_=>rfl
 |x::xs,ys=>by simp[D.U7,lq f xs ys]
theorem fJ(f:Ref->D):∀es:List (List D),D.U7 f es.flatten=(es.map (D.U7 f)).flatten
 | []=>rfl
 |e::es=>by simp[lq,fJ f es]
theorem pH(f:Ref->D):∀ds:List Dp,D.U7 f (ds.map .p)=ds.map .p
 | []=>rfl
 |d::ds=>by simp[D.U7,D.Tz,pH f ds]
theorem ak(f:Ref->D)(es:List (List Dp)):(es.map (·.map D.p)).map (D.U7 f)=es.map (·.map D.p):=by simp[Function.comp_def,pH]
section
variable {w:World}{av av':Nat->Prop}{l:Loc}{h h':List iN}{f:Ref->D}
mutual
theorem ma(ha:∀k,av' k->av k)(hf:∀r y,NE l h r y->Rel w av' l h' (f r) y):∀{d:D} {y:Value},Rel w av l h d y->Rel w av' l h' (D.Tz f d) y
 |.p _,_,r=>by simp[Rel,D.Tz] at r ⊢;exact e9 ha r
 |.any,_,_=>by simp[Rel,D.Tz]
 |.ref r,y,rr=>by grind [D.Tz,Rel]
 |.ep _,_,r=>by simp[Rel,D.Tz] at r ⊢;obtain⟨oR,off,r1,r2⟩:=r;exact⟨oR,off,r1,aG ha r2⟩
 |.WK _,_,r=>by
  simp only[Rel,D.Tz] at r ⊢;rcases r with r|⟨oR,off,sz,r1,r2⟩
  ·exact .inl r
  ·exact .inr ⟨oR,off,sz,r1,cN ha r2⟩
 |.fn _ _ _,_,r=>by simp[Rel,D.Tz] at r ⊢;obtain⟨a,c,r1,r2,r3⟩:=r;exact⟨a,c,r1,cE ha hf r2,cE ha hf r3⟩
 |.agg _,_,r=>by simp[Rel,D.Tz] at r ⊢;obtain⟨vs,r1,r2⟩:=r;exact⟨vs,r1,cE ha hf r2⟩
 |.Tt _,_,r=>by simp[Rel,D.Tz] at r ⊢;obtain⟨vs,r1,r2⟩:=r;exact⟨vs,r1,cE ha hf r2⟩
 |.WW _ _,_,r=>by simp[Rel,D.Tz] at r ⊢;exact⟨λhg=>ma ha hf (r.1 hg),r.2⟩
theorem cE(ha:∀k,av' k->av k)(hf:∀r y,NE l h r y->Rel w av' l h' (f r) y):∀{ds:List D} {ys:List Value},AT w av l h ds ys->AT w av' l h' (D.U7 f ds) ys
 | [],[],_=>by simp[AT,D.U7]
 | [],_::_,r=>by simp[AT] at r
 |_::_,[],r=>by simp[AT] at r
 |_::_,_::_,r=>by simp[AT,D.U7] at r ⊢;exact⟨ma ha hf r.1,cE ha hf r.2⟩
end
theorem pI(ha:∀k,av' k->av k)(hf:∀r y,NE l h r y->Rel w av' l h' (f r) y):∀{U1:List (D×D×Nat)} {es:List MapEntry},Tk w av l h U1 es -> Tk w av' l h' (U1.map λe=>(D.Tz f e.1,D.Tz f e.2.1,e.2.2)) es
 | [],[],_=>by simp[Tk]
 | [],_::_,r=>by simp[Tk] at r
 |_::_,[],r=>by simp[Tk] at r
 |(k,d,m)::U1,e::es,r=>by simp[Tk] at r ⊢;exact⟨ma ha hf r.1,ma ha hf r.2.1,r.2.2.1,pI ha hf r.2.2.2⟩
theorem pJ(ha:∀k,av' k->av k)(hf:∀r y,NE l h r y->Rel w av' l h' (f r) y)(hm:∀b y,NE l h (Wv b) y->NE l h' (Wv b) y){b:Nat}{x:iN}(r:Tl w av l h b x):Tl w av' l h' b (x.Tz f):=by
 cases x with
 |var cs=>obtain⟨oR,cp,c,T,r1,r2,r3⟩:=r;exact⟨oR,cp,c,T,r1,r2,cE ha hf r3⟩
 |bY es e sz=>
  unfold Tl at r ⊢;simp only[iN.Tz] at r ⊢;split;·grind
  ·rename_i oR cap h0;rw[h0] at r;obtain⟨oo,cc,rc,c,T,fr,ys,r1,r2,r3,r4,r5,r6,r7⟩:=r;refine⟨oo,cc,rc,c,T,fr,ys,r1,r2,by simpa using r3,r4,?_,?_,r7⟩;·grind [gt]
   ·rw[<-fJ];exact cE ha hf r6
 |map U1 clock=>obtain⟨oR,cp,es,r1,r2,r3⟩:=r;exact⟨oR,cp,es,r1,r2,pI ha hf r3⟩
 |Zq s pos=>exact r
 |Xa m since seen st=>obtain⟨oR,cp,mr,r1,r2,r3⟩:=r;refine⟨oR,cp,mr,r1,r2,?_⟩;grind
 |loop st UC fn tmps params asg body=>obtain⟨oR,cp,ts,dr,Zx,r1,r2,r3,r4⟩:=r;exact⟨oR,cp,ts,dr,Zx,r1,r2,cE ha hf r3,r4⟩
 |Ts=>exact r
 |T1=>trivial
end
theorem nh{f:Ref->D}{x:iN}:x.Tz f=TS ↔ x=TS:=by cases x<;>simp[iN.Tz]
def Ux(f:Ref->D)(b:Nat)(xb:iN)(h:List iN):List iN:=(h.map (iN.Tz f)).set b xb
def Ref.oR:Ref->Nat
 |U0 b _ | .bY b _ | ZC b _ _ _ _ | .av b _ _ _ | YZ b _ _ _ | Wv b | .it b | .yl b=>b
section
variable {Γ:ao}{O:Nat->Prop}{w w0:World}{l l0:Loc}{h h0:List iN}{f:Ref->D}{b:Nat}{xb x0:iN}
theorem gu{i:Nat}(hi:i≠b):(Ux f b xb h)[i]?=(h[i]?).map (iN.Tz f):=by grind [Ux]
theorem nj(hb:h[b]?=G x0):(Ux f b xb h)[b]?=G xb:=by grind [Ux]
theorem rn(hb:h[b]?=G x0)(hg:x0≠TS){k:Nat}(ho:own l (Ux f b xb h) k):own l h k:=by
 obtain⟨i,x,cp,h1,h2,h3⟩:=ho;by_cases hi:i=b;·subst hi;exact⟨i,x0,cp,hb,hg,h3⟩
 ·rw[gu hi] at h1;cases hx:h[i]? with
  |none=>grind
  |some y=>rw[hx] at h1;simp at h1;subst h1;exact⟨i,y,cp,hx,λe=>h2 (nh.2 e),h3⟩
theorem jm(hb:h[b]?=G x0)(hg:x0≠TS){k:Nat}(ho:On O l (Ux f b xb h) k):On O l h k:=ho.imp id (rn hb hg)
theorem fK{r:Ref}{y:Value}(hr:r.oR≠b)(rr:NE l h r y):NE l (Ux f b xb h) r y:=by
 have key:(Ux f b xb h)[r.oR]?=(h[r.oR]?).map (iN.Tz f):=gu hr;unfold NE at rr ⊢;refine⟨rr.1,?_⟩;have rr:=rr.2;cases hx:h[r.oR]? with
 |none=>cases r<;>simp only[Ref.oR] at hx<;>simp only[hx] at rr
 |some x=>rw[hx] at key;cases r<;>simp only[Ref.oR] at hx key<;>simp only[hx] at rr<;>simp only[key,Option.map_some]<;>cases x<;>simp[iN.Tz] at rr ⊢ <;> exact rr
theorem Ij{x y:iN}(h:x.le y):x.le (y.Tz f)/\(x.stays (y.Tz f)->x.stays y):=by cases x<;>cases y<;>simp only[iN.le] at h<;>simp_all[iN.le,iN.Tz,iN.stays]
theorem TL.Ux(R:TL Γ O w l h)(hb:h[b]?=G x0)(hg:x0≠TS)(hf:∀r y,NE l h r y->Rel w (On O l (Ux f b xb h)) l (Ux f b xb h) (f r) y)(UG:Tl w (On O l (Ux f b xb h)) l (Ux f b xb h) b xb)(hm:∀y,¬NE l h (Wv b) y):TL Γ O w l (Ux f b xb h) where
 V3 oR ho:=R.V3 oR (rn hb hg ho)
 We:=R.We
 inj i i' x x' k c c' h1 h2 h3 h4 h5 h6:=by
  have back:∀{i:Nat} {x:iN},(Vi.Ux f b xb h)[i]?=G x->x≠TS->∃y,h[i]?=G y/\y≠TS:=by
   intro i x h1 h2;by_cases hi:i=b;·grind
   ·rw[gu hi] at h1;cases hx:h[i]? with
    |none=>grind
    |some y=>rw[hx] at h1;simp at h1;subst h1;exact⟨y,rfl,λe=>h2 (nh.2 e)⟩
  obtain⟨y,e1,e2⟩:=back h1 h2;obtain⟨y',e3,e4⟩:=back h3 h4;exact R.inj i i' y y' k c c' e1 e2 e3 e4 h5 h6
 oR i x h1:=by
  by_cases hi:i=b;·subst hi;rw[nj hb] at h1;grind
  ·rw[gu hi] at h1;cases hx:h[i]? with
   |none=>grind
   |some y=>
    rw[hx] at h1;simp at h1;subst h1;refine pJ (λ_=>jm hb hg) hf (λc y hr=>?_) (R.oR i y hx);by_cases hc:c=b;·grind
    ·exact fK (by grind [Ref.oR]) hr
 Xk g cs Ww:=aG (λ_=>jm hb hg) (R.Xk g cs Ww)
theorem Ext.Ux(E:Ext w0 l0 h0 w l h)(hb:h[b]?=G x0)(hg:x0≠TS)(hle:∀x,h0[b]?=G x->x.le x0->x.le xb/\(x.stays xb->x.stays x0)):Ext w0 l0 h0 w l (Ux f b xb h) where
 size:=E.size
 same:=E.same
 news oR ho:=E.news oR (rn hb hg ho)
 keep i x hx:=by
  obtain⟨x',h1,h2,h3⟩:=E.keep i x hx;by_cases hi:i=b;·subst hi;rw[hb] at h1;cases h1;obtain⟨g1,g2⟩:=hle x hx h2;exact⟨xb,nj hb,g1,λhs=>h3 (g2 hs)⟩
  ·obtain⟨g1,g2⟩:=Ij (f:=f) h2;exact⟨_,by rw[gu hi,h1];rfl,g1,λhs=>h3 (g2 hs)⟩
 tape:=E.tape
end
def ed(b e:Nat)(rows:List (List Dp))(r:Ref):D:=match r.oR==b with
 |false=>.ref r
 |true=>match r with
  |.bY _ e1=>match e1==e with
   |true=>.p (.sl rows)
   |false=>.any
  |.vs _ e1 i n _=>match e1==e with
   |true=>.p (.sl ((rows.drop i).take n))
   |false=>.any
  |_=>.any
def ax(b e k:Nat)(r:Ref):D:=match r.oR==b with
 |false=>.ref r
 |true=>match r with
  |.bY _ e1=>match e1==e with
   |true=>.ref (.bY b k)
   |false=>.any
  |.vs _ e1 i n c=>match e1==e with
   |true=>.ref (ZC b k i n c)
   |false=>.any
  |.vp _ e1 i j=>match e1==e with
   |true=>.ref (YZ b k i j)
   |false=>.any
  |_=>.any
section
variable {Γ:ao}{O:Nat->Prop}{w w0:World}{l l0:Loc}{h h0:List iN}{b:Nat}
theorem nl{av av':Nat->Prop}(ha:∀k,av' k->av k){oR:Nat}(hb:¬av' oR):∀(e:List Dp) (off:Nat),Tr w av l h oR off (e.map .p)->T9 w av' oR off e
 | [],_,_=>trivial
 |d::ds,off,c=>by obtain⟨y,h1,h2⟩:=c 0 (.p d) To;refine⟨⟨hb,y,by simpa using h1,e9 ha (by grind [Rel])⟩,nl ha hb ds (off+1) λj d' hd=>?_⟩;obtain⟨y',h3,h4⟩:=c (j+1) d' (by simpa using hd);grind
theorem gV{av:Nat->Prop}{oR c:Nat}:∀(es:List (List Dp)) (off:Nat),(∀i e,es[i]?=G e->e.length=c/\T9 w av oR (off+i*c) e)->Tu w av oR c off es
 | [],_,_=>trivial
 |e::es,off,h=>by obtain⟨h1,h2⟩:=h 0 e rfl;refine⟨h1,by simpa using h2,gV es (off+c) λi e' he=>?_⟩;obtain⟨h3,h4⟩:=h (i+1) e' (by simpa using he);grind
theorem xe(R:TL Γ O w l h){rows:List (List Dp)}{e sz:Nat}{b1:Nat}(hb:h[b1]?=G (.bY (rows.map (·.map .p)) e sz)){oR oo cc:Nat}(hl:l b1=G (oR,X9 oo cc)){f:Ref->D}:∀i e1,rows[i]?=G e1->e1.length=sz/\T9 w (On O l (Ux f b1 TS h)) oR (oo+i*sz) e1:=by
 have hk:=R.oR _ _ hb;unfold Tl at hk;simp only[hl] at hk;obtain⟨o2,c2,rc,c,T,fr,ys,q1,q2,q3,q4,q5,q6,pre,rest,q0,q7⟩:=hk;obtain⟨rfl,rfl⟩:=cI rc;have XS:¬On O l (Vi.Ux f b1 TS h) oR:=by
  rintro (ho|⟨i,x,cp,h1,h2,h3⟩);·exact(R.V3 oR ⟨b1,_,_,hb,To,hl⟩).2 ho
  ·by_cases hi:i=b1;·subst hi;rw[nj hb] at h1;grind
   ·rw[gu hi] at h1;cases hx:h[i]? with
    |none=>grind
    |some z=>rw[hx] at h1;simp at h1;subst h1;exact hi (R.inj i b1 z _ oR cp _ hx (λe=>h2 (nh.2 e)) hb To h3 hl)
 intro i e1 he1;have hlen:e1.length=sz:=by have:=q5 (e1.map .p) (List.mem_map.2 ⟨e1,List.mem_of_getElem? he1,rfl⟩);simpa using this
 refine⟨hlen,nl (l:=l) (h:=h) (av:=On O l h) (av':=On O l (Vi.Ux f b1 TS h)) (λ_ ho=>jm hb To ho) XS e1 _ ?_⟩;exact(Tr.WR (loc:=l) (h:=h) q1 q0 q7 q6).rowO q5 Tn
theorem Ik(R:TL Γ O w l h){rows:List (List Dp)}{e sz:Nat}(hb:h[b]?=G (.bY (rows.map (·.map .p)) e sz)){r:Ref}{y:Value}(rr:NE l h r y){f:Ref->D}:Rel w (On O l (Ux f b TS h)) l (Ux f b TS h) (ed b e rows r) y:=by
 unfold ed;split;·rename_i hr;simp[Rel];exact fK (by simpa using hr) rr
 ·rename_i hr;split
  ·rename_i b1 e1;split
   ·rename_i he;have hr:b1=b:=by simpa[Ref.oR] using hr
    have he:e1=e:=by simpa using he
    subst hr;subst he;have hk:=R.oR _ _ hb;unfold NE at rr;simp only[hb] at rr;have hv:=rr.2.2 trivial;unfold Tl at hk;simp only at hk;simp only[Rel,TB];cases hl:l b1 with
    |none=>rw[hl] at hv hk;grind [iY]
    |some p=>obtain⟨oR,cap⟩:=p;rw[hl] at hv;simp only[iY] at hv;obtain⟨oo,cc,rfl,hv1,hv2⟩:=hv;exact .inr ⟨oR,oo,cc,sz,by simpa using hv1,by simpa using hv2,gV rows oo λi e1 he1=>xe R hb hl i e1 he1⟩
   ·simp[Rel]
  ·rename_i b1 e1 i n c;split
   ·rename_i he;have hr:b1=b:=by simpa[Ref.oR] using hr
    have he:e1=e:=by simpa using he
    subst hr;subst he;unfold NE at rr;simp only[hb] at rr;obtain⟨TZ,oR,oo,cap,c2,hl,hy,hnc,hic, -⟩:=rr.2.2 trivial;have hlr:((rows.drop i).take n).length=n:=by simp at TZ ⊢;omega
    simp only[Rel,TB];rcases hy with hy|⟨a,hy,h0⟩
    ·refine .inr ⟨oR,oo+i*sz,c2,sz,Tn,Tn,gV _ _ λj e1 he1=>?_⟩;have hj:rows[i+j]?=G e1:=by
      rw[List.getElem?_take] at he1;split at he1;·grind
      ·simp at he1
     have:=xe R hb hl (f:=f) (i+j) e1 hj;grind
    ·have hn0:n=0:=TE
     grind
   ·simp[Rel]
  ·simp[Rel]
theorem Il{es es':List (List D)}(hlen:es'.length=es.length){e k sz:Nat}(hb:h[b]?=G (.bY es e sz)){av:Nat->Prop}{r:Ref}{y:Value}(rr:NE l h r y){f:Ref->D}:Rel w av l (Ux f b (.bY es' k sz) h) (ax b e k r) y:=by
 have YG:(Ux f b (.bY es' k sz) h)[b]?=G (.bY es' k sz):=nj hb;unfold ax;split;·rename_i hr;simp[Rel];exact fK (by simpa using hr) rr
 ·rename_i hr;split
  ·rename_i b1 e1;split
   ·rename_i he;have hr:b1=b:=by simpa[Ref.oR] using hr
    have he:e1=e:=by simpa using he
    subst hr;subst he;unfold NE at rr;simp only[hb] at rr;simp[Rel];unfold NE;grind
   ·simp[Rel]
  ·rename_i b1 e1 i n c;split
   ·rename_i he;have hr:b1=b:=by simpa[Ref.oR] using hr
    have he:e1=e:=by simpa using he
    subst hr;subst he;unfold NE at rr;simp only[hb] at rr;simp[Rel];unfold NE;grind
   ·simp[Rel]
  ·rename_i b1 e1 i j;split
   ·rename_i he;have hr:b1=b:=by simpa[Ref.oR] using hr
    have he:e1=e:=by simpa using he
    subst hr;subst he;unfold NE at rr;simp only[hb] at rr;simp[Rel];unfold NE;grind
   ·simp[Rel]
  ·simp[Rel]
end
end Go.Vi
