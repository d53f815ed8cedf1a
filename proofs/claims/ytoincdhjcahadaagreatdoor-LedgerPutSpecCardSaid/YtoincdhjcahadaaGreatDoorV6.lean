/- LedgerPutSpec: part of the proof: an evaluator of the model's programs on abstract values, and its soundness. No conditions beyond the given statement's own. -/
import Derived.Test.YtoincdhjcahadaaGreatDoorV5
open Decidable renaming decide → Qd
open Option.some renaming injEq → Dj
open Prod.mk renaming injEq → Dm
open Go.Vi.CallF renaming Ok → HS
open Go.Vi.FixOk renaming id → Gs
open List renaming map_id → FB, map_cons → Fm, mem_map → Eb, getElem?_set_ne → GA, getElem?_map → E5, getElem?_eq_some_iff → Dq, getElem?_set_self → IA, mem_of_getElem? → D1, all_cons → Fq, getElem?_append_left → DP, getElem?_eq_none → Fb, all_eq_true → DK, mem_filter → Gh, mk_mem_zipIdx_iff_getElem? → EH, range → EE, mem_cons → DM, filter_eq_nil_iff → Gv, mem_append → DX
open Go.Vi.Wk renaming refl → Ht
open Go.Region renaming wanted → Ef, binds → El, ready → Fc
open Go.Vi.St renaming unfix → HM
open Option renaming map_some → Ea, map_eq_some_iff → Du, getD_some → EB
open Go.Vi.Blk renaming stays → HK, inn → D6, vec → GC
open Nat renaming le_refl → DJ, le_succ → Fh
open Bool renaming and_eq_true → Dr, false_eq_true → D8, not_eq_true' → ED, eq_false_iff → FJ
open Go.Vi.DefOk renaming mono → Ga
open Array renaming getD_eq_getD_getElem? → D2, getElem?_eq_getElem → D5, all_eq_true_iff_forall_mem → FF, replicate → EN
open Classical renaming byContradiction → Eo
namespace Go.Vi
open Go
section
variable {P:Program} {Γ:ae}
def FnOk(P:Program)(Γ:ae)(fnc:FnF):Prop:=∀f args h r,fnc f args h=some r→dL P f=true∧VRes P Γ f args h r
def YlOk(P:Program)(Γ:ae)(yl:YlF):Prop:=∀b args h d h',yl b args h=some (d,h')→VInv P Γ (.ref (.yl b)) args h fun d2 h2=>d2=d∧h2=h'
theorem ux(ok:POk P){fnc:FnF}{yl:YlF}(hf:FnOk P Γ fnc)(hy:YlOk P Γ yl):(lV fnc yl).Ok P Γ:=by
 intro x args h r hc
 unfold lV at hc
 split at hc
 ·rename_i f fi ca hx
  obtain⟨h1,h2⟩:=hf _ _ _ _ hc
  exact VRes.ok ok hx h1 h2
 ·split at hc
  ·split at hc
   ·rename_i h1
    cases hc
    exact hy _ _ _ _ _ h1
   ·simp at hc
  ·simp at hc
abbrev Det(e:Exit)(s':AS):Exit→AS→Prop:=fun e' s''=>e'=e∧s''=s'
def zg(P:Program)(Γ:ae)(run:Bool→Code→AS→Option (Exit×AS)):Prop :=
 ∀rd c s e s',run rd c s=some (e,s')→∀X r,(rd=false→r=none)→VW P Γ X r c (Det e s') s
def zh(P:Program)(Γ:ae)(run:Bool→Code→AS→Option (Exit×AS)):Prop :=
 ∀rd c s e s',run rd (.loop c) s=some (e,s')→∀X r,(rd=false→r=none)→LoopW P Γ X r c (Det e s') s
theorem i2{α:Type}:∀{l:List α} {os:List α} {o:α},dz l=some (os,o)→l=os++[o]
 | [],_,_,h=>by simp[dz] at h
 | x::xs,os,o,h=>by
  simp only[dz] at h
  split at h
  ·rename_i ys y h1
   simp only[Dj,Dm] at h
   obtain⟨rfl,rfl⟩:=h
   rw[i2 h1];rfl
  ·rename_i h1
   simp only[Dj,Dm] at h
   obtain⟨rfl,rfl⟩:=h
   cases xs with
   | nil=>rfl
   | cons y ys =>
    simp only[dz] at h1
    split at h1<;>simp at h1
theorem uy(ok:POk P){run:Bool→Code→AS→Option (Exit×AS)}{call:CallX}(hC:zg P Γ run)(hc:call.Ok P Γ):∀(c:Code) (s:AS) (e:Exit) (s':AS) (df:Option Dfc),rf P Γ run call c s=some (e,s',df)→TopW P Γ c s e s' df:=by
 have base:∀(c:Code) (s:AS) (e:Exit) (s':AS) (df:Option Dfc),(match run false c s with
  | some (e,s')=>some (e,s',(none:Option Dfc))
  | none=>none)=some (e,s',df)→TopW P Γ c s e s' df:=by
  intro c s e s' df h
  split at h
  ·rename_i h1
   simp only[Dj,Dm] at h
   obtain⟨rfl,rfl,rfl⟩:=h
   exact TopW.base fun X=>hC false c _ _ _ h1 X none (fun _=>rfl)
  ·simp at h
 intro c
 induction c with
 | seq a b _ ihb =>
  intro s e s' df h
  simp only[rf] at h
  split at h
  ·rename_i ops os fv args hp
   split at h
   ·rename_i hm
    split at h
    ·rename_i t1 h1 hr
     split at h
     ·rename_i f fi ca hcal
      split at h
      ·rename_i e1 s1 hrun
       simp only[Dj,Dm] at h
       obtain⟨rfl,rfl,rfl⟩:=h
       unfold zf at hp
       split at hp
       ·rename_i id ops0
        split at hp
        ·rename_i hsl
         simp only[Dj,Dm] at hp
         obtain⟨rfl,rfl,rfl,rfl⟩:=hp
         exact TopW.defer ok hc (i2 hsl) rfl rfl rfl hm hr hcal fun X=>hC false b _ _ _ hrun X none (fun _=>rfl)
        ·simp at hp
       ·simp at hp
      ·simp at h
     ·simp at h
    ·simp at h
   ·simp at h
  ·split at h
   ·rename_i s1 h1
    exact TopW.seq (fun X=>hC false a _ _ _ h1 X none (fun _=>rfl)) (ihb _ _ _ _ h)
   ·rename_i e1 s1 hno h1
    simp only[Dj,Dm] at h
    obtain⟨rfl,rfl,rfl⟩:=h
    refine TopW.out (fun he=>?_) (fun X=>hC false a _ _ _ h1 X none (fun _=>rfl))
    subst he
    exact hno rfl
   ·simp at h
 | _=>exact fun s e s' df h=>base _ s e s' df h
theorem uz(ok:POk P){W:FnF}(hW:FnOk P Γ W):∀n,zg P Γ (bu P Γ W n)∧zh P Γ (bu P Γ W n)∧FnOk P Γ (lz P Γ W n)∧YlOk P Γ (qi P Γ W n)∧DfF.Ok P Γ (eA P Γ W n)
 | 0=>⟨fun _ _ _ _ _ h=>by simp[bu] at h,fun _ _ _ _ _ h=>by simp[bu] at h,fun _ _ _ _ h=>by simp[lz] at h,fun _ _ _ _ _ h=>by simp[qi] at h,fun _ _ _ _ _ _ h=>by simp[eA] at h⟩
 | n+1=>by
  obtain⟨hC,hL,hF,hY,hD⟩:=uz ok hW n
  have hcall:=ux ok hF hY
  have hloop:zh P Γ (bu P Γ W (n+1)):=by
   intro rd c s e s' hr X r hrd
   refine LoopW.step ?_
   simp only[bu] at hr
   split at hr
   ·rename_i s1 h1
    refine(hC rd c s _ _ h1 X r hrd).mono ?_
    rintro e' s'' ⟨rfl,rfl⟩
    exact hL rd c _ _ _ hr X r hrd
   ·rename_i hno
    refine(hC rd c s _ _ hr X r hrd).mono ?_
    rintro e' s'' ⟨rfl,rfl⟩
    cases e' with
    | normal=>exact absurd hr (hno _)
    | _=>exact⟨rfl,rfl⟩
  refine⟨?_,hloop,?_,?_,?_⟩
  ·intro rd c s e s' hr X r hrd
   cases c with
   | skip=>simp only[bu,Dj,Dm] at hr;exact VW.skip ⟨hr.1,hr.2⟩
   | label k=>simp only[bu,Dj,Dm] at hr;exact VW.label ⟨hr.1,hr.2⟩
   | ret=>simp only[bu,Dj,Dm] at hr;exact VW.ret ⟨hr.1,hr.2⟩
   | exit i=>simp only[bu,Dj,Dm] at hr;exact VW.exit ⟨hr.1,hr.2⟩
   | goto i=>simp only[bu,Dj,Dm] at hr;exact VW.goto ⟨hr.1,hr.2⟩
   | scope b =>
    simp only[bu] at hr
    refine VW.scope ?_
    split at hr
    ·simp at hr
    ·rename_i hno
     refine(hC rd b s _ _ hr X r hrd).mono ?_
     rintro e' s'' ⟨rfl,rfl⟩
     exact⟨fun l hl=>by subst hl;exact hno _ _ hr,rfl,rfl⟩
   | refuse w=>simp[bu] at hr
   | seq a b =>
    simp only[bu] at hr
    refine VW.seq ?_
    split at hr
    ·rename_i s1 h1
     refine(hC rd a s _ _ h1 X r hrd).mono ?_
     rintro e' s'' ⟨rfl,rfl⟩
     exact hC rd b _ _ _ hr X r hrd
    ·rename_i hno
     refine(hC rd a s _ _ hr X r hrd).mono ?_
     rintro e' s'' ⟨rfl,rfl⟩
     cases e' with
     | normal=>exact absurd hr (hno _)
     | _=>exact⟨rfl,rfl⟩
   | cond x a b =>
    simp only[bu] at hr
    split at hr
    ·rename_i hx
     exact VW.cond hx (fun _=>hC rd a s _ _ hr X r hrd) (fun h=>by cases h)
    ·rename_i hx
     exact VW.cond hx (fun h=>by cases h) (fun _=>hC rd b s _ _ hr X r hrd)
    ·simp at hr
   | block i b =>
    simp only[bu] at hr
    refine VW.block ?_
    split at hr
    ·rename_i j s1 h1
     refine(hC rd b s _ _ h1 X r hrd).mono ?_
     rintro e' s'' ⟨rfl,rfl⟩
     simp only[oD]
     split at hr<;>rename_i hj
     ·simp only[Dj,Dm] at hr;rw[if_pos hj];exact⟨hr.1,hr.2⟩
     ·simp only[Dj,Dm] at hr;rw[if_neg hj];exact⟨hr.1,hr.2⟩
    ·rename_i hno
     refine(hC rd b s _ _ hr X r hrd).mono ?_
     rintro e' s'' ⟨rfl,rfl⟩
     cases e' with
     | exit j=>exact absurd hr (hno _ _)
     | _=>exact⟨rfl,rfl⟩
   | loop b=>exact(hloop rd b s e s' hr X r hrd).loop
   | region id ops draw =>
    simp only[bu] at hr
    cases draw with
    | false =>
     simp only at hr
     split at hr
     ·rename_i e1 t h h1
      simp only[Dj,Dm] at hr
      obtain⟨rfl,rfl⟩:=hr
      exact VW.regionX hcall h1 ⟨rfl,rfl⟩
     ·simp at hr
    | true =>
     simp only at hr
     split at hr
     ·rename_i t h h1
      simp only[Dj,Dm] at hr
      exact VW.run ok (CallX.toF_ok hcall) h1 ⟨hr.1,hr.2⟩
     ·simp at hr
   | rangeFunc g ps asg body =>
    simp only[bu] at hr
    cases rd with
    | true=>simp at hr
    | false =>
     obtain rfl:=hrd rfl
     simp only at hr
     split at hr
     ·rename_i f fi ca hg
      split at hr
      ·rename_i d h2 h1
       obtain⟨k1,k2⟩:=hF _ _ _ _ h1
       exact VW.rangeFunc ok hg k1 (k2.call.mono fun _ _ hq=>hq.2) hr
      ·simp at hr
     ·simp at hr
  ·intro f args h r hr
   simp only[lz] at hr
   split at hr
   ·rename_i r0 hw
    cases hr
    exact hW _ _ _ _ hw
   split at hr
   ·simp at hr
   rename_i fn hf
   split at hr
   ·simp at hr
   rename_i c hb
   refine⟨by simp[dL,hf,hb],?_⟩
   split at hr
   ·rename_i e s df h1
    exact VRes.of_top ok hf hb hD (uy ok hC hcall _ _ _ _ _ h1) hr
   ·simp at hr
  ·intro b args h d h' hr
   simp only[qi] at hr
   split at hr
   ·rename_i p f ts ps asg body hb
    split at hr
    ·rename_i hlen
     simp only[decide_eq_true_eq] at hlen
     split at hr
     ·rename_i t1 h1 hasg
      split at hr
      ·rename_i p1 f1 ts1 ps1 a1 b1 hb1
       split at hr
       ·rename_i e2 s2 hbody
        exact j9 hb hlen (fun X r _=>hC true asg _ _ _ hasg X r (fun h=>by cases h)) hb1 (fun X r _=>hC true body _ _ _ hbody X r (fun h=>by cases h)) hr
       ·simp at hr
      ·simp at hr
     ·simp at hr
    ·simp at hr
   ·simp at hr
  ·intro g as h u u' h' hr
   simp only[eA] at hr
   split at hr
   ·simp at hr
   rename_i fn hf
   split at hr
   ·simp at hr
   rename_i c hb
   refine⟨by simp[dL,hf,hb],?_⟩
   split at hr
   ·simp at hr
   rename_i ops rest hs
   split at hr
   ·have fin0:∀(t2:List D) (h2:List Blk) (e2:Exit),(e2=.normal∨e2=.ret)→bu P Γ W n false c {t:=bJ fn as,h:=h,m:=[]}=some (e2,{t:=t2,h:=h2,m:=[]})→(match a7 P t2 h2 fn.results.toList with
      | some _=>some (u,h2)
      | none=>none)=some (u',h')→VDef P Γ g as h u fun u2 h2=>u2=u'∧h2=h':=by
     intro t2 h2 e2 he hrun hres
     split at hres
     case h_2=>simp at hres
     rename_i ds hds
     simp only[Dj,Dm] at hres
     obtain⟨rfl,rfl⟩:=hres
     refine VDef.of_plain hf hb fun X=>(hC false c _ _ _ hrun X none (fun _=>rfl)).mono ?_
     rintro e' s'' ⟨rfl,rfl⟩
     exact⟨he,rfl,⟨rfl,rfl⟩,ds,hds⟩
    split at hr
    ·rename_i h3
     exact fin0 _ _ _ (.inl rfl) h3 hr
    ·rename_i h3
     exact fin0 _ _ _ (.inr rfl) h3 hr
    ·simp at hr
   rename_i dst os hro
   have hrec:∃o ats,ops.toList=o::os∧o.op=.call {callee:=.builtin .recover,args:=#[],argTypes:=ats}∧o.guard=none∧o.dst=dst:=by
    unfold recOf at hro
    split at hro
    ·rename_i heq
     simp only[Dj,Dm] at hro
     obtain⟨rfl,rfl⟩:=hro
     exact⟨_,_,heq,rfl,rfl,rfl⟩
    ·simp at hro
   obtain⟨o,ats,h0,ho,hg,rfl⟩:=hrec
   split at hr
   ·simp at hr
   rename_i e1 t1 h1 hops
   have fin:∀(t2:List D) (h2:List Blk) (e2:Exit),(e2=.normal∨e2=.ret)→qh (bu P Γ W n) rest e1 {t:=t1,h:=h1,m:=[]}=some (e2,{t:=t2,h:=h2,m:=[]})→(match a7 P t2 h2 fn.results.toList with
     | some _=>some ((lp u).2,h2)
     | none=>none)=some (u',h')→VDef P Γ g as h u fun u2 h2=>u2=u'∧h2=h':=by
    intro t2 h2 e2 he hrun hres
    split at hres
    case h_2=>simp at hres
    rename_i ds hds
    simp only[Dj,Dm] at hres
    obtain⟨rfl,rfl⟩:=hres
    refine VDef.of_body hcall hf hb hs h0 ho hg hops fun X=>?_
    unfold qh at hrun
    cases rest with
    | none =>
     simp only[Dj,Dm,AS.mk.injEq] at hrun
     obtain⟨rfl,rfl,rfl,_⟩:=hrun
     exact⟨he,rfl,⟨rfl,rfl⟩,ds,hds⟩
    | some d =>
     simp only at hrun ⊢
     split at hrun
     ·refine⟨rfl,(hC false d _ _ _ hrun X none (fun _=>rfl)).mono ?_⟩
      rintro e' s'' ⟨rfl,rfl⟩
      exact⟨he,rfl,⟨rfl,rfl⟩,ds,hds⟩
     ·simp at hrun
   split at hr
   ·rename_i h3
    exact fin _ _ _ (.inl rfl) h3 hr
   ·rename_i h3
    exact fin _ _ _ (.inr rfl) h3 hr
   ·simp at hr
theorem VRes.of_run(ok:POk P){W:FnF}(hW:FnOk P Γ W){n:Nat}{f:FuncId}{args:List D}{h:List Blk}{r:CR}(hr:lz P Γ W n f args h=some r):VRes P Γ f args h r :=
 ((uz ok hW n).2.2.1 f args h _ hr).2
end
def Ev(P:Program)(Γ:ae)(f:FuncId)(args:List D)(h:List Blk)(d:D)(h':List Blk):Prop:=VCall P Γ f args h fun d2 h2=>d2=d∧h2=h'
def Iv(P:Program)(Γ:ae)(x:D)(args:List D)(h:List Blk)(d:D)(h':List Blk):Prop:=VInv P Γ x args h fun d2 h2=>d2=d∧h2=h'
def OpW(P:Program)(Γ:ae)(t:List D)(h:List Blk)(o:Op)(K:D→List Blk→Prop):Prop :=
 match o with
 | .call {callee:=.value fv,args,.. }=>∃d h',Iv P Γ (evalD Γ t fv) (args.toList.map (evalD Γ t)) h d h'∧K d h'
 | op=>∃d h',opSem P Γ t h op=some (true,d,h')∧K d h'
theorem OpW.call{P:Program}{Γ:ae}{t:List D}{h h':List Blk}{d:D}{fv:Operand}{args:Array Operand}{ats:Array TypeId}{K:D→List Blk→Prop}(hi:Iv P Γ (evalD Γ t fv) (args.toList.map (evalD Γ t)) h d h')(hK:K d h'):
  OpW P Γ t h (.call {callee:=.value fv,args,argTypes:=ats}) K:=⟨d,h',hi,hK⟩
theorem OpW.sem{P:Program}{Γ:ae}{t:List D}{h h':List Blk}{d:D}{op:Op}{K:D→List Blk→Prop}(hi:opSem P Γ t h op=some (true,d,h'))(hK:K d h'):OpW P Γ t h op K:=by
 unfold OpW
 split
 ·simp[opSem] at hi
 ·exact⟨d,h',hi,hK⟩
theorem OpW.run{P:Program}{Γ:ae}{t:List D}{h:List Blk}{op:Op}{K:D→List Blk→Prop}(hw:OpW P Γ t h op K):∃call,HS P Γ call∧∃d h',dM P Γ call t h op=some (d,h')∧K d h':=by
 unfold OpW at hw
 split at hw
 ·rename_i fv args ats
  obtain⟨d,h',hi,hK⟩:=hw
  classical
  refine⟨fun x as g=>if x=evalD Γ t fv∧as=args.toList.map (evalD Γ t)∧g=h then some (d,h') else none,?_,d,h',?_,hK⟩
  ·intro x as g d1 h1 hc
   simp only at hc
   split at hc
   ·rename_i he
    obtain⟨rfl,rfl,rfl⟩:=he
    simp only[Dj,Dm] at hc
    obtain⟨rfl,rfl⟩:=hc
    exact hi
   ·simp at hc
  ·simp[dM]
 ·rename_i hno
  obtain⟨d,h',hi,hK⟩:=hw
  refine⟨fun _ _ _=>none,fun _ _ _ _ _ hc=>by simp at hc,d,h',?_,hK⟩
  unfold dM
  split
  ·exact absurd rfl (hno _ _ _)
  ·rw[hi]
def StW(P:Program)(Γ:ae)(m:List Nat)(L:List Oper)(t:List D)(h:List Blk)(o:Oper)(K:D→List Blk→Prop):Prop :=
 ∃call,HS P Γ call∧∃f d' d h',(FixOk f∧bQ P Γ call m L (t.map f) h o=some (d',h')∧Wk d' d)∧K d h'
def OpOk(P:Program)(Γ:ae)(t:List D)(h:List Blk)(o:Op)(d:D)(h':List Blk):Prop:=∃call,HS P Γ call∧dM P Γ call t h o=some (d,h')
theorem OpOk.sem{P:Program}{Γ:ae}{t:List D}{h h':List Blk}{o:Op}{d:D}(hs:opSem P Γ t h o=some (true,d,h')):OpOk P Γ t h o d h':=by
 obtain⟨call,hc,d1,h1,h2,rfl,rfl⟩:=(OpW.sem (K:=fun d1 h1=>d1=d∧h1=h') hs ⟨rfl,rfl⟩).run
 exact⟨call,hc,h2⟩
theorem OpOk.call{P:Program}{Γ:ae}{t:List D}{h h':List Blk}{d:D}{fv:Operand}{args:Array Operand}{ats:Array TypeId}(hi:Iv P Γ (evalD Γ t fv) (args.toList.map (evalD Γ t)) h d h'):
  OpOk P Γ t h (.call {callee:=.value fv,args,argTypes:=ats}) d h':=by
 obtain⟨call,hc,d1,h1,h2,rfl,rfl⟩:=(OpW.call (ats:=ats) (K:=fun d1 h1=>d1=d∧h1=h') hi ⟨rfl,rfl⟩).run
 exact⟨call,hc,h2⟩
theorem OpOk.congr{P:Program}{Γ:ae}{t t':List D}{h h':List Blk}{o:Op}{d:D}(he:∀x∈o.operands,evalD Γ t x=evalD Γ t' x)(ho:OpOk P Γ t h o d h'):OpOk P Γ t' h o d h':=by
 obtain⟨call,hc,hr⟩:=ho
 exact⟨call,hc,by rw[←j4 o he];exact hr⟩
theorem StW.on{P:Program}{Γ:ae}{m:List Nat}{L:List Oper}{t:List D}{h h':List Blk}{o:Oper}{K:D→List Blk→Prop}{d:D}(hg:aB L t o.guard=some true)(ho:OpOk P Γ t h o.op d h')(hm:ah h' m=true)(hK:K d h'):StW P Γ m L t h o K:=by
 obtain⟨call,hc,hr⟩:=ho
 exact⟨call,hc,id,d,d,h',⟨Gs,by rw[FB];unfold bQ;rw[hg,hr];simp[hm],Ht _⟩,hK⟩
theorem StW.off{P:Program}{Γ:ae}{m:List Nat}{L:List Oper}{t:List D}{h:List Blk}{o:Oper}{K:D→List Blk→Prop}(hg:aB L t o.guard=some false)(hK:K (lit undef) h):StW P Γ m L t h o K :=
 ⟨fun _ _ _=>none,fun _ _ _ _ _ hc=>by simp at hc,id,_,_,h,⟨Gs,by rw[FB];unfold bQ;rw[hg],Ht _⟩,hK⟩
theorem StW.spec{P:Program}{Γ:ae}{m:List Nat}{L:List Oper}{t:List D}{h:List Blk}{o:Oper}{K:D→List Blk→Prop}{d:D}{b:Bool}(hg:aB L t o.guard=some b)(ho:b=true→OpOk P Γ (t.map fixD) h o.op d h)(hm:ah h m=true)(hK:K (.grd b d) h):StW P Γ m L t h o K:=by
 cases b with
 | true =>
  obtain⟨call,hc,hr⟩:=ho rfl
  exact⟨call,hc,fixD,d,.grd true d,h,⟨FixOk.fixD,by unfold bQ;rw[lS FixOk.fixD hg,hr];simp[hm],fun _ _ _ _ _ r=>by simpa[Rel] using r⟩,hK⟩
 | false =>
  exact⟨fun _ _ _=>none,fun _ _ _ _ _ hc=>by simp at hc,id,lit undef,.grd false d,h,⟨Gs,by rw[FB];unfold bQ;rw[hg],fun _ _ _ _ _ r=>by simpa[Rel,RelP] using r⟩,hK⟩
theorem dS(w:World){f f0:D→D}(hf:FixOk f)(hf0:FixOk f0){L:List Oper}{t:List D}{g:Option (Nat×Bool)}{b b0:Bool}(h:aB L (t.map f) g=some b)(h0:aB L (t.map f0) g=some b0):b=b0:=by
 unfold aB at h h0
 split at h
 ·simp_all
 ·split at h
  ·rename_i x hx
   simp only[hx] at h0
   rw[aF hf.any] at h
   rw[aF hf0.any] at h0
   generalize t.getD x .any=d at h h0
   obtain⟨g1,y,g2⟩:=fG h w (fun _=>False) (fun _=>none) []
   have g3:=(hf0.both d).1 w (fun _=>False) (fun _=>none) [] y ((hf.both d).2 w (fun _=>False) (fun _=>none) [] y g2)
   rw[←g1 y g2,←(fG h0 w (fun _=>False) (fun _=>none) []).1 y g3]
  ·simp_all
def RW(P:Program)(Γ:ae)(m:List Nat)(L:List Oper)(c:Bool):List Oper→List D→List Blk→(List D→List Blk→Prop)→Prop
 | [],t,h,K=>K t h
 | o::os,t,h,K=>StW P Γ m L t h o fun d h'=>(c=true→h'=h)∧RW P Γ m L c os (putD t o.dst d) h' K
theorem RW.runR{P:Program}{Γ:ae}{m:List Nat}{L:List Oper}{K:List D→List Blk→Prop}:∀(os:List Oper) (t:List D) (h:List Blk),RW P Γ m L true os t h K →
  ∃tF hs ts,Vi.runR P Γ m L Wk FixOk os t h tF hs ts∧K tF h∧(∀k,k≤os.length→hs.getD k []=h)
 | [],t,h,hw=>⟨t,[h],[],⟨rfl,rfl,rfl⟩,hw,fun k hk=>by simp at hk;subst hk;rfl⟩
 | o::os,t,h,hw=>by
  obtain⟨call,hc,f,d',d,h',h1,h2,h3⟩:=hw
  obtain rfl:=h2 rfl
  obtain⟨tF,hs,ts,g1,g2,g3⟩:=RW.runR os _ _ h3
  exact⟨tF,h'::hs,t::ts,⟨call,f,d',d,h',hs,ts,hc,h1,g1,rfl,rfl⟩,g2,fun k hk=>by
   cases k with
   | zero=>rfl
   | succ k=>simpa using g3 k (by simpa using hk)⟩
section
variable {P:Program} {Γ:ae} {X:Ctx} {r:Option Nat} {Q:Exit→AS→Prop} {t:List D} {h:List Blk} {m:List Nat}
theorem ka{L:List Oper}{ops:Array Oper}(hL:ops.toList=L){o:Oper}{K:Act→World→Prop}{Q':Exit→Act→World→Prop}{Kd:D→List Blk→Prop}(hw:StW P Γ m L t h o Kd)
  (hK:∀d h' a' w',Kd d h'→St Γ X {t:=putD t o.dst d,h:=h',m:=m} a' w'→K a' w') {a:Act} {w:World} (hs:St Γ X {t:=t,h:=h,m:=m} a w) :
  if Ef o (yielded ops a.tmps) then o.wpIn (FW r) 0 P a w K Q' else (∀f,o.about P w a.eval=some f→(FW r).fn f)∧K (a.put o.dst undef) w:=by
 subst hL
 obtain⟨call,hc,f,dw,d,h',⟨hfx,h1,hwk⟩,h2⟩:=hw
 have hsf:St Γ X {t:=t.map f,h:=h,m:=m} a w:=hs.fix hfx
 unfold bQ at h1
 split at h1
 ·rename_i hg
  have hwt:Ef o (yielded ops a.tmps)=true:=by
   obtain⟨l,R,E,rt,rd⟩:=hsf
   exact am rt hg
  rw[if_pos hwt]
  split at h1
  ·rename_i d1 h1' hop
   split at h1
   ·rename_i hm
    simp only[Dj,Dm] at h1
    obtain⟨rfl,rfl⟩:=h1
    exact gr (s:={t:=t.map f,h:=h,m:=m}) hc hop hm (fun a' w' hs'=>hK _ _ a' w' h2 (HM hfx hwk hs')) hsf
   ·simp at h1
  ·simp at h1
 ·rename_i hg
  simp only[Dj,Dm] at h1
  obtain⟨rfl,rfl⟩:=h1
  have hwt:Ef o (yielded ops a.tmps)=false:=by
   obtain⟨l,R,E,rt,rd⟩:=hsf
   exact am rt hg
  rw[if_neg (by simp[hwt])]
  exact⟨fun _ _=>trivial,hK _ _ _ _ h2 (HM hfx hwk (St.skip (s:={t:=t.map f,h:=h,m:=m}) o.dst hsf))⟩
 ·simp at h1
theorem RW.sound{ops:Array Oper}:∀(os:List Oper) (i:Nat) (t:List D) (h:List Blk),ops.toList.drop i=os→RW P Γ m ops.toList false os t h (fun t' h'=>Q .normal {t:=t',h:=h',m:=m}) →
  ∀(a:Act) (w:World),St Γ X {t:=t,h:=h,m:=m} a w→wpOpsIn (FW r) 0 P ops (eu Γ X Q) (List.range' i os.length) a w:=by
 intro os
 induction os with
 | nil =>
  intro i t h hd hr a w hs
  exact⟨by simp,_,hr,hs⟩
 | cons o os ih =>
  intro i t h hd hr a w hs
  have ho:ops[i]? = some o:=by
   rw[←Array.getElem?_toList]
   have:=congrArg (·[0]?) hd
   simpa using this
  have hd':ops.toList.drop (i+1)=os:=by
   have:=congrArg (List.drop 1) hd
   simpa[Nat.add_comm] using this
  simp only[List.length_cons,List.range'_succ,wpOpsIn,ho]
  exact ka rfl hr (fun d h' a' w' hk hs'=>ih (i+1) _ _ hd' hk.2 a' w' hs') hs
theorem VW.regionW{id:Nat}{ops:Array Oper}(hr:RW P Γ m ops.toList false ops.toList t h (fun t' h'=>Q .normal {t:=t',h:=h',m:=m})):VW P Γ X r (.region id ops false) Q {t:=t,h:=h,m:=m}:=fun a w hs =>
 wpIn_region (by
  have:=RW.sound (r:=r) (X:=X) (Q:=Q) ops.toList 0 t h (by simp) hr a w hs
  simpa[List.range_eq_range'] using this)
end
mutual
def D.mapR(f:Ref→D):D→D
 | .ref r=>f r
 | .fn g a b=>.fn g (D.mapRL f a) (D.mapRL f b)
 | .agg cs=>.agg (D.mapRL f cs)
 | .tup cs=>.tup (D.mapRL f cs)
 | .grd g d=>.grd g (D.mapR f d)
 | .p x=>.p x
 | .any=>.any
 | .ep cs=>.ep cs
 | .csl es=>.csl es
def D.mapRL(f:Ref→D):List D→List D
 | []=>[]
 | d::ds=>D.mapR f d::D.mapRL f ds
end
def Blk.mapR(f:Ref→D):Blk→Blk
 | .var cs=>.var (D.mapRL f cs)
 | .vec es e sz=>.vec (es.map (D.mapRL f)) e sz
 | .map kvs clock=>.map (kvs.map fun e=>(D.mapR f e.1,D.mapR f e.2.1,e.2.2)) clock
 | .loop st pend fn ts ps asg body=>.loop st pend fn (D.mapRL f ts) ps asg body
 | x=>x
theorem eB(f:Ref→D):∀ds:List D,(D.mapRL f ds).length=ds.length
 | []=>rfl
 | _::ds=>by simp[D.mapRL,eB f ds]
theorem i3(f:Ref→D):∀xs ys:List D,D.mapRL f (xs++ys)=D.mapRL f xs++D.mapRL f ys
 | [],_=>rfl
 | x::xs,ys=>by simp[D.mapRL,i3 f xs ys]
theorem dT(f:Ref→D):∀es:List (List D),D.mapRL f es.flatten=(es.map (D.mapRL f)).flatten
 | []=>rfl
 | e::es=>by simp[i3,dT f es]
theorem lX(f:Ref→D):∀ds:List Dp,D.mapRL f (ds.map .p)=ds.map .p
 | []=>rfl
 | d::ds=>by simp[D.mapRL,D.mapR,lX f ds]
theorem lY(f:Ref→D)(es:List (List Dp)):(es.map (·.map D.p)).map (D.mapRL f)=es.map (·.map D.p):=by
 simp[Function.comp_def,lX]
section
variable {w:World} {av av':Nat→Prop} {l:Loc} {h h':List Blk} {f:Ref→D}
mutual
theorem jt(ha:∀k,av' k→av k)(hf:∀r y,RefRel l h r y→Rel w av' l h' (f r) y):∀{d:D} {y:Value},Rel w av l h d y→Rel w av' l h' (D.mapR f d) y
 | .p _,_,r=>by simp only[Rel,D.mapR] at r ⊢;exact cW ha r
 | .any,_,_=>by simp[Rel,D.mapR]
 | .ref r,y,rr=>by simp only[D.mapR];exact hf r y (by simpa only [Rel] using rr)
 | .ep _,_,r=>by
  simp only[Rel,D.mapR] at r ⊢
  obtain⟨blk,off,r1,r2⟩:=r
  exact⟨blk,off,r1,aq ha r2⟩
 | .csl _,_,r=>by
  simp only[Rel,D.mapR] at r ⊢
  rcases r with r|⟨blk,off,sz,r1,r2⟩
  ·exact .inl r
  ·exact .inr ⟨blk,off,sz,r1,bh ha r2⟩
 | .fn _ _ _,_,r=>by
  simp only[Rel,D.mapR] at r ⊢
  obtain⟨a,c,r1,r2,r3⟩:=r
  exact⟨a,c,r1,bB ha hf r2,bB ha hf r3⟩
 | .agg _,_,r=>by
  simp only[Rel,D.mapR] at r ⊢
  obtain⟨vs,r1,r2⟩:=r
  exact⟨vs,r1,bB ha hf r2⟩
 | .tup _,_,r=>by
  simp only[Rel,D.mapR] at r ⊢
  obtain⟨vs,r1,r2⟩:=r
  exact⟨vs,r1,bB ha hf r2⟩
 | .grd _ _,_,r=>by
  simp only[Rel,D.mapR] at r ⊢
  exact⟨fun hg=>jt ha hf (r.1 hg),r.2⟩
theorem bB(ha:∀k,av' k→av k)(hf:∀r y,RefRel l h r y→Rel w av' l h' (f r) y):∀{ds:List D} {ys:List Value},RelL w av l h ds ys→RelL w av' l h' (D.mapRL f ds) ys
 | [],[],_=>by simp[RelL,D.mapRL]
 | [],_::_,r=>by simp[RelL] at r
 | _::_,[],r=>by simp[RelL] at r
 | _::_,_::_,r=>by
  simp only[RelL,D.mapRL] at r ⊢
  exact⟨jt ha hf r.1,bB ha hf r.2⟩
end
theorem lZ(ha:∀k,av' k→av k)(hf:∀r y,RefRel l h r y→Rel w av' l h' (f r) y):∀{kvs:List (D×D×Nat)} {es:List MapEntry},RelKV w av l h kvs es →
  RelKV w av' l h' (kvs.map fun e=>(D.mapR f e.1,D.mapR f e.2.1,e.2.2)) es
 | [],[],_=>by simp[RelKV]
 | [],_::_,r=>by simp[RelKV] at r
 | _::_,[],r=>by simp[RelKV] at r
 | (k,d,m)::kvs,e::es,r=>by
  simp only[RelKV,Fm] at r ⊢
  exact⟨jt ha hf r.1,jt ha hf r.2.1,r.2.2.1,lZ ha hf r.2.2.2⟩
theorem l4(ha:∀k,av' k→av k)(hf:∀r y,RefRel l h r y→Rel w av' l h' (f r) y)(hm:∀b y,RefRel l h (.mp b) y→RefRel l h' (.mp b) y){b:Nat}{x:Blk}(r:BlkOk w av l h b x):BlkOk w av' l h' b (x.mapR f):=by
 cases x with
 | var cs =>
  obtain⟨blk,cp,c,T,r1,r2,r3⟩:=r
  exact⟨blk,cp,c,T,r1,r2,bB ha hf r3⟩
 | vec es e sz =>
  unfold BlkOk at r ⊢
  simp only[Blk.mapR] at r ⊢
  split
  ·rename_i h0;rw[h0] at r;simp only at r;rw[r];rfl
  ·rename_i blk cap h0
   rw[h0] at r
   obtain⟨oo,cc,rc,c,T,fr,ys,r1,r2,r3,r4,r5,r6,r7⟩:=r
   refine⟨oo,cc,rc,c,T,fr,ys,r1,r2,by simpa using r3,r4,?_,?_,r7⟩
   ·intro e he
    obtain⟨e0,he0,rfl⟩:=Eb.1 he
    rw[eB];exact r5 e0 he0
   ·rw[←dT];exact bB ha hf r6
 | map kvs clock =>
  obtain⟨blk,cp,es,r1,r2,r3⟩:=r
  exact⟨blk,cp,es,r1,r2,lZ ha hf r3⟩
 | sit s pos=>exact r
 | mit m since seen st =>
  obtain⟨blk,cp,mr,r1,r2,r3⟩:=r
  refine⟨blk,cp,mr,r1,r2,?_⟩
  cases m with
  | none=>exact r3
  | some mb=>exact hm mb _ r3
 | loop st pend fn tmps params asg body =>
  obtain⟨blk,cp,ts,dr,fn',r1,r2,r3,r4⟩:=r
  exact⟨blk,cp,ts,dr,fn',r1,r2,bB ha hf r3,r4⟩
 | defd=>exact r
 | gone=>trivial
end
theorem kb{f:Ref→D}{x:Blk}:x.mapR f=.gone ↔ x=.gone:=by cases x<;>simp[Blk.mapR]
def mapH(f:Ref→D)(b:Nat)(xb:Blk)(h:List Blk):List Blk:=(h.map (Blk.mapR f)).set b xb
def Ref.blk:Ref→Nat
 | .ptr b _ | .vec b _ | .vs b _ _ _ _ | .av b _ _ _ | .vp b _ _ _ | .mp b | .it b | .yl b=>b
section
variable {Γ:ae} {O:Nat→Prop} {w w0:World} {l l0:Loc} {h h0:List Blk} {f:Ref→D} {b:Nat} {xb x0:Blk}
theorem eC{i:Nat}(hi:i ≠ b):(mapH f b xb h)[i]? = (h[i]?).map (Blk.mapR f):=by
 unfold mapH
 rw[GA (Ne.symm hi),E5]
theorem kc(hb:h[b]? = some x0):(mapH f b xb h)[b]? = some xb:=by
 unfold mapH
 have:=(Dq.1 hb).1
 rw[IA (by simpa using this)]
theorem na(hb:h[b]? = some x0)(hg:x0 ≠ .gone){k:Nat}(ho:own l (mapH f b xb h) k):own l h k:=by
 obtain⟨i,x,cp,h1,h2,h3⟩:=ho
 by_cases hi:i=b
 ·subst hi;exact⟨i,x0,cp,hb,hg,h3⟩
 ·rw[eC hi] at h1
  cases hx:h[i]? with
  | none=>rw[hx] at h1;simp at h1
  | some y =>
   rw[hx] at h1
   simp only[Ea,Dj] at h1
   subst h1
   exact⟨i,y,cp,hx,fun e=>h2 (kb.2 e),h3⟩
theorem gC(hb:h[b]? = some x0)(hg:x0 ≠ .gone){k:Nat}(ho:avs O l (mapH f b xb h) k):avs O l h k:=ho.imp id (na hb hg)
theorem dU{r:Ref}{y:Value}(hr:r.blk ≠ b)(rr:RefRel l h r y):RefRel l (mapH f b xb h) r y:=by
 have key:(mapH f b xb h)[r.blk]? = (h[r.blk]?).map (Blk.mapR f):=eC hr
 unfold RefRel at rr ⊢
 refine⟨rr.1,?_⟩
 have rr:=rr.2
 cases hx:h[r.blk]? with
 | none=>cases r<;>simp only[Ref.blk] at hx<;>simp only[hx] at rr
 | some x =>
  rw[hx] at key
  cases r<;>simp only[Ref.blk] at hx key<;>simp only[hx] at rr<;>simp only[key,Ea]<;>cases x<;>simp[Blk.mapR] at rr ⊢ <;> exact rr
theorem zS{x y:Blk}(h:x.le y):x.le (y.mapR f)∧(x.stays (y.mapR f)→x.stays y):=by
 cases x<;>cases y<;>simp only[Blk.le] at h<;>simp_all[Blk.le,Blk.mapR,HK]
theorem Rep.mapH(R:Rep Γ O w l h)(hb:h[b]? = some x0)(hg:x0 ≠ .gone)(hf:∀r y,RefRel l h r y→Rel w (avs O l (mapH f b xb h)) l (mapH f b xb h) (f r) y)
  (hok:BlkOk w (avs O l (mapH f b xb h)) l (mapH f b xb h) b xb) (hm:∀y,¬RefRel l h (.mp b) y):Rep Γ O w l (mapH f b xb h) where
 inb blk ho:=R.inb blk (na hb hg ho)
 obd:=R.obd
 inj i i' x x' k c c' h1 h2 h3 h4 h5 h6:=by
  have back:∀{i:Nat} {x:Blk},(Vi.mapH f b xb h)[i]? = some x→x ≠ .gone→∃y,h[i]? = some y∧y ≠ .gone:=by
   intro i x h1 h2
   by_cases hi:i=b
   ·subst hi;exact⟨x0,hb,hg⟩
   ·rw[eC hi] at h1
    cases hx:h[i]? with
    | none=>rw[hx] at h1;simp at h1
    | some y =>
     rw[hx] at h1
     simp only[Ea,Dj] at h1
     subst h1
     exact⟨y,rfl,fun e=>h2 (kb.2 e)⟩
  obtain⟨y,e1,e2⟩:=back h1 h2
  obtain⟨y',e3,e4⟩:=back h3 h4
  exact R.inj i i' y y' k c c' e1 e2 e3 e4 h5 h6
 blk i x h1:=by
  by_cases hi:i=b
  ·subst hi
   rw[kc hb] at h1
   cases h1
   exact hok
  ·rw[eC hi] at h1
   cases hx:h[i]? with
   | none=>rw[hx] at h1;simp at h1
   | some y =>
    rw[hx] at h1
    simp only[Ea,Dj] at h1
    subst h1
    refine l4 (fun _=>gC hb hg) hf (fun c y hr=>?_) (R.blk i y hx)
    by_cases hc:c=b
    ·subst hc;exact absurd hr (hm y)
    ·exact dU (by simpa[Ref.blk] using hc) hr
 glo g cs hg':=aq (fun _=>gC hb hg) (R.glo g cs hg')
theorem Ext.mapH(E:Ext w0 l0 h0 w l h)(hb:h[b]? = some x0)(hg:x0 ≠ .gone)(hle:∀x,h0[b]? = some x→x.le x0→x.le xb∧(x.stays xb→x.stays x0)):Ext w0 l0 h0 w l (mapH f b xb h) where
 size:=E.size
 same:=E.same
 news blk ho:=E.news blk (na hb hg ho)
 keep i x hx:=by
  obtain⟨x',h1,h2,h3⟩:=E.keep i x hx
  by_cases hi:i=b
  ·subst hi
   rw[hb] at h1
   cases h1
   obtain⟨g1,g2⟩:=hle x hx h2
   exact⟨xb,kc hb,g1,fun hs=>h3 (g2 hs)⟩
  ·obtain⟨g1,g2⟩:=zS (f:=f) h2
   exact⟨_,by rw[eC hi,h1];rfl,g1,fun hs=>h3 (g2 hs)⟩
 tape:=E.tape
end
def zi(b e:Nat)(rows:List (List Dp))(r:Ref):D:=match r.blk==b with
 | false=>.ref r
 | true=>match r with
  | .vec _ e1=>match e1==e with
   | true=>.p (.sl rows)
   | false=>.any
  | _=>.any
def lr(b e k:Nat)(r:Ref):D:=match r.blk==b with
 | false=>.ref r
 | true=>match r with
  | .vec _ e1=>match e1==e with
   | true=>.ref (.vec b k)
   | false=>.any
  | .vs _ e1 i n c=>match e1==e with
   | true=>.ref (.vs b k i n c)
   | false=>.any
  | .vp _ e1 i j=>match e1==e with
   | true=>.ref (.vp b k i j)
   | false=>.any
  | _=>.any
section
variable {Γ:ae} {O:Nat→Prop} {w w0:World} {l l0:Loc} {h h0:List Blk} {b:Nat}
theorem fN{av av':Nat→Prop}(ha:∀k,av' k→av k){blk:Nat}(hb:¬av' blk):∀(e:List Dp) (off:Nat),CellsAt w av l h blk off (e.map .p)→RelCells w av' blk off e
 | [],_,_=>trivial
 | d::ds,off,c=>by
  obtain⟨y,h1,h2⟩:=c 0 (.p d) (by simp)
  refine⟨⟨hb,y,by simpa using h1,cW ha (by simpa[Rel] using h2)⟩,fN ha hb ds (off+1) fun j d' hd=>?_⟩
  obtain⟨y',h3,h4⟩:=c (j+1) d' (by simpa using hd)
  exact⟨y',by rw[←h3];congr 2;omega,h4⟩
theorem iv{av:Nat→Prop}{blk c:Nat}:∀(es:List (List Dp)) (off:Nat),(∀i e,es[i]? = some e→e.length=c∧RelCells w av blk (off+i*c) e)→RelRows w av blk c off es
 | [],_,_=>trivial
 | e::es,off,h=>by
  obtain⟨h1,h2⟩:=h 0 e rfl
  refine⟨h1,by simpa using h2,iv es (off+c) fun i e' he=>?_⟩
  obtain⟨h3,h4⟩:=h (i+1) e' (by simpa using he)
  refine⟨h3,?_⟩
  rw[show off+c+i*c=off+(i+1)*c by rw[Nat.add_mul];omega]
  exact h4
theorem zT(R:Rep Γ O w l h){rows:List (List Dp)}{e sz:Nat}(hb:h[b]? = some (.vec (rows.map (·.map .p)) e sz)){r:Ref}{y:Value}(rr:RefRel l h r y)
  {f:Ref→D}:Rel w (avs O l (mapH f b .gone h)) l (mapH f b .gone h) (zi b e rows r) y:=by
 unfold zi
 split
 ·rename_i hr
  simp only[Rel]
  exact dU (by simpa using hr) rr
 ·rename_i hr
  split
  ·rename_i b1 e1
   split
   ·rename_i he
    have hr:b1=b:=by simpa[Ref.blk] using hr
    have he:e1=e:=by simpa using he
    subst hr;subst he
    have hk:=R.blk _ _ hb
    unfold RefRel at rr
    simp only[hb] at rr
    have hv:=rr.2.2 trivial
    unfold BlkOk at hk
    simp only at hk
    simp only[Rel,RelP]
    cases hl:l b1 with
    | none =>
     rw[hl] at hv hk
     simp only[ga] at hv hk
     exact .inl ⟨by simpa using hk,none,0,hv.2,fun _=>rfl⟩
    | some p =>
     obtain⟨blk,cap⟩:=p
     rw[hl] at hv hk
     simp only[ga] at hv hk
     obtain⟨oo,cc,rfl,hv1,hv2⟩:=hv
     obtain⟨o2,c2,rc,c,T,fr,ys,q1,q2,q3,q4,q5,q6,pre,rest,q0,q7⟩:=hk
     obtain⟨rfl,rfl⟩:=b6 rc
     refine .inr ⟨blk,oo,cc,sz,by simpa using hv1,by simpa using hv2,?_⟩
     have hcell:¬avs O l (Vi.mapH f b1 .gone h) blk:=by
      rintro (ho|⟨i,x,cp,h1,h2,h3⟩)
      ·exact(R.inb blk ⟨b1,_,_,hb,by simp,hl⟩).2 ho
      ·by_cases hi:i=b1
       ·subst hi;rw[kc hb] at h1;cases h1;exact h2 rfl
       ·rw[eC hi] at h1
        cases hx:h[i]? with
        | none=>rw[hx] at h1;simp at h1
        | some z =>
         rw[hx] at h1
         simp only[Ea,Dj] at h1
         subst h1
         exact hi (R.inj i b1 z _ blk cp _ hx (fun e=>h2 (kb.2 e)) hb (by simp) h3 hl)
     refine iv rows oo fun i e1 he1=>?_
     have hlen:e1.length=sz:=by
      have:=q5 (e1.map .p) (Eb.2 ⟨e1,D1 he1,rfl⟩)
      simpa using this
     refine⟨hlen,fN (l:=l) (h:=h) (av:=avs O l h) (av':=avs O l (Vi.mapH f b1 .gone h)) (fun _ ho=>gC hb (by simp) ho) hcell e1 _ ?_⟩
     exact(CellsAt.of_relO (loc:=l) (h:=h) q1 q0 q7 q6).rowO q5 (by rw[E5,he1];rfl)
   ·simp[Rel]
  ·simp[Rel]
theorem zU{es es':List (List D)}(hlen:es'.length=es.length){e k sz:Nat}(hb:h[b]? = some (.vec es e sz)){av:Nat→Prop}{r:Ref}{y:Value}(rr:RefRel l h r y){f:Ref→D}:
  Rel w av l (mapH f b (.vec es' k sz) h) (lr b e k r) y:=by
 have hb':(mapH f b (.vec es' k sz) h)[b]? = some (.vec es' k sz):=kc hb
 unfold lr
 split
 ·rename_i hr
  simp only[Rel]
  exact dU (by simpa using hr) rr
 ·rename_i hr
  split
  ·rename_i b1 e1
   split
   ·rename_i he
    have hr:b1=b:=by simpa[Ref.blk] using hr
    have he:e1=e:=by simpa using he
    subst hr;subst he
    unfold RefRel at rr
    simp only[hb] at rr
    simp only[Rel]
    unfold RefRel
    simp only[hb']
    exact⟨rr.1,DJ _,fun _=>by rw[hlen];exact rr.2.2 trivial⟩
   ·simp[Rel]
  ·rename_i b1 e1 i n c
   split
   ·rename_i he
    have hr:b1=b:=by simpa[Ref.blk] using hr
    have he:e1=e:=by simpa using he
    subst hr;subst he
    unfold RefRel at rr
    simp only[hb] at rr
    simp only[Rel]
    unfold RefRel
    simp only[hb']
    exact⟨rr.1,DJ _,fun _=>by rw[hlen];exact rr.2.2 trivial⟩
   ·simp[Rel]
  ·rename_i b1 e1 i j
   split
   ·rename_i he
    have hr:b1=b:=by simpa[Ref.blk] using hr
    have he:e1=e:=by simpa using he
    subst hr;subst he
    unfold RefRel at rr
    simp only[hb] at rr
    simp only[Rel]
    unfold RefRel
    simp only[hb']
    exact⟨rr.1,DJ _,fun _=>rr.2.2 trivial⟩
   ·simp[Rel]
  ·simp[Rel]
end
inductive SOp where
 | mask (ks:List Nat)
 | trim (k:Nat)
 | trimV (k:Nat)
 | frz (b:Nat) (rows:List (List Dp))
 | ren (b k:Nat)
 | nilT (i sz:Nat)
 | nilC (b off sz:Nat)
def AllP:List Prop→Prop
 | []=>True
 | p::ps=>p∧AllP ps
theorem AllP.n:AllP []:=trivial
theorem AllP.c{p:Prop}{ps:List Prop}(h:p)(hs:AllP ps):AllP (p::ps):=⟨h,hs⟩
theorem AllP.e{ps:List Prop}(d:D)(hs:AllP ps):AllP ((d=d)::ps):=⟨rfl,hs⟩
theorem AllP.f{ps:List Prop}(hs:AllP ps):AllP (((false==true)=false)::ps):=⟨rfl,hs⟩
theorem AllP.er{α:Type}{ps:List Prop}(x:α)(hs:AllP ps):AllP ((x=x)::ps):=⟨rfl,hs⟩
theorem AllP.append{ps qs:List Prop}(h:AllP (ps++qs)):AllP ps∧AllP qs:=by
 induction ps with
 | nil=>exact⟨trivial,h⟩
 | cons p ps ih=>exact⟨⟨h.1,(ih h.2).1⟩,(ih h.2).2⟩
def uA(x:Nat):List Nat→Bool
 | []=>false
 | y::ys=>x==y||uA x ys
theorem dV{x:Nat}:∀{ys:List Nat},uA x ys=true ↔ x∈ys
 | []=>by simp[uA]
 | y::ys=>by simp[uA,dV (ys:=ys)]
def qj(ks:List Nat):Nat→List D→List D
 | _,[]=>[]
 | i,d::ds=>(match uA i ks with|true=>d|false=>.any)::qj ks (i+1) ds
theorem nb(ks:List Nat):∀(i:Nat) (t:List D),(qj ks i t).length=t.length∧∀x,Wk (t.getD x .any) ((qj ks i t).getD x .any)
 | _,[]=>⟨rfl,fun x=>Ht _⟩
 | i,d::ds=>by
  obtain⟨h1,h2⟩:=nb ks (i+1) ds
  refine⟨by simp[qj,h1],fun x=>?_⟩
  cases x with
  | zero =>
   simp only[qj,List.getD_cons_zero]
   split
   ·exact Ht _
   ·exact fun _ _ _ _ _ _=>by simp[Rel]
  | succ x=>simpa[qj] using h2 x
def uB(ks:List Nat)(s:AS):AS:={t:=qj ks 0 s.t,h:=s.h,m:=s.m}
theorem DefOk.take{D0:List Deferred}{l:Loc}{h:List Blk}{k:Nat}:∀{bs:List Nat} {ds:List Deferred},(bs.all fun b=>Qd (b<k))=true→DefOk D0 l h bs ds→DefOk D0 l (h.take k) bs ds
 | [],_,_,r=>r
 | b::bs,d::ds,hb,r=>by
  simp only[DefOk,Fq,Dr,decide_eq_true_eq] at r hb ⊢
  obtain⟨⟨blk,cp,h1,h2,h3⟩,h4⟩:=r
  exact⟨⟨blk,cp,by rw[take_get hb.1];exact h1,h2,h3⟩,DefOk.take (by simpa using hb.2) h4⟩
 | _::_,[],_,r=>by simp[DefOk] at r
theorem Ext.takeN{w0 w:World}{l0 l:Loc}{h0 h:List Blk}{k:Nat}(hk:h0.length≤k)(E:Ext w0 l0 h0 w l h):Ext w0 l0 h0 w l (h.take k) where
 size:=E.size
 same:=E.same
 news blk ho:=E.news blk (jo ho)
 keep b x hb:=by
  have:b<h0.length:=by
   rw[Dq] at hb
   exact hb.1
  rw[take_get (by omega)]
  exact E.keep b x hb
 tape:=E.tape
def Blk.innC(k:Nat):Blk→Bool
 | .vec _ _ _=>true
 | .map _ _=>true
 | x=>D6 k x
def Blk.innP(k:Nat):Blk→List Prop
 | .vec es _ _=>[es.all (D.innL k)=true]
 | .map kvs _=>[(kvs.all fun e=>D.inn k e.1&&D.inn k e.2.1)=true]
 | _=>[]
def ke(k:Nat):List Blk→List Prop
 | []=>[]
 | x::xs=>Blk.innP k x++ke k xs
theorem uC{k:Nat}{x:Blk}(h1:Blk.innC k x=true)(h2:AllP (Blk.innP k x)):D6 k x=true:=by
 cases x<;>first|exact h1|exact h2.1
theorem rg{k:Nat}:∀{h:List Blk},h.all (Blk.innC k)=true→AllP (ke k h)→h.all (D6 k)=true
 | [],_,_=>rfl
 | x::xs,h1,h2=>by
  simp only[Fq,Dr] at h1 ⊢
  simp only[ke] at h2
  obtain⟨p1,p2⟩:=h2.append
  exact⟨uC h1.1 p1,rg h1.2 p2⟩
def trimC(k:Nat)(s:AS):Option AS:=match D.innL k s.t&&(s.h.take k).all (Blk.innC k)&&s.m.all (fun b=>Qd (b<k)) with
 | true=>some {t:=s.t,h:=s.h.take k,m:=s.m}
 | false=>none
def lA(f:Ref→D):Blk→List Prop
 | .vec es _ _=>[es.map (D.mapRL f)=es]
 | .map kvs _=>[kvs.map (fun e=>(D.mapR f e.1,D.mapR f e.2.1,e.2.2))=kvs]
 | _=>[]
def keepX(f:Ref→D):Blk→Blk
 | .vec es e sz=>.vec es e sz
 | .map kvs c=>.map kvs c
 | x=>x.mapR f
theorem ju{f:Ref→D}{x:Blk}(h:AllP (lA f x)):keepX f x=x.mapR f:=by
 cases x<;>simp only[keepX,Blk.mapR]
 ·rw[h.1]
 ·rw[h.1]
def oQ(f:Ref→D)(b:Nat)(xb:Blk):Nat→List Blk→List Blk
 | _,[]=>[]
 | i,x::xs=>(match i==b with|true=>xb|false=>keepX f x)::oQ f b xb (i+1) xs
def s9(f:Ref→D)(b:Nat):Nat→List Blk→List Prop
 | _,[]=>[]
 | i,x::xs=>(match i==b with|true=>[]|false=>lA f x)++s9 f b (i+1) xs
theorem oS{f:Ref→D}{b:Nat}{xb:Blk}:∀(i:Nat) (h:List Blk),AllP (s9 f b i h)→∀j,(oQ f b xb i h)[j]? = if i+j=b then (h[j]?).map (fun _=>xb) else (h[j]?).map (Blk.mapR f)
 | i,[],_,j=>by simp[oQ]
 | i,x::xs,hp,j=>by
  simp only[s9] at hp
  obtain⟨p1,p2⟩:=hp.append
  cases j with
  | zero =>
   simp only[oQ,List.getElem?_cons_zero,Nat.add_zero,Ea]
   by_cases hi:i=b
   ·simp[hi]
   ·have:(i==b)=false:=by simpa using hi
    rw[this] at p1 ⊢
    simp[hi,ju p1]
  | succ j =>
   simp only[oQ,List.getElem?_cons_succ]
   rw[oS (i+1) xs p2 j]
   rw[show i+1+j=i+(j+1) by omega]
theorem rj{f:Ref→D}{b:Nat}{xb x0:Blk}{h:List Blk}(hb:h[b]? = some x0)(hp:AllP (s9 f b 0 h)):oQ f b xb 0 h=mapH f b xb h:=by
 apply List.ext_getElem?
 intro j
 rw[oS 0 h hp j]
 by_cases hj:j=b
 ·subst hj;rw[kc hb,hb];simp
 ·rw[eC hj,if_neg (by omega)]
def zV(k:Nat):List Blk→List Prop
 | []=>[]
 | x::xs=>(D6 k x=true)::zV k xs
theorem rn{k:Nat}:∀{h:List Blk},AllP (zV k h)→h.all (D6 k)=true
 | [],_=>rfl
 | x::xs,h=>by
  simp only[Fq,Dr]
  exact⟨h.1,rn h.2⟩
def zj(k:Nat)(s:AS):Option AS:=match D.innL k s.t&&s.m.all (fun b=>Qd (b<k)) with
 | true=>some {t:=s.t,h:=s.h.take k,m:=s.m}
 | false=>none
def renOk(h0:List Blk)(b k:Nat):Bool:=match h0[b]? with
 | some (.vec _ e0 _)=>Qd (e0<k)
 | some _=>false
 | none=>true
def isNil:D→Bool
 | .p (.v (.slice none 0 0))=>true
 | _=>false
def SOp.app(h0:List Blk):SOp→AS→Option (AS×List Prop)
 | .mask ks,s=>some (uB ks s,[])
 | .trim k,s=>match Qd (h0.length≤k) with
  | true=>match trimC k s with
   | some s'=>some (s',ke k (s.h.take k))
   | none=>none
  | false=>none
 | .trimV k,s=>match Qd (h0.length≤k) with
  | true=>match zj k s with
   | some s'=>some (s',zV k (s.h.take k))
   | none=>none
  | false=>none
 | .frz b rows,s=>match s.h[b]? with
  | some (.vec es e _)=>some ({t:=D.mapRL (zi b e rows) s.t,h:=oQ (zi b e rows) b .gone 0 s.h,m:=s.m},(es=rows.map (·.map .p))::s9 (zi b e rows) b 0 s.h)
  | _=>none
 | .ren b k,s=>match s.h[b]? with
  | some (.vec es e sz)=>match renOk h0 b k with
   | true=>some ({t:=D.mapRL (lr b e k) s.t,h:=oQ (lr b e k) b (.vec es k sz) 0 s.h,m:=s.m},(es.map (D.mapRL (lr b e k))=es)::s9 (lr b e k) b 0 s.h)
   | false=>none
  | _=>none
 | .nilT i sz,s=>match isNil (s.t.getD i .any)&&ah (s.h++[GC [] 0 sz]) s.m with
  | true=>some ({t:=s.t.set i (.ref (.vec s.h.length 0)),h:=s.h++[GC [] 0 sz],m:=s.m},[])
  | false=>none
 | .nilC b off sz,s=>match s.h[b]? with
  | some (.var cs)=>match isNil (cs.getD off .any)&&(ah (s.h++[GC [] 0 sz]) s.m&&ah ((s.h++[GC [] 0 sz]).set b (.var (cs.set off (.ref (.vec s.h.length 0))))) s.m) with
   | true=>some ({t:=s.t,h:=(s.h++[GC [] 0 sz]).set b (.var (cs.set off (.ref (.vec s.h.length 0)))),m:=s.m},[])
   | false=>none
  | _=>none
section
variable {Γ:ae} {X:Ctx} {s s':AS} {a:Act} {w:World}
theorem DefOk.mapH{D0:List Deferred}{l:Loc}{h:List Blk}{f:Ref→D}{b:Nat}{xb x0:Blk}(hb:h[b]? = some x0)(hd:x0 ≠ .defd):∀{bs:List Nat} {ds:List Deferred},DefOk D0 l h bs ds→DefOk D0 l (mapH f b xb h) bs ds
 | [],_,r=>r
 | i::bs,d::ds,r=>by
  simp only[DefOk] at r ⊢
  obtain⟨⟨blk,cp,h1,h2,h3⟩,h4⟩:=r
  refine⟨⟨blk,cp,?_,h2,h3⟩,DefOk.mapH hb hd h4⟩
  by_cases hi:i=b
  ·subst hi;rw[hb] at h1;cases h1;exact absurd rfl hd
  ·rw[eC hi,h1];rfl
 | _::_,[],r=>by simp[DefOk] at r
theorem kg{w:World}{av:Nat→Prop}{l:Loc}{h:List Blk}{d:D}:∀{t:List D} {ys:List Value} (i:Nat),RelL w av l h t ys→(∀y,Rel w av l h (t.getD i .any) y→Rel w av l h d y)→RelL w av l h (t.set i d) ys
 | [],[],_,_,_=>by simp[RelL]
 | [],_::_,_,r,_=>by simp[RelL] at r
 | _::_,[],_,r,_=>by simp[RelL] at r
 | x::xs,y::ys,0,r,hd=>by
  simp only[RelL,List.set_cons_zero] at r ⊢
  exact⟨hd y r.1,r.2⟩
 | x::xs,y::ys,i+1,r,hd=>by
  simp only[RelL,List.set_cons_succ] at r ⊢
  exact⟨r.1,kg i r.2 (by simpa using hd)⟩
theorem ro{w0:World}{l0 l:Loc}{h0 h:List Blk}{O:Nat→Prop}(sz:Nat)(R:Rep Γ O w l h)(E:Ext w0 l0 h0 w l h):
  ∃l',Rep Γ O w l' (h++[GC [] 0 sz])∧Ext w0 l0 h0 w l' (h++[GC [] 0 sz])∧Ext w l h w l' (h++[GC [] 0 sz])∧l' h.length=none:=by
 obtain⟨R',E'⟩:=Rep.step (l':=fun k=>if k=h.length then none else l k) (h':=h++[GC [] 0 sz]) R h.length (.vec [] 0 sz) (DJ _) ⟨rfl,rfl,rfl,(by first|exact DJ _|exact Fh _)⟩
  (fun b hb=>by
   by_cases hlt:b<h.length
   ·rw[DP hlt]
   ·rw[Fb (by simp;omega),Fb (by omega)])
  (by simp) (fun b hb=>by simp[hb]) (fun x hx=>by simp at hx) (fun _ _ _=>rfl) (fun k c hk=>by simp at hk) (fun _=>by simp[BlkOk])
 exact⟨_,R',E.trans E',E',by simp⟩
theorem oT{w:World}{av:Nat→Prop}{l:Loc}{h:List Blk}{d:D}{y:Value}(hd:isNil d=true)(r:Rel w av l h d y):y=.slice none 0 0:=by
 unfold isNil at hd
 split at hd
 ·simpa[Rel,RelP] using r
 ·simp at hd
theorem uD{w:World}{av:Nat→Prop}{l:Loc}{h:List Blk}{b sz:Nat}(hb:h[b]? = some (.vec [] 0 sz))(hl:l b=none):Rel w av l h (.ref (.vec b 0)) (.slice none 0 0):=by
 simp only[Rel]
 unfold RefRel
 simp only[hb]
 refine⟨by simp[Value.oneCell'],DJ _,fun _=>?_⟩
 rw[hl]
 exact⟨rfl,rfl⟩
theorem SOp.sound{o:SOp}{φ:List Prop}(ha:o.app X.h s=some (s',φ))(hp:AllP φ)(hs:St Γ X s a w):St Γ X s' a w:=by
 cases o with
 | mask ks =>
  simp only[SOp.app,Dj,Dm] at ha
  obtain⟨rfl,_⟩:=ha
  obtain⟨k1,k2⟩:=nb ks 0 s.t
  exact hs.wk k1 k2
 | trim k =>
  simp only[SOp.app] at ha
  split at ha
  case h_2=>simp at ha
  rename_i hk
  split at ha
  case h_2=>simp at ha
  rename_i s1 ht
  simp only[Dj,Dm] at ha
  obtain⟨rfl,rfl⟩:=ha
  unfold trimC at ht
  split at ht
  case h_2=>simp at ht
  rename_i hb
  simp only[Dr] at hb
  cases ht
  obtain⟨l,R,E,rt,rd⟩:=hs
  exact⟨l,R.take (rg hb.1.2 hp),E.takeN (by simpa using hk),bi (fun _=>eU) hb.1.1 rt,rd.take hb.2⟩
 | trimV k =>
  simp only[SOp.app] at ha
  split at ha
  case h_2=>simp at ha
  rename_i hk
  split at ha
  case h_2=>simp at ha
  rename_i s1 ht
  simp only[Dj,Dm] at ha
  obtain⟨rfl,rfl⟩:=ha
  unfold zj at ht
  split at ht
  case h_2=>simp at ht
  rename_i hb
  simp only[Dr] at hb
  cases ht
  obtain⟨l,R,E,rt,rd⟩:=hs
  exact⟨l,R.take (rn hp),E.takeN (by simpa using hk),bi (fun _=>eU) hb.1 rt,rd.take hb.2⟩
 | frz b rows =>
  simp only[SOp.app] at ha
  split at ha
  case h_2=>simp at ha
  rename_i es e sz hb
  simp only[Dj,Dm] at ha
  obtain⟨rfl,rfl⟩:=ha
  obtain⟨rfl,hp⟩:=hp
  obtain⟨l,R,E,rt,rd⟩:=hs
  refine⟨l,?_⟩
  simp only[rj hb hp]
  have hf:=fun (r:Ref) (y:Value) (rr:RefRel l s.h r y)=>zT R hb rr (f:=zi b e rows)
  refine⟨R.mapH hb (by simp) hf (by simp[BlkOk]) (fun y hr=>?_),E.mapH hb (by simp) (fun x _ _=>⟨by cases x<;>simp[Blk.le],fun h=>by cases x<;>simp[HK] at h⟩),
   bB (fun _ ho=>gC hb (by simp) ho) hf rt,rd.mapH hb (by simp)⟩
  unfold RefRel at hr
  simp[hb] at hr
 | ren b k =>
  simp only[SOp.app] at ha
  split at ha
  case h_2=>simp at ha
  rename_i es e sz hb
  split at ha
  case h_2=>simp at ha
  rename_i hk
  simp only[Dj,Dm] at ha
  obtain⟨rfl,rfl⟩:=ha
  obtain⟨he,hp⟩:=hp
  obtain⟨l,R,E,rt,rd⟩:=hs
  refine⟨l,?_⟩
  simp only[rj hb hp]
  have hm:∀y,¬RefRel l s.h (.mp b) y:=fun y hr=>by
   unfold RefRel at hr
   simp[hb] at hr
  have ha':∀k',avs X.O l (mapH (lr b e k) b (.vec es k sz) s.h) k'→avs X.O l s.h k':=fun _ ho=>gC hb (by simp) ho
  have hf:∀(r:Ref) (y:Value),RefRel l s.h r y→Rel w (avs X.O l (mapH (lr b e k) b (.vec es k sz) s.h)) l (mapH (lr b e k) b (.vec es k sz) s.h) (lr b e k r) y :=
   fun r y rr=>zU rfl hb rr
  have hbk:=l4 ha' hf (fun c y hr=>by
    by_cases hc:c=b
    ·subst hc;exact absurd hr (hm y)
    ·exact dU (by simpa[Ref.blk] using hc) hr) (R.blk b _ hb)
  simp only[Blk.mapR,he] at hbk
  refine⟨R.mapH hb (by simp) hf (by unfold BlkOk at hbk ⊢;exact hbk) hm,E.mapH hb (by simp) (fun x hx hle=>?_),bB ha' hf rt,rd.mapH hb (by simp)⟩
  unfold renOk at hk
  rw[hx] at hk
  cases x with
  | vec es0 e0 sz0 =>
   simp only[decide_eq_true_eq] at hk
   simp only[Blk.le] at hle ⊢
   simp only[HK]
   exact⟨⟨by omega,fun h=>by omega,hle.2.2⟩,fun h=>by omega⟩
  | _=>simp at hk
 | nilT i sz =>
  simp only[SOp.app] at ha
  split at ha
  case h_2=>simp at ha
  rename_i hn
  simp only[Dr] at hn
  simp only[Dj,Dm] at ha
  obtain⟨rfl,_⟩:=ha
  obtain⟨l,R,E,rt,rd⟩:=hs
  obtain⟨l',R',E',E2,hl⟩:=ro sz R E
  refine⟨l',R',E',?_,Ga E2.keep hn.2 rd⟩
  have rt':=E2.relL rt
  refine kg i rt' fun y hy=>?_
  obtain rfl:=oT hn.1 hy
  exact uD (sz:=sz) (by simp) hl
 | nilC b off sz =>
  simp only[SOp.app] at ha
  split at ha
  case h_2=>simp at ha
  rename_i cs hb
  split at ha
  case h_2=>simp at ha
  rename_i hn
  simp only[Dr] at hn
  simp only[Dj,Dm] at ha
  obtain⟨rfl,_⟩:=ha
  obtain⟨l,R,E,rt,rd⟩:=hs
  obtain⟨l',R',E',E2,hl⟩:=ro sz R E
  have hlt:=(Dq.1 hb).1
  have hb':(s.h++[GC [] 0 sz])[b]? = some (.var cs):=by rw[DP hlt];exact hb
  obtain⟨R3,E3⟩:=Rep.step (w':=w) (l':=l') (h':=(s.h++[GC [] 0 sz]).set b (.var (cs.set off (.ref (.vec s.h.length 0))))) R' b (.var (cs.set off (.ref (.vec s.h.length 0)))) (DJ _) ⟨rfl,rfl,rfl,(by first|exact DJ _|exact Fh _)⟩
   (fun i hi=>by rw[GA (Ne.symm hi)]) (by rw[IA (by simp;omega)]) (fun _ _=>rfl) (fun x hx=>by rw[hb'] at hx;cases hx;simp[Blk.le])
   (fun _ _ _=>rfl) (fun k c hk=>.inl ⟨_,c,hb',by simp,hk⟩) (fun E3=>by
    obtain⟨blk,cp,c,T,q1,q2,q3⟩:=R'.blk b _ hb'
    refine⟨blk,cp,c,T,q1,q2,kg off (E3.relL q3) fun y hy=>?_⟩
    obtain rfl:=oT hn.1 hy
    refine uD (sz:=sz) ?_ hl
    rw[GA (by omega)]
    simp)
  exact⟨l',R3,E'.trans E3,E3.relL (E2.relL rt),Ga E3.keep hn.2.2 (Ga E2.keep hn.2.1 rd)⟩
end
def notRef:D→Bool
  | .ref _=>false
  | _=>true
def heapless:Op→Bool
  | .move _ | .assign _ | .pick .. | .build .. | .binOp .. | .unOp .. | .convert .. | .makeFunc .. | .field .. | .index .. | .extract ..=>true
  | .call {callee:=.builtin b,.. }=>match b with
    | .max | .min=>true
    | _=>false
  | _=>false
section
variable {P:Program} {Γ:ae} {t:List D} {h:List Blk}
theorem bC{o:Op}(ho:heapless o=true){ok:Bool}{d:D}{h':List Blk}(hs:opSem P Γ t h o=some (ok,d,h'))(g:List Blk):∃g',opSem P Γ t g o=some (ok,d,g'):=by
  cases o<;>simp only[heapless,D8] at ho<;>simp only[opSem,Du,keep,keepB,Dm,Dj] at hs ⊢
  case call c =>
    obtain⟨callee,args,ats⟩:=c
    cases callee with
    | builtin b =>
      cases b<;>simp only[D8] at ho<;>simp only[] at hs ⊢ <;> unfold builtinD at hs ⊢ <;> split at hs<;>simp_all[keep]<;>(obtain⟨a,h1,h2,h3,_⟩:=hs;exact⟨g,a,h1,h2,h3,rfl⟩)
    | _=>simp[] at ho
  case binOp op ty x y yt =>
    split at hs
    · simp only[Dj,Dm] at hs ⊢
      exact⟨g,hs.1,hs.2.1,rfl⟩
    · split at hs
      · simp only[Dj,Dm] at hs ⊢
        exact⟨g,hs.1,hs.2.1,rfl⟩
      · simp only[Du,keep,Dm] at hs ⊢
        obtain⟨a,h1,h2,h3,_⟩:=hs
        exact⟨g,a,h1,h2,h3,rfl⟩
  case extract x i =>
    split at hs
    · simp only[Du,keep,Dm] at hs ⊢
      obtain⟨a,h1,h2,h3,_⟩:=hs
      exact⟨g,a,h1,h2,h3,rfl⟩
    · simp at hs
  all_goals first
    | (obtain⟨h1,h2,_⟩:=hs;exact⟨g,h1,h2,rfl⟩)
    | (obtain⟨a,h1,h2,h3,_⟩:=hs;exact⟨g,a,h1,h2,h3,rfl⟩)
theorem oU{ty:TypeId}{x:D}(hx:notRef x=true)(g:List Blk):bw P g ty x=bw P h ty x:=by
  cases x<;>first|rfl|simp[notRef] at hx
theorem kh{x:D}(hx:notRef x=true)(g:List Blk):lenD g x=lenD h x:=by
  cases x with
  | p y =>
    unfold lenD
    split<;>first|rfl|simp_all
  | fn f a c=>cases f<;>rfl
  | ref r=>simp[notRef] at hx
  | _=>rfl
theorem i4{n:Nat}{x:D}(hx:notRef x=true)(g:List Blk):nY g n x=nY h n x:=by
  cases x<;>first|rfl|simp[notRef] at hx
theorem ji{x:D}(hx:notRef x=true)(g:List Blk):ct g x=ct h x:=by
  cases x with
  | p y =>
    unfold ct
    split<;>first|rfl|simp_all
  | fn f a c=>cases f<;>rfl
  | ref r=>simp[notRef] at hx
  | _=>rfl
theorem oV{x:D}(hx:notRef x=true)(g:List Blk):je g x=je h x:=by
  cases x with
  | p y =>
    unfold je
    split<;>first|rfl|simp_all
  | fn f a c=>cases f<;>rfl
  | ref r=>simp[notRef] at hx
  | _=>rfl
theorem nc{x:D}(hx:notRef x=true)(g:List Blk):lI g x=lI h x:=by
  cases x<;>first|rfl|simp[notRef] at hx
theorem kj{x:D}{sz n:Nat}{l u:Int}{mx:Option Int}(hx:notRef x=true)(g:List Blk):sliceRow g x sz n l u mx=sliceRow h x sz n l u mx:=by
  cases x with
  | p y =>
    unfold sliceRow
    split<;>first|rfl|simp_all
  | fn f a c=>cases f<;>rfl
  | ref r=>simp[notRef] at hx
  | _=>rfl
theorem kl{x:D}{len:Nat}{e:TypeId}{l:Int}{hi:Option D}{mx:Option Int}(hx:notRef x=true)(g:List Blk):eQ P g len e x l hi mx=eQ P h len e x l hi mx:=by
  cases x<;>first|rfl|simp[notRef] at hx
theorem oW{ty:TypeId}{x:D}(hx:notRef x=true)(g:List Blk):sN P g ty x=sN P h ty x:=by
  unfold sN
  simp only[kh (h:=h) hx g]
  cases P.underlying ty with
  | none=>rfl
  | some ud =>
    cases ud<;>first
      | rfl
      | (dsimp only
         cases x with
         | p y =>
           split<;>first|rfl|simp_all
         | ref r=>simp[notRef] at hx
         | _=>rfl)
def headOf:Op→Option Operand
  | .load _ a=>some a
  | .nilCheck x=>some x
  | .slice _ x _ _ _=>some x
  | .fieldAddr _ x _=>some x
  | .indexAddr _ x _=>some x
  | .lookup _ x _ _=>some x
  | .entry x=>some x
  | .call {callee:=.builtin .len,args,.. }=>match args.toList with
    | [x]=>some x
    | _=>none
  | _=>none
theorem cv{o:Op}(hq:quietOp o=true){x:Operand}(hx:headOf o=some x)(hn:notRef (evalD Γ t x)=true){ok:Bool}{d:D}{h':List Blk}(hs:opSem P Γ t h o=some (ok,d,h'))(g:List Blk):∃g',opSem P Γ t g o=some (ok,d,g'):=by
  cases o<;>simp only[headOf,Dj,reduceCtorEq] at hx
  case load ty a =>
    subst hx
    simp only[opSem,Du,keep,Dm] at hs ⊢
    obtain⟨a,h1,h2,h3,_⟩:=hs
    exact⟨g,a,by rw[oU (h:=h) hn];exact h1,h2,h3,rfl⟩
  case nilCheck a =>
    subst hx
    simp only[opSem,Du,keep,Dm] at hs ⊢
    obtain⟨a,h1,h2,h3,_⟩:=hs
    exact⟨g,a,by rw[ji (h:=h) hn];exact h1,h2,h3,rfl⟩
  case slice ty a lo hi mx =>
    subst hx
    simp only[opSem,Du,keepB,Dm] at hs ⊢
    obtain⟨a,h1,h2,h3,_⟩:=hs
    refine⟨g,a,?_,h2,h3,rfl⟩
    unfold oe at h1 ⊢
    simp only[kh (h:=h) hn g,kj (h:=h) hn g,kl (h:=h) hn g]
    exact h1
  case fieldAddr s a f =>
    subst hx
    simp only[opSem,Du,keep,Dm] at hs ⊢
    obtain⟨a,h1,h2,h3,_⟩:=hs
    refine⟨g,a,?_,h2,h3,rfl⟩
    unfold dv at h1 ⊢
    simp only[i4 (h:=h) hn g]
    exact h1
  case indexAddr ty a i =>
    subst hx
    simp only[opSem,Du,keepB,Dm] at hs ⊢
    obtain⟨r,h1,h2,h3,_⟩:=hs
    refine⟨g,r,?_,h2,h3,rfl⟩
    rw[←h1]
    generalize evalD Γ t a=y at hn
    unfold b7
    simp only[i4 (h:=h) hn g]
    cases intOf? (evalD Γ t i) with
    | none=>rfl
    | some ki =>
      cases P.underlying ty with
      | none=>rfl
      | some ud =>
        cases ud<;>first
          | rfl
          | (rename_i e
             dsimp only
             cases szOf P e<;>cases y with
               | p z=>cases z<;>rfl
               | ref r=>simp[notRef] at hn
               | _=>rfl)
  case lookup ty a k ok' =>
    subst hx
    simp only[opSem,Du,keep,Dm] at hs ⊢
    obtain⟨a,h1,h2,h3,_⟩:=hs
    refine⟨g,a,?_,h2,h3,rfl⟩
    unfold aR at h1 ⊢
    simp only[oV (h:=h) hn g]
    exact h1
  case entry a =>
    subst hx
    simp only[opSem,Du,keep,Dm] at hs ⊢
    obtain⟨a,h1,h2,h3,_⟩:=hs
    exact⟨g,a,by rw[nc (h:=h) hn];exact h1,h2,h3,rfl⟩
  case call c =>
    obtain⟨callee,args,ats⟩:=c
    cases callee with
    | builtin b =>
      cases b<;>simp only[reduceCtorEq] at hx
      split at hx
      · rename_i y hy
        cases hx
        simp only[opSem,hy,Fm,List.map_nil] at hs ⊢
        unfold builtinD at hs ⊢
        split at hs
        all_goals first
          | (simp only[Du] at hs ⊢
             obtain⟨a,h1,h2⟩:=hs
             simp only[keep,Dm] at h2 ⊢
             obtain⟨h2,h3,_⟩:=h2
             exact⟨g,a,by rw[oW (h:=h) (by simp_all)];exact h1,h2,h3,rfl⟩)
          | simp_all
      · simp at hx
    | _=>simp[] at hx
end
def zk(x:Nat):List Nat→Bool
 | []=>false
 | y::ys=>x==y||zk x ys
def bS(F:List Nat)(i:Nat)(o:Oper):Bool:=quietOp o.op||zk i F
structure DrawOkF (F:List Nat) (L:List Oper) (B:List Nat):Prop where
 self:∀(i:Nat) (o:Oper),L[i]? = some o→(B.getD i 0).testBit i=false
 edge:∀(i:Nat) (o:Oper),L[i]? = some o→∀e∈o.after.toList,El .any e=true→e.on<i
 uniq:∀(i k:Nat) (o o':Oper) (x:Tmp),L[i]? = some o→L[k]? = some o'→o.dst=some x→o'.dst=some x→i=k
 oper:∀(i:Nat) (o:Oper) (x:Tmp),L[i]? = some o→x∈bA L o→∀(k:Nat) (o':Oper),L[k]? = some o'→o'.dst=some x→(B.getD i 0).testBit k=true∨(B.getD k 0).testBit i=true
 chain:∀(i k:Nat) (o o':Oper),L[i]? = some o→L[k]? = some o'→i<k→bS F i o=false→bS F k o'=false→(B.getD k 0).testBit i=true
def rp(F:List Nat)(L:List Oper)(B:List Nat):Bool :=
 L.zipIdx.all fun p=>!(B.getD p.2 0).testBit p.2&&(
  (p.1.after.toList.all fun e=>!El .any e||Qd (e.on<p.2)) &&
  (L.zipIdx.all fun q=>(p.2==q.2||p.1.dst.isNone||!(p.1.dst==q.1.dst)) &&
   (!Qd (q.2<p.2)||bS F q.2 q.1||bS F p.2 p.1||(B.getD p.2 0).testBit q.2)) &&
  ((bA L p.1).all fun x=>L.zipIdx.all fun q=>!(q.1.dst==some x)||(B.getD p.2 0).testBit q.2||(B.getD q.2 0).testBit p.2))
theorem tb{F:List Nat}{L:List Oper}{B:List Nat}(h:rp F L B=true):DrawOkF F L B where
 self i o ho:=by
  have:=aI h ho
  simp only[Dr] at this
  simpa using this.1
 edge i o ho e he hb:=by
  have:=aI h ho
  simp only[Dr] at this
  have:=DK.1 this.2.1.1 e he
  simpa[hb] using this
 uniq i k o o' x ho ho' hd hd':=by
  have:=aI h ho
  simp only[Dr] at this
  have:=aI this.2.1.2 ho'
  simp only[Dr] at this
  have:=this.1
  simpa[hd,hd'] using this
 oper i o x ho hx k o' ho' hd:=by
  have:=aI h ho
  simp only[Dr] at this
  have:=DK.1 this.2.2 x hx
  have:=aI this ho'
  simpa[hd,Bool.or_assoc] using this
 chain i k o o' ho ho' hik hq hq':=by
  have:=aI h ho'
  simp only[Dr] at this
  have:=aI this.2.1.2 ho
  simp only[Dr] at this
  have:=this.2
  simpa[hik,hq,hq'] using this
def eD(F:List Nat)(L:List Oper):List Nat:=(L.zipIdx.filter fun p=>!bS F p.2 p.1).map (·.2)
def fO(F:List Nat)(L:List Oper)(B:List Nat)(i k:Nat):Bool:=(eD F L).all fun c=>if c<k then !(B.getD c 0).testBit i else !(B.getD i 0).testBit c
def d9(F:List Nat)(L:List Oper):List Nat:=0::(eD F L).map (· + 1)
theorem qk{F:List Nat}{L:List Oper}{c:Nat}{o:Oper}(ho:L[c]? = some o)(hq:bS F c o=false):c∈eD F L:=by
 unfold eD
 rw[Eb]
 exact⟨(o,c),by rw[Gh,EH];exact⟨ho,by simp[hq]⟩,rfl⟩
theorem dl{F:List Nat}{L:List Oper}{c:Nat}(h:c∈eD F L):∃o,L[c]? = some o∧bS F c o=false:=by
 unfold eD at h
 rw[Eb] at h
 obtain⟨⟨o,i⟩,h1,rfl⟩:=h
 rw[Gh,EH] at h1
 exact⟨o,h1.1,by simpa using h1.2⟩
def rq(P:Program)(Γ:ae)(F:List Nat)(L:List Oper)(B:List Nat)(tF:List D)(hs:List (List Blk))(ts:List (List D)):Prop :=
 ∀(i:Nat) (o:Oper),L[i]? = some o→bS F i o=true→(∃f,FixOk f∧aB L ((ts.getD i []).map f) o.guard=some true)→∀k∈d9 F L,fO F L B i k=true →
  ∃f d,FixOk f∧OpOk P Γ ((ts.getD i []).map f) (hs.getD k []) o.op d (hs.getD k [])∧∀x,o.dst=some x→Wk d (tF.getD x .any)
section
variable {P:Program} {Γ:ae} {X:Ctx} {r:Option Nat} {call:CallF} {ops:Array Oper} {m:List Nat} {t0 tF:List D} {hs:List (List Blk)} {ts:List (List D)} {Q:Exit→AS→Prop} {F:List Nat}
structure InvF (F:List Nat) (Γ:ae) (X:Ctx) (L:List Oper) (m:List Nat) (t0 tF:List D) (hs:List (List Blk)) (k:Nat) (S:Array Bool) (a:Act) (w:World):Prop where
 size:S.size=L.length
 closed:ex L (Lst S)
 st:St Γ X {t:=cH L S t0 tF,h:=hs.getD k [],m:=m} a w
 cand:k∈d9 F L
 chain:∀c o,L[c]? = some o→bS F c o=false→(Lst S c ↔ c<k)
theorem kn(hD:DrawOkF F ops.toList (a9 ops.toList []))(hr:runR P Γ m ops.toList Wk FixOk ops.toList t0 (hs.getD 0 []) tF hs ts)
  (hq:rq P Γ F ops.toList (a9 ops.toList []) tF hs ts) (hF:∀j o,ops.toList[j]? = some o→zk j F=true→hs.getD (j+1) []=hs.getD j []) (hQ:Q .normal {t:=tF,h:=hs.getD ops.size [],m:=m}) :
  ∀(fuel:Nat) (k:Nat) (S:Array Bool) (a:Act) (w:World),InvF F Γ X ops.toList m t0 tF hs k S a w→(EE ops.size).countP (fun j=>!S.getD j false)≤fuel →
   wpAnyIn (FW r) 0 P .any ops (eu Γ X Q) fuel S a w:=by
 obtain⟨hlen0,_,_,_,hat⟩:=dP _ _ _ _ _ _ hr
 have hn:ops.toList.length=ops.size:=by simp
 have hconst1:∀j o,ops.toList[j]? = some o→bS F j o=true→hs.getD (j+1) []=hs.getD j []:=by
  intro j o ho hqo
  unfold bS at hqo
  rw[Bool.or_eq_true] at hqo
  rcases hqo with hqo|hqo
  case inr=>exact hF j o ho hqo
  obtain⟨call,hc,f,d',d,⟨_,h1,_⟩,_⟩:=hat j o ho
  exact fJ hqo h1
 have hconst:∀(n k:Nat),(∀c o,ops.toList[c]? = some o→bS F c o=false→¬(k≤c∧c<k+n))→k+n≤ops.size→hs.getD (k+n) []=hs.getD k []:=by
  intro n
  induction n with
  | zero=>intro k _ _;rfl
  | succ n ih =>
   intro k h1 h2
   have hlt:k+n<ops.toList.length:=by omega
   have ho:=List.getElem?_eq_getElem hlt
   have hqo:bS F (k+n) (ops.toList[k+n])=true:=by
    rw[←Bool.not_eq_false]
    exact fun hf=>h1 _ _ ho hf (by omega)
   rw[←Nat.add_assoc,hconst1 _ _ ho hqo]
   exact ih k (fun c o hc1 hc2=>fun hx=>h1 c o hc1 hc2 (by omega)) (by omega)
 have bound:∀i j o,ops.toList[i]? = some o→((a9 ops.toList []).getD i 0).testBit j=true→j<i:=by
  intro i j o ho hb
  have hcl:ex ops.toList (fun x=>x≤i):=fun k o' hk ho' e he hbe=>by
   have:=hD.edge k o' ho' e he hbe
   show e.on≤i
   omega
  have h1:j≤i:=bb hcl (k:=i) (DJ i) j hb
  have h2:=hD.self i o ho
  rcases Nat.lt_or_eq_of_le h1 with h|h
  ·exact h
  ·subst h;rw[h2] at hb;cases hb
 have fin:∀(k:Nat) (S:Array Bool) (a:Act) (w:World),InvF F Γ X ops.toList m t0 tF hs k S a w→(∀j,j<ops.size→Lst S j)→eu Γ X Q .normal a w:=by
  intro k S a w I hall
  refine⟨by simp,_,hQ,?_⟩
  have e1:cH ops.toList S t0 tF=tF:=by
   refine aJ (ak ..) fun x hx=>?_
   rw[ak] at hx
   refine bj fun c o hc1 _=>hall c ?_
   have:=(Dq.1 hc1).1
   omega
  have hk:k≤ops.size:=by
   have:=I.cand
   simp only[d9,DM,Eb] at this
   rcases this with rfl|⟨c,hc1,rfl⟩
   ·omega
   ·obtain⟨o,ho,_⟩:=dl hc1
    have:=(Dq.1 ho).1
    omega
  have e2:hs.getD ops.size []=hs.getD k []:=by
   have:=hconst (ops.size - k) k (fun c o hc1 hc2 hx=>by
    have h1:=(I.chain c o hc1 hc2).1 (hall c (by omega))
    omega) (by omega)
   rwa[show k+(ops.size - k)=ops.size by omega] at this
  rw[e2]
  have:=I.st
  rw[e1] at this
  exact this
 intro fuel
 induction fuel with
 | zero =>
  intro k S a w I hcnt
  have hall:∀j,j<ops.size→Lst S j:=by
   intro j hj
   have h0:(EE ops.size).countP (fun j=>!S.getD j false)=0:=by omega
   rw[List.countP_eq_zero] at h0
   have:=h0 j (by simpa using hj)
   simpa[Lst] using this
  refine⟨?_,fin k S a w I hall⟩
  unfold Fc
  rw[Gv]
  intro j hj
  have hj':j<ops.size:=by simpa using hj
  have:=hall j hj'
  have hs2:j<S.size:=by rw[I.size,hn];exact hj'
  unfold Lst at this
  have h3:S.getD j true=true:=by
   simp only[D2,D5 hs2,EB] at this ⊢
   exact this
  simp[h3]
 | succ fuel ih =>
  intro k S a w I hcnt
  refine⟨fun hnone=>?_,fun i hi=>?_⟩
  ·-- nothing is ready: all is done
   refine fin k S a w I ?_
   have key:∀n,∀j,j<n→j<ops.size→Lst S j:=by
    intro n
    induction n with
    | zero=>intro j hj;omega
    | succ n ihn =>
     intro j hj hjs
     by_cases hjn:j<n
     ·exact ihn j hjn hjs
     have:j=n:=by omega
     subst this
     apply Eo
     intro hno
     unfold Fc at hnone
     rw[Gv] at hnone
     have h1:=hnone j (by simpa using hjs)
     apply h1
     have hs2:j<S.size:=by rw[I.size,hn];exact hjs
     have ho:ops[j]? = some ops[j]:=D5 hjs
     have h3:S.getD j true=false:=by
      unfold Lst at hno
      simp only[D2,D5 hs2,EB] at hno ⊢
      simpa using hno
     have h4:(ops[j].after.all fun e=>!El .any e||S.getD e.on false)=true:=by
      rw[FF]
      intro e he
      cases hb:El .any e
      ·rfl
      ·have hlt:=hD.edge j ops[j] (by simp) e (by simpa using he) hb
       have:=ihn e.on hlt (by omega)
       simpa[Lst] using this
     rw[h3,ho]
     simpa using h4
   exact fun j hj=>key (j+1) j (by omega) hj
  ·-- an operation that is ready
   unfold Fc at hi
   rw[Gh] at hi
   obtain⟨hi1,hi2⟩:=hi
   have his:i<ops.size:=by simpa using hi1
   have hiS:i<S.size:=by rw[I.size,hn];exact his
   have ho:ops[i]? = some ops[i]:=D5 his
   generalize ho0:ops[i]=o at ho
   have hoL:ops.toList[i]? = some o:=by simpa using ho
   simp only[ho,Ea,EB,Dr,ED] at hi2
   obtain⟨hi3,hi4⟩:=hi2
   have hnotS:¬Lst S i:=by
    unfold Lst
    simp only[D2,D5 hiS,EB] at hi3 ⊢
    simp[hi3]
   have hpre:∀e∈o.after.toList,El .any e=true→Lst S e.on:=by
    intro e he hb
    rw[FF] at hi4
    have:=hi4 e (by simpa using he)
    simpa[hb,Lst] using this
   have hsetS:∀j,Lst (S.setIfInBounds i true) j ↔ j=i∨Lst S j:=fun j=>j6 hiS
   have hclosed':ex ops.toList (Lst (S.setIfInBounds i true)):=by
    intro k' o' hk' ho' e he hb
    rw[hsetS] at hk' ⊢
    rcases hk' with rfl|hk'
    ·rw[hoL] at ho'
     cases ho'
     exact .inr (hpre e he hb)
    ·exact .inr (I.closed k' o' hk' ho' e he hb)
   have hbits:∀j,((a9 ops.toList []).getD i 0).testBit j=true→j<i∧Lst S j:=by
    intro j hj
    have h1:=bound i j o hoL hj
    have h2:=bb hclosed' (k:=i) ((hsetS i).2 (.inl rfl)) j hj
    rw[hsetS] at h2
    exact⟨h1,h2.resolve_left (by omega)⟩
   obtain⟨call,hc,f,dw,d,⟨hfx,hst,hwk⟩,htF,ht0,hdF⟩:=hat i o hoL
   have hseen:∀x∈bA ops.toList o,(cH ops.toList S t0 tF).getD x .any=(ts.getD i []).getD x .any:=by
    intro x hx
    by_cases hwr:∃(k':Nat) (o':Oper),ops.toList[k']? = some o'∧o'.dst=some x
    ·obtain⟨k',o',hk',hd'⟩:=hwr
     have huq:∀(j:Nat) (o2:Oper),ops.toList[j]? = some o2→o2.dst=some x→j=k':=fun j o2 hj hd2=>hD.uniq j k' o2 o' x hj hk' hd2 hd'
     rcases hD.oper i o x hoL hx k' o' hk' hd' with hb|hb
     ·obtain⟨hlt,hSk⟩:=hbits k' hb
      rw[bj (fun k2 o2 hk2 hd2=>by rw[huq k2 o2 hk2 hd2];exact hSk)]
      exact htF x fun j o2 hj ho2 hd2=>by
       have:=huq j o2 ho2 hd2
       omega
     ·have hlt:=bound k' i o' hk' hb
      have hnk:¬Lst S k':=fun hSk=>hnotS (bb I.closed hSk i hb)
      rw[mZ hlen0 hk' hd' (by unfold Lst at hnk;simpa using hnk)]
      exact(ht0 x fun j o2 hj ho2 hd2=>by
       have:=huq j o2 ho2 hd2
       omega).symm
    ·rw[bj (fun k2 o2 hk2 hd2=>absurd ⟨k2,o2,hk2,hd2⟩ hwr)]
     exact htF x fun j o2 hj ho2 hd2=>hwr ⟨j,o2,ho2,hd2⟩
   have hseenF:∀x∈bA ops.toList o,(ts.getD i []).getD x .any=(cH ops.toList S t0 tF).getD x .any:=fun x hx=>(hseen x hx).symm
   have hst':bQ P Γ call m ops.toList ((cH ops.toList S t0 tF).map f) (hs.getD i []) o=some (dw,hs.getD (i+1) []):=by
    rw[fI (t':=(ts.getD i []).map f) (fun x hx=>by rw[aF hfx.any,aF hfx.any,hseen x hx])];exact hst
   have hfixed:∀{a:Act} {w:World},InvF F Γ X ops.toList m t0 tF hs k S a w→St Γ X {t:=(cH ops.toList S t0 tF).map f,h:=hs.getD k [],m:=m} a w:=fun I=>I.st.fix hfx
   have hput:putD (cH ops.toList S t0 tF) o.dst d=cH ops.toList (S.setIfInBounds i true) t0 tF:=by
    refine jp hoL hiS (fun k' o' hk' x hx hx'=>hD.uniq k' i o' o x hk' hoL hx' hx) fun x hx hlt=>hdF x hx (fun j o' hj ho' hd'=>?_) ?_
    ·have:=hD.uniq j i o' o x ho' hoL hd' hx
     omega
    ·rw[←hlen0];exact hlt
   have hcnt':(EE ops.size).countP (fun j=>!(S.setIfInBounds i true).getD j false)≤fuel:=by
    have:(EE ops.size).countP (fun j=>!(S.setIfInBounds i true).getD j false)<(EE ops.size).countP (fun j=>!S.getD j false):=by
     refine gy (fun x hx=>?_) i (by simpa using his) ?_ ?_
     ·have h1:¬Lst (S.setIfInBounds i true) x:=by unfold Lst;simpa using hx
      rw[hsetS] at h1
      have:¬Lst S x:=fun h=>h1 (.inr h)
      unfold Lst at this
      simpa using this
     ·unfold Lst at hnotS;simpa using hnotS
     ·have:Lst (S.setIfInBounds i true) i:=(hsetS i).2 (.inl rfl)
      unfold Lst at this
      simpa using this
    omega
   have hk_le:bS F i o=false→k≤i:=by
    intro hqo
    have:=I.cand
    simp only[d9,DM,Eb] at this
    rcases this with rfl|⟨c,hc1,rfl⟩
    ·omega
    ·obtain⟨o',ho',hq'⟩:=dl hc1
     have hcS:Lst S c:=(I.chain c o' ho' hq').2 (by omega)
     apply Eo
     intro hlt
     by_cases hci:c=i
     ·exact hnotS (hci▸hcS)
     ·exact hnotS (bb I.closed hcS i (hD.chain i c o o' hoL ho' (by omega) hqo hq'))
   have hheap:bS F i o=false→hs.getD i []=hs.getD k []:=by
    intro hqo
    have hk:=hk_le hqo
    have:=hconst (i - k) k (fun c o' hc1 hc2 hx=>by
     have h1:=hbits c (hD.chain c i o' o hc1 hoL (by omega) hc2 hqo)
     have:=(I.chain c o' hc1 hc2).1 h1.2
     omega) (by omega)
    rwa[show k+(i - k)=i by omega] at this
   unfold wpOpIn
   simp only[ho]
   cases hqo:bS F i o
   ·-- it may change the heap
    have hInv:∀a' w',St Γ X {t:=putD (cH ops.toList S t0 tF) o.dst d,h:=hs.getD (i+1) [],m:=m} a' w'→InvF F Γ X ops.toList m t0 tF hs (i+1) (S.setIfInBounds i true) a' w':=by
     intro a' w' hst2
     refine⟨by simpa using I.size,hclosed',by rw[←hput];exact hst2,?_,?_⟩
     ·simp only[d9,DM,Eb]
      exact .inr ⟨i,qk hoL hqo,rfl⟩
     ·intro c o' ho' hq'
      rw[hsetS,I.chain c o' ho' hq']
      have hk:=hk_le hqo
      constructor
      ·rintro (rfl|h)<;>omega
      ·intro h
       by_cases hci:c=i
       ·exact .inl hci
       ·have h1:=hbits c (hD.chain c i o' o ho' hoL (by omega) hq' hqo)
        exact .inr ((I.chain c o' ho' hq').1 h1.2)
    rw[hheap hqo] at hst'
    unfold bQ at hst'
    split at hst'
    ·rename_i hg
     split at hst'
     ·rename_i d1 h1 hop
      split at hst'
      ·rename_i hm
       simp only[Dj,Dm] at hst'
       obtain⟨rfl,rfl⟩:=hst'
       have hw:Ef o (yielded ops a.tmps)=true:=by
        obtain⟨l,R,E,rt,rd⟩:=hfixed I
        exact am rt hg
       rw[if_pos hw]
       exact gr (s:={t:=(cH ops.toList S t0 tF).map f,h:=hs.getD k [],m:=m}) hc hop hm (fun a' w' hs'=>ih (i+1) _ a' w' (hInv a' w' (HM hfx hwk hs')) hcnt') (hfixed I)
      ·simp at hst'
     ·simp at hst'
    ·rename_i hg
     simp only[Dj,Dm] at hst'
     obtain⟨rfl,hh⟩:=hst'
     have hw:Ef o (yielded ops a.tmps)=false:=by
      obtain⟨l,R,E,rt,rd⟩:=hfixed I
      exact am rt hg
     rw[if_neg (by simp[hw])]
     refine⟨fun _ _=>trivial,ih (i+1) _ _ w (hInv _ w (HM hfx hwk ?_)) hcnt'⟩
     rw[←hh]
     exact St.skip o.dst (hfixed I)
    ·simp at hst'
   ·-- it leaves the heap alone
    have hInv:∀a' w',St Γ X {t:=putD (cH ops.toList S t0 tF) o.dst d,h:=hs.getD k [],m:=m} a' w'→InvF F Γ X ops.toList m t0 tF hs k (S.setIfInBounds i true) a' w':=by
     intro a' w' hst2
     refine⟨by simpa using I.size,hclosed',by rw[←hput];exact hst2,I.cand,?_⟩
     intro c o' ho' hq'
     rw[hsetS,←I.chain c o' ho' hq']
     constructor
     ·rintro (rfl|h)
      ·rw[hoL] at ho';cases ho';rw[hqo] at hq';cases hq'
      ·exact h
     ·exact .inr
    have hgF:∀f:D→D,f .any=.any→aB ops.toList ((ts.getD i []).map f) o.guard=aB ops.toList ((cH ops.toList S t0 tF).map f) o.guard:=fun f hf =>
     db fun x hx=>by rw[aF hf,aF hf,hseenF x (by unfold bA;simp only[DX,Option.mem_toList];exact .inr hx)]
    unfold bQ at hst'
    split at hst'
    ·rename_i hg
     have hw:Ef o (yielded ops a.tmps)=true:=by
      obtain⟨l,R,E,rt,rd⟩:=hfixed I
      exact am rt hg
     rw[if_pos hw]
     have hcomp:fO F ops.toList (a9 ops.toList []) i k=true:=by
      unfold fO
      rw[DK]
      intro c hc1
      obtain⟨o',ho',hq'⟩:=dl hc1
      split
      ·rename_i hlt
       have hcS:=(I.chain c o' ho' hq').2 hlt
       rw[ED,FJ]
       exact fun hb=>hnotS (bb I.closed hcS i hb)
      ·rename_i hlt
       rw[ED,FJ]
       exact fun hb=>hlt ((I.chain c o' ho' hq').1 (hbits c hb).2)
     obtain⟨f2,d2,hfx2,hopk,hd2⟩:=hq i o hoL hqo ⟨f,hfx,by rw[hgF f hfx.any];exact hg⟩ k I.cand hcomp
     obtain⟨call2,hc2,hop⟩:=OpOk.congr (t':=(cH ops.toList S t0 tF).map f2) (fun x hx=>dN fun j hj=>by
      rw[aF hfx2.any,aF hfx2.any,hseenF j (by
      unfold bA;simp only[DX,List.mem_filterMap];exact .inl ⟨x,by simpa using hx,hj⟩)]) hopk
     refine gr (s:={t:=(cH ops.toList S t0 tF).map f2,h:=hs.getD k [],m:=m}) hc2 hop I.st.marks (fun a' w' hs'=>ih k _ a' w' ⟨by simpa using I.size,hclosed',?_,I.cand,?_⟩ hcnt') (I.st.fix hfx2)
     ·rw[←hput]
      refine St.put_wk (fun x hx hlt=>?_) (HM hfx2 (Ht d2) hs')
      have h3:=hdF x hx (fun j o' hj ho' hd'=>by
       have:=hD.uniq j i o' o x ho' hoL hd' hx
       omega) (by rw[ak] at hlt;rw[←hlen0];exact hlt)
      rw[←h3]
      exact hd2 x hx
     ·intro c o' ho' hq'
      rw[hsetS,←I.chain c o' ho' hq']
      constructor
      ·rintro (rfl|h)
       ·rw[hoL] at ho';cases ho';rw[hqo] at hq';cases hq'
       ·exact h
      ·exact .inr
    ·rename_i hg
     simp only[Dj,Dm] at hst'
     obtain⟨rfl,hh⟩:=hst'
     have hw:Ef o (yielded ops a.tmps)=false:=by
      obtain⟨l,R,E,rt,rd⟩:=hfixed I
      exact am rt hg
     rw[if_neg (by simp[hw])]
     exact⟨fun _ _=>trivial,ih k _ _ w (hInv _ w (HM hfx hwk (St.skip (s:={t:=(cH ops.toList S t0 tF).map f,h:=hs.getD k [],m:=m}) o.dst (hfixed I)))) hcnt'⟩
    ·simp at hst'
theorem VW.drawF{s:AS}(ok:POk P){id:Nat}(hD:DrawOkF F ops.toList (a9 ops.toList []))(hr:runR P Γ s.m ops.toList Wk FixOk ops.toList s.t s.h tF hs ts)
  (hq:rq P Γ F ops.toList (a9 ops.toList []) tF hs ts) (hF:∀j o,ops.toList[j]? = some o→zk j F=true→hs.getD (j+1) []=hs.getD j []) (hQ:Q .normal {t:=tF,h:=hs.getD ops.size [],m:=s.m}):VW P Γ X r (.region id ops true) Q s:=by
 obtain⟨g1,g2,g3,g4,_⟩:=dP _ _ _ _ _ _ hr
 have h0:hs.getD 0 []=s.h:=by simp[List.getD_eq_getElem?_getD,g3]
 intro a w hst
 refine wpIn_region_any ok.mixed ?_
 rw[←h0] at hr
 refine kn (t0:=s.t) (hs:=hs) hD hr hq hF hQ ops.size 0 _ a _ ?_ ?_
 ·have hrep:∀j,(EN ops.size false).getD j false=false:=by
   intro j
   simp only[D2,Array.getElem?_replicate]
   split<;>rfl
  refine⟨by simp,fun k o hk _ _ _ _=>?_,?_,by simp[d9],fun c o _ _=>?_⟩
  ·unfold Lst at hk;rw[hrep] at hk;cases hk
  ·have e1:cH ops.toList (EN ops.size false) s.t tF=s.t:=by
    refine aJ (by rw[ak,g1]) fun x hx=>?_
    rw[ak] at hx
    rw[dc hx]
    split
    ·rfl
    ·rename_i hp
     refine g2 x fun o ho hd=>hp ?_
     obtain⟨k,hk⟩:=List.mem_iff_getElem?.1 ho
     exact bL.2 ⟨k,o,hk,hd,hrep k⟩
   rw[e1,h0]
   obtain⟨l,R,E,rt,rd⟩:=hst
   obtain⟨R',E'⟩:=R.of_heap (w':={w with drawn:=w.drawn+1}) rfl ⟨rfl,rfl,rfl,(by first|exact DJ _|exact Fh _)⟩
   exact⟨l,R',E.trans E',E'.relL rt,rd⟩
  ·unfold Lst
   rw[hrep]
   simp
 ·refine Nat.le_trans List.countP_le_length (by simp)
end
theorem cb(i:Nat)(o:Oper):bS [] i o=quietOp o.op:=by simp[bS,zk]
theorem ko(L:List Oper):eD [] L=ey L:=by unfold eD ey;simp only[cb]
theorem VW.drawE{P:Program}{Γ:ae}{X:Ctx}{r:Option Nat}{ops:Array Oper}{tF:List D}{hs:List (List Blk)}{ts:List (List D)}{Q:Exit→AS→Prop}{s:AS}(ok:POk P){id:Nat}(hD:DrawOk ops.toList (a9 ops.toList []))(hr:runR P Γ s.m ops.toList Wk FixOk ops.toList s.t s.h tF hs ts)
  (hq:im P Γ ops.toList (a9 ops.toList []) tF hs ts) (hQ:Q .normal {t:=tF,h:=hs.getD ops.size [],m:=s.m}):VW P Γ X r (.region id ops true) Q s:=by
 refine VW.drawF (F:=[]) ok ⟨hD.self,hD.edge,hD.uniq,hD.oper,fun i k o o' h1 h2 h3 h4 h5=>hD.chain i k o o' h1 h2 h3 (by rw[cb] at h4;exact h4) (by rw[cb] at h5;exact h5)⟩ hr ?_ (fun _ _ _ h=>by cases h) hQ
 intro i o ho hqo hg k hk hc
 rw[cb] at hqo
 unfold d9 at hk
 unfold fO at hc
 rw[ko] at hk hc
 obtain⟨f,d,h',h1,h2,h3⟩:=hq i o ho hqo hg k hk hc
 have:=aZ hqo h2
 subst this
 exact⟨f,d,h1,OpOk.sem h2,h3⟩
section
variable {P:Program} {Γ:ae} {X:Ctx} {r:Option Nat} {Q:Exit→AS→Prop} {t:List D} {h:List Blk} {m:List Nat}
theorem VW.drawW(ok:POk P){id:Nat}{ops:Array Oper}(hD:fH ops.toList (a9 ops.toList [])=true)(hx:ops.toList.all (fun o=>match o.dst with|some x=>Qd (x<t.length)|none=>true)=true)
  (hr:RW P Γ m ops.toList true ops.toList t h (fun t' h'=>Q .normal {t:=t',h:=h',m:=m})):VW P Γ X r (.region id ops true) Q {t:=t,h:=h,m:=m}:=by
 obtain⟨tF,hs,ts,g1,g2,g3⟩:=RW.runR _ _ _ hr
 have hD':=gx hD
 have hx':=hx
 clear hx
 refine VW.drawE (hs:=hs) (ts:=ts) ok hD' g1 ?_ ?_
 ·intro i o ho hq ⟨f0,hf0,hg0⟩ k hk hcomp
  obtain⟨g5,g6,g7,g8,hat⟩:=dP _ _ _ _ _ _ g1
  obtain⟨call,hc,f,dw,d,⟨hfx,h1,hwk⟩,h2,h3,h4⟩:=hat i o ho
  have hi:i≤ops.toList.length:=by
   have:=(Dq.1 ho).1
   omega
  have hk':k≤ops.toList.length:=by
   simp only[j5,DM,Eb] at hk
   rcases hk with rfl|⟨c,hc1,rfl⟩
   ·omega
   ·obtain⟨o',ho',_⟩:=bq hc1
    have:=(Dq.1 ho').1
    omega
  rw[g3 i hi] at h1
  rw[g3 k hk']
  have hwx:∀x,o.dst=some x→Wk dw (tF.getD x .any):=fun x hx=>by
   have hxl:x<t.length:=by
    have:=DK.1 hx' o (D1 ho)
    simpa[hx] using this
   rw[h4 x hx (fun j o' hj ho' hd=>by have:=hD'.uniq i j o o' x ho ho' hx hd;omega) hxl]
   exact hwk
  unfold bQ at h1
  split at h1
  ·rename_i hg
   split at h1
   ·rename_i d1 h1' hop
    split at h1
    ·simp only[Dj,Dm] at h1
     obtain⟨rfl,_⟩:=h1
     unfold dM at hop
     split at hop
     ·rename_i ho2
      rw[ho2] at hq
      simp[quietOp] at hq
     ·split at hop
      ·rename_i hsem
       cases hop
       exact⟨f,_,_,hfx,hsem,hwx⟩
      ·simp at hop
    ·simp at h1
   ·simp at h1
  ·rename_i hg
   exact absurd (dS X.w hfx hf0 hg hg0) (by simp)
  ·simp at h1
 ·have:=g3 ops.toList.length (DJ _)
  rw[show ops.size=ops.toList.length by simp,this]
  exact g2
end
end Go.Vi
