/- A part of the proof; no conditions of its own. -/
import Derived.Test.YtelhocjibmofiaaGreatDoorV8
import Derived.Laws.BitsLemmas
open Decidable renaming decide -> Zd
open Go.Vi.D renaming zcN -> Ob, inn -> Pu, UG -> NS, YK -> N8
open Go.CallsIn renaming mono -> Pm
open Nat renaming lt_of_lt_of_le -> PQ, zero_le -> TK, sub_zero -> Qv, le_refl -> M5, le_trans -> OP
open Go.Vi.Ur renaming mono -> Qi
open Option.some renaming injEq -> MM, inj -> QT
open Prod.mk renaming injEq -> MP
open Go.Vi.Uc renaming inn -> MY, UG -> Pf, le -> Tg, stays -> Q4
open Bool renaming and_eq_true -> MT, and_true -> PC, true_and -> Ou
open List renaming getElem?_eq_getElem -> Nd, getElem?_cons_succ -> OW, mem_of_getElem? -> NX, getElem?_eq_some_iff -> MR, map_cons -> NW, mem_map -> Nt, getElem?_map -> Om, getD -> Nb, all_eq_true -> Ni, getElem?_append_left -> M4, getElem?_append_right -> Nm, nodup_nil -> Rm, nodup_cons -> Sr, range -> N9, map_map -> QY, getElem?_set_self -> NK, getElem?_set_ne -> Nu, flatten_cons -> N0, singleton_append -> Qx, set_cons_succ -> TX, ext_getElem? -> P9, map_eq_nil_iff -> TL, all_append -> SV, all_cons -> PR, take_left' -> SU, replicate -> MS, getElem?_replicate -> PH, mem_cons -> NF
open Go.Vi.Ref renaming T8 -> Sf
open Go.Vi.Uw renaming append -> Rz
open Option renaming map_some -> Nr
open List.cons renaming injEq -> Ql
open Go.Vi.Up renaming mono -> SB
open Go.Vi.Ext renaming refl -> PW
open Go.Vi.Loc renaming ziV -> Pj
open Go.Vi.U1 renaming mono -> Qz
open Go.StepsIn renaming trans -> RQ
open Go.Instr renaming takeDeferred -> Sc
namespace Go.Vi
open Go
abbrev BY:=List ψ
section
variable {P:Program} {Γ:aq}
theorem dI{l:Loc}{T8:Nat}:¬own l [] T8:=by
 rintro⟨b,x,cp,h,_⟩
 simp at h
theorem Ev.zfM{f:FuncId}{args:bY}{d:D}(ha:Ob 0 args=true)(he:Ev P Γ f args [] d [])(h:aT):Ev P Γ f args h d h:=by
 intro O w l vs R ra
 have hav:∀l' k,Ub (Ub O l h) l' [] k ↔ Ub O l h k:=λl' k=>⟨λho=>ho.elim id (λh=>absurd h dI),λho=>.inl ho⟩
 have R0:UJ Γ (Ub O l h) w l []:=by
  refine⟨λT8 ho=>absurd ho dI,λT8 ho=>?_,λb b' x x' k c c' hb=>by simp at hb,λb x hb=>by simp at hb,λg cs hg=>?_⟩
  ·rcases ho with ho|ho
   ·exact R.obd T8 ho
   ·exact(R.inb T8 ho).1
  ·exact aL (λk hk=>(hav l k).1 hk) (R.glo g cs hg)
 have ra0:U1 w (Ub (Ub O l h) l []) l [] args vs:=bR (h:=h) (n:=0) (λk hk=>(hav l k).1 hk) ha ra
 refine Pm (he (Ub O l h) w l vs R0 ra0) ?_
 rintro e w' ⟨v,d2,h2,l',rfl,⟨rfl,rfl⟩,R',E',rd⟩
 have E:Ext w l h w' l h:=⟨E'.size,λT8 hb _=>E'.same T8 hb dI,λT8 ho=>.inl ho,λb x hx=>⟨x,hx,x.le_refl,λ_=>rfl⟩,E'.tape⟩
 refine⟨v,d2,h,l,rfl,⟨rfl,rfl⟩,⟨λT8 ho=>⟨PQ (R.inb T8 ho).1 E'.size,(R.inb T8 ho).2⟩,λT8 ho=>PQ (R.obd T8 ho) E'.size,R.inj,λb x hx=>?_,λg cs hg=>?_⟩,E,?_⟩
 ·by_cases hg:x=.U7
  ·subst hg;trivial
  exact Up.ext E rfl (λT8 cp hl=>E'.same T8 (R.inb T8 ⟨b,x,cp,hx,hg,hl⟩).1 dI) (R.T8 b x hx)
 ·exact Qi E.hc g 0 cs (R.glo g cs hg)
 ·exact Rel.mono (λT8 off y hn hc=>⟨hc,λho=>hn ((hav l' T8).2 ho)⟩) (λb x hb=>by simp at hb) d2 v rd
def out0(r:Option (D×aT×AT)):Option (D×AT):=match r with
 | some (d,_,φ)=>some (d,φ)
 | none=>none
def outF(r:Option (D×aT×AT)):Option (D×aT×AT):=match r with
 | some (d,h,φ)=>some (d,h,φ)
 | none=>none
theorem Ev.zit(ok:POk P){f:FuncId}{args:bY}{h h':aT}{d:D}{φ:AT}(as:BY)(hs:HG P Γ f args h as=some (d,h',φ))(hp:Uw φ):Ev P Γ f args h d h' :=
 Ev.sym ok as (by rw[hs];exact⟨rfl,rfl,hp⟩)
theorem Ev.zet(ok:POk P){f:FuncId}{args:bY}{h h':aT}{d:D}{φ:AT}(as:BY)(hs:outF (HG P Γ f args h as)=some (d,h',φ))(hp:Uw φ):Ev P Γ f args h d h':=by
 refine Ev.zit ok as ?_ hp
 unfold outF at hs
 grind
theorem Ev.zjJ(ok:POk P){f:FuncId}{args:bY}{d:D}{φ:AT}(as:BY)(hs:out0 (HG P Γ f args [] as)=some (d,φ))(hp:Uw φ)(ha:Ob 0 args=true)(hd:Pu 0 d=true)(h:aT):Ev P Γ f args h d h:=by
 refine Ev.zfM ha ?_ h
 unfold out0 at hs
 split at hs
 case h_2=>simp at hs
 rename_i d1 h1 φ1 hr
 simp only[MM,MP] at hs
 obtain⟨rfl,rfl⟩:=hs
 have:=Ev.trim (h:=[]) hd rfl (Ev.zit ok as hr hp)
 grind
def outT(n:Nat)(r:Option (D×aT×AT)):Option (D×aT×AT):=match r with
 | some (d,h,φ)=>match Pu n d&&(h.take n).all (MY n) with
  | true=>some (d,h.take n,φ)
  | false=>none
 | none=>none
theorem Ev.zjI(ok:POk P){f:FuncId}{args:bY}{h h':aT}{d:D}{φ:AT}(as:BY)(hs:outT h.length (HG P Γ f args h as)=some (d,h',φ))(hp:Uw φ):Ev P Γ f args h d h':=by
 unfold outT at hs
 split at hs
 case h_2=>simp at hs
 rename_i d1 h1 φ1 hr
 split at hs
 case h_2=>simp at hs
 rename_i hb
 simp only[MT] at hb
 simp only[MM,MP] at hs
 obtain⟨rfl,rfl,rfl⟩:=hs
 exact Ev.trim hb.1 hb.2 (Ev.zit ok as hr hp)
theorem Iv.of(ok:POk P){x:D}{args:bY}{h h':aT}{d:D}{f:FuncId}{fi ca:bY}(hx:cX x=some (f,fi,ca))(hf:ff P f=true)(he:Ev P Γ f (fi++args++ca) h d h'):Iv P Γ x args h d h':=zfX.zfo ok hx hf he
def Ue:Nat->Nat->List (Nat×D)->bY
 | 0,_,_=>[]
 | n+1,i,[]=>.any::Ue n (i+1) []
 | n+1,i,(k,d)::ds=>match i==k with
  | true=>d::Ue n (i+1) ds
  | false=>.any::Ue n (i+1) ((k,d)::ds)
theorem CW.post{h0:aT}{rd:Bool}{c:Code}{s s' s'':AS}{e:Exit}{as as':BY}{φ:AT}(hq:Vi.pre h0 s' as=some (s'',as',φ))(hp:Uw φ)(hw:CW P Γ h0 rd c s e s'):CW P Γ h0 rd c s e s'':=by
 intro X r hn hrd a w hs
 refine wpIn_mono (hw X r hn hrd a w hs) ?_
 rintro e' a' w' ⟨h2,s2,⟨rfl,rfl⟩,h4⟩
 subst hn
 exact⟨h2,_,⟨rfl,rfl⟩,qN _ _ _ _ _ hq hp _ _ h4⟩
theorem CW.mask{h0:aT}{rd:Bool}{c:Code}{s s':AS}{e:Exit}(ks:iS)(hw:CW P Γ h0 rd c s e s'):CW P Γ h0 rd c s e (oz ks s') :=
 CW.post (as:=[.st (.mask ks)]) (as':=[]) (φ:=[]) rfl trivial hw
def outCT(ks:iS)(k:Nat)(r:Option Res):Option (Exit×AS×AT):=match r with
 | some ((e,s,[]),φ)=>match IP k (oz ks s) with
  | some s=>some (e,s,φ)
  | none=>none
 | _=>none
theorem CW.zjI(ok:POk P){h0:aT}{rd:Bool}{c:Code}{s s':AS}{e:Exit}{φ:AT}(ks:iS)(k:Nat)(hk:h0.length<=k)(as:BY)(hs:outCT ks k (symC P Γ h0 rd c s as)=some (e,s',φ))(hp:Uw φ):CW P Γ h0 rd c s e s':=by
 unfold outCT at hs
 split at hs
 case h_2=>simp at hs
 rename_i e1 s1 φ1 hr
 split at hs
 case h_2=>simp at hs
 rename_i s2 ht
 simp only[MM,MP] at hs
 obtain⟨rfl,rfl,rfl⟩:=hs
 obtain⟨ht1,ht2⟩:=EH ht
 refine CW.post (as:=[.st (.trim k)]) (as':=[]) (φ:=j3 k ((oz ks s1).h.take k)) ?_ ht2 (CW.mask ks (BN ok c _ _ _ _ _ _ hr hp))
 simp only[Vi.pre,SOp.app,decide_eq_true hk,ht1,List.append_nil]
def ER(h0:aT)(os:BY)(r:Option Res):Option (Exit×AS×AT):=match r with
 | some ((e,s,[]),φ)=>match Vi.pre h0 s os with
  | some (s,[],φ')=>some (e,s,φ++φ')
  | _=>none
 | _=>none
theorem CW.zjH(ok:POk P){h0:aT}{rd:Bool}{c:Code}{s s':AS}{e:Exit}{φ:AT}(os as:BY)(hs:ER h0 os (symC P Γ h0 rd c s as)=some (e,s',φ))(hp:Uw φ):CW P Γ h0 rd c s e s':=by
 unfold ER at hs
 split at hs
 case h_2=>simp at hs
 rename_i e1 s1 φ1 hr
 split at hs
 case h_2=>simp at hs
 rename_i s2 φ2 ht
 simp only[MM,MP] at hs
 obtain⟨rfl,rfl,rfl⟩:=hs
 obtain⟨p1,p2⟩:=hp.append
 exact CW.post ht p2 (BN ok c _ _ _ _ _ _ hr p1)
theorem CW.loop{h0:aT}{rd:Bool}{c:Code}{ι:Type}(st:ι->AS)(fin:ι->Exit×AS)(μ:ι->Nat)
  (round:∀i,(∃j,μ j<μ i/\fin j=fin i/\CW P Γ h0 rd c (st i) .normal (st j))\/((fin i).1≠.normal/\CW P Γ h0 rd c (st i) (fin i).1 (fin i).2)) (i0:ι):CW P Γ h0 rd (.loop c) (st i0) (fin i0).1 (fin i0).2:=by
 intro X r hn hrd
 refine VW.loop (λi s=>s=st i/\fin i=fin i0) μ i0 ⟨rfl,rfl⟩ ?_
 rintro i s ⟨rfl,hi⟩
 rcases round i with ⟨j,h1,h2,h3⟩|⟨h1,h2⟩
 ·refine(h3 X r hn hrd).mono ?_
  rintro e s ⟨rfl,rfl⟩
  exact⟨j,⟨rfl,h2.trans hi⟩,h1⟩
 ·refine(h2 X r hn hrd).mono ?_
  rintro e s ⟨rfl,rfl⟩
  rw[hi] at h1 ⊢
  generalize (fin i0).1=e at h1
  cases e with
  | normal=>grind
  | _=>exact⟨rfl,rfl⟩
theorem CW.zig{h0:aT}{rd:Bool}{c:Code}(n:Nat)(st:Nat->AS){e:Exit}{s':AS}(he:e≠.normal)(hs:∀i,i<n->CW P Γ h0 rd c (st i) .normal (st (i+1)))(hl:CW P Γ h0 rd c (st n) e s'):CW P Γ h0 rd (.loop c) (st 0) e s':=by
 refine CW.loop (ι:={i:Nat // i<=n}) (λi=>st i.1) (λ_=>(e,s')) (λi=>n-i.1) ?_ ⟨0,TK _⟩
 rintro⟨i,hi⟩
 by_cases h:i<n
 ·exact .inl ⟨⟨i+1,by omega⟩,by simp only;omega,rfl,hs i h⟩
 grind
def Eg:Code->List Code
 | .seq a b=>Eg a++Eg b
 | .cond _ a b=>Eg a++Eg b
 | .block _ b=>Eg b
 | .scope b=>Eg b
 | .loop b=>b::Eg b
 | .rangeFunc g ps a b=>.rangeFunc g ps a b::(Eg a++Eg b)
 | _=>[]
def sub(fn:Func)(k:Nat):Code:=match fn.body with
 | some c=>(Eg c).getD k .skip
 | none=>.skip
theorem wrap_i64{n:Int}(h1 : -9223372036854775808<=n)(h2:n<=9223372036854775807):IntKind.i64.wrap n=n:=by
 rw[IntKind.wrap_i64]
 omega
end
theorem Ev.zfO{P:Program}{Γ:aq}{f:FuncId}{args:bY}{h h' h2:aT}{d d2:D}(he:Ev P Γ f args h d h')(hd:d=d2)(hh:h'=h2):Ev P Γ f args h d2 h2:=hd▸hh▸he
theorem CW.cast{P:Program}{Γ:aq}{h0:aT}{rd:Bool}{c:Code}{s s' s2:AS}{e e2:Exit}(hw:CW P Γ h0 rd c s e s')(he:e=e2)(hs:s'=s2):CW P Γ h0 rd c s e2 s2:=he▸hs▸hw
def UD{α σ ρ:Type}(f:α->σ->σ⊕ρ):List α->σ->σ⊕ρ
 | [],s=>.inl s
 | a::l,s=>match f a s with
  | .inl s'=>UD f l s'
  | .inr r=>.inr r
def bJ{σ ρ:Type}(eE:Exit)(sE:σ->AS)(fin:ρ->Exit×AS):σ⊕ρ->Exit×AS
 | .inl s=>(eE,sE s)
 | .inr r=>fin r
def ad{σ ρ:Type}(st:σ->AS)(fin:ρ->Exit×AS):σ⊕ρ->Exit×AS
 | .inl s=>(.normal,st s)
 | .inr r=>fin r
theorem CW.each{P:Program}{Γ:aq}{h0:aT}{rd:Bool}{c:Code}{α σ ρ:Type}(l:List α)(f:α->σ->σ⊕ρ)(st:Nat->σ->AS)(eE:Exit)(sE:σ->AS)(fin:ρ->Exit×AS)
  (inv:Nat->σ->Prop) (hE:eE≠.normal) (hF:∀r,(fin r).1≠.normal)
  (body:∀i a s,l[i]? = some a->inv i s->(∀s',f a s=.inl s'->inv (i+1) s')/\CW P Γ h0 rd c (st i s) (ad (st (i+1)) fin (f a s)).1 (ad (st (i+1)) fin (f a s)).2)
  (last:∀s,inv l.length s->CW P Γ h0 rd c (st l.length s) eE (sE s)) (s:σ) (h:inv 0 s) :
  CW P Γ h0 rd (.loop c) (st 0 s) (bJ eE sE fin (UD f l s)).1 (bJ eE sE fin (UD f l s)).2:=by
 refine CW.loop (ι:={p:Nat×σ // p.1<=l.length/\inv p.1 p.2}) (λp=>st p.1.1 p.1.2) (λp=>bJ eE sE fin (UD f (l.drop p.1.1) p.1.2)) (λp=>l.length-p.1.1) ?_ ⟨(0,s),TK _,h⟩
 rintro⟨⟨i,s⟩,hi,hv⟩
 simp only at hi hv ⊢
 by_cases U8:i<l.length
 ·have ha:l[i]? = some l[i]:=Nd U8
  have hd:l.drop i=l[i]::l.drop (i+1):=List.drop_eq_getElem_cons U8
  obtain⟨b1,b2⟩:=body i _ s ha hv
  rw[hd]
  simp only[UD]
  cases hf:f l[i] s with
  | inl s' =>
   rw[hf] at b2
   exact .inl ⟨⟨(i+1,s'),U8,b1 _ hf⟩,by simp only;omega,rfl,b2⟩
  | inr r =>
   rw[hf] at b2
   exact .inr ⟨hF r,b2⟩
 ·have:i=l.length:=by omega
  subst this
  rw[List.drop_length]
  exact .inr ⟨hE,last s hv⟩
def ar:Code->Code
 | .rangeFunc _ _ a _=>a
 | _=>.skip
def af:Code->Code
 | .rangeFunc _ _ _ b=>b
 | _=>.skip
theorem Iv.round{P:Program}{Γ:aq}{b:Nat}{args:bY}{h h1 h':aT}{Ν:Of}{f:FuncId}{ts:bY}{ps:Array Tmp}{asg body:Code}{t1:bY}{p1:Of}{f1:FuncId}{ts1:bY}{ps1:Array Tmp}
  {a1 b1:Code} {e2:Exit} {s2:AS} {d:D} (hb:h[b]? = some (.loop .ready Ν f ts ps asg body)) (hlen:args.length=ps.size)
  (hasg:CW P Γ h true asg {t:=dW ts (ps.toList.zip args),h:=h,m:=[]} .normal {t:=t1,h:=h1,m:=[]})
  (hb1:h1[b]? = some (.loop .ready p1 f1 ts1 ps1 a1 b1))
  (zjn:CW P Γ h true body {t:=t1,h:=h1.set b (.loop .busy p1 f1 ts1 ps1 a1 b1),m:=[]} e2 s2)
  (zhc:mZ b e2 s2=some (d,h')):Iv P Γ (.ref (.yl b)) args h d h' :=
 ot hb hlen (λX r hX=>hasg X r hX (λh=>by cases h)) hb1 (λX r hX=>zjn X r hX (λh=>by cases h)) zhc
theorem CW.rangeFunc{P:Program}{Γ:aq}(ok:POk P){h0:aT}{s s':AS}{g:Operand}{ps:Array Tmp}{asg body:Code}{f:FuncId}{fi ca:bY}{d:D}{h2:aT}{e:Exit}(hg:cX (U0 Γ s.t g)=some (f,fi,ca))(hf:ff P f=true)
  (hc:Ev P Γ f (fi++[.ref (.yl (s.h.length+1))]++ca) (s.h++[.Ut]++[.loop .ready none 0 s.t ps asg body]) d h2)
  (he:sb s.h.length s.t s.m h2=some (e,s')):CW P Γ h0 false (.rangeFunc g ps asg body) s e s':=by
 intro X r _ hr
 obtain rfl:=hr rfl
 exact VW.rangeFunc ok hg hf (hc.mono λ_ _ hq=>hq.2) he
def Ref.to(n:Nat):Ref->Ref
 | .ptr _ o=>.ptr n o
 | .T7 _ e=>.T7 n e
 | .vs _ e i k c=>.vs n e i k c
 | .av _ o k s=>.av n o k s
 | .vp _ e i j=>.vp n e i j
 | .mp _=>.mp n
 | .it _=>.it n
 | .yl _=>.yl n
def idx(x:Nat):Nat->iS->Do
 | _,[]=>none
 | k,y::ys=>match x==y with
  | true=>some k
  | false=>idx x (k+1) ys
theorem iX{x:Nat}:∀{ys:iS} {k i:Nat},idx x k ys=some i->k<=i/\ys[i-k]? = some x
 | [],k,i,h=>by simp[idx] at h
 | y::ys,k,i,h=>by
  unfold idx at h
  split at h
  ·grind
  ·obtain⟨h1,h2⟩:=iX h
   grind
theorem su{x:Nat}:∀{ys:iS} {k:Nat},idx x k ys=none->x ∉ ys
 | [],k,_=>by simp
 | y::ys,k,h=>by
  unfold idx at h
  split at h
  ·simp at h
  ·rename_i e
   simp only[beq_eq_false_iff_ne,ne_eq] at e
   simp[e,su h]
theorem yf{x:Nat}{ys:iS}{i:Nat}(hn:ys.Nodup)(h:ys[i]? = some x):idx x 0 ys=some i:=by
 cases hi:idx x 0 ys with
 | none=>exact absurd (NX h) (su hi)
 | some j =>
  obtain⟨_,h2⟩:=iX hi
  simp only[Qv] at h2
  have hj:=(MR.1 h2).1
  have hi':=(MR.1 h).1
  rw[Nd hj] at h2
  rw[Nd hi'] at h
  have:ys[j]=ys[i]:=by simp only[MM] at h h2;rw[h,h2]
  rw[(List.getElem_inj hn).1 this]
def inv(is:iS)(r:Ref):D:=match idx r.T8 0 is with
 | some i=>.ref (r.to i)
 | none=>.any
def fwd(is:iS)(m:Nat)(r:Ref):D:=match is[r.T8]? with
 | some i=>.ref (r.to i)
 | none=>.ref (r.to (m+(r.T8-is.length)))
def jx:Uc->Bool
 | .mit ..=>true
 | _=>false
section
variable {w:World} {av av':Nat->Prop} {l l':Loc} {h h':aT} {f:Ref->D}
mutual
theorem fW(ha:∀k,av' k->av k)(hf:∀r y,Ua l h r y->Rel w av' l' h' (f r) y):∀{d:D} {y:Value},Rel w av l h d y->Rel w av' l' h' (NS f d) y
 | .p _,_,r=>by simp only[Rel,NS] at r ⊢;exact fQ ha r
 | .any,_,_=>by simp[Rel,NS]
 | .ref r,y,rr=>by grind [NS,Rel]
 | .ep _,_,r=>by
  simp only[Rel,NS] at r ⊢
  obtain⟨T8,off,r1,r2⟩:=r
  exact⟨T8,off,r1,aL ha r2⟩
 | .csl _,_,r=>by
  simp only[Rel,NS] at r ⊢
  rcases r with r|⟨T8,off,sz,r1,r2⟩
  ·exact .inl r
  ·exact .inr ⟨T8,off,sz,r1,c9 ha r2⟩
 | .fn _ _ _,_,r=>by
  simp only[Rel,NS] at r ⊢
  obtain⟨a,c,r1,r2,r3⟩:=r
  exact⟨a,c,r1,bS ha hf r2,bS ha hf r3⟩
 | .agg _,_,r=>by
  simp only[Rel,NS] at r ⊢
  obtain⟨vs,r1,r2⟩:=r
  exact⟨vs,r1,bS ha hf r2⟩
 | .UI _,_,r=>by
  simp only[Rel,NS] at r ⊢
  obtain⟨vs,r1,r2⟩:=r
  exact⟨vs,r1,bS ha hf r2⟩
 | .grd _ _,_,r=>by
  simp only[Rel,NS] at r ⊢
  exact⟨λhg=>fW ha hf (r.1 hg),r.2⟩
theorem bS(ha:∀k,av' k->av k)(hf:∀r y,Ua l h r y->Rel w av' l' h' (f r) y):∀{ds:bY} {ys:At},U1 w av l h ds ys->U1 w av' l' h' (N8 f ds) ys
 | [],[],_=>by simp[U1,N8]
 | [],_::_,r=>by simp[U1] at r
 | _::_,[],r=>by simp[U1] at r
 | _::_,_::_,r=>by
  simp only[U1,N8] at r ⊢
  exact⟨fW ha hf r.1,bS ha hf r.2⟩
end
theorem oP(ha:∀k,av' k->av k)(hf:∀r y,Ua l h r y->Rel w av' l' h' (f r) y):∀{WV:List (D×D×Nat)} {es:List MapEntry},Uq w av l h WV es ->
  Uq w av' l' h' (WV.map λe=>(NS f e.1,NS f e.2.1,e.2.2)) es
 | [],[],_=>by simp[Uq]
 | [],_::_,r=>by simp[Uq] at r
 | _::_,[],r=>by simp[Uq] at r
 | (k,d,m)::WV,e::es,r=>by
  simp only[Uq,NW] at r ⊢
  exact⟨fW ha hf r.1,fW ha hf r.2.1,r.2.2.1,oP ha hf r.2.2.2⟩
theorem gC(ha:∀k,av' k->av k)(hf:∀r y,Ua l h r y->Rel w av' l' h' (f r) y){b b':Nat}(hl:l' b'=l b){x:Uc}(hm:jx x=false)(r:Up w av l h b x):Up w av' l' h' b' (x.UG f):=by
 cases x with
 | var cs =>
  obtain⟨T8,cp,c,T,r1,r2,r3⟩:=r
  exact⟨T8,cp,c,T,hl.trans r1,r2,bS ha hf r3⟩
 | T7 es e sz =>
  unfold Up at r ⊢
  simp only[Pf,hl] at r ⊢
  split
  ·grind
  ·rename_i T8 cap h0
   rw[h0] at r
   obtain⟨oo,cc,rc,c,T,fr,ys,r1,r2,r3,r4,r5,r6,r7⟩:=r
   refine⟨oo,cc,rc,c,T,fr,ys,r1,r2,by simpa using r3,r4,?_,?_,r7⟩
   ·grind [ii]
   ·rw[<-gy];exact bS ha hf r6
 | map WV clock =>
  obtain⟨T8,cp,es,r1,r2,r3⟩:=r
  exact⟨T8,cp,es,hl.trans r1,r2,oP ha hf r3⟩
 | sit s pos =>
  obtain⟨T8,cp,r1,r2⟩:=r
  exact⟨T8,cp,hl.trans r1,r2⟩
 | mit m since seen st=>simp[jx] at hm
 | loop st Ν fn tmps params asg body =>
  obtain⟨T8,cp,ts,dr,fn',r1,r2,r3,r4⟩:=r
  exact⟨T8,cp,ts,dr,fn',hl.trans r1,r2,bS ha hf r3,r4⟩
 | Ut =>
  obtain⟨T8,cp,r1,r2⟩:=r
  exact⟨T8,cp,hl.trans r1,r2⟩
 | U7=>trivial
end
theorem qO{f:Ref->D}(x:Uc):jx (x.UG f)=jx x:=by cases x<;>rfl
theorem yg{f g:Ref->D}{x y:Uc}(h:(x.UG f).le y):x.le (y.UG g)/\(x.stays (y.UG g)->(x.UG f).stays y):=by
 cases x<;>cases y<;>simp only[Tg,Pf] at h<;>simp_all[Tg,Pf,Q4]
theorem ES{g:Ref->D}{x y:Uc}(h:x.le y):x.le (y.UG g)/\(x.stays (y.UG g)->x.stays y):=by
 cases x<;>cases y<;>simp only[Tg] at h<;>simp_all[Tg,Pf,Q4]
theorem oQ{l l':Loc}{h h':aT}{f:Ref->D}{r:Ref}{n:Nat}{x:Uc}{y:Value}(hx:h[r.T8]? = some x)(hx':h'[n]? = some (x.UG f))(hl:l' n=l r.T8)(rr:Ua l h r y):Ua l' h' (r.to n) y:=by
 unfold Ua at rr ⊢
 refine⟨rr.1,?_⟩
 have rr:=rr.2
 cases r<;>simp only[Sf] at hx hl<;>simp only[hx] at rr<;>simp only[Ref.to,hx',hl]<;>cases x<;>simp[Pf] at rr ⊢ <;> exact rr
theorem gD{l:Loc}{h:aT}{r:Ref}{y:Value}(rr:Ua l h r y):∃x,h[r.T8]? = some x:=by
 unfold Ua at rr
 have rr:=rr.2
 cases hx:h[r.T8]? with
 | some x=>grind
 | none=>cases r<;>simp only[Sf] at hx<;>simp only[hx] at rr
def pick(is:iS)(H:aT):aT:=is.map λi=>(H.getD i .U7).UG (inv is)
theorem nf{is:iS}{H:aT}{b:Nat}{x:Uc}(h:(pick is H)[b]? = some x):∃i,is[b]? = some i/\x=(H.getD i .U7).UG (inv is):=by
 unfold pick at h
 grind
section
variable {Γ:aq} {O:Nat->Prop} {w:World} {l:Loc} {H:aT} {is:iS}
def pS(is:iS)(l:Loc):Loc:=λb=>match is[b]? with
 | some i=>l i
 | none=>none
theorem yh{k:Nat}(ho:own (pS is l) (pick is H) k):∃(b i cp:Nat) (x:Uc),is[b]? = some i/\H[i]? = some x/\x≠.U7/\l i=some (k,cp):=by
 obtain⟨b,x,cp,h1,h2,h3⟩:=ho
 obtain⟨i,hi,rfl⟩:=nf h1
 unfold pS at h3
 rw[hi] at h3
 have hg:H.getD i .U7≠.U7:=λe=>h2 (by rw[e];rfl)
 grind
theorem cd{k:Nat}(ho:own (pS is l) (pick is H) k):own l H k:=by
 obtain⟨b,i,cp,x,_,h2,h3,h4⟩:=yh ho
 exact⟨i,x,cp,h2,h3,h4⟩
theorem lD(_hn:is.Nodup){r:Ref}{y:Value}(rr:Ua l H r y){av:Nat->Prop}:Rel w av (pS is l) (pick is H) (inv is r) y:=by
 unfold inv
 cases hi:idx r.T8 0 is with
 | none=>simp[Rel]
 | some i =>
  obtain⟨_,h2⟩:=iX hi
  simp only[Qv] at h2
  obtain⟨x,hx⟩:=gD rr
  simp only[Rel]
  refine oQ (f:=inv is) hx ?_ ?_ rr
  ·unfold pick
   grind
  ·unfold pS
   rw[h2]
theorem UJ.pick(R:UJ Γ O w l H)(hn:is.Nodup)(hm:(pick is H).all (λx=>!jx x)=true){O':Nat->Prop}(hO:∀k,Ub O' (pS is l) (Vi.pick is H) k->Ub O l H k)(hO2:∀k,O' k->Ub O l H k/\¬own (pS is l) (Vi.pick is H) k):
  UJ Γ O' w (pS is l) (Vi.pick is H) where
 inb k ho:=⟨(R.inb k (cd ho)).1,λh'=>(hO2 k h').2 ho⟩
 obd k ho:=by
  rcases(hO2 k ho).1 with h'|h'
  ·exact R.obd k h'
  ·exact(R.inb k h').1
 inj b b' x x' k c c' h1 h2 h3 h4 h5 h6:=by
  obtain⟨i,hi,rfl⟩:=nf h1
  obtain⟨i',hi',rfl⟩:=nf h3
  unfold pS at h5 h6
  rw[hi] at h5;rw[hi'] at h6
  have g1:H.getD i .U7≠.U7:=λe=>h2 (by rw[e];rfl)
  have g2:H.getD i' .U7≠.U7:=λe=>h4 (by rw[e];rfl)
  have e1:H[i]? = some (H.getD i .U7):=by
   cases hx:H[i]? with
   | none=>grind
   | some x=>simp[Nb,hx]
  have e2:H[i']? = some (H.getD i' .U7):=by
   cases hx:H[i']? with
   | none=>grind
   | some x=>simp[Nb,hx]
  have:=R.inj i i' _ _ k c c' e1 g1 e2 g2 h5 h6
  subst this
  have a1:=yf hn hi
  have a2:=yf hn hi'
  grind
 T8 b x h1:=by
  obtain⟨i,hi,rfl⟩:=nf h1
  cases hx:H[i]? with
  | none=>simp[Nb,hx,Pf,Up]
  | some x =>
   have hg:H.getD i .U7=x:=by simp[Nb,hx]
   rw[hg] at h1 ⊢
   refine gC hO (λr y rr=>lD hn rr) (b:=i) ?_ ?_ (R.T8 i x hx)
   ·unfold pS;rw[hi]
   grind [qO]
 glo g cs hg:=aL hO (R.glo g cs hg)
end
def gR(is:iS)(m:Nat)(h':aT):Nat->aT->aT
 | _,[]=>[]
 | b,x::xs=>(match idx b 0 is with
  | some i=>(h'.getD i .U7).UG (fwd is m)
  | none=>x)::gR is m h' (b+1) xs
def qP(is:iS)(h':aT)(H:aT):aT:=gR is H.length h' 0 H++(h'.drop is.length).map (Pf (fwd is H.length))
theorem dl{is:iS}{m:Nat}{h':aT}:∀(b:Nat) (xs:aT),(gR is m h' b xs).length=xs.length
 | _,[]=>rfl
 | b,x::xs=>by simp[gR,dl (b+1) xs]
theorem lE{is:iS}{m:Nat}{h':aT}:∀(b:Nat) (xs:aT) (j:Nat),(gR is m h' b xs)[j]? = (xs[j]?).map λx=>match idx (b+j) 0 is with|some i=>(h'.getD i .U7).UG (fwd is m)|none=>x
 | b,[],j=>by simp[gR]
 | b,x::xs,0=>by simp[gR]
 | b,x::xs,j+1=>by
  simp only[gR,OW]
  rw[lE (b+1) xs j,show b+1+j=b+(j+1) by omega]
section
variable {is:iS} {h' H:aT}
theorem yj{b:Nat}{x:Uc}(hx:H[b]? = some x)(hi:idx b 0 is=none):(qP is h' H)[b]? = some x:=by
 have U8:=(MR.1 hx).1
 unfold qP
 rw[M4 (by rw[dl];exact U8),lE,hx]
 simp[hi]
theorem wu{b i:Nat}{x:Uc}(hx:H[b]? = some x)(hi:idx b 0 is=some i):(qP is h' H)[b]? = some ((h'.getD i .U7).UG (fwd is H.length)):=by
 have U8:=(MR.1 hx).1
 unfold qP
 rw[M4 (by rw[dl];exact U8),lE,hx]
 simp[hi]
theorem yk{j:Nat}:(qP is h' H)[H.length+j]? = (h'[is.length+j]?).map (Pf (fwd is H.length)):=by
 grind [dl,qP]
theorem zjO{b:Nat}{x:Uc}(h:(qP is h' H)[b]? = some x):
  (idx b 0 is=none/\H[b]? = some x)\/(∃i,b<H.length/\idx b 0 is=some i/\x=(h'.getD i .U7).UG (fwd is H.length))\/∃j y,b=H.length+j/\h'[is.length+j]? = some y/\x=y.UG (fwd is H.length):=by
 by_cases hb:b<H.length
 ·have hx:H[b]? = some H[b]:=Nd hb
  cases hi:idx b 0 is with
  | none=>rw[yj hx hi] at h;grind
  | some i=>rw[wu hx hi] at h;grind
 ·obtain⟨j,rfl⟩:∃j,b=H.length+j:=⟨b-H.length,by omega⟩
  rw[yk] at h
  grind
end
def ym(is:iS)(m:Nat)(l l0:Loc):Loc:=λb=>match idx b 0 is with
 | some i=>l0 i
 | none=>match Zd (b<m) with
  | true=>l b
  | false=>l0 (is.length+(b-m))
theorem Ev.frame{P:Program}{Γ:aq}{f:FuncId}{zjr args:bY}{h0 h0' H:aT}{d0:D}(is:iS)(he:Ev P Γ f zjr h0 d0 h0')(hn:is.Nodup)(hb:∀i∈is,i<H.length)
  (ha:N8 (inv is) args=zjr) (hh:pick is H=h0) (hm:(h0.all (λx=>!jx x)&&h0'.all (λx=>!jx x))=true) :
  Ev P Γ f args H (d0.UG (fwd is H.length)) (qP is h0' H):=by
 simp only[MT] at hm
 subst hh ha
 intro O w l vs R ra
 let O':Nat->Prop:=λk=>Ub O l H k/\¬own (pS is l) (pick is H) k
 have hO1:∀k,Ub O' (pS is l) (pick is H) k->Ub O l H k:=λk ho=>ho.elim (·.1) (λh=>.inr (cd h))
 have hO2:∀k,Ub O l H k->Ub O' (pS is l) (pick is H) k:=λk ho=>by
  by_cases h:own (pS is l) (pick is H) k
  ·exact .inr h
  ·exact .inl ⟨ho,h⟩
 have R0:UJ Γ O' w (pS is l) (pick is H):=R.pick hn hm.1 hO1 (λk h=>h)
 have ra0:U1 w (Ub O' (pS is l) (pick is H)) (pS is l) (pick is H) (N8 (inv is) args) vs:=bS hO1 (λr y rr=>lD hn rr) ra
 refine Pm (he O' w (pS is l) vs R0 ra0) ?_
 rintro e w' ⟨v,d2,h2,l',rfl,⟨rfl,rfl⟩,R',E',rd⟩
 have hlen:is.length<=h2.length:=by
  rcases Nat.lt_or_ge h2.length is.length with U8|hge
  ·exfalso
   have hp:(pick is H)[h2.length]?≠none:=by
    unfold pick;rw[Om];simp[U8]
   cases hx:(pick is H)[h2.length]? with
   | none=>exact hp hx
   | some x =>
    obtain⟨x',h1,_⟩:=E'.keep _ x hx
    simp at h1
  ·exact hge
 have hisP:∀{b i:Nat},is[b]? = some i->∃x,H[i]? = some x/\(pick is H)[b]? = some (x.UG (inv is)):=λ{b i} hi=>by
  have U8:=hb i (NX hi)
  refine⟨H[i],Nd U8,?_⟩
  unfold pick
  grind
 have L1:∀{i b:Nat},is[i]? = some b->ym is H.length l l' b=l' i:=λ{i b} hi=>by
  unfold ym;rw[yf hn hi]
 have L2:∀{b:Nat},idx b 0 is=none->b<H.length->ym is H.length l l' b=l b:=λ{b} h1 h2=>by
  unfold ym;rw[h1];simp[h2]
 have L3:∀{j:Nat},ym is H.length l l' (H.length+j)=l' (is.length+j):=λ{j}=>by
  unfold ym
  have:idx (H.length+j) 0 is=none:=by
   cases hi:idx (H.length+j) 0 is with
   | none=>rfl
   | some i =>
    obtain⟨_,h2⟩:=iX hi
    grind
  grind
 have back:∀{b:Nat} {x:Uc},(qP is h2 H)[b]? = some x->(idx b 0 is=none/\H[b]? = some x)\/∃i y,h2[i]? = some y/\x=y.UG (fwd is H.length)/\ym is H.length l l' b=l' i/\(∀b' x',(qP is h2 H)[b']? = some x'->(idx b' 0 is=none/\H[b']? = some x')\/∃i' y',h2[i']? = some y'/\x'=y'.UG (fwd is H.length)/\ym is H.length l l' b'=l' i'/\(i=i'->b=b')):=by
  have one:∀{b:Nat} {x:Uc},(qP is h2 H)[b]? = some x->(idx b 0 is=none/\H[b]? = some x)\/∃i y,h2[i]? = some y/\x=y.UG (fwd is H.length)/\ym is H.length l l' b=l' i/\((i<is.length/\is[i]? = some b)\/(is.length<=i/\b=H.length+(i-is.length))):=by
   intro b x hx
   rcases zjO hx with h|⟨i,h1,h3,rfl⟩|⟨j,y,rfl,h3,rfl⟩
   ·exact .inl h
   ·obtain⟨_,h4⟩:=iX h3
    grind
   ·grind
  intro b x hx
  rcases one hx with h|⟨i,y,h1,h3,h4,h5⟩
  ·exact .inl h
  ·grind
 have zjj:∀{y:Uc},y.UG (fwd is H.length)≠.U7->y≠.U7:=λ{y} h e=>h (by rw[e];rfl)
 have oldO:∀{b:Nat} {x:Uc} {k c:Nat},idx b 0 is=none->H[b]? = some x->x≠.U7->l b=some (k,c)->O' k:=λ{b x k c} hi hx hg hl=>by
  refine⟨.inr ⟨b,x,c,hx,hg,hl⟩,λho=>?_⟩
  obtain⟨b',i,cp,x',q1,q2,q3,q4⟩:=yh ho
  have:=R.inj b i x x' k c cp hx hg q2 q3 hl q4
  subst this
  exact su hi (NX q1)
 have ownL:∀{k:Nat},own (ym is H.length l l') (qP is h2 H) k->own l' h2 k\/(own l H k/\O' k):=λ{k} ⟨b,x,cp,g1,g2,g3⟩=>by
  rcases back g1 with ⟨a1,a2⟩|⟨i,y,a1,a2,a3,_⟩
  ·have U8:=(MR.1 a2).1
   rw[L2 a1 U8] at g3
   exact .inr ⟨⟨b,x,cp,a2,g2,g3⟩,oldO a1 a2 g2 g3⟩
  ·rw[a3] at g3
   exact .inl ⟨i,y,cp,a1,zjj (a2▸g2),g3⟩
 have avL:∀k,Ub O (ym is H.length l l') (qP is h2 H) k->Ub O' l' h2 k:=λk ho=>by
  rcases ho with ho|ho
  ·refine .inl ⟨.inl ho,λh=>(R.inb k (cd h)).2 ho⟩
  ·rcases ownL ho with h|h
   ·exact .inr h
   ·exact .inl h.2
 have hf:∀(r:Ref) (y:Value),Ua l' h2 r y->Rel w' (Ub O (ym is H.length l l') (qP is h2 H)) (ym is H.length l l') (qP is h2 H) (fwd is H.length r) y:=λr y rr=>by
  obtain⟨x,hx⟩:=gD rr
  unfold fwd
  cases hi:is[r.T8]? with
  | some b =>
   simp only[Rel]
   obtain⟨x0,q1,_⟩:=hisP hi
   refine oQ hx ?_ (L1 hi) rr (f:=fwd is H.length)
   rw[wu q1 (yf hn hi)]
   simp[Nb,hx]
  | none =>
   simp only[Rel]
   have hge:is.length<=r.T8:=by simpa using hi
   refine oQ hx ?_ ?_ rr (f:=fwd is H.length)
   ·rw[yk,show is.length+(r.T8-is.length)=r.T8 by omega,hx];rfl
   simp_all
 have E:Ext w l H w' (ym is H.length l l') (qP is h2 H):=by
  refine⟨E'.size,λT8 U8 hno=>E'.same T8 U8 (λho=>hno (cd ho)),λT8 ho=>?_,λb x hx=>?_,E'.tape⟩
  ·rcases ownL ho with h|h
   ·rcases E'.news T8 h with h|h
    ·exact .inl (cd h)
    ·exact .inr h
   grind
  ·have U8:=(MR.1 hx).1
   cases hi:idx b 0 is with
   | none=>exact⟨x,yj hx hi,x.le_refl,λ_=>L2 hi U8⟩
   | some i =>
    obtain⟨_,h4⟩:=iX hi
    simp only[Qv] at h4
    obtain⟨x0,q1,q2⟩:=hisP h4
    rw[hx] at q1;cases q1
    obtain⟨x',k1,k2,k3⟩:=E'.keep i _ q2
    have hgd:h2.getD i .U7=x':=by simp[Nb,k1]
    refine⟨_,wu hx hi,?_,λhs=>?_⟩
    ·rw[hgd];exact(yg k2).1
    ·rw[hgd] at hs
     rw[L1 h4,k3 ((yg k2).2 hs)]
     unfold pS;rw[h4]
 refine⟨v,_,_,_,rfl,⟨rfl,rfl⟩,⟨λk ho=>?_,λk ho=>PQ (R.obd k ho) E'.size,?_,λb x hx=>?_,λg cs hg=>?_⟩,E,?_⟩
 ·rcases ownL ho with h|h
  ·obtain⟨p1,p2⟩:=R'.inb k h
   refine⟨p1,λhk=>p2 ⟨.inl hk,λXW=>(R.inb k (cd XW)).2 hk⟩⟩
  ·obtain⟨p1,p2⟩:=R.inb k h.1
   exact⟨PQ p1 E'.size,p2⟩
 ·intro b b' x x' k c c' g1 g2 g3 g4 g5 g6
  rcases back g1 with ⟨a1,a2⟩|⟨i,y,a1,a2,a3,a4⟩
  ·have U8:=(MR.1 a2).1
   rw[L2 a1 U8] at g5
   rcases back g3 with ⟨d1,d2⟩|⟨i',y',d1,d2,d3,_⟩
   ·have hlt':=(MR.1 d2).1
    rw[L2 d1 hlt'] at g6
    exact R.inj b b' x x' k c c' a2 g2 d2 g4 g5 g6
   ·rw[d3] at g6
    exact absurd (oldO a1 a2 g2 g5) (R'.inb k ⟨i',y',c',d1,zjj (d2▸g4),g6⟩).2
  ·rw[a3] at g5
   rcases a4 b' x' g3 with ⟨d1,d2⟩|⟨i',y',d1,d2,d3,d4⟩
   ·have hlt':=(MR.1 d2).1
    rw[L2 d1 hlt'] at g6
    exact absurd (oldO d1 d2 g4 g6) (R'.inb k ⟨i,y,c,a1,zjj (a2▸g2),g5⟩).2
   ·rw[d3] at g6
    exact d4 (R'.inj i i' y y' k c c' a1 (zjj (a2▸g2)) d1 (zjj (d2▸g4)) g5 g6)
 ·rcases back hx with ⟨a1,a2⟩|⟨i,y,a1,rfl,a3,_⟩
  ·have U8:=(MR.1 a2).1
   by_cases hg:x=.U7
   ·subst hg;trivial
   refine Up.ext E (L2 a1 U8) (λT8 cp hl=>?_) (R.T8 b x a2)
   exact E'.same T8 (R.inb T8 ⟨b,x,cp,a2,hg,hl⟩).1 (oldO a1 a2 hg hl).2
  ·refine gC avL hf a3 ?_ (R'.T8 i y a1)
   grind
 ·exact Qi E.hc g 0 cs (R.glo g cs hg)
 ·exact fW avL hf rd
def uG:iS->Bool
 | []=>true
 | x::xs=>!Bx x xs&&uG xs
theorem lF:∀{xs:iS},uG xs=true->xs.Nodup
 | [],_=>Rm
 | x::xs,h=>by
  simp only[uG,MT,Bool.not_eq_true'] at h
  refine Sr.2 ⟨λhm=>?_,lF h.2⟩
  rw[gA.2 hm] at h
  simp at h
def wv(is:iS)(H:aT):iS->aT
 | []=>[]
 | i::js=>Ux (inv is) (H.getD i .U7)::wv is H js
def ET(is:iS)(H:aT):iS->AT
 | []=>[]
 | i::js=>oA (inv is) (H.getD i .U7)++ET is H js
theorem sv{is:iS}{H:aT}:∀{js:iS},Uw (ET is H js)->wv is H js=js.map λi=>(H.getD i .U7).UG (inv is)
 | [],_=>rfl
 | i::js,h=>by
  obtain⟨h1,h2⟩:=Rz (ps:=oA (inv is) (H.getD i .U7)) h
  simp only[wv,NW,j4 h1,sv h2]
def sw(is:iS)(m:Nat)(h':aT):Nat->aT->aT
 | _,[]=>[]
 | b,x::xs=>(match idx b 0 is with
  | some i=>Ux (fwd is m) (h'.getD i .U7)
  | none=>x)::sw is m h' (b+1) xs
def mapX(f:Ref->D):aT->aT
 | []=>[]
 | x::xs=>Ux f x::mapX f xs
def zfz(f:Ref->D):aT->AT
 | []=>[]
 | x::xs=>oA f x++zfz f xs
theorem BO{f:Ref->D}:∀{h:aT},Uw (zfz f h)->mapX f h=h.map (Pf f)
 | [],_=>rfl
 | x::xs,h=>by
  obtain⟨h1,h2⟩:=Rz (ps:=oA f x) h
  simp only[mapX,NW,j4 h1,BO h2]
theorem yn{f:Ref->D}:∀{h:aT} (i:Nat),Uw (zfz f h)->Uw (oA f (h.getD i .U7))
 | [],i,_=>by simp[oA,Uw]
 | x::xs,i,h=>by
  obtain⟨h1,h2⟩:=Rz (ps:=oA f x) h
  cases i with
  | zero=>exact h1
  | succ i=>simpa using yn i h2
theorem uH{f:Ref->D}:∀{h:aT} (i:Nat),Uw (zfz f h)->Uw (zfz f (h.drop i))
 | [],i,_=>by simp[zfz,Uw]
 | x::xs,i,h=>by
  cases i with
  | zero=>exact h
  | succ i =>
   obtain⟨h1,h2⟩:=Rz (ps:=oA f x) h
   exact uH i h2
theorem qQ{is:iS}{m:Nat}{h':aT}(hp:Uw (zfz (fwd is m) h')):∀(b:Nat) (xs:aT),sw is m h' b xs=gR is m h' b xs
 | _,[]=>rfl
 | b,x::xs=>by
  simp only[sw,gR,qQ hp (b+1) xs]
  cases idx b 0 is with
  | none=>rfl
  | some i=>simp only[j4 (yn i hp)]
def putX(is:iS)(h':aT)(H:aT):aT:=sw is H.length h' 0 H++mapX (fwd is H.length) (h'.drop is.length)
theorem I8{is:iS}{h' H:aT}(hp:Uw (zfz (fwd is H.length) h')):putX is h' H=qP is h' H:=by
 unfold putX qP
 rw[qQ hp,BO (uH _ hp)]
def BP(is:iS)(h0 h0' H:aT):Bool:=uG is&&is.all (λi=>Zd (i<H.length))&&(h0.all (λx=>!jx x)&&h0'.all (λx=>!jx x))
theorem Ev.zeY{P:Program}{Γ:aq}{f:FuncId}{zjr args:bY}{h0 h0' H:aT}{d0:D}(is:iS)(he:Ev P Γ f zjr h0 d0 h0')(hk:BP is h0 h0' H=true)
  (ha:N8 (inv is) args=zjr) (hh:wv is H is=h0) (p1:Uw (ET is H is)) (p2:Uw (zfz (fwd is H.length) h0')):Ev P Γ f args H (d0.UG (fwd is H.length)) (putX is h0' H):=by
 simp only[BP,MT] at hk
 rw[I8 p2]
 refine Ev.frame is he (lF hk.1.1) (λi hi=>?_) ha ?_ (by grind)
 ·grind
 ·rw[<-hh,sv p1];rfl
def MD(m:Nat)(r:Ref):D:=.ref (r.to (m+r.T8))
theorem BQ(m:Nat):fwd [] m=MD m:=by
 funext r;simp[fwd,MD]
theorem Ev.zmJ{P:Program}{Γ:aq}{f:FuncId}{args:bY}{h0':aT}{d0:D}(he:Ev P Γ f args [] d0 h0')(hm:h0'.all (λx=>!jx x)=true)
  (ha:Ob 0 args=true) (h:aT):Ev P Γ f args h (d0.UG (MD h.length)) (h++h0'.map (Pf (MD h.length))):=by
 have hr:∀(f:Ref->D),(∀d,Pu 0 d=true->NS f d=d)/\∀ds,Ob 0 ds=true->N8 f ds=ds:=λf=>by
  refine⟨?_,?_⟩
  ·intro d
   refine D.rec (motive_1:=λd=>Pu 0 d=true->NS f d=d) (motive_2:=λds=>Ob 0 ds=true->N8 f ds=ds) ?_ ?_ ?_ ?_ ?_ ?_ ?_ ?_ ?_ ?_ ?_ d
   ·intros;rfl
   ·intros;rfl
   ·intro r h;cases r<;>simp[Pu] at h
   ·intros;rfl
   ·intros;rfl
   ·intro g a b ih1 ih2 h;simp only[Pu,MT] at h;grind [NS]
   ·grind [Pu,NS]
   ·grind [Pu,NS]
   ·grind [Pu,NS]
   ·intros;rfl
   ·intro d ds ih1 ih2 h;simp only[Ob,MT] at h;grind [N8]
  ·intro ds
   refine D.rec_1 (motive_1:=λd=>Pu 0 d=true->NS f d=d) (motive_2:=λds=>Ob 0 ds=true->N8 f ds=ds) ?_ ?_ ?_ ?_ ?_ ?_ ?_ ?_ ?_ ?_ ?_ ds
   ·intros;rfl
   ·intros;rfl
   ·intro r h;cases r<;>simp[Pu] at h
   ·intros;rfl
   ·intros;rfl
   ·intro g a b ih1 ih2 h;simp only[Pu,MT] at h;grind [NS]
   ·grind [Pu,NS]
   ·grind [Pu,NS]
   ·grind [Pu,NS]
   ·intros;rfl
   ·intro d ds ih1 ih2 h;simp only[Ob,MT] at h;grind [N8]
 have:=Ev.frame (H:=h) [] he Rm (by simp) ((hr _).2 args ha) rfl (by simpa using hm)
 rw[BQ] at this
 have e:qP [] h0' h=h++h0'.map (Pf (MD h.length)):=by
  unfold qP
  have:∀(b:Nat) (xs:aT),gR [] h.length h0' b xs=xs:=by
   intro b xs
   induction xs generalizing b with
   | nil=>rfl
   | cons x xs ih=>simp[gR,idx,ih]
  rw[this,BQ]
  simp
 grind
section
variable {Γ:aq} {P:Program}
theorem Ev.Α{f:FuncId}{args:bY}{h h':aT}{d:D}(he:Ev P Γ f args h d h')(ks:iS)(hk:(uG (N9 h.length++ks)&&(wv (N9 h.length++ks) h' (N9 h.length++ks)).all (λx=>!jx x))=true)
  (hp:Uw (ET (N9 h.length++ks) h' (N9 h.length++ks))):Ev P Γ f args h (d.UG (inv (N9 h.length++ks))) (wv (N9 h.length++ks) h' (N9 h.length++ks)):=by
 simp only[MT] at hk
 intro O w l vs R ra
 refine Pm (he O w l vs R ra) ?_
 rintro e w' ⟨v,d2,h2,l',rfl,⟨rfl,rfl⟩,R',E',rd⟩
 have hn:=lF hk.1
 have hpk:wv (N9 h.length++ks) h2 (N9 h.length++ks)=pick (N9 h.length++ks) h2:=by rw[sv hp];rfl
 rw[hpk] at hk ⊢
 have hat:∀{b:Nat},b<h.length->(N9 h.length++ks)[b]? = some b:=λ{b} hb=>by
  grind
 generalize N9 h.length++ks=is at hn hk hat
 have hO:∀k,Ub O (pS is l') (pick is h2) k->Ub O l' h2 k:=λk ho=>ho.imp id cd
 refine⟨v,_,_,pS is l',rfl,⟨rfl,rfl⟩,R'.pick hn hk.2 hO (λk ho=>⟨.inl ho,λh=>(R'.inb k (cd h)).2 ho⟩),
  ⟨E'.size,E'.same,λT8 ho=>E'.news T8 (cd ho),λb x hx=>?_,E'.tape⟩,bS hO (λr y rr=>lD hn rr) (ds:=[d2]) (ys:=[v]) ⟨rd,trivial⟩ |>.1⟩
 have U8:=(MR.1 hx).1
 obtain⟨x',h1,h2',h3⟩:=E'.keep b x hx
 obtain⟨g1,g2⟩:=ES (g:=inv is) h2'
 refine⟨_,?_,g1,λhs=>?_⟩
 ·unfold pick
  grind
 grind [pS]
end
def GLe(Γ Γ':aq):Prop:=∀g cs,Γ g=some cs->Γ' g=some cs
theorem GLe.none(Γ':aq):GLe (λ_=>Option.none) Γ':=λ_ _ h=>by simp at h
theorem UJ.less{Γ Γ':aq}{O:Nat->Prop}{w:World}{l:Loc}{h:aT}(hg:GLe Γ Γ')(R:UJ Γ' O w l h):UJ Γ O w l h :=
 ⟨R.inb,R.obd,R.inj,R.T8,λg cs h=>R.glo g cs (hg g cs h)⟩
theorem UJ.more{Γ Γ':aq}{O:Nat->Prop}{w w':World}{l l':Loc}{h h':aT}(R:UJ Γ' O w l h)(E:Ext w l h w' l' h')(R':UJ Γ O w' l' h'):UJ Γ' O w' l' h' :=
 ⟨R'.inb,R'.obd,R'.inj,R'.T8,λg cs hg=>Qi E.hc g 0 cs (R.glo g cs hg)⟩
theorem Ev.glob{P:Program}{Γ Γ':aq}(hg:GLe Γ Γ'){f:FuncId}{args:bY}{h h':aT}{d:D}(he:Ev P Γ f args h d h'):Ev P Γ' f args h d h':=by
 intro O w l vs R ra
 refine Pm (he O w l vs (R.less hg) ra) ?_
 rintro e w' ⟨v,d2,h2,l',rfl,hq,R',E',rd⟩
 exact⟨v,d2,h2,l',rfl,hq,R.more E' R',E',rd⟩
theorem Ev.zfL{P:Program}{Γ':aq}{f:FuncId}{args:bY}{h h':aT}{d:D}(he:Ev P (λ_=>none) f args h d h'):Ev P Γ' f args h d h':=he.glob (GLe.none Γ')
mutual
def D.zfp:D->D
 | .p (.v (.slice none 0 0))=>.p (.sl [])
 | .agg cs=>.agg (D.zjc cs)
 | .UI cs=>.UI (D.zjc cs)
 | d=>d
def D.zjc:bY->bY
 | []=>[]
 | d::ds=>D.zfp d::D.zjc ds
end
mutual
theorem sx{w:World}{av:Nat->Prop}{l:Loc}{h:aT}:∀(d:D) (y:Value),Rel w av l h d y->Rel w av l h (D.zfp d) y
 | .p x,y,r=>by
  grind [D.p.injEq,Rel,UF,D.zfp]
 | .agg cs,y,r=>by
  simp only[D.zfp,Rel] at r ⊢
  obtain⟨vs,r1,r2⟩:=r
  exact⟨vs,r1,oS cs vs.toList r2⟩
 | .UI cs,y,r=>by
  simp only[D.zfp,Rel] at r ⊢
  obtain⟨vs,r1,r2⟩:=r
  exact⟨vs,r1,oS cs vs.toList r2⟩
 | .any,_,r=>r
 | .ref _,_,r=>r
 | .ep _,_,r=>r
 | .csl _,_,r=>r
 | .fn _ _ _,_,r=>r
 | .grd _ _,_,r=>r
theorem oS{w:World}{av:Nat->Prop}{l:Loc}{h:aT}:∀(ds:bY) (ys:At),U1 w av l h ds ys->U1 w av l h (D.zjc ds) ys
 | [],[],_=>trivial
 | [],_::_,r=>by simp[U1] at r
 | _::_,[],r=>by simp[U1] at r
 | d::ds,y::ys,r=>by
  simp only[U1,D.zjc] at r ⊢
  exact⟨sx d y r.1,oS ds ys r.2⟩
end
theorem Ev.zfp{P:Program}{Γ:aq}{f:FuncId}{args:bY}{h h':aT}{d:D}(he:Ev P Γ f args h d h'):Ev P Γ f args h d.zfp h':=by
 intro O w l vs R ra
 refine Pm (he O w l vs R ra) ?_
 rintro e w' ⟨v,d2,h2,l',rfl,⟨rfl,rfl⟩,R',E',rd⟩
 exact⟨v,_,_,l',rfl,⟨rfl,rfl⟩,R',E',sx _ _ rd⟩
def au(fn:Func):Code:=match fn.body with
 | some c=>c
 | none=>.skip
theorem Ev.zky{P:Program}{Γ:aq}{f:FuncId}{args:bY}{h h':aT}{fn:Func}{d:D}{e:Exit}{s:AS}(hf:P.funcs[f]? = some fn)(hb:fn.body.isSome=true)
  (hw:CW P Γ h false (au fn) {t:=cM fn args,h:=h,m:=[]} e s) (hs:finF P h fn (some ((e,s,[]),[]))=some (d,h',[],[])):Ev P Γ f args h d h':=by
 cases hc:fn.body with
 | none=>grind
 | some c =>
  unfold au at hw
  rw[hc] at hw
  refine BM (r:=some ((e,s,[]),[])) (φ:=[]) hf hc ?_ hs trivial
  grind
def Ref.up(k:Nat):Ref->Ref
 | .T7 b e=>.T7 b (e+k)
 | .vs b e i n c=>.vs b (e+k) i n c
 | .vp b e i j=>.vp b (e+k) i j
 | r=>r
def Ref.dn(k:Nat):Ref->D
 | .T7 b e=>match Zd (k<=e) with
  | true=>.ref (.T7 b (e-k))
  | false=>.any
 | .vs b e i n c=>match Zd (k<=e) with
  | true=>.ref (.vs b (e-k) i n c)
  | false=>.any
 | .vp b e i j=>match Zd (k<=e) with
  | true=>.ref (.vp b (e-k) i j)
  | false=>.any
 | r=>.ref r
def upR(ks:iS)(r:Ref):D:=.ref (r.up (ks.getD r.T8 0))
def dnR(ks:iS)(r:Ref):D:=r.dn (ks.getD r.T8 0)
theorem Ref.up_blk(k:Nat)(r:Ref):(r.up k).T8=r.T8:=by cases r<;>rfl
theorem dn_up(ks:iS)(r:Ref):NS (dnR ks) (upR ks r)=.ref r:=by
 simp only[upR,NS,dnR,Ref.up_blk]
 cases r<;>simp[Ref.up,Ref.dn]
def Uc.up(k:Nat):Uc->Uc
 | .T7 es e sz=>.T7 es (e+k) sz
 | x=>x
def vH(ks:iS):Nat->aT->aT
 | _,[]=>[]
 | i,x::xs=>(x.UG (upR ks)).up (ks.getD i 0)::vH ks (i+1) xs
theorem cF(ks:iS):∀(i:Nat) (h:aT) (j:Nat),(vH ks i h)[j]? = (h[j]?).map λx=>(x.UG (upR ks)).up (ks.getD (i+j) 0)
 | i,[],j=>by simp[vH]
 | i,x::xs,0=>by simp[vH]
 | i,x::xs,j+1=>by
  simp only[vH,OW]
  rw[cF ks (i+1) xs j,show i+1+j=i+(j+1) by omega]
mutual
theorem sy{f g:Ref->D}(h:∀r,NS g (f r)=.ref r):∀d:D,NS g (NS f d)=d
 | .p _=>rfl
 | .any=>rfl
 | .ref r=>by grind [NS]
 | .ep _=>rfl
 | .csl _=>rfl
 | .fn _ a b=>by simp only[NS];rw[dm h a,dm h b]
 | .agg cs=>by simp only[NS];rw[dm h cs]
 | .UI cs=>by simp only[NS];rw[dm h cs]
 | .grd _ d=>by simp only[NS];rw[sy h d]
theorem dm{f g:Ref->D}(h:∀r,NS g (f r)=.ref r):∀ds:bY,N8 g (N8 f ds)=ds
 | []=>rfl
 | d::ds=>by simp only[N8];rw[sy h d,dm h ds]
end
theorem I9{f g:Ref->D}(h:∀r,NS g (f r)=.ref r)(x:Uc):(x.UG f).UG g=x:=by
 cases x<;>simp only[Pf]
 ·rw[dm h]
 ·rename_i es e sz
  congr 1
  rw[QY]
  have:(N8 g ∘ N8 f)=id:=by funext ds;exact dm h ds
  rw[this,List.map_id]
 ·rename_i WV clock
  congr 1
  rw[QY]
  have:((λe:D×D×Nat=>(NS g e.1,NS g e.2.1,e.2.2)) ∘ λe=>(NS f e.1,NS f e.2.1,e.2.2))=id:=by
   funext e;simp only[Function.comp,sy h,id]
  rw[this,List.map_id]
 ·rw[dm h]
theorem lG{k:Nat}{f:Ref->D}{x:Uc}:(x.UG f).up k=.U7 ↔ x=.U7:=by cases x<;>simp[Pf,Uc.up]
theorem yp{w:World}{av:Nat->Prop}{l:Loc}{h:aT}{b k:Nat}{x:Uc}:Up w av l h b (x.up k) ↔ Up w av l h b x:=by cases x<;>rfl
section
variable {l:Loc} {h:aT} {ks:iS} {w:World} {av:Nat->Prop} {y:Value}
theorem qR{k:Nat}:own l (vH ks 0 h) k ↔ own l h k:=by
 constructor
 ·rintro⟨b,x,cp,h1,h2,h3⟩
  rw[cF] at h1
  cases hx:h[b]? with
  | none=>grind
  | some z =>
   rw[hx] at h1
   simp only[Nr,MM] at h1
   subst h1
   exact⟨b,z,cp,hx,λe=>h2 (lG.2 e),h3⟩
 ·rintro⟨b,x,cp,h1,h2,h3⟩
  exact⟨b,(x.UG (upR ks)).up (ks.getD (0+b) 0),cp,by rw[cF,h1];rfl,λe=>h2 (lG.1 e),h3⟩
theorem oT{O:Nat->Prop}{k:Nat}:Ub O l (vH ks 0 h) k ↔ Ub O l h k:=or_congr Iff.rfl qR
theorem HH{r:Ref}(rr:Ua l (vH ks 0 h) r y):Rel w av l h (dnR ks r) y:=by
 obtain⟨x,hx⟩:=gD rr
 rw[cF] at hx
 cases hz:h[r.T8]? with
 | none=>grind
 | some z =>
  have key:(vH ks 0 h)[r.T8]? = some ((z.UG (upR ks)).up (ks.getD r.T8 0)):=by rw[cF,hz];simp
  unfold Ua at rr
  obtain⟨h1,rr⟩:=rr
  unfold dnR
  generalize ks.getD r.T8 0=k at key ⊢
  cases r with
  | T7 b e =>
   simp only[Sf] at hz key
   simp only[key] at rr
   simp only[Ref.dn]
   cases z<;>simp only[Pf,Uc.up] at rr
   ·split
    ·rename_i hk
     simp only[decide_eq_true_eq] at hk
     simp only[Rel]
     unfold Ua
     grind
    ·simp[Rel]
   ·split
    ·simp only[Rel]
     unfold Ua
     grind
    ·simp[Rel]
  | vs b e i n c =>
   simp only[Sf] at hz key
   simp only[key] at rr
   simp only[Ref.dn]
   cases z<;>simp only[Pf,Uc.up] at rr
   ·split
    ·rename_i hk
     simp only[decide_eq_true_eq] at hk
     simp only[Rel]
     unfold Ua
     grind
    ·simp[Rel]
   ·split
    ·simp only[Rel]
     unfold Ua
     grind
    ·simp[Rel]
  | vp b e i j =>
   simp only[Sf] at hz key
   simp only[key] at rr
   simp only[Ref.dn]
   cases z<;>simp only[Pf,Uc.up] at rr
   ·split
    ·rename_i hk
     simp only[decide_eq_true_eq] at hk
     simp only[Rel]
     unfold Ua
     grind
    ·simp[Rel]
   ·split
    ·simp only[Rel]
     unfold Ua
     grind
    ·simp[Rel]
  | _ =>
   simp only[Sf] at hz key
   simp only[key] at rr
   simp only[Ref.dn,Rel]
   unfold Ua
   simp only[hz]
   refine⟨h1,?_⟩
   cases z<;>simp only[Pf,Uc.up] at rr<;>exact rr
theorem HI{r:Ref}(rr:Ua l h r y):Rel w av l (vH ks 0 h) (upR ks r) y:=by
 obtain⟨z,hz⟩:=gD rr
 have key:(vH ks 0 h)[r.T8]? = some ((z.UG (upR ks)).up (ks.getD r.T8 0)):=by rw[cF,hz];simp
 unfold Ua at rr
 obtain⟨h1,rr⟩:=rr
 unfold upR
 simp only[Rel]
 generalize ks.getD r.T8 0=k at key ⊢
 unfold Ua
 refine⟨h1,?_⟩
 cases r<;>simp only[Sf] at hz key<;>simp only[hz] at rr<;>simp only[Ref.up,key]<;>cases z<;>simp only[Pf,Uc.up]<;>simp only at rr <;>
  first
  | exact rr
  | grind
end
theorem le_up{f g:Ref->D}{k:Nat}{x y:Uc}(h:x.le y):((x.UG f).up k).le ((y.UG g).up k)/\(((x.UG f).up k).stays ((y.UG g).up k)->x.stays y):=by
 cases x<;>cases y<;>simp only[Tg] at h<;>simp_all[Tg,Pf,Q4,Uc.up]
theorem Ev.up{P:Program}{Γ:aq}{f:FuncId}{args:bY}{h h':aT}{d:D}(ks:iS)(he:Ev P Γ f args h d h')(hm:(h.all (λx=>!jx x)&&h'.all (λx=>!jx x))=true):
  Ev P Γ f (N8 (upR ks) args) (vH ks 0 h) (d.UG (upR ks)) (vH ks 0 h'):=by
 simp only[MT] at hm
 intro O w l vs R ra
 have hO:∀k,Ub O l h k->Ub O l (vH ks 0 h) k:=λk=>oT.2
 have R0:UJ Γ O w l h:=by
  refine⟨λk ho=>R.inb k (qR.2 ho),R.obd,λb b' x x' k c c' h1 h2 h3 h4 h5 h6=>?_,λb x hx=>?_,λg cs hg=>aL (λk hk=>oT.2 hk) (R.glo g cs hg)⟩
  ·exact R.inj b b' _ _ k c c' (by rw[cF,h1];rfl) (λe=>h2 (lG.1 e)) (by rw[cF,h3];rfl) (λe=>h4 (lG.1 e)) h5 h6
  ·have hb:=yp.1 (R.T8 b ((x.UG (upR ks)).up (ks.getD (0+b) 0)) (by rw[cF,hx];rfl))
   have:=gC (l':=l) (h':=h) (b':=b) (f:=dnR ks) (λk hk=>oT.2 hk) (λr y rr=>HH rr) rfl (by
    grind [qO]) hb
   rw[I9 (dn_up ks)] at this
   exact this
 have ra0:U1 w (Ub O l h) l h args vs:=by
  have:=bS (av':=Ub O l h) (l':=l) (h':=h) (f:=dnR ks) (λk hk=>oT.2 hk) (λr y rr=>HH rr) ra
  rw[dm (dn_up ks)] at this
  exact this
 refine Pm (he O w l vs R0 ra0) ?_
 rintro e w' ⟨v,d2,h2,l',rfl,⟨rfl,rfl⟩,R',E',rd⟩
 refine⟨v,_,_,l',rfl,⟨rfl,rfl⟩,⟨λk ho=>R'.inb k (qR.1 ho),R'.obd,λb b' x x' k c c' h1 h2' h3 h4 h5 h6=>?_,λb x hx=>?_,λg cs hg=>aL (λk hk=>oT.1 hk) (R'.glo g cs hg)⟩,
  ⟨E'.size,λT8 U8 hno=>E'.same T8 U8 (λho=>hno (qR.2 ho)),λT8 ho=>(E'.news T8 (qR.1 ho)).imp qR.2 id,λb x hx=>?_,E'.tape⟩,?_⟩
 ·rw[cF] at h1 h3
  cases hx:h2[b]? with
  | none=>grind
  | some z =>
   cases hx':h2[b']? with
   | none=>grind
   | some z' =>
    rw[hx] at h1;rw[hx'] at h3
    simp only[Nr,MM] at h1 h3
    subst h1;subst h3
    exact R'.inj b b' z z' k c c' hx (λe=>h2' (lG.2 e)) hx' (λe=>h4 (lG.2 e)) h5 h6
 ·rw[cF] at hx
  cases hz:h2[b]? with
  | none=>grind
  | some z =>
   rw[hz] at hx
   simp only[Nr,MM] at hx
   subst hx
   refine yp.2 (gC (l':=l') (b':=b) (λk hk=>oT.1 hk) (λr y rr=>HI rr) rfl ?_ (R'.T8 b z hz))
   grind
 ·rw[cF] at hx
  cases hz:h[b]? with
  | none=>grind
  | some z =>
   rw[hz] at hx
   simp only[Nr,MM] at hx
   subst hx
   obtain⟨x',k1,k2,k3⟩:=E'.keep b z hz
   obtain⟨g1,g2⟩:=le_up (f:=upR ks) (g:=upR ks) (k:=ks.getD (0+b) 0) k2
   exact⟨_,by rw[cF,k1];rfl,g1,λhs=>k3 (g2 hs)⟩
 ·exact fW (λk hk=>oT.1 hk) (λr y rr=>HI rr) rd
def upHX(ks:iS):Nat->aT->aT
 | _,[]=>[]
 | i,x::xs=>(Ux (upR ks) x).up (ks.getD i 0)::upHX ks (i+1) xs
theorem ww{ks:iS}:∀{i:Nat} {h:aT},Uw (zfz (upR ks) h)->upHX ks i h=vH ks i h
 | _,[],_=>rfl
 | i,x::xs,hp=>by
  obtain⟨h1,h2⟩:=Rz (ps:=oA (upR ks) x) hp
  simp only[upHX,vH,j4 h1,ww h2]
theorem Ev.upX{P:Program}{Γ:aq}{f:FuncId}{args:bY}{h h':aT}{d:D}(ks:iS)(he:Ev P Γ f args h d h')(hm:(h.all (λx=>!jx x)&&h'.all (λx=>!jx x))=true)(p1:Uw (zfz (upR ks) h))(p2:Uw (zfz (upR ks) h')):
  Ev P Γ f (N8 (upR ks) args) (upHX ks 0 h) (d.UG (upR ks)) (upHX ks 0 h'):=by
 rw[ww p1,ww p2];exact Ev.up ks he hm
abbrev bW(ys:At):List (bY):=ys.map λy=>[.p (.v y)]
abbrev eC(B:bV):List (bY):=B.map λn=>[.p (.v (.int .i64 n))]
def fh(O:Nat->Prop)(ps:List (Option (Nat×Nat))):Nat->Prop:=λk=>O k\/∃(j c:Nat),ps[j]? = some (some (k,c))
def hB(pre:aT)(R:List (bY))(more:aT):aT:=pre++(.T7 R 0 1::more)
section
variable {Γ:aq} {O:Nat->Prop} {w w':World} {l l':Loc} {h h':aT} {av:Nat->Prop}
theorem qS{ps:List (Option (Nat×Nat))}{u:Nat}{p:Option (Nat×Nat)}(hu:u<ps.length):mN (fh O (ps.set u none)) p=fh O (ps.set u p):=by
 funext k
 apply propext
 unfold mN fh
 constructor
 ·rintro ((h1|⟨j,c,h1⟩)|⟨c,h1⟩)
  ·exact .inl h1
  ·by_cases hj:j=u
   ·grind
   ·rw[Nu (λe=>hj e.symm)] at h1
    exact .inr ⟨j,c,by grind⟩
  ·exact .inr ⟨u,c,by rw[NK hu,h1]⟩
 ·rintro (h1|⟨j,c,h1⟩)
  ·grind
  ·by_cases hj:j=u
   ·grind
   ·rw[Nu (λe=>hj e.symm)] at h1
    exact .inl (.inr ⟨j,c,by grind⟩)
theorem kh:∀{B:bV} {ys:At},U1 w av l h (eC B).flatten ys ↔ ys=B.map (Value.int .i64)
 | [],ys=>by grind [U1]
 | n::B,[]=>by simp[U1]
 | n::B,y::ys=>by
  have:=@kh B ys
  simp only[NW,N0,Qx,U1,Rel,UF,Ql,this]
def ziK(w:World)(p:Option (Nat×Nat))(B:bV):Prop:=Up w (λ_=>False) (λ_=>p) [] 0 (.T7 (eC B) 0 1)
theorem BR{b e:Nat}{B:bV}:Up w av l h b (.T7 (eC B) e 1) ↔ ziK w (l b) B:=by
 unfold ziK Up
 simp only[kh]
theorem ziK.mono{p:Option (Nat×Nat)}{B:bV}(hh:∀k c,p=some (k,c)->w'.heap[k]? = w.heap[k]?)(r:ziK w p B):ziK w' p B:=by
 grind [kh,ziK,Up]
theorem lH{q:Nat}{x x':Uc}(hq:h[q]? = some x)(hx:x≠.U7)(hx':x'≠.U7){k:Nat}:own l (h.set q x') k ↔ own l h k:=by
 have U8:=(MR.1 hq).1
 constructor
 ·rintro⟨b,y,c,h1,h2,h3⟩
  by_cases hb:b=q
  ·subst hb;exact⟨b,x,c,hq,hx,h3⟩
  ·rw[Nu (λe=>hb e.symm)] at h1;exact⟨b,y,c,h1,h2,h3⟩
 ·rintro⟨b,y,c,h1,h2,h3⟩
  by_cases hb:b=q
  ·subst hb;exact⟨b,x',c,NK U8,hx',h3⟩
  ·exact⟨b,y,c,by grind,h2,h3⟩
theorem ng{q:Nat}{rows rows':List (bY)}{e sz:Nat}(hq:h[q]? = some (.T7 rows e sz))(hl:rows'.length=rows.length):∀b x,h[b]? = some x->∃x',(h.set q (.T7 rows' e sz))[b]? = some x'/\x.le x'/\(x.stays x'->l b=l b):=by
 intro b x hb
 have U8:=(MR.1 hq).1
 by_cases hbq:b=q
 ·subst hbq
  rw[hq] at hb;cases hb
  exact⟨_,NK U8,⟨M5 _,λ_=>hl,rfl⟩,λ_=>rfl⟩
 ·exact⟨x,by grind,x.le_refl,λ_=>rfl⟩
theorem yq{q:Nat}{rows rows':List (bY)}{e sz:Nat}(hq:h[q]? = some (.T7 rows e sz)):∀T8 off y,¬Ub O l h T8->w.cell? ⟨T8,off,none⟩=some y->w.cell? ⟨T8,off,none⟩=some y/\¬Ub O l (h.set q (.T7 rows' e sz)) T8 :=
 λT8 off y hn hy=>⟨hy,λha=>hn (ha.imp id (lH hq (by simp) (by simp)).1)⟩
theorem UJ.zjL{q:Nat}{rows rows':List (bY)}{e sz:Nat}(R:UJ Γ O w l h)(hq:h[q]? = some (.T7 rows e sz))(hl:rows'.length=rows.length)
  (hok:Up w (Ub O l h) l h q (.T7 rows' e sz)):UJ Γ O w l (h.set q (.T7 rows' e sz)):=by
 have ho:=λk=>lH (l:=l) (x':=.T7 rows' e sz) hq (by simp) (by simp) (k:=k)
 have hc:=yq (O:=O) (w:=w) (l:=l) (rows':=rows') hq
 have hk:=λb x=>ng (l:=l) (rows':=rows') hq hl b x
 have U8:=(MR.1 hq).1
 have get:∀(b:Nat) (y:Uc),(h.set q (.T7 rows' e sz))[b]? = some y->y≠.U7->∃y':Uc,h[b]? = some y'/\y'≠.U7:=by
  intro b y hb hy
  by_cases hbq:b=q
  ·grind
  ·grind
 refine⟨λT8 hb=>R.inb T8 ((ho T8).1 hb),R.obd,?_,?_,λg cs hg=>Qi hc g 0 cs (R.glo g cs hg)⟩
 ·intro b b' x x' k c c' h1 h2 h3 h4 h5 h6
  obtain⟨y,g1,g2⟩:=get b x h1 h2
  obtain⟨y',g3,g4⟩:=get b' x' h3 h4
  exact R.inj b b' y y' k c c' g1 g2 g3 g4 h5 h6
 ·intro b x hb
  by_cases hbq:b=q
  ·subst hbq
   rw[NK U8] at hb;cases hb
   exact SB hc hk rfl (λ_ _ _=>rfl) hok
  ·rw[Nu (λe=>hbq e.symm)] at hb
   exact SB hc hk rfl (λ_ _ _=>rfl) (R.T8 b x hb)
def NB(Γ:aq)(X:Ctx)(t:bY)(pre more:aT)(A:List (bV))(a:Act)(w:World):Prop :=
 ∃(l:Loc) (ps:List (Option (Nat×Nat))) (ys:At),ps.length=A.length/\ys.length=A.length /\
  UJ Γ (fh X.O ps) w l (hB pre (bW ys) more)/\Ext X.w X.l [] w l (hB pre (bW ys) more) /\
  U1 w (Ub (fh X.O ps) l (hB pre (bW ys) more)) l (hB pre (bW ys) more) t a.tmps.toList/\a.defers=X.D /\
  (∀(j:Nat) (B:bV) (p:Option (Nat×Nat)) (y:Value),A[j]? = some B->ps[j]? = some p->ys[j]? = some y->ziK w p B/\gV p B.length y/\y.oneCell'=true) /\
  (∀(j k c c' T8:Nat),ps[j]? = some (some (T8,c))->ps[k]? = some (some (T8,c'))->j=k) /\
  (∀(j T8 c:Nat),ps[j]? = some (some (T8,c))->¬X.O T8/\X.w.heap.size<=T8)
theorem NB.run{P:Program}{X:Ctx}{t t':bY}{pre more pre' more':aT}{A:List (bV)}{c:Code}{e:Exit}(he:e≠.outgrown)
  (hcw:∀ys:At,ys.length=A.length->CW P Γ (hB pre (bW ys) more) false c {t:=t,h:=hB pre (bW ys) more,m:=[]} e {t:=t',h:=hB pre' (bW ys) more',m:=[]})
  {a:Act} {w:World} (hn:NB Γ X t pre more A a w):c.wpIn (FW none) 0 P (λe' a' w'=>e'=e/\NB Γ X t' pre' more' A a' w') a w:=by
 obtain⟨l,ps,ys,hp,hy,R,E,rt,hd,hid,inj,fresh⟩:=hn
 have hw:=hcw ys hy {O:=fh X.O ps,w:=w,l:=l,h:=hB pre (bW ys) more,D:=a.defers} none rfl (λ_=>rfl)
 refine wpIn_mono (hw a w ⟨l,R,PW _ _ _,rt,rfl⟩) ?_
 rintro e' a' w' ⟨_,s,⟨rfl,rfl⟩,l',R',E',rt',hd'⟩
 refine⟨rfl,l',ps,ys,hp,hy,R',E.trans E',rt',by grind [UP],?_,inj,fresh⟩
 intro j B p y h1 h2 h3
 obtain⟨g1,g2,g3⟩:=hid j B p y h1 h2 h3
 refine⟨g1.mono λk c hk=>?_,g2,g3⟩
 have hO:fh X.O ps k:=.inr ⟨j,c,by rw[h2,hk]⟩
 exact E'.same k (R.obd k hO) λho=>(R.inb k ho).2 hO
theorem oU{pre more:aT}{R:List (bY)}:(hB pre R more).length=pre.length+1+more.length:=by simp[hB];omega
theorem gE{pre more:aT}{R:List (bY)}{x:Uc}:hB pre R more++[x]=hB pre R (more++[x]):=by simp[hB]
theorem yr{pre more:aT}{R:List (bY)}:(hB pre R more)[pre.length]? = some (.T7 R 0 1):=by simp[hB]
theorem oV{pre more:aT}{R R':List (bY)}:(hB pre R more).set pre.length (.T7 R' 0 1)=hB pre R' more:=by simp[hB]
theorem kj:∀ys:At,(bW ys).flatten=ys.map λy=>.p (.v y)
 | []=>rfl
 | y::ys=>by simp[bW,kj ys]
theorem BS{ys:At}{u:Nat}{d:D}:((bW ys).set u [d]).flatten=(ys.map λy=>D.p (.v y)).set u d:=by
 induction ys generalizing u with
 | nil=>rfl
 | cons y ys ih =>
  cases u with
  | zero=>simp[kj]
  | succ u=>grind
theorem kl:∀{ys zs:At},U1 w av l h (ys.map λy=>D.p (.v y)) zs ↔ zs=ys
 | [],zs=>by grind [U1]
 | y::ys,[]=>by simp[U1]
 | y::ys,z::zs=>by
  have:=@kl ys zs
  simp only[NW,U1,Rel,UF,Ql,this]
theorem ip:∀{ys zs:At} {u:Nat} {d:D},u<ys.length->(U1 w av l h ((ys.map λy=>D.p (.v y)).set u d) zs ↔ ∃z,zs=ys.set u z/\Rel w av l h d z)
 | [],_,_,_,hu=>absurd hu (by simp)
 | y::ys,[],u,d,_=>by
  cases u<;>simp[U1]
 | y::ys,z::zs,0,d,_=>by
  grind [U1,kl,Ql]
 | y::ys,z::zs,u+1,d,hu=>by
  have:=@ip ys zs u d (by simpa using hu)
  simp only[NW,TX,U1,Rel,UF,this]
  grind
theorem EU{ys:At}{u:Nat}{d:D}:∀e∈(bW ys).set u [d],e.length=1:=by
 grind
theorem BT{n:Nat}(ys:At):(bW ys).all (Ob n)=true:=by simp[bW,Ob,Pu]
theorem zM{x:Uc}(h:x≠.U7):x.stays x:=by cases x<;>first|exact absurd rfl h|simp[Q4]
theorem NB.focus{P:Program}{X:Ctx}{t t':bY}{pre more:aT}{A:List (bV)}{c:Code}{u:Nat}{B B':bV}(hu:A[u]? = some B)
  (zfs:pre.all (MY (pre.length+1+more.length))=true) (hmore:more.all (MY (pre.length+1+more.length))=true) (ht':Ob (pre.length+1+more.length) t'=true)
  (hcw:∀ys:At,ys.length=A.length->CW P Γ (hB pre ((bW ys).set u [.ref (.T7 (pre.length+1+more.length) 0)]) (more++[.T7 (eC B) 0 1])) false c
   {t:=t,h:=hB pre ((bW ys).set u [.ref (.T7 (pre.length+1+more.length) 0)]) (more++[.T7 (eC B) 0 1]),m:=[]} .normal
   {t:=t',h:=hB pre ((bW ys).set u [.ref (.T7 (pre.length+1+more.length) 1)]) (more++[.T7 (eC B') 1 1]),m:=[]})
  {a:Act} {w:World} (hn:NB Γ X t pre more A a w):c.wpIn (FW none) 0 P (λe' a' w'=>e'=.normal/\NB Γ X t' pre more (A.set u B') a' w') a w:=by
 obtain⟨l,ps,ys,hp,hy,R,E,rt,hd,hid,inj,fresh⟩:=hn
 have hult:=(MR.1 hu).1
 have hpu:u<ps.length:=by omega
 have hyu:u<ys.length:=by omega
 obtain⟨p,hpq⟩:∃p,ps[u]? = some p:=⟨_,Nd hpu⟩
 obtain⟨y,hyq⟩:∃y,ys[u]? = some y:=⟨_,Nd hyu⟩
 obtain⟨hB1,hV1,ho1⟩:=hid u B p y hu hpq hyq
 have hlen:=oU (pre:=pre) (more:=more) (R:=bW ys)
 have hps:ps.set u p=ps:=by
  apply P9
  intro j
  by_cases hj:j=u
  ·grind
  ·grind
 have hplus:mN (fh X.O (ps.set u none)) p=fh X.O ps:=by rw[qS hpu,hps]
 rw[<-hplus] at R rt
 have hnO:∀k c,p=some (k,c)->¬fh X.O (ps.set u none) k:=by
  intro k c hk hO
  rcases hO with h1|⟨j,c',h1⟩
  ·grind
  ·grind
 have hPd:Pd w (Ub (mN (fh X.O (ps.set u none)) p) l (hB pre (bW ys) more)) l (hB pre (bW ys) more) (.T7 (eC B) 0 1) p :=
  ⟨rfl,BR.2 (by grind [Loc.upd])⟩
 have R1:=R.merge hPd hnO
 rw[gE,hlen] at R1
 have hav1:∀k,Ub (fh X.O (ps.set u none)) (l.upd (pre.length+1+more.length) p) (hB pre (bW ys) (more++[.T7 (eC B) 0 1])) k->Ub (mN (fh X.O (ps.set u none)) p) l (hB pre (bW ys) more) k:=by
  intro k hk
  rw[<-gE,jW (by simp),hlen] at hk
  simp only[Pj] at hk
  rcases hk with hk|hk
  ·exact .inl hk
  ·rw[<-hlen,lk] at hk;exact .inr hk
 have hk1:=ic (l:=l) (h:=hB pre (bW ys) more) (x:=.T7 (eC B) 0 1) (p:=p)
 rw[gE,hlen] at hk1
 have rt1:=Qz (λT8 off y hn hy=>⟨hy,λha=>hn (hav1 T8 ha)⟩) hk1 _ _ rt
 have zik:(hB pre (bW ys) (more++[.T7 (eC B) 0 1]))[pre.length]? = some (.T7 (bW ys) 0 1):=yr
 have hgetk:(hB pre (bW ys) (more++[.T7 (eC B) 0 1]))[pre.length+1+more.length]? = some (.T7 (eC B) 0 1):=by
  rw[<-gE,<-hlen];simp
 have hok1:Up w (Ub (fh X.O (ps.set u none)) (l.upd (pre.length+1+more.length) p) (hB pre (bW ys) (more++[.T7 (eC B) 0 1]))) (l.upd (pre.length+1+more.length) p) (hB pre (bW ys) (more++[.T7 (eC B) 0 1])) pre.length
   (.T7 ((bW ys).set u [.ref (.T7 (pre.length+1+more.length) 0)]) 0 1):=by
  have h0:=R1.T8 _ _ zik
  unfold Up at h0 ⊢
  cases hlq:(l.upd (pre.length+1+more.length) p) pre.length with
  | none =>
   grind
  | some q =>
   obtain⟨T8,cp⟩:=q
   simp only[hlq] at h0 ⊢
   obtain⟨o,cap,rc,cs,T,fr,zs,g1,g2,g3,g4,g5,g6,g7⟩:=h0
   refine⟨o,cap,rc,cs,T,fr,zs,g1,g2,by simpa using g3,g4,EU,?_,g7⟩
   rw[kj,kl] at g6
   subst g6
   rw[BS,ip hyu]
   refine⟨y,?_,?_⟩
   ·apply P9
    grind
   ·simp only[Rel,Ua,hgetk,Pj]
    grind
 have R2:=R1.zjL zik (by simp) hok1
 have rt2:=Qz (yq (rows':=(bW ys).set u [.ref (.T7 (pre.length+1+more.length) 0)]) zik) (ng (l:=l.upd (pre.length+1+more.length) p) zik (rows':=(bW ys).set u [.ref (.T7 (pre.length+1+more.length) 0)]) (by simp)) _ _ rt1
 rw[oV] at R2 rt2
 have hw:=hcw ys hy {O:=fh X.O (ps.set u none),w:=w,l:=l.upd (pre.length+1+more.length) p,h:=hB pre ((bW ys).set u [.ref (.T7 (pre.length+1+more.length) 0)]) (more++[.T7 (eC B) 0 1]),D:=a.defers} none rfl (λ_=>rfl)
 refine wpIn_mono (hw a w ⟨_,R2,PW _ _ _,rt2,rfl⟩) ?_
 rintro e' a' w' ⟨_,s,⟨rfl,rfl⟩,l',R3,E3,rt3,hd3⟩
 refine⟨rfl,?_⟩
 simp only at R3 E3 rt3 hd3
 have zjk:(hB pre ((bW ys).set u [.ref (.T7 (pre.length+1+more.length) 1)]) (more++[.T7 (eC B') 1 1]))[pre.length]? = some (.T7 ((bW ys).set u [.ref (.T7 (pre.length+1+more.length) 1)]) 0 1):=yr
 have zke:(hB pre ((bW ys).set u [.ref (.T7 (pre.length+1+more.length) 1)]) (more++[.T7 (eC B') 1 1]))[pre.length+1+more.length]? = some (.T7 (eC B') 1 1):=by
  rw[<-gE,Nm (by rw[oU];exact M5 _),oU];simp
 have h0:=R3.T8 _ _ zjk
 have hex:∃z,(z.oneCell'=true/\gV (l' (pre.length+1+more.length)) B'.length z)/\Up w' (Ub (fh X.O (ps.set u none)) l' (hB pre ((bW ys).set u [.ref (.T7 (pre.length+1+more.length) 1)]) (more++[.T7 (eC B') 1 1]))) l' (hB pre ((bW ys).set u [.ref (.T7 (pre.length+1+more.length) 1)]) (more++[.T7 (eC B') 1 1])) pre.length (.T7 (bW (ys.set u z)) 0 1):=by
  unfold Up at h0 ⊢
  cases hlq:l' pre.length with
  | none =>
   simp only[hlq] at h0
   have:=congrArg List.length h0
   grind
  | some q =>
   obtain⟨T8,cp⟩:=q
   simp only[hlq] at h0 ⊢
   obtain⟨o,cap,rc,cs,T,fr,zs,g1,g2,g3,g4,g5,g6,g7⟩:=h0
   rw[BS,ip hyu] at g6
   obtain⟨z,rfl,hz⟩:=g6
   simp only[Rel,Ua,zke] at hz
   refine⟨z,⟨hz.1,by grind⟩,o,cap,rc,cs,T,fr,ys.set u z,g1,g2,by simpa using g3,g4,λe he=>?_,?_,g7⟩
   ·grind
   ·rw[kj,kl]
 obtain⟨z,⟨hz1,hz2⟩,hok4⟩:=hex
 have R4:=R3.zjL zjk (by simp) hok4
 have rt4:=Qz (yq (rows':=bW (ys.set u z)) zjk) (ng (l:=l') zjk (rows':=bW (ys.set u z)) (by simp)) _ _ rt3
 have hown4:∀k,own l' (hB pre (bW (ys.set u z)) (more++[.T7 (eC B') 1 1])) k ↔ own l' (hB pre ((bW ys).set u [.ref (.T7 (pre.length+1+more.length) 1)]) (more++[.T7 (eC B') 1 1])) k:=by
  intro k
  have:=lH (l:=l') (x':=.T7 (bW (ys.set u z)) 0 1) zjk (by simp) (by simp) (k:=k)
  rwa[oV] at this
 rw[oV,<-gE] at R4 rt4
 have zmt:(hB pre (bW (ys.set u z)) more).length=pre.length+1+more.length:=oU
 have hinn:(hB pre (bW (ys.set u z)) more).all (MY (hB pre (bW (ys.set u z)) more).length)=true:=by
  rw[zmt]
  unfold hB
  simp only[SV,zfs,PR,hmore,PC,Ou,MY]
  exact BT _
 have hx:MY (hB pre (bW (ys.set u z)) more).length (.T7 (eC B') 1 1)=true:=by simp[MY,Ob,Pu]
 obtain⟨R5,hP5⟩:=R4.hide rfl hinn hx
 have rt5:=bR (n:=(hB pre (bW (ys.set u z)) more).length) (av':=Ub (mN (fh X.O (ps.set u none)) (l' (hB pre (bW (ys.set u z)) more).length)) l' (hB pre (bW (ys.set u z)) more)) (λk hk=>(jW (by simp)).2 hk) (by grind) rt4
 rw[SU rfl] at rt5
 rw[zmt] at R5 hP5 rt5
 rw[qS hpu] at R5 hP5 rt5
 have hnewp:∀k c,l' (pre.length+1+more.length)=some (k,c)->(∃c',p=some (k,c'))\/w.heap.size<=k:=by
  intro k c hk
  have zfG:own l' (hB pre ((bW ys).set u [.ref (.T7 (pre.length+1+more.length) 1)]) (more++[.T7 (eC B') 1 1])) k:=⟨_,_,c,zke,by simp,hk⟩
  rcases E3.news k zfG with h1|h1
  ·obtain⟨b,x,c',f1,f2,f3⟩:=h1
   by_cases hb:b=pre.length+1+more.length
   ·grind [Pj]
   ·exfalso
    have hO2:=R2.inb k ⟨b,x,c',f1,f2,f3⟩
    obtain⟨x',f4,f5,f6⟩:=E3.keep b x f1
    have ω:x.stays x':=by
     have hb2:b<(hB pre ((bW ys).set u [.ref (.T7 (pre.length+1+more.length) 0)]) (more++[.T7 (eC B) 0 1])).length:=(MR.1 f1).1
     rw[<-gE] at f1 f4
     have hb3:b<(hB pre ((bW ys).set u [.ref (.T7 (pre.length+1+more.length) 0)]) more).length:=by
      rw[oU] at hb2 ⊢;simp at hb2;omega
     rw[M4 hb3] at f1
     rw[M4 (by grind [oU])] at f4
     by_cases hbq:b=pre.length
     ·subst hbq
      rw[yr] at f1 f4
      cases f1;cases f4;rfl
     ·have:x=x':=by
       unfold hB at f1 f4
       rcases Nat.lt_or_ge b pre.length with U8|hge
       ·grind
       ·grind
      subst this
      exact zM f2
    have UZ:=f6 ω
    have hg:x'≠.U7:=by intro e;rw[e] at ω;cases x<;>simp[Q4] at ω
    exact hb (R3.inj b (pre.length+1+more.length) x' _ k c' c f4 hg zke (by simp) (by grind) hk)
  ·exact .inr h1
 have E5:Ext X.w X.l [] w' l' (hB pre (bW (ys.set u z)) more):=by
  refine⟨OP E.size E3.size,?_,?_,λb x hb=>by simp at hb,⟨E3.tape.1.trans E.tape.1,E3.tape.2.1.trans E.tape.2.1,E3.tape.2.2.1.trans E.tape.2.2.1,OP E.tape.2.2.2 E3.tape.2.2.2⟩⟩
  ·intro T8 hb hno
   rw[E3.same T8 (PQ hb E.size) ?_,E.same T8 hb hno]
   intro ho
   have:Ub (mN (fh X.O (ps.set u none)) p) l (hB pre (bW ys) more) T8:=by
    apply hav1
    refine .inr ?_
    have:=lH (l:=l.upd (pre.length+1+more.length) p) (x':=.T7 ((bW ys).set u [.ref (.T7 (pre.length+1+more.length) 0)]) 0 1) zik (by simp) (by simp) (k:=T8)
    rw[oV] at this
    exact this.1 ho
   have hO2:=R2.inb T8 ho
   rcases this with h1|h1
   ·rw[hplus] at h1
    rcases h1 with h1|⟨j,c,h1⟩
    ·exact hO2.2 (.inl h1)
    grind
   ·rcases E.news T8 h1 with h2|h2
    ·grind
    ·omega
  ·intro T8 ho
   obtain⟨b,x,c,f1,f2,f3⟩:=ho
   have hb:b<(hB pre (bW (ys.set u z)) more).length:=(MR.1 f1).1
   have ho3:=(hown4 T8).1 ⟨b,x,c,by grind [gE],f2,f3⟩
   rcases E3.news T8 ho3 with h1|h1
   ·have:=lH (l:=l.upd (pre.length+1+more.length) p) (x':=.T7 ((bW ys).set u [.ref (.T7 (pre.length+1+more.length) 0)]) 0 1) zik (by simp) (by simp) (k:=T8)
    rw[oV] at this
    have h2:=this.1 h1
    rw[<-gE,iP,<-hlen,lk] at h2
    rcases h2 with h2|⟨_,c',h2⟩
    ·exact E.news T8 h2
    ·rw[Pj] at h2
     grind
   ·exact .inr (OP E.size h1)
 refine⟨l',ps.set u (l' (pre.length+1+more.length)),ys.set u z,by simpa using hp,by simpa using hy,R5,E5,rt5,by grind [UP],?_,?_,?_⟩
 ·intro j C q v h1 h2 h3
  by_cases hj:j=u
  ·subst hj
   rw[NK hult] at h1
   rw[NK hpu] at h2
   rw[NK hyu] at h3
   cases h1;cases h2;cases h3
   refine⟨?_,hz2,hz1⟩
   have:=BR.1 hP5.2
   simpa[zmt,Loc.upd] using this
  ·rw[Nu (λe=>hj e.symm)] at h1 h2 h3
   obtain⟨g1,g2,g3⟩:=hid j C q v h1 h2 h3
   refine⟨g1.mono λk c hk=>?_,g2,g3⟩
   have hO:fh X.O (ps.set u none) k:=.inr ⟨j,c,by grind⟩
   exact E3.same k (R2.obd k hO) λho=>(R2.inb k ho).2 hO
 ·have key:∀(j:Nat) (c c' T8:Nat),j≠u->ps[j]? = some (some (T8,c))->l' (pre.length+1+more.length)=some (T8,c')->False:=by
   intro j c c' T8 hj h1 h2
   rcases hnewp T8 c' h2 with ⟨c2,h3⟩|h3
   ·grind
   ·have hO:fh X.O (ps.set u none) T8:=.inr ⟨j,c,by grind⟩
    have:=R2.obd T8 hO
    grind
  grind
 ·intro j T8 c h1
  by_cases hj:j=u
  ·subst hj
   rw[NK hpu] at h1
   have h1:l' (pre.length+1+more.length)=some (T8,c):=by simpa using h1
   rcases hnewp T8 c h1 with ⟨c2,h3⟩|h3
   ·grind
   ·refine⟨λhO=>?_,OP E.size h3⟩
    have:=R2.obd T8 (.inl hO)
    grind
  grind
end
section
variable {Γ:aq} {O O':Nat->Prop} {w w':World} {l l':Loc} {h h':aT} {av av':Nat->Prop}
theorem qU{P:Program}{r:Do}{Q:Exit->Act->World->Prop}{c:Code}{ι:Type}(I:ι->Act->World->Prop)(μ:ι->Nat)(i0:ι){a:Act}{w:World}(h0:I i0 a w)
  (round:∀i a w,I i a w->c.wpIn (FW r) 0 P (λe a' w'=>(e=.normal/\∃j,I j a' w'/\μ j<μ i)\/(e≠.normal/\e≠.outgrown/\Q e a' w')) a w):(Code.loop c).wpIn (FW r) 0 P Q a w:=by
 intro b k cs hro hb hr
 have key:∀(n:Nat) (i:ι) (a:Act) (w:World),μ i=n->I i a w ->
   ∃e a' w',Q e a' w'/\ArrivesIn (Machine.fenced P (FW r)) P (lone (b.atR a (.code c::.inLoop c::k)) cs w) b k cs e a' w':=by
  intro n
  induction n using Nat.strongRecOn with
  | _ n ih =>
   intro i a w hn hI
   obtain⟨e,zcn,Ψ,hq,Θ⟩:=round i a w hI b (.inLoop c::k) cs hro hb hr
   rcases hq with ⟨rfl,j,hj,U8⟩|⟨g1,g2,g3⟩
   ·obtain⟨e₂,a₂,zio,zjf,zgA⟩:=ih (μ j) (by omega) j zcn Ψ rfl hj
    exact⟨e₂,a₂,zio,zjf,.of_steps (RQ Θ (.one (fenced_calm hb hr rfl) stepR_inLoop)) zgA⟩
   ·cases e with
    | normal=>grind
    | outgrown=>grind
    | panic ch=>exact⟨_,zcn,Ψ,g3,.pass (x:=.inLoop c) rfl (λ_ _=>.inl (by simp)) Θ⟩
    | exit id=>exact⟨_,zcn,Ψ,g3,.pass (x:=.inLoop c) rfl (λ_ _=>.inl (by simp)) Θ⟩
    | goto t=>exact⟨_,zcn,Ψ,g3,.pass (x:=.inLoop c) rfl (λ_ _=>.inl (by simp)) Θ⟩
    | ret=>exact⟨_,zcn,Ψ,g3,.pass (x:=.inLoop c) rfl (λ_ _=>.inl (by simp)) Θ⟩
 obtain⟨e,a',w',hq,Θ⟩:=key _ i0 a w rfl h0
 exact⟨e,a',w',hq,.of_steps (.one (fenced_calm hb hr rfl) stepR_loop) Θ⟩
theorem NB.trimTo{X:Ctx}{t:bY}{pre m1 m2:aT}{A:List (bV)}{a:Act}{w:World}(hn:NB Γ X t pre (m1++m2) A a w)
  (ht:Ob (pre.length+1+m1.length) t=true) (zfs:pre.all (MY (pre.length+1+m1.length))=true) (hm:m1.all (MY (pre.length+1+m1.length))=true):NB Γ X t pre m1 A a w:=by
 obtain⟨l,ps,ys,hp,hy,R,E,rt,hd,hid,inj,fresh⟩:=hn
 have htk:(hB pre (bW ys) (m1++m2)).take (pre.length+1+m1.length)=hB pre (bW ys) m1:=by
  have:hB pre (bW ys) (m1++m2)=hB pre (bW ys) m1++m2:=by simp[hB]
  rw[this,SU oU]
 have UY:((hB pre (bW ys) (m1++m2)).take (pre.length+1+m1.length)).all (MY (pre.length+1+m1.length))=true:=by
  rw[htk]
  unfold hB
  simp only[SV,zfs,PR,hm,PC,Ou,MY]
  exact BT _
 have R':=R.take UY
 have E':=E.takeN (k:=pre.length+1+m1.length) (TK _)
 have rt':=bR (n:=pre.length+1+m1.length) (λ_ hk=>gn (n:=pre.length+1+m1.length) hk) ht rt
 rw[htk] at R' E' rt'
 exact⟨l,ps,ys,hp,hy,R',E',rt',hd,hid,inj,fresh⟩
theorem NB.enter{X:Ctx}(hX:X.h=[]){t:bY}{pre more:aT}{n:Nat}{a:Act}{w:World}
  (hs:St Γ X {t:=t,h:=hB pre (bW (MS n (.slice none 0 0))) more,m:=[]} a w):NB Γ X t pre more (MS n []) a w:=by
 obtain⟨l,R,E,rt,hd⟩:=hs
 have hpl:fh X.O (MS n none)=X.O:=by
  funext k
  apply propext
  constructor
  ·rintro (h1|⟨j,c,h1⟩)
   ·exact h1
   grind
  ·exact .inl
 rw[hX] at E
 refine⟨l,MS n none,MS n (.slice none 0 0),by simp,by simp,by rw[hpl];exact R,E,by grind,by simpa[UP] using hd,?_,?_,?_⟩
 ·intro j B p y h1 h2 h3
  rw[PH] at h1 h2 h3
  split at h1<;>simp at h1
  rename_i hj
  rw[if_pos hj] at h2 h3
  cases h2;cases h3;subst h1
  exact⟨rfl,⟨rfl,rfl⟩,rfl⟩
 ·grind
 grind
theorem uI:∀b x,h[b]? = some x->∃x',h[b]? = some x'/\x.le x'/\(x.stays x'->l b=l b):=λ_ x hx=>⟨x,hx,x.le_refl,λ_=>rfl⟩
theorem sA(hO:∀k,O' k->O k):∀T8 off y,¬Ub O l h T8->w.cell? ⟨T8,off,none⟩=some y->w.cell? ⟨T8,off,none⟩=some y/\¬Ub O' l h T8 :=
 λT8 _ _ hn hy=>⟨hy,λha=>hn (ha.imp (hO T8) id)⟩
theorem UJ.lessO(R:UJ Γ O w l h)(hO:∀k,O' k->O k):UJ Γ O' w l h :=
 ⟨λT8 ho=>⟨(R.inb T8 ho).1,λh1=>(R.inb T8 ho).2 (hO _ h1)⟩,λT8 h1=>R.obd T8 (hO _ h1),R.inj,
  λb x hb=>SB (sA hO) uI rfl (λ_ _ _=>rfl) (R.T8 b x hb),λg cs hg=>Qi (sA hO) g 0 cs (R.glo g cs hg)⟩
theorem yu:∀{ds:bY} {ys:At},ds.length=ys.length->(∀(j:Nat) (d:D) (y:Value),ds[j]? = some d->ys[j]? = some y->Rel w av l h d y)->U1 w av l h ds ys
 | [],[],_,_=>by simp[U1]
 | [],_::_,hl,_=>by simp at hl
 | _::_,[],hl,_=>by simp at hl
 | d::ds,y::ys,hl,hr=>by
  simp only[U1]
  exact⟨hr 0 d y rfl rfl,yu (by simpa using hl) λj d y h1 h2=>hr (j+1) d y (by simpa using h1) (by simpa using h2)⟩
abbrev mQ(B:bV):bv:=B.map λn=>[.v (.int .i64 n)]
theorem EV{p:Option (Nat×Nat)}{B:bV}{y:Value}(hb:ziK w p B)(hv:gV p B.length y)(hn:∀k c,p=some (k,c)->¬av k):UF w av (.sl (mQ B)) y:=by
 unfold ziK Up at hb
 cases p with
 | none =>
  grind [TL,gV,UF]
 | some q =>
  obtain⟨k,cp⟩:=q
  simp only at hb
  obtain⟨o,cap,rc,cs,T,fr,zs,g1,g2,g3,g4,g5,g6,pre,rest,q0,q7⟩:=hb
  rw[kh] at g6
  subst g6
  obtain⟨o2,zex,rc2,rfl,hle⟩:=hv
  obtain⟨rfl,rfl⟩:=co (rc.symm.trans rc2)
  simp only[UF]
  refine .inr ⟨k,o,cap,1,by simp,by simpa using hle,iT _ _ λi e he=>?_⟩
  rw[Om] at he
  cases hB:B[i]? with
  | none=>grind
  | some n =>
   rw[hB] at he
   simp only[Nr,MM] at he
   subst he
   refine⟨rfl,⟨hn k cp rfl,.int .i64 n,?_,rfl⟩,trivial⟩
   rw[cell_of_row w k (o+i*1) cs T fr g1,<-Array.getElem?_toList,q7,List.append_assoc,Nm (by omega),q0,Nat.mul_one,Nat.add_sub_cancel_left,
    M4 (by grind),Om,hB]
   rfl
theorem NB.leave{X:Ctx}(hX:X.h=[]){t:bY}{pre more:aT}{A:List (bV)}{a:Act}{w:World}(hn:NB Γ X t pre more A a w):
  St Γ X {t:=t,h:=hB pre (A.map λB=>[.p (.sl (mQ B))]) more,m:=[]} a w:=by
 obtain⟨l,ps,ys,hp,hy,R,E,rt,hd,hid,inj,fresh⟩:=hn
 have hO:∀k,X.O k->fh X.O ps k:=λk hk=>.inl hk
 have R1:=R.lessO hO
 have rt1:=Qz (sA hO) uI _ _ rt
 have hget:(hB pre (bW ys) more)[pre.length]? = some (.T7 (bW ys) 0 1):=yr
 have hok:Up w (Ub X.O l (hB pre (bW ys) more)) l (hB pre (bW ys) more) pre.length (.T7 (A.map λB=>[.p (.sl (mQ B))]) 0 1):=by
  have h0:=R1.T8 _ _ hget
  unfold Up at h0 ⊢
  cases hlq:l pre.length with
  | none =>
   simp only[hlq] at h0 ⊢
   have h1:ys=[]:=by simpa using h0
   grind
  | some q =>
   obtain⟨T8,cp⟩:=q
   simp only[hlq] at h0 ⊢
   obtain⟨o,cap,rc,cs,T,fr,zs,g1,g2,g3,g4,g5,g6,g7⟩:=h0
   rw[kj,kl] at g6
   subst g6
   refine⟨o,cap,rc,cs,T,fr,zs,g1,g2,by grind,g4,λe he=>?_,?_,g7⟩
   ·grind
   ·have hfl:(A.map λB=>[D.p (.sl (mQ B))]).flatten=A.map λB=>D.p (.sl (mQ B)):=by
     generalize A=A'
     induction A' with
     | nil=>rfl
     | cons B A' ih=>grind
    rw[hfl]
    refine yu (by simp[hy]) λj d y h1 h2=>?_
    rw[Om] at h1
    cases hA:A[j]? with
    | none=>grind
    | some B =>
     rw[hA] at h1
     simp only[Nr,MM] at h1
     subst h1
     obtain⟨p,hpj⟩:∃p,ps[j]? = some p:=⟨_,Nd (by grind)⟩
     obtain⟨k1,k2,_⟩:=hid j B p y hA hpj h2
     simp only[Rel]
     refine EV k1 k2 λk c hk ha=>?_
     rcases ha with ha|ha
     ·grind
     ·exact(R.inb k ha).2 (.inr ⟨j,c,by rw[hpj,hk]⟩)
 have R2:=R1.zjL hget (by simp[hy]) hok
 have rt2:=Qz (yq (rows':=A.map λB=>[.p (.sl (mQ B))]) hget) (ng (l:=l) hget (rows':=A.map λB=>[.p (.sl (mQ B))]) (by simp[hy])) _ _ rt1
 have hE:Ext X.w X.l [] w l (hB pre (A.map λB=>[.p (.sl (mQ B))]) more):=by
  refine⟨E.size,E.same,λT8 ho=>?_,λb x hb=>by simp at hb,E.tape⟩
  have:=lH (l:=l) (x':=.T7 (A.map λB=>[.p (.sl (mQ B))]) 0 1) hget (by simp) (by simp) (k:=T8)
  rw[oV] at this
  exact E.news T8 (this.1 ho)
 rw[oV] at R2 rt2
 exact⟨l,R2,by rw[hX];exact hE,rt2,by simpa[UP] using hd⟩
end
section
variable {P:Program} {Γ:aq}
abbrev coll(k:Nat):Deferred:={target:=.collected k,args:=#[]}
def lI(X:Ctx)(ks:iS):Ctx:={O:=λk=>X.O k\/k∈ks,w:=X.w,l:=X.l,h:=X.h,D:=ks.map coll++X.D}
def MB(Γ:aq)(X:Ctx)(s:AS)(a:Act)(w:World):Prop :=
 ∃ks:iS,ks.Nodup/\(∀k∈ks,(X.w.heap.size<=k\/own X.l X.h k)/\w.heap[k]? = some (.deferred (some [])))/\St Γ (lI X ks) s a w
theorem MB.enter{X:Ctx}{s:AS}{a:Act}{w:World}(hs:St Γ X s a w):MB Γ X s a w:=by
 refine⟨[],Rm,by simp,?_⟩
 have:lI X []=X:=by simp[lI]
 grind
theorem MB.sop{X:Ctx}{s s':AS}{a:Act}{w:World}{o:SOp}{φ:AT}(ha:o.app X.h s=some (s',φ))(hp:Uw φ)(hs:MB Γ X s a w):MB Γ X s' a w:=by
 obtain⟨ks,h1,h2,h3⟩:=hs
 exact⟨ks,h1,h2,SOp.sound (X:=lI X ks) ha hp h3⟩
theorem MB.run{X:Ctx}{c:Code}{s s':AS}{e:Exit}(hcw:CW P Γ s.h false c s e s'){a:Act}{w:World}(hs:MB Γ X s a w):
  c.wpIn (FW none) 0 P (λe' a' w'=>e'=e/\e'≠.outgrown/\MB Γ X s' a' w') a w:=by
 obtain⟨ks,nd,hk,l,R,E,rt,hd⟩:=hs
 refine wpIn_mono (hcw {O:=(lI X ks).O,w:=w,l:=l,h:=s.h,D:=(lI X ks).D} none rfl (λ_=>rfl) a w ⟨l,R,PW _ _ _,rt,hd⟩) ?_
 rintro e' a' w' ⟨h2,s2,⟨rfl,rfl⟩,l',R',E',rt',hd'⟩
 refine⟨rfl,h2,ks,nd,λk hkk=>⟨(hk k hkk).1,?_⟩,l',R',E.trans E',rt',hd'⟩
 have hO:(lI X ks).O k:=.inr hkk
 rw[E'.same k (R.obd k hO) (λho=>(R.inb k ho).2 hO)]
 grind
theorem MB.drop{X:Ctx}{t:bY}{h:aT}{b:Nat}(hb:h[b]? = some .Ut){a:Act}{w:World}(hs:MB Γ X {t:=t,h:=h,m:=[b]} a w):MB Γ X {t:=t,h:=h.set b .U7,m:=[]} a w:=by
 obtain⟨ks,nd,hk,l,R,E,rt,hd⟩:=hs
 have hbl:=(MR.1 hb).1
 have g:∀b':Nat,(h.set b .U7)[b']? = h[b']? \/ (h.set b .U7)[b']? = some Uc.U7:=by
  intro b'
  by_cases e:b=b'
  ·grind
  ·grind
 obtain⟨ds,hds⟩:∃ds,a.defers=ds:=⟨_,rfl⟩
 rw[hds] at hd
 cases ds with
 | nil=>simp[UP] at hd
 | cons d ds =>
  simp only[UP] at hd
  obtain⟨⟨T8,cp,_,h2,rfl⟩,rfl⟩:=hd
  have zfG:own l h T8:=⟨b,.Ut,cp,hb,by simp,h2⟩
  obtain⟨U8,hnO⟩:=R.inb T8 zfG
  have zft:w.heap[T8]? = some (.deferred (some [])):=by
   obtain⟨zbY,cp',q1,q2⟩:=R.T8 b _ hb
   rw[h2] at q1;cases q1
   exact q2
  have hO2:∀k,(lI X (T8::ks)).O k ↔ ((lI X ks).O k\/k=T8):=by
   intro k
   simp only[lI,NF]
   constructor
   ·grind
   ·grind
  have hav:∀k,Ub (lI X (T8::ks)).O l (h.set b .U7) k->Ub (lI X ks).O l h k:=by
   rintro k (hk1|hk1)
   ·rcases(hO2 k).1 hk1 with h|rfl
    ·exact .inl h
    ·exact .inr zfG
   ·exact .inr (qz g hk1)
  refine⟨T8::ks,?_,?_,l,?_,E.gc g,gw g hav rt,?_⟩
  ·refine Sr.2 ⟨λhm=>hnO (.inr hm),nd⟩
  ·intro k hkm
   rcases NF.1 hkm with rfl|hkm
   ·exact⟨(E.news _ zfG).symm,zft⟩
   grind
  ·refine⟨?_,?_,?_,?_,?_⟩
   ·intro k ho
    refine⟨(R.inb k (qz g ho)).1,λhO=>?_⟩
    rcases(hO2 k).1 hO with hO|rfl
    ·exact(R.inb k (qz g ho)).2 hO
    ·obtain⟨b',x,c,q1,q2,q3⟩:=ho
     have Μ:b≠b':=by
      rintro rfl
      rw[NK hbl] at q1;cases q1;exact q2 rfl
     rw[Nu Μ] at q1
     by_cases hc:c=cp
     ·subst hc
      exact Μ (R.inj b b' _ x k c c hb (by simp) q1 q2 h2 q3)
     ·exact Μ (R.inj b b' _ x k cp c hb (by simp) q1 q2 h2 q3)
   ·intro k hO
    rcases(hO2 k).1 hO with hO|rfl
    ·exact R.obd k hO
    ·exact U8
   ·exact(R.gc g).inj
   ·intro b' x hx
    rcases g b' with e|e
    ·exact xR g hav (R.T8 b' x (by grind))
    ·rw[e] at hx;cases hx;trivial
   ·exact λg0 cs hg=>aL hav (R.glo g0 cs hg)
  ·simp only[UP,hds,lI,NW,List.cons_append]
def MW(P:Program)(Γ:aq)(X:Ctx)(c:Code)(s:AS)(Q:Exit->AS->Prop):Prop :=
 ∀a w,MB Γ X s a w->c.wpIn (FW none) 0 P (λe a' w'=>e≠.outgrown/\∃s',Q e s'/\MB Γ X s' a' w') a w
theorem MW.run{X:Ctx}{c:Code}{s s':AS}{e:Exit}{Q:Exit->AS->Prop}(hcw:CW P Γ s.h false c s e s')(hq:Q e s'):MW P Γ X c s Q:=λ_a _w hs =>
 wpIn_mono (MB.run hcw hs) λ_ _ _ ⟨h1,h2,h3⟩=>⟨h2,s',h1▸hq,h3⟩
theorem MW.mono{X:Ctx}{c:Code}{s:AS}{Q Q':Exit->AS->Prop}(h:MW P Γ X c s Q)(hq:∀e s,Q e s->Q' e s):MW P Γ X c s Q':=λa w hs =>
 wpIn_mono (h a w hs) λ_ _ _ ⟨h2,s',h3,h4⟩=>⟨h2,s',hq _ _ h3,h4⟩
theorem MW.then{X:Ctx}{c:Code}{s s1 s2:AS}{e:Exit}{Q:Exit->AS->Prop}(h:MW P Γ X c s (Det e s1))(hs:∀a w,MB Γ X s1 a w->MB Γ X s2 a w)(hq:Q e s2):MW P Γ X c s Q:=λa w hm =>
 wpIn_mono (h a w hm) λ_ _ _ ⟨h2,_,⟨h3,h5⟩,h4⟩=>⟨h2,s2,h3▸hq,hs _ _ (h5▸h4)⟩
theorem MW.seq{X:Ctx}{c d:Code}{s:AS}{Q:Exit->AS->Prop}(h:MW P Γ X c s (Ex (λs'=>MW P Γ X d s' Q) Q)):MW P Γ X (.seq c d) s Q:=λa w hs =>
 wpIn_seq (wpIn_mono (h a w hs) λe a' w' ⟨h2,s',h3,h4⟩=>by
  cases e with
  | normal=>exact h3 a' w' h4
  | outgrown=>grind
  | _=>exact⟨h2,s',h3,h4⟩)
theorem MW.block{X:Ctx}{id:Nat}{c:Code}{s:AS}{Q:Exit->AS->Prop}(h:MW P Γ X c s (nZ id Q)):MW P Γ X (.block id c) s Q:=λa w hs =>
 wpIn_block (wpIn_mono (h a w hs) λe a' w' ⟨h2,s',h3,h4⟩=>by
  cases e with
  | exit k =>
   grind [Exit.inBlock,nZ]
  | outgrown=>grind
  | _=>exact⟨h2,s',h3,h4⟩)
theorem MW.scope{X:Ctx}{c:Code}{s:AS}{Q:Exit->AS->Prop}(h:MW P Γ X c s (λe s=>(∀l,e≠.goto l)/\Q e s)):MW P Γ X (.scope c) s Q:=by
 intro a w hs b k cs hro hb hr
 have h0:(lone (b.atR a (.code (.scope c)::k)) cs w).fenced P (FW none):=fenced_calm hb hr rfl
 obtain⟨e,zcn,Ψ,⟨g2,s',⟨g3,g4⟩,g5⟩,Θ⟩:=h a w hs b (.inScope c::k) cs hro hb hr
 cases e with
 | normal=>exact⟨.normal,zcn,Ψ,⟨by simp,s',g4,g5⟩,.head h0 bM (RQ Θ (.one (fenced_calm hb hr rfl) jU))⟩
 | exit id' =>
  have hx:exitTo id' (.inScope c::k)=exitTo id' k:=by simp[exitTo]
  exact⟨.exit id',zcn,Ψ,⟨by simp,s',g4,g5⟩,λk' hk=>.head h0 bM (Θ.1 k' (by rw[hx];exact hk)),
   λhr' hk=>let ⟨k₁,h1,h2⟩:=Θ.2 hr' (by rw[hx];exact hk);⟨k₁,h1,.head h0 bM h2⟩⟩
 | goto l=>grind
 | ret=>exact⟨_,zcn,Ψ,⟨by simp,s',g4,g5⟩,.of_steps (.one h0 bM) Θ⟩
 | panic ch=>exact⟨_,zcn,Ψ,⟨by simp,s',g4,g5⟩,.of_steps (.one h0 bM) Θ⟩
 | outgrown=>grind
theorem MW.loop{X:Ctx}{c:Code}{ι:Type}(st:ι->AS)(fin:ι->Exit×AS)(μ:ι->Nat)(ok:ι->Prop)
  (round:∀i,ok i->(∃j,ok j/\μ j<μ i/\fin j=fin i/\MW P Γ X c (st i) (Det .normal (st j)))\/((fin i).1≠.normal/\MW P Γ X c (st i) (Det (fin i).1 (fin i).2))) (i0:ι) (h0:ok i0):MW P Γ X (.loop c) (st i0) (Det (fin i0).1 (fin i0).2):=by
 intro a w hs
 refine qU (λi a w=>ok i/\fin i=fin i0/\MB Γ X (st i) a w) μ i0 ⟨h0,rfl,hs⟩ ?_
 rintro i a w ⟨hok,hf,hm⟩
 rcases round i hok with ⟨j,h0,h1,h2,h3⟩|⟨h1,h2⟩
 ·refine wpIn_mono (h3 a w hm) ?_
  grind
 ·refine wpIn_mono (h2 a w hm) ?_
  grind
theorem oW{fn:Func}{ts:BV}{t:bY}{h:aT}{R':Ending->World->Prop}{w0:World}{l0:Loc}{h0:aT}{O:Nat->Prop}{D0:List Deferred}{u:FrameMode}(hu:u≠.run):
  ∀(ks:iS) (w:World) (l:Loc),ks.Nodup->(∀k∈ks,(w0.heap.size<=k\/own l0 h0 k)/\w.heap[k]? = some (.deferred (some [])))->UJ Γ (λk=>O k\/k∈ks) w l h->Ext w0 l0 h0 w l h ->
   U1 w (Ub (λk=>O k\/k∈ks) l h) l h t ts.toList ->
   (∀w' l',UJ Γ O w' l' h->Ext w0 l0 h0 w' l' h->U1 w' (Ub O l' h) l' h t ts.toList->LeavesInM (FW none) 0 P fn ts R' D0 u w') ->
   LeavesInM (FW none) 0 P fn ts R' (ks.map coll++D0) u w
 | [],w,l,_,_,R,E,rt,hk=>by
  have e:(λk=>O k\/k∈([]:iS))=O:=by funext k;simp
  grind
 | k::ks,w,l,nd,hd,R,E,rt,hk=>by
  obtain⟨hsz,zft⟩:=hd k (by simp)
  obtain⟨nk,nd⟩:=Sr.1 nd
  have hO:(λj=>O j\/j∈k::ks) k:=.inr (by simp)
  have hno:¬own l h k:=λho=>(R.inb k ho).2 hO
  have U8:=R.obd k hO
  have hgo:(getObj k).run P w=.ok (.deferred (some [])) w:=by simp[getObj,Sem.run,zft]
  have Φ:(Sc k).run P w=.ok [] {w with heap:=w.heap.setIfInBounds k (.deferred none)}:=by
   simp only[Sc,Sem.run_bind,hgo,Result.andThen_ok,cE (P:=P) zft (by simp),Sem.run_pure]
  have Μ:∀j,j≠k->({w with heap:=w.heap.setIfInBounds k (.deferred none)}:World).heap[j]? = w.heap[j]?:=by
   intro j hj
   simp[Ne.symm hj]
  have hav:∀j,Ub (λj=>O j\/j∈ks) l h j->Ub (λj=>O j\/j∈k::ks) l h j:=by
   rintro j ((h1|h1)|h1)
   ·exact .inl (.inl h1)
   ·exact .inl (.inr (by simp[h1]))
   ·exact .inr h1
  have hc:∀T8 off y,¬Ub (λj=>O j\/j∈k::ks) l h T8->w.cell? ⟨T8,off,none⟩=some y->({w with heap:=w.heap.setIfInBounds k (.deferred none)}:World).cell? ⟨T8,off,none⟩=some y/\¬Ub (λj=>O j\/j∈ks) l h T8:=by
   intro T8 off y hn hy
   have hb:T8≠k:=by rintro rfl;exact hn (.inl hO)
   refine⟨?_,λha=>hn (hav _ ha)⟩
   unfold World.cell? at hy ⊢
   simp only[Μ T8 hb]
   exact hy
  have hkp:∀b x,h[b]? = some x->∃x',h[b]? = some x'/\x.le x'/\(x.stays x'->l b=l b):=λb x hx=>⟨x,hx,x.le_refl,λ_=>rfl⟩
  refine⟨hu,.inl ⟨k,_,rfl,Φ,oW hu ks _ l nd ?_ ?_ ?_ (Qz hc hkp _ _ rt) hk⟩⟩
  ·grind
  ·refine⟨?_,?_,R.inj,?_,λg0 cs hg=>Qi hc g0 0 cs (R.glo g0 cs hg)⟩
   ·intro j ho
    obtain⟨h1,h2⟩:=R.inb j ho
    grind
   ·intro j hj
    have:=R.obd j (hj.elim .inl λh=>.inr (by simp[h]))
    grind
   ·intro b x hb
    by_cases hx:x=.U7
    ·subst hx;trivial
    refine SB hc hkp rfl (λT8 cp hl=>Μ T8 ?_) (R.T8 b x hb)
    rintro rfl
    exact hno ⟨b,x,cp,hb,hx,hl⟩
  ·refine⟨by simpa using E.size,λT8 h1 h2=>?_,E.news,E.keep,E.tape⟩
   rw[Μ T8]
   ·exact E.same T8 h1 h2
   grind
theorem Ev.of_mb{f:FuncId}{fn:Func}{c:Code}{args:bY}{h h':aT}{d:D}{e:Exit}{s:AS}(hf:P.funcs[f]? = some fn)(hb:fn.body=some c)
  (hv:∀X:Ctx,X.h=h->MW P Γ X c {t:=cM fn args,h:=h,m:=[]} (Det e s))
  (hq:bodyQ P fn (λd2 h2=>d2=d/\h2=h') e s):Ev P Γ f args h d h':=by
 intro O w l vs R ra
 refine callsIn_of_wp_marks hf hb trivial ?_ rfl
 refine wpIn_mono (hv _ rfl _ _ (MB.enter (iO R ra fn))) ?_
 rintro e' a' w' ⟨h2,s2,⟨rfl,rfl⟩,ks,nd,hk,l',R',E',rt',rd'⟩
 obtain⟨h3,h4,h5,ds,h6,h7⟩:=hq
 have key:=da (P:=P) (Γ:=Γ) (O:=λk=>O k\/k∈ks) (fn:=fn) (w0:=w') (l0:=l') (h0:=s2.h) (u:=.returning) (R':=λe w'=>∃v d2 h2 l',e=.returned v/\(d2=d/\h2=h')/\UJ Γ O w' l' h2/\Ext w l h w' l' h2/\Rel w' (Ub O l' h2) l' h2 d2 v)
  (by simp) s2.m a'.defers w' l' s2.h R' (PW _ _ _) rt' rd' h5 (λw2 l2 k1 k2 k3=>by
   refine oW (P:=P) (Γ:=Γ) (w0:=w) (l0:=l) (h0:=h) (O:=O) (D0:=[]) (by simp) ks w2 l2 nd ?_ k1 (E'.trans k2) k3 ?_
   ·intro k hkk
    have hO:(λk=>O k\/k∈ks) k:=.inr hkk
    refine⟨(hk k hkk).1,?_⟩
    rw[k2.same k (R'.obd k hO) (λho=>(R'.inb k ho).2 hO)]
    grind
   ·intro w3 l3 g1 g2 g3
    obtain⟨v,h1,h2⟩:=de (P:=P) g1 g3 h6
    exact⟨v,h1,⟨v,_,_,l3,rfl,h7,g1,g2,h2⟩⟩)
 rcases h3 with rfl|rfl
 ·exact key
 ·exact key
end
end Go.Vi
