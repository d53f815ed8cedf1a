/- LedgerArrival: part of the proof: an evaluator of the model's programs on abstract values, and its soundness. No conditions beyond the given statement's own. -/
import Derived.Test.YtbfpdhdcicjihaaGreatDoorV8
import Derived.Laws.BitsLemmas
open Decidable renaming decide → Qd
open Go.Vi.D renaming innL → Ld, inn → JO, mapR → Iu, mapRL → HP
open Go.CallsIn renaming mono → IX
open Nat renaming lt_of_lt_of_le → Ja, sub_zero → Ko, eq_of_beq_eq_true → M5, le_refl → Hq
open Go.Vi.RelCells renaming mono → Lf
open Option.some renaming injEq → G0, inj → Jp
open Prod.mk renaming injEq → G4
open List renaming getElem?_eq_getElem → HE, getElem?_cons_succ → I2, mem_of_getElem? → HL, getElem?_eq_some_iff → G9, map_cons → Il, mem_map → HS, getElem?_map → IJ, getD → HC, all_eq_true → Hs, getElem?_append_left → HF, getElem?_append_right → HT, nodup_nil → Lv, map_map → Jz
open Go.Vi.Blk renaming mapR → Jc, defd → KZ, loop → Nd
open Go.Vi.Ref renaming blk → LH
open Bool renaming and_eq_true → G6
open Go.Vi.AllP renaming append → Lh
open Option renaming map_some → HD
open Array renaming length_toList → IK, getElem?_toList → H0, toList_append → JE, replicate → II, toList_setIfInBounds → KF, toList_push → Nq
open Go.Region renaming wanted → HX, ready → I3
open Go.Deferred renaming ofValue → H5
open Go.Sem renaming run_bind → Hp, run_pure → HH
open Go.Result renaming andThen_ok → Hk
open Go.Machine renaming fenced → Mc
open Go.StepsIn renaming trans → Ka
open Go.Vi.DefOk renaming mono → KY
open Go.ComesIn renaming of_steps → Lw
namespace Go.Vi
open Go
section
variable {P:Program} {Γ:ae}
theorem bW{l:Loc}{blk:Nat}:¬own l [] blk:=by
 rintro⟨b,x,cp,h,_⟩
 simp at h
theorem Ev.frame0{f:FuncId}{args:List D}{d:D}(ha:Ld 0 args=true)(he:Ev P Γ f args [] d [])(h:List Blk):Ev P Γ f args h d h:=by
 intro O w l vs R ra
 have hav:∀l' k,avs (avs O l h) l' [] k ↔ avs O l h k:=fun l' k=>⟨fun ho=>ho.elim id (fun h=>absurd h bW),fun ho=>.inl ho⟩
 have R0:Rep Γ (avs O l h) w l []:=by
  refine⟨fun blk ho=>absurd ho bW,fun blk ho=>?_,fun b b' x x' k c c' hb=>by simp at hb,fun b x hb=>by simp at hb,fun g cs hg=>?_⟩
  ·rcases ho with ho|ho
   ·exact R.obd blk ho
   ·exact(R.inb blk ho).1
  ·exact al (fun k hk=>(hav l k).1 hk) (R.glo g cs hg)
 have ra0:RelL w (avs (avs O l h) l []) l [] args vs:=bG (h:=h) (n:=0) (fun k hk=>(hav l k).1 hk) ha ra
 refine IX (he (avs O l h) w l vs R0 ra0) ?_
 rintro e w' ⟨v,d2,h2,l',rfl,⟨rfl,rfl⟩,R',E',rd⟩
 have E:Ext w l h w' l h:=⟨E'.size,fun blk hb _=>E'.same blk hb bW,fun blk ho=>.inl ho,fun b x hx=>⟨x,hx,x.le_refl,fun _=>rfl⟩,E'.tape⟩
 refine⟨v,d2,h,l,rfl,⟨rfl,rfl⟩,⟨fun blk ho=>⟨Ja (R.inb blk ho).1 E'.size,(R.inb blk ho).2⟩,fun blk ho=>Ja (R.obd blk ho) E'.size,R.inj,fun b x hx=>?_,fun g cs hg=>?_⟩,E,?_⟩
 ·by_cases hg:x=.gone
  ·subst hg;trivial
  exact BlkOk.ext E rfl (fun blk cp hl=>E'.same blk (R.inb blk ⟨b,x,cp,hx,hg,hl⟩).1 bW) (R.blk b x hx)
 ·exact Lf E.hc g 0 cs (R.glo g cs hg)
 ·exact Rel.mono (fun blk off y hn hc=>⟨hc,fun ho=>hn ((hav l' blk).2 ho)⟩) (fun b x hb=>by simp at hb) d2 v rd
def out0(r:Option (D×List Blk×List Prop)):Option (D×List Prop):=match r with
 | some (d,_,φ)=>some (d,φ)
 | none=>none
def outF(r:Option (D×List Blk×List Prop)):Option (D×List Blk×List Prop):=match r with
 | some (d,h,φ)=>some (d,h,φ)
 | none=>none
theorem Ev.of_sym'(ok:POk P){f:FuncId}{args:List D}{h h':List Blk}{d:D}{φ:List Prop}(as:List Ans)(hs:De P Γ f args h as=some (d,h',φ))(hp:AllP φ):Ev P Γ f args h d h' :=
 Ev.sym ok as (by rw[hs];exact⟨rfl,rfl,hp⟩)
theorem Ev.of_sym(ok:POk P){f:FuncId}{args:List D}{h h':List Blk}{d:D}{φ:List Prop}(as:List Ans)(hs:outF (De P Γ f args h as)=some (d,h',φ))(hp:AllP φ):Ev P Γ f args h d h':=by
 refine Ev.of_sym' ok as ?_ hp
 unfold outF at hs
 split at hs
 ·rename_i h1
  rw[h1]
  exact hs
 ·simp at hs
theorem Ev.sym0(ok:POk P){f:FuncId}{args:List D}{d:D}{φ:List Prop}(as:List Ans)(hs:out0 (De P Γ f args [] as)=some (d,φ))(hp:AllP φ)(ha:Ld 0 args=true)(hd:JO 0 d=true)(h:List Blk):Ev P Γ f args h d h:=by
 refine Ev.frame0 ha ?_ h
 unfold out0 at hs
 split at hs
 case h_2=>simp at hs
 rename_i d1 h1 φ1 hr
 simp only[G0,G4] at hs
 obtain⟨rfl,rfl⟩:=hs
 have:=Ev.trim (h:=[]) hd rfl (Ev.of_sym' ok as hr hp)
 simpa using this
def mkT:Nat→Nat→List (Nat×D)→List D
 | 0,_,_=>[]
 | n+1,i,[]=>.any::mkT n (i+1) []
 | n+1,i,(k,d)::ds=>match i==k with
  | true=>d::mkT n (i+1) ds
  | false=>.any::mkT n (i+1) ((k,d)::ds)
theorem CW.post{h0:List Blk}{rd:Bool}{c:Code}{s s' s'':AS}{e:Exit}{as as':List Ans}{φ:List Prop}(hq:Vi.pre h0 s' as=some (s'',as',φ))(hp:AllP φ)(hw:CW P Γ h0 rd c s e s'):CW P Γ h0 rd c s e s'':=by
 intro X r hn hrd a w hs
 refine wpIn_mono (hw X r hn hrd a w hs) ?_
 rintro e' a' w' ⟨h2,s2,⟨rfl,rfl⟩,h4⟩
 subst hn
 exact⟨h2,_,⟨rfl,rfl⟩,qV _ _ _ _ _ hq hp _ _ h4⟩
def z5(h0:List Blk)(os:List Ans)(r:Option Res):Option (Exit×AS×List Prop):=match r with
 | some ((e,s,[]),φ)=>match Vi.pre h0 s os with
  | some (s,[],φ')=>some (e,s,φ++φ')
  | _=>none
 | _=>none
theorem CW.symX(ok:POk P){h0:List Blk}{rd:Bool}{c:Code}{s s':AS}{e:Exit}{φ:List Prop}(os as:List Ans)(hs:z5 h0 os (symC P Γ h0 rd c s as)=some (e,s',φ))(hp:AllP φ):CW P Γ h0 rd c s e s':=by
 unfold z5 at hs
 split at hs
 case h_2=>simp at hs
 rename_i e1 s1 φ1 hr
 split at hs
 case h_2=>simp at hs
 rename_i s2 φ2 ht
 simp only[G0,G4] at hs
 obtain⟨rfl,rfl,rfl⟩:=hs
 obtain⟨p1,p2⟩:=hp.append
 exact CW.post ht p2 (Dd ok c _ _ _ _ _ _ hr p1)
theorem CW.loop{h0:List Blk}{rd:Bool}{c:Code}{ι:Type}(st:ι→AS)(fin:ι→Exit×AS)(μ:ι→Nat)
  (round:∀i,(∃j,μ j<μ i∧fin j=fin i∧CW P Γ h0 rd c (st i) .normal (st j))∨((fin i).1 ≠ .normal∧CW P Γ h0 rd c (st i) (fin i).1 (fin i).2)) (i0:ι):CW P Γ h0 rd (.loop c) (st i0) (fin i0).1 (fin i0).2:=by
 intro X r hn hrd
 refine VW.loop (fun i s=>s=st i∧fin i=fin i0) μ i0 ⟨rfl,rfl⟩ ?_
 rintro i s ⟨rfl,hi⟩
 rcases round i with ⟨j,h1,h2,h3⟩|⟨h1,h2⟩
 ·refine(h3 X r hn hrd).mono ?_
  rintro e s ⟨rfl,rfl⟩
  exact⟨j,⟨rfl,h2.trans hi⟩,h1⟩
 ·refine(h2 X r hn hrd).mono ?_
  rintro e s ⟨rfl,rfl⟩
  rw[hi] at h1 ⊢
  generalize (fin i0).1=e at h1
  cases e with
  | normal=>exact absurd rfl h1
  | _=>exact⟨rfl,rfl⟩
theorem CW.loopN{h0:List Blk}{rd:Bool}{c:Code}(n:Nat)(st:Nat→AS){e:Exit}{s':AS}(he:e ≠ .normal)(hs:∀i,i<n→CW P Γ h0 rd c (st i) .normal (st (i+1)))(hl:CW P Γ h0 rd c (st n) e s'):CW P Γ h0 rd (.loop c) (st 0) e s':=by
 refine CW.loop (ι:={i:Nat // i≤n}) (fun i=>st i.1) (fun _=>(e,s')) (fun i=>n - i.1) ?_ ⟨0,Nat.zero_le _⟩
 rintro⟨i,hi⟩
 by_cases h:i<n
 ·exact .inl ⟨⟨i+1,by omega⟩,by simp only;omega,rfl,hs i h⟩
 ·have:i=n:=by omega
  subst this
  exact .inr ⟨he,hl⟩
def zA:Code→List Code
 | .seq a b=>zA a++zA b
 | .cond _ a b=>zA a++zA b
 | .block _ b=>zA b
 | .scope b=>zA b
 | .loop b=>b::zA b
 | .rangeFunc g ps a b=>.rangeFunc g ps a b::(zA a++zA b)
 | _=>[]
def sub(fn:Func)(k:Nat):Code:=match fn.body with
 | some c=>(zA c).getD k .skip
 | none=>.skip
theorem wrap_i64{n:Int}(h1 : -9223372036854775808≤n)(h2:n≤9223372036854775807):IntKind.i64.wrap n=n:=by
 rw[IntKind.wrap_i64]
 omega
end
theorem Ev.castH{P:Program}{Γ:ae}{f:FuncId}{args:List D}{h h' h2:List Blk}{d d2:D}(he:Ev P Γ f args h d h')(hd:d=d2)(hh:h'=h2):Ev P Γ f args h d2 h2:=hd▸hh▸he
theorem CW.cast{P:Program}{Γ:ae}{h0:List Blk}{rd:Bool}{c:Code}{s s' s2:AS}{e e2:Exit}(hw:CW P Γ h0 rd c s e s')(he:e=e2)(hs:s'=s2):CW P Γ h0 rd c s e2 s2:=he▸hs▸hw
def forL{α σ ρ:Type}(f:α→σ→σ⊕ρ):List α→σ→σ⊕ρ
 | [],s=>.inl s
 | a::l,s=>match f a s with
  | .inl s'=>forL f l s'
  | .inr r=>.inr r
def au{σ ρ:Type}(eE:Exit)(sE:σ→AS)(fin:ρ→Exit×AS):σ⊕ρ→Exit×AS
 | .inl s=>(eE,sE s)
 | .inr r=>fin r
def am{σ ρ:Type}(st:σ→AS)(fin:ρ→Exit×AS):σ⊕ρ→Exit×AS
 | .inl s=>(.normal,st s)
 | .inr r=>fin r
theorem CW.each{P:Program}{Γ:ae}{h0:List Blk}{rd:Bool}{c:Code}{α σ ρ:Type}(l:List α)(f:α→σ→σ⊕ρ)(st:Nat→σ→AS)(eE:Exit)(sE:σ→AS)(fin:ρ→Exit×AS)
  (inv:Nat→σ→Prop) (hE:eE ≠ .normal) (hF:∀r,(fin r).1 ≠ .normal)
  (body:∀i a s,l[i]? = some a→inv i s→(∀s',f a s=.inl s'→inv (i+1) s')∧CW P Γ h0 rd c (st i s) (am (st (i+1)) fin (f a s)).1 (am (st (i+1)) fin (f a s)).2)
  (last:∀s,inv l.length s→CW P Γ h0 rd c (st l.length s) eE (sE s)) (s:σ) (h:inv 0 s) :
  CW P Γ h0 rd (.loop c) (st 0 s) (au eE sE fin (forL f l s)).1 (au eE sE fin (forL f l s)).2:=by
 refine CW.loop (ι:={p:Nat×σ // p.1≤l.length∧inv p.1 p.2}) (fun p=>st p.1.1 p.1.2) (fun p=>au eE sE fin (forL f (l.drop p.1.1) p.1.2)) (fun p=>l.length - p.1.1) ?_ ⟨(0,s),Nat.zero_le _,h⟩
 rintro⟨⟨i,s⟩,hi,hv⟩
 simp only at hi hv ⊢
 by_cases hlt:i<l.length
 ·have ha:l[i]? = some l[i]:=HE hlt
  have hd:l.drop i=l[i]::l.drop (i+1):=List.drop_eq_getElem_cons hlt
  obtain⟨b1,b2⟩:=body i _ s ha hv
  rw[hd]
  simp only[forL]
  cases hf:f l[i] s with
  | inl s' =>
   rw[hf] at b2
   exact .inl ⟨⟨(i+1,s'),hlt,b1 _ hf⟩,by simp only;omega,rfl,b2⟩
  | inr r =>
   rw[hf] at b2
   exact .inr ⟨hF r,b2⟩
 ·have:i=l.length:=by omega
  subst this
  rw[List.drop_length]
  exact .inr ⟨hE,last s hv⟩
def aV:Code→Code
 | .rangeFunc _ _ a _=>a
 | _=>.skip
def aq:Code→Code
 | .rangeFunc _ _ _ b=>b
 | _=>.skip
theorem Iv.round{P:Program}{Γ:ae}{b:Nat}{args:List D}{h h1 h':List Blk}{pend:Option Code}{f:FuncId}{ts:List D}{ps:Array Tmp}{asg body:Code}{t1:List D}{p1:Option Code}{f1:FuncId}{ts1:List D}{ps1:Array Tmp}
  {a1 b1:Code} {e2:Exit} {s2:AS} {d:D} (hb:h[b]? = some (.loop .ready pend f ts ps asg body)) (hlen:args.length=ps.size)
  (hasg:CW P Γ h true asg {t:=dI ts (ps.toList.zip args),h:=h,m:=[]} .normal {t:=t1,h:=h1,m:=[]})
  (hb1:h1[b]? = some (.loop .ready p1 f1 ts1 ps1 a1 b1))
  (hbody:CW P Γ h true body {t:=t1,h:=h1.set b (.loop .busy p1 f1 ts1 ps1 a1 b1),m:=[]} e2 s2)
  (hend:ko b e2 s2=some (d,h')):Iv P Γ (.ref (.yl b)) args h d h' :=
 lx hb hlen (fun X r hX=>hasg X r hX (fun h=>by cases h)) hb1 (fun X r hX=>hbody X r hX (fun h=>by cases h)) hend
theorem CW.rangeFunc{P:Program}{Γ:ae}(ok:POk P){h0:List Blk}{s s':AS}{g:Operand}{ps:Array Tmp}{asg body:Code}{f:FuncId}{fi ca:List D}{d:D}{h2:List Blk}{e:Exit}(hg:bU (evalD Γ s.t g)=some (f,fi,ca))(hf:eA P f=true)
  (hc:Ev P Γ f (fi++[.ref (.yl (s.h.length+1))]++ca) (s.h++[.defd]++[.loop .ready none 0 s.t ps asg body]) d h2)
  (he:oU s.h.length s.t s.m h2=some (e,s')):CW P Γ h0 false (.rangeFunc g ps asg body) s e s':=by
 intro X r _ hr
 obtain rfl:=hr rfl
 exact VW.rangeFunc ok hg hf (hc.mono fun _ _ hq=>hq.2) he
def Ref.to(n:Nat):Ref→Ref
 | .ptr _ o=>.ptr n o
 | .vec _ e=>.vec n e
 | .vs _ e i k c=>.vs n e i k c
 | .av _ o k s=>.av n o k s
 | .vp _ e i j=>.vp n e i j
 | .mp _=>.mp n
 | .it _=>.it n
 | .yl _=>.yl n
def idx(x:Nat):Nat→List Nat→Option Nat
 | _,[]=>none
 | k,y::ys=>match x==y with
  | true=>some k
  | false=>idx x (k+1) ys
theorem fZ{x:Nat}:∀{ys:List Nat} {k i:Nat},idx x k ys=some i→k≤i∧ys[i - k]? = some x
 | [],k,i,h=>by simp[idx] at h
 | y::ys,k,i,h=>by
  unfold idx at h
  split at h
  ·rename_i e
   simp only[G0] at h
   subst h
   simp only[beq_iff_eq] at e
   subst e
   simp
  ·obtain⟨h1,h2⟩:=fZ h
   refine⟨by omega,?_⟩
   rw[show i - k=(i - (k+1))+1 by omega,I2]
   exact h2
theorem ph{x:Nat}:∀{ys:List Nat} {k:Nat},idx x k ys=none→x ∉ ys
 | [],k,_=>by simp
 | y::ys,k,h=>by
  unfold idx at h
  split at h
  ·simp at h
  ·rename_i e
   simp only[beq_eq_false_iff_ne,ne_eq] at e
   simp[e,ph h]
theorem tS{x:Nat}{ys:List Nat}{i:Nat}(hn:ys.Nodup)(h:ys[i]? = some x):idx x 0 ys=some i:=by
 cases hi:idx x 0 ys with
 | none=>exact absurd (HL h) (ph hi)
 | some j =>
  obtain⟨_,h2⟩:=fZ hi
  simp only[Ko] at h2
  have hj:=(G9.1 h2).1
  have hi':=(G9.1 h).1
  rw[HE hj] at h2
  rw[HE hi'] at h
  have:ys[j]=ys[i]:=by simp only[G0] at h h2;rw[h,h2]
  rw[(List.getElem_inj hn).1 this]
def inv(is:List Nat)(r:Ref):D:=match idx r.blk 0 is with
 | some i=>.ref (r.to i)
 | none=>.any
def fwd(is:List Nat)(m:Nat)(r:Ref):D:=match is[r.blk]? with
 | some i=>.ref (r.to i)
 | none=>.ref (r.to (m+(r.blk - is.length)))
def gh:Blk→Bool
 | .mit ..=>true
 | _=>false
section
variable {w:World} {av av':Nat→Prop} {l l':Loc} {h h':List Blk} {f:Ref→D}
mutual
theorem d9(ha:∀k,av' k→av k)(hf:∀r y,RefRel l h r y→Rel w av' l' h' (f r) y):∀{d:D} {y:Value},Rel w av l h d y→Rel w av' l' h' (Iu f d) y
 | .p _,_,r=>by simp only[Rel,Iu] at r ⊢;exact dl ha r
 | .any,_,_=>by simp[Rel,Iu]
 | .ref r,y,rr=>by simp only[Iu];exact hf r y (by simpa only [Rel] using rr)
 | .ep _,_,r=>by
  simp only[Rel,Iu] at r ⊢
  obtain⟨blk,off,r1,r2⟩:=r
  exact⟨blk,off,r1,al ha r2⟩
 | .csl _,_,r=>by
  simp only[Rel,Iu] at r ⊢
  rcases r with r|⟨blk,off,sz,r1,r2⟩
  ·exact .inl r
  ·exact .inr ⟨blk,off,sz,r1,bF ha r2⟩
 | .fn _ _ _,_,r=>by
  simp only[Rel,Iu] at r ⊢
  obtain⟨a,c,r1,r2,r3⟩:=r
  exact⟨a,c,r1,bz ha hf r2,bz ha hf r3⟩
 | .agg _,_,r=>by
  simp only[Rel,Iu] at r ⊢
  obtain⟨vs,r1,r2⟩:=r
  exact⟨vs,r1,bz ha hf r2⟩
 | .tup _,_,r=>by
  simp only[Rel,Iu] at r ⊢
  obtain⟨vs,r1,r2⟩:=r
  exact⟨vs,r1,bz ha hf r2⟩
 | .grd _ _,_,r=>by
  simp only[Rel,Iu] at r ⊢
  exact⟨fun hg=>d9 ha hf (r.1 hg),r.2⟩
theorem bz(ha:∀k,av' k→av k)(hf:∀r y,RefRel l h r y→Rel w av' l' h' (f r) y):∀{ds:List D} {ys:List Value},RelL w av l h ds ys→RelL w av' l' h' (HP f ds) ys
 | [],[],_=>by simp[RelL,HP]
 | [],_::_,r=>by simp[RelL] at r
 | _::_,[],r=>by simp[RelL] at r
 | _::_,_::_,r=>by
  simp only[RelL,HP] at r ⊢
  exact⟨d9 ha hf r.1,bz ha hf r.2⟩
end
theorem lT(ha:∀k,av' k→av k)(hf:∀r y,RefRel l h r y→Rel w av' l' h' (f r) y):∀{kvs:List (D×D×Nat)} {es:List MapEntry},RelKV w av l h kvs es →
  RelKV w av' l' h' (kvs.map fun e=>(Iu f e.1,Iu f e.2.1,e.2.2)) es
 | [],[],_=>by simp[RelKV]
 | [],_::_,r=>by simp[RelKV] at r
 | _::_,[],r=>by simp[RelKV] at r
 | (k,d,m)::kvs,e::es,r=>by
  simp only[RelKV,Il] at r ⊢
  exact⟨d9 ha hf r.1,d9 ha hf r.2.1,r.2.2.1,lT ha hf r.2.2.2⟩
theorem eN(ha:∀k,av' k→av k)(hf:∀r y,RefRel l h r y→Rel w av' l' h' (f r) y){b b':Nat}(hl:l' b'=l b){x:Blk}(hm:gh x=false)(r:BlkOk w av l h b x):BlkOk w av' l' h' b' (x.mapR f):=by
 cases x with
 | var cs =>
  obtain⟨blk,cp,c,T,r1,r2,r3⟩:=r
  exact⟨blk,cp,c,T,hl.trans r1,r2,bz ha hf r3⟩
 | vec es e sz =>
  unfold BlkOk at r ⊢
  simp only[Jc,hl] at r ⊢
  split
  ·rename_i h0;rw[h0] at r;simp only at r;rw[r];rfl
  ·rename_i blk cap h0
   rw[h0] at r
   obtain⟨oo,cc,rc,c,T,fr,ys,r1,r2,r3,r4,r5,r6,r7⟩:=r
   refine⟨oo,cc,rc,c,T,fr,ys,r1,r2,by simpa using r3,r4,?_,?_,r7⟩
   ·intro e he
    obtain⟨e0,he0,rfl⟩:=HS.1 he
    rw[fz];exact r5 e0 he0
   ·rw[←eJ];exact bz ha hf r6
 | map kvs clock =>
  obtain⟨blk,cp,es,r1,r2,r3⟩:=r
  exact⟨blk,cp,es,hl.trans r1,r2,lT ha hf r3⟩
 | sit s pos =>
  obtain⟨blk,cp,r1,r2⟩:=r
  exact⟨blk,cp,hl.trans r1,r2⟩
 | mit m since seen st=>simp[gh] at hm
 | loop st pend fn tmps params asg body =>
  obtain⟨blk,cp,ts,dr,fn',r1,r2,r3,r4⟩:=r
  exact⟨blk,cp,ts,dr,fn',hl.trans r1,r2,bz ha hf r3,r4⟩
 | defd =>
  obtain⟨blk,cp,r1,r2⟩:=r
  exact⟨blk,cp,hl.trans r1,r2⟩
 | gone=>trivial
end
theorem nH{f:Ref→D}(x:Blk):gh (x.mapR f)=gh x:=by cases x<;>rfl
theorem tT{f g:Ref→D}{x y:Blk}(h:(x.mapR f).le y):x.le (y.mapR g)∧(x.stays (y.mapR g)→(x.mapR f).stays y):=by
 cases x<;>cases y<;>simp only[Blk.le,Jc] at h<;>simp_all[Blk.le,Jc,Blk.stays]
theorem lU{l l':Loc}{h h':List Blk}{f:Ref→D}{r:Ref}{n:Nat}{x:Blk}{y:Value}(hx:h[r.blk]? = some x)(hx':h'[n]? = some (x.mapR f))(hl:l' n=l r.blk)(rr:RefRel l h r y):RefRel l' h' (r.to n) y:=by
 unfold RefRel at rr ⊢
 refine⟨rr.1,?_⟩
 have rr:=rr.2
 cases r<;>simp only[LH] at hx hl<;>simp only[hx] at rr<;>simp only[Ref.to,hx',hl]<;>cases x<;>simp[Jc] at rr ⊢ <;> exact rr
theorem eO{l:Loc}{h:List Blk}{r:Ref}{y:Value}(rr:RefRel l h r y):∃x,h[r.blk]? = some x:=by
 unfold RefRel at rr
 have rr:=rr.2
 cases hx:h[r.blk]? with
 | some x=>exact⟨x,rfl⟩
 | none=>cases r<;>simp only[LH] at hx<;>simp only[hx] at rr
def pick(is:List Nat)(H:List Blk):List Blk:=is.map fun i=>(H.getD i .gone).mapR (inv is)
theorem ku{is:List Nat}{H:List Blk}{b:Nat}{x:Blk}(h:(pick is H)[b]? = some x):∃i,is[b]? = some i∧x=(H.getD i .gone).mapR (inv is):=by
 unfold pick at h
 rw[IJ] at h
 cases hi:is[b]? with
 | none=>rw[hi] at h;simp at h
 | some i=>rw[hi] at h;exact⟨i,rfl,by simpa using h.symm⟩
section
variable {Γ:ae} {O:Nat→Prop} {w:World} {l:Loc} {H:List Blk} {is:List Nat}
def pi(is:List Nat)(l:Loc):Loc:=fun b=>match is[b]? with
 | some i=>l i
 | none=>none
theorem tU{k:Nat}(ho:own (pi is l) (pick is H) k):∃(b i cp:Nat) (x:Blk),is[b]? = some i∧H[i]? = some x∧x ≠ .gone∧l i=some (k,cp):=by
 obtain⟨b,x,cp,h1,h2,h3⟩:=ho
 obtain⟨i,hi,rfl⟩:=ku h1
 unfold pi at h3
 rw[hi] at h3
 have hg:H.getD i .gone ≠ .gone:=fun e=>h2 (by rw[e];rfl)
 refine⟨b,i,cp,H.getD i .gone,hi,?_,hg,h3⟩
 cases hx:H[i]? with
 | none=>simp[HC,hx] at hg
 | some x=>simp[HC,hx]
theorem cC{k:Nat}(ho:own (pi is l) (pick is H) k):own l H k:=by
 obtain⟨b,i,cp,x,_,h2,h3,h4⟩:=tU ho
 exact⟨i,x,cp,h2,h3,h4⟩
theorem nI(_hn:is.Nodup){r:Ref}{y:Value}(rr:RefRel l H r y){av:Nat→Prop}:Rel w av (pi is l) (pick is H) (inv is r) y:=by
 unfold inv
 cases hi:idx r.blk 0 is with
 | none=>simp[Rel]
 | some i =>
  obtain⟨_,h2⟩:=fZ hi
  simp only[Ko] at h2
  obtain⟨x,hx⟩:=eO rr
  simp only[Rel]
  refine lU (f:=inv is) hx ?_ ?_ rr
  ·unfold pick
   rw[IJ,h2]
   simp[HC,hx]
  ·unfold pi
   rw[h2]
theorem Rep.pick(R:Rep Γ O w l H)(hn:is.Nodup)(hm:(pick is H).all (fun x=>!gh x)=true){O':Nat→Prop}(hO:∀k,avs O' (pi is l) (Vi.pick is H) k→avs O l H k)(hO2:∀k,O' k→avs O l H k∧¬own (pi is l) (Vi.pick is H) k):
  Rep Γ O' w (pi is l) (Vi.pick is H) where
 inb k ho:=⟨(R.inb k (cC ho)).1,fun h'=>(hO2 k h').2 ho⟩
 obd k ho:=by
  rcases(hO2 k ho).1 with h'|h'
  ·exact R.obd k h'
  ·exact(R.inb k h').1
 inj b b' x x' k c c' h1 h2 h3 h4 h5 h6:=by
  obtain⟨i,hi,rfl⟩:=ku h1
  obtain⟨i',hi',rfl⟩:=ku h3
  unfold pi at h5 h6
  rw[hi] at h5;rw[hi'] at h6
  have g1:H.getD i .gone ≠ .gone:=fun e=>h2 (by rw[e];rfl)
  have g2:H.getD i' .gone ≠ .gone:=fun e=>h4 (by rw[e];rfl)
  have e1:H[i]? = some (H.getD i .gone):=by
   cases hx:H[i]? with
   | none=>simp[HC,hx] at g1
   | some x=>simp[HC,hx]
  have e2:H[i']? = some (H.getD i' .gone):=by
   cases hx:H[i']? with
   | none=>simp[HC,hx] at g2
   | some x=>simp[HC,hx]
  have:=R.inj i i' _ _ k c c' e1 g1 e2 g2 h5 h6
  subst this
  have a1:=tS hn hi
  have a2:=tS hn hi'
  rw[a1] at a2
  exact Jp a2
 blk b x h1:=by
  obtain⟨i,hi,rfl⟩:=ku h1
  cases hx:H[i]? with
  | none=>simp[HC,hx,Jc,BlkOk]
  | some x =>
   have hg:H.getD i .gone=x:=by simp[HC,hx]
   rw[hg] at h1 ⊢
   refine eN hO (fun r y rr=>nI hn rr) (b:=i) ?_ ?_ (R.blk i x hx)
   ·unfold pi;rw[hi]
   ·have:=Hs.1 hm _ (HL h1)
    rw[nH] at this
    simpa using this
 glo g cs hg:=al hO (R.glo g cs hg)
end
def eZ(is:List Nat)(m:Nat)(h':List Blk):Nat→List Blk→List Blk
 | _,[]=>[]
 | b,x::xs=>(match idx b 0 is with
  | some i=>(h'.getD i .gone).mapR (fwd is m)
  | none=>x)::eZ is m h' (b+1) xs
def nJ(is:List Nat)(h':List Blk)(H:List Blk):List Blk:=eZ is H.length h' 0 H++(h'.drop is.length).map (Jc (fwd is H.length))
theorem cj{is:List Nat}{m:Nat}{h':List Blk}:∀(b:Nat) (xs:List Blk),(eZ is m h' b xs).length=xs.length
 | _,[]=>rfl
 | b,x::xs=>by simp[eZ,cj (b+1) xs]
theorem jz{is:List Nat}{m:Nat}{h':List Blk}:∀(b:Nat) (xs:List Blk) (j:Nat),(eZ is m h' b xs)[j]? = (xs[j]?).map fun x=>match idx (b+j) 0 is with|some i=>(h'.getD i .gone).mapR (fwd is m)|none=>x
 | b,[],j=>by simp[eZ]
 | b,x::xs,0=>by simp[eZ]
 | b,x::xs,j+1=>by
  simp only[eZ,I2]
  rw[jz (b+1) xs j,show b+1+j=b+(j+1) by omega]
section
variable {is:List Nat} {h' H:List Blk}
theorem tV{b:Nat}{x:Blk}(hx:H[b]? = some x)(hi:idx b 0 is=none):(nJ is h' H)[b]? = some x:=by
 have hlt:=(G9.1 hx).1
 unfold nJ
 rw[HF (by rw[cj];exact hlt),jz,hx]
 simp[hi]
theorem sw{b i:Nat}{x:Blk}(hx:H[b]? = some x)(hi:idx b 0 is=some i):(nJ is h' H)[b]? = some ((h'.getD i .gone).mapR (fwd is H.length)):=by
 have hlt:=(G9.1 hx).1
 unfold nJ
 rw[HF (by rw[cj];exact hlt),jz,hx]
 simp[hi]
theorem tW{j:Nat}:(nJ is h' H)[H.length+j]? = (h'[is.length+j]?).map (Jc (fwd is H.length)):=by
 unfold nJ
 rw[HT (by rw[cj];omega),cj,IJ,List.getElem?_drop]
 simp
theorem putB_cases{b:Nat}{x:Blk}(h:(nJ is h' H)[b]? = some x):
  (idx b 0 is=none∧H[b]? = some x)∨(∃i,b<H.length∧idx b 0 is=some i∧x=(h'.getD i .gone).mapR (fwd is H.length))∨∃j y,b=H.length+j∧h'[is.length+j]? = some y∧x=y.mapR (fwd is H.length):=by
 by_cases hb:b<H.length
 ·have hx:H[b]? = some H[b]:=HE hb
  cases hi:idx b 0 is with
  | none=>rw[tV hx hi] at h;cases h;exact .inl ⟨rfl,hx⟩
  | some i=>rw[sw hx hi] at h;cases h;exact .inr (.inl ⟨i,hb,rfl,rfl⟩)
 ·obtain⟨j,rfl⟩:∃j,b=H.length+j:=⟨b - H.length,by omega⟩
  rw[tW] at h
  cases hy:h'[is.length+j]? with
  | none=>rw[hy] at h;simp at h
  | some y=>rw[hy] at h;exact .inr (.inr ⟨j,y,rfl,hy,by simpa using h.symm⟩)
end
def tX(is:List Nat)(m:Nat)(l l0:Loc):Loc:=fun b=>match idx b 0 is with
 | some i=>l0 i
 | none=>match Qd (b<m) with
  | true=>l b
  | false=>l0 (is.length+(b - m))
theorem Ev.frame{P:Program}{Γ:ae}{f:FuncId}{args0 args:List D}{h0 h0' H:List Blk}{d0:D}(is:List Nat)(he:Ev P Γ f args0 h0 d0 h0')(hn:is.Nodup)(hb:∀i∈is,i<H.length)
  (ha:HP (inv is) args=args0) (hh:pick is H=h0) (hm:(h0.all (fun x=>!gh x)&&h0'.all (fun x=>!gh x))=true) :
  Ev P Γ f args H (d0.mapR (fwd is H.length)) (nJ is h0' H):=by
 simp only[G6] at hm
 subst hh ha
 intro O w l vs R ra
 let O':Nat→Prop:=fun k=>avs O l H k∧¬own (pi is l) (pick is H) k
 have hO1:∀k,avs O' (pi is l) (pick is H) k→avs O l H k:=fun k ho=>ho.elim (·.1) (fun h=>.inr (cC h))
 have hO2:∀k,avs O l H k→avs O' (pi is l) (pick is H) k:=fun k ho=>by
  by_cases h:own (pi is l) (pick is H) k
  ·exact .inr h
  ·exact .inl ⟨ho,h⟩
 have R0:Rep Γ O' w (pi is l) (pick is H):=R.pick hn hm.1 hO1 (fun k h=>h)
 have ra0:RelL w (avs O' (pi is l) (pick is H)) (pi is l) (pick is H) (HP (inv is) args) vs:=bz hO1 (fun r y rr=>nI hn rr) ra
 refine IX (he O' w (pi is l) vs R0 ra0) ?_
 rintro e w' ⟨v,d2,h2,l',rfl,⟨rfl,rfl⟩,R',E',rd⟩
 have hlen:is.length≤h2.length:=by
  rcases Nat.lt_or_ge h2.length is.length with hlt|hge
  ·exfalso
   have hp:(pick is H)[h2.length]? ≠ none:=by
    unfold pick;rw[IJ];simp[hlt]
   cases hx:(pick is H)[h2.length]? with
   | none=>exact hp hx
   | some x =>
    obtain⟨x',h1,_⟩:=E'.keep _ x hx
    simp at h1
  ·exact hge
 have hisP:∀{b i:Nat},is[b]? = some i→∃x,H[i]? = some x∧(pick is H)[b]? = some (x.mapR (inv is)):=fun {b i} hi=>by
  have hlt:=hb i (HL hi)
  refine⟨H[i],HE hlt,?_⟩
  unfold pick
  rw[IJ,hi]
  simp[HC,HE hlt]
 have L1:∀{i b:Nat},is[i]? = some b→tX is H.length l l' b=l' i:=fun {i b} hi=>by
  unfold tX;rw[tS hn hi]
 have L2:∀{b:Nat},idx b 0 is=none→b<H.length→tX is H.length l l' b=l b:=fun {b} h1 h2=>by
  unfold tX;rw[h1];simp[h2]
 have L3:∀{j:Nat},tX is H.length l l' (H.length+j)=l' (is.length+j):=fun {j}=>by
  unfold tX
  have:idx (H.length+j) 0 is=none:=by
   cases hi:idx (H.length+j) 0 is with
   | none=>rfl
   | some i =>
    obtain⟨_,h2⟩:=fZ hi
    have:=hb _ (HL h2)
    omega
  rw[this]
  have:Qd (H.length+j<H.length)=false:=by simp
  simp only[this,show is.length+(H.length+j - H.length)=is.length+j by omega]
 have back:∀{b:Nat} {x:Blk},(nJ is h2 H)[b]? = some x→(idx b 0 is=none∧H[b]? = some x)∨∃i y,h2[i]? = some y∧x=y.mapR (fwd is H.length)∧tX is H.length l l' b=l' i∧(∀b' x',(nJ is h2 H)[b']? = some x'→(idx b' 0 is=none∧H[b']? = some x')∨∃i' y',h2[i']? = some y'∧x'=y'.mapR (fwd is H.length)∧tX is H.length l l' b'=l' i'∧(i=i'→b=b')):=by
  have one:∀{b:Nat} {x:Blk},(nJ is h2 H)[b]? = some x→(idx b 0 is=none∧H[b]? = some x)∨∃i y,h2[i]? = some y∧x=y.mapR (fwd is H.length)∧tX is H.length l l' b=l' i∧((i<is.length∧is[i]? = some b)∨(is.length≤i∧b=H.length+(i - is.length))):=by
   intro b x hx
   rcases putB_cases hx with h|⟨i,h1,h3,rfl⟩|⟨j,y,rfl,h3,rfl⟩
   ·exact .inl h
   ·obtain⟨_,h4⟩:=fZ h3
    simp only[Ko] at h4
    have hi:=(G9.1 h4).1
    have:h2[i]? = some (h2.getD i .gone):=by
     rw[HC,HE (by omega)];rfl
    exact .inr ⟨i,_,this,rfl,L1 h4,.inl ⟨hi,h4⟩⟩
   ·exact .inr ⟨_,y,h3,rfl,L3,.inr ⟨by omega,by omega⟩⟩
  intro b x hx
  rcases one hx with h|⟨i,y,h1,h3,h4,h5⟩
  ·exact .inl h
  ·refine .inr ⟨i,y,h1,h3,h4,fun b' x' hx'=>?_⟩
   rcases one hx' with h|⟨i',y',g1,g3,g4,g5⟩
   ·exact .inl h
   ·refine .inr ⟨i',y',g1,g3,g4,fun e=>?_⟩
    subst e
    rcases h5 with ⟨a1,a2⟩|⟨a1,a2⟩<;>rcases g5 with ⟨c1,c2⟩|⟨c1,c2⟩
    ·rw[a2] at c2;exact Jp c2
    ·omega
    ·omega
    ·omega
 have hgone:∀{y:Blk},y.mapR (fwd is H.length) ≠ .gone→y ≠ .gone:=fun {y} h e=>h (by rw[e];rfl)
 have oldO:∀{b:Nat} {x:Blk} {k c:Nat},idx b 0 is=none→H[b]? = some x→x ≠ .gone→l b=some (k,c)→O' k:=fun {b x k c} hi hx hg hl=>by
  refine⟨.inr ⟨b,x,c,hx,hg,hl⟩,fun ho=>?_⟩
  obtain⟨b',i,cp,x',q1,q2,q3,q4⟩:=tU ho
  have:=R.inj b i x x' k c cp hx hg q2 q3 hl q4
  subst this
  exact ph hi (HL q1)
 have ownL:∀{k:Nat},own (tX is H.length l l') (nJ is h2 H) k→own l' h2 k∨(own l H k∧O' k):=fun {k} ⟨b,x,cp,g1,g2,g3⟩=>by
  rcases back g1 with ⟨a1,a2⟩|⟨i,y,a1,a2,a3,_⟩
  ·have hlt:=(G9.1 a2).1
   rw[L2 a1 hlt] at g3
   exact .inr ⟨⟨b,x,cp,a2,g2,g3⟩,oldO a1 a2 g2 g3⟩
  ·rw[a3] at g3
   exact .inl ⟨i,y,cp,a1,hgone (a2▸g2),g3⟩
 have avL:∀k,avs O (tX is H.length l l') (nJ is h2 H) k→avs O' l' h2 k:=fun k ho=>by
  rcases ho with ho|ho
  ·refine .inl ⟨.inl ho,fun h=>(R.inb k (cC h)).2 ho⟩
  ·rcases ownL ho with h|h
   ·exact .inr h
   ·exact .inl h.2
 have hf:∀(r:Ref) (y:Value),RefRel l' h2 r y→Rel w' (avs O (tX is H.length l l') (nJ is h2 H)) (tX is H.length l l') (nJ is h2 H) (fwd is H.length r) y:=fun r y rr=>by
  obtain⟨x,hx⟩:=eO rr
  unfold fwd
  cases hi:is[r.blk]? with
  | some b =>
   simp only[Rel]
   obtain⟨x0,q1,_⟩:=hisP hi
   refine lU hx ?_ (L1 hi) rr (f:=fwd is H.length)
   rw[sw q1 (tS hn hi)]
   simp[HC,hx]
  | none =>
   simp only[Rel]
   have hge:is.length≤r.blk:=by simpa using hi
   refine lU hx ?_ ?_ rr (f:=fwd is H.length)
   ·rw[tW,show is.length+(r.blk - is.length)=r.blk by omega,hx];rfl
   ·rw[L3,show is.length+(r.blk - is.length)=r.blk by omega]
 have E:Ext w l H w' (tX is H.length l l') (nJ is h2 H):=by
  refine⟨E'.size,fun blk hlt hno=>E'.same blk hlt (fun ho=>hno (cC ho)),fun blk ho=>?_,fun b x hx=>?_,E'.tape⟩
  ·rcases ownL ho with h|h
   ·rcases E'.news blk h with h|h
    ·exact .inl (cC h)
    ·exact .inr h
   ·exact .inl h.1
  ·have hlt:=(G9.1 hx).1
   cases hi:idx b 0 is with
   | none=>exact⟨x,tV hx hi,x.le_refl,fun _=>L2 hi hlt⟩
   | some i =>
    obtain⟨_,h4⟩:=fZ hi
    simp only[Ko] at h4
    obtain⟨x0,q1,q2⟩:=hisP h4
    rw[hx] at q1;cases q1
    obtain⟨x',k1,k2,k3⟩:=E'.keep i _ q2
    have hgd:h2.getD i .gone=x':=by simp[HC,k1]
    refine⟨_,sw hx hi,?_,fun hs=>?_⟩
    ·rw[hgd];exact(tT k2).1
    ·rw[hgd] at hs
     rw[L1 h4,k3 ((tT k2).2 hs)]
     unfold pi;rw[h4]
 refine⟨v,_,_,_,rfl,⟨rfl,rfl⟩,⟨fun k ho=>?_,fun k ho=>Ja (R.obd k ho) E'.size,?_,fun b x hx=>?_,fun g cs hg=>?_⟩,E,?_⟩
 ·rcases ownL ho with h|h
  ·obtain⟨p1,p2⟩:=R'.inb k h
   refine⟨p1,fun hk=>p2 ⟨.inl hk,fun ho'=>(R.inb k (cC ho')).2 hk⟩⟩
  ·obtain⟨p1,p2⟩:=R.inb k h.1
   exact⟨Ja p1 E'.size,p2⟩
 ·intro b b' x x' k c c' g1 g2 g3 g4 g5 g6
  rcases back g1 with ⟨a1,a2⟩|⟨i,y,a1,a2,a3,a4⟩
  ·have hlt:=(G9.1 a2).1
   rw[L2 a1 hlt] at g5
   rcases back g3 with ⟨d1,d2⟩|⟨i',y',d1,d2,d3,_⟩
   ·have hlt':=(G9.1 d2).1
    rw[L2 d1 hlt'] at g6
    exact R.inj b b' x x' k c c' a2 g2 d2 g4 g5 g6
   ·rw[d3] at g6
    exact absurd (oldO a1 a2 g2 g5) (R'.inb k ⟨i',y',c',d1,hgone (d2▸g4),g6⟩).2
  ·rw[a3] at g5
   rcases a4 b' x' g3 with ⟨d1,d2⟩|⟨i',y',d1,d2,d3,d4⟩
   ·have hlt':=(G9.1 d2).1
    rw[L2 d1 hlt'] at g6
    exact absurd (oldO d1 d2 g4 g6) (R'.inb k ⟨i,y,c,a1,hgone (a2▸g2),g5⟩).2
   ·rw[d3] at g6
    exact d4 (R'.inj i i' y y' k c c' a1 (hgone (a2▸g2)) d1 (hgone (d2▸g4)) g5 g6)
 ·rcases back hx with ⟨a1,a2⟩|⟨i,y,a1,rfl,a3,_⟩
  ·have hlt:=(G9.1 a2).1
   by_cases hg:x=.gone
   ·subst hg;trivial
   refine BlkOk.ext E (L2 a1 hlt) (fun blk cp hl=>?_) (R.blk b x a2)
   exact E'.same blk (R.inb blk ⟨b,x,cp,a2,hg,hl⟩).1 (oldO a1 a2 hg hl).2
  ·refine eN avL hf a3 ?_ (R'.blk i y a1)
   have:=Hs.1 hm.2 y (HL a1)
   simpa using this
 ·exact Lf E.hc g 0 cs (R.glo g cs hg)
 ·exact d9 avL hf rd
def tY:List Nat→Bool
 | []=>true
 | x::xs=>!xh x xs&&tY xs
theorem nK:∀{xs:List Nat},tY xs=true→xs.Nodup
 | [],_=>Lv
 | x::xs,h=>by
  simp only[tY,G6,Bool.not_eq_true'] at h
  refine List.nodup_cons.2 ⟨fun hm=>?_,nK h.2⟩
  rw[eL.2 hm] at h
  simp at h
def z6(is:List Nat)(H:List Blk):List Nat→List Blk
 | []=>[]
 | i::js=>keepX (inv is) (H.getD i .gone)::z6 is H js
def Df(is:List Nat)(H:List Blk):List Nat→List Prop
 | []=>[]
 | i::js=>lC (inv is) (H.getD i .gone)++Df is H js
theorem tZ{is:List Nat}{H:List Blk}:∀{js:List Nat},AllP (Df is H js)→z6 is H js=js.map fun i=>(H.getD i .gone).mapR (inv is)
 | [],_=>rfl
 | i::js,h=>by
  obtain⟨h1,h2⟩:=Lh (ps:=lC (inv is) (H.getD i .gone)) h
  simp only[z6,Il,im h1,tZ h2]
def pj(is:List Nat)(m:Nat)(h':List Blk):Nat→List Blk→List Blk
 | _,[]=>[]
 | b,x::xs=>(match idx b 0 is with
  | some i=>keepX (fwd is m) (h'.getD i .gone)
  | none=>x)::pj is m h' (b+1) xs
def mapX(f:Ref→D):List Blk→List Blk
 | []=>[]
 | x::xs=>keepX f x::mapX f xs
def mapP(f:Ref→D):List Blk→List Prop
 | []=>[]
 | x::xs=>lC f x++mapP f xs
theorem xz{f:Ref→D}:∀{h:List Blk},AllP (mapP f h)→mapX f h=h.map (Jc f)
 | [],_=>rfl
 | x::xs,h=>by
  obtain⟨h1,h2⟩:=Lh (ps:=lC f x) h
  simp only[mapX,Il,im h1,xz h2]
theorem t3{f:Ref→D}:∀{h:List Blk} (i:Nat),AllP (mapP f h)→AllP (lC f (h.getD i .gone))
 | [],i,_=>by simp[lC,AllP]
 | x::xs,i,h=>by
  obtain⟨h1,h2⟩:=Lh (ps:=lC f x) h
  cases i with
  | zero=>exact h1
  | succ i=>simpa using t3 i h2
theorem qX{f:Ref→D}:∀{h:List Blk} (i:Nat),AllP (mapP f h)→AllP (mapP f (h.drop i))
 | [],i,_=>by simp[mapP,AllP]
 | x::xs,i,h=>by
  cases i with
  | zero=>exact h
  | succ i =>
   obtain⟨h1,h2⟩:=Lh (ps:=lC f x) h
   exact qX i h2
theorem nL{is:List Nat}{m:Nat}{h':List Blk}(hp:AllP (mapP (fwd is m) h')):∀(b:Nat) (xs:List Blk),pj is m h' b xs=eZ is m h' b xs
 | _,[]=>rfl
 | b,x::xs=>by
  simp only[pj,eZ,nL hp (b+1) xs]
  cases idx b 0 is with
  | none=>rfl
  | some i=>simp only[im (t3 i hp)]
def putX(is:List Nat)(h':List Blk)(H:List Blk):List Blk:=pj is H.length h' 0 H++mapX (fwd is H.length) (h'.drop is.length)
theorem Dg{is:List Nat}{h' H:List Blk}(hp:AllP (mapP (fwd is H.length) h')):putX is h' H=nJ is h' H:=by
 unfold putX nJ
 rw[nL hp,xz (qX _ hp)]
def xA(is:List Nat)(h0 h0' H:List Blk):Bool:=tY is&&is.all (fun i=>Qd (i<H.length))&&(h0.all (fun x=>!gh x)&&h0'.all (fun x=>!gh x))
theorem Ev.frameX{P:Program}{Γ:ae}{f:FuncId}{args0 args:List D}{h0 h0' H:List Blk}{d0:D}(is:List Nat)(he:Ev P Γ f args0 h0 d0 h0')(hk:xA is h0 h0' H=true)
  (ha:HP (inv is) args=args0) (hh:z6 is H is=h0) (p1:AllP (Df is H is)) (p2:AllP (mapP (fwd is H.length) h0')):Ev P Γ f args H (d0.mapR (fwd is H.length)) (putX is h0' H):=by
 simp only[xA,G6] at hk
 rw[Dg p2]
 refine Ev.frame is he (nK hk.1.1) (fun i hi=>?_) ha ?_ (by rw[hk.2.1,hk.2.2];rfl)
 ·have:=Hs.1 hk.1.2 i hi
  simpa using this
 ·rw[←hh,tZ p1];rfl
def fwd0(m:Nat)(r:Ref):D:=.ref (r.to (m+r.blk))
theorem xB(m:Nat):fwd [] m=fwd0 m:=by
 funext r;simp[fwd,fwd0]
theorem Ev.frameN{P:Program}{Γ:ae}{f:FuncId}{args:List D}{h0':List Blk}{d0:D}(he:Ev P Γ f args [] d0 h0')(hm:h0'.all (fun x=>!gh x)=true)
  (ha:Ld 0 args=true) (h:List Blk):Ev P Γ f args h (d0.mapR (fwd0 h.length)) (h++h0'.map (Jc (fwd0 h.length))):=by
 have hr:∀(f:Ref→D),(∀d,JO 0 d=true→Iu f d=d)∧∀ds,Ld 0 ds=true→HP f ds=ds:=fun f=>by
  refine⟨?_,?_⟩
  ·intro d
   refine D.rec (motive_1:=fun d=>JO 0 d=true→Iu f d=d) (motive_2:=fun ds=>Ld 0 ds=true→HP f ds=ds) ?_ ?_ ?_ ?_ ?_ ?_ ?_ ?_ ?_ ?_ ?_ d
   ·intros;rfl
   ·intros;rfl
   ·intro r h;cases r<;>simp[JO] at h
   ·intros;rfl
   ·intros;rfl
   ·intro g a b ih1 ih2 h;simp only[JO,G6] at h;simp only[Iu,ih1 h.1,ih2 h.2]
   ·intro cs ih h;simp only[JO] at h;simp only[Iu,ih h]
   ·intro cs ih h;simp only[JO] at h;simp only[Iu,ih h]
   ·intro g d ih h;simp only[JO] at h;simp only[Iu,ih h]
   ·intros;rfl
   ·intro d ds ih1 ih2 h;simp only[Ld,G6] at h;simp only[HP,ih1 h.1,ih2 h.2]
  ·intro ds
   refine D.rec_1 (motive_1:=fun d=>JO 0 d=true→Iu f d=d) (motive_2:=fun ds=>Ld 0 ds=true→HP f ds=ds) ?_ ?_ ?_ ?_ ?_ ?_ ?_ ?_ ?_ ?_ ?_ ds
   ·intros;rfl
   ·intros;rfl
   ·intro r h;cases r<;>simp[JO] at h
   ·intros;rfl
   ·intros;rfl
   ·intro g a b ih1 ih2 h;simp only[JO,G6] at h;simp only[Iu,ih1 h.1,ih2 h.2]
   ·intro cs ih h;simp only[JO] at h;simp only[Iu,ih h]
   ·intro cs ih h;simp only[JO] at h;simp only[Iu,ih h]
   ·intro g d ih h;simp only[JO] at h;simp only[Iu,ih h]
   ·intros;rfl
   ·intro d ds ih1 ih2 h;simp only[Ld,G6] at h;simp only[HP,ih1 h.1,ih2 h.2]
 have:=Ev.frame (H:=h) [] he Lv (by simp) ((hr _).2 args ha) rfl (by simpa using hm)
 rw[xB] at this
 have e:nJ [] h0' h=h++h0'.map (Jc (fwd0 h.length)):=by
  unfold nJ
  have:∀(b:Nat) (xs:List Blk),eZ [] h.length h0' b xs=xs:=by
   intro b xs
   induction xs generalizing b with
   | nil=>rfl
   | cons x xs ih=>simp[eZ,idx,ih]
  rw[this,xB]
  simp
 rw[e] at this
 exact this
def GLe(Γ Γ':ae):Prop:=∀g cs,Γ g=some cs→Γ' g=some cs
theorem GLe.none(Γ':ae):GLe (fun _=>Option.none) Γ':=fun _ _ h=>by simp at h
theorem Rep.less{Γ Γ':ae}{O:Nat→Prop}{w:World}{l:Loc}{h:List Blk}(hg:GLe Γ Γ')(R:Rep Γ' O w l h):Rep Γ O w l h :=
 ⟨R.inb,R.obd,R.inj,R.blk,fun g cs h=>R.glo g cs (hg g cs h)⟩
theorem Rep.more{Γ Γ':ae}{O:Nat→Prop}{w w':World}{l l':Loc}{h h':List Blk}(R:Rep Γ' O w l h)(E:Ext w l h w' l' h')(R':Rep Γ O w' l' h'):Rep Γ' O w' l' h' :=
 ⟨R'.inb,R'.obd,R'.inj,R'.blk,fun g cs hg=>Lf E.hc g 0 cs (R.glo g cs hg)⟩
theorem Ev.glob{P:Program}{Γ Γ':ae}(hg:GLe Γ Γ'){f:FuncId}{args:List D}{h h':List Blk}{d:D}(he:Ev P Γ f args h d h'):Ev P Γ' f args h d h':=by
 intro O w l vs R ra
 refine IX (he O w l vs (R.less hg) ra) ?_
 rintro e w' ⟨v,d2,h2,l',rfl,hq,R',E',rd⟩
 exact⟨v,d2,h2,l',rfl,hq,R.more E' R',E',rd⟩
theorem Ev.glob0{P:Program}{Γ':ae}{f:FuncId}{args:List D}{h h':List Blk}{d:D}(he:Ev P (fun _=>none) f args h d h'):Ev P Γ' f args h d h':=he.glob (GLe.none Γ')
mutual
def D.nilW:D→D
 | .p (.v (.slice none 0 0))=>.p (.sl [])
 | .agg cs=>.agg (D.nilWL cs)
 | .tup cs=>.tup (D.nilWL cs)
 | d=>d
def D.nilWL:List D→List D
 | []=>[]
 | d::ds=>D.nilW d::D.nilWL ds
end
mutual
theorem t4{w:World}{av:Nat→Prop}{l:Loc}{h:List Blk}:∀(d:D) (y:Value),Rel w av l h d y→Rel w av l h (D.nilW d) y
 | .p x,y,r=>by
  unfold D.nilW
  split
  ·rename_i hx
   simp only[D.p.injEq] at hx
   subst hx
   simp only[Rel,RelP] at r ⊢
   exact .inl ⟨trivial,none,0,r,fun _=>rfl⟩
  ·rename_i hx;cases hx
  ·rename_i hx;cases hx
  ·exact r
 | .agg cs,y,r=>by
  simp only[D.nilW,Rel] at r ⊢
  obtain⟨vs,r1,r2⟩:=r
  exact⟨vs,r1,iz cs vs.toList r2⟩
 | .tup cs,y,r=>by
  simp only[D.nilW,Rel] at r ⊢
  obtain⟨vs,r1,r2⟩:=r
  exact⟨vs,r1,iz cs vs.toList r2⟩
 | .any,_,r=>r
 | .ref _,_,r=>r
 | .ep _,_,r=>r
 | .csl _,_,r=>r
 | .fn _ _ _,_,r=>r
 | .grd _ _,_,r=>r
theorem iz{w:World}{av:Nat→Prop}{l:Loc}{h:List Blk}:∀(ds:List D) (ys:List Value),RelL w av l h ds ys→RelL w av l h (D.nilWL ds) ys
 | [],[],_=>trivial
 | [],_::_,r=>by simp[RelL] at r
 | _::_,[],r=>by simp[RelL] at r
 | d::ds,y::ys,r=>by
  simp only[RelL,D.nilWL] at r ⊢
  exact⟨t4 d y r.1,iz ds ys r.2⟩
end
theorem Ev.nilW{P:Program}{Γ:ae}{f:FuncId}{args:List D}{h h':List Blk}{d:D}(he:Ev P Γ f args h d h'):Ev P Γ f args h d.nilW h':=by
 intro O w l vs R ra
 refine IX (he O w l vs R ra) ?_
 rintro e w' ⟨v,d2,h2,l',rfl,⟨rfl,rfl⟩,R',E',rd⟩
 exact⟨v,_,_,l',rfl,⟨rfl,rfl⟩,R',E',t4 _ _ rd⟩
def ap(fn:Func):Code:=match fn.body with
 | some c=>c
 | none=>.skip
theorem Ev.of_cw{P:Program}{Γ:ae}{f:FuncId}{args:List D}{h h':List Blk}{fn:Func}{d:D}{e:Exit}{s:AS}(hf:P.funcs[f]? = some fn)(hb:fn.body.isSome=true)
  (hw:CW P Γ h false (ap fn) {t:=ba fn args,h:=h,m:=[]} e s) (hs:finF P h fn (some ((e,s,[]),[]))=some (d,h',[],[])):Ev P Γ f args h d h':=by
 cases hc:fn.body with
 | none=>rw[hc] at hb;simp at hb
 | some c =>
  unfold ap at hw
  rw[hc] at hw
  refine xy (r:=some ((e,s,[]),[])) (φ:=[]) hf hc ?_ hs trivial
  intro e1 s1 as1 φ1 h1 _
  simp only[G0,G4] at h1
  obtain⟨⟨rfl,rfl,_⟩,_⟩:=h1
  exact hw
def Ref.up(k:Nat):Ref→Ref
 | .vec b e=>.vec b (e+k)
 | .vs b e i n c=>.vs b (e+k) i n c
 | .vp b e i j=>.vp b (e+k) i j
 | r=>r
def Ref.dn(k:Nat):Ref→D
 | .vec b e=>match Qd (k≤e) with
  | true=>.ref (.vec b (e - k))
  | false=>.any
 | .vs b e i n c=>match Qd (k≤e) with
  | true=>.ref (.vs b (e - k) i n c)
  | false=>.any
 | .vp b e i j=>match Qd (k≤e) with
  | true=>.ref (.vp b (e - k) i j)
  | false=>.any
 | r=>.ref r
def upR(ks:List Nat)(r:Ref):D:=.ref (r.up (ks.getD r.blk 0))
def dnR(ks:List Nat)(r:Ref):D:=r.dn (ks.getD r.blk 0)
theorem Ref.up_blk(k:Nat)(r:Ref):(r.up k).blk=r.blk:=by cases r<;>rfl
theorem dn_up(ks:List Nat)(r:Ref):Iu (dnR ks) (upR ks r)=.ref r:=by
 simp only[upR,Iu,dnR,Ref.up_blk]
 cases r<;>simp[Ref.up,Ref.dn]
def Blk.up(k:Nat):Blk→Blk
 | .vec es e sz=>.vec es (e+k) sz
 | x=>x
def rP(ks:List Nat):Nat→List Blk→List Blk
 | _,[]=>[]
 | i,x::xs=>(x.mapR (upR ks)).up (ks.getD i 0)::rP ks (i+1) xs
theorem bN(ks:List Nat):∀(i:Nat) (h:List Blk) (j:Nat),(rP ks i h)[j]? = (h[j]?).map fun x=>(x.mapR (upR ks)).up (ks.getD (i+j) 0)
 | i,[],j=>by simp[rP]
 | i,x::xs,0=>by simp[rP]
 | i,x::xs,j+1=>by
  simp only[rP,I2]
  rw[bN ks (i+1) xs j,show i+1+j=i+(j+1) by omega]
mutual
theorem pk{f g:Ref→D}(h:∀r,Iu g (f r)=.ref r):∀d:D,Iu g (Iu f d)=d
 | .p _=>rfl
 | .any=>rfl
 | .ref r=>by simp only[Iu];exact h r
 | .ep _=>rfl
 | .csl _=>rfl
 | .fn _ a b=>by simp only[Iu];rw[ck h a,ck h b]
 | .agg cs=>by simp only[Iu];rw[ck h cs]
 | .tup cs=>by simp only[Iu];rw[ck h cs]
 | .grd _ d=>by simp only[Iu];rw[pk h d]
theorem ck{f g:Ref→D}(h:∀r,Iu g (f r)=.ref r):∀ds:List D,HP g (HP f ds)=ds
 | []=>rfl
 | d::ds=>by simp only[HP];rw[pk h d,ck h ds]
end
theorem Dh{f g:Ref→D}(h:∀r,Iu g (f r)=.ref r)(x:Blk):(x.mapR f).mapR g=x:=by
 cases x<;>simp only[Jc]
 ·rw[ck h]
 ·rename_i es e sz
  congr 1
  rw[Jz]
  have:(HP g ∘ HP f)=id:=by funext ds;exact ck h ds
  rw[this,List.map_id]
 ·rename_i kvs clock
  congr 1
  rw[Jz]
  have:((fun e:D×D×Nat=>(Iu g e.1,Iu g e.2.1,e.2.2)) ∘ fun e=>(Iu f e.1,Iu f e.2.1,e.2.2))=id:=by
   funext e;simp only[Function.comp,pk h,id]
  rw[this,List.map_id]
 ·rw[ck h]
theorem jA{k:Nat}{f:Ref→D}{x:Blk}:(x.mapR f).up k=.gone ↔ x=.gone:=by cases x<;>simp[Jc,Blk.up]
theorem t5{w:World}{av:Nat→Prop}{l:Loc}{h:List Blk}{b k:Nat}{x:Blk}:BlkOk w av l h b (x.up k) ↔ BlkOk w av l h b x:=by cases x<;>rfl
section
variable {l:Loc} {h:List Blk} {ks:List Nat} {w:World} {av:Nat→Prop} {y:Value}
theorem nM{k:Nat}:own l (rP ks 0 h) k ↔ own l h k:=by
 constructor
 ·rintro⟨b,x,cp,h1,h2,h3⟩
  rw[bN] at h1
  cases hx:h[b]? with
  | none=>rw[hx] at h1;simp at h1
  | some z =>
   rw[hx] at h1
   simp only[HD,G0] at h1
   subst h1
   exact⟨b,z,cp,hx,fun e=>h2 (jA.2 e),h3⟩
 ·rintro⟨b,x,cp,h1,h2,h3⟩
  exact⟨b,(x.mapR (upR ks)).up (ks.getD (0+b) 0),cp,by rw[bN,h1];rfl,fun e=>h2 (jA.1 e),h3⟩
theorem lV{O:Nat→Prop}{k:Nat}:avs O l (rP ks 0 h) k ↔ avs O l h k:=or_congr Iff.rfl nM
theorem Cb{r:Ref}(rr:RefRel l (rP ks 0 h) r y):Rel w av l h (dnR ks r) y:=by
 obtain⟨x,hx⟩:=eO rr
 rw[bN] at hx
 cases hz:h[r.blk]? with
 | none=>rw[hz] at hx;simp at hx
 | some z =>
  have key:(rP ks 0 h)[r.blk]? = some ((z.mapR (upR ks)).up (ks.getD r.blk 0)):=by rw[bN,hz];simp
  unfold RefRel at rr
  obtain⟨h1,rr⟩:=rr
  unfold dnR
  generalize ks.getD r.blk 0=k at key ⊢
  cases r with
  | vec b e =>
   simp only[LH] at hz key
   simp only[key] at rr
   simp only[Ref.dn]
   cases z<;>simp only[Jc,Blk.up] at rr
   ·split
    ·rename_i hk
     simp only[decide_eq_true_eq] at hk
     simp only[Rel]
     unfold RefRel
     simp only[hz]
     exact⟨h1,by omega,fun e=>by simpa using rr.2 (by omega)⟩
    ·simp[Rel]
   ·split
    ·simp only[Rel]
     unfold RefRel
     simp only[hz]
     exact⟨h1,trivial⟩
    ·simp[Rel]
  | vs b e i n c =>
   simp only[LH] at hz key
   simp only[key] at rr
   simp only[Ref.dn]
   cases z<;>simp only[Jc,Blk.up] at rr
   ·split
    ·rename_i hk
     simp only[decide_eq_true_eq] at hk
     simp only[Rel]
     unfold RefRel
     simp only[hz]
     exact⟨h1,by omega,fun e=>by simpa using rr.2 (by omega)⟩
    ·simp[Rel]
   ·split
    ·simp only[Rel]
     unfold RefRel
     simp only[hz]
     exact⟨h1,trivial⟩
    ·simp[Rel]
  | vp b e i j =>
   simp only[LH] at hz key
   simp only[key] at rr
   simp only[Ref.dn]
   cases z<;>simp only[Jc,Blk.up] at rr
   ·split
    ·rename_i hk
     simp only[decide_eq_true_eq] at hk
     simp only[Rel]
     unfold RefRel
     simp only[hz]
     exact⟨h1,by omega,fun e=>by simpa using rr.2 (by omega)⟩
    ·simp[Rel]
   ·split
    ·simp only[Rel]
     unfold RefRel
     simp only[hz]
     exact⟨h1,trivial⟩
    ·simp[Rel]
  | _ =>
   simp only[LH] at hz key
   simp only[key] at rr
   simp only[Ref.dn,Rel]
   unfold RefRel
   simp only[hz]
   refine⟨h1,?_⟩
   cases z<;>simp only[Jc,Blk.up] at rr<;>exact rr
theorem Cc{r:Ref}(rr:RefRel l h r y):Rel w av l (rP ks 0 h) (upR ks r) y:=by
 obtain⟨z,hz⟩:=eO rr
 have key:(rP ks 0 h)[r.blk]? = some ((z.mapR (upR ks)).up (ks.getD r.blk 0)):=by rw[bN,hz];simp
 unfold RefRel at rr
 obtain⟨h1,rr⟩:=rr
 unfold upR
 simp only[Rel]
 generalize ks.getD r.blk 0=k at key ⊢
 unfold RefRel
 refine⟨h1,?_⟩
 cases r<;>simp only[LH] at hz key<;>simp only[hz] at rr<;>simp only[Ref.up,key]<;>cases z<;>simp only[Jc,Blk.up]<;>simp only at rr <;>
  first
  | exact rr
  | exact⟨by omega,fun e=>by simpa using rr.2 (by omega)⟩
end
theorem le_up{f g:Ref→D}{k:Nat}{x y:Blk}(h:x.le y):((x.mapR f).up k).le ((y.mapR g).up k)∧(((x.mapR f).up k).stays ((y.mapR g).up k)→x.stays y):=by
 cases x<;>cases y<;>simp only[Blk.le] at h<;>simp_all[Blk.le,Jc,Blk.stays,Blk.up]
theorem Ev.up{P:Program}{Γ:ae}{f:FuncId}{args:List D}{h h':List Blk}{d:D}(ks:List Nat)(he:Ev P Γ f args h d h')(hm:(h.all (fun x=>!gh x)&&h'.all (fun x=>!gh x))=true):
  Ev P Γ f (HP (upR ks) args) (rP ks 0 h) (d.mapR (upR ks)) (rP ks 0 h'):=by
 simp only[G6] at hm
 intro O w l vs R ra
 have hO:∀k,avs O l h k→avs O l (rP ks 0 h) k:=fun k=>lV.2
 have R0:Rep Γ O w l h:=by
  refine⟨fun k ho=>R.inb k (nM.2 ho),R.obd,fun b b' x x' k c c' h1 h2 h3 h4 h5 h6=>?_,fun b x hx=>?_,fun g cs hg=>al (fun k hk=>lV.2 hk) (R.glo g cs hg)⟩
  ·exact R.inj b b' _ _ k c c' (by rw[bN,h1];rfl) (fun e=>h2 (jA.1 e)) (by rw[bN,h3];rfl) (fun e=>h4 (jA.1 e)) h5 h6
  ·have hb:=t5.1 (R.blk b ((x.mapR (upR ks)).up (ks.getD (0+b) 0)) (by rw[bN,hx];rfl))
   have:=eN (l':=l) (h':=h) (b':=b) (f:=dnR ks) (fun k hk=>lV.2 hk) (fun r y rr=>Cb rr) rfl (by
    have:=Hs.1 hm.1 x (HL hx)
    rw[nH];simpa using this) hb
   rw[Dh (dn_up ks)] at this
   exact this
 have ra0:RelL w (avs O l h) l h args vs:=by
  have:=bz (av':=avs O l h) (l':=l) (h':=h) (f:=dnR ks) (fun k hk=>lV.2 hk) (fun r y rr=>Cb rr) ra
  rw[ck (dn_up ks)] at this
  exact this
 refine IX (he O w l vs R0 ra0) ?_
 rintro e w' ⟨v,d2,h2,l',rfl,⟨rfl,rfl⟩,R',E',rd⟩
 refine⟨v,_,_,l',rfl,⟨rfl,rfl⟩,⟨fun k ho=>R'.inb k (nM.1 ho),R'.obd,fun b b' x x' k c c' h1 h2' h3 h4 h5 h6=>?_,fun b x hx=>?_,fun g cs hg=>al (fun k hk=>lV.1 hk) (R'.glo g cs hg)⟩,
  ⟨E'.size,fun blk hlt hno=>E'.same blk hlt (fun ho=>hno (nM.2 ho)),fun blk ho=>(E'.news blk (nM.1 ho)).imp nM.2 id,fun b x hx=>?_,E'.tape⟩,?_⟩
 ·rw[bN] at h1 h3
  cases hx:h2[b]? with
  | none=>rw[hx] at h1;simp at h1
  | some z =>
   cases hx':h2[b']? with
   | none=>rw[hx'] at h3;simp at h3
   | some z' =>
    rw[hx] at h1;rw[hx'] at h3
    simp only[HD,G0] at h1 h3
    subst h1;subst h3
    exact R'.inj b b' z z' k c c' hx (fun e=>h2' (jA.2 e)) hx' (fun e=>h4 (jA.2 e)) h5 h6
 ·rw[bN] at hx
  cases hz:h2[b]? with
  | none=>rw[hz] at hx;simp at hx
  | some z =>
   rw[hz] at hx
   simp only[HD,G0] at hx
   subst hx
   refine t5.2 (eN (l':=l') (b':=b) (fun k hk=>lV.1 hk) (fun r y rr=>Cc rr) rfl ?_ (R'.blk b z hz))
   have:=Hs.1 hm.2 z (HL hz)
   simpa using this
 ·rw[bN] at hx
  cases hz:h[b]? with
  | none=>rw[hz] at hx;simp at hx
  | some z =>
   rw[hz] at hx
   simp only[HD,G0] at hx
   subst hx
   obtain⟨x',k1,k2,k3⟩:=E'.keep b z hz
   obtain⟨g1,g2⟩:=le_up (f:=upR ks) (g:=upR ks) (k:=ks.getD (0+b) 0) k2
   exact⟨_,by rw[bN,k1];rfl,g1,fun hs=>k3 (g2 hs)⟩
 ·exact d9 (fun k hk=>lV.1 hk) (fun r y rr=>Cc rr) rd
def upHX(ks:List Nat):Nat→List Blk→List Blk
 | _,[]=>[]
 | i,x::xs=>(keepX (upR ks) x).up (ks.getD i 0)::upHX ks (i+1) xs
theorem sx{ks:List Nat}:∀{i:Nat} {h:List Blk},AllP (mapP (upR ks) h)→upHX ks i h=rP ks i h
 | _,[],_=>rfl
 | i,x::xs,hp=>by
  obtain⟨h1,h2⟩:=Lh (ps:=lC (upR ks) x) hp
  simp only[upHX,rP,im h1,sx h2]
theorem Ev.upX{P:Program}{Γ:ae}{f:FuncId}{args:List D}{h h':List Blk}{d:D}(ks:List Nat)(he:Ev P Γ f args h d h')(hm:(h.all (fun x=>!gh x)&&h'.all (fun x=>!gh x))=true)(p1:AllP (mapP (upR ks) h))(p2:AllP (mapP (upR ks) h')):
  Ev P Γ f (HP (upR ks) args) (upHX ks 0 h) (d.mapR (upR ks)) (upHX ks 0 h'):=by
 rw[sx p1,sx p2];exact Ev.up ks he hm
def hB(pre:List Blk)(R:List (List D))(more:List Blk):List Blk:=pre++(.vec R 0 1::more)
def sameBlk:Blk→Blk→Bool
 | .var a,.var b=>ij a b
 | .vec a e s,.vec b e' s'=>sameLL a b&&(Qd (e=e')&&Qd (s=s'))
 | .map a c,.map b c'=>sameKV a b&&Qd (c=c')
 | .gone,.gone=>true
 | .defd,.defd=>true
 | .mit (some a) b c d,.mit (some a') b' c' d'=>(Qd (a=a')&&Qd (b=b'))&&(Qd (c=c')&&Qd (d=d'))
 | .mit none b c d,.mit none b' c' d'=>Qd (b=b')&&(Qd (c=c')&&Qd (d=d'))
 | _,_=>false
where
 sameLL:List (List D)→List (List D)→Bool
  | [],[]=>true
  | a::as,b::bs=>ij a b&&sameLL as bs
  | _,_=>false
 sameKV:List (D×D×Nat)→List (D×D×Nat)→Bool
  | [],[]=>true
  | (k,d,n)::as,(k',d',n')::bs=>(sameD k k'&&sameD d d')&&(Qd (n=n')&&sameKV as bs)
  | _,_=>false
def sy:List Blk→List Blk→Bool
 | [],[]=>true
 | a::as,b::bs=>sameBlk a b&&sy as bs
 | _,_=>false
theorem qY:∀{a b:List (List D)},sameBlk.sameLL a b=true→a=b
 | [],[],_=>rfl
 | a::as,b::bs,h=>by simp only[sameBlk.sameLL,G6] at h;rw[sameL_eq h.1,qY h.2]
 | [],_::_,h=>by simp[sameBlk.sameLL] at h
 | _::_,[],h=>by simp[sameBlk.sameLL] at h
theorem qZ:∀{a b:List (D×D×Nat)},sameBlk.sameKV a b=true→a=b
 | [],[],_=>rfl
 | (k,d,n)::as,(k',d',n')::bs,h=>by
  simp only[sameBlk.sameKV,G6,decide_eq_true_eq] at h
  rw[fV h.1.1,fV h.1.2,h.2.1,qZ h.2.2]
 | [],_::_,h=>by simp[sameBlk.sameKV] at h
 | _::_,[],h=>by simp[sameBlk.sameKV] at h
theorem vD{a b:Blk}(h:sameBlk a b=true):a=b:=by
 unfold sameBlk at h
 split at h
 ·rw[sameL_eq h]
 ·simp only[G6,decide_eq_true_eq] at h;rw[qY h.1,h.2.1,h.2.2]
 ·simp only[G6,decide_eq_true_eq] at h;rw[qZ h.1,h.2]
 ·rfl
 ·rfl
 ·simp only[G6,decide_eq_true_eq] at h;rw[h.1.1,h.1.2,h.2.1,h.2.2]
 ·simp only[G6,decide_eq_true_eq] at h;rw[h.1,h.2.1,h.2.2]
 ·cases h
theorem pm:∀{a b:List Blk},sy a b=true→a=b
 | [],[],_=>rfl
 | a::as,b::bs,h=>by simp only[sy,G6] at h;rw[vD h.1,pm h.2]
 | [],_::_,h=>by simp[sy] at h
 | _::_,[],h=>by simp[sy] at h
structure Memo where
 f:FuncId
 args:List D
 h:List Blk
 r:CR
def Memo.hit(m:Memo)(f:FuncId)(args:List D)(h:List Blk):Bool:=match Nat.beq m.f f with
 | true=>match ij m.args args with
  | true=>sy m.h h
  | false=>false
 | false=>false
def xC:List Memo→FnF
 | [],_,_,_=>none
 | m::ms,f,args,h=>match m.hit f args h with
  | true=>some m.r
  | false=>xC ms f args h
def Memo.Ok(P:Program)(Γ:ae)(m:Memo):Prop:=eA P m.f=true∧VRes P Γ m.f m.args m.h m.r
def sA(P:Program)(Γ:ae):List Memo→Prop
 | []=>True
 | m::ms=>m.Ok P Γ∧sA P Γ ms
theorem Memo.hit_eq{m:Memo}{f:FuncId}{args:List D}{h:List Blk}(hh:m.hit f args h=true):m.f=f∧m.args=args∧m.h=h:=by
 unfold Memo.hit at hh
 split at hh
 ·rename_i h1
  split at hh
  ·rename_i h2
   exact⟨M5 h1,sameL_eq h2,pm hh⟩
  ·cases hh
 ·cases hh
theorem t6{P:Program}{Γ:ae}:∀{ms:List Memo},sA P Γ ms→FnOk P Γ (xC ms)
 | [],_,_,_,_,_,h=>by simp[xC] at h
 | m::ms,hm,f,args,h,r,hw=>by
  simp only[xC] at hw
  split at hw
  ·rename_i hh
   obtain⟨rfl,rfl,rfl⟩:=Memo.hit_eq hh
   cases hw
   exact hm.1
  ·exact t6 hm.2 _ _ _ _ hw
def xD:CR→CR→Bool
 | .ret d h,.ret d' h'=>sameD d d'&&sy h h'
 | _,_=>false
theorem xE{a b:CR}(h:xD a b=true):a=b:=by
 unfold xD at h
 split at h
 ·simp only[G6] at h;rw[fV h.1,pm h.2]
 ·cases h
def Memo.runs(P:Program)(Γ:ae)(ms:List Memo)(m:Memo):Bool:=match eA P m.f,mR P Γ (xC ms) 100000 m.f m.args m.h with
 | true,some r=>xD r m.r
 | _,_=>false
theorem Memo.ok_of{P:Program}{Γ:ae}(ok:POk P){ms:List Memo}{m:Memo}(hr:m.runs P Γ ms=true)(hm:sA P Γ ms):m.Ok P Γ:=by
 unfold Memo.runs at hr
 split at hr
 ·rename_i r h1 h2
  refine⟨h1,?_⟩
  rw[←xE hr]
  exact VRes.of_run ok (t6 hm) h2
 ·cases hr
theorem Memo.call{P:Program}{Γ:ae}{m:Memo}{d:D}{h':List Blk}(hm:m.Ok P Γ)(hr:m.r=.ret d h'):VCall P Γ m.f m.args m.h fun d2 h2=>d2=d∧h2=h':=by
 have:=hm.2
 rw[hr] at this
 exact this.call
section
variable {P:Program} {Γ:ae}
theorem TopW.deferH(_ok:POk P){call:CallX}(hc:call.Ok P Γ){id:Nat}{ops:Array Oper}{d:Code}{s s':AS}{e:Exit}{os:List Oper}{o:Oper}(h0:ops.toList=os++[o]){fv:Operand}{args:Array Operand}{ats:Array TypeId}
  (ho:o.op=.defer {callee:=.value fv,args,argTypes:=ats}) (hg:o.guard=none) (hdst:o.dst=none) (hm:s.m=[]) {t1:List D} {h1:List Blk} (hr:a8 P Γ call [] ops.toList os s.t s.h=some (.normal,t1,h1))
  {f:FuncId} {fi ca:List D} (hcal:bU (evalD Γ t1 fv)=some (f,fi,ca))
  (hrest:CW P Γ h1 false d {t:=t1,h:=h1,m:=[]} e s') :
  TopW P Γ (.seq (.region id ops false) d) s e s' (some (f,fi++args.toList.map (evalD Γ t1)++ca)):=by
 intro O w0 l0 hh0 a w hs
 have hlen:ops.size=os.length+1:=by rw[←IK,h0];simp
 have hrange:List.range ops.size=List.range' 0 os.length++[os.length]:=by rw[hlen,List.range_succ,List.range_eq_range']
 have ho0:ops[os.length]? = some o:=by rw[←H0,h0];simp
 refine wpIn_seq (wpIn_region ?_)
 rw[hrange]
 have hs2:St Γ {O:=O,w:=w0,l:=l0,h:=hh0} {t:=s.t,h:=s.h,m:=[]} a w:=by rw[←hm];exact hs
 refine gE (r:=none) (X:={O:=O,w:=w0,l:=l0,h:=hh0}) hc (tail:=[os.length]) (fun _ a w hs=>?_) (fun c he=>by cases he) os 0 s.t s.h [o] (by simpa using h0) hr a w hs2
 obtain⟨l,R,E,rt,rd⟩:=hs
 have hdef:a.defers=[]:=rd
 simp only[wpOpsIn,ho0]
 have hw:HX o (yielded ops a.tmps)=true:=by unfold HX;rw[hg]
 rw[if_pos hw]
 obtain⟨a0,c0,e0,r1,r2⟩:=bX (aA R rt fv) hcal
 refine⟨fun _ _=>trivial,?_⟩
 have e0':(FW none).round=none:=rfl
 rw[e0',Oper.semAt_none]
 have e1:(execOp a.eval o).run P w=.ok (.defer {target:=.fn (.func f) c0,args:=a0++args.map a.eval}) w:=by
  unfold execOp
  rw[ho]
  simp only[resolve,e0,H5,Hp,HH,Hk]
 rw[e1,Oper.uponIn_defer,hdst]
 simp only[Act.put,Exit.then]
 have hD:w7 w O l h1 (f,fi++args.toList.map (evalD Γ t1)++ca) {target:=.fn (.func f) c0,args:=a0++args.map a.eval}:=by
  refine⟨_,_,rfl,?_⟩
  simp only[JE]
  refine aM (aM r1 ?_) r2
  have:=cH R rt args.toList
  simpa using this
 refine wpIn_mono (hrest {O:=O,w:=w,l:=l,h:=h1,D:=[{target:=.fn (.func f) c0,args:=a0++args.map a.eval}]} none rfl (fun _=>rfl) _ w ⟨l,R,Ext.refl _ _ _,rt,by simp[DefOk,hdef]⟩) ?_
 rintro e1 a1 w1 ⟨k1,s1,⟨rfl,rfl⟩,k2⟩
 exact⟨rfl,k1,_,w,l,h1,E,hD,k2⟩
theorem CW.seq{h0:List Blk}{rd:Bool}{c d:Code}{s s1 s':AS}{e:Exit}(h1:CW P Γ h0 rd c s .normal s1)(h2:CW P Γ h0 rd d s1 e s'):CW P Γ h0 rd (.seq c d) s e s':=fun X r hX hr =>
 VW.seq ((h1 X r hX hr).mono fun e2 s2 hq=>by
  obtain⟨rfl,rfl⟩:=hq
  exact h2 X r hX hr)
theorem CW.out{h0:List Blk}{rd:Bool}{c d:Code}{s s':AS}{e:Exit}(he:e ≠ .normal)(h1:CW P Γ h0 rd c s e s'):CW P Γ h0 rd (.seq c d) s e s':=fun X r hX hr =>
 VW.seq ((h1 X r hX hr).mono fun e2 s2 hq=>by
  obtain⟨rfl,rfl⟩:=hq
  cases e2 with
  | normal=>exact absurd rfl he
  | _=>exact⟨rfl,rfl⟩)
theorem CW.regionX{h0:List Blk}{rd:Bool}{call:CallX}(hc:call.Ok P Γ){s:AS}{id:Nat}{ops:Array Oper}{e:Exit}{t':List D}{h':List Blk}
  (hr:a8 P Γ call s.m ops.toList ops.toList s.t s.h=some (e,t',h')):CW P Γ h0 rd (.region id ops false) s e {t:=t',h:=h',m:=s.m}:=fun _ _ _ _=>VW.regionX hc hr ⟨rfl,rfl⟩
end
theorem sB{F:Fence}{n:Nat}{P:Program}{l:Nat}{f:FuncId}{fn:Func}{tmps:Array Value}{assign body:Code}{w:World}{R:Ending→World→Prop}(hF:F.fn f)(hf:P.funcs[f]? = some fn)
  (h:assign.wpIn (F.inRound l) n P (Exit.then (fun a₁ w₁=>∃w₂,(Instr.beginRound l).run P w₁=.ok () w₂∧body.wpIn (F.inRound l) n P (fun e a w'=>∃c,e=.panic c∧a.defers=[]∧R (.panicked c) w') a₁ w₂) (fun _ _ _=>False))
   {tmps:=tmps,defers:=[]} w) :
  RoundIn F n P l f tmps assign body w R:=by
 refine⟨hF,fun c cs hr=>?_⟩
 let b:Frame:={ (default:Frame) with fn:=f,kind:=.normal,roundOf:=some l}
 have hb0:Frame.round l f tmps assign body .normal=b.atR {tmps:=tmps,defers:=[]} [.code assign,.beginRound,.code body]:=by
  simp[Frame.round,Frame.atR,b]
 have hr':(F.inRound l).room ((c::cs).length+1+n):=hr
 have hF':(F.inRound l).fn b.fn:=hF
 obtain⟨e,a₁,w₁,hq,harr⟩:=h b [.beginRound,.code body] (c::cs) rfl hF' hr'
 rw[←hb0] at harr
 cases e with
 | normal =>
  obtain⟨w₂,hbr,hbody⟩:=hq
  have s1:StepsIn (Mc P (F.inRound l)) P (lone (b.atR a₁ [.beginRound,.code body]) (c::cs) w₁) (lone (b.atR a₁ [.code body]) (c::cs) w₂) :=
   .one (fenced_calm (fr:=b.atR a₁ [.beginRound,.code body]) hF' hr' rfl) (stepR_beginRound rfl hbr)
  obtain⟨e₂,a₂,w₃,hq₂,harr₂⟩:=hbody b [] (c::cs) rfl hF' hr'
  obtain⟨ch,rfl,hd,hR⟩:=hq₂
  obtain⟨todo,hs⟩:=harr₂
  have hl:({b.atR a₂ todo with mode:=.panicking ch}:Frame).leaving P w₃ (.panicked ch):=⟨rfl,hd,fn,hf⟩
  refine⟨.panicked ch,w₃,hR,(Ka harr s1).trans (Ka hs (.one (fenced_leaving (F:=F.inRound l) (n:=n) hF' hr' hl) ?_))⟩
  exact step_leave_panicked hl
 | exit id=>exact hq.elim
 | goto t=>exact hq.elim
 | ret=>exact hq.elim
 | panic chain=>exact hq.elim
 | outgrown=>exact hq.elim
section
variable {P:Program} {Γ:ae}
theorem xF{b:Nat}{args:List D}{h h1:List Blk}{pend:Option Code}{f:FuncId}{fn:Func}{ts:List D}{ps:Array Tmp}{asg body:Code}{t1:List D}{p1:Option Code}{f1:FuncId}{ts1:List D}{ps1:Array Tmp}
  {a1 b1:Code} {c:List PanicEntry} {s2:AS} (hb:h[b]? = some (.loop .ready pend f ts ps asg body)) (hf0:f ≠ 0) (hfn:P.funcs[f]? = some fn) (hlen:args.length=ps.size)
  (hasg:CW P Γ h true asg {t:=dI ts (ps.toList.zip args),h:=h,m:=[]} .normal {t:=t1,h:=h1,m:=[]})
  (hb1:h1[b]? = some (.loop .ready p1 f1 ts1 ps1 a1 b1))
  (hbody:CW P Γ h true body {t:=t1,h:=h1.set b (.loop .busy p1 f1 ts1 ps1 a1 b1),m:=[]} (.panic c) s2) (hm:s2.m=[]):VInvP P Γ (.ref (.yl b)) args h fun c2 h2=>c2=c∧h2=s2.h:=by
 intro O w l y vs R rx ra r o a next Q' hn
 simp only[Rel,RefRel,hb] at rx
 obtain⟨_,blk,cp,hl,rfl⟩:=rx
 obtain⟨rec,g1,g2,g3,g4,g5,g6,g7,gf,_⟩:=jq R hb hl
 have hrf:rec.fn=f:=gf.resolve_left hf0
 have hlv:=dm _ _ ra
 have e1:(do let d ←H5 (.func (.yield blk) #[] #[]) vs.toArray;invoke d.target d.args:Sem Next).run P w =
   .ok (.round blk rec.fn ((rec.params.zip vs.toArray).foldl (fun tmps (p:Tmp×Value)=>tmps.setIfInBounds p.1 p.2) rec.tmps) rec.assign rec.body) w:=by
  have hsz:vs.length=rec.params.size:=by rw[g4,←hlen,hlv]
  simp only[H5,Hp,HH,Hk,invoke,Instr.yield,cA (P:=P) g1,Array.empty_append]
  simp[hsz]
 rw[e1]
 refine⟨fun h=>by simp[Fence.wide] at h,?_⟩
 rw[g5,g6,g4]
 refine sB (F:=FW r) (fn:=fn) trivial (by rw[hrf];exact hfn) ?_
 have st0:St Γ {O:=O,w:=w,l:=l,h:=h} {t:=dI ts (ps.toList.zip args),h:=h,m:=[]}
   {tmps:=(ps.zip vs.toArray).foldl (fun tmps (p:Tmp×Value)=>tmps.setIfInBounds p.1 p.2) rec.tmps,defers:=[]} w:=by
  refine⟨l,R,Ext.refl _ _ _,?_,by simp[DefOk]⟩
  have:=gH (w:=w) (l:=l) (h:=h) (av:=avs O l h) ps.toList args vs ts rec.tmps ra g7
  rw[←Array.foldl_toList]
  simpa using this
 have hasg':∀X r,X.h=h→VW P Γ X r asg (fun e s=>e=.normal∧s={t:=t1,h:=h1,m:=[]}) {t:=dI ts (ps.toList.zip args),h:=h,m:=[]}:=fun X r hX=>hasg X r hX (fun h=>by cases h)
 have hbody':∀X r,X.h=h→VW P Γ X r body (fun e s=>e=.panic c∧s=s2) {t:=t1,h:=h1.set b (.loop .busy p1 f1 ts1 ps1 a1 b1),m:=[]}:=fun X r hX=>hbody X r hX (fun h=>by cases h)
 refine wpIn_mono (hasg' _ (some blk) rfl _ _ st0) ?_
 rintro e a₁ w₁ ⟨_,s1,⟨rfl,rfl⟩,l1,R1,E1,rt1,rd1⟩
 have hl1:l1 b=some (blk,cp):=by rw[fW E1 hb hb1];exact hl
 obtain⟨rec1,k1,k2,k3,k4,k5,k6,k7,_,k8⟩:=jq R1 hb1 hl1
 obtain⟨R2,E2⟩:=k8 .busy p1
 refine⟨{w₁ with heap:=w₁.heap.setIfInBounds blk (.loop {rec1 with state:=.busy,pending:=p1})},?_,?_⟩
 ·have:({rec1 with state:=.busy}:Loop)={rec1 with state:=.busy,pending:=p1}:=by rw[←k3]
  simp only[Instr.beginRound,Hp,cA (P:=P) k1,Hk,this,bL (P:=P) k1 (by simp),k2,HH]
 ·have st1:St Γ {O:=O,w:=w,l:=l,h:=h} {t:=t1,h:=h1.set b (.loop .busy p1 f1 ts1 ps1 a1 b1),m:=[]} a₁ {w₁ with heap:=w₁.heap.setIfInBounds blk (.loop {rec1 with state:=.busy,pending:=p1})}:=by
   refine⟨l1,R2,E1.trans E2,E2.relL rt1,?_⟩
   exact rd1
  refine wpIn_mono (hbody' _ (some blk) rfl _ _ st1) ?_
  rintro e a₂ w₂ ⟨_,s3,⟨rfl,rfl⟩,l2,R3,E3,rt3,rd3⟩
  rw[hm] at rd3
  exact⟨c,rfl,rd3,hn c _ l2 _ ⟨rfl,rfl⟩ R3 E3⟩
def AtF(P:Program)(f0:FuncId)(c:Code)(Q:Exit→Act→World→Prop)(a:Act)(w:World):Prop :=
 ∀(b:Frame) (k:List Item) (cs:List Frame),b.roundOf=none→b.fn=f0 →
  ∃e a' w',Q e a' w'∧ArrivesIn (Mc P (FW none)) P (lone (b.atR a (.code c::k)) cs w) b k cs e a' w'
theorem AtF.of_wp{f0:FuncId}{c:Code}{Q:Exit→Act→World→Prop}{a:Act}{w:World}(h:c.wpIn (FW none) 0 P Q a w):AtF P f0 c Q a w :=
 fun b k cs hr _=>h b k cs hr trivial (gz none _)
theorem AtF.mono{f0:FuncId}{c:Code}{Q Q':Exit→Act→World→Prop}{a:Act}{w:World}(h:AtF P f0 c Q a w)(hq:∀e a w,Q e a w→Q' e a w):AtF P f0 c Q' a w:=fun b k cs hr hf =>
 let ⟨e,a',w',q,s⟩:=h b k cs hr hf
 ⟨e,a',w',hq _ _ _ q,s⟩
theorem AtF.seq{f0:FuncId}{x y:Code}{Q:Exit→Act→World→Prop}{a:Act}{w:World}(h:AtF P f0 x (fun e a1 w1=>e=.normal∧AtF P f0 y Q a1 w1) a w):AtF P f0 (.seq x y) Q a w:=by
 intro b k cs hro hb
 have h0:(lone (b.atR a (.code (.seq x y)::k)) cs w).fenced P (FW none):=fenced_calm (F:=FW none) (n:=0) trivial (gz none _) rfl
 obtain⟨e,a₁,w₁,⟨rfl,hq⟩,harr⟩:=h b (.code y::k) cs hro hb
 obtain⟨e₂,a₂,w₂,hq₂,harr₂⟩:=hq b k cs hro hb
 exact⟨e₂,a₂,w₂,hq₂,.of_steps (.head h0 stepR_seq harr) harr₂⟩
theorem AtF.seqP{f0:FuncId}{x y:Code}{Q:Exit→Act→World→Prop}{a:Act}{w:World}(h:AtF P f0 x (fun e a1 w1=>∃c,e=.panic c∧Q e a1 w1) a w):AtF P f0 (.seq x y) Q a w:=by
 intro b k cs hro hb
 have h0:(lone (b.atR a (.code (.seq x y)::k)) cs w).fenced P (FW none):=fenced_calm (F:=FW none) (n:=0) trivial (gz none _) rfl
 obtain⟨e,a₁,w₁,⟨c,rfl,hq⟩,harr⟩:=h b (.code y::k) cs hro hb
 exact⟨_,a₁,w₁,hq,.of_steps (.one h0 stepR_seq) (.pass (x:=.code y) rfl (fun _ _=>.inl (by simp)) harr)⟩
theorem AtF.blockP{f0:FuncId}{id:Nat}{x:Code}{Q:Exit→Act→World→Prop}{a:Act}{w:World}(h:AtF P f0 x (fun e a1 w1=>∃c,e=.panic c∧Q e a1 w1) a w):AtF P f0 (.block id x) Q a w:=by
 intro b k cs hro hb
 have h0:(lone (b.atR a (.code (.block id x)::k)) cs w).fenced P (FW none):=fenced_calm (F:=FW none) (n:=0) trivial (gz none _) rfl
 obtain⟨e,a₁,w₁,⟨c,rfl,hq⟩,todo,harr⟩:=h b (.inBlock id::k) cs hro hb
 exact⟨_,a₁,w₁,hq,todo,.head h0 stepR_block harr⟩
theorem AtF.rangeFuncP(ok:POk P){X:Ctx}{s:AS}{f0:FuncId}{g:Operand}{ps:Array Tmp}{asg body:Code}{f:FuncId}{fi ca:List D}{c0:List PanicEntry}{hp:List Blk}(hg:bU (evalD Γ s.t g)=some (f,fi,ca))(hf:eA P f=true)
  (hc:VPan P Γ f (fi++[.ref (.yl (s.h.length+1))]++ca) (s.h++[.defd]++[.loop .ready none f0 s.t ps asg body]) fun c h'=>c=c0∧h'=hp)
  (hmp:marksOk hp (s.h.length::s.m)=true) {a:Act} {w:World} (hs:St Γ X s a w):AtF P f0 (.rangeFunc g ps asg body) (fun e a' w'=>e=.panic c0∧St Γ X {t:=s.t,h:=hp,m:=s.h.length::s.m} a' w') a w:=by
 intro b k cs hro hb
 have hmk:=hs.marks
 obtain⟨l,R,E,rt,rd⟩:=hs
 obtain⟨R1,E1⟩:=b8 R (.deferred (some [])) .defd 0 (fun E=>⟨w.heap.size,0,by simp,heap_alloc_new w _⟩)
 generalize hw1:w.alloc (.deferred (some []))=w1 at R1 E1
 generalize hl1:l.upd s.h.length (some (w.heap.size,0))=l1 at R1 E1
 have rt1:=E1.relL rt
 have hlen:(s.h++[KZ]).length=s.h.length+1:=by simp
 obtain⟨R2,E2⟩:=b8 R1 (.loop {state:=.ready,pending:=none,fn:=b.fn,tmps:=a.tmps,params:=ps,assign:=asg,body,defers:=w.heap.size}) (.loop .ready none f0 s.t ps asg body) 0
  (fun E=>⟨w1.heap.size,0,a.tmps,w.heap.size,b.fn,by simp,heap_alloc_new w1 _,E.relL rt1,.inr hb⟩)
 generalize hw2:w1.alloc (.loop {state:=.ready,pending:=none,fn:=b.fn,tmps:=a.tmps,params:=ps,assign:=asg,body,defers:=w.heap.size})=w2 at R2 E2
 generalize hl2:l1.upd (s.h++[KZ]).length (some (w1.heap.size,0))=l2 at R2 E2
 rw[hlen] at hl2
 obtain⟨a0,c1,e0,r1,r2⟩:=bX (aA R2 ((E1.trans E2).relL rt) g) hg
 unfold eA at hf
 split at hf
 case h_2=>simp at hf
 rename_i fn' hfn'
 have he:(Instr.enterLoop b.fn a.tmps ps asg body b.roundOf).run P w=.ok (w1.heap.size,[{target:=.collected w.heap.size,args:=#[]}]) w2:=by
  rw[hro]
  simp only[Instr.enterLoop,Hp,nu,Hk,HH,hw1,hw2]
 have hres:(resolve a.eval (rangeCall g w1.heap.size) 0).run P w2=.ok {target:=.fn (.func f) c1,args:=a0++#[.func (.yield w1.heap.size) #[] #[]]} w2:=by
  simp only[resolve,e0,H5,HH]
  simp
  rfl
 have hinv:(invoke (Target.fn (.func f) c1) (a0++#[.func (.yield w1.heap.size) #[] #[]])).run P w2=.ok (.enter f (a0++#[.func (.yield w1.heap.size) #[] #[]]++c1)) w2:=hJ ok hfn' hf _ _
 have hl2n:l2 (s.h.length+1)=some (w1.heap.size,0):=by rw[←hl2];simp
 have hl2d:l2 s.h.length=some (w.heap.size,0):=by rw[←hl2,Loc.upd_ne _ _ _ (by omega),←hl1];simp
 have hHn:(s.h++[KZ]++[Nd .ready none f0 s.t ps asg body])[s.h.length+1]? = some (.loop .ready none f0 s.t ps asg body):=by
  rw[HT (by simp)];simp
 have hHd:(s.h++[KZ]++[Nd .ready none f0 s.t ps asg body])[s.h.length]? = some .defd:=by
  rw[HF (by simp),HT (by simp)];simp
 have hd2:DefOk X.D l2 (s.h++[KZ]++[Nd .ready none f0 s.t ps asg body]) (s.h.length::s.m) ({target:=.collected w.heap.size,args:=#[]}::a.defers):=by
  simp only[DefOk]
  refine⟨⟨w.heap.size,0,hHd,hl2d,rfl⟩,?_⟩
  exact KY (E1.trans E2).keep (by rw[List.append_assoc];exact cJ hmk) rd
 have hcall:=hc X.O w2 l2 (a0++#[Value.func (Fn.yield w1.heap.size) #[] #[]]++c1).toList R2 (by
  simp only[JE]
  refine aM (aM r1 ?_) r2
  simp only[RelL,Rel,RefRel,hHn]
  exact⟨⟨rfl,w1.heap.size,0,hl2n,rfl⟩,trivial⟩)
 have hcall':=(show CallsIn (FW none) 0 P f (a0++#[Value.func (Fn.yield w1.heap.size) #[] #[]]++c1) w2 _ from hcall)
 have h0:(lone (b.atR a (.code (.rangeFunc g ps asg body)::k)) cs w).fenced P (FW none) :=
  fenced_lone (F:=FW none) (.inl trivial) (fun _ _=>trivial) (Fence.room_le (gz none (cs.length+1)) (Hq _))
 have henter:=stepR_rangeFunc (P:=P) (b:=b) (a:=a) (k:=k) (cs:=cs) (w:=w) he hres hinv
 obtain⟨e,w₃,fr,⟨c,h',l3,rfl,⟨rfl,rfl⟩,R3,E3⟩,hsteps,hfn,hleave⟩:=hcall'.2 (b.atR {a with defers:=[{target:=.collected w.heap.size,args:=#[]}]++a.defers} (.inRangeFunc w1.heap.size::k)::cs) (gz none _)
 have hl:(lone fr (b.atR {a with defers:=[{target:=.collected w.heap.size,args:=#[]}]++a.defers} (.inRangeFunc w1.heap.size::k)::cs) w₃).fenced P (FW none):=fenced_leaving (F:=FW none) (n:=0) trivial (gz none _) hleave
 refine⟨.panic c,{a with defers:=[{target:=.collected w.heap.size,args:=#[]}]++a.defers},w₃,⟨rfl,?_⟩,.inRangeFunc w1.heap.size::k,.head h0 henter (Ka hsteps (.one hl ?_))⟩
 ·exact⟨l3,R3,(E.trans (E1.trans E2)).trans E3,((E1.trans E2).trans E3).relL rt,KY E3.keep hmp hd2⟩
 ·rw[←Frame.raise_atR];exact step_leave_panicked hleave
theorem vF{f:FuncId}{fn:Func}{c:Code}{args:Array Value}{w:World}{R:Ending→World→Prop}
  (hf:P.funcs[f]? = some fn) (hb:fn.body=some c)
  (h:AtF P f c (bodyPostM (FW none) 0 P fn R) {tmps:=args++II (fn.ntmps - args.size) undef,defers:=[]} w):CallsIn (FW none) 0 P f args w R:=by
 refine⟨trivial,fun cs hr=>?_⟩
 let b:Frame:={ (default:Frame) with fn:=f,kind:=.normal,roundOf:=none}
 have henter:Frame.enter P f args .normal =
   b.atR {tmps:=args++II (fn.ntmps - args.size) undef,defers:=[]} [.code c]:=by
  simp[Frame.enter,Frame.atR,hf,hb,b]
 obtain⟨e,a',w',hq,harr⟩:=h b [] cs rfl rfl
 rw[←henter] at harr
 cases e with
 | normal =>
  obtain⟨e',w'',fr',hR,hs,hfn,hl⟩:=leaves_stepsInM a'.defers .returning w' {b.atR a' [] with mode:=.returning} cs rfl rfl rfl hf rfl (F:=FW none) trivial hr hq
  exact⟨e',w'',fr',hR,Lw (Ka harr (.one (fenced_calm (fr:=b.atR a' []) (F:=FW none) trivial hr rfl) (stepR_end rfl))) hs,hfn,hl⟩
 | ret =>
  obtain⟨todo,hs₀⟩:=harr.1 rfl
  obtain⟨e',w'',fr',hR,hs,hfn,hl⟩:=leaves_stepsInM a'.defers .returning w' {b.atR a' todo with mode:=.returning} cs rfl rfl rfl hf rfl (F:=FW none) trivial hr hq
  exact⟨e',w'',fr',hR,Lw hs₀ hs,hfn,hl⟩
 | panic chain =>
  obtain⟨todo,hs₀⟩:=harr
  obtain⟨e',w'',fr',hR,hs,hfn,hl⟩:=leaves_stepsInM a'.defers (.panicking chain) w' {b.atR a' todo with mode:=.panicking chain} cs rfl rfl rfl hf rfl (F:=FW none) trivial hr hq
  exact⟨e',w'',fr',hR,Lw hs₀ hs,hfn,hl⟩
 | exit id=>exact hq.elim
 | goto l=>exact hq.elim
 | outgrown=>exact⟨.outgrown,w',b,hq,harr.resolve_left (by simp[b]),rfl,trivial⟩
end
def VA(P:Program)(Γ:ae)(X:Ctx)(r:Option Nat)(ops:Array Oper)(Q:Exit→AS→Prop)(s:AS):Prop :=
 ∀(a:Act) (w:World),St Γ X s a w→wpAnyIn (FW r) 0 P .any ops (fm Γ X Q) ops.size (II ops.size false) a {w with drawn:=w.drawn+1}
section
variable {P:Program} {Γ:ae} {X:Ctx} {r:Option Nat} {call:CallF} {ops:Array Oper} {m:List Nat} {t0 tF:List D} {hs:List (List Blk)} {ts:List (List D)} {Q:Exit→AS→Prop} {F:List Nat}
theorem VA.drawF{s:AS}(_ok:POk P)(hD:DrawOkF F ops.toList (bp ops.toList []))(hr:runR P Γ s.m ops.toList Wk FixOk ops.toList s.t s.h tF hs ts)
  (hq:tH P Γ F ops.toList (bp ops.toList []) tF hs ts) (hF:∀j o,ops.toList[j]? = some o→B9 j F=true→hs.getD (j+1) []=hs.getD j []) (hQ:Q .normal {t:=tF,h:=hs.getD ops.size [],m:=s.m}):VA P Γ X r ops Q s:=by
 obtain⟨g1,g2,g3,g4,_⟩:=eD _ _ _ _ _ _ hr
 have h0:hs.getD 0 []=s.h:=by simp[List.getD_eq_getElem?_getD,g3]
 intro a w hst
 rw[←h0] at hr
 refine lI (t0:=s.t) (hs:=hs) hD hr hq hF hQ ops.size 0 _ a _ ?_ ?_
 ·have hrep:∀j,(II ops.size false).getD j false=false:=by
   intro j
   simp only[Array.getD_eq_getD_getElem?,Array.getElem?_replicate]
   split<;>rfl
  refine⟨by simp,fun k o hk _ _ _ _=>?_,?_,by simp[eY],fun c o _ _=>?_⟩
  ·unfold Lst at hk;rw[hrep] at hk;cases hk
  ·have e1:c8 ops.toList (II ops.size false) s.t tF=s.t:=by
    refine aS (by rw[aj,g1]) fun x hx=>?_
    rw[aj] at hx
    rw[dH hx]
    split
    ·rfl
    ·rename_i hp
     refine g2 x fun o ho hd=>hp ?_
     obtain⟨k,hk⟩:=List.mem_iff_getElem?.1 ho
     exact b4.2 ⟨k,o,hk,hd,hrep k⟩
   rw[e1,h0]
   obtain⟨l,R,E,rt,rd⟩:=hst
   obtain⟨R',E'⟩:=R.of_heap (w':={w with drawn:=w.drawn+1}) rfl ⟨rfl,rfl,rfl,(by first|exact Hq _|exact Nat.le_succ _)⟩
   exact⟨l,R',E.trans E',E'.relL rt,rd⟩
  ·unfold Lst
   rw[hrep]
   simp
 ·refine Nat.le_trans List.countP_le_length (by simp)
end
theorem VA.drawE{P:Program}{Γ:ae}{X:Ctx}{r:Option Nat}{ops:Array Oper}{tF:List D}{hs:List (List Blk)}{ts:List (List D)}{Q:Exit→AS→Prop}{s:AS}(ok:POk P)(hD:DrawOk ops.toList (bp ops.toList []))(hr:runR P Γ s.m ops.toList Wk FixOk ops.toList s.t s.h tF hs ts)
  (hq:jl P Γ ops.toList (bp ops.toList []) tF hs ts) (hQ:Q .normal {t:=tF,h:=hs.getD ops.size [],m:=s.m}):VA P Γ X r ops Q s:=by
 refine VA.drawF (F:=[]) ok ⟨hD.self,hD.edge,hD.uniq,hD.oper,fun i k o o' h1 h2 h3 h4 h5=>hD.chain i k o o' h1 h2 h3 (by rw[cB] at h4;exact h4) (by rw[cB] at h5;exact h5)⟩ hr ?_ (fun _ _ _ h=>by cases h) hQ
 intro i o ho hqo hg k hk hc
 rw[cB] at hqo
 unfold eY at hk
 unfold gJ at hc
 rw[lJ] at hk hc
 obtain⟨f,d,h',h1,h2,h3⟩:=hq i o ho hqo hg k hk hc
 have:=be hqo h2
 subst this
 exact⟨f,d,h1,OpOk.sem h2,h3⟩
section
variable {P:Program} {Γ:ae} {X:Ctx} {r:Option Nat} {Q:Exit→AS→Prop} {t:List D} {h:List Blk} {m:List Nat}
theorem VA.drawW(ok:POk P){ops:Array Oper}(hD:gB ops.toList (bp ops.toList [])=true)(hx:ops.toList.all (fun o=>match o.dst with|some x=>Qd (x<t.length)|none=>true)=true)
  (hr:RW P Γ m ops.toList true ops.toList t h (fun t' h'=>Q .normal {t:=t',h:=h',m:=m})):VA P Γ X r ops Q {t:=t,h:=h,m:=m}:=by
 obtain⟨tF,hs,ts,g1,g2,g3⟩:=RW.runR _ _ _ hr
 have hD':=ie hD
 have hx':=hx
 clear hx
 refine VA.drawE (hs:=hs) (ts:=ts) ok hD' g1 ?_ ?_
 ·intro i o ho hq ⟨f0,hf0,hg0⟩ k hk hcomp
  obtain⟨g5,g6,g7,g8,hat⟩:=eD _ _ _ _ _ _ g1
  obtain⟨call,hc,f,dw,d,⟨hfx,h1,hwk⟩,h2,h3,h4⟩:=hat i o ho
  have hi:i≤ops.toList.length:=by
   have:=(G9.1 ho).1
   omega
  have hk':k≤ops.toList.length:=by
   simp only[lr,List.mem_cons,HS] at hk
   rcases hk with rfl|⟨c,hc1,rfl⟩
   ·omega
   ·obtain⟨o',ho',_⟩:=bM hc1
    have:=(G9.1 ho').1
    omega
  rw[g3 i hi] at h1
  rw[g3 k hk']
  have hwx:∀x,o.dst=some x→Wk dw (tF.getD x .any):=fun x hx=>by
   have hxl:x<t.length:=by
    have:=Hs.1 hx' o (HL ho)
    simpa[hx] using this
   rw[h4 x hx (fun j o' hj ho' hd=>by have:=hD'.uniq i j o o' x ho ho' hx hd;omega) hxl]
   exact hwk
  unfold ce at h1
  split at h1
  ·rename_i hg
   split at h1
   ·rename_i d1 h1' hop
    split at h1
    ·simp only[G0,G4] at h1
     obtain⟨rfl,_⟩:=h1
     unfold eB at hop
     split at hop
     ·rename_i ho2
      rw[ho2] at hq
      simp[quietOp] at hq
     ·split at hop
      ·rename_i hsem
       cases hop
       exact⟨f,_,_,hfx,hsem,hwx⟩
      ·simp at hop
    ·simp at h1
   ·simp at h1
  ·rename_i hg
   exact absurd (eI X.w hfx hf0 hg hg0) (by simp)
  ·simp at h1
 ·have:=g3 ops.toList.length (Hq _)
  rw[show ops.size=ops.toList.length by simp,this]
  exact g2
end
def xG:Nat→List (Array Bool)
 | 0=>[#[]]
 | n+1=>(xG n).flatMap fun s=>[s.push false,s.push true]
def lW(ops:Array Oper)(S:Array Bool):Bool:=(List.range ops.size).all fun i=>!S.getD i false||(match ops[i]? with
 | some o=>o.after.all fun e=>S.getD e.on false
 | none=>true)
def q8(ops:Array Oper)(o:Oper):Bool:=lW ops (II ops.size false)&&(xG ops.size).all fun S=>!lW ops S||(
 (match I3 .any ops S with
  | []=>I3 .any (ops.push o) (S.push false)==[ops.size]
  | r=>I3 .any (ops.push o) (S.push false)==r&&r.all fun i=>Qd (i<ops.size)&&lW ops (S.setIfInBounds i true)))
theorem lX:∀(n:Nat) (S:Array Bool),S.size=n→S∈xG n
 | 0,S,h=>by
  have:S=#[]:=Array.eq_empty_of_size_eq_zero h
  simp[xG,this]
 | n+1,S,h=>by
  obtain⟨bs,c,rfl⟩:=Array.exists_push_of_size_eq_add_one h
  have h2:=lX n bs (by simpa using h)
  simp only[xG,List.mem_flatMap]
  refine⟨bs,h2,?_⟩
  cases c<;>simp
theorem fG{ops:Array Oper}{tmps:Array Value}{o:Oper}(h:o.guard=none):HX o (yielded ops tmps)=true:=by
 unfold HX;rw[h]
theorem xH{F:Fence}{n:Nat}{P:Program}{o:Oper}{a:Act}{w:World}{K K':Act→World→Prop}{Q Q':Exit→Act→World→Prop}(hK:∀a w,K a w→K' a w)(hQ:∀e a w,e ≠ .normal→Q e a w→Q' e a w)(h:o.wpIn F n P a w K Q):o.wpIn F n P a w K' Q':=by
 refine⟨h.1,?_⟩
 have hh:=h.2
 have hl:LetsOut Q→LetsOut Q':=fun⟨a,w,h⟩=>⟨a,w,hQ _ _ _ (by simp) h⟩
 generalize (o.semAt F.round a.eval).run P w=res at hh
 unfold Oper.uponIn at hh ⊢
 split at hh
 ·exact hK _ _ hh
 ·exact hK _ _ hh
 ·exact hK _ _ hh
 ·exact⟨hh.1,IX hh.2 fun e w'' he=>by cases e<;>first|exact hK _ _ he|exact hQ _ _ _ (by simp) he|exact hl he⟩
 ·exact⟨hh.1,RowsIn.mono hh.2 fun v w'' he=>hK _ _ he⟩
 ·exact⟨hh.1,RoundIn.mono hh.2 fun e w'' he=>by cases e<;>first|exact hK _ _ he|exact hQ _ _ _ (by simp) he|exact hl he⟩
 ·exact hQ _ _ _ (by simp) hh
 ·exact hh.elim
theorem z8{P:Program}{r:Option Nat}{ops:Array Oper}{o:Oper}{Q6 Q:Exit→Act→World→Prop}(hp:q8 ops o=true)(hg:∀(i:Nat) (o':Oper),(ops.push o)[i]? = some o'→o'.guard=none)
  (hN:∀a w K,Q6 .normal a w→o.wpIn (FW r) 0 P a w K Q) (hP:∀e a w,e ≠ .normal→Q6 e a w→Q e a w) :
  ∀(fuel:Nat) (S:Array Bool) (a:Act) (w:World),S.size=ops.size→lW ops S=true→wpAnyIn (FW r) 0 P .any ops Q6 fuel S a w→wpAnyIn (FW r) 0 P .any (ops.push o) Q (fuel+1) (S.push false) a w:=by
 intro fuel
 unfold q8 at hp
 rw[G6,Hs] at hp
 have hn:(ops.push o)[ops.size]? = some o:=by simp
 have last:∀(fuel:Nat) (S:Array Bool) (a:Act) (w:World),S.size=ops.size→lW ops S=true→I3 .any ops S=[]→Q6 .normal a w→wpAnyIn (FW r) 0 P .any (ops.push o) Q (fuel+1) (S.push false) a w:=by
  intro fuel S a w hs hc hr hq
  have h1:=hp.2 S (lX _ S hs)
  rw[hc,hr] at h1
  have h2:I3 .any (ops.push o) (S.push false)=[ops.size]:=by simpa using h1
  refine⟨fun h=>?_,fun i hi=>?_⟩
  ·rw[h2] at h;cases h
  ·rw[h2] at hi
   obtain rfl:i=ops.size:=by simpa using hi
   unfold wpOpIn
   rw[hn]
   simp only
   rw[if_pos (fG (hg _ _ hn))]
   exact hN _ _ _ hq
 induction fuel with
 | zero =>
  intro S a w hs hc h
  exact last 0 S a w hs hc h.1 h.2
 | succ fuel ih =>
  intro S a w hs hc h
  cases hr:I3 .any ops S with
  | nil=>exact last _ S a w hs hc hr (h.1 hr)
  | cons x xs =>
   have h1:=hp.2 S (lX _ S hs)
   rw[hc,hr] at h1
   simp only[Bool.not_true,Bool.false_or,G6,beq_iff_eq,Hs] at h1
   obtain⟨h2,h3⟩:=h1
   refine⟨fun h=>?_,fun i hi=>?_⟩
   ·rw[h2] at h;cases h
   ·rw[h2] at hi
    have h4:=h3 i hi
    simp only[decide_eq_true_eq] at h4
    have h5:=h.2 i (by rw[hr];exact hi)
    have e1:(ops.push o)[i]? = ops[i]?:=by
     rw[Array.getElem?_push,if_neg (by omega)]
    have e2:ops[i]? = some ops[i]:=by simp[h4.1]
    have hgi:=hg i ops[i] (by rw[e1,e2])
    unfold wpOpIn at h5 ⊢
    rw[e1,e2]
    rw[e2] at h5
    simp only at h5 ⊢
    rw[if_pos (fG hgi)] at h5 ⊢
    have e3:(S.push false).setIfInBounds i true=(S.setIfInBounds i true).push false:=by
     apply Array.toList_inj.1
     rw[KF,Nq,Nq,KF,List.set_append_left _ _ (by rw[IK,hs];exact h4.1)]
    rw[e3]
    exact xH (fun a' w' hk=>ih _ a' w' (by simp[hs]) h4.2 hk) hP h5
theorem VW.drawPush{P:Program}{Γ:ae}{X:Ctx}{r:Option Nat}(ok:POk P){I:Inl}(hI:fe P Γ I){id:Nat}{ops:Array Oper}{o:Oper}{t t1:List D}{h h1 hq:List Blk}{as:List Ans}{φ:List Prop}{fv:Operand}{args:Array Operand}{ats:Array TypeId}{c:List PanicEntry}
  (ho:o.op=.call {callee:=.value fv,args,argTypes:=ats}) (hgs:(ops.push o).toList.all (fun o=>o.guard.isNone)=true) (hpush:q8 ops o=true) (hD:gB ops.toList (bp ops.toList [])=true)
  (hx:ops.toList.all (fun o=>match o.dst with|some x=>Qd (x<t.length)|none=>true)=true) (hm:marksOk h []=true)
  (hsym:gt P Γ I [] ops.toList true ops.toList [] t h as=some (t1,h1,[],φ)) (hφ:AllP φ)
  (hcall:CROk P Γ (evalD Γ t1 fv) (args.toList.map (evalD Γ t1)) h1 (.pan c hq)) (hmq:marksOk hq []=true) :
  VW P Γ X r (.region id (ops.push o) true) (fun e s=>e=.panic c∧s={t:=t1,h:=hq,m:=[]}) {t:=t,h:=h,m:=[]}:=by
 intro a w hst
 have hRW:=d7 (K:=fun t' h'=>(fun (e:Exit) (s:AS)=>e=.normal∧s={t:=t1,h:=h1,m:=[]}) .normal {t:=t',h:=h',m:=[]}) ok hI ⟨rfl,rfl⟩ _ _ _ _ _ _ StkOk.nil hm hsym hφ
 have hA:=VA.drawW (X:=X) (r:=r) (Q:=fun e s=>e=.normal∧s={t:=t1,h:=h1,m:=[]}) ok hD hx hRW a w hst
 refine wpIn_region_any ok.mixed ?_
 have e1:II (ops.push o).size false=(II ops.size false).push false:=by
  rw[Array.size_push];exact Array.replicate_succ
 have e2:(ops.push o).size=ops.size+1:=Array.size_push _
 rw[e1,e2]
 refine z8 hpush (fun i o' ho'=>?_) (fun a' w' K hq6=>?_) (fun e a' w' hne hq6=>?_) _ _ _ _ (by simp) ?_ hA
 ·have hmem:o'∈(ops.push o).toList:=by
   rw[←H0] at ho'
   exact HL ho'
  have:=Hs.1 hgs o' hmem
  simpa using this
 ·obtain⟨_,s,⟨_,rfl⟩,l,R,E,rt,rd⟩:=hq6
  refine⟨fun _ _=>trivial,?_⟩
  rw[Oper.semAt_eq _ _ _ (by intro c hc;rw[ho] at hc;simp at hc)]
  have e1:(execOp a'.eval o).run P w'=(do let d ←H5 (a'.eval fv) (args.toList.map a'.eval).toArray;invoke d.target d.args:Sem Next).run P w':=by
   unfold execOp
   rw[ho]
   simp only[resolve]
   congr 3
   rw[←Array.toList_map]
  rw[e1]
  exact(hcall:VInvP P Γ _ _ h1 fun c2 h2=>c2=c∧h2=hq) X.O w' l _ _ R (aA R rt fv) (cH R rt args.toList) r o a' _ _ fun c2 h2 l2 w2 ⟨g1,g2⟩ g3 g4=>by
   subst g1;subst g2
   exact⟨by simp,_,⟨rfl,rfl⟩,l2,g3,E.trans g4,g4.relL rt,KY g4.keep hmq rd⟩
 ·obtain⟨_,s,⟨h1,_⟩,_⟩:=hq6
  exact absurd h1 hne
 ·unfold q8 at hpush
  rw[G6] at hpush
  exact hpush.1
theorem CW.drawPush{P:Program}{Γ:ae}{h0:List Blk}{rd:Bool}(ok:POk P){I:Inl}(hI:fe P Γ I){id:Nat}{opz ops:Array Oper}{o:Oper}{t t1:List D}{h h1 hq:List Blk}(as:List Ans){φ:List Prop}{fv:Operand}{args:Array Operand}{ats:Array TypeId}{c:List PanicEntry}
  (hz:opz=ops.push o) (ho:o.op=.call {callee:=.value fv,args,argTypes:=ats}) (hgs:(ops.push o).toList.all (fun o=>o.guard.isNone)=true) (hpush:q8 ops o=true) (hD:gB ops.toList (bp ops.toList [])=true)
  (hx:ops.toList.all (fun o=>match o.dst with|some x=>Qd (x<t.length)|none=>true)=true) (hm:marksOk h []=true)
  (hsym:gt P Γ I [] ops.toList true ops.toList [] t h as=some (t1,h1,[],φ)) (hφ:AllP φ)
  (hcall:CROk P Γ (evalD Γ t1 fv) (args.toList.map (evalD Γ t1)) h1 (.pan c hq)) (hmq:marksOk hq []=true) :
  CW P Γ h0 rd (.region id opz true) {t:=t,h:=h,m:=[]} (.panic c) {t:=t1,h:=hq,m:=[]}:=by
 subst hz
 exact fun X r _ _=>VW.drawPush ok hI ho hgs hpush hD hx hm hsym hφ hcall hmq
section
variable {P:Program} {Γ:ae}
theorem AtF.cw{f0:FuncId}{X:Ctx}{h0:List Blk}{c:Code}{s s':AS}{e:Exit}(hc:CW P Γ h0 false c s e s')(hX:X.h=h0){a:Act}{w:World}(hs:St Γ X s a w):AtF P f0 c (fun e1 a1 w1=>e1=e∧St Γ X s' a1 w1) a w:=by
 refine AtF.of_wp (wpIn_mono (hc X none hX (fun _=>rfl) a w hs) ?_)
 rintro e1 a1 w1 ⟨_,s1,⟨rfl,rfl⟩,h2⟩
 exact⟨rfl,h2⟩
def TopF(P:Program)(Γ:ae)(f:FuncId)(c:Code)(s:AS)(e:Exit)(s':AS):Prop :=
 ∀(O:Nat→Prop) (w0:World) (l0:Loc) (h0:List Blk) (a:Act) (w:World),h0=s.h→St Γ {O:=O,w:=w0,l:=l0,h:=h0} s a w →
  AtF P f c (fun e1 a1 w1=>e1=e∧St Γ {O:=O,w:=w0,l:=l0,h:=h0} s' a1 w1) a w
theorem VRes.of_topF{f:FuncId}{fn:Func}{c:Code}{args:List D}{h:List Blk}{c0:List PanicEntry}{s':AS}{r:CR}(hf:P.funcs[f]? = some fn)(hb:fn.body=some c)
  (ht:TopF P Γ f c {t:=ba fn args,h:=h,m:=[]} (.panic c0) s') (he:gq P fn (fun _ _ _ _=>none) h.length (.panic c0) s' none=some r):VRes P Γ f args h r:=by
 intro O w l vs R ra
 refine vF hf hb ?_
 refine(ht O w l h _ w rfl (fT R ra fn)).mono ?_
 rintro e1 a1 w1 ⟨rfl,hst⟩
 unfold gq at he
 split at he
 case h_2=>simp at he
 rename_i hmk
 simp only[G6,decide_eq_true_eq] at hmk
 obtain⟨l',R',E',rt',rd'⟩:=hst
 exact bZ (u:=.panicking c0) (by simp) s'.m a1.defers w1 l' s'.h R' E' rt' rd' hmk.2 fun w2 l2 R2 E2 rt2=>gG he R2 E2 rt2
end
def fa:Code→Nat→Bool
 | .region i _ _,n=>Nat.beq i n
 | .seq a b,n=>fa a n||fa b n
 | .cond _ a b,n=>fa a n||fa b n
 | .block _ b,n=>fa b n
 | .loop b,n=>fa b n
 | .scope b,n=>fa b n
 | .rangeFunc _ _ a b,n=>fa a n||fa b n
 | _,_=>false
def cD:Code→Nat→Code
 | .seq (.region i o d) b,n=>bif Nat.beq i n then .seq (.region i o d) b else cD b n
 | .seq a b,n=>bif fa a n then cD a n else cD b n
 | .cond _ a b,n=>bif fa a n then cD a n else cD b n
 | .block _ b,n=>cD b n
 | .loop b,n=>cD b n
 | .scope b,n=>cD b n
 | .rangeFunc _ _ a b,n=>bif fa a n then cD a n else cD b n
 | c,_=>c
def cE:List D→Option (List Dp)
 | []=>some []
 | .p x::ds=>match cE ds with
  | some xs=>some (x::xs)
  | none=>none
 | _=>none
def eQ:List (List D)→Option (List (List Dp))
 | []=>some []
 | r::rs=>match cE r,eQ rs with
  | some x,some xs=>some (x::xs)
  | _,_=>none
def frzV(d:D)(e:Nat):Option Blk→D
 | some (.vec es e' _)=>match Nat.beq e' e,eQ es with
  | true,some rows=>.p (.sl rows)
  | _,_=>d
 | _=>d
mutual
def kv(h:List Blk):D→D
 | .ref (.vec b e)=>frzV (.ref (.vec b e)) e h[b]?
 | .agg cs=>.agg (vG h cs)
 | d=>d
def vG(h:List Blk):List D→List D
 | []=>[]
 | d::ds=>kv h d::vG h ds
end
mutual
def iA:D→Bool
 | .p (.v _)=>true
 | .agg cs=>sC cs
 | .tup cs=>sC cs
 | _=>false
def sC:List D→Bool
 | []=>true
 | d::ds=>iA d&&sC ds
end
theorem nN:∀{ds:List D} {xs:List Dp},cE ds=some xs→ds=xs.map .p
 | [],xs,h=>by simp only[cE,G0] at h;subst h;rfl
 | .p x::ds,xs,h=>by
  simp only[cE] at h
  split at h
  ·rename_i ys h1
   simp only[G0] at h
   subst h
   rw[nN h1];rfl
  ·simp at h
 | .any::_,_,h=>by simp[cE] at h
 | .ref _::_,_,h=>by simp[cE] at h
 | .ep _::_,_,h=>by simp[cE] at h
 | .csl _::_,_,h=>by simp[cE] at h
 | .fn _ _ _::_,_,h=>by simp[cE] at h
 | .agg _::_,_,h=>by simp[cE] at h
 | .tup _::_,_,h=>by simp[cE] at h
 | .grd _ _::_,_,h=>by simp[cE] at h
theorem lY:∀{es:List (List D)} {xs:List (List Dp)},eQ es=some xs→es=xs.map (·.map .p)
 | [],xs,h=>by simp only[eQ,G0] at h;subst h;rfl
 | e::es,xs,h=>by
  simp only[eQ] at h
  split at h
  ·rename_i y ys h1 h2
   simp only[G0] at h
   subst h
   rw[nN h1,lY h2];rfl
  ·simp at h
section
variable {P:Program} {Γ:ae} {O:Nat→Prop} {w:World} {l:Loc} {h:List Blk}
def lZ(l:Loc)(h:List Blk)(k:Nat):Prop:=∃(b:Nat) (rows:List (List Dp)) (e sz cap:Nat),h[b]? = some (.vec (rows.map (·.map D.p)) e sz)∧l b=some (k,cap)
theorem z9(R:Rep Γ O w l h){b e:Nat}{y:Value}{rows:List (List Dp)}{sz:Nat}(hb:h[b]? = some (.vec (rows.map (·.map .p)) e sz))(rr:RefRel l h (.vec b e) y){av':Nat→Prop}(ha:∀k,av' k→avs O l h k∧¬lZ l h k):
  RelP w av' (.sl rows) y:=by
 have hk:=R.blk _ _ hb
 unfold RefRel at rr
 simp only[hb] at rr
 have hv:=rr.2.2 trivial
 unfold BlkOk at hk
 simp only at hk
 simp only[RelP]
 cases hl:l b with
 | none =>
  rw[hl] at hv hk
  simp only[fg] at hv hk
  exact .inl ⟨by simpa using hk,none,0,hv.2,fun _=>rfl⟩
 | some p =>
  obtain⟨blk,cap⟩:=p
  rw[hl] at hv hk
  simp only[fg] at hv hk
  obtain⟨oo,cc,rfl,hv1,hv2⟩:=hv
  obtain⟨o2,c2,rc,c,T,fr,ys,q1,q2,q3,q4,q5,q6,pre,rest,q0,q7⟩:=hk
  obtain⟨rfl,rfl⟩:=b6 rc
  refine .inr ⟨blk,oo,cc,sz,by simpa using hv1,by simpa using hv2,?_⟩
  have hcell:¬av' blk:=fun ho=>(ha blk ho).2 ⟨b,rows,e,sz,_,hb,hl⟩
  refine fX rows oo fun i e1 he1=>?_
  have hlen:e1.length=sz:=by
   have:=q5 (e1.map .p) (HS.2 ⟨e1,HL he1,rfl⟩)
   simpa using this
  refine⟨hlen,gI (l:=l) (h:=h) (av:=avs O l h) (av':=av') (fun _ ho=>(ha _ ho).1) hcell e1 _ ?_⟩
  exact(CellsAt.of_relO (loc:=l) (h:=h) q1 q0 q7 q6).rowO q5 (by rw[IJ,he1];rfl)
mutual
theorem Aa(R:Rep Γ O w l h){av':Nat→Prop}(ha:∀k,av' k→avs O l h k∧¬lZ l h k):∀{d:D} {y:Value},JO 0 (kv h d)=true→Rel w (avs O l h) l h d y→Rel w av' l [] (kv h d) y
 | .p _,_,_,r=>by simp only[kv,Rel] at r ⊢;exact dl (fun k hk=>(ha k hk).1) r
 | .any,_,_,_=>by simp[kv,Rel]
 | .ep _,_,_,r=>by
  simp only[kv,Rel] at r ⊢
  obtain⟨blk,off,r1,r2⟩:=r
  exact⟨blk,off,r1,al (fun k hk=>(ha k hk).1) r2⟩
 | .csl _,_,_,r=>by
  simp only[kv,Rel] at r ⊢
  rcases r with r|⟨blk,off,sz,r1,r2⟩
  ·exact .inl r
  ·exact .inr ⟨blk,off,sz,r1,bF (fun k hk=>(ha k hk).1) r2⟩
 | .agg cs,_,hi,r=>by
  simp only[kv,JO] at hi
  simp only[kv,Rel] at r ⊢
  obtain⟨vs,r1,r2⟩:=r
  exact⟨vs,r1,kw R ha hi r2⟩
 | .ref (.vec b e),y,hi,r=>by
  simp only[kv] at hi ⊢
  unfold frzV at hi ⊢
  split at hi
  ·rename_i es e' sz hb
   split at hi
   ·rename_i rows h1 h2
    have he:=M5 h1
    subst he
    rw[lY h2] at hb
    simp only[Rel]
    exact z9 R hb (by simpa only [Rel] using r) ha
   ·simp[JO] at hi
  ·simp[JO] at hi
 | .ref (.ptr _ _),_,hi,_=>by simp[kv,JO] at hi
 | .ref (.vs _ _ _ _ _),_,hi,_=>by simp[kv,JO] at hi
 | .ref (.av _ _ _ _),_,hi,_=>by simp[kv,JO] at hi
 | .ref (.vp _ _ _ _),_,hi,_=>by simp[kv,JO] at hi
 | .ref (.mp _),_,hi,_=>by simp[kv,JO] at hi
 | .ref (.it _),_,hi,_=>by simp[kv,JO] at hi
 | .ref (.yl _),_,hi,_=>by simp[kv,JO] at hi
 | .fn f a b,_,hi,r=>by
  have:=cZ (l:=l) (h:=h) (n:=0) (fun k hk=>(ha k hk).1) (by simpa[kv] using hi) r
  simpa[kv] using this
 | .tup a,_,hi,r=>by
  have:=cZ (l:=l) (h:=h) (n:=0) (fun k hk=>(ha k hk).1) (by simpa[kv] using hi) r
  simpa[kv] using this
 | .grd g a,_,hi,r=>by
  have:=cZ (l:=l) (h:=h) (n:=0) (fun k hk=>(ha k hk).1) (by simpa[kv] using hi) r
  simpa[kv] using this
theorem kw(R:Rep Γ O w l h){av':Nat→Prop}(ha:∀k,av' k→avs O l h k∧¬lZ l h k):∀{ds:List D} {ys:List Value},Ld 0 (vG h ds)=true→RelL w (avs O l h) l h ds ys→RelL w av' l [] (vG h ds) ys
 | [],[],_,_=>by simp[vG,RelL]
 | [],_::_,_,r=>by simp[RelL] at r
 | _::_,[],_,r=>by simp[RelL] at r
 | _::_,_::_,hi,r=>by
  simp only[vG,Ld,G6] at hi
  simp only[vG,RelL] at r ⊢
  exact⟨Aa R ha hi.1 r.1,kw R ha hi.2 r.2⟩
end
mutual
theorem t7{w':World}{av av':Nat→Prop}{l':Loc}{h':List Blk}:∀{d:D} {y:Value},iA d=true→Rel w av l h d y→Rel w' av' l' h' d y
 | .p (.v _),_,_,r=>by simpa[Rel,RelP] using r
 | .agg cs,_,hf,r=>by
  simp only[iA] at hf
  simp only[Rel] at r ⊢
  obtain⟨vs,r1,r2⟩:=r
  exact⟨vs,r1,l4 hf r2⟩
 | .tup cs,_,hf,r=>by
  simp only[iA] at hf
  simp only[Rel] at r ⊢
  obtain⟨vs,r1,r2⟩:=r
  exact⟨vs,r1,l4 hf r2⟩
 | .p (.sl _),_,hf,_=>by simp[iA] at hf
 | .any,_,hf,_=>by simp[iA] at hf
 | .ref _,_,hf,_=>by simp[iA] at hf
 | .ep _,_,hf,_=>by simp[iA] at hf
 | .csl _,_,hf,_=>by simp[iA] at hf
 | .fn _ _ _,_,hf,_=>by simp[iA] at hf
 | .grd _ _,_,hf,_=>by simp[iA] at hf
theorem l4{w':World}{av av':Nat→Prop}{l':Loc}{h':List Blk}:∀{ds:List D} {ys:List Value},sC ds=true→RelL w av l h ds ys→RelL w' av' l' h' ds ys
 | [],[],_,_=>by simp[RelL]
 | [],_::_,_,r=>by simp[RelL] at r
 | _::_,[],_,r=>by simp[RelL] at r
 | _::_,_::_,hf,r=>by
  simp only[sC,G6] at hf
  simp only[RelL] at r ⊢
  exact⟨t7 hf.1 r.1,l4 hf.2 r.2⟩
end
theorem Ev.frzArgs{f:FuncId}{args:List D}{d:D}(hi:Ld 0 (vG h args)=true)(hd:iA d=true)(he:Ev P Γ f (vG h args) [] d []):Ev P Γ f args h d h:=by
 intro O w l vs R ra
 have hav:∀l' k,avs (fun k=>avs O l h k∧¬lZ l h k) l' [] k→avs O l h k∧¬lZ l h k:=fun l' k ho=>ho.elim id (fun h=>absurd h bW)
 have R0:Rep Γ (fun k=>avs O l h k∧¬lZ l h k) w l []:=by
  refine⟨fun blk ho=>absurd ho bW,fun blk ho=>?_,fun b b' x x' k c c' hb=>by simp at hb,fun b x hb=>by simp at hb,fun g cs hg=>?_⟩
  ·rcases ho.1 with ho|ho
   ·exact R.obd blk ho
   ·exact(R.inb blk ho).1
  ·exact al (fun k hk=>(hav l k hk).1) (R.glo g cs hg)
 have ra0:=kw (av':=avs (fun k=>avs O l h k∧¬lZ l h k) l []) R (fun k hk=>hav l k hk) hi ra
 refine IX (he _ w l vs R0 ra0) ?_
 rintro e w' ⟨v,d2,h2,l',rfl,⟨rfl,rfl⟩,R',E',rd⟩
 have E:Ext w l h w' l h:=⟨E'.size,fun blk hb _=>E'.same blk hb bW,fun blk ho=>.inl ho,fun b x hx=>⟨x,hx,x.le_refl,fun _=>rfl⟩,E'.tape⟩
 refine⟨v,d2,h,l,rfl,⟨rfl,rfl⟩,⟨fun blk ho=>⟨Ja (R.inb blk ho).1 E'.size,(R.inb blk ho).2⟩,fun blk ho=>Ja (R.obd blk ho) E'.size,R.inj,fun b x hx=>?_,fun g cs hg=>?_⟩,E,t7 hd rd⟩
 ·by_cases hg:x=.gone
  ·subst hg;trivial
  exact BlkOk.ext E rfl (fun blk cp hl=>E'.same blk (R.inb blk ⟨b,x,cp,hx,hg,hl⟩).1 bW) (R.blk b x hx)
 ·exact Lf E.hc g 0 cs (R.glo g cs hg)
end
end Go.Vi
