/- LedgerPutSpec: part of the proof: an evaluator of the model's programs on abstract values, and its soundness. No conditions beyond the given statement's own. -/
import Derived.Test.YtoincdhjcahadaaGreatDoorV7
import Derived.ChangeArms
import Derived.OpenShut
open Decidable renaming decide → Qd
open List renaming getElem?_eq_getElem → D7, getElem?_cons_succ → Fp, mem_of_getElem? → D1, getElem?_eq_some_iff → Dq, map_cons → Fm, mem_map → Eb, getElem?_map → E5, getD → Fu, all_eq_true → DK, getElem?_append_left → DP, getElem?_append_right → D4, nodup_nil → Hu, flatten_cons → Eu, drop_append → GG, append_assoc → FA, length_cons → Ex, range → EE, range' → ES, range_eq_range' → GB, mem_cons → DM, cons_append → Ic, range'_succ → Hn, all_append → Io
open Option.some renaming injEq → Dj, inj → F4
open Nat renaming sub_zero → GS, lt_of_lt_of_le → E7, add_mul → EX, eq_of_beq_eq_true → I4, le_refl → DJ
open Go.Vi.D renaming mapR → FC, mapRL → Gi, innL → Eh, inn → FU
open Go.Vi.Blk renaming mapR → Gp, defd → GZ, loop → Jb
open Bool renaming and_eq_true → Dr
open Go.CallsIn renaming mono → Fi
open Go.Vi.RelCells renaming mono → Ha
open Go.Vi.AllP renaming append → HU
open Array renaming length_toList → ER, getElem?_toList → Ej, toList_append → Hs, replicate → EN, toList_setIfInBounds → GN, toList_push → Jh, toList_map → Gy
open Go.Region renaming wanted → Ef, ready → Fc
open Go.Deferred renaming ofValue → Ek
open Go.Sem renaming run_bind → DG, run_pure → DQ
open Go.Result renaming andThen_ok → DC
open Go.Machine renaming fenced → H6
open Go.StepsIn renaming trans → Gd
open Go.Vi.DefOk renaming mono → Ga
open Go.ComesIn renaming of_steps → Hv
open Prod.mk renaming injEq → Dm
open Go.Oper renaming semAt_eq → G1
open Go.DataW renaming weightsEach → Ji
namespace Go.Vi
open Go
theorem Ev.castH{P:Program}{Γ:ae}{f:FuncId}{args:List D}{h h' h2:List Blk}{d d2:D}(he:Ev P Γ f args h d h')(hd:d=d2)(hh:h'=h2):Ev P Γ f args h d2 h2:=hd▸hh▸he
theorem CW.cast{P:Program}{Γ:ae}{h0:List Blk}{rd:Bool}{c:Code}{s s' s2:AS}{e e2:Exit}(hw:CW P Γ h0 rd c s e s')(he:e=e2)(hs:s'=s2):CW P Γ h0 rd c s e2 s2:=he▸hs▸hw
def forL{α σ ρ:Type}(f:α→σ→σ⊕ρ):List α→σ→σ⊕ρ
 | [],s=>.inl s
 | a::l,s=>match f a s with
  | .inl s'=>forL f l s'
  | .inr r=>.inr r
def af{σ ρ:Type}(eE:Exit)(sE:σ→AS)(fin:ρ→Exit×AS):σ⊕ρ→Exit×AS
 | .inl s=>(eE,sE s)
 | .inr r=>fin r
def ao{σ ρ:Type}(st:σ→AS)(fin:ρ→Exit×AS):σ⊕ρ→Exit×AS
 | .inl s=>(.normal,st s)
 | .inr r=>fin r
theorem CW.each{P:Program}{Γ:ae}{h0:List Blk}{rd:Bool}{c:Code}{α σ ρ:Type}(l:List α)(f:α→σ→σ⊕ρ)(st:Nat→σ→AS)(eE:Exit)(sE:σ→AS)(fin:ρ→Exit×AS)
  (inv:Nat→σ→Prop) (hE:eE ≠ .normal) (hF:∀r,(fin r).1 ≠ .normal)
  (body:∀i a s,l[i]? = some a→inv i s→(∀s',f a s=.inl s'→inv (i+1) s')∧CW P Γ h0 rd c (st i s) (ao (st (i+1)) fin (f a s)).1 (ao (st (i+1)) fin (f a s)).2)
  (last:∀s,inv l.length s→CW P Γ h0 rd c (st l.length s) eE (sE s)) (s:σ) (h:inv 0 s) :
  CW P Γ h0 rd (.loop c) (st 0 s) (af eE sE fin (forL f l s)).1 (af eE sE fin (forL f l s)).2:=by
 refine CW.loop (ι:={p:Nat×σ // p.1≤l.length∧inv p.1 p.2}) (fun p=>st p.1.1 p.1.2) (fun p=>af eE sE fin (forL f (l.drop p.1.1) p.1.2)) (fun p=>l.length - p.1.1) ?_ ⟨(0,s),Nat.zero_le _,h⟩
 rintro⟨⟨i,s⟩,hi,hv⟩
 simp only at hi hv ⊢
 by_cases hlt:i<l.length
 ·have ha:l[i]? = some l[i]:=D7 hlt
  have hd:l.drop i=l[i]::l.drop (i+1):=List.drop_eq_getElem_cons hlt
  obtain⟨b1,b2⟩:=body i _ s ha hv
  rw[hd]
  simp only[forL]
  cases hf:f l[i] s with
  | inl s' =>
   rw[hf] at b2
   exact .inl ⟨⟨(i+1,s'),hlt,b1 _ hf⟩,by simp only;omega,rfl,b2⟩
  | inr r =>
   rw[hf] at b2
   exact .inr ⟨hF r,b2⟩
 ·have:i=l.length:=by omega
  subst this
  rw[List.drop_length]
  exact .inr ⟨hE,last s hv⟩
def aM:Code→Code
 | .rangeFunc _ _ a _=>a
 | _=>.skip
def ap:Code→Code
 | .rangeFunc _ _ _ b=>b
 | _=>.skip
theorem Iv.round{P:Program}{Γ:ae}{b:Nat}{args:List D}{h h1 h':List Blk}{pend:Option Code}{f:FuncId}{ts:List D}{ps:Array Tmp}{asg body:Code}{t1:List D}{p1:Option Code}{f1:FuncId}{ts1:List D}{ps1:Array Tmp}
  {a1 b1:Code} {e2:Exit} {s2:AS} {d:D} (hb:h[b]? = some (.loop .ready pend f ts ps asg body)) (hlen:args.length=ps.size)
  (hasg:CW P Γ h true asg {t:=dd ts (ps.toList.zip args),h:=h,m:=[]} .normal {t:=t1,h:=h1,m:=[]})
  (hb1:h1[b]? = some (.loop .ready p1 f1 ts1 ps1 a1 b1))
  (hbody:CW P Γ h true body {t:=t1,h:=h1.set b (.loop .busy p1 f1 ts1 ps1 a1 b1),m:=[]} e2 s2)
  (hend:jr b e2 s2=some (d,h')):Iv P Γ (.ref (.yl b)) args h d h' :=
 j9 hb hlen (fun X r hX=>hasg X r hX (fun h=>by cases h)) hb1 (fun X r hX=>hbody X r hX (fun h=>by cases h)) hend
theorem CW.rangeFunc{P:Program}{Γ:ae}(ok:POk P){h0:List Blk}{s s':AS}{g:Operand}{ps:Array Tmp}{asg body:Code}{f:FuncId}{fi ca:List D}{d:D}{h2:List Blk}{e:Exit}(hg:bG (evalD Γ s.t g)=some (f,fi,ca))(hf:dL P f=true)
  (hc:Ev P Γ f (fi++[.ref (.yl (s.h.length+1))]++ca) (s.h++[.defd]++[.loop .ready none 0 s.t ps asg body]) d h2)
  (he:m9 s.h.length s.t s.m h2=some (e,s')):CW P Γ h0 false (.rangeFunc g ps asg body) s e s':=by
 intro X r _ hr
 obtain rfl:=hr rfl
 exact VW.rangeFunc ok hg hf (hc.mono fun _ _ hq=>hq.2) he
def Ref.to(n:Nat):Ref→Ref
 | .ptr _ o=>.ptr n o
 | .vec _ e=>.vec n e
 | .vs _ e i k c=>.vs n e i k c
 | .av _ o k s=>.av n o k s
 | .vp _ e i j=>.vp n e i j
 | .mp _=>.mp n
 | .it _=>.it n
 | .yl _=>.yl n
def idx(x:Nat):Nat→List Nat→Option Nat
 | _,[]=>none
 | k,y::ys=>match x==y with
  | true=>some k
  | false=>idx x (k+1) ys
theorem fa{x:Nat}:∀{ys:List Nat} {k i:Nat},idx x k ys=some i→k≤i∧ys[i - k]? = some x
 | [],k,i,h=>by simp[idx] at h
 | y::ys,k,i,h=>by
  unfold idx at h
  split at h
  ·rename_i e
   simp only[Dj] at h
   subst h
   simp only[beq_iff_eq] at e
   subst e
   simp
  ·obtain⟨h1,h2⟩:=fa h
   refine⟨by omega,?_⟩
   rw[show i - k=(i - (k+1))+1 by omega,Fp]
   exact h2
theorem nr{x:Nat}:∀{ys:List Nat} {k:Nat},idx x k ys=none→x ∉ ys
 | [],k,_=>by simp
 | y::ys,k,h=>by
  unfold idx at h
  split at h
  ·simp at h
  ·rename_i e
   simp only[beq_eq_false_iff_ne,ne_eq] at e
   simp[e,nr h]
theorem rE{x:Nat}{ys:List Nat}{i:Nat}(hn:ys.Nodup)(h:ys[i]? = some x):idx x 0 ys=some i:=by
 cases hi:idx x 0 ys with
 | none=>exact absurd (D1 h) (nr hi)
 | some j =>
  obtain⟨_,h2⟩:=fa hi
  simp only[GS] at h2
  have hj:=(Dq.1 h2).1
  have hi':=(Dq.1 h).1
  rw[D7 hj] at h2
  rw[D7 hi'] at h
  have:ys[j]=ys[i]:=by simp only[Dj] at h h2;rw[h,h2]
  rw[(List.getElem_inj hn).1 this]
def inv(is:List Nat)(r:Ref):D:=match idx r.blk 0 is with
 | some i=>.ref (r.to i)
 | none=>.any
def fwd(is:List Nat)(m:Nat)(r:Ref):D:=match is[r.blk]? with
 | some i=>.ref (r.to i)
 | none=>.ref (r.to (m+(r.blk - is.length)))
def lC:Blk→Bool
 | .mit ..=>true
 | _=>false
section
variable {w:World} {av av':Nat→Prop} {l l':Loc} {h h':List Blk} {f:Ref→D}
mutual
theorem eJ(ha:∀k,av' k→av k)(hf:∀r y,RefRel l h r y→Rel w av' l' h' (f r) y):∀{d:D} {y:Value},Rel w av l h d y→Rel w av' l' h' (FC f d) y
 | .p _,_,r=>by simp only[Rel,FC] at r ⊢;exact cW ha r
 | .any,_,_=>by simp[Rel,FC]
 | .ref r,y,rr=>by simp only[FC];exact hf r y (by simpa only [Rel] using rr)
 | .ep _,_,r=>by
  simp only[Rel,FC] at r ⊢
  obtain⟨blk,off,r1,r2⟩:=r
  exact⟨blk,off,r1,aq ha r2⟩
 | .csl _,_,r=>by
  simp only[Rel,FC] at r ⊢
  rcases r with r|⟨blk,off,sz,r1,r2⟩
  ·exact .inl r
  ·exact .inr ⟨blk,off,sz,r1,bh ha r2⟩
 | .fn _ _ _,_,r=>by
  simp only[Rel,FC] at r ⊢
  obtain⟨a,c,r1,r2,r3⟩:=r
  exact⟨a,c,r1,br ha hf r2,br ha hf r3⟩
 | .agg _,_,r=>by
  simp only[Rel,FC] at r ⊢
  obtain⟨vs,r1,r2⟩:=r
  exact⟨vs,r1,br ha hf r2⟩
 | .tup _,_,r=>by
  simp only[Rel,FC] at r ⊢
  obtain⟨vs,r1,r2⟩:=r
  exact⟨vs,r1,br ha hf r2⟩
 | .grd _ _,_,r=>by
  simp only[Rel,FC] at r ⊢
  exact⟨fun hg=>eJ ha hf (r.1 hg),r.2⟩
theorem br(ha:∀k,av' k→av k)(hf:∀r y,RefRel l h r y→Rel w av' l' h' (f r) y):∀{ds:List D} {ys:List Value},RelL w av l h ds ys→RelL w av' l' h' (Gi f ds) ys
 | [],[],_=>by simp[RelL,Gi]
 | [],_::_,r=>by simp[RelL] at r
 | _::_,[],r=>by simp[RelL] at r
 | _::_,_::_,r=>by
  simp only[RelL,Gi] at r ⊢
  exact⟨eJ ha hf r.1,br ha hf r.2⟩
end
theorem ky(ha:∀k,av' k→av k)(hf:∀r y,RefRel l h r y→Rel w av' l' h' (f r) y):∀{kvs:List (D×D×Nat)} {es:List MapEntry},RelKV w av l h kvs es →
  RelKV w av' l' h' (kvs.map fun e=>(FC f e.1,FC f e.2.1,e.2.2)) es
 | [],[],_=>by simp[RelKV]
 | [],_::_,r=>by simp[RelKV] at r
 | _::_,[],r=>by simp[RelKV] at r
 | (k,d,m)::kvs,e::es,r=>by
  simp only[RelKV,Fm] at r ⊢
  exact⟨eJ ha hf r.1,eJ ha hf r.2.1,r.2.2.1,ky ha hf r.2.2.2⟩
theorem kz(ha:∀k,av' k→av k)(hf:∀r y,RefRel l h r y→Rel w av' l' h' (f r) y){b b':Nat}(hl:l' b'=l b){x:Blk}(hm:lC x=false)(r:BlkOk w av l h b x):BlkOk w av' l' h' b' (x.mapR f):=by
 cases x with
 | var cs =>
  obtain⟨blk,cp,c,T,r1,r2,r3⟩:=r
  exact⟨blk,cp,c,T,hl.trans r1,r2,br ha hf r3⟩
 | vec es e sz =>
  unfold BlkOk at r ⊢
  simp only[Gp,hl] at r ⊢
  split
  ·rename_i h0;rw[h0] at r;simp only at r;rw[r];rfl
  ·rename_i blk cap h0
   rw[h0] at r
   obtain⟨oo,cc,rc,c,T,fr,ys,r1,r2,r3,r4,r5,r6,r7⟩:=r
   refine⟨oo,cc,rc,c,T,fr,ys,r1,r2,by simpa using r3,r4,?_,?_,r7⟩
   ·intro e he
    obtain⟨e0,he0,rfl⟩:=Eb.1 he
    rw[eB];exact r5 e0 he0
   ·rw[←dT];exact br ha hf r6
 | map kvs clock =>
  obtain⟨blk,cp,es,r1,r2,r3⟩:=r
  exact⟨blk,cp,es,hl.trans r1,r2,ky ha hf r3⟩
 | sit s pos =>
  obtain⟨blk,cp,r1,r2⟩:=r
  exact⟨blk,cp,hl.trans r1,r2⟩
 | mit m since seen st=>simp[lC] at hm
 | loop st pend fn tmps params asg body =>
  obtain⟨blk,cp,ts,dr,fn',r1,r2,r3,r4⟩:=r
  exact⟨blk,cp,ts,dr,fn',hl.trans r1,r2,br ha hf r3,r4⟩
 | defd =>
  obtain⟨blk,cp,r1,r2⟩:=r
  exact⟨blk,cp,hl.trans r1,r2⟩
 | gone=>trivial
end
theorem ti{f:Ref→D}(x:Blk):lC (x.mapR f)=lC x:=by cases x<;>rfl
theorem rF{f g:Ref→D}{x y:Blk}(h:(x.mapR f).le y):x.le (y.mapR g)∧(x.stays (y.mapR g)→(x.mapR f).stays y):=by
 cases x<;>cases y<;>simp only[Blk.le,Gp] at h<;>simp_all[Blk.le,Gp,Blk.stays]
theorem kA{l l':Loc}{h h':List Blk}{f:Ref→D}{r:Ref}{n:Nat}{x:Blk}{y:Value}(hx:h[r.blk]? = some x)(hx':h'[n]? = some (x.mapR f))(hl:l' n=l r.blk)(rr:RefRel l h r y):RefRel l' h' (r.to n) y:=by
 unfold RefRel at rr ⊢
 refine⟨rr.1,?_⟩
 have rr:=rr.2
 cases r<;>simp only[Ref.blk] at hx hl<;>simp only[hx] at rr<;>simp only[Ref.to,hx',hl]<;>cases x<;>simp[Gp] at rr ⊢ <;> exact rr
theorem kB{l:Loc}{h:List Blk}{r:Ref}{y:Value}(rr:RefRel l h r y):∃x,h[r.blk]? = some x:=by
 unfold RefRel at rr
 have rr:=rr.2
 cases hx:h[r.blk]? with
 | some x=>exact⟨x,rfl⟩
 | none=>cases r<;>simp only[Ref.blk] at hx<;>simp only[hx] at rr
def pick(is:List Nat)(H:List Blk):List Blk:=is.map fun i=>(H.getD i .gone).mapR (inv is)
theorem jx{is:List Nat}{H:List Blk}{b:Nat}{x:Blk}(h:(pick is H)[b]? = some x):∃i,is[b]? = some i∧x=(H.getD i .gone).mapR (inv is):=by
 unfold pick at h
 rw[E5] at h
 cases hi:is[b]? with
 | none=>rw[hi] at h;simp at h
 | some i=>rw[hi] at h;exact⟨i,rfl,by simpa using h.symm⟩
section
variable {Γ:ae} {O:Nat→Prop} {w:World} {l:Loc} {H:List Blk} {is:List Nat}
def ns(is:List Nat)(l:Loc):Loc:=fun b=>match is[b]? with
 | some i=>l i
 | none=>none
theorem rH{k:Nat}(ho:own (ns is l) (pick is H) k):∃(b i cp:Nat) (x:Blk),is[b]? = some i∧H[i]? = some x∧x ≠ .gone∧l i=some (k,cp):=by
 obtain⟨b,x,cp,h1,h2,h3⟩:=ho
 obtain⟨i,hi,rfl⟩:=jx h1
 unfold ns at h3
 rw[hi] at h3
 have hg:H.getD i .gone ≠ .gone:=fun e=>h2 (by rw[e];rfl)
 refine⟨b,i,cp,H.getD i .gone,hi,?_,hg,h3⟩
 cases hx:H[i]? with
 | none=>simp[Fu,hx] at hg
 | some x=>simp[Fu,hx]
theorem cd{k:Nat}(ho:own (ns is l) (pick is H) k):own l H k:=by
 obtain⟨b,i,cp,x,_,h2,h3,h4⟩:=rH ho
 exact⟨i,x,cp,h2,h3,h4⟩
theorem me(_hn:is.Nodup){r:Ref}{y:Value}(rr:RefRel l H r y){av:Nat→Prop}:Rel w av (ns is l) (pick is H) (inv is r) y:=by
 unfold inv
 cases hi:idx r.blk 0 is with
 | none=>simp[Rel]
 | some i =>
  obtain⟨_,h2⟩:=fa hi
  simp only[GS] at h2
  obtain⟨x,hx⟩:=kB rr
  simp only[Rel]
  refine kA (f:=inv is) hx ?_ ?_ rr
  ·unfold pick
   rw[E5,h2]
   simp[Fu,hx]
  ·unfold ns
   rw[h2]
theorem Rep.pick(R:Rep Γ O w l H)(hn:is.Nodup)(hm:(pick is H).all (fun x=>!lC x)=true){O':Nat→Prop}(hO:∀k,avs O' (ns is l) (Vi.pick is H) k→avs O l H k)(hO2:∀k,O' k→avs O l H k∧¬own (ns is l) (Vi.pick is H) k):
  Rep Γ O' w (ns is l) (Vi.pick is H) where
 inb k ho:=⟨(R.inb k (cd ho)).1,fun h'=>(hO2 k h').2 ho⟩
 obd k ho:=by
  rcases(hO2 k ho).1 with h'|h'
  ·exact R.obd k h'
  ·exact(R.inb k h').1
 inj b b' x x' k c c' h1 h2 h3 h4 h5 h6:=by
  obtain⟨i,hi,rfl⟩:=jx h1
  obtain⟨i',hi',rfl⟩:=jx h3
  unfold ns at h5 h6
  rw[hi] at h5;rw[hi'] at h6
  have g1:H.getD i .gone ≠ .gone:=fun e=>h2 (by rw[e];rfl)
  have g2:H.getD i' .gone ≠ .gone:=fun e=>h4 (by rw[e];rfl)
  have e1:H[i]? = some (H.getD i .gone):=by
   cases hx:H[i]? with
   | none=>simp[Fu,hx] at g1
   | some x=>simp[Fu,hx]
  have e2:H[i']? = some (H.getD i' .gone):=by
   cases hx:H[i']? with
   | none=>simp[Fu,hx] at g2
   | some x=>simp[Fu,hx]
  have:=R.inj i i' _ _ k c c' e1 g1 e2 g2 h5 h6
  subst this
  have a1:=rE hn hi
  have a2:=rE hn hi'
  rw[a1] at a2
  exact F4 a2
 blk b x h1:=by
  obtain⟨i,hi,rfl⟩:=jx h1
  cases hx:H[i]? with
  | none=>simp[Fu,hx,Gp,BlkOk]
  | some x =>
   have hg:H.getD i .gone=x:=by simp[Fu,hx]
   rw[hg] at h1 ⊢
   refine kz hO (fun r y rr=>me hn rr) (b:=i) ?_ ?_ (R.blk i x hx)
   ·unfold ns;rw[hi]
   ·have:=DK.1 hm _ (D1 h1)
    rw[ti] at this
    simpa using this
 glo g cs hg:=aq hO (R.glo g cs hg)
end
def ea(is:List Nat)(m:Nat)(h':List Blk):Nat→List Blk→List Blk
 | _,[]=>[]
 | b,x::xs=>(match idx b 0 is with
  | some i=>(h'.getD i .gone).mapR (fwd is m)
  | none=>x)::ea is m h' (b+1) xs
def mf(is:List Nat)(h':List Blk)(H:List Blk):List Blk:=ea is H.length h' 0 H++(h'.drop is.length).map (Gp (fwd is H.length))
theorem bU{is:List Nat}{m:Nat}{h':List Blk}:∀(b:Nat) (xs:List Blk),(ea is m h' b xs).length=xs.length
 | _,[]=>rfl
 | b,x::xs=>by simp[ea,bU (b+1) xs]
theorem iG{is:List Nat}{m:Nat}{h':List Blk}:∀(b:Nat) (xs:List Blk) (j:Nat),(ea is m h' b xs)[j]? = (xs[j]?).map fun x=>match idx (b+j) 0 is with|some i=>(h'.getD i .gone).mapR (fwd is m)|none=>x
 | b,[],j=>by simp[ea]
 | b,x::xs,0=>by simp[ea]
 | b,x::xs,j+1=>by
  simp only[ea,Fp]
  rw[iG (b+1) xs j,show b+1+j=b+(j+1) by omega]
section
variable {is:List Nat} {h' H:List Blk}
theorem rI{b:Nat}{x:Blk}(hx:H[b]? = some x)(hi:idx b 0 is=none):(mf is h' H)[b]? = some x:=by
 have hlt:=(Dq.1 hx).1
 unfold mf
 rw[DP (by rw[bU];exact hlt),iG,hx]
 simp[hi]
theorem qq{b i:Nat}{x:Blk}(hx:H[b]? = some x)(hi:idx b 0 is=some i):(mf is h' H)[b]? = some ((h'.getD i .gone).mapR (fwd is H.length)):=by
 have hlt:=(Dq.1 hx).1
 unfold mf
 rw[DP (by rw[bU];exact hlt),iG,hx]
 simp[hi]
theorem rJ{j:Nat}:(mf is h' H)[H.length+j]? = (h'[is.length+j]?).map (Gp (fwd is H.length)):=by
 unfold mf
 rw[D4 (by rw[bU];omega),bU,E5,List.getElem?_drop]
 simp
theorem putB_cases{b:Nat}{x:Blk}(h:(mf is h' H)[b]? = some x):
  (idx b 0 is=none∧H[b]? = some x)∨(∃i,b<H.length∧idx b 0 is=some i∧x=(h'.getD i .gone).mapR (fwd is H.length))∨∃j y,b=H.length+j∧h'[is.length+j]? = some y∧x=y.mapR (fwd is H.length):=by
 by_cases hb:b<H.length
 ·have hx:H[b]? = some H[b]:=D7 hb
  cases hi:idx b 0 is with
  | none=>rw[rI hx hi] at h;cases h;exact .inl ⟨rfl,hx⟩
  | some i=>rw[qq hx hi] at h;cases h;exact .inr (.inl ⟨i,hb,rfl,rfl⟩)
 ·obtain⟨j,rfl⟩:∃j,b=H.length+j:=⟨b - H.length,by omega⟩
  rw[rJ] at h
  cases hy:h'[is.length+j]? with
  | none=>rw[hy] at h;simp at h
  | some y=>rw[hy] at h;exact .inr (.inr ⟨j,y,rfl,hy,by simpa using h.symm⟩)
end
def rK(is:List Nat)(m:Nat)(l l0:Loc):Loc:=fun b=>match idx b 0 is with
 | some i=>l0 i
 | none=>match Qd (b<m) with
  | true=>l b
  | false=>l0 (is.length+(b - m))
theorem Ev.frame{P:Program}{Γ:ae}{f:FuncId}{args0 args:List D}{h0 h0' H:List Blk}{d0:D}(is:List Nat)(he:Ev P Γ f args0 h0 d0 h0')(hn:is.Nodup)(hb:∀i∈is,i<H.length)
  (ha:Gi (inv is) args=args0) (hh:pick is H=h0) (hm:(h0.all (fun x=>!lC x)&&h0'.all (fun x=>!lC x))=true) :
  Ev P Γ f args H (d0.mapR (fwd is H.length)) (mf is h0' H):=by
 simp only[Dr] at hm
 subst hh ha
 intro O w l vs R ra
 let O':Nat→Prop:=fun k=>avs O l H k∧¬own (ns is l) (pick is H) k
 have hO1:∀k,avs O' (ns is l) (pick is H) k→avs O l H k:=fun k ho=>ho.elim (·.1) (fun h=>.inr (cd h))
 have hO2:∀k,avs O l H k→avs O' (ns is l) (pick is H) k:=fun k ho=>by
  by_cases h:own (ns is l) (pick is H) k
  ·exact .inr h
  ·exact .inl ⟨ho,h⟩
 have R0:Rep Γ O' w (ns is l) (pick is H):=R.pick hn hm.1 hO1 (fun k h=>h)
 have ra0:RelL w (avs O' (ns is l) (pick is H)) (ns is l) (pick is H) (Gi (inv is) args) vs:=br hO1 (fun r y rr=>me hn rr) ra
 refine Fi (he O' w (ns is l) vs R0 ra0) ?_
 rintro e w' ⟨v,d2,h2,l',rfl,⟨rfl,rfl⟩,R',E',rd⟩
 have hlen:is.length≤h2.length:=by
  rcases Nat.lt_or_ge h2.length is.length with hlt|hge
  ·exfalso
   have hp:(pick is H)[h2.length]? ≠ none:=by
    unfold pick;rw[E5];simp[hlt]
   cases hx:(pick is H)[h2.length]? with
   | none=>exact hp hx
   | some x =>
    obtain⟨x',h1,_⟩:=E'.keep _ x hx
    simp at h1
  ·exact hge
 have hisP:∀{b i:Nat},is[b]? = some i→∃x,H[i]? = some x∧(pick is H)[b]? = some (x.mapR (inv is)):=fun {b i} hi=>by
  have hlt:=hb i (D1 hi)
  refine⟨H[i],D7 hlt,?_⟩
  unfold pick
  rw[E5,hi]
  simp[Fu,D7 hlt]
 have L1:∀{i b:Nat},is[i]? = some b→rK is H.length l l' b=l' i:=fun {i b} hi=>by
  unfold rK;rw[rE hn hi]
 have L2:∀{b:Nat},idx b 0 is=none→b<H.length→rK is H.length l l' b=l b:=fun {b} h1 h2=>by
  unfold rK;rw[h1];simp[h2]
 have L3:∀{j:Nat},rK is H.length l l' (H.length+j)=l' (is.length+j):=fun {j}=>by
  unfold rK
  have:idx (H.length+j) 0 is=none:=by
   cases hi:idx (H.length+j) 0 is with
   | none=>rfl
   | some i =>
    obtain⟨_,h2⟩:=fa hi
    have:=hb _ (D1 h2)
    omega
  rw[this]
  have:Qd (H.length+j<H.length)=false:=by simp
  simp only[this,show is.length+(H.length+j - H.length)=is.length+j by omega]
 have back:∀{b:Nat} {x:Blk},(mf is h2 H)[b]? = some x→(idx b 0 is=none∧H[b]? = some x)∨∃i y,h2[i]? = some y∧x=y.mapR (fwd is H.length)∧rK is H.length l l' b=l' i∧(∀b' x',(mf is h2 H)[b']? = some x'→(idx b' 0 is=none∧H[b']? = some x')∨∃i' y',h2[i']? = some y'∧x'=y'.mapR (fwd is H.length)∧rK is H.length l l' b'=l' i'∧(i=i'→b=b')):=by
  have one:∀{b:Nat} {x:Blk},(mf is h2 H)[b]? = some x→(idx b 0 is=none∧H[b]? = some x)∨∃i y,h2[i]? = some y∧x=y.mapR (fwd is H.length)∧rK is H.length l l' b=l' i∧((i<is.length∧is[i]? = some b)∨(is.length≤i∧b=H.length+(i - is.length))):=by
   intro b x hx
   rcases putB_cases hx with h|⟨i,h1,h3,rfl⟩|⟨j,y,rfl,h3,rfl⟩
   ·exact .inl h
   ·obtain⟨_,h4⟩:=fa h3
    simp only[GS] at h4
    have hi:=(Dq.1 h4).1
    have:h2[i]? = some (h2.getD i .gone):=by
     rw[Fu,D7 (by omega)];rfl
    exact .inr ⟨i,_,this,rfl,L1 h4,.inl ⟨hi,h4⟩⟩
   ·exact .inr ⟨_,y,h3,rfl,L3,.inr ⟨by omega,by omega⟩⟩
  intro b x hx
  rcases one hx with h|⟨i,y,h1,h3,h4,h5⟩
  ·exact .inl h
  ·refine .inr ⟨i,y,h1,h3,h4,fun b' x' hx'=>?_⟩
   rcases one hx' with h|⟨i',y',g1,g3,g4,g5⟩
   ·exact .inl h
   ·refine .inr ⟨i',y',g1,g3,g4,fun e=>?_⟩
    subst e
    rcases h5 with ⟨a1,a2⟩|⟨a1,a2⟩<;>rcases g5 with ⟨c1,c2⟩|⟨c1,c2⟩
    ·rw[a2] at c2;exact F4 c2
    ·omega
    ·omega
    ·omega
 have hgone:∀{y:Blk},y.mapR (fwd is H.length) ≠ .gone→y ≠ .gone:=fun {y} h e=>h (by rw[e];rfl)
 have oldO:∀{b:Nat} {x:Blk} {k c:Nat},idx b 0 is=none→H[b]? = some x→x ≠ .gone→l b=some (k,c)→O' k:=fun {b x k c} hi hx hg hl=>by
  refine⟨.inr ⟨b,x,c,hx,hg,hl⟩,fun ho=>?_⟩
  obtain⟨b',i,cp,x',q1,q2,q3,q4⟩:=rH ho
  have:=R.inj b i x x' k c cp hx hg q2 q3 hl q4
  subst this
  exact nr hi (D1 q1)
 have ownL:∀{k:Nat},own (rK is H.length l l') (mf is h2 H) k→own l' h2 k∨(own l H k∧O' k):=fun {k} ⟨b,x,cp,g1,g2,g3⟩=>by
  rcases back g1 with ⟨a1,a2⟩|⟨i,y,a1,a2,a3,_⟩
  ·have hlt:=(Dq.1 a2).1
   rw[L2 a1 hlt] at g3
   exact .inr ⟨⟨b,x,cp,a2,g2,g3⟩,oldO a1 a2 g2 g3⟩
  ·rw[a3] at g3
   exact .inl ⟨i,y,cp,a1,hgone (a2▸g2),g3⟩
 have avL:∀k,avs O (rK is H.length l l') (mf is h2 H) k→avs O' l' h2 k:=fun k ho=>by
  rcases ho with ho|ho
  ·refine .inl ⟨.inl ho,fun h=>(R.inb k (cd h)).2 ho⟩
  ·rcases ownL ho with h|h
   ·exact .inr h
   ·exact .inl h.2
 have hf:∀(r:Ref) (y:Value),RefRel l' h2 r y→Rel w' (avs O (rK is H.length l l') (mf is h2 H)) (rK is H.length l l') (mf is h2 H) (fwd is H.length r) y:=fun r y rr=>by
  obtain⟨x,hx⟩:=kB rr
  unfold fwd
  cases hi:is[r.blk]? with
  | some b =>
   simp only[Rel]
   obtain⟨x0,q1,_⟩:=hisP hi
   refine kA hx ?_ (L1 hi) rr (f:=fwd is H.length)
   rw[qq q1 (rE hn hi)]
   simp[Fu,hx]
  | none =>
   simp only[Rel]
   have hge:is.length≤r.blk:=by simpa using hi
   refine kA hx ?_ ?_ rr (f:=fwd is H.length)
   ·rw[rJ,show is.length+(r.blk - is.length)=r.blk by omega,hx];rfl
   ·rw[L3,show is.length+(r.blk - is.length)=r.blk by omega]
 have E:Ext w l H w' (rK is H.length l l') (mf is h2 H):=by
  refine⟨E'.size,fun blk hlt hno=>E'.same blk hlt (fun ho=>hno (cd ho)),fun blk ho=>?_,fun b x hx=>?_,E'.tape⟩
  ·rcases ownL ho with h|h
   ·rcases E'.news blk h with h|h
    ·exact .inl (cd h)
    ·exact .inr h
   ·exact .inl h.1
  ·have hlt:=(Dq.1 hx).1
   cases hi:idx b 0 is with
   | none=>exact⟨x,rI hx hi,x.le_refl,fun _=>L2 hi hlt⟩
   | some i =>
    obtain⟨_,h4⟩:=fa hi
    simp only[GS] at h4
    obtain⟨x0,q1,q2⟩:=hisP h4
    rw[hx] at q1;cases q1
    obtain⟨x',k1,k2,k3⟩:=E'.keep i _ q2
    have hgd:h2.getD i .gone=x':=by simp[Fu,k1]
    refine⟨_,qq hx hi,?_,fun hs=>?_⟩
    ·rw[hgd];exact(rF k2).1
    ·rw[hgd] at hs
     rw[L1 h4,k3 ((rF k2).2 hs)]
     unfold ns;rw[h4]
 refine⟨v,_,_,_,rfl,⟨rfl,rfl⟩,⟨fun k ho=>?_,fun k ho=>E7 (R.obd k ho) E'.size,?_,fun b x hx=>?_,fun g cs hg=>?_⟩,E,?_⟩
 ·rcases ownL ho with h|h
  ·obtain⟨p1,p2⟩:=R'.inb k h
   refine⟨p1,fun hk=>p2 ⟨.inl hk,fun ho'=>(R.inb k (cd ho')).2 hk⟩⟩
  ·obtain⟨p1,p2⟩:=R.inb k h.1
   exact⟨E7 p1 E'.size,p2⟩
 ·intro b b' x x' k c c' g1 g2 g3 g4 g5 g6
  rcases back g1 with ⟨a1,a2⟩|⟨i,y,a1,a2,a3,a4⟩
  ·have hlt:=(Dq.1 a2).1
   rw[L2 a1 hlt] at g5
   rcases back g3 with ⟨d1,d2⟩|⟨i',y',d1,d2,d3,_⟩
   ·have hlt':=(Dq.1 d2).1
    rw[L2 d1 hlt'] at g6
    exact R.inj b b' x x' k c c' a2 g2 d2 g4 g5 g6
   ·rw[d3] at g6
    exact absurd (oldO a1 a2 g2 g5) (R'.inb k ⟨i',y',c',d1,hgone (d2▸g4),g6⟩).2
  ·rw[a3] at g5
   rcases a4 b' x' g3 with ⟨d1,d2⟩|⟨i',y',d1,d2,d3,d4⟩
   ·have hlt':=(Dq.1 d2).1
    rw[L2 d1 hlt'] at g6
    exact absurd (oldO d1 d2 g4 g6) (R'.inb k ⟨i,y,c,a1,hgone (a2▸g2),g5⟩).2
   ·rw[d3] at g6
    exact d4 (R'.inj i i' y y' k c c' a1 (hgone (a2▸g2)) d1 (hgone (d2▸g4)) g5 g6)
 ·rcases back hx with ⟨a1,a2⟩|⟨i,y,a1,rfl,a3,_⟩
  ·have hlt:=(Dq.1 a2).1
   by_cases hg:x=.gone
   ·subst hg;trivial
   refine BlkOk.ext E (L2 a1 hlt) (fun blk cp hl=>?_) (R.blk b x a2)
   exact E'.same blk (R.inb blk ⟨b,x,cp,a2,hg,hl⟩).1 (oldO a1 a2 hg hl).2
  ·refine kz avL hf a3 ?_ (R'.blk i y a1)
   have:=DK.1 hm.2 y (D1 a1)
   simpa using this
 ·exact Ha E.hc g 0 cs (R.glo g cs hg)
 ·exact eJ avL hf rd
def rL:List Nat→Bool
 | []=>true
 | x::xs=>!uA x xs&&rL xs
theorem mg:∀{xs:List Nat},rL xs=true→xs.Nodup
 | [],_=>Hu
 | x::xs,h=>by
  simp only[rL,Dr,Bool.not_eq_true'] at h
  refine List.nodup_cons.2 ⟨fun hm=>?_,mg h.2⟩
  rw[dV.2 hm] at h
  simp at h
def xk(is:List Nat)(H:List Blk):List Nat→List Blk
 | []=>[]
 | i::js=>keepX (inv is) (H.getD i .gone)::xk is H js
def Af(is:List Nat)(H:List Blk):List Nat→List Prop
 | []=>[]
 | i::js=>lA (inv is) (H.getD i .gone)++Af is H js
theorem rM{is:List Nat}{H:List Blk}:∀{js:List Nat},AllP (Af is H js)→xk is H js=js.map fun i=>(H.getD i .gone).mapR (inv is)
 | [],_=>rfl
 | i::js,h=>by
  obtain⟨h1,h2⟩:=HU (ps:=lA (inv is) (H.getD i .gone)) h
  simp only[xk,Fm,ju h1,rM h2]
def nt(is:List Nat)(m:Nat)(h':List Blk):Nat→List Blk→List Blk
 | _,[]=>[]
 | b,x::xs=>(match idx b 0 is with
  | some i=>keepX (fwd is m) (h'.getD i .gone)
  | none=>x)::nt is m h' (b+1) xs
def mapX(f:Ref→D):List Blk→List Blk
 | []=>[]
 | x::xs=>keepX f x::mapX f xs
def mapP(f:Ref→D):List Blk→List Prop
 | []=>[]
 | x::xs=>lA f x++mapP f xs
theorem uN{f:Ref→D}:∀{h:List Blk},AllP (mapP f h)→mapX f h=h.map (Gp f)
 | [],_=>rfl
 | x::xs,h=>by
  obtain⟨h1,h2⟩:=HU (ps:=lA f x) h
  simp only[mapX,Fm,ju h1,uN h2]
theorem rN{f:Ref→D}:∀{h:List Blk} (i:Nat),AllP (mapP f h)→AllP (lA f (h.getD i .gone))
 | [],i,_=>by simp[lA,AllP]
 | x::xs,i,h=>by
  obtain⟨h1,h2⟩:=HU (ps:=lA f x) h
  cases i with
  | zero=>exact h1
  | succ i=>simpa using rN i h2
theorem pk{f:Ref→D}:∀{h:List Blk} (i:Nat),AllP (mapP f h)→AllP (mapP f (h.drop i))
 | [],i,_=>by simp[mapP,AllP]
 | x::xs,i,h=>by
  cases i with
  | zero=>exact h
  | succ i =>
   obtain⟨h1,h2⟩:=HU (ps:=lA f x) h
   exact pk i h2
theorem mh{is:List Nat}{m:Nat}{h':List Blk}(hp:AllP (mapP (fwd is m) h')):∀(b:Nat) (xs:List Blk),nt is m h' b xs=ea is m h' b xs
 | _,[]=>rfl
 | b,x::xs=>by
  simp only[nt,ea,mh hp (b+1) xs]
  cases idx b 0 is with
  | none=>rfl
  | some i=>simp only[ju (rN i hp)]
def putX(is:List Nat)(h':List Blk)(H:List Blk):List Blk:=nt is H.length h' 0 H++mapX (fwd is H.length) (h'.drop is.length)
theorem Ag{is:List Nat}{h' H:List Blk}(hp:AllP (mapP (fwd is H.length) h')):putX is h' H=mf is h' H:=by
 unfold putX mf
 rw[mh hp,uN (pk _ hp)]
def uO(is:List Nat)(h0 h0' H:List Blk):Bool:=rL is&&is.all (fun i=>Qd (i<H.length))&&(h0.all (fun x=>!lC x)&&h0'.all (fun x=>!lC x))
theorem Ev.frameX{P:Program}{Γ:ae}{f:FuncId}{args0 args:List D}{h0 h0' H:List Blk}{d0:D}(is:List Nat)(he:Ev P Γ f args0 h0 d0 h0')(hk:uO is h0 h0' H=true)
  (ha:Gi (inv is) args=args0) (hh:xk is H is=h0) (p1:AllP (Af is H is)) (p2:AllP (mapP (fwd is H.length) h0')):Ev P Γ f args H (d0.mapR (fwd is H.length)) (putX is h0' H):=by
 simp only[uO,Dr] at hk
 rw[Ag p2]
 refine Ev.frame is he (mg hk.1.1) (fun i hi=>?_) ha ?_ (by rw[hk.2.1,hk.2.2];rfl)
 ·have:=DK.1 hk.1.2 i hi
  simpa using this
 ·rw[←hh,rM p1];rfl
def fwd0(m:Nat)(r:Ref):D:=.ref (r.to (m+r.blk))
theorem uP(m:Nat):fwd [] m=fwd0 m:=by
 funext r;simp[fwd,fwd0]
theorem Ev.frameN{P:Program}{Γ:ae}{f:FuncId}{args:List D}{h0':List Blk}{d0:D}(he:Ev P Γ f args [] d0 h0')(hm:h0'.all (fun x=>!lC x)=true)
  (ha:Eh 0 args=true) (h:List Blk):Ev P Γ f args h (d0.mapR (fwd0 h.length)) (h++h0'.map (Gp (fwd0 h.length))):=by
 have hr:∀(f:Ref→D),(∀d,FU 0 d=true→FC f d=d)∧∀ds,Eh 0 ds=true→Gi f ds=ds:=fun f=>by
  refine⟨?_,?_⟩
  ·intro d
   refine D.rec (motive_1:=fun d=>FU 0 d=true→FC f d=d) (motive_2:=fun ds=>Eh 0 ds=true→Gi f ds=ds) ?_ ?_ ?_ ?_ ?_ ?_ ?_ ?_ ?_ ?_ ?_ d
   ·intros;rfl
   ·intros;rfl
   ·intro r h;cases r<;>simp[FU] at h
   ·intros;rfl
   ·intros;rfl
   ·intro g a b ih1 ih2 h;simp only[FU,Dr] at h;simp only[FC,ih1 h.1,ih2 h.2]
   ·intro cs ih h;simp only[FU] at h;simp only[FC,ih h]
   ·intro cs ih h;simp only[FU] at h;simp only[FC,ih h]
   ·intro g d ih h;simp only[FU] at h;simp only[FC,ih h]
   ·intros;rfl
   ·intro d ds ih1 ih2 h;simp only[Eh,Dr] at h;simp only[Gi,ih1 h.1,ih2 h.2]
  ·intro ds
   refine D.rec_1 (motive_1:=fun d=>FU 0 d=true→FC f d=d) (motive_2:=fun ds=>Eh 0 ds=true→Gi f ds=ds) ?_ ?_ ?_ ?_ ?_ ?_ ?_ ?_ ?_ ?_ ?_ ds
   ·intros;rfl
   ·intros;rfl
   ·intro r h;cases r<;>simp[FU] at h
   ·intros;rfl
   ·intros;rfl
   ·intro g a b ih1 ih2 h;simp only[FU,Dr] at h;simp only[FC,ih1 h.1,ih2 h.2]
   ·intro cs ih h;simp only[FU] at h;simp only[FC,ih h]
   ·intro cs ih h;simp only[FU] at h;simp only[FC,ih h]
   ·intro g d ih h;simp only[FU] at h;simp only[FC,ih h]
   ·intros;rfl
   ·intro d ds ih1 ih2 h;simp only[Eh,Dr] at h;simp only[Gi,ih1 h.1,ih2 h.2]
 have:=Ev.frame (H:=h) [] he Hu (by simp) ((hr _).2 args ha) rfl (by simpa using hm)
 rw[uP] at this
 have e:mf [] h0' h=h++h0'.map (Gp (fwd0 h.length)):=by
  unfold mf
  have:∀(b:Nat) (xs:List Blk),ea [] h.length h0' b xs=xs:=by
   intro b xs
   induction xs generalizing b with
   | nil=>rfl
   | cons x xs ih=>simp[ea,idx,ih]
  rw[this,uP]
  simp
 rw[e] at this
 exact this
def GLe(Γ Γ':ae):Prop:=∀g cs,Γ g=some cs→Γ' g=some cs
theorem GLe.none(Γ':ae):GLe (fun _=>Option.none) Γ':=fun _ _ h=>by simp at h
theorem Rep.less{Γ Γ':ae}{O:Nat→Prop}{w:World}{l:Loc}{h:List Blk}(hg:GLe Γ Γ')(R:Rep Γ' O w l h):Rep Γ O w l h :=
 ⟨R.inb,R.obd,R.inj,R.blk,fun g cs h=>R.glo g cs (hg g cs h)⟩
theorem Rep.more{Γ Γ':ae}{O:Nat→Prop}{w w':World}{l l':Loc}{h h':List Blk}(R:Rep Γ' O w l h)(E:Ext w l h w' l' h')(R':Rep Γ O w' l' h'):Rep Γ' O w' l' h' :=
 ⟨R'.inb,R'.obd,R'.inj,R'.blk,fun g cs hg=>Ha E.hc g 0 cs (R.glo g cs hg)⟩
theorem Ev.glob{P:Program}{Γ Γ':ae}(hg:GLe Γ Γ'){f:FuncId}{args:List D}{h h':List Blk}{d:D}(he:Ev P Γ f args h d h'):Ev P Γ' f args h d h':=by
 intro O w l vs R ra
 refine Fi (he O w l vs (R.less hg) ra) ?_
 rintro e w' ⟨v,d2,h2,l',rfl,hq,R',E',rd⟩
 exact⟨v,d2,h2,l',rfl,hq,R.more E' R',E',rd⟩
theorem Ev.glob0{P:Program}{Γ':ae}{f:FuncId}{args:List D}{h h':List Blk}{d:D}(he:Ev P (fun _=>none) f args h d h'):Ev P Γ' f args h d h':=he.glob (GLe.none Γ')
mutual
def D.nilW:D→D
 | .p (.v (.slice none 0 0))=>.p (.sl [])
 | .agg cs=>.agg (D.nilWL cs)
 | .tup cs=>.tup (D.nilWL cs)
 | d=>d
def D.nilWL:List D→List D
 | []=>[]
 | d::ds=>D.nilW d::D.nilWL ds
end
mutual
theorem rO{w:World}{av:Nat→Prop}{l:Loc}{h:List Blk}:∀(d:D) (y:Value),Rel w av l h d y→Rel w av l h (D.nilW d) y
 | .p x,y,r=>by
  unfold D.nilW
  split
  ·rename_i hx
   simp only[D.p.injEq] at hx
   subst hx
   simp only[Rel,RelP] at r ⊢
   exact .inl ⟨trivial,none,0,r,fun _=>rfl⟩
  ·rename_i hx;cases hx
  ·rename_i hx;cases hx
  ·exact r
 | .agg cs,y,r=>by
  simp only[D.nilW,Rel] at r ⊢
  obtain⟨vs,r1,r2⟩:=r
  exact⟨vs,r1,gO cs vs.toList r2⟩
 | .tup cs,y,r=>by
  simp only[D.nilW,Rel] at r ⊢
  obtain⟨vs,r1,r2⟩:=r
  exact⟨vs,r1,gO cs vs.toList r2⟩
 | .any,_,r=>r
 | .ref _,_,r=>r
 | .ep _,_,r=>r
 | .csl _,_,r=>r
 | .fn _ _ _,_,r=>r
 | .grd _ _,_,r=>r
theorem gO{w:World}{av:Nat→Prop}{l:Loc}{h:List Blk}:∀(ds:List D) (ys:List Value),RelL w av l h ds ys→RelL w av l h (D.nilWL ds) ys
 | [],[],_=>trivial
 | [],_::_,r=>by simp[RelL] at r
 | _::_,[],r=>by simp[RelL] at r
 | d::ds,y::ys,r=>by
  simp only[RelL,D.nilWL] at r ⊢
  exact⟨rO d y r.1,gO ds ys r.2⟩
end
theorem Ev.nilW{P:Program}{Γ:ae}{f:FuncId}{args:List D}{h h':List Blk}{d:D}(he:Ev P Γ f args h d h'):Ev P Γ f args h d.nilW h':=by
 intro O w l vs R ra
 refine Fi (he O w l vs R ra) ?_
 rintro e w' ⟨v,d2,h2,l',rfl,⟨rfl,rfl⟩,R',E',rd⟩
 exact⟨v,_,_,l',rfl,⟨rfl,rfl⟩,R',E',rO _ _ rd⟩
def au(fn:Func):Code:=match fn.body with
 | some c=>c
 | none=>.skip
theorem pm{sz:Nat}:∀(es:List (List D)) (n:Nat) (row:List D),(∀r∈es,r.length=sz)→es[n]? = some row→∃rest,es.flatten.drop (n*sz)=row++rest
 | [],n,row,_,h=>by simp at h
 | e::es,0,row,hs,h=>by
  simp at h;subst h
  exact⟨es.flatten,by simp⟩
 | e::es,n+1,row,hs,h=>by
  simp only[Fp] at h
  obtain⟨rest,hr⟩:=pm es n row (fun r hr=>hs r (by simp[hr])) h
  refine⟨rest,?_⟩
  have he:e.length=sz:=hs e (by simp)
  rw[Eu,List.drop_append_of_le_length' e es.flatten n sz he,hr]
where
 List.drop_append_of_le_length' (e t:List D) (n sz:Nat) (he:e.length=sz):(e++t).drop ((n+1)*sz)=t.drop (n*sz):=by
  rw[show(n+1)*sz=e.length+n*sz by rw[he,EX];omega,GG]
  simp
theorem kC{sz:Nat}:∀(es:List (List D)) (n:Nat) (new:List D),(∀r∈es,r.length=sz)→new.length=sz→n<es.length→ba es.flatten (n*sz) new=(es.set n new).flatten
 | [],n,new,_,_,h=>by simp at h
 | e::es,0,new,hs,hn,_=>by
  have he:e.length=sz:=hs e (by simp)
  simp[ba,hn,←he]
 | e::es,n+1,new,hs,hn,h=>by
  have he:e.length=sz:=hs e (by simp)
  have ih:=kC es n new (fun r hr=>hs r (by simp[hr])) hn (by simpa using h)
  simp only[List.set_cons_succ,Eu,←ih]
  unfold ba
  have e1:(n+1)*sz=e.length+n*sz:=by rw[he,EX];omega
  rw[e1,List.take_append,GG]
  have h1:List.take (e.length+n*sz) e=e:=List.take_of_length_le (by omega)
  have h2:List.drop (e.length+n*sz+new.length) e=[]:=List.drop_eq_nil_of_le (by omega)
  rw[h1,h2]
  have h3:e.length+n*sz - e.length=n*sz:=by omega
  have h4:e.length+n*sz+new.length - e.length=n*sz+new.length:=by omega
  rw[h3,h4]
  simp[FA]
theorem rP{sz:Nat}:∀(es:List (List D)),(∀r∈es,r.length=sz)→es.flatten.length=es.length*sz
 | [],_=>by simp
 | e::es,hs=>by
  rw[Eu,List.length_append,rP es (fun r hr=>hs r (by simp[hr])),hs e (by simp),Ex,EX];omega
section
variable {P:Program} {h:List Blk} {b sz:Nat} {es:List (List D)}
theorem xl{ty:TypeId}(ha:C6 P ty=some true)(hz:szOf P ty=some sz)(hb:h[b]? = some (.var es.flatten))(hs:∀r∈es,r.length=sz){n:Nat}{row:List D}(hn:es[n]? = some row):bw P h ty (.ref (.ptr b (n*sz)))=some (.agg row):=by
 obtain⟨rest,hr⟩:=pm es n row hs hn
 have hl:row.length=sz:=hs row (D1 hn)
 unfold bw
 simp only[hb,hr,dI,ha,hz]
 rw[if_pos (by simp;omega),←hl]
 simp
theorem uQ{ty:TypeId}{x:D}{new:List D}(hx:x.cells=some new)(hz:szOf P ty=some sz)(hl:new.length=sz)(hb:h[b]? = some (.var es.flatten))(hs:∀r∈es,r.length=sz){n:Nat}(hn:n<es.length):ft P h ty (.ref (.ptr b (n*sz))) x=some (h.set b (.var (es.set n new).flatten)):=by
 unfold ft
 simp only[hx,hz,hl,hb]
 have:(n+1)*sz≤es.length*sz:=Nat.mul_le_mul_right _ hn
 rw[EX] at this
 rw[if_pos trivial,if_pos (by rw[rP es hs];omega),kC es n new hs hl hn]
end
def sameBlk:Blk→Blk→Bool
 | .var a,.var b=>jh a b
 | .vec a e s,.vec b e' s'=>sameLL a b&&(Qd (e=e')&&Qd (s=s'))
 | .map a c,.map b c'=>sameKV a b&&Qd (c=c')
 | .gone,.gone=>true
 | .defd,.defd=>true
 | .mit (some a) b c d,.mit (some a') b' c' d'=>(Qd (a=a')&&Qd (b=b'))&&(Qd (c=c')&&Qd (d=d'))
 | .mit none b c d,.mit none b' c' d'=>Qd (b=b')&&(Qd (c=c')&&Qd (d=d'))
 | _,_=>false
where
 sameLL:List (List D)→List (List D)→Bool
  | [],[]=>true
  | a::as,b::bs=>jh a b&&sameLL as bs
  | _,_=>false
 sameKV:List (D×D×Nat)→List (D×D×Nat)→Bool
  | [],[]=>true
  | (k,d,n)::as,(k',d',n')::bs=>(sameD k k'&&sameD d d')&&(Qd (n=n')&&sameKV as bs)
  | _,_=>false
def qr:List Blk→List Blk→Bool
 | [],[]=>true
 | a::as,b::bs=>sameBlk a b&&qr as bs
 | _,_=>false
theorem pn:∀{a b:List (List D)},sameBlk.sameLL a b=true→a=b
 | [],[],_=>rfl
 | a::as,b::bs,h=>by simp only[sameBlk.sameLL,Dr] at h;rw[sameL_eq h.1,pn h.2]
 | [],_::_,h=>by simp[sameBlk.sameLL] at h
 | _::_,[],h=>by simp[sameBlk.sameLL] at h
theorem po:∀{a b:List (D×D×Nat)},sameBlk.sameKV a b=true→a=b
 | [],[],_=>rfl
 | (k,d,n)::as,(k',d',n')::bs,h=>by
  simp only[sameBlk.sameKV,Dr,decide_eq_true_eq] at h
  rw[eX h.1.1,eX h.1.2,h.2.1,po h.2.2]
 | [],_::_,h=>by simp[sameBlk.sameKV] at h
 | _::_,[],h=>by simp[sameBlk.sameKV] at h
theorem tj{a b:Blk}(h:sameBlk a b=true):a=b:=by
 unfold sameBlk at h
 split at h
 ·rw[sameL_eq h]
 ·simp only[Dr,decide_eq_true_eq] at h;rw[pn h.1,h.2.1,h.2.2]
 ·simp only[Dr,decide_eq_true_eq] at h;rw[po h.1,h.2]
 ·rfl
 ·rfl
 ·simp only[Dr,decide_eq_true_eq] at h;rw[h.1.1,h.1.2,h.2.1,h.2.2]
 ·simp only[Dr,decide_eq_true_eq] at h;rw[h.1,h.2.1,h.2.2]
 ·cases h
theorem nu:∀{a b:List Blk},qr a b=true→a=b
 | [],[],_=>rfl
 | a::as,b::bs,h=>by simp only[qr,Dr] at h;rw[tj h.1,nu h.2]
 | [],_::_,h=>by simp[qr] at h
 | _::_,[],h=>by simp[qr] at h
structure Memo where
 f:FuncId
 args:List D
 h:List Blk
 r:CR
def Memo.hit(m:Memo)(f:FuncId)(args:List D)(h:List Blk):Bool:=match Nat.beq m.f f with
 | true=>match jh m.args args with
  | true=>qr m.h h
  | false=>false
 | false=>false
def uR:List Memo→FnF
 | [],_,_,_=>none
 | m::ms,f,args,h=>match m.hit f args h with
  | true=>some m.r
  | false=>uR ms f args h
def Memo.Ok(P:Program)(Γ:ae)(m:Memo):Prop:=dL P m.f=true∧VRes P Γ m.f m.args m.h m.r
def qt(P:Program)(Γ:ae):List Memo→Prop
 | []=>True
 | m::ms=>m.Ok P Γ∧qt P Γ ms
theorem Memo.hit_eq{m:Memo}{f:FuncId}{args:List D}{h:List Blk}(hh:m.hit f args h=true):m.f=f∧m.args=args∧m.h=h:=by
 unfold Memo.hit at hh
 split at hh
 ·rename_i h1
  split at hh
  ·rename_i h2
   exact⟨I4 h1,sameL_eq h2,nu hh⟩
  ·cases hh
 ·cases hh
theorem rQ{P:Program}{Γ:ae}:∀{ms:List Memo},qt P Γ ms→FnOk P Γ (uR ms)
 | [],_,_,_,_,_,h=>by simp[uR] at h
 | m::ms,hm,f,args,h,r,hw=>by
  simp only[uR] at hw
  split at hw
  ·rename_i hh
   obtain⟨rfl,rfl,rfl⟩:=Memo.hit_eq hh
   cases hw
   exact hm.1
  ·exact rQ hm.2 _ _ _ _ hw
def uS:CR→CR→Bool
 | .ret d h,.ret d' h'=>sameD d d'&&qr h h'
 | _,_=>false
theorem uT{a b:CR}(h:uS a b=true):a=b:=by
 unfold uS at h
 split at h
 ·simp only[Dr] at h;rw[eX h.1,nu h.2]
 ·cases h
def Memo.runs(P:Program)(Γ:ae)(ms:List Memo)(m:Memo):Bool:=match dL P m.f,lz P Γ (uR ms) 100000 m.f m.args m.h with
 | true,some r=>uS r m.r
 | _,_=>false
theorem Memo.ok_of{P:Program}{Γ:ae}(ok:POk P){ms:List Memo}{m:Memo}(hr:m.runs P Γ ms=true)(hm:qt P Γ ms):m.Ok P Γ:=by
 unfold Memo.runs at hr
 split at hr
 ·rename_i r h1 h2
  refine⟨h1,?_⟩
  rw[←uT hr]
  exact VRes.of_run ok (rQ hm) h2
 ·cases hr
theorem Memo.call{P:Program}{Γ:ae}{m:Memo}{d:D}{h':List Blk}(hm:m.Ok P Γ)(hr:m.r=.ret d h'):VCall P Γ m.f m.args m.h fun d2 h2=>d2=d∧h2=h':=by
 have:=hm.2
 rw[hr] at this
 exact this.call
def ce:List D→Option (List Dp)
 | []=>some []
 | .p x::ds=>match ce ds with
  | some xs=>some (x::xs)
  | none=>none
 | _=>none
def gP:List (List D)→Option (List (List Dp))
 | []=>some []
 | r::rs=>match ce r,gP rs with
  | some x,some xs=>some (x::xs)
  | _,_=>none
def frzV(d:D)(e:Nat):Option Blk→D
 | some (.vec es e' _)=>match Nat.beq e' e,gP es with
  | true,some rows=>.p (.sl rows)
  | _,_=>d
 | _=>d
mutual
def kD(h:List Blk):D→D
 | .ref (.vec b e)=>frzV (.ref (.vec b e)) e h[b]?
 | .agg cs=>.agg (uU h cs)
 | d=>d
def uU(h:List Blk):List D→List D
 | []=>[]
 | d::ds=>kD h d::uU h ds
end
mutual
def jj:D→Bool
 | .p (.v _)=>true
 | .agg cs=>uV cs
 | .tup cs=>uV cs
 | _=>false
def uV:List D→Bool
 | []=>true
 | d::ds=>jj d&&uV ds
end
theorem mi:∀{ds:List D} {xs:List Dp},ce ds=some xs→ds=xs.map .p
 | [],xs,h=>by simp only[ce,Dj] at h;subst h;rfl
 | .p x::ds,xs,h=>by
  simp only[ce] at h
  split at h
  ·rename_i ys h1
   simp only[Dj] at h
   subst h
   rw[mi h1];rfl
  ·simp at h
 | .any::_,_,h=>by simp[ce] at h
 | .ref _::_,_,h=>by simp[ce] at h
 | .ep _::_,_,h=>by simp[ce] at h
 | .csl _::_,_,h=>by simp[ce] at h
 | .fn _ _ _::_,_,h=>by simp[ce] at h
 | .agg _::_,_,h=>by simp[ce] at h
 | .tup _::_,_,h=>by simp[ce] at h
 | .grd _ _::_,_,h=>by simp[ce] at h
theorem kF:∀{es:List (List D)} {xs:List (List Dp)},gP es=some xs→es=xs.map (·.map .p)
 | [],xs,h=>by simp only[gP,Dj] at h;subst h;rfl
 | e::es,xs,h=>by
  simp only[gP] at h
  split at h
  ·rename_i y ys h1 h2
   simp only[Dj] at h
   subst h
   rw[mi h1,kF h2];rfl
  ·simp at h
section
variable {P:Program} {Γ:ae} {O:Nat→Prop} {w:World} {l:Loc} {h:List Blk}
def kG(l:Loc)(h:List Blk)(k:Nat):Prop:=∃(b:Nat) (rows:List (List Dp)) (e sz cap:Nat),h[b]? = some (.vec (rows.map (·.map D.p)) e sz)∧l b=some (k,cap)
theorem xm(R:Rep Γ O w l h){b e:Nat}{y:Value}{rows:List (List Dp)}{sz:Nat}(hb:h[b]? = some (.vec (rows.map (·.map .p)) e sz))(rr:RefRel l h (.vec b e) y){av':Nat→Prop}(ha:∀k,av' k→avs O l h k∧¬kG l h k):
  RelP w av' (.sl rows) y:=by
 have hk:=R.blk _ _ hb
 unfold RefRel at rr
 simp only[hb] at rr
 have hv:=rr.2.2 trivial
 unfold BlkOk at hk
 simp only at hk
 simp only[RelP]
 cases hl:l b with
 | none =>
  rw[hl] at hv hk
  simp only[ga] at hv hk
  exact .inl ⟨by simpa using hk,none,0,hv.2,fun _=>rfl⟩
 | some p =>
  obtain⟨blk,cap⟩:=p
  rw[hl] at hv hk
  simp only[ga] at hv hk
  obtain⟨oo,cc,rfl,hv1,hv2⟩:=hv
  obtain⟨o2,c2,rc,c,T,fr,ys,q1,q2,q3,q4,q5,q6,pre,rest,q0,q7⟩:=hk
  obtain⟨rfl,rfl⟩:=b6 rc
  refine .inr ⟨blk,oo,cc,sz,by simpa using hv1,by simpa using hv2,?_⟩
  have hcell:¬av' blk:=fun ho=>(ha blk ho).2 ⟨b,rows,e,sz,_,hb,hl⟩
  refine iv rows oo fun i e1 he1=>?_
  have hlen:e1.length=sz:=by
   have:=q5 (e1.map .p) (Eb.2 ⟨e1,D1 he1,rfl⟩)
   simpa using this
  refine⟨hlen,fN (l:=l) (h:=h) (av:=avs O l h) (av':=av') (fun _ ho=>(ha _ ho).1) hcell e1 _ ?_⟩
  exact(CellsAt.of_relO (loc:=l) (h:=h) q1 q0 q7 q6).rowO q5 (by rw[E5,he1];rfl)
mutual
theorem xn(R:Rep Γ O w l h){av':Nat→Prop}(ha:∀k,av' k→avs O l h k∧¬kG l h k):∀{d:D} {y:Value},FU 0 (kD h d)=true→Rel w (avs O l h) l h d y→Rel w av' l [] (kD h d) y
 | .p _,_,_,r=>by simp only[kD,Rel] at r ⊢;exact cW (fun k hk=>(ha k hk).1) r
 | .any,_,_,_=>by simp[kD,Rel]
 | .ep _,_,_,r=>by
  simp only[kD,Rel] at r ⊢
  obtain⟨blk,off,r1,r2⟩:=r
  exact⟨blk,off,r1,aq (fun k hk=>(ha k hk).1) r2⟩
 | .csl _,_,_,r=>by
  simp only[kD,Rel] at r ⊢
  rcases r with r|⟨blk,off,sz,r1,r2⟩
  ·exact .inl r
  ·exact .inr ⟨blk,off,sz,r1,bh (fun k hk=>(ha k hk).1) r2⟩
 | .agg cs,_,hi,r=>by
  simp only[kD,FU] at hi
  simp only[kD,Rel] at r ⊢
  obtain⟨vs,r1,r2⟩:=r
  exact⟨vs,r1,jy R ha hi r2⟩
 | .ref (.vec b e),y,hi,r=>by
  simp only[kD] at hi ⊢
  unfold frzV at hi ⊢
  split at hi
  ·rename_i es e' sz hb
   split at hi
   ·rename_i rows h1 h2
    have he:=I4 h1
    subst he
    rw[kF h2] at hb
    simp only[Rel]
    exact xm R hb (by simpa only [Rel] using r) ha
   ·simp[FU] at hi
  ·simp[FU] at hi
 | .ref (.ptr _ _),_,hi,_=>by simp[kD,FU] at hi
 | .ref (.vs _ _ _ _ _),_,hi,_=>by simp[kD,FU] at hi
 | .ref (.av _ _ _ _),_,hi,_=>by simp[kD,FU] at hi
 | .ref (.vp _ _ _ _),_,hi,_=>by simp[kD,FU] at hi
 | .ref (.mp _),_,hi,_=>by simp[kD,FU] at hi
 | .ref (.it _),_,hi,_=>by simp[kD,FU] at hi
 | .ref (.yl _),_,hi,_=>by simp[kD,FU] at hi
 | .fn f a b,_,hi,r=>by
  have:=cE (l:=l) (h:=h) (n:=0) (fun k hk=>(ha k hk).1) (by simpa[kD] using hi) r
  simpa[kD] using this
 | .tup a,_,hi,r=>by
  have:=cE (l:=l) (h:=h) (n:=0) (fun k hk=>(ha k hk).1) (by simpa[kD] using hi) r
  simpa[kD] using this
 | .grd g a,_,hi,r=>by
  have:=cE (l:=l) (h:=h) (n:=0) (fun k hk=>(ha k hk).1) (by simpa[kD] using hi) r
  simpa[kD] using this
theorem jy(R:Rep Γ O w l h){av':Nat→Prop}(ha:∀k,av' k→avs O l h k∧¬kG l h k):∀{ds:List D} {ys:List Value},Eh 0 (uU h ds)=true→RelL w (avs O l h) l h ds ys→RelL w av' l [] (uU h ds) ys
 | [],[],_,_=>by simp[uU,RelL]
 | [],_::_,_,r=>by simp[RelL] at r
 | _::_,[],_,r=>by simp[RelL] at r
 | _::_,_::_,hi,r=>by
  simp only[uU,Eh,Dr] at hi
  simp only[uU,RelL] at r ⊢
  exact⟨xn R ha hi.1 r.1,jy R ha hi.2 r.2⟩
end
mutual
theorem rR{w':World}{av av':Nat→Prop}{l':Loc}{h':List Blk}:∀{d:D} {y:Value},jj d=true→Rel w av l h d y→Rel w' av' l' h' d y
 | .p (.v _),_,_,r=>by simpa[Rel,RelP] using r
 | .agg cs,_,hf,r=>by
  simp only[jj] at hf
  simp only[Rel] at r ⊢
  obtain⟨vs,r1,r2⟩:=r
  exact⟨vs,r1,kH hf r2⟩
 | .tup cs,_,hf,r=>by
  simp only[jj] at hf
  simp only[Rel] at r ⊢
  obtain⟨vs,r1,r2⟩:=r
  exact⟨vs,r1,kH hf r2⟩
 | .p (.sl _),_,hf,_=>by simp[jj] at hf
 | .any,_,hf,_=>by simp[jj] at hf
 | .ref _,_,hf,_=>by simp[jj] at hf
 | .ep _,_,hf,_=>by simp[jj] at hf
 | .csl _,_,hf,_=>by simp[jj] at hf
 | .fn _ _ _,_,hf,_=>by simp[jj] at hf
 | .grd _ _,_,hf,_=>by simp[jj] at hf
theorem kH{w':World}{av av':Nat→Prop}{l':Loc}{h':List Blk}:∀{ds:List D} {ys:List Value},uV ds=true→RelL w av l h ds ys→RelL w' av' l' h' ds ys
 | [],[],_,_=>by simp[RelL]
 | [],_::_,_,r=>by simp[RelL] at r
 | _::_,[],_,r=>by simp[RelL] at r
 | _::_,_::_,hf,r=>by
  simp only[uV,Dr] at hf
  simp only[RelL] at r ⊢
  exact⟨rR hf.1 r.1,kH hf.2 r.2⟩
end
theorem Ev.frzArgs{f:FuncId}{args:List D}{d:D}(hi:Eh 0 (uU h args)=true)(hd:jj d=true)(he:Ev P Γ f (uU h args) [] d []):Ev P Γ f args h d h:=by
 intro O w l vs R ra
 have hav:∀l' k,avs (fun k=>avs O l h k∧¬kG l h k) l' [] k→avs O l h k∧¬kG l h k:=fun l' k ho=>ho.elim id (fun h=>absurd h bH)
 have R0:Rep Γ (fun k=>avs O l h k∧¬kG l h k) w l []:=by
  refine⟨fun blk ho=>absurd ho bH,fun blk ho=>?_,fun b b' x x' k c c' hb=>by simp at hb,fun b x hb=>by simp at hb,fun g cs hg=>?_⟩
  ·rcases ho.1 with ho|ho
   ·exact R.obd blk ho
   ·exact(R.inb blk ho).1
  ·exact aq (fun k hk=>(hav l k hk).1) (R.glo g cs hg)
 have ra0:=jy (av':=avs (fun k=>avs O l h k∧¬kG l h k) l []) R (fun k hk=>hav l k hk) hi ra
 refine Fi (he _ w l vs R0 ra0) ?_
 rintro e w' ⟨v,d2,h2,l',rfl,⟨rfl,rfl⟩,R',E',rd⟩
 have E:Ext w l h w' l h:=⟨E'.size,fun blk hb _=>E'.same blk hb bH,fun blk ho=>.inl ho,fun b x hx=>⟨x,hx,x.le_refl,fun _=>rfl⟩,E'.tape⟩
 refine⟨v,d2,h,l,rfl,⟨rfl,rfl⟩,⟨fun blk ho=>⟨E7 (R.inb blk ho).1 E'.size,(R.inb blk ho).2⟩,fun blk ho=>E7 (R.obd blk ho) E'.size,R.inj,fun b x hx=>?_,fun g cs hg=>?_⟩,E,rR hd rd⟩
 ·by_cases hg:x=.gone
  ·subst hg;trivial
  exact BlkOk.ext E rfl (fun blk cp hl=>E'.same blk (R.inb blk ⟨b,x,cp,hx,hg,hl⟩).1 bH) (R.blk b x hx)
 ·exact Ha E.hc g 0 cs (R.glo g cs hg)
end
def hB(pre:List Blk)(R:List (List D))(more:List Blk):List Blk:=pre++(.vec R 0 1::more)
section
variable {P:Program} {Γ:ae}
theorem TopW.deferH(_ok:POk P){call:CallX}(hc:call.Ok P Γ){id:Nat}{ops:Array Oper}{d:Code}{s s':AS}{e:Exit}{os:List Oper}{o:Oper}(h0:ops.toList=os++[o]){fv:Operand}{args:Array Operand}{ats:Array TypeId}
  (ho:o.op=.defer {callee:=.value fv,args,argTypes:=ats}) (hg:o.guard=none) (hdst:o.dst=none) (hm:s.m=[]) {t1:List D} {h1:List Blk} (hr:aX P Γ call [] ops.toList os s.t s.h=some (.normal,t1,h1))
  {f:FuncId} {fi ca:List D} (hcal:bG (evalD Γ t1 fv)=some (f,fi,ca))
  (hrest:CW P Γ h1 false d {t:=t1,h:=h1,m:=[]} e s') :
  TopW P Γ (.seq (.region id ops false) d) s e s' (some (f,fi++args.toList.map (evalD Γ t1)++ca)):=by
 intro O w0 l0 hh0 a w hs
 have hlen:ops.size=os.length+1:=by rw[←ER,h0];simp
 have hrange:EE ops.size=ES 0 os.length++[os.length]:=by rw[hlen,List.range_succ,GB]
 have ho0:ops[os.length]? = some o:=by rw[←Ej,h0];simp
 refine wpIn_seq (wpIn_region ?_)
 rw[hrange]
 have hs2:St Γ {O:=O,w:=w0,l:=l0,h:=hh0} {t:=s.t,h:=s.h,m:=[]} a w:=by rw[←hm];exact hs
 refine fK (r:=none) (X:={O:=O,w:=w0,l:=l0,h:=hh0}) hc (tail:=[os.length]) (fun _ a w hs=>?_) (fun c he=>by cases he) os 0 s.t s.h [o] (by simpa using h0) hr a w hs2
 obtain⟨l,R,E,rt,rd⟩:=hs
 have hdef:a.defers=[]:=rd
 simp only[wpOpsIn,ho0]
 have hw:Ef o (yielded ops a.tmps)=true:=by unfold Ef;rw[hg]
 rw[if_pos hw]
 obtain⟨a0,c0,e0,r1,r2⟩:=bI (aC R rt fv) hcal
 refine⟨fun _ _=>trivial,?_⟩
 have e0':(FW none).round=none:=rfl
 rw[e0',Oper.semAt_none]
 have e1:(execOp a.eval o).run P w=.ok (.defer {target:=.fn (.func f) c0,args:=a0++args.map a.eval}) w:=by
  unfold execOp
  rw[ho]
  simp only[resolve,e0,Ek,DG,DQ,DC]
 rw[e1,Oper.uponIn_defer,hdst]
 simp only[Act.put,Exit.then]
 have hD:ur w O l h1 (f,fi++args.toList.map (evalD Γ t1)++ca) {target:=.fn (.func f) c0,args:=a0++args.map a.eval}:=by
  refine⟨_,_,rfl,?_⟩
  simp only[Hs]
  refine aD (aD r1 ?_) r2
  have:=ci R rt args.toList
  simpa using this
 refine wpIn_mono (hrest {O:=O,w:=w,l:=l,h:=h1,D:=[{target:=.fn (.func f) c0,args:=a0++args.map a.eval}]} none rfl (fun _=>rfl) _ w ⟨l,R,Ext.refl _ _ _,rt,by simp[DefOk,hdef]⟩) ?_
 rintro e1 a1 w1 ⟨k1,s1,⟨rfl,rfl⟩,k2⟩
 exact⟨rfl,k1,_,w,l,h1,E,hD,k2⟩
theorem CW.seq{h0:List Blk}{rd:Bool}{c d:Code}{s s1 s':AS}{e:Exit}(h1:CW P Γ h0 rd c s .normal s1)(h2:CW P Γ h0 rd d s1 e s'):CW P Γ h0 rd (.seq c d) s e s':=fun X r hX hr =>
 VW.seq ((h1 X r hX hr).mono fun e2 s2 hq=>by
  obtain⟨rfl,rfl⟩:=hq
  exact h2 X r hX hr)
theorem CW.out{h0:List Blk}{rd:Bool}{c d:Code}{s s':AS}{e:Exit}(he:e ≠ .normal)(h1:CW P Γ h0 rd c s e s'):CW P Γ h0 rd (.seq c d) s e s':=fun X r hX hr =>
 VW.seq ((h1 X r hX hr).mono fun e2 s2 hq=>by
  obtain⟨rfl,rfl⟩:=hq
  cases e2 with
  | normal=>exact absurd rfl he
  | _=>exact⟨rfl,rfl⟩)
theorem CW.regionX{h0:List Blk}{rd:Bool}{call:CallX}(hc:call.Ok P Γ){s:AS}{id:Nat}{ops:Array Oper}{e:Exit}{t':List D}{h':List Blk}
  (hr:aX P Γ call s.m ops.toList ops.toList s.t s.h=some (e,t',h')):CW P Γ h0 rd (.region id ops false) s e {t:=t',h:=h',m:=s.m}:=fun _ _ _ _=>VW.regionX hc hr ⟨rfl,rfl⟩
end
theorem qu{F:Fence}{n:Nat}{P:Program}{l:Nat}{f:FuncId}{fn:Func}{tmps:Array Value}{assign body:Code}{w:World}{R:Ending→World→Prop}(hF:F.fn f)(hf:P.funcs[f]? = some fn)
  (h:assign.wpIn (F.inRound l) n P (Exit.then (fun a₁ w₁=>∃w₂,(Instr.beginRound l).run P w₁=.ok () w₂∧body.wpIn (F.inRound l) n P (fun e a w'=>∃c,e=.panic c∧a.defers=[]∧R (.panicked c) w') a₁ w₂) (fun _ _ _=>False))
   {tmps:=tmps,defers:=[]} w) :
  RoundIn F n P l f tmps assign body w R:=by
 refine⟨hF,fun c cs hr=>?_⟩
 let b:Frame:={ (default:Frame) with fn:=f,kind:=.normal,roundOf:=some l}
 have hb0:Frame.round l f tmps assign body .normal=b.atR {tmps:=tmps,defers:=[]} [.code assign,.beginRound,.code body]:=by
  simp[Frame.round,Frame.atR,b]
 have hr':(F.inRound l).room ((c::cs).length+1+n):=hr
 have hF':(F.inRound l).fn b.fn:=hF
 obtain⟨e,a₁,w₁,hq,harr⟩:=h b [.beginRound,.code body] (c::cs) rfl hF' hr'
 rw[←hb0] at harr
 cases e with
 | normal =>
  obtain⟨w₂,hbr,hbody⟩:=hq
  have s1:StepsIn (H6 P (F.inRound l)) P (lone (b.atR a₁ [.beginRound,.code body]) (c::cs) w₁) (lone (b.atR a₁ [.code body]) (c::cs) w₂) :=
   .one (fenced_calm (fr:=b.atR a₁ [.beginRound,.code body]) hF' hr' rfl) (stepR_beginRound rfl hbr)
  obtain⟨e₂,a₂,w₃,hq₂,harr₂⟩:=hbody b [] (c::cs) rfl hF' hr'
  obtain⟨ch,rfl,hd,hR⟩:=hq₂
  obtain⟨todo,hs⟩:=harr₂
  have hl:({b.atR a₂ todo with mode:=.panicking ch}:Frame).leaving P w₃ (.panicked ch):=⟨rfl,hd,fn,hf⟩
  refine⟨.panicked ch,w₃,hR,(Gd harr s1).trans (Gd hs (.one (fenced_leaving (F:=F.inRound l) (n:=n) hF' hr' hl) ?_))⟩
  exact step_leave_panicked hl
 | exit id=>exact hq.elim
 | goto t=>exact hq.elim
 | ret=>exact hq.elim
 | panic chain=>exact hq.elim
 | outgrown=>exact hq.elim
section
variable {P:Program} {Γ:ae}
theorem uW{b:Nat}{args:List D}{h h1:List Blk}{pend:Option Code}{f:FuncId}{fn:Func}{ts:List D}{ps:Array Tmp}{asg body:Code}{t1:List D}{p1:Option Code}{f1:FuncId}{ts1:List D}{ps1:Array Tmp}
  {a1 b1:Code} {c:List PanicEntry} {s2:AS} (hb:h[b]? = some (.loop .ready pend f ts ps asg body)) (hf0:f ≠ 0) (hfn:P.funcs[f]? = some fn) (hlen:args.length=ps.size)
  (hasg:CW P Γ h true asg {t:=dd ts (ps.toList.zip args),h:=h,m:=[]} .normal {t:=t1,h:=h1,m:=[]})
  (hb1:h1[b]? = some (.loop .ready p1 f1 ts1 ps1 a1 b1))
  (hbody:CW P Γ h true body {t:=t1,h:=h1.set b (.loop .busy p1 f1 ts1 ps1 a1 b1),m:=[]} (.panic c) s2) (hm:s2.m=[]):VInvP P Γ (.ref (.yl b)) args h fun c2 h2=>c2=c∧h2=s2.h:=by
 intro O w l y vs R rx ra r o a next Q' hn
 simp only[Rel,RefRel,hb] at rx
 obtain⟨_,blk,cp,hl,rfl⟩:=rx
 obtain⟨rec,g1,g2,g3,g4,g5,g6,g7,gf,_⟩:=iu R hb hl
 have hrf:rec.fn=f:=gf.resolve_left hf0
 have hlv:=cX _ _ ra
 have e1:(do let d ←Ek (.func (.yield blk) #[] #[]) vs.toArray;invoke d.target d.args:Sem Next).run P w =
   .ok (.round blk rec.fn ((rec.params.zip vs.toArray).foldl (fun tmps (p:Tmp×Value)=>tmps.setIfInBounds p.1 p.2) rec.tmps) rec.assign rec.body) w:=by
  have hsz:vs.length=rec.params.size:=by rw[g4,←hlen,hlv]
  simp only[Ek,DG,DQ,DC,invoke,Instr.yield,b9 (P:=P) g1,Array.empty_append]
  simp[hsz]
 rw[e1]
 refine⟨fun h=>by simp[Fence.wide] at h,?_⟩
 rw[g5,g6,g4]
 refine qu (F:=FW r) (fn:=fn) trivial (by rw[hrf];exact hfn) ?_
 have st0:St Γ {O:=O,w:=w,l:=l,h:=h} {t:=dd ts (ps.toList.zip args),h:=h,m:=[]}
   {tmps:=(ps.zip vs.toArray).foldl (fun tmps (p:Tmp×Value)=>tmps.setIfInBounds p.1 p.2) rec.tmps,defers:=[]} w:=by
  refine⟨l,R,Ext.refl _ _ _,?_,by simp[DefOk]⟩
  have:=fM (w:=w) (l:=l) (h:=h) (av:=avs O l h) ps.toList args vs ts rec.tmps ra g7
  rw[←Array.foldl_toList]
  simpa using this
 have hasg':∀X r,X.h=h→VW P Γ X r asg (fun e s=>e=.normal∧s={t:=t1,h:=h1,m:=[]}) {t:=dd ts (ps.toList.zip args),h:=h,m:=[]}:=fun X r hX=>hasg X r hX (fun h=>by cases h)
 have hbody':∀X r,X.h=h→VW P Γ X r body (fun e s=>e=.panic c∧s=s2) {t:=t1,h:=h1.set b (.loop .busy p1 f1 ts1 ps1 a1 b1),m:=[]}:=fun X r hX=>hbody X r hX (fun h=>by cases h)
 refine wpIn_mono (hasg' _ (some blk) rfl _ _ st0) ?_
 rintro e a₁ w₁ ⟨_,s1,⟨rfl,rfl⟩,l1,R1,E1,rt1,rd1⟩
 have hl1:l1 b=some (blk,cp):=by rw[eY E1 hb hb1];exact hl
 obtain⟨rec1,k1,k2,k3,k4,k5,k6,k7,_,k8⟩:=iu R1 hb1 hl1
 obtain⟨R2,E2⟩:=k8 .busy p1
 refine⟨{w₁ with heap:=w₁.heap.setIfInBounds blk (.loop {rec1 with state:=.busy,pending:=p1})},?_,?_⟩
 ·have:({rec1 with state:=.busy}:Loop)={rec1 with state:=.busy,pending:=p1}:=by rw[←k3]
  simp only[Instr.beginRound,DG,b9 (P:=P) k1,DC,this,bp (P:=P) k1 (by simp),k2,DQ]
 ·have st1:St Γ {O:=O,w:=w,l:=l,h:=h} {t:=t1,h:=h1.set b (.loop .busy p1 f1 ts1 ps1 a1 b1),m:=[]} a₁ {w₁ with heap:=w₁.heap.setIfInBounds blk (.loop {rec1 with state:=.busy,pending:=p1})}:=by
   refine⟨l1,R2,E1.trans E2,E2.relL rt1,?_⟩
   exact rd1
  refine wpIn_mono (hbody' _ (some blk) rfl _ _ st1) ?_
  rintro e a₂ w₂ ⟨_,s3,⟨rfl,rfl⟩,l2,R3,E3,rt3,rd3⟩
  rw[hm] at rd3
  exact⟨c,rfl,rd3,hn c _ l2 _ ⟨rfl,rfl⟩ R3 E3⟩
def AtF(P:Program)(f0:FuncId)(c:Code)(Q:Exit→Act→World→Prop)(a:Act)(w:World):Prop :=
 ∀(b:Frame) (k:List Item) (cs:List Frame),b.roundOf=none→b.fn=f0 →
  ∃e a' w',Q e a' w'∧ArrivesIn (H6 P (FW none)) P (lone (b.atR a (.code c::k)) cs w) b k cs e a' w'
theorem AtF.of_wp{f0:FuncId}{c:Code}{Q:Exit→Act→World→Prop}{a:Act}{w:World}(h:c.wpIn (FW none) 0 P Q a w):AtF P f0 c Q a w :=
 fun b k cs hr _=>h b k cs hr trivial (fF none _)
theorem AtF.mono{f0:FuncId}{c:Code}{Q Q':Exit→Act→World→Prop}{a:Act}{w:World}(h:AtF P f0 c Q a w)(hq:∀e a w,Q e a w→Q' e a w):AtF P f0 c Q' a w:=fun b k cs hr hf =>
 let ⟨e,a',w',q,s⟩:=h b k cs hr hf
 ⟨e,a',w',hq _ _ _ q,s⟩
theorem AtF.seq{f0:FuncId}{x y:Code}{Q:Exit→Act→World→Prop}{a:Act}{w:World}(h:AtF P f0 x (fun e a1 w1=>e=.normal∧AtF P f0 y Q a1 w1) a w):AtF P f0 (.seq x y) Q a w:=by
 intro b k cs hro hb
 have h0:(lone (b.atR a (.code (.seq x y)::k)) cs w).fenced P (FW none):=fenced_calm (F:=FW none) (n:=0) trivial (fF none _) rfl
 obtain⟨e,a₁,w₁,⟨rfl,hq⟩,harr⟩:=h b (.code y::k) cs hro hb
 obtain⟨e₂,a₂,w₂,hq₂,harr₂⟩:=hq b k cs hro hb
 exact⟨e₂,a₂,w₂,hq₂,.of_steps (.head h0 stepR_seq harr) harr₂⟩
theorem AtF.seqP{f0:FuncId}{x y:Code}{Q:Exit→Act→World→Prop}{a:Act}{w:World}(h:AtF P f0 x (fun e a1 w1=>∃c,e=.panic c∧Q e a1 w1) a w):AtF P f0 (.seq x y) Q a w:=by
 intro b k cs hro hb
 have h0:(lone (b.atR a (.code (.seq x y)::k)) cs w).fenced P (FW none):=fenced_calm (F:=FW none) (n:=0) trivial (fF none _) rfl
 obtain⟨e,a₁,w₁,⟨c,rfl,hq⟩,harr⟩:=h b (.code y::k) cs hro hb
 exact⟨_,a₁,w₁,hq,.of_steps (.one h0 stepR_seq) (.pass (x:=.code y) rfl (fun _ _=>.inl (by simp)) harr)⟩
theorem AtF.blockP{f0:FuncId}{id:Nat}{x:Code}{Q:Exit→Act→World→Prop}{a:Act}{w:World}(h:AtF P f0 x (fun e a1 w1=>∃c,e=.panic c∧Q e a1 w1) a w):AtF P f0 (.block id x) Q a w:=by
 intro b k cs hro hb
 have h0:(lone (b.atR a (.code (.block id x)::k)) cs w).fenced P (FW none):=fenced_calm (F:=FW none) (n:=0) trivial (fF none _) rfl
 obtain⟨e,a₁,w₁,⟨c,rfl,hq⟩,todo,harr⟩:=h b (.inBlock id::k) cs hro hb
 exact⟨_,a₁,w₁,hq,todo,.head h0 stepR_block harr⟩
theorem AtF.rangeFuncP(ok:POk P){X:Ctx}{s:AS}{f0:FuncId}{g:Operand}{ps:Array Tmp}{asg body:Code}{f:FuncId}{fi ca:List D}{c0:List PanicEntry}{hp:List Blk}(hg:bG (evalD Γ s.t g)=some (f,fi,ca))(hf:dL P f=true)
  (hc:VPan P Γ f (fi++[.ref (.yl (s.h.length+1))]++ca) (s.h++[.defd]++[.loop .ready none f0 s.t ps asg body]) fun c h'=>c=c0∧h'=hp)
  (hmp:ah hp (s.h.length::s.m)=true) {a:Act} {w:World} (hs:St Γ X s a w):AtF P f0 (.rangeFunc g ps asg body) (fun e a' w'=>e=.panic c0∧St Γ X {t:=s.t,h:=hp,m:=s.h.length::s.m} a' w') a w:=by
 intro b k cs hro hb
 have hmk:=hs.marks
 obtain⟨l,R,E,rt,rd⟩:=hs
 obtain⟨R1,E1⟩:=cq R (.deferred (some [])) .defd 0 (fun E=>⟨w.heap.size,0,by simp,heap_alloc_new w _⟩)
 generalize hw1:w.alloc (.deferred (some []))=w1 at R1 E1
 generalize hl1:l.upd s.h.length (some (w.heap.size,0))=l1 at R1 E1
 have rt1:=E1.relL rt
 have hlen:(s.h++[GZ]).length=s.h.length+1:=by simp
 obtain⟨R2,E2⟩:=cq R1 (.loop {state:=.ready,pending:=none,fn:=b.fn,tmps:=a.tmps,params:=ps,assign:=asg,body,defers:=w.heap.size}) (.loop .ready none f0 s.t ps asg body) 0
  (fun E=>⟨w1.heap.size,0,a.tmps,w.heap.size,b.fn,by simp,heap_alloc_new w1 _,E.relL rt1,.inr hb⟩)
 generalize hw2:w1.alloc (.loop {state:=.ready,pending:=none,fn:=b.fn,tmps:=a.tmps,params:=ps,assign:=asg,body,defers:=w.heap.size})=w2 at R2 E2
 generalize hl2:l1.upd (s.h++[GZ]).length (some (w1.heap.size,0))=l2 at R2 E2
 rw[hlen] at hl2
 obtain⟨a0,c1,e0,r1,r2⟩:=bI (aC R2 ((E1.trans E2).relL rt) g) hg
 unfold dL at hf
 split at hf
 case h_2=>simp at hf
 rename_i fn' hfn'
 have he:(Instr.enterLoop b.fn a.tmps ps asg body b.roundOf).run P w=.ok (w1.heap.size,[{target:=.collected w.heap.size,args:=#[]}]) w2:=by
  rw[hro]
  simp only[Instr.enterLoop,DG,lW,DC,DQ,hw1,hw2]
 have hres:(resolve a.eval (rangeCall g w1.heap.size) 0).run P w2=.ok {target:=.fn (.func f) c1,args:=a0++#[.func (.yield w1.heap.size) #[] #[]]} w2:=by
  simp only[resolve,e0,Ek,DQ]
  simp
  rfl
 have hinv:(invoke (Target.fn (.func f) c1) (a0++#[.func (.yield w1.heap.size) #[] #[]])).run P w2=.ok (.enter f (a0++#[.func (.yield w1.heap.size) #[] #[]]++c1)) w2:=gq ok hfn' hf _ _
 have hl2n:l2 (s.h.length+1)=some (w1.heap.size,0):=by rw[←hl2];simp
 have hl2d:l2 s.h.length=some (w.heap.size,0):=by rw[←hl2,Loc.upd_ne _ _ _ (by omega),←hl1];simp
 have hHn:(s.h++[GZ]++[Jb .ready none f0 s.t ps asg body])[s.h.length+1]? = some (.loop .ready none f0 s.t ps asg body):=by
  rw[D4 (by simp)];simp
 have hHd:(s.h++[GZ]++[Jb .ready none f0 s.t ps asg body])[s.h.length]? = some .defd:=by
  rw[DP (by simp),D4 (by simp)];simp
 have hd2:DefOk X.D l2 (s.h++[GZ]++[Jb .ready none f0 s.t ps asg body]) (s.h.length::s.m) ({target:=.collected w.heap.size,args:=#[]}::a.defers):=by
  simp only[DefOk]
  refine⟨⟨w.heap.size,0,hHd,hl2d,rfl⟩,?_⟩
  exact Ga (E1.trans E2).keep (by rw[FA];exact cj hmk) rd
 have hcall:=hc X.O w2 l2 (a0++#[Value.func (Fn.yield w1.heap.size) #[] #[]]++c1).toList R2 (by
  simp only[Hs]
  refine aD (aD r1 ?_) r2
  simp only[RelL,Rel,RefRel,hHn]
  exact⟨⟨rfl,w1.heap.size,0,hl2n,rfl⟩,trivial⟩)
 have hcall':=(show CallsIn (FW none) 0 P f (a0++#[Value.func (Fn.yield w1.heap.size) #[] #[]]++c1) w2 _ from hcall)
 have h0:(lone (b.atR a (.code (.rangeFunc g ps asg body)::k)) cs w).fenced P (FW none) :=
  fenced_lone (F:=FW none) (.inl trivial) (fun _ _=>trivial) (Fence.room_le (fF none (cs.length+1)) (DJ _))
 have henter:=stepR_rangeFunc (P:=P) (b:=b) (a:=a) (k:=k) (cs:=cs) (w:=w) he hres hinv
 obtain⟨e,w₃,fr,⟨c,h',l3,rfl,⟨rfl,rfl⟩,R3,E3⟩,hsteps,hfn,hleave⟩:=hcall'.2 (b.atR {a with defers:=[{target:=.collected w.heap.size,args:=#[]}]++a.defers} (.inRangeFunc w1.heap.size::k)::cs) (fF none _)
 have hl:(lone fr (b.atR {a with defers:=[{target:=.collected w.heap.size,args:=#[]}]++a.defers} (.inRangeFunc w1.heap.size::k)::cs) w₃).fenced P (FW none):=fenced_leaving (F:=FW none) (n:=0) trivial (fF none _) hleave
 refine⟨.panic c,{a with defers:=[{target:=.collected w.heap.size,args:=#[]}]++a.defers},w₃,⟨rfl,?_⟩,.inRangeFunc w1.heap.size::k,.head h0 henter (Gd hsteps (.one hl ?_))⟩
 ·exact⟨l3,R3,(E.trans (E1.trans E2)).trans E3,((E1.trans E2).trans E3).relL rt,Ga E3.keep hmp hd2⟩
 ·rw[←Frame.raise_atR];exact step_leave_panicked hleave
theorem tl{f:FuncId}{fn:Func}{c:Code}{args:Array Value}{w:World}{R:Ending→World→Prop}
  (hf:P.funcs[f]? = some fn) (hb:fn.body=some c)
  (h:AtF P f c (bodyPostM (FW none) 0 P fn R) {tmps:=args++EN (fn.ntmps - args.size) undef,defers:=[]} w):CallsIn (FW none) 0 P f args w R:=by
 refine⟨trivial,fun cs hr=>?_⟩
 let b:Frame:={ (default:Frame) with fn:=f,kind:=.normal,roundOf:=none}
 have henter:Frame.enter P f args .normal =
   b.atR {tmps:=args++EN (fn.ntmps - args.size) undef,defers:=[]} [.code c]:=by
  simp[Frame.enter,Frame.atR,hf,hb,b]
 obtain⟨e,a',w',hq,harr⟩:=h b [] cs rfl rfl
 rw[←henter] at harr
 cases e with
 | normal =>
  obtain⟨e',w'',fr',hR,hs,hfn,hl⟩:=leaves_stepsInM a'.defers .returning w' {b.atR a' [] with mode:=.returning} cs rfl rfl rfl hf rfl (F:=FW none) trivial hr hq
  exact⟨e',w'',fr',hR,Hv (Gd harr (.one (fenced_calm (fr:=b.atR a' []) (F:=FW none) trivial hr rfl) (stepR_end rfl))) hs,hfn,hl⟩
 | ret =>
  obtain⟨todo,hs₀⟩:=harr.1 rfl
  obtain⟨e',w'',fr',hR,hs,hfn,hl⟩:=leaves_stepsInM a'.defers .returning w' {b.atR a' todo with mode:=.returning} cs rfl rfl rfl hf rfl (F:=FW none) trivial hr hq
  exact⟨e',w'',fr',hR,Hv hs₀ hs,hfn,hl⟩
 | panic chain =>
  obtain⟨todo,hs₀⟩:=harr
  obtain⟨e',w'',fr',hR,hs,hfn,hl⟩:=leaves_stepsInM a'.defers (.panicking chain) w' {b.atR a' todo with mode:=.panicking chain} cs rfl rfl rfl hf rfl (F:=FW none) trivial hr hq
  exact⟨e',w'',fr',hR,Hv hs₀ hs,hfn,hl⟩
 | exit id=>exact hq.elim
 | goto l=>exact hq.elim
 | outgrown=>exact⟨.outgrown,w',b,hq,harr.resolve_left (by simp[b]),rfl,trivial⟩
end
def VA(P:Program)(Γ:ae)(X:Ctx)(r:Option Nat)(ops:Array Oper)(Q:Exit→AS→Prop)(s:AS):Prop :=
 ∀(a:Act) (w:World),St Γ X s a w→wpAnyIn (FW r) 0 P .any ops (eu Γ X Q) ops.size (EN ops.size false) a {w with drawn:=w.drawn+1}
section
variable {P:Program} {Γ:ae} {X:Ctx} {r:Option Nat} {call:CallF} {ops:Array Oper} {m:List Nat} {t0 tF:List D} {hs:List (List Blk)} {ts:List (List D)} {Q:Exit→AS→Prop} {F:List Nat}
theorem VA.drawF{s:AS}(_ok:POk P)(hD:DrawOkF F ops.toList (a9 ops.toList []))(hr:runR P Γ s.m ops.toList Wk FixOk ops.toList s.t s.h tF hs ts)
  (hq:rq P Γ F ops.toList (a9 ops.toList []) tF hs ts) (hF:∀j o,ops.toList[j]? = some o→zk j F=true→hs.getD (j+1) []=hs.getD j []) (hQ:Q .normal {t:=tF,h:=hs.getD ops.size [],m:=s.m}):VA P Γ X r ops Q s:=by
 obtain⟨g1,g2,g3,g4,_⟩:=dP _ _ _ _ _ _ hr
 have h0:hs.getD 0 []=s.h:=by simp[List.getD_eq_getElem?_getD,g3]
 intro a w hst
 rw[←h0] at hr
 refine kn (t0:=s.t) (hs:=hs) hD hr hq hF hQ ops.size 0 _ a _ ?_ ?_
 ·have hrep:∀j,(EN ops.size false).getD j false=false:=by
   intro j
   simp only[Array.getD_eq_getD_getElem?,Array.getElem?_replicate]
   split<;>rfl
  refine⟨by simp,fun k o hk _ _ _ _=>?_,?_,by simp[d9],fun c o _ _=>?_⟩
  ·unfold Lst at hk;rw[hrep] at hk;cases hk
  ·have e1:cH ops.toList (EN ops.size false) s.t tF=s.t:=by
    refine aJ (by rw[ak,g1]) fun x hx=>?_
    rw[ak] at hx
    rw[dc hx]
    split
    ·rfl
    ·rename_i hp
     refine g2 x fun o ho hd=>hp ?_
     obtain⟨k,hk⟩:=List.mem_iff_getElem?.1 ho
     exact bL.2 ⟨k,o,hk,hd,hrep k⟩
   rw[e1,h0]
   obtain⟨l,R,E,rt,rd⟩:=hst
   obtain⟨R',E'⟩:=R.of_heap (w':={w with drawn:=w.drawn+1}) rfl ⟨rfl,rfl,rfl,(by first|exact DJ _|exact Nat.le_succ _)⟩
   exact⟨l,R',E.trans E',E'.relL rt,rd⟩
  ·unfold Lst
   rw[hrep]
   simp
 ·refine Nat.le_trans List.countP_le_length (by simp)
end
theorem VA.drawE{P:Program}{Γ:ae}{X:Ctx}{r:Option Nat}{ops:Array Oper}{tF:List D}{hs:List (List Blk)}{ts:List (List D)}{Q:Exit→AS→Prop}{s:AS}(ok:POk P)(hD:DrawOk ops.toList (a9 ops.toList []))(hr:runR P Γ s.m ops.toList Wk FixOk ops.toList s.t s.h tF hs ts)
  (hq:im P Γ ops.toList (a9 ops.toList []) tF hs ts) (hQ:Q .normal {t:=tF,h:=hs.getD ops.size [],m:=s.m}):VA P Γ X r ops Q s:=by
 refine VA.drawF (F:=[]) ok ⟨hD.self,hD.edge,hD.uniq,hD.oper,fun i k o o' h1 h2 h3 h4 h5=>hD.chain i k o o' h1 h2 h3 (by rw[cb] at h4;exact h4) (by rw[cb] at h5;exact h5)⟩ hr ?_ (fun _ _ _ h=>by cases h) hQ
 intro i o ho hqo hg k hk hc
 rw[cb] at hqo
 unfold d9 at hk
 unfold fO at hc
 rw[ko] at hk hc
 obtain⟨f,d,h',h1,h2,h3⟩:=hq i o ho hqo hg k hk hc
 have:=aZ hqo h2
 subst this
 exact⟨f,d,h1,OpOk.sem h2,h3⟩
section
variable {P:Program} {Γ:ae} {X:Ctx} {r:Option Nat} {Q:Exit→AS→Prop} {t:List D} {h:List Blk} {m:List Nat}
theorem VA.drawW(ok:POk P){ops:Array Oper}(hD:fH ops.toList (a9 ops.toList [])=true)(hx:ops.toList.all (fun o=>match o.dst with|some x=>Qd (x<t.length)|none=>true)=true)
  (hr:RW P Γ m ops.toList true ops.toList t h (fun t' h'=>Q .normal {t:=t',h:=h',m:=m})):VA P Γ X r ops Q {t:=t,h:=h,m:=m}:=by
 obtain⟨tF,hs,ts,g1,g2,g3⟩:=RW.runR _ _ _ hr
 have hD':=gx hD
 have hx':=hx
 clear hx
 refine VA.drawE (hs:=hs) (ts:=ts) ok hD' g1 ?_ ?_
 ·intro i o ho hq ⟨f0,hf0,hg0⟩ k hk hcomp
  obtain⟨g5,g6,g7,g8,hat⟩:=dP _ _ _ _ _ _ g1
  obtain⟨call,hc,f,dw,d,⟨hfx,h1,hwk⟩,h2,h3,h4⟩:=hat i o ho
  have hi:i≤ops.toList.length:=by
   have:=(Dq.1 ho).1
   omega
  have hk':k≤ops.toList.length:=by
   simp only[j5,DM,Eb] at hk
   rcases hk with rfl|⟨c,hc1,rfl⟩
   ·omega
   ·obtain⟨o',ho',_⟩:=bq hc1
    have:=(Dq.1 ho').1
    omega
  rw[g3 i hi] at h1
  rw[g3 k hk']
  have hwx:∀x,o.dst=some x→Wk dw (tF.getD x .any):=fun x hx=>by
   have hxl:x<t.length:=by
    have:=DK.1 hx' o (D1 ho)
    simpa[hx] using this
   rw[h4 x hx (fun j o' hj ho' hd=>by have:=hD'.uniq i j o o' x ho ho' hx hd;omega) hxl]
   exact hwk
  unfold bQ at h1
  split at h1
  ·rename_i hg
   split at h1
   ·rename_i d1 h1' hop
    split at h1
    ·simp only[Dj,Dm] at h1
     obtain⟨rfl,_⟩:=h1
     unfold dM at hop
     split at hop
     ·rename_i ho2
      rw[ho2] at hq
      simp[quietOp] at hq
     ·split at hop
      ·rename_i hsem
       cases hop
       exact⟨f,_,_,hfx,hsem,hwx⟩
      ·simp at hop
    ·simp at h1
   ·simp at h1
  ·rename_i hg
   exact absurd (dS X.w hfx hf0 hg hg0) (by simp)
  ·simp at h1
 ·have:=g3 ops.toList.length (DJ _)
  rw[show ops.size=ops.toList.length by simp,this]
  exact g2
end
def uX:Nat→List (Array Bool)
 | 0=>[#[]]
 | n+1=>(uX n).flatMap fun s=>[s.push false,s.push true]
def kI(ops:Array Oper)(S:Array Bool):Bool:=(EE ops.size).all fun i=>!S.getD i false||(match ops[i]? with
 | some o=>o.after.all fun e=>S.getD e.on false
 | none=>true)
def pp(ops:Array Oper)(o:Oper):Bool:=kI ops (EN ops.size false)&&(uX ops.size).all fun S=>!kI ops S||(
 (match Fc .any ops S with
  | []=>Fc .any (ops.push o) (S.push false)==[ops.size]
  | r=>Fc .any (ops.push o) (S.push false)==r&&r.all fun i=>Qd (i<ops.size)&&kI ops (S.setIfInBounds i true)))
theorem kJ:∀(n:Nat) (S:Array Bool),S.size=n→S∈uX n
 | 0,S,h=>by
  have:S=#[]:=Array.eq_empty_of_size_eq_zero h
  simp[uX,this]
 | n+1,S,h=>by
  obtain⟨bs,c,rfl⟩:=Array.exists_push_of_size_eq_add_one h
  have h2:=kJ n bs (by simpa using h)
  simp only[uX,List.mem_flatMap]
  refine⟨bs,h2,?_⟩
  cases c<;>simp
theorem eK{ops:Array Oper}{tmps:Array Value}{o:Oper}(h:o.guard=none):Ef o (yielded ops tmps)=true:=by
 unfold Ef;rw[h]
theorem uY{F:Fence}{n:Nat}{P:Program}{o:Oper}{a:Act}{w:World}{K K':Act→World→Prop}{Q Q':Exit→Act→World→Prop}(hK:∀a w,K a w→K' a w)(hQ:∀e a w,e ≠ .normal→Q e a w→Q' e a w)(h:o.wpIn F n P a w K Q):o.wpIn F n P a w K' Q':=by
 refine⟨h.1,?_⟩
 have hh:=h.2
 have hl:LetsOut Q→LetsOut Q':=fun⟨a,w,h⟩=>⟨a,w,hQ _ _ _ (by simp) h⟩
 generalize (o.semAt F.round a.eval).run P w=res at hh
 unfold Oper.uponIn at hh ⊢
 split at hh
 ·exact hK _ _ hh
 ·exact hK _ _ hh
 ·exact hK _ _ hh
 ·exact⟨hh.1,Fi hh.2 fun e w'' he=>by cases e<;>first|exact hK _ _ he|exact hQ _ _ _ (by simp) he|exact hl he⟩
 ·exact⟨hh.1,RowsIn.mono hh.2 fun v w'' he=>hK _ _ he⟩
 ·exact⟨hh.1,RoundIn.mono hh.2 fun e w'' he=>by cases e<;>first|exact hK _ _ he|exact hQ _ _ _ (by simp) he|exact hl he⟩
 ·exact hQ _ _ _ (by simp) hh
 ·exact hh.elim
theorem xp{P:Program}{r:Option Nat}{ops:Array Oper}{o:Oper}{Q6 Q:Exit→Act→World→Prop}(hp:pp ops o=true)(hg:∀(i:Nat) (o':Oper),(ops.push o)[i]? = some o'→o'.guard=none)
  (hN:∀a w K,Q6 .normal a w→o.wpIn (FW r) 0 P a w K Q) (hP:∀e a w,e ≠ .normal→Q6 e a w→Q e a w) :
  ∀(fuel:Nat) (S:Array Bool) (a:Act) (w:World),S.size=ops.size→kI ops S=true→wpAnyIn (FW r) 0 P .any ops Q6 fuel S a w→wpAnyIn (FW r) 0 P .any (ops.push o) Q (fuel+1) (S.push false) a w:=by
 intro fuel
 unfold pp at hp
 rw[Dr,DK] at hp
 have hn:(ops.push o)[ops.size]? = some o:=by simp
 have last:∀(fuel:Nat) (S:Array Bool) (a:Act) (w:World),S.size=ops.size→kI ops S=true→Fc .any ops S=[]→Q6 .normal a w→wpAnyIn (FW r) 0 P .any (ops.push o) Q (fuel+1) (S.push false) a w:=by
  intro fuel S a w hs hc hr hq
  have h1:=hp.2 S (kJ _ S hs)
  rw[hc,hr] at h1
  have h2:Fc .any (ops.push o) (S.push false)=[ops.size]:=by simpa using h1
  refine⟨fun h=>?_,fun i hi=>?_⟩
  ·rw[h2] at h;cases h
  ·rw[h2] at hi
   obtain rfl:i=ops.size:=by simpa using hi
   unfold wpOpIn
   rw[hn]
   simp only
   rw[if_pos (eK (hg _ _ hn))]
   exact hN _ _ _ hq
 induction fuel with
 | zero =>
  intro S a w hs hc h
  exact last 0 S a w hs hc h.1 h.2
 | succ fuel ih =>
  intro S a w hs hc h
  cases hr:Fc .any ops S with
  | nil=>exact last _ S a w hs hc hr (h.1 hr)
  | cons x xs =>
   have h1:=hp.2 S (kJ _ S hs)
   rw[hc,hr] at h1
   simp only[Bool.not_true,Bool.false_or,Dr,beq_iff_eq,DK] at h1
   obtain⟨h2,h3⟩:=h1
   refine⟨fun h=>?_,fun i hi=>?_⟩
   ·rw[h2] at h;cases h
   ·rw[h2] at hi
    have h4:=h3 i hi
    simp only[decide_eq_true_eq] at h4
    have h5:=h.2 i (by rw[hr];exact hi)
    have e1:(ops.push o)[i]? = ops[i]?:=by
     rw[Array.getElem?_push,if_neg (by omega)]
    have e2:ops[i]? = some ops[i]:=by simp[h4.1]
    have hgi:=hg i ops[i] (by rw[e1,e2])
    unfold wpOpIn at h5 ⊢
    rw[e1,e2]
    rw[e2] at h5
    simp only at h5 ⊢
    rw[if_pos (eK hgi)] at h5 ⊢
    have e3:(S.push false).setIfInBounds i true=(S.setIfInBounds i true).push false:=by
     apply Array.toList_inj.1
     rw[GN,Jh,Jh,GN,List.set_append_left _ _ (by rw[ER,hs];exact h4.1)]
    rw[e3]
    exact uY (fun a' w' hk=>ih _ a' w' (by simp[hs]) h4.2 hk) hP h5
theorem VW.drawPush{P:Program}{Γ:ae}{X:Ctx}{r:Option Nat}(ok:POk P){I:Inl}(hI:ej P Γ I){id:Nat}{ops:Array Oper}{o:Oper}{t t1:List D}{h h1 hq:List Blk}{as:List Ans}{φ:List Prop}{fv:Operand}{args:Array Operand}{ats:Array TypeId}{c:List PanicEntry}
  (ho:o.op=.call {callee:=.value fv,args,argTypes:=ats}) (hgs:(ops.push o).toList.all (fun o=>o.guard.isNone)=true) (hpush:pp ops o=true) (hD:fH ops.toList (a9 ops.toList [])=true)
  (hx:ops.toList.all (fun o=>match o.dst with|some x=>Qd (x<t.length)|none=>true)=true) (hm:ah h []=true)
  (hsym:gI P Γ I [] ops.toList true ops.toList [] t h as=some (t1,h1,[],φ)) (hφ:AllP φ)
  (hcall:CROk P Γ (evalD Γ t1 fv) (args.toList.map (evalD Γ t1)) h1 (.pan c hq)) (hmq:ah hq []=true) :
  VW P Γ X r (.region id (ops.push o) true) (fun e s=>e=.panic c∧s={t:=t1,h:=hq,m:=[]}) {t:=t,h:=h,m:=[]}:=by
 intro a w hst
 have hRW:=eG (K:=fun t' h'=>(fun (e:Exit) (s:AS)=>e=.normal∧s={t:=t1,h:=h1,m:=[]}) .normal {t:=t',h:=h',m:=[]}) ok hI ⟨rfl,rfl⟩ _ _ _ _ _ _ StkOk.nil hm hsym hφ
 have hA:=VA.drawW (X:=X) (r:=r) (Q:=fun e s=>e=.normal∧s={t:=t1,h:=h1,m:=[]}) ok hD hx hRW a w hst
 refine wpIn_region_any ok.mixed ?_
 have e1:EN (ops.push o).size false=(EN ops.size false).push false:=by
  rw[Array.size_push];exact Array.replicate_succ
 have e2:(ops.push o).size=ops.size+1:=Array.size_push _
 rw[e1,e2]
 refine xp hpush (fun i o' ho'=>?_) (fun a' w' K hq6=>?_) (fun e a' w' hne hq6=>?_) _ _ _ _ (by simp) ?_ hA
 ·have hmem:o'∈(ops.push o).toList:=by
   rw[←Ej] at ho'
   exact D1 ho'
  have:=DK.1 hgs o' hmem
  simpa using this
 ·obtain⟨_,s,⟨_,rfl⟩,l,R,E,rt,rd⟩:=hq6
  refine⟨fun _ _=>trivial,?_⟩
  rw[G1 _ _ _ (by intro c hc;rw[ho] at hc;simp at hc)]
  have e1:(execOp a'.eval o).run P w'=(do let d ←Ek (a'.eval fv) (args.toList.map a'.eval).toArray;invoke d.target d.args:Sem Next).run P w':=by
   unfold execOp
   rw[ho]
   simp only[resolve]
   congr 3
   rw[←Gy]
  rw[e1]
  exact(hcall:VInvP P Γ _ _ h1 fun c2 h2=>c2=c∧h2=hq) X.O w' l _ _ R (aC R rt fv) (ci R rt args.toList) r o a' _ _ fun c2 h2 l2 w2 ⟨g1,g2⟩ g3 g4=>by
   subst g1;subst g2
   exact⟨by simp,_,⟨rfl,rfl⟩,l2,g3,E.trans g4,g4.relL rt,Ga g4.keep hmq rd⟩
 ·obtain⟨_,s,⟨h1,_⟩,_⟩:=hq6
  exact absurd h1 hne
 ·unfold pp at hpush
  rw[Dr] at hpush
  exact hpush.1
theorem CW.drawPush{P:Program}{Γ:ae}{h0:List Blk}{rd:Bool}(ok:POk P){I:Inl}(hI:ej P Γ I){id:Nat}{opz ops:Array Oper}{o:Oper}{t t1:List D}{h h1 hq:List Blk}(as:List Ans){φ:List Prop}{fv:Operand}{args:Array Operand}{ats:Array TypeId}{c:List PanicEntry}
  (hz:opz=ops.push o) (ho:o.op=.call {callee:=.value fv,args,argTypes:=ats}) (hgs:(ops.push o).toList.all (fun o=>o.guard.isNone)=true) (hpush:pp ops o=true) (hD:fH ops.toList (a9 ops.toList [])=true)
  (hx:ops.toList.all (fun o=>match o.dst with|some x=>Qd (x<t.length)|none=>true)=true) (hm:ah h []=true)
  (hsym:gI P Γ I [] ops.toList true ops.toList [] t h as=some (t1,h1,[],φ)) (hφ:AllP φ)
  (hcall:CROk P Γ (evalD Γ t1 fv) (args.toList.map (evalD Γ t1)) h1 (.pan c hq)) (hmq:ah hq []=true) :
  CW P Γ h0 rd (.region id opz true) {t:=t,h:=h,m:=[]} (.panic c) {t:=t1,h:=hq,m:=[]}:=by
 subst hz
 exact fun X r _ _=>VW.drawPush ok hI ho hgs hpush hD hx hm hsym hφ hcall hmq
section
variable {P:Program} {Γ:ae}
theorem AtF.cw{f0:FuncId}{X:Ctx}{h0:List Blk}{c:Code}{s s':AS}{e:Exit}(hc:CW P Γ h0 false c s e s')(hX:X.h=h0){a:Act}{w:World}(hs:St Γ X s a w):AtF P f0 c (fun e1 a1 w1=>e1=e∧St Γ X s' a1 w1) a w:=by
 refine AtF.of_wp (wpIn_mono (hc X none hX (fun _=>rfl) a w hs) ?_)
 rintro e1 a1 w1 ⟨_,s1,⟨rfl,rfl⟩,h2⟩
 exact⟨rfl,h2⟩
def TopF(P:Program)(Γ:ae)(f:FuncId)(c:Code)(s:AS)(e:Exit)(s':AS):Prop :=
 ∀(O:Nat→Prop) (w0:World) (l0:Loc) (h0:List Blk) (a:Act) (w:World),h0=s.h→St Γ {O:=O,w:=w0,l:=l0,h:=h0} s a w →
  AtF P f c (fun e1 a1 w1=>e1=e∧St Γ {O:=O,w:=w0,l:=l0,h:=h0} s' a1 w1) a w
theorem VRes.of_topF{f:FuncId}{fn:Func}{c:Code}{args:List D}{h:List Blk}{c0:List PanicEntry}{s':AS}{r:CR}(hf:P.funcs[f]? = some fn)(hb:fn.body=some c)
  (ht:TopF P Γ f c {t:=bJ fn args,h:=h,m:=[]} (.panic c0) s') (he:fz P fn (fun _ _ _ _=>none) h.length (.panic c0) s' none=some r):VRes P Γ f args h r:=by
 intro O w l vs R ra
 refine tl hf hb ?_
 refine(ht O w l h _ w rfl (eV R ra fn)).mono ?_
 rintro e1 a1 w1 ⟨rfl,hst⟩
 unfold fz at he
 split at he
 case h_2=>simp at he
 rename_i hmk
 simp only[Dr,decide_eq_true_eq] at hmk
 obtain⟨l',R',E',rt',rd'⟩:=hst
 exact bK (u:=.panicking c0) (by simp) s'.m a1.defers w1 l' s'.h R' E' rt' rd' hmk.2 fun w2 l2 R2 E2 rt2=>fL he R2 E2 rt2
end
def ed:Code→Nat→Bool
 | .region i _ _,n=>Nat.beq i n
 | .seq a b,n=>ed a n||ed b n
 | .cond _ a b,n=>ed a n||ed b n
 | .block _ b,n=>ed b n
 | .loop b,n=>ed b n
 | .scope b,n=>ed b n
 | .rangeFunc _ _ a b,n=>ed a n||ed b n
 | _,_=>false
def cz:Code→Nat→Code
 | .seq (.region i o d) b,n=>bif Nat.beq i n then .seq (.region i o d) b else cz b n
 | .seq a b,n=>bif ed a n then cz a n else cz b n
 | .cond _ a b,n=>bif ed a n then cz a n else cz b n
 | .block _ b,n=>cz b n
 | .loop b,n=>cz b n
 | .scope b,n=>cz b n
 | .rangeFunc _ _ a b,n=>bif ed a n then cz a n else cz b n
 | c,_=>c
section
variable {P:Program} {Γ:ae}
def nv:CallX:=fun _ _ _=>none
theorem pq{call:CallX}{t:List D}{h:List Blk}{o:Op}{r:CR}(hs:oM P Γ nv t h o=some r):oM P Γ call t h o=some r:=by
 unfold oM at hs ⊢
 split at hs
 ·simp[nv] at hs
 ·exact hs
 ·exact hs
theorem fQ{call:CallX}{m:List Nat}{L:List Oper}{t1:List D}{h1:List Blk}{r:Exit×List D×List Blk}{os2:List Oper}:∀(os1:List Oper) (t:List D) (h:List Blk),aX P Γ nv m L os1 t h=some (.normal,t1,h1)→aX P Γ call m L os2 t1 h1=some r →
  aX P Γ call m L (os1++os2) t h=some r
 | [],t,h,ha,hb=>by
  simp only[aX,Dj,Dm] at ha
  obtain⟨_,rfl,rfl⟩:=ha
  exact hb
 | o::os,t,h,ha,hb=>by
  simp only[aX,Ic] at ha ⊢
  split at ha
  ·split at ha
   ·rename_i d h' hst
    rw[pq (call:=call) hst]
    simp only
    split at ha
    ·rename_i hm
     rw[if_pos hm]
     exact fQ os _ _ ha hb
    ·simp at ha
   ·split at ha<;>simp at ha
   ·simp at ha
  ·exact fQ os _ _ ha hb
  ·simp at ha
open Classical in
noncomputable def xq(x0:D)(a0:List D)(h0:List Blk)(r0:CR):CallX:=fun x args h=>if x=x0∧args=a0∧h=h0 then some r0 else none
theorem xr{x0:D}{a0:List D}{h0:List Blk}{r0:CR}(hr:CROk P Γ x0 a0 h0 r0):(xq x0 a0 h0 r0).Ok P Γ:=by
 intro x args h r he
 unfold xq at he
 split at he
 ·rename_i hh
  obtain⟨rfl,rfl,rfl⟩:=hh
  cases he
  exact hr
 ·simp at he
theorem CW.callPan{h0:List Blk}{rd:Bool}{id:Nat}{ops:Array Oper}{os1 rest:List Oper}{o:Oper}{t t1:List D}{h h1 hp:List Blk}{fv:Operand}{args:Array Operand}{ats:Array TypeId}{c:List PanicEntry}
  (hops:ops.toList=os1++o::rest) (hpre:aX P Γ nv [] ops.toList os1 t h=some (.normal,t1,h1)) (ho:o.op=.call {callee:=.value fv,args,argTypes:=ats}) (hg:o.guard=none)
  (hcall:VInvP P Γ (evalD Γ t1 fv) (args.toList.map (evalD Γ t1)) h1 fun c2 h2=>c2=c∧h2=hp) (hm:ah hp []=true) :
  CW P Γ h0 rd (.region id ops false) {t:=t,h:=h,m:=[]} (.panic c) {t:=t1,h:=hp,m:=[]}:=by
 have hok:=xr (P:=P) (Γ:=Γ) (x0:=evalD Γ t1 fv) (a0:=args.toList.map (evalD Γ t1)) (h0:=h1) (r0:=.pan c hp) hcall
 refine CW.regionX (s:={t:=t,h:=h,m:=[]}) hok ?_
 show aX P Γ _ [] ops.toList ops.toList t h=_
 conv=>lhs;arg 6;rw[hops]
 refine fQ os1 t h hpre ?_
 simp only[aX,hg,aB]
 have e1:oM P Γ (xq (evalD Γ t1 fv) (args.toList.map (evalD Γ t1)) h1 (.pan c hp)) t1 h1 o.op=some (.pan c hp):=by
  unfold oM
  rw[ho]
  simp only[xq]
  simp
 rw[e1]
 simp only
 rw[if_pos hm]
theorem VPan.frzArgs{f:FuncId}{args:List D}{h:List Blk}{c0:List PanicEntry}(hi:Eh 0 (uU h args)=true)(he:VPan P Γ f (uU h args) [] fun c h'=>c=c0∧h'=[]):VPan P Γ f args h fun c h'=>c=c0∧h'=h:=by
 intro O w l vs R ra
 have hav:∀l' k,avs (fun k=>avs O l h k∧¬kG l h k) l' [] k→avs O l h k∧¬kG l h k:=fun l' k ho=>ho.elim id (fun h=>absurd h bH)
 have R0:Rep Γ (fun k=>avs O l h k∧¬kG l h k) w l []:=by
  refine⟨fun blk ho=>absurd ho bH,fun blk ho=>?_,fun b b' x x' k c c' hb=>by simp at hb,fun b x hb=>by simp at hb,fun g cs hg=>?_⟩
  ·rcases ho.1 with ho|ho
   ·exact R.obd blk ho
   ·exact(R.inb blk ho).1
  ·exact aq (fun k hk=>(hav l k hk).1) (R.glo g cs hg)
 have ra0:=jy (av':=avs (fun k=>avs O l h k∧¬kG l h k) l []) R (fun k hk=>hav l k hk) hi ra
 refine Fi (he _ w l vs R0 ra0) ?_
 rintro e w' ⟨c,h2,l',rfl,⟨rfl,rfl⟩,R',E'⟩
 have E:Ext w l h w' l h:=⟨E'.size,fun blk hb _=>E'.same blk hb bH,fun blk ho=>.inl ho,fun b x hx=>⟨x,hx,x.le_refl,fun _=>rfl⟩,E'.tape⟩
 refine⟨_,h,l,rfl,⟨rfl,rfl⟩,⟨fun blk ho=>⟨E7 (R.inb blk ho).1 E'.size,(R.inb blk ho).2⟩,fun blk ho=>E7 (R.obd blk ho) E'.size,R.inj,fun b x hx=>?_,fun g cs hg=>?_⟩,E⟩
 ·by_cases hg:x=.gone
  ·subst hg;trivial
  exact BlkOk.ext E rfl (fun blk cp hl=>E'.same blk (R.inb blk ⟨b,x,cp,hx,hg,hl⟩).1 bH) (R.blk b x hx)
 ·exact Ha E.hc g 0 cs (R.glo g cs hg)
theorem RW.soundK{X:Ctx}{r:Option Nat}{m:List Nat}{ops:Array Oper}{Q':Exit→Act→World→Prop}{tail:List Nat}{K:List D→List Blk→Prop}
  (hN:∀t' h' a w,K t' h'→St Γ X {t:=t',h:=h',m:=m} a w→wpOpsIn (FW r) 0 P ops Q' tail a w):∀(os:List Oper) (i:Nat) (t:List D) (h:List Blk) (more:List Oper),ops.toList.drop i=os++more→RW P Γ m ops.toList false os t h K →
  ∀(a:Act) (w:World),St Γ X {t:=t,h:=h,m:=m} a w→wpOpsIn (FW r) 0 P ops Q' (ES i os.length++tail) a w:=by
 intro os
 induction os with
 | nil =>
  intro i t h more hd hr a w hs
  exact hN _ _ _ _ hr hs
 | cons o os ih =>
  intro i t h more hd hr a w hs
  have ho:ops[i]? = some o:=by
   rw[←Ej]
   have:=congrArg (·[0]?) hd
   simpa using this
  have hd':ops.toList.drop (i+1)=os++more:=by
   have:=congrArg (List.drop 1) hd
   simpa[Nat.add_comm] using this
  simp only[Ex,Hn,Ic,wpOpsIn,ho]
  exact ka rfl hr (fun d h' a' w' hk hs'=>ih (i+1) _ _ _ hd' hk.2 a' w' hs') hs
theorem CW.symPan(ok:POk P){I:Inl}(hI:ej P Γ I){h0:List Blk}{rd:Bool}{id:Nat}{ops:Array Oper}{os1 rest:List Oper}{o:Oper}{t t1:List D}{h h1 hp:List Blk}(as:List Ans){φ:List Prop}{fv:Operand}{args:Array Operand}{ats:Array TypeId}{c:List PanicEntry}{m:List Nat}
  (hops:ops.toList=os1++o::rest) (hm:ah h m=true) (hsym:gI P Γ I m ops.toList false os1 [] t h as=some (t1,h1,[],φ)) (hφ:AllP φ) (ho:o.op=.call {callee:=.value fv,args,argTypes:=ats}) (hg:o.guard=none)
  (hcall:VInvP P Γ (evalD Γ t1 fv) (args.toList.map (evalD Γ t1)) h1 fun c2 h2=>c2=c∧h2=hp) (hmp:ah hp m=true) :
  CW P Γ h0 rd (.region id ops false) {t:=t,h:=h,m:=m} (.panic c) {t:=t1,h:=hp,m:=m}:=by
 intro X r _ _ a w hst
 have hRW:=eG (K:=fun t' h'=>t'=t1∧h'=h1) ok hI ⟨rfl,rfl⟩ _ _ _ _ _ _ StkOk.nil hm hsym hφ
 refine wpIn_region ?_
 have hlen:ops.size=os1.length+(rest.length+1):=by rw[←ER,hops];simp
 have hrange:EE ops.size=ES 0 os1.length++(os1.length::ES (os1.length+1) rest.length):=by
  rw[hlen,GB,←List.range'_append_1,Hn,Nat.zero_add]
 rw[hrange]
 have hoi:ops[os1.length]? = some o:=by rw[←Ej,hops];simp
 refine RW.soundK (X:=X) (r:=r) (m:=m) ?_ os1 0 t h (o::rest) (by simpa using hops) hRW a w hst
 rintro t' h' a' w' ⟨rfl,rfl⟩ ⟨l,R,E,rt,rd'⟩
 simp only[wpOpsIn,hoi]
 rw[if_pos (eK hg)]
 refine⟨fun _ _=>trivial,?_⟩
 rw[G1 _ _ _ (by intro c hc;rw[ho] at hc;simp at hc)]
 have e1:(execOp a'.eval o).run P w'=(do let d ←Ek (a'.eval fv) (args.toList.map a'.eval).toArray;invoke d.target d.args:Sem Next).run P w':=by
  unfold execOp
  rw[ho]
  simp only[resolve]
  congr 3
  rw[←Gy]
 rw[e1]
 exact(hcall:VInvP P Γ _ _ h' fun c2 h2=>c2=c∧h2=hp) X.O w' l _ _ R (aC R rt fv) (ci R rt args.toList) r o a' _ _ fun c2 h2 l2 w2 ⟨g1,g2⟩ g3 g4=>by
  subst g1;subst g2
  exact⟨by simp,_,⟨rfl,rfl⟩,l2,g3,E.trans g4,g4.relL rt,Ga g4.keep hmp rd'⟩
theorem VPan.glob0{Γ':ae}{f:FuncId}{args:List D}{h:List Blk}{K:List PanicEntry→List Blk→Prop}(he:VPan P (fun _=>none) f args h K):VPan P Γ' f args h K:=by
 intro O w l vs R ra
 refine Fi (he O w l vs (R.less (GLe.none Γ')) ra) ?_
 rintro e w' ⟨c,h2,l',rfl,hq,R',E'⟩
 exact⟨c,h2,l',rfl,hq,R.more E' R',E'⟩
end
def Shp(P:Program):Nat→TypeId→List Dp→Prop
 | 0,_,_=>False
 | n+1,t,ds=>match P.underlying t with
  | some .bool=>∃b,ds=[.v (.bool b)]
  | some (.int k)=>∃x,ds=[.v (.int k x)]∧(Lit.int k x).wf=true
  | some .string=>∃s,ds=[.v (.string s)]∧s.size≤reachBytes
  | some (.slice e)=>∃es,ds=[.sl es]∧es.length*P.bytesOf e≤reachBytes∧∀r∈es,Shp P n e r
  | some (.struct fs)=>ds.length=P.cellsOf t∧∀f∈fs.toList,Shp P n f.type ((ds.drop f.offset).take (P.cellsOf f.type))
  | _=>False
def dX(P:Program):List Field→Nat→Nat→Bool
 | [],acc,total=>acc==total
 | f::fs,acc,total=>(f.offset==acc)&&dX P fs (acc+P.cellsOf f.type) total
def uZ(P:Program)(ts:List TypeId):Bool:=ts.all fun t=>match P.underlying t with
 | some .bool|some (.int _)|some .string=>true
 | some (.slice e)=>ts.contains e&&Qd (0<P.cellsOf e)
 | some (.struct fs)=>dX P fs.toList 0 (P.cellsOf t)&&fs.toList.all fun f=>ts.contains f.type
 | _=>false
def RelPL(w:World)(av:Nat→Prop):List Dp→List Value→Prop
 | [],[]=>True
 | d::ds,y::ys=>RelP w av d y∧RelPL w av ds ys
 | _,_=>False
section
variable {w:World} {av:Nat→Prop}
theorem RelPL.length:∀{ds:List Dp} {ys:List Value},RelPL w av ds ys→ds.length=ys.length
 | [],[],_=>rfl
 | _::_,_::_,h=>by simp[RelPL.length h.2]
 | [],_::_,h=>h.elim
 | _::_,[],h=>h.elim
theorem RelPL.append:∀{ds ds':List Dp} {ys ys':List Value},RelPL w av ds ys→RelPL w av ds' ys'→RelPL w av (ds++ds') (ys++ys')
 | [],_,[],_,_,h=>h
 | _::_,_,_::_,_,h,h'=>⟨h.1,RelPL.append h.2 h'⟩
 | [],_,_::_,_,h,_=>h.elim
 | _::_,_,[],_,h,_=>h.elim
theorem RelPL.relL{l:Loc}{h:List Blk}:∀{ds:List Dp} {ys:List Value},RelPL w av ds ys→RelL w av l h (ds.map .p) ys
 | [],[],_=>by simp[RelL]
 | _::_,_::_,r=>by simp only[Fm,RelL,Rel];exact⟨r.1,RelPL.relL r.2⟩
 | [],_::_,h=>h.elim
 | _::_,[],h=>h.elim
theorem pt{P:Program}:∀{fs:List Field} {acc total:Nat},dX P fs acc total=true→acc≤total∧∀f∈fs,acc≤f.offset
 | [],acc,total,h=>by simp only[dX,beq_iff_eq] at h;exact⟨by omega,by simp⟩
 | f::fs,acc,total,h=>by
  simp only[dX,Dr,beq_iff_eq] at h
  obtain⟨h1,h2⟩:=pt h.2
  refine⟨by omega,fun g hg=>?_⟩
  rcases DM.1 hg with rfl|hg
  ·omega
  ·have:=h2 g hg;omega
theorem kK{P:Program}{cs:List Value}{S:TypeId→List Dp→Prop}{total:Nat}(hc:cs.length=total):∀(fs:List Field) (acc:Nat),dX P fs acc total=true →
  (∀f∈fs,∃ds,S f.type ds∧RelPL w av ds ((cs.drop f.offset).take (P.cellsOf f.type))) →
  ∃D,RelPL w av D (cs.drop acc)∧∀f∈fs,S f.type ((D.drop (f.offset - acc)).take (P.cellsOf f.type))
 | [],acc,h,_=>by
  simp only[dX,beq_iff_eq] at h
  refine⟨[],?_,by simp⟩
  rw[List.drop_of_length_le (by omega)]
  trivial
 | f::fs,acc,h,hf=>by
  simp only[dX,Dr,beq_iff_eq] at h
  obtain⟨rfl,h⟩:=h
  obtain⟨ds,hs,hr⟩:=hf f (List.mem_cons_self ..)
  obtain⟨D,hD,hS⟩:=kK hc fs _ h (fun g hg=>hf g (List.mem_cons_of_mem _ hg))
  obtain⟨hle,hoff⟩:=pt h
  have hlen:ds.length=P.cellsOf f.type:=by
   have:=hr.length
   rw[this,List.length_take,List.length_drop]
   omega
  refine⟨ds++D,?_,fun g hg=>?_⟩
  ·have:=hr.append hD
   rw[←List.drop_drop,List.take_append_drop] at this
   exact this
  ·rcases DM.1 hg with rfl|hg
   ·rw[Nat.sub_self,List.drop_zero,List.take_append_of_le_length (by omega),←hlen,List.take_length]
    exact hs
   ·have h1:=hoff g hg
    have hd:∀k,(ds++D).drop (ds.length+k)=D.drop k:=fun k=>by rw[GG];simp
    rw[show g.offset - f.offset=ds.length+(g.offset - (f.offset+P.cellsOf f.type)) by omega,hd]
    exact hS g hg
theorem mj{blk c:Nat}:∀(es:List (List Dp)) (off:Nat),(∀i e,es[i]? = some e→e.length=c∧RelCells w av blk (off+i*c) e)→RelRows w av blk c off es
 | [],_,_=>trivial
 | e::es,off,h=>by
  obtain⟨h1,h2⟩:=h 0 e rfl
  refine⟨h1,by simpa using h2,mj es (off+c) fun i e' he=>?_⟩
  obtain⟨h3,h4⟩:=h (i+1) e' (by simpa using he)
  refine⟨h3,?_⟩
  rw[show off+c+i*c=off+(i+1)*c by rw[EX];omega]
  exact h4
theorem kL(hav:∀k,¬av k){blk:Nat}:∀(ds:List Dp) (ys:List Value) (off:Nat),RelPL w av ds ys→(∀(j:Nat) (y:Value),ys[j]? = some y→w.cell? ⟨blk,off+j,none⟩=some y)→RelCells w av blk off ds
 | [],_,_,_,_=>trivial
 | d::ds,[],_,r,_=>r.elim
 | d::ds,y::ys,off,r,hc=>by
  refine⟨⟨hav _,y,by simpa using hc 0 y rfl,r.1⟩,kL hav ds ys (off+1) r.2 fun j z hz=>?_⟩
  have:=hc (j+1) z (by simpa using hz)
  rwa[show off+(j+1)=off+1+j by omega] at this
theorem rS{a:Addr}{n:Nat}{cs:List Value}(h:w.cells? 0 a n=some cs):cs.length=n∧∀(j:Nat) (y:Value),cs[j]? = some y→w.cell? (a.add j)=some y:=by
 obtain⟨h1,h2,h3⟩:=World.cells?_some h
 refine⟨h2,fun j y hy=>?_⟩
 have hj:j<n:=by rw[←h2];exact(Dq.1 hy).1
 rw[h3 j hj,hy]
theorem fA{H:Type}{P:Program}{e:TypeId}{q:Nat→Bool}:∀{l:List (DataW H)},(DataW.weightsAll P e l).all q=true→∀d∈l,(d.weights P e).all q=true
 | [],_,d,hd=>by simp at hd
 | x::l,h,d,hd=>by
  simp only[DataW.weightsAll,Io,Dr] at h
  rcases DM.1 hd with rfl|hd
  ·exact h.1
  ·exact fA h.2 d hd
theorem cm{H:Type}{P:Program}{q:Nat→Bool}:∀{ts:List TypeId} {l:List (DataW H)},(Ji P ts l).all q=true→∀(i:Nat) (t:TypeId) (d:DataW H),ts[i]? = some t→l[i]? = some d→(d.weights P t).all q=true
 | [],_,_,i,t,d,ht,_=>by simp at ht
 | _::_,[],_,i,t,d,_,hd=>by simp at hd
 | t0::ts,x::l,h,i,t,d,ht,hd=>by
  simp only[Ji,Io,Dr] at h
  cases i with
  | zero=>simp at ht hd;subst ht;subst hd;exact h.1
  | succ i=>exact cm h.2 i t d (by simpa using ht) (by simpa using hd)
end
end Go.Vi
