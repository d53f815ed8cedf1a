/- DegreeMore: part of the proof: an evaluator of the model's programs on abstract values, and its soundness. No conditions beyond the given statement's own. -/
import Derived.Test.YthokmgafnhmlbaaGreatDoorV7
import Derived.ChangeArms
import Derived.OpenShut
import Derived.Below
import Derived.Carry
open Decidable renaming decide → Dd
namespace Go.Vi
open Go
theorem Ev.castH{P:Program}{Γ:Glob}{f:FuncId}{args:List D}{h h' h2:List Blk}{d d2:D}(he:Ev P Γ f args h d h')(hd:d=d2)(hh:h'=h2):Ev P Γ f args h d2 h2:=hd▸hh▸he
theorem CW.cast{P:Program}{Γ:Glob}{h0:List Blk}{rd:Bool}{c:Code}{s s' s2:AS}{e e2:Exit}(hw:CW P Γ h0 rd c s e s')(he:e=e2)(hs:s'=s2):CW P Γ h0 rd c s e2 s2:=he▸hs▸hw
def forL{α σ ρ:Type}(f:α→σ→σ⊕ρ):List α→σ→σ⊕ρ
 | [],s=>.inl s
 | a::l,s=>match f a s with
  | .inl s'=>forL f l s'
  | .inr r=>.inr r
def eachFin{σ ρ:Type}(eE:Exit)(sE:σ→AS)(fin:ρ→Exit×AS):σ⊕ρ→Exit×AS
 | .inl s=>(eE,sE s)
 | .inr r=>fin r
def bodyFin{σ ρ:Type}(st:σ→AS)(fin:ρ→Exit×AS):σ⊕ρ→Exit×AS
 | .inl s=>(.normal,st s)
 | .inr r=>fin r
theorem CW.each{P:Program}{Γ:Glob}{h0:List Blk}{rd:Bool}{c:Code}{α σ ρ:Type}(l:List α)(f:α→σ→σ⊕ρ)(st:Nat→σ→AS)(eE:Exit)(sE:σ→AS)(fin:ρ→Exit×AS)
  (inv:Nat→σ→Prop) (hE:eE ≠ .normal) (hF:∀r,(fin r).1 ≠ .normal)
  (body:∀i a s,l[i]? = some a→inv i s→(∀s',f a s=.inl s'→inv (i+1) s')∧CW P Γ h0 rd c (st i s) (bodyFin (st (i+1)) fin (f a s)).1 (bodyFin (st (i+1)) fin (f a s)).2)
  (last:∀s,inv l.length s→CW P Γ h0 rd c (st l.length s) eE (sE s)) (s:σ) (h:inv 0 s) :
  CW P Γ h0 rd (.loop c) (st 0 s) (eachFin eE sE fin (forL f l s)).1 (eachFin eE sE fin (forL f l s)).2:=by
 refine CW.loop (ι:={p:Nat×σ // p.1≤l.length∧inv p.1 p.2}) (fun p=>st p.1.1 p.1.2) (fun p=>eachFin eE sE fin (forL f (l.drop p.1.1) p.1.2)) (fun p=>l.length - p.1.1) ?_ ⟨(0,s),Nat.zero_le _,h⟩
 rintro⟨⟨i,s⟩,hi,hv⟩
 simp only at hi hv ⊢
 by_cases hlt:i<l.length
 ·have ha:l[i]? = some l[i]:=List.getElem?_eq_getElem hlt
  have hd:l.drop i=l[i]::l.drop (i+1):=List.drop_eq_getElem_cons hlt
  obtain⟨b1,b2⟩:=body i _ s ha hv
  rw[hd]
  simp only[forL]
  cases hf:f l[i] s with
  | inl s' =>
   rw[hf] at b2
   exact .inl ⟨⟨(i+1,s'),hlt,b1 _ hf⟩,by simp only;omega,rfl,b2⟩
  | inr r =>
   rw[hf] at b2
   exact .inr ⟨hF r,b2⟩
 ·have:i=l.length:=by omega
  subst this
  rw[List.drop_length]
  exact .inr ⟨hE,last s hv⟩
def rfAsg:Code→Code
 | .rangeFunc _ _ a _=>a
 | _=>.skip
def rfBody:Code→Code
 | .rangeFunc _ _ _ b=>b
 | _=>.skip
theorem Iv.round{P:Program}{Γ:Glob}{b:Nat}{args:List D}{h h1 h':List Blk}{pend:Option Code}{f:FuncId}{ts:List D}{ps:Array Tmp}{asg body:Code}{t1:List D}{p1:Option Code}{f1:FuncId}{ts1:List D}{ps1:Array Tmp}
  {a1 b1:Code} {e2:Exit} {s2:AS} {d:D} (hb:h[b]? = some (.loop .ready pend f ts ps asg body)) (hlen:args.length=ps.size)
  (hasg:CW P Γ h true asg {t:=setAll ts (ps.toList.zip args),h:=h,m:=[]} .normal {t:=t1,h:=h1,m:=[]})
  (hb1:h1[b]? = some (.loop .ready p1 f1 ts1 ps1 a1 b1))
  (hbody:CW P Γ h true body {t:=t1,h:=h1.set b (.loop .busy p1 0 ts1 ps1 a1 b1),m:=[]} e2 s2)
  (hend:roundEnd b e2 s2=some (d,h')):Iv P Γ (.ref (.yl b)) args h d h' :=
 round_sound hb hlen (fun X r hX=>hasg X r hX (fun h=>by cases h)) hb1 (fun X r hX=>hbody X r hX (fun h=>by cases h)) hend
theorem CW.rangeFunc{P:Program}{Γ:Glob}(ok:POk P){h0:List Blk}{s s':AS}{g:Operand}{ps:Array Tmp}{asg body:Code}{f:FuncId}{fi ca:List D}{d:D}{h2:List Blk}{e:Exit}(hg:calleeD (evalD Γ s.t g)=some (f,fi,ca))(hf:funOk P f=true)
  (hc:Ev P Γ f (fi++[.ref (.yl (s.h.length+1))]++ca) (s.h++[.defd]++[.loop .ready none 0 s.t ps asg body]) d h2)
  (he:loopEnd s.h.length s.t s.m h2=some (e,s')):CW P Γ h0 false (.rangeFunc g ps asg body) s e s':=by
 intro X r _ hr
 obtain rfl:=hr rfl
 exact VW.rangeFunc ok hg hf (hc.mono fun _ _ hq=>hq.2) he
def Ref.to(n:Nat):Ref→Ref
 | .ptr _ o=>.ptr n o
 | .vec _ e=>.vec n e
 | .vs _ e i k c=>.vs n e i k c
 | .av _ o k s=>.av n o k s
 | .vp _ e i j=>.vp n e i j
 | .mp _=>.mp n
 | .it _=>.it n
 | .yl _=>.yl n
def idx(x:Nat):Nat→List Nat→Option Nat
 | _,[]=>none
 | k,y::ys=>match x==y with
  | true=>some k
  | false=>idx x (k+1) ys
theorem idx_some{x:Nat}:∀{ys:List Nat} {k i:Nat},idx x k ys=some i→k≤i∧ys[i - k]? = some x
 | [],k,i,h=>by simp[idx] at h
 | y::ys,k,i,h=>by
  unfold idx at h
  split at h
  ·rename_i e
   simp only[Option.some.injEq] at h
   subst h
   simp only[beq_iff_eq] at e
   subst e
   simp
  ·obtain⟨h1,h2⟩:=idx_some h
   refine⟨by omega,?_⟩
   rw[show i - k=(i - (k+1))+1 by omega,List.getElem?_cons_succ]
   exact h2
theorem idx_none{x:Nat}:∀{ys:List Nat} {k:Nat},idx x k ys=none→x ∉ ys
 | [],k,_=>by simp
 | y::ys,k,h=>by
  unfold idx at h
  split at h
  ·simp at h
  ·rename_i e
   simp only[beq_eq_false_iff_ne,ne_eq] at e
   simp[e,idx_none h]
theorem idx_at{x:Nat}{ys:List Nat}{i:Nat}(hn:ys.Nodup)(h:ys[i]? = some x):idx x 0 ys=some i:=by
 cases hi:idx x 0 ys with
 | none=>exact absurd (List.mem_of_getElem? h) (idx_none hi)
 | some j =>
  obtain⟨_,h2⟩:=idx_some hi
  simp only[Nat.sub_zero] at h2
  have hj:=(List.getElem?_eq_some_iff.1 h2).1
  have hi':=(List.getElem?_eq_some_iff.1 h).1
  rw[List.getElem?_eq_getElem hj] at h2
  rw[List.getElem?_eq_getElem hi'] at h
  have:ys[j]=ys[i]:=by simp only[Option.some.injEq] at h h2;rw[h,h2]
  rw[(List.getElem_inj hn).1 this]
def inv(is:List Nat)(r:Ref):D:=match idx r.blk 0 is with
 | some i=>.ref (r.to i)
 | none=>.any
def fwd(is:List Nat)(m:Nat)(r:Ref):D:=match is[r.blk]? with
 | some i=>.ref (r.to i)
 | none=>.ref (r.to (m+(r.blk - is.length)))
def isMit:Blk→Bool
 | .mit ..=>true
 | _=>false
section
variable {w:World} {av av':Nat→Prop} {l l':Loc} {h h':List Blk} {f:Ref→D}
mutual
theorem rel_mapR2(ha:∀k,av' k→av k)(hf:∀r y,RefRel l h r y→Rel w av' l' h' (f r) y):∀{d:D} {y:Value},Rel w av l h d y→Rel w av' l' h' (D.mapR f d) y
 | .p _,_,r=>by simp only[Rel,D.mapR] at r ⊢;exact relP_take ha r
 | .any,_,_=>by simp[Rel,D.mapR]
 | .ref r,y,rr=>by simp only[D.mapR];exact hf r y (by simpa only [Rel] using rr)
 | .ep _,_,r=>by
  simp only[Rel,D.mapR] at r ⊢
  obtain⟨blk,off,r1,r2⟩:=r
  exact⟨blk,off,r1,relCells_take ha r2⟩
 | .csl _,_,r=>by
  simp only[Rel,D.mapR] at r ⊢
  rcases r with r|⟨blk,off,sz,r1,r2⟩
  ·exact .inl r
  ·exact .inr ⟨blk,off,sz,r1,relRows_take ha r2⟩
 | .fn _ _ _,_,r=>by
  simp only[Rel,D.mapR] at r ⊢
  obtain⟨a,c,r1,r2,r3⟩:=r
  exact⟨a,c,r1,relL_mapR2 ha hf r2,relL_mapR2 ha hf r3⟩
 | .agg _,_,r=>by
  simp only[Rel,D.mapR] at r ⊢
  obtain⟨vs,r1,r2⟩:=r
  exact⟨vs,r1,relL_mapR2 ha hf r2⟩
 | .tup _,_,r=>by
  simp only[Rel,D.mapR] at r ⊢
  obtain⟨vs,r1,r2⟩:=r
  exact⟨vs,r1,relL_mapR2 ha hf r2⟩
 | .grd _ _,_,r=>by
  simp only[Rel,D.mapR] at r ⊢
  exact⟨fun hg=>rel_mapR2 ha hf (r.1 hg),r.2⟩
theorem relL_mapR2(ha:∀k,av' k→av k)(hf:∀r y,RefRel l h r y→Rel w av' l' h' (f r) y):∀{ds:List D} {ys:List Value},RelL w av l h ds ys→RelL w av' l' h' (D.mapRL f ds) ys
 | [],[],_=>by simp[RelL,D.mapRL]
 | [],_::_,r=>by simp[RelL] at r
 | _::_,[],r=>by simp[RelL] at r
 | _::_,_::_,r=>by
  simp only[RelL,D.mapRL] at r ⊢
  exact⟨rel_mapR2 ha hf r.1,relL_mapR2 ha hf r.2⟩
end
theorem relKV_mapR2(ha:∀k,av' k→av k)(hf:∀r y,RefRel l h r y→Rel w av' l' h' (f r) y):∀{kvs:List (D×D×Nat)} {es:List MapEntry},RelKV w av l h kvs es →
  RelKV w av' l' h' (kvs.map fun e=>(D.mapR f e.1,D.mapR f e.2.1,e.2.2)) es
 | [],[],_=>by simp[RelKV]
 | [],_::_,r=>by simp[RelKV] at r
 | _::_,[],r=>by simp[RelKV] at r
 | (k,d,m)::kvs,e::es,r=>by
  simp only[RelKV,List.map_cons] at r ⊢
  exact⟨rel_mapR2 ha hf r.1,rel_mapR2 ha hf r.2.1,r.2.2.1,relKV_mapR2 ha hf r.2.2.2⟩
theorem blkOk_mapR2(ha:∀k,av' k→av k)(hf:∀r y,RefRel l h r y→Rel w av' l' h' (f r) y){b b':Nat}(hl:l' b'=l b){x:Blk}(hm:isMit x=false)(r:BlkOk w av l h b x):BlkOk w av' l' h' b' (x.mapR f):=by
 cases x with
 | var cs =>
  obtain⟨blk,cp,c,T,r1,r2,r3⟩:=r
  exact⟨blk,cp,c,T,hl.trans r1,r2,relL_mapR2 ha hf r3⟩
 | vec es e sz =>
  unfold BlkOk at r ⊢
  simp only[Blk.mapR,hl] at r ⊢
  split
  ·rename_i h0;rw[h0] at r;simp only at r;rw[r];rfl
  ·rename_i blk cap h0
   rw[h0] at r
   obtain⟨oo,cc,rc,c,T,fr,ys,r1,r2,r3,r4,r5,r6,r7⟩:=r
   refine⟨oo,cc,rc,c,T,fr,ys,r1,r2,by simpa using r3,r4,?_,?_,r7⟩
   ·intro e he
    obtain⟨e0,he0,rfl⟩:=List.mem_map.1 he
    rw[mapRL_length];exact r5 e0 he0
   ·rw[←mapRL_flatten];exact relL_mapR2 ha hf r6
 | map kvs clock =>
  obtain⟨blk,cp,es,r1,r2,r3⟩:=r
  exact⟨blk,cp,es,hl.trans r1,r2,relKV_mapR2 ha hf r3⟩
 | sit s pos =>
  obtain⟨blk,cp,r1,r2⟩:=r
  exact⟨blk,cp,hl.trans r1,r2⟩
 | mit m since seen st=>simp[isMit] at hm
 | loop st pend fn tmps params asg body =>
  obtain⟨blk,cp,ts,dr,fn',r1,r2,r3⟩:=r
  exact⟨blk,cp,ts,dr,fn',hl.trans r1,r2,relL_mapR2 ha hf r3⟩
 | defd =>
  obtain⟨blk,cp,r1,r2⟩:=r
  exact⟨blk,cp,hl.trans r1,r2⟩
 | gone=>trivial
end
theorem isMit_mapR{f:Ref→D}(x:Blk):isMit (x.mapR f)=isMit x:=by cases x<;>rfl
theorem le_mapR2{f g:Ref→D}{x y:Blk}(h:(x.mapR f).le y):x.le (y.mapR g)∧(x.stays (y.mapR g)→(x.mapR f).stays y):=by
 cases x<;>cases y<;>simp only[Blk.le,Blk.mapR] at h<;>simp_all[Blk.le,Blk.mapR,Blk.stays]
theorem refRel_to{l l':Loc}{h h':List Blk}{f:Ref→D}{r:Ref}{n:Nat}{x:Blk}{y:Value}(hx:h[r.blk]? = some x)(hx':h'[n]? = some (x.mapR f))(hl:l' n=l r.blk)(rr:RefRel l h r y):RefRel l' h' (r.to n) y:=by
 unfold RefRel at rr ⊢
 refine⟨rr.1,?_⟩
 have rr:=rr.2
 cases r<;>simp only[Ref.blk] at hx hl<;>simp only[hx] at rr<;>simp only[Ref.to,hx',hl]<;>cases x<;>simp[Blk.mapR] at rr ⊢ <;> exact rr
theorem refRel_some{l:Loc}{h:List Blk}{r:Ref}{y:Value}(rr:RefRel l h r y):∃x,h[r.blk]? = some x:=by
 unfold RefRel at rr
 have rr:=rr.2
 cases hx:h[r.blk]? with
 | some x=>exact⟨x,rfl⟩
 | none=>cases r<;>simp only[Ref.blk] at hx<;>simp only[hx] at rr
def pick(is:List Nat)(H:List Blk):List Blk:=is.map fun i=>(H.getD i .gone).mapR (inv is)
theorem pick_get{is:List Nat}{H:List Blk}{b:Nat}{x:Blk}(h:(pick is H)[b]? = some x):∃i,is[b]? = some i∧x=(H.getD i .gone).mapR (inv is):=by
 unfold pick at h
 rw[List.getElem?_map] at h
 cases hi:is[b]? with
 | none=>rw[hi] at h;simp at h
 | some i=>rw[hi] at h;exact⟨i,rfl,by simpa using h.symm⟩
section
variable {Γ:Glob} {O:Nat→Prop} {w:World} {l:Loc} {H:List Blk} {is:List Nat}
def locP(is:List Nat)(l:Loc):Loc:=fun b=>match is[b]? with
 | some i=>l i
 | none=>none
theorem own_pick{k:Nat}(ho:own (locP is l) (pick is H) k):∃(b i cp:Nat) (x:Blk),is[b]? = some i∧H[i]? = some x∧x ≠ .gone∧l i=some (k,cp):=by
 obtain⟨b,x,cp,h1,h2,h3⟩:=ho
 obtain⟨i,hi,rfl⟩:=pick_get h1
 unfold locP at h3
 rw[hi] at h3
 have hg:H.getD i .gone ≠ .gone:=fun e=>h2 (by rw[e];rfl)
 refine⟨b,i,cp,H.getD i .gone,hi,?_,hg,h3⟩
 cases hx:H[i]? with
 | none=>simp[List.getD,hx] at hg
 | some x=>simp[List.getD,hx]
theorem own_of_pick{k:Nat}(ho:own (locP is l) (pick is H) k):own l H k:=by
 obtain⟨b,i,cp,x,_,h2,h3,h4⟩:=own_pick ho
 exact⟨i,x,cp,h2,h3,h4⟩
theorem refRel_inv(hn:is.Nodup){r:Ref}{y:Value}(rr:RefRel l H r y){av:Nat→Prop}:Rel w av (locP is l) (pick is H) (inv is r) y:=by
 unfold inv
 cases hi:idx r.blk 0 is with
 | none=>simp[Rel]
 | some i =>
  obtain⟨_,h2⟩:=idx_some hi
  simp only[Nat.sub_zero] at h2
  obtain⟨x,hx⟩:=refRel_some rr
  simp only[Rel]
  refine refRel_to (f:=inv is) hx ?_ ?_ rr
  ·unfold pick
   rw[List.getElem?_map,h2]
   simp[List.getD,hx]
  ·unfold locP
   rw[h2]
theorem Rep.pick(R:Rep Γ O w l H)(hn:is.Nodup)(hm:(pick is H).all (fun x=>!isMit x)=true){O':Nat→Prop}(hO:∀k,avs O' (locP is l) (Vi.pick is H) k→avs O l H k)(hO2:∀k,O' k→avs O l H k∧¬own (locP is l) (Vi.pick is H) k):
  Rep Γ O' w (locP is l) (Vi.pick is H) where
 inb k ho:=⟨(R.inb k (own_of_pick ho)).1,fun h'=>(hO2 k h').2 ho⟩
 obd k ho:=by
  rcases(hO2 k ho).1 with h'|h'
  ·exact R.obd k h'
  ·exact(R.inb k h').1
 inj b b' x x' k c c' h1 h2 h3 h4 h5 h6:=by
  obtain⟨i,hi,rfl⟩:=pick_get h1
  obtain⟨i',hi',rfl⟩:=pick_get h3
  unfold locP at h5 h6
  rw[hi] at h5;rw[hi'] at h6
  have g1:H.getD i .gone ≠ .gone:=fun e=>h2 (by rw[e];rfl)
  have g2:H.getD i' .gone ≠ .gone:=fun e=>h4 (by rw[e];rfl)
  have e1:H[i]? = some (H.getD i .gone):=by
   cases hx:H[i]? with
   | none=>simp[List.getD,hx] at g1
   | some x=>simp[List.getD,hx]
  have e2:H[i']? = some (H.getD i' .gone):=by
   cases hx:H[i']? with
   | none=>simp[List.getD,hx] at g2
   | some x=>simp[List.getD,hx]
  have:=R.inj i i' _ _ k c c' e1 g1 e2 g2 h5 h6
  subst this
  have a1:=idx_at hn hi
  have a2:=idx_at hn hi'
  rw[a1] at a2
  exact Option.some.inj a2
 blk b x h1:=by
  obtain⟨i,hi,rfl⟩:=pick_get h1
  cases hx:H[i]? with
  | none=>simp[List.getD,hx,Blk.mapR,BlkOk]
  | some x =>
   have hg:H.getD i .gone=x:=by simp[List.getD,hx]
   rw[hg] at h1 ⊢
   refine blkOk_mapR2 hO (fun r y rr=>refRel_inv hn rr) (b:=i) ?_ ?_ (R.blk i x hx)
   ·unfold locP;rw[hi]
   ·have:=List.all_eq_true.1 hm _ (List.mem_of_getElem? h1)
    rw[isMit_mapR] at this
    simpa using this
 glo g cs hg:=relCells_take hO (R.glo g cs hg)
end
def spread(is:List Nat)(m:Nat)(h':List Blk):Nat→List Blk→List Blk
 | _,[]=>[]
 | b,x::xs=>(match idx b 0 is with
  | some i=>(h'.getD i .gone).mapR (fwd is m)
  | none=>x)::spread is m h' (b+1) xs
def putB(is:List Nat)(h':List Blk)(H:List Blk):List Blk:=spread is H.length h' 0 H++(h'.drop is.length).map (Blk.mapR (fwd is H.length))
theorem spread_length{is:List Nat}{m:Nat}{h':List Blk}:∀(b:Nat) (xs:List Blk),(spread is m h' b xs).length=xs.length
 | _,[]=>rfl
 | b,x::xs=>by simp[spread,spread_length (b+1) xs]
theorem spread_get{is:List Nat}{m:Nat}{h':List Blk}:∀(b:Nat) (xs:List Blk) (j:Nat),(spread is m h' b xs)[j]? = (xs[j]?).map fun x=>match idx (b+j) 0 is with|some i=>(h'.getD i .gone).mapR (fwd is m)|none=>x
 | b,[],j=>by simp[spread]
 | b,x::xs,0=>by simp[spread]
 | b,x::xs,j+1=>by
  simp only[spread,List.getElem?_cons_succ]
  rw[spread_get (b+1) xs j,show b+1+j=b+(j+1) by omega]
section
variable {is:List Nat} {h' H:List Blk}
theorem putB_old{b:Nat}{x:Blk}(hx:H[b]? = some x)(hi:idx b 0 is=none):(putB is h' H)[b]? = some x:=by
 have hlt:=(List.getElem?_eq_some_iff.1 hx).1
 unfold putB
 rw[List.getElem?_append_left (by rw[spread_length];exact hlt),spread_get,hx]
 simp[hi]
theorem putB_is{b i:Nat}{x:Blk}(hx:H[b]? = some x)(hi:idx b 0 is=some i):(putB is h' H)[b]? = some ((h'.getD i .gone).mapR (fwd is H.length)):=by
 have hlt:=(List.getElem?_eq_some_iff.1 hx).1
 unfold putB
 rw[List.getElem?_append_left (by rw[spread_length];exact hlt),spread_get,hx]
 simp[hi]
theorem putB_new{j:Nat}:(putB is h' H)[H.length+j]? = (h'[is.length+j]?).map (Blk.mapR (fwd is H.length)):=by
 unfold putB
 rw[List.getElem?_append_right (by rw[spread_length];omega),spread_length,List.getElem?_map,List.getElem?_drop]
 simp
theorem putB_cases{b:Nat}{x:Blk}(h:(putB is h' H)[b]? = some x):
  (idx b 0 is=none∧H[b]? = some x)∨(∃i,b<H.length∧idx b 0 is=some i∧x=(h'.getD i .gone).mapR (fwd is H.length))∨∃j y,b=H.length+j∧h'[is.length+j]? = some y∧x=y.mapR (fwd is H.length):=by
 by_cases hb:b<H.length
 ·have hx:H[b]? = some H[b]:=List.getElem?_eq_getElem hb
  cases hi:idx b 0 is with
  | none=>rw[putB_old hx hi] at h;cases h;exact .inl ⟨rfl,hx⟩
  | some i=>rw[putB_is hx hi] at h;cases h;exact .inr (.inl ⟨i,hb,rfl,rfl⟩)
 ·obtain⟨j,rfl⟩:∃j,b=H.length+j:=⟨b - H.length,by omega⟩
  rw[putB_new] at h
  cases hy:h'[is.length+j]? with
  | none=>rw[hy] at h;simp at h
  | some y=>rw[hy] at h;exact .inr (.inr ⟨j,y,rfl,hy,by simpa using h.symm⟩)
end
def locB(is:List Nat)(m:Nat)(l l0:Loc):Loc:=fun b=>match idx b 0 is with
 | some i=>l0 i
 | none=>match Dd (b<m) with
  | true=>l b
  | false=>l0 (is.length+(b - m))
theorem Ev.frame{P:Program}{Γ:Glob}{f:FuncId}{args0 args:List D}{h0 h0' H:List Blk}{d0:D}(is:List Nat)(he:Ev P Γ f args0 h0 d0 h0')(hn:is.Nodup)(hb:∀i∈is,i<H.length)
  (ha:D.mapRL (inv is) args=args0) (hh:pick is H=h0) (hm:(h0.all (fun x=>!isMit x)&&h0'.all (fun x=>!isMit x))=true) :
  Ev P Γ f args H (d0.mapR (fwd is H.length)) (putB is h0' H):=by
 simp only[Bool.and_eq_true] at hm
 subst hh ha
 intro O w l vs R ra
 let O':Nat→Prop:=fun k=>avs O l H k∧¬own (locP is l) (pick is H) k
 have hO1:∀k,avs O' (locP is l) (pick is H) k→avs O l H k:=fun k ho=>ho.elim (·.1) (fun h=>.inr (own_of_pick h))
 have hO2:∀k,avs O l H k→avs O' (locP is l) (pick is H) k:=fun k ho=>by
  by_cases h:own (locP is l) (pick is H) k
  ·exact .inr h
  ·exact .inl ⟨ho,h⟩
 have R0:Rep Γ O' w (locP is l) (pick is H):=R.pick hn hm.1 hO1 (fun k h=>h)
 have ra0:RelL w (avs O' (locP is l) (pick is H)) (locP is l) (pick is H) (D.mapRL (inv is) args) vs:=relL_mapR2 hO1 (fun r y rr=>refRel_inv hn rr) ra
 refine CallsIn.mono (he O' w (locP is l) vs R0 ra0) ?_
 rintro e w' ⟨v,d2,h2,l',rfl,⟨rfl,rfl⟩,R',E',rd⟩
 have hlen:is.length≤h2.length:=by
  rcases Nat.lt_or_ge h2.length is.length with hlt|hge
  ·exfalso
   have hp:(pick is H)[h2.length]? ≠ none:=by
    unfold pick;rw[List.getElem?_map];simp[hlt]
   cases hx:(pick is H)[h2.length]? with
   | none=>exact hp hx
   | some x =>
    obtain⟨x',h1,_⟩:=E'.keep _ x hx
    simp at h1
  ·exact hge
 have hisP:∀{b i:Nat},is[b]? = some i→∃x,H[i]? = some x∧(pick is H)[b]? = some (x.mapR (inv is)):=fun {b i} hi=>by
  have hlt:=hb i (List.mem_of_getElem? hi)
  refine⟨H[i],List.getElem?_eq_getElem hlt,?_⟩
  unfold pick
  rw[List.getElem?_map,hi]
  simp[List.getD,List.getElem?_eq_getElem hlt]
 have L1:∀{i b:Nat},is[i]? = some b→locB is H.length l l' b=l' i:=fun {i b} hi=>by
  unfold locB;rw[idx_at hn hi]
 have L2:∀{b:Nat},idx b 0 is=none→b<H.length→locB is H.length l l' b=l b:=fun {b} h1 h2=>by
  unfold locB;rw[h1];simp[h2]
 have L3:∀{j:Nat},locB is H.length l l' (H.length+j)=l' (is.length+j):=fun {j}=>by
  unfold locB
  have:idx (H.length+j) 0 is=none:=by
   cases hi:idx (H.length+j) 0 is with
   | none=>rfl
   | some i =>
    obtain⟨_,h2⟩:=idx_some hi
    have:=hb _ (List.mem_of_getElem? h2)
    omega
  rw[this]
  have:Dd (H.length+j<H.length)=false:=by simp
  simp only[this,show is.length+(H.length+j - H.length)=is.length+j by omega]
 have back:∀{b:Nat} {x:Blk},(putB is h2 H)[b]? = some x→(idx b 0 is=none∧H[b]? = some x)∨∃i y,h2[i]? = some y∧x=y.mapR (fwd is H.length)∧locB is H.length l l' b=l' i∧(∀b' x',(putB is h2 H)[b']? = some x'→(idx b' 0 is=none∧H[b']? = some x')∨∃i' y',h2[i']? = some y'∧x'=y'.mapR (fwd is H.length)∧locB is H.length l l' b'=l' i'∧(i=i'→b=b')):=by
  have one:∀{b:Nat} {x:Blk},(putB is h2 H)[b]? = some x→(idx b 0 is=none∧H[b]? = some x)∨∃i y,h2[i]? = some y∧x=y.mapR (fwd is H.length)∧locB is H.length l l' b=l' i∧((i<is.length∧is[i]? = some b)∨(is.length≤i∧b=H.length+(i - is.length))):=by
   intro b x hx
   rcases putB_cases hx with h|⟨i,h1,h3,rfl⟩|⟨j,y,rfl,h3,rfl⟩
   ·exact .inl h
   ·obtain⟨_,h4⟩:=idx_some h3
    simp only[Nat.sub_zero] at h4
    have hi:=(List.getElem?_eq_some_iff.1 h4).1
    have:h2[i]? = some (h2.getD i .gone):=by
     rw[List.getD,List.getElem?_eq_getElem (by omega)];rfl
    exact .inr ⟨i,_,this,rfl,L1 h4,.inl ⟨hi,h4⟩⟩
   ·exact .inr ⟨_,y,h3,rfl,L3,.inr ⟨by omega,by omega⟩⟩
  intro b x hx
  rcases one hx with h|⟨i,y,h1,h3,h4,h5⟩
  ·exact .inl h
  ·refine .inr ⟨i,y,h1,h3,h4,fun b' x' hx'=>?_⟩
   rcases one hx' with h|⟨i',y',g1,g3,g4,g5⟩
   ·exact .inl h
   ·refine .inr ⟨i',y',g1,g3,g4,fun e=>?_⟩
    subst e
    rcases h5 with ⟨a1,a2⟩|⟨a1,a2⟩<;>rcases g5 with ⟨c1,c2⟩|⟨c1,c2⟩
    ·rw[a2] at c2;exact Option.some.inj c2
    ·omega
    ·omega
    ·omega
 have hgone:∀{y:Blk},y.mapR (fwd is H.length) ≠ .gone→y ≠ .gone:=fun {y} h e=>h (by rw[e];rfl)
 have oldO:∀{b:Nat} {x:Blk} {k c:Nat},idx b 0 is=none→H[b]? = some x→x ≠ .gone→l b=some (k,c)→O' k:=fun {b x k c} hi hx hg hl=>by
  refine⟨.inr ⟨b,x,c,hx,hg,hl⟩,fun ho=>?_⟩
  obtain⟨b',i,cp,x',q1,q2,q3,q4⟩:=own_pick ho
  have:=R.inj b i x x' k c cp hx hg q2 q3 hl q4
  subst this
  exact idx_none hi (List.mem_of_getElem? q1)
 have ownL:∀{k:Nat},own (locB is H.length l l') (putB is h2 H) k→own l' h2 k∨(own l H k∧O' k):=fun {k} ⟨b,x,cp,g1,g2,g3⟩=>by
  rcases back g1 with ⟨a1,a2⟩|⟨i,y,a1,a2,a3,_⟩
  ·have hlt:=(List.getElem?_eq_some_iff.1 a2).1
   rw[L2 a1 hlt] at g3
   exact .inr ⟨⟨b,x,cp,a2,g2,g3⟩,oldO a1 a2 g2 g3⟩
  ·rw[a3] at g3
   exact .inl ⟨i,y,cp,a1,hgone (a2▸g2),g3⟩
 have avL:∀k,avs O (locB is H.length l l') (putB is h2 H) k→avs O' l' h2 k:=fun k ho=>by
  rcases ho with ho|ho
  ·refine .inl ⟨.inl ho,fun h=>(R.inb k (own_of_pick h)).2 ho⟩
  ·rcases ownL ho with h|h
   ·exact .inr h
   ·exact .inl h.2
 have hf:∀(r:Ref) (y:Value),RefRel l' h2 r y→Rel w' (avs O (locB is H.length l l') (putB is h2 H)) (locB is H.length l l') (putB is h2 H) (fwd is H.length r) y:=fun r y rr=>by
  obtain⟨x,hx⟩:=refRel_some rr
  unfold fwd
  cases hi:is[r.blk]? with
  | some b =>
   simp only[Rel]
   obtain⟨x0,q1,_⟩:=hisP hi
   refine refRel_to hx ?_ (L1 hi) rr (f:=fwd is H.length)
   rw[putB_is q1 (idx_at hn hi)]
   simp[List.getD,hx]
  | none =>
   simp only[Rel]
   have hge:is.length≤r.blk:=by simpa using hi
   refine refRel_to hx ?_ ?_ rr (f:=fwd is H.length)
   ·rw[putB_new,show is.length+(r.blk - is.length)=r.blk by omega,hx];rfl
   ·rw[L3,show is.length+(r.blk - is.length)=r.blk by omega]
 have E:Ext w l H w' (locB is H.length l l') (putB is h2 H):=by
  refine⟨E'.size,fun blk hlt hno=>E'.same blk hlt (fun ho=>hno (own_of_pick ho)),fun blk ho=>?_,fun b x hx=>?_,E'.tape⟩
  ·rcases ownL ho with h|h
   ·rcases E'.news blk h with h|h
    ·exact .inl (own_of_pick h)
    ·exact .inr h
   ·exact .inl h.1
  ·have hlt:=(List.getElem?_eq_some_iff.1 hx).1
   cases hi:idx b 0 is with
   | none=>exact⟨x,putB_old hx hi,x.le_refl,fun _=>L2 hi hlt⟩
   | some i =>
    obtain⟨_,h4⟩:=idx_some hi
    simp only[Nat.sub_zero] at h4
    obtain⟨x0,q1,q2⟩:=hisP h4
    rw[hx] at q1;cases q1
    obtain⟨x',k1,k2,k3⟩:=E'.keep i _ q2
    have hgd:h2.getD i .gone=x':=by simp[List.getD,k1]
    refine⟨_,putB_is hx hi,?_,fun hs=>?_⟩
    ·rw[hgd];exact(le_mapR2 k2).1
    ·rw[hgd] at hs
     rw[L1 h4,k3 ((le_mapR2 k2).2 hs)]
     unfold locP;rw[h4]
 refine⟨v,_,_,_,rfl,⟨rfl,rfl⟩,⟨fun k ho=>?_,fun k ho=>Nat.lt_of_lt_of_le (R.obd k ho) E'.size,?_,fun b x hx=>?_,fun g cs hg=>?_⟩,E,?_⟩
 ·rcases ownL ho with h|h
  ·obtain⟨p1,p2⟩:=R'.inb k h
   refine⟨p1,fun hk=>p2 ⟨.inl hk,fun ho'=>(R.inb k (own_of_pick ho')).2 hk⟩⟩
  ·obtain⟨p1,p2⟩:=R.inb k h.1
   exact⟨Nat.lt_of_lt_of_le p1 E'.size,p2⟩
 ·intro b b' x x' k c c' g1 g2 g3 g4 g5 g6
  rcases back g1 with ⟨a1,a2⟩|⟨i,y,a1,a2,a3,a4⟩
  ·have hlt:=(List.getElem?_eq_some_iff.1 a2).1
   rw[L2 a1 hlt] at g5
   rcases back g3 with ⟨d1,d2⟩|⟨i',y',d1,d2,d3,_⟩
   ·have hlt':=(List.getElem?_eq_some_iff.1 d2).1
    rw[L2 d1 hlt'] at g6
    exact R.inj b b' x x' k c c' a2 g2 d2 g4 g5 g6
   ·rw[d3] at g6
    exact absurd (oldO a1 a2 g2 g5) (R'.inb k ⟨i',y',c',d1,hgone (d2▸g4),g6⟩).2
  ·rw[a3] at g5
   rcases a4 b' x' g3 with ⟨d1,d2⟩|⟨i',y',d1,d2,d3,d4⟩
   ·have hlt':=(List.getElem?_eq_some_iff.1 d2).1
    rw[L2 d1 hlt'] at g6
    exact absurd (oldO d1 d2 g4 g6) (R'.inb k ⟨i,y,c,a1,hgone (a2▸g2),g5⟩).2
   ·rw[d3] at g6
    exact d4 (R'.inj i i' y y' k c c' a1 (hgone (a2▸g2)) d1 (hgone (d2▸g4)) g5 g6)
 ·rcases back hx with ⟨a1,a2⟩|⟨i,y,a1,rfl,a3,_⟩
  ·have hlt:=(List.getElem?_eq_some_iff.1 a2).1
   by_cases hg:x=.gone
   ·subst hg;trivial
   refine BlkOk.ext E (L2 a1 hlt) (fun blk cp hl=>?_) (R.blk b x a2)
   exact E'.same blk (R.inb blk ⟨b,x,cp,a2,hg,hl⟩).1 (oldO a1 a2 hg hl).2
  ·refine blkOk_mapR2 avL hf a3 ?_ (R'.blk i y a1)
   have:=List.all_eq_true.1 hm.2 y (List.mem_of_getElem? a1)
   simpa using this
 ·exact RelCells.mono E.hc g 0 cs (R.glo g cs hg)
 ·exact rel_mapR2 avL hf rd
def nodupB:List Nat→Bool
 | []=>true
 | x::xs=>!memT x xs&&nodupB xs
theorem nodupB_iff:∀{xs:List Nat},nodupB xs=true→xs.Nodup
 | [],_=>List.nodup_nil
 | x::xs,h=>by
  simp only[nodupB,Bool.and_eq_true,Bool.not_eq_true'] at h
  refine List.nodup_cons.2 ⟨fun hm=>?_,nodupB_iff h.2⟩
  rw[memT_iff.2 hm] at h
  simp at h
def pickX(is:List Nat)(H:List Blk):List Nat→List Blk
 | []=>[]
 | i::js=>keepX (inv is) (H.getD i .gone)::pickX is H js
def pickP(is:List Nat)(H:List Blk):List Nat→List Prop
 | []=>[]
 | i::js=>keepK (inv is) (H.getD i .gone)++pickP is H js
theorem pickX_eq{is:List Nat}{H:List Blk}:∀{js:List Nat},AllP (pickP is H js)→pickX is H js=js.map fun i=>(H.getD i .gone).mapR (inv is)
 | [],_=>rfl
 | i::js,h=>by
  obtain⟨h1,h2⟩:=AllP.append (ps:=keepK (inv is) (H.getD i .gone)) h
  simp only[pickX,List.map_cons,keepX_eq h1,pickX_eq h2]
def spreadX(is:List Nat)(m:Nat)(h':List Blk):Nat→List Blk→List Blk
 | _,[]=>[]
 | b,x::xs=>(match idx b 0 is with
  | some i=>keepX (fwd is m) (h'.getD i .gone)
  | none=>x)::spreadX is m h' (b+1) xs
def mapX(f:Ref→D):List Blk→List Blk
 | []=>[]
 | x::xs=>keepX f x::mapX f xs
def mapP(f:Ref→D):List Blk→List Prop
 | []=>[]
 | x::xs=>keepK f x++mapP f xs
theorem mapX_eq{f:Ref→D}:∀{h:List Blk},AllP (mapP f h)→mapX f h=h.map (Blk.mapR f)
 | [],_=>rfl
 | x::xs,h=>by
  obtain⟨h1,h2⟩:=AllP.append (ps:=keepK f x) h
  simp only[mapX,List.map_cons,keepX_eq h1,mapX_eq h2]
theorem mapP_get{f:Ref→D}:∀{h:List Blk} (i:Nat),AllP (mapP f h)→AllP (keepK f (h.getD i .gone))
 | [],i,_=>by simp[keepK,AllP]
 | x::xs,i,h=>by
  obtain⟨h1,h2⟩:=AllP.append (ps:=keepK f x) h
  cases i with
  | zero=>exact h1
  | succ i=>simpa using mapP_get i h2
theorem mapP_drop{f:Ref→D}:∀{h:List Blk} (i:Nat),AllP (mapP f h)→AllP (mapP f (h.drop i))
 | [],i,_=>by simp[mapP,AllP]
 | x::xs,i,h=>by
  cases i with
  | zero=>exact h
  | succ i =>
   obtain⟨h1,h2⟩:=AllP.append (ps:=keepK f x) h
   exact mapP_drop i h2
theorem spreadX_eq{is:List Nat}{m:Nat}{h':List Blk}(hp:AllP (mapP (fwd is m) h')):∀(b:Nat) (xs:List Blk),spreadX is m h' b xs=spread is m h' b xs
 | _,[]=>rfl
 | b,x::xs=>by
  simp only[spreadX,spread,spreadX_eq hp (b+1) xs]
  cases idx b 0 is with
  | none=>rfl
  | some i=>simp only[keepX_eq (mapP_get i hp)]
def putX(is:List Nat)(h':List Blk)(H:List Blk):List Blk:=spreadX is H.length h' 0 H++mapX (fwd is H.length) (h'.drop is.length)
theorem putX_eq{is:List Nat}{h' H:List Blk}(hp:AllP (mapP (fwd is H.length) h')):putX is h' H=putB is h' H:=by
 unfold putX putB
 rw[spreadX_eq hp,mapX_eq (mapP_drop _ hp)]
def frameOk(is:List Nat)(h0 h0' H:List Blk):Bool:=nodupB is&&is.all (fun i=>Dd (i<H.length))&&(h0.all (fun x=>!isMit x)&&h0'.all (fun x=>!isMit x))
theorem Ev.frameX{P:Program}{Γ:Glob}{f:FuncId}{args0 args:List D}{h0 h0' H:List Blk}{d0:D}(is:List Nat)(he:Ev P Γ f args0 h0 d0 h0')(hk:frameOk is h0 h0' H=true)
  (ha:D.mapRL (inv is) args=args0) (hh:pickX is H is=h0) (p1:AllP (pickP is H is)) (p2:AllP (mapP (fwd is H.length) h0')):Ev P Γ f args H (d0.mapR (fwd is H.length)) (putX is h0' H):=by
 simp only[frameOk,Bool.and_eq_true] at hk
 rw[putX_eq p2]
 refine Ev.frame is he (nodupB_iff hk.1.1) (fun i hi=>?_) ha ?_ (by rw[hk.2.1,hk.2.2];rfl)
 ·have:=List.all_eq_true.1 hk.1.2 i hi
  simpa using this
 ·rw[←hh,pickX_eq p1];rfl
def fwd0(m:Nat)(r:Ref):D:=.ref (r.to (m+r.blk))
theorem fwd_nil(m:Nat):fwd [] m=fwd0 m:=by
 funext r;simp[fwd,fwd0]
theorem Ev.frameN{P:Program}{Γ:Glob}{f:FuncId}{args:List D}{h0':List Blk}{d0:D}(he:Ev P Γ f args [] d0 h0')(hm:h0'.all (fun x=>!isMit x)=true)
  (ha:D.innL 0 args=true) (h:List Blk):Ev P Γ f args h (d0.mapR (fwd0 h.length)) (h++h0'.map (Blk.mapR (fwd0 h.length))):=by
 have hr:∀(f:Ref→D),(∀d,D.inn 0 d=true→D.mapR f d=d)∧∀ds,D.innL 0 ds=true→D.mapRL f ds=ds:=fun f=>by
  refine⟨?_,?_⟩
  ·intro d
   refine D.rec (motive_1:=fun d=>D.inn 0 d=true→D.mapR f d=d) (motive_2:=fun ds=>D.innL 0 ds=true→D.mapRL f ds=ds) ?_ ?_ ?_ ?_ ?_ ?_ ?_ ?_ ?_ ?_ ?_ d
   ·intros;rfl
   ·intros;rfl
   ·intro r h;cases r<;>simp[D.inn] at h
   ·intros;rfl
   ·intros;rfl
   ·intro g a b ih1 ih2 h;simp only[D.inn,Bool.and_eq_true] at h;simp only[D.mapR,ih1 h.1,ih2 h.2]
   ·intro cs ih h;simp only[D.inn] at h;simp only[D.mapR,ih h]
   ·intro cs ih h;simp only[D.inn] at h;simp only[D.mapR,ih h]
   ·intro g d ih h;simp only[D.inn] at h;simp only[D.mapR,ih h]
   ·intros;rfl
   ·intro d ds ih1 ih2 h;simp only[D.innL,Bool.and_eq_true] at h;simp only[D.mapRL,ih1 h.1,ih2 h.2]
  ·intro ds
   refine D.rec_1 (motive_1:=fun d=>D.inn 0 d=true→D.mapR f d=d) (motive_2:=fun ds=>D.innL 0 ds=true→D.mapRL f ds=ds) ?_ ?_ ?_ ?_ ?_ ?_ ?_ ?_ ?_ ?_ ?_ ds
   ·intros;rfl
   ·intros;rfl
   ·intro r h;cases r<;>simp[D.inn] at h
   ·intros;rfl
   ·intros;rfl
   ·intro g a b ih1 ih2 h;simp only[D.inn,Bool.and_eq_true] at h;simp only[D.mapR,ih1 h.1,ih2 h.2]
   ·intro cs ih h;simp only[D.inn] at h;simp only[D.mapR,ih h]
   ·intro cs ih h;simp only[D.inn] at h;simp only[D.mapR,ih h]
   ·intro g d ih h;simp only[D.inn] at h;simp only[D.mapR,ih h]
   ·intros;rfl
   ·intro d ds ih1 ih2 h;simp only[D.innL,Bool.and_eq_true] at h;simp only[D.mapRL,ih1 h.1,ih2 h.2]
 have:=Ev.frame (H:=h) [] he List.nodup_nil (by simp) ((hr _).2 args ha) rfl (by simpa using hm)
 rw[fwd_nil] at this
 have e:putB [] h0' h=h++h0'.map (Blk.mapR (fwd0 h.length)):=by
  unfold putB
  have:∀(b:Nat) (xs:List Blk),spread [] h.length h0' b xs=xs:=by
   intro b xs
   induction xs generalizing b with
   | nil=>rfl
   | cons x xs ih=>simp[spread,idx,ih]
  rw[this,fwd_nil]
  simp
 rw[e] at this
 exact this
mutual
def D.nilW:D→D
 | .p (.v (.slice none 0 0))=>.p (.sl [])
 | .agg cs=>.agg (D.nilWL cs)
 | .tup cs=>.tup (D.nilWL cs)
 | d=>d
def D.nilWL:List D→List D
 | []=>[]
 | d::ds=>D.nilW d::D.nilWL ds
end
mutual
theorem rel_nilW{w:World}{av:Nat→Prop}{l:Loc}{h:List Blk}:∀(d:D) (y:Value),Rel w av l h d y→Rel w av l h (D.nilW d) y
 | .p x,y,r=>by
  unfold D.nilW
  split
  ·rename_i hx
   simp only[D.p.injEq] at hx
   subst hx
   simp only[Rel,RelP] at r ⊢
   exact .inl ⟨trivial,none,0,r,fun _=>rfl⟩
  ·rename_i hx;cases hx
  ·rename_i hx;cases hx
  ·exact r
 | .agg cs,y,r=>by
  simp only[D.nilW,Rel] at r ⊢
  obtain⟨vs,r1,r2⟩:=r
  exact⟨vs,r1,relL_nilW cs vs.toList r2⟩
 | .tup cs,y,r=>by
  simp only[D.nilW,Rel] at r ⊢
  obtain⟨vs,r1,r2⟩:=r
  exact⟨vs,r1,relL_nilW cs vs.toList r2⟩
 | .any,_,r=>r
 | .ref _,_,r=>r
 | .ep _,_,r=>r
 | .csl _,_,r=>r
 | .fn _ _ _,_,r=>r
 | .grd _ _,_,r=>r
theorem relL_nilW{w:World}{av:Nat→Prop}{l:Loc}{h:List Blk}:∀(ds:List D) (ys:List Value),RelL w av l h ds ys→RelL w av l h (D.nilWL ds) ys
 | [],[],_=>trivial
 | [],_::_,r=>by simp[RelL] at r
 | _::_,[],r=>by simp[RelL] at r
 | d::ds,y::ys,r=>by
  simp only[RelL,D.nilWL] at r ⊢
  exact⟨rel_nilW d y r.1,relL_nilW ds ys r.2⟩
end
theorem Ev.nilW{P:Program}{Γ:Glob}{f:FuncId}{args:List D}{h h':List Blk}{d:D}(he:Ev P Γ f args h d h'):Ev P Γ f args h d.nilW h':=by
 intro O w l vs R ra
 refine CallsIn.mono (he O w l vs R ra) ?_
 rintro e w' ⟨v,d2,h2,l',rfl,⟨rfl,rfl⟩,R',E',rd⟩
 exact⟨v,_,_,l',rfl,⟨rfl,rfl⟩,R',E',rel_nilW _ _ rd⟩
def bodyC(fn:Func):Code:=match fn.body with
 | some c=>c
 | none=>.skip
abbrev rawR(ys:List Value):List (List D):=ys.map fun y=>[.p (.v y)]
abbrev vecJ(B:List Int):List (List D):=B.map fun n=>[.p (.v (.int .i64 n))]
def plusL(O:Nat→Prop)(ps:List (Option (Nat×Nat))):Nat→Prop:=fun k=>O k∨∃(j c:Nat),ps[j]? = some (some (k,c))
def hB(pre:List Blk)(R:List (List D))(more:List Blk):List Blk:=pre++(.vec R 0 1::more)
section
variable {Γ:Glob} {O:Nat→Prop} {w w':World} {l l':Loc} {h h':List Blk} {av:Nat→Prop}
theorem plus_plusL{ps:List (Option (Nat×Nat))}{u:Nat}{p:Option (Nat×Nat)}(hu:u<ps.length):plus (plusL O (ps.set u none)) p=plusL O (ps.set u p):=by
 funext k
 apply propext
 unfold plus plusL
 constructor
 ·rintro ((h1|⟨j,c,h1⟩)|⟨c,h1⟩)
  ·exact .inl h1
  ·by_cases hj:j=u
   ·subst hj;rw[List.getElem?_set_self hu] at h1;simp at h1
   ·rw[List.getElem?_set_ne (fun e=>hj e.symm)] at h1
    exact .inr ⟨j,c,by rw[List.getElem?_set_ne (fun e=>hj e.symm)];exact h1⟩
  ·exact .inr ⟨u,c,by rw[List.getElem?_set_self hu,h1]⟩
 ·rintro (h1|⟨j,c,h1⟩)
  ·exact .inl (.inl h1)
  ·by_cases hj:j=u
   ·subst hj;rw[List.getElem?_set_self hu] at h1;exact .inr ⟨c,by simpa using h1⟩
   ·rw[List.getElem?_set_ne (fun e=>hj e.symm)] at h1
    exact .inl (.inr ⟨j,c,by rw[List.getElem?_set_ne (fun e=>hj e.symm)];exact h1⟩)
theorem relL_ints:∀{B:List Int} {ys:List Value},RelL w av l h (vecJ B).flatten ys ↔ ys=B.map (Value.int .i64)
 | [],ys=>by cases ys<;>simp[RelL]
 | n::B,[]=>by simp[RelL]
 | n::B,y::ys=>by
  have:=@relL_ints B ys
  simp only[List.map_cons,List.flatten_cons,List.singleton_append,RelL,Rel,RelP,List.cons.injEq,this]
def HidB(w:World)(p:Option (Nat×Nat))(B:List Int):Prop:=BlkOk w (fun _=>False) (fun _=>p) [] 0 (.vec (vecJ B) 0 1)
theorem hid_iff{b e:Nat}{B:List Int}:BlkOk w av l h b (.vec (vecJ B) e 1) ↔ HidB w (l b) B:=by
 unfold HidB BlkOk
 simp only[relL_ints]
theorem HidB.mono{p:Option (Nat×Nat)}{B:List Int}(hh:∀k c,p=some (k,c)→w'.heap[k]? = w.heap[k]?)(r:HidB w p B):HidB w' p B:=by
 unfold HidB BlkOk at r ⊢
 cases p with
 | none=>exact r
 | some q =>
  obtain⟨k,c⟩:=q
  simp only[relL_ints] at r ⊢
  rw[hh k c rfl]
  exact r
theorem own_set{q:Nat}{x x':Blk}(hq:h[q]? = some x)(hx:x ≠ .gone)(hx':x' ≠ .gone){k:Nat}:own l (h.set q x') k ↔ own l h k:=by
 have hlt:=(List.getElem?_eq_some_iff.1 hq).1
 constructor
 ·rintro⟨b,y,c,h1,h2,h3⟩
  by_cases hb:b=q
  ·subst hb;exact⟨b,x,c,hq,hx,h3⟩
  ·rw[List.getElem?_set_ne (fun e=>hb e.symm)] at h1;exact⟨b,y,c,h1,h2,h3⟩
 ·rintro⟨b,y,c,h1,h2,h3⟩
  by_cases hb:b=q
  ·subst hb;exact⟨b,x',c,List.getElem?_set_self hlt,hx',h3⟩
  ·exact⟨b,y,c,by rw[List.getElem?_set_ne (fun e=>hb e.symm)];exact h1,h2,h3⟩
theorem set_keep{q:Nat}{rows rows':List (List D)}{e sz:Nat}(hq:h[q]? = some (.vec rows e sz))(hl:rows'.length=rows.length):∀b x,h[b]? = some x→∃x',(h.set q (.vec rows' e sz))[b]? = some x'∧x.le x'∧(x.stays x'→l b=l b):=by
 intro b x hb
 have hlt:=(List.getElem?_eq_some_iff.1 hq).1
 by_cases hbq:b=q
 ·subst hbq
  rw[hq] at hb;cases hb
  exact⟨_,List.getElem?_set_self hlt,⟨Nat.le_refl _,fun _=>hl,rfl⟩,fun _=>rfl⟩
 ·exact⟨x,by rw[List.getElem?_set_ne (fun e=>hbq e.symm)];exact hb,x.le_refl,fun _=>rfl⟩
theorem set_hc{q:Nat}{rows rows':List (List D)}{e sz:Nat}(hq:h[q]? = some (.vec rows e sz)):∀blk off y,¬avs O l h blk→w.cell? ⟨blk,off,none⟩=some y→w.cell? ⟨blk,off,none⟩=some y∧¬avs O l (h.set q (.vec rows' e sz)) blk :=
 fun blk off y hn hy=>⟨hy,fun ha=>hn (ha.imp id (own_set hq (by simp) (by simp)).1)⟩
theorem Rep.redesc{q:Nat}{rows rows':List (List D)}{e sz:Nat}(R:Rep Γ O w l h)(hq:h[q]? = some (.vec rows e sz))(hl:rows'.length=rows.length)
  (hok:BlkOk w (avs O l h) l h q (.vec rows' e sz)):Rep Γ O w l (h.set q (.vec rows' e sz)):=by
 have ho:=fun k=>own_set (l:=l) (x':=.vec rows' e sz) hq (by simp) (by simp) (k:=k)
 have hc:=set_hc (O:=O) (w:=w) (l:=l) (rows':=rows') hq
 have hk:=fun b x=>set_keep (l:=l) (rows':=rows') hq hl b x
 have hlt:=(List.getElem?_eq_some_iff.1 hq).1
 have get:∀(b:Nat) (y:Blk),(h.set q (.vec rows' e sz))[b]? = some y→y ≠ .gone→∃y':Blk,h[b]? = some y'∧y' ≠ .gone:=by
  intro b y hb hy
  by_cases hbq:b=q
  ·subst hbq;exact⟨_,hq,by simp⟩
  ·rw[List.getElem?_set_ne (fun e=>hbq e.symm)] at hb;exact⟨y,hb,hy⟩
 refine⟨fun blk hb=>R.inb blk ((ho blk).1 hb),R.obd,?_,?_,fun g cs hg=>RelCells.mono hc g 0 cs (R.glo g cs hg)⟩
 ·intro b b' x x' k c c' h1 h2 h3 h4 h5 h6
  obtain⟨y,g1,g2⟩:=get b x h1 h2
  obtain⟨y',g3,g4⟩:=get b' x' h3 h4
  exact R.inj b b' y y' k c c' g1 g2 g3 g4 h5 h6
 ·intro b x hb
  by_cases hbq:b=q
  ·subst hbq
   rw[List.getElem?_set_self hlt] at hb;cases hb
   exact BlkOk.mono hc hk rfl (fun _ _ _=>rfl) hok
  ·rw[List.getElem?_set_ne (fun e=>hbq e.symm)] at hb
   exact BlkOk.mono hc hk rfl (fun _ _ _=>rfl) (R.blk b x hb)
def NB(Γ:Glob)(X:Ctx)(t:List D)(pre more:List Blk)(A:List (List Int))(a:Act)(w:World):Prop :=
 ∃(l:Loc) (ps:List (Option (Nat×Nat))) (ys:List Value),ps.length=A.length∧ys.length=A.length ∧
  Rep Γ (plusL X.O ps) w l (hB pre (rawR ys) more)∧Ext X.w X.l [] w l (hB pre (rawR ys) more) ∧
  RelL w (avs (plusL X.O ps) l (hB pre (rawR ys) more)) l (hB pre (rawR ys) more) t a.tmps.toList∧a.defers=X.D ∧
  (∀(j:Nat) (B:List Int) (p:Option (Nat×Nat)) (y:Value),A[j]? = some B→ps[j]? = some p→ys[j]? = some y→HidB w p B∧VecV p B.length y∧y.oneCell'=true) ∧
  (∀(j k c c' blk:Nat),ps[j]? = some (some (blk,c))→ps[k]? = some (some (blk,c'))→j=k) ∧
  (∀(j blk c:Nat),ps[j]? = some (some (blk,c))→¬X.O blk∧X.w.heap.size≤blk)
theorem NB.run{P:Program}{X:Ctx}{t t':List D}{pre more pre' more':List Blk}{A:List (List Int)}{c:Code}{e:Exit}(he:e ≠ .outgrown)
  (hcw:∀ys:List Value,ys.length=A.length→CW P Γ (hB pre (rawR ys) more) false c {t:=t,h:=hB pre (rawR ys) more,m:=[]} e {t:=t',h:=hB pre' (rawR ys) more',m:=[]})
  {a:Act} {w:World} (hn:NB Γ X t pre more A a w):c.wpIn (FW none) 0 P (fun e' a' w'=>e'=e∧NB Γ X t' pre' more' A a' w') a w:=by
 obtain⟨l,ps,ys,hp,hy,R,E,rt,hd,hid,inj,fresh⟩:=hn
 have hw:=hcw ys hy {O:=plusL X.O ps,w:=w,l:=l,h:=hB pre (rawR ys) more,D:=a.defers} none rfl (fun _=>rfl)
 refine wpIn_mono (hw a w ⟨l,R,Ext.refl _ _ _,rt,rfl⟩) ?_
 rintro e' a' w' ⟨_,s,⟨rfl,rfl⟩,l',R',E',rt',hd'⟩
 refine⟨rfl,l',ps,ys,hp,hy,R',E.trans E',rt',by simpa[DefOk] using hd'.trans hd,?_,inj,fresh⟩
 intro j B p y h1 h2 h3
 obtain⟨g1,g2,g3⟩:=hid j B p y h1 h2 h3
 refine⟨g1.mono fun k c hk=>?_,g2,g3⟩
 have hO:plusL X.O ps k:=.inr ⟨j,c,by rw[h2,hk]⟩
 exact E'.same k (R.obd k hO) fun ho=>(R.inb k ho).2 hO
theorem hB_len{pre more:List Blk}{R:List (List D)}:(hB pre R more).length=pre.length+1+more.length:=by simp[hB];omega
theorem hB_snoc{pre more:List Blk}{R:List (List D)}{x:Blk}:hB pre R more++[x]=hB pre R (more++[x]):=by simp[hB]
theorem hB_get{pre more:List Blk}{R:List (List D)}:(hB pre R more)[pre.length]? = some (.vec R 0 1):=by simp[hB]
theorem hB_set{pre more:List Blk}{R R':List (List D)}:(hB pre R more).set pre.length (.vec R' 0 1)=hB pre R' more:=by simp[hB]
theorem raw_flat:∀ys:List Value,(rawR ys).flatten=ys.map fun y=>.p (.v y)
 | []=>rfl
 | y::ys=>by simp[rawR,raw_flat ys]
theorem raw_set{ys:List Value}{u:Nat}{d:D}:((rawR ys).set u [d]).flatten=(ys.map fun y=>D.p (.v y)).set u d:=by
 induction ys generalizing u with
 | nil=>rfl
 | cons y ys ih =>
  cases u with
  | zero=>simp[raw_flat]
  | succ u=>simp only[rawR,List.map_cons,List.set_cons_succ,List.flatten_cons,List.singleton_append,List.cons.injEq,true_and];exact ih
theorem relL_raw:∀{ys zs:List Value},RelL w av l h (ys.map fun y=>D.p (.v y)) zs ↔ zs=ys
 | [],zs=>by cases zs<;>simp[RelL]
 | y::ys,[]=>by simp[RelL]
 | y::ys,z::zs=>by
  have:=@relL_raw ys zs
  simp only[List.map_cons,RelL,Rel,RelP,List.cons.injEq,this]
theorem relL_raw_set:∀{ys zs:List Value} {u:Nat} {d:D},u<ys.length→(RelL w av l h ((ys.map fun y=>D.p (.v y)).set u d) zs ↔ ∃z,zs=ys.set u z∧Rel w av l h d z)
 | [],_,_,_,hu=>absurd hu (by simp)
 | y::ys,[],u,d,_=>by
  cases u<;>simp[RelL]
 | y::ys,z::zs,0,d,_=>by
  simp only[List.map_cons,List.set_cons_zero,RelL,relL_raw]
  constructor
  ·rintro⟨h1,rfl⟩;exact⟨z,rfl,h1⟩
  ·rintro⟨z',h1,h2⟩
   simp only[List.cons.injEq] at h1
   obtain⟨rfl,rfl⟩:=h1
   exact⟨h2,rfl⟩
 | y::ys,z::zs,u+1,d,hu=>by
  have:=@relL_raw_set ys zs u d (by simpa using hu)
  simp only[List.map_cons,List.set_cons_succ,RelL,Rel,RelP,this]
  constructor
  ·rintro⟨rfl,z',rfl,h2⟩;exact⟨z',rfl,h2⟩
  ·rintro⟨z',h1,h2⟩
   simp only[List.cons.injEq] at h1
   exact⟨h1.1,z',h1.2,h2⟩
theorem raw_rows{ys:List Value}{u:Nat}{d:D}:∀e∈(rawR ys).set u [d],e.length=1:=by
 intro e he
 rcases List.mem_or_eq_of_mem_set he with h1|h1
 ·obtain⟨y,_,rfl⟩:=List.mem_map.1 h1;rfl
 ·rw[h1];rfl
theorem raw_inn{n:Nat}(ys:List Value):(rawR ys).all (D.innL n)=true:=by simp[rawR,D.innL,D.inn]
theorem stays_refl{x:Blk}(h:x ≠ .gone):x.stays x:=by cases x<;>first|exact absurd rfl h|simp[Blk.stays]
theorem NB.focus{P:Program}{X:Ctx}{t t':List D}{pre more:List Blk}{A:List (List Int)}{c:Code}{u:Nat}{B B':List Int}(hu:A[u]? = some B)
  (hpre:pre.all (Blk.inn (pre.length+1+more.length))=true) (hmore:more.all (Blk.inn (pre.length+1+more.length))=true) (ht':D.innL (pre.length+1+more.length) t'=true)
  (hcw:∀ys:List Value,ys.length=A.length→CW P Γ (hB pre ((rawR ys).set u [.ref (.vec (pre.length+1+more.length) 0)]) (more++[.vec (vecJ B) 0 1])) false c
   {t:=t,h:=hB pre ((rawR ys).set u [.ref (.vec (pre.length+1+more.length) 0)]) (more++[.vec (vecJ B) 0 1]),m:=[]} .normal
   {t:=t',h:=hB pre ((rawR ys).set u [.ref (.vec (pre.length+1+more.length) 1)]) (more++[.vec (vecJ B') 1 1]),m:=[]})
  {a:Act} {w:World} (hn:NB Γ X t pre more A a w):c.wpIn (FW none) 0 P (fun e' a' w'=>e'=.normal∧NB Γ X t' pre more (A.set u B') a' w') a w:=by
 obtain⟨l,ps,ys,hp,hy,R,E,rt,hd,hid,inj,fresh⟩:=hn
 have hult:=(List.getElem?_eq_some_iff.1 hu).1
 have hpu:u<ps.length:=by omega
 have hyu:u<ys.length:=by omega
 obtain⟨p,hpq⟩:∃p,ps[u]? = some p:=⟨_,List.getElem?_eq_getElem hpu⟩
 obtain⟨y,hyq⟩:∃y,ys[u]? = some y:=⟨_,List.getElem?_eq_getElem hyu⟩
 obtain⟨hB1,hV1,ho1⟩:=hid u B p y hu hpq hyq
 have hlen:=hB_len (pre:=pre) (more:=more) (R:=rawR ys)
 have hps:ps.set u p=ps:=by
  apply List.ext_getElem?
  intro j
  by_cases hj:j=u
  ·subst hj;rw[List.getElem?_set_self hpu,hpq]
  ·rw[List.getElem?_set_ne (fun e=>hj e.symm)]
 have hplus:plus (plusL X.O (ps.set u none)) p=plusL X.O ps:=by rw[plus_plusL hpu,hps]
 rw[←hplus] at R rt
 have hnO:∀k c,p=some (k,c)→¬plusL X.O (ps.set u none) k:=by
  intro k c hk hO
  rcases hO with h1|⟨j,c',h1⟩
  ·exact(fresh u k c (by rw[hpq,hk])).1 h1
  ·by_cases hj:j=u
   ·subst hj;rw[List.getElem?_set_self hpu] at h1;simp at h1
   ·rw[List.getElem?_set_ne (fun e=>hj e.symm)] at h1
    exact hj (inj j u c' c k h1 (by rw[hpq,hk]))
 have hPd:Pd w (avs (plus (plusL X.O (ps.set u none)) p) l (hB pre (rawR ys) more)) l (hB pre (rawR ys) more) (.vec (vecJ B) 0 1) p :=
  ⟨rfl,hid_iff.2 (by simpa[Loc.upd] using hB1)⟩
 have R1:=R.merge hPd hnO
 rw[hB_snoc,hlen] at R1
 have hav1:∀k,avs (plusL X.O (ps.set u none)) (l.upd (pre.length+1+more.length) p) (hB pre (rawR ys) (more++[.vec (vecJ B) 0 1])) k→avs (plus (plusL X.O (ps.set u none)) p) l (hB pre (rawR ys) more) k:=by
  intro k hk
  rw[←hB_snoc,avs_snoc (by simp),hlen] at hk
  simp only[Loc.upd_same] at hk
  rcases hk with hk|hk
  ·exact .inl hk
  ·rw[←hlen,own_upd] at hk;exact .inr hk
 have hk1:=keep_snoc (l:=l) (h:=hB pre (rawR ys) more) (x:=.vec (vecJ B) 0 1) (p:=p)
 rw[hB_snoc,hlen] at hk1
 have rt1:=RelL.mono (fun blk off y hn hy=>⟨hy,fun ha=>hn (hav1 blk ha)⟩) hk1 _ _ rt
 have hget1:(hB pre (rawR ys) (more++[.vec (vecJ B) 0 1]))[pre.length]? = some (.vec (rawR ys) 0 1):=hB_get
 have hgetk:(hB pre (rawR ys) (more++[.vec (vecJ B) 0 1]))[pre.length+1+more.length]? = some (.vec (vecJ B) 0 1):=by
  rw[←hB_snoc,←hlen];simp
 have hok1:BlkOk w (avs (plusL X.O (ps.set u none)) (l.upd (pre.length+1+more.length) p) (hB pre (rawR ys) (more++[.vec (vecJ B) 0 1]))) (l.upd (pre.length+1+more.length) p) (hB pre (rawR ys) (more++[.vec (vecJ B) 0 1])) pre.length
   (.vec ((rawR ys).set u [.ref (.vec (pre.length+1+more.length) 0)]) 0 1):=by
  have h0:=R1.blk _ _ hget1
  unfold BlkOk at h0 ⊢
  cases hlq:(l.upd (pre.length+1+more.length) p) pre.length with
  | none =>
   simp only[hlq] at h0 ⊢
   rw[List.map_eq_nil_iff] at h0
   subst h0
   simp at hyu
  | some q =>
   obtain⟨blk,cp⟩:=q
   simp only[hlq] at h0 ⊢
   obtain⟨o,cap,rc,cs,T,fr,zs,g1,g2,g3,g4,g5,g6,g7⟩:=h0
   refine⟨o,cap,rc,cs,T,fr,zs,g1,g2,by simpa using g3,g4,raw_rows,?_,g7⟩
   rw[raw_flat,relL_raw] at g6
   subst g6
   rw[raw_set,relL_raw_set hyu]
   refine⟨y,?_,?_⟩
   ·apply List.ext_getElem?
    intro j
    by_cases hj:j=u
    ·subst hj;rw[List.getElem?_set_self hyu,hyq]
    ·rw[List.getElem?_set_ne (fun e=>hj e.symm)]
   ·simp only[Rel,RefRel,hgetk,Loc.upd_same]
    exact⟨ho1,Nat.le_refl _,fun _=>by simpa using hV1⟩
 have R2:=R1.redesc hget1 (by simp) hok1
 have rt2:=RelL.mono (set_hc (rows':=(rawR ys).set u [.ref (.vec (pre.length+1+more.length) 0)]) hget1) (set_keep (l:=l.upd (pre.length+1+more.length) p) hget1 (rows':=(rawR ys).set u [.ref (.vec (pre.length+1+more.length) 0)]) (by simp)) _ _ rt1
 rw[hB_set] at R2 rt2
 have hw:=hcw ys hy {O:=plusL X.O (ps.set u none),w:=w,l:=l.upd (pre.length+1+more.length) p,h:=hB pre ((rawR ys).set u [.ref (.vec (pre.length+1+more.length) 0)]) (more++[.vec (vecJ B) 0 1]),D:=a.defers} none rfl (fun _=>rfl)
 refine wpIn_mono (hw a w ⟨_,R2,Ext.refl _ _ _,rt2,rfl⟩) ?_
 rintro e' a' w' ⟨_,s,⟨rfl,rfl⟩,l',R3,E3,rt3,hd3⟩
 refine⟨rfl,?_⟩
 simp only at R3 E3 rt3 hd3
 have hget3:(hB pre ((rawR ys).set u [.ref (.vec (pre.length+1+more.length) 1)]) (more++[.vec (vecJ B') 1 1]))[pre.length]? = some (.vec ((rawR ys).set u [.ref (.vec (pre.length+1+more.length) 1)]) 0 1):=hB_get
 have hgetk3:(hB pre ((rawR ys).set u [.ref (.vec (pre.length+1+more.length) 1)]) (more++[.vec (vecJ B') 1 1]))[pre.length+1+more.length]? = some (.vec (vecJ B') 1 1):=by
  rw[←hB_snoc,List.getElem?_append_right (by rw[hB_len];exact Nat.le_refl _),hB_len];simp
 have h0:=R3.blk _ _ hget3
 have hex:∃z,(z.oneCell'=true∧VecV (l' (pre.length+1+more.length)) B'.length z)∧BlkOk w' (avs (plusL X.O (ps.set u none)) l' (hB pre ((rawR ys).set u [.ref (.vec (pre.length+1+more.length) 1)]) (more++[.vec (vecJ B') 1 1]))) l' (hB pre ((rawR ys).set u [.ref (.vec (pre.length+1+more.length) 1)]) (more++[.vec (vecJ B') 1 1])) pre.length (.vec (rawR (ys.set u z)) 0 1):=by
  unfold BlkOk at h0 ⊢
  cases hlq:l' pre.length with
  | none =>
   simp only[hlq] at h0
   have:=congrArg List.length h0
   simp at this
   rw[this] at hyu
   simp at hyu
  | some q =>
   obtain⟨blk,cp⟩:=q
   simp only[hlq] at h0 ⊢
   obtain⟨o,cap,rc,cs,T,fr,zs,g1,g2,g3,g4,g5,g6,g7⟩:=h0
   rw[raw_set,relL_raw_set hyu] at g6
   obtain⟨z,rfl,hz⟩:=g6
   simp only[Rel,RefRel,hgetk3] at hz
   refine⟨z,⟨hz.1,by simpa using hz.2.2 trivial⟩,o,cap,rc,cs,T,fr,ys.set u z,g1,g2,by simpa using g3,g4,fun e he=>?_,?_,g7⟩
   ·obtain⟨y,_,rfl⟩:=List.mem_map.1 he;rfl
   ·rw[raw_flat,relL_raw]
 obtain⟨z,⟨hz1,hz2⟩,hok4⟩:=hex
 have R4:=R3.redesc hget3 (by simp) hok4
 have rt4:=RelL.mono (set_hc (rows':=rawR (ys.set u z)) hget3) (set_keep (l:=l') hget3 (rows':=rawR (ys.set u z)) (by simp)) _ _ rt3
 have hown4:∀k,own l' (hB pre (rawR (ys.set u z)) (more++[.vec (vecJ B') 1 1])) k ↔ own l' (hB pre ((rawR ys).set u [.ref (.vec (pre.length+1+more.length) 1)]) (more++[.vec (vecJ B') 1 1])) k:=by
  intro k
  have:=own_set (l:=l') (x':=.vec (rawR (ys.set u z)) 0 1) hget3 (by simp) (by simp) (k:=k)
  rwa[hB_set] at this
 rw[hB_set,←hB_snoc] at R4 rt4
 have hlen4:(hB pre (rawR (ys.set u z)) more).length=pre.length+1+more.length:=hB_len
 have hinn:(hB pre (rawR (ys.set u z)) more).all (Blk.inn (hB pre (rawR (ys.set u z)) more).length)=true:=by
  rw[hlen4]
  unfold hB
  simp only[List.all_append,hpre,List.all_cons,hmore,Bool.and_true,Bool.true_and,Blk.inn]
  exact raw_inn _
 have hx:Blk.inn (hB pre (rawR (ys.set u z)) more).length (.vec (vecJ B') 1 1)=true:=by simp[Blk.inn,D.innL,D.inn]
 obtain⟨R5,hP5⟩:=R4.hide rfl hinn hx
 have rt5:=relL_take (n:=(hB pre (rawR (ys.set u z)) more).length) (av':=avs (plus (plusL X.O (ps.set u none)) (l' (hB pre (rawR (ys.set u z)) more).length)) l' (hB pre (rawR (ys.set u z)) more)) (fun k hk=>(avs_snoc (by simp)).2 hk) (by rw[hlen4];exact ht') rt4
 rw[List.take_left' rfl] at rt5
 rw[hlen4] at R5 hP5 rt5
 rw[plus_plusL hpu] at R5 hP5 rt5
 have hnewp:∀k c,l' (pre.length+1+more.length)=some (k,c)→(∃c',p=some (k,c'))∨w.heap.size≤k:=by
  intro k c hk
  have hown:own l' (hB pre ((rawR ys).set u [.ref (.vec (pre.length+1+more.length) 1)]) (more++[.vec (vecJ B') 1 1])) k:=⟨_,_,c,hgetk3,by simp,hk⟩
  rcases E3.news k hown with h1|h1
  ·obtain⟨b,x,c',f1,f2,f3⟩:=h1
   by_cases hb:b=pre.length+1+more.length
   ·subst hb;simp only[Loc.upd_same] at f3;exact .inl ⟨c',f3⟩
   ·exfalso
    have hO2:=R2.inb k ⟨b,x,c',f1,f2,f3⟩
    obtain⟨x',f4,f5,f6⟩:=E3.keep b x f1
    have hst:x.stays x':=by
     have hb2:b<(hB pre ((rawR ys).set u [.ref (.vec (pre.length+1+more.length) 0)]) (more++[.vec (vecJ B) 0 1])).length:=(List.getElem?_eq_some_iff.1 f1).1
     rw[←hB_snoc] at f1 f4
     have hb3:b<(hB pre ((rawR ys).set u [.ref (.vec (pre.length+1+more.length) 0)]) more).length:=by
      rw[hB_len] at hb2 ⊢;simp at hb2;omega
     rw[List.getElem?_append_left hb3] at f1
     rw[List.getElem?_append_left (by rw[hB_len] at hb3 ⊢;exact hb3)] at f4
     by_cases hbq:b=pre.length
     ·subst hbq
      rw[hB_get] at f1 f4
      cases f1;cases f4;rfl
     ·have:x=x':=by
       unfold hB at f1 f4
       rcases Nat.lt_or_ge b pre.length with hlt|hge
       ·rw[List.getElem?_append_left hlt] at f1 f4;exact Option.some.inj (f1.symm.trans f4)
       ·rw[List.getElem?_append_right hge] at f1 f4
        obtain⟨d,hd⟩:∃d,b - pre.length=d+1:=⟨b - pre.length - 1,by omega⟩
        rw[hd] at f1 f4
        simp only[List.getElem?_cons_succ] at f1 f4
        exact Option.some.inj (f1.symm.trans f4)
      subst this
      exact stays_refl f2
    have hlb:=f6 hst
    have hg:x' ≠ .gone:=by intro e;rw[e] at hst;cases x<;>simp[Blk.stays] at hst
    exact hb (R3.inj b (pre.length+1+more.length) x' _ k c' c f4 hg hgetk3 (by simp) (by rw[hlb];exact f3) hk)
  ·exact .inr h1
 have E5:Ext X.w X.l [] w' l' (hB pre (rawR (ys.set u z)) more):=by
  refine⟨Nat.le_trans E.size E3.size,?_,?_,fun b x hb=>by simp at hb,⟨E3.tape.1.trans E.tape.1,E3.tape.2.1.trans E.tape.2.1,E3.tape.2.2.1.trans E.tape.2.2.1,Nat.le_trans E.tape.2.2.2 E3.tape.2.2.2⟩⟩
  ·intro blk hb hno
   rw[E3.same blk (Nat.lt_of_lt_of_le hb E.size) ?_,E.same blk hb hno]
   intro ho
   have:avs (plus (plusL X.O (ps.set u none)) p) l (hB pre (rawR ys) more) blk:=by
    apply hav1
    refine .inr ?_
    have:=own_set (l:=l.upd (pre.length+1+more.length) p) (x':=.vec ((rawR ys).set u [.ref (.vec (pre.length+1+more.length) 0)]) 0 1) hget1 (by simp) (by simp) (k:=blk)
    rw[hB_set] at this
    exact this.1 ho
   have hO2:=R2.inb blk ho
   rcases this with h1|h1
   ·rw[hplus] at h1
    rcases h1 with h1|⟨j,c,h1⟩
    ·exact hO2.2 (.inl h1)
    ·have:=(fresh j blk c h1).2;omega
   ·rcases E.news blk h1 with h2|h2
    ·obtain⟨b,x,c,f1,_⟩:=h2;simp at f1
    ·omega
  ·intro blk ho
   obtain⟨b,x,c,f1,f2,f3⟩:=ho
   have hb:b<(hB pre (rawR (ys.set u z)) more).length:=(List.getElem?_eq_some_iff.1 f1).1
   have ho3:=(hown4 blk).1 ⟨b,x,c,by rw[←hB_snoc,List.getElem?_append_left hb];exact f1,f2,f3⟩
   rcases E3.news blk ho3 with h1|h1
   ·have:=own_set (l:=l.upd (pre.length+1+more.length) p) (x':=.vec ((rawR ys).set u [.ref (.vec (pre.length+1+more.length) 0)]) 0 1) hget1 (by simp) (by simp) (k:=blk)
    rw[hB_set] at this
    have h2:=this.1 h1
    rw[←hB_snoc,own_snoc,←hlen,own_upd] at h2
    rcases h2 with h2|⟨_,c',h2⟩
    ·exact E.news blk h2
    ·rw[Loc.upd_same] at h2
     exact .inr (fresh u blk c' (by rw[hpq,h2])).2
   ·exact .inr (Nat.le_trans E.size h1)
 refine⟨l',ps.set u (l' (pre.length+1+more.length)),ys.set u z,by simpa using hp,by simpa using hy,R5,E5,rt5,by simpa[DefOk] using hd3.trans hd,?_,?_,?_⟩
 ·intro j C q v h1 h2 h3
  by_cases hj:j=u
  ·subst hj
   rw[List.getElem?_set_self hult] at h1
   rw[List.getElem?_set_self hpu] at h2
   rw[List.getElem?_set_self hyu] at h3
   cases h1;cases h2;cases h3
   refine⟨?_,hz2,hz1⟩
   have:=hid_iff.1 hP5.2
   simpa[hlen4,Loc.upd] using this
  ·rw[List.getElem?_set_ne (fun e=>hj e.symm)] at h1 h2 h3
   obtain⟨g1,g2,g3⟩:=hid j C q v h1 h2 h3
   refine⟨g1.mono fun k c hk=>?_,g2,g3⟩
   have hO:plusL X.O (ps.set u none) k:=.inr ⟨j,c,by rw[List.getElem?_set_ne (fun e=>hj e.symm),h2,hk]⟩
   exact E3.same k (R2.obd k hO) fun ho=>(R2.inb k ho).2 hO
 ·have key:∀(j:Nat) (c c' blk:Nat),j ≠ u→ps[j]? = some (some (blk,c))→l' (pre.length+1+more.length)=some (blk,c')→False:=by
   intro j c c' blk hj h1 h2
   rcases hnewp blk c' h2 with ⟨c2,h3⟩|h3
   ·exact hj (inj j u c c2 blk h1 (by rw[hpq,h3]))
   ·have hO:plusL X.O (ps.set u none) blk:=.inr ⟨j,c,by rw[List.getElem?_set_ne (fun e=>hj e.symm),h1]⟩
    have:=R2.obd blk hO
    have this:blk<w.heap.size:=this
    omega
  intro j k c c' blk h1 h2
  by_cases hj:j=u
  ·by_cases hk:k=u
   ·rw[hj,hk]
   ·subst hj
    rw[List.getElem?_set_self hpu] at h1
    rw[List.getElem?_set_ne (fun e=>hk e.symm)] at h2
    exact(key k c' c blk hk h2 (by simpa using h1)).elim
  ·by_cases hk:k=u
   ·subst hk
    rw[List.getElem?_set_self hpu] at h2
    rw[List.getElem?_set_ne (fun e=>hj e.symm)] at h1
    exact(key j c c' blk hj h1 (by simpa using h2)).elim
   ·rw[List.getElem?_set_ne (fun e=>hj e.symm)] at h1
    rw[List.getElem?_set_ne (fun e=>hk e.symm)] at h2
    exact inj j k c c' blk h1 h2
 ·intro j blk c h1
  by_cases hj:j=u
  ·subst hj
   rw[List.getElem?_set_self hpu] at h1
   have h1:l' (pre.length+1+more.length)=some (blk,c):=by simpa using h1
   rcases hnewp blk c h1 with ⟨c2,h3⟩|h3
   ·exact fresh j blk c2 (by rw[hpq,h3])
   ·refine⟨fun hO=>?_,Nat.le_trans E.size h3⟩
    have:=R2.obd blk (.inl hO)
    have this:blk<w.heap.size:=this
    omega
  ·rw[List.getElem?_set_ne (fun e=>hj e.symm)] at h1
   exact fresh j blk c h1
end
section
variable {Γ:Glob} {O O':Nat→Prop} {w w':World} {l l':Loc} {h h':List Blk} {av av':Nat→Prop}
theorem wpIn_loopG{P:Program}{r:Option Nat}{Q:Exit→Act→World→Prop}{c:Code}{ι:Type}(I:ι→Act→World→Prop)(μ:ι→Nat)(i0:ι){a:Act}{w:World}(h0:I i0 a w)
  (round:∀i a w,I i a w→c.wpIn (FW r) 0 P (fun e a' w'=>(e=.normal∧∃j,I j a' w'∧μ j<μ i)∨(e ≠ .normal∧e ≠ .outgrown∧Q e a' w')) a w):(Code.loop c).wpIn (FW r) 0 P Q a w:=by
 intro b k cs hro hb hr
 have key:∀(n:Nat) (i:ι) (a:Act) (w:World),μ i=n→I i a w →
   ∃e a' w',Q e a' w'∧ArrivesIn (Machine.fenced P (FW r)) P (lone (b.atR a (.code c::.inLoop c::k)) cs w) b k cs e a' w':=by
  intro n
  induction n using Nat.strongRecOn with
  | _ n ih =>
   intro i a w hn hI
   obtain⟨e,a₁,w₁,hq,harr⟩:=round i a w hI b (.inLoop c::k) cs hro hb hr
   rcases hq with ⟨rfl,j,hj,hlt⟩|⟨g1,g2,g3⟩
   ·obtain⟨e₂,a₂,w₂,hq₂,harr₂⟩:=ih (μ j) (by omega) j a₁ w₁ rfl hj
    exact⟨e₂,a₂,w₂,hq₂,.of_steps (StepsIn.trans harr (.one (fenced_calm hb hr rfl) stepR_inLoop)) harr₂⟩
   ·cases e with
    | normal=>exact absurd rfl g1
    | outgrown=>exact absurd rfl g2
    | panic ch=>exact⟨_,a₁,w₁,g3,.pass (x:=.inLoop c) rfl (fun _ _=>.inl (by simp)) harr⟩
    | exit id=>exact⟨_,a₁,w₁,g3,.pass (x:=.inLoop c) rfl (fun _ _=>.inl (by simp)) harr⟩
    | goto t=>exact⟨_,a₁,w₁,g3,.pass (x:=.inLoop c) rfl (fun _ _=>.inl (by simp)) harr⟩
    | ret=>exact⟨_,a₁,w₁,g3,.pass (x:=.inLoop c) rfl (fun _ _=>.inl (by simp)) harr⟩
 obtain⟨e,a',w',hq,harr⟩:=key _ i0 a w rfl h0
 exact⟨e,a',w',hq,.of_steps (.one (fenced_calm hb hr rfl) stepR_loop) harr⟩
theorem NB.trimTo{X:Ctx}{t:List D}{pre m1 m2:List Blk}{A:List (List Int)}{a:Act}{w:World}(hn:NB Γ X t pre (m1++m2) A a w)
  (ht:D.innL (pre.length+1+m1.length) t=true) (hpre:pre.all (Blk.inn (pre.length+1+m1.length))=true) (hm:m1.all (Blk.inn (pre.length+1+m1.length))=true):NB Γ X t pre m1 A a w:=by
 obtain⟨l,ps,ys,hp,hy,R,E,rt,hd,hid,inj,fresh⟩:=hn
 have htk:(hB pre (rawR ys) (m1++m2)).take (pre.length+1+m1.length)=hB pre (rawR ys) m1:=by
  have:hB pre (rawR ys) (m1++m2)=hB pre (rawR ys) m1++m2:=by simp[hB]
  rw[this,List.take_left' hB_len]
 have hin:((hB pre (rawR ys) (m1++m2)).take (pre.length+1+m1.length)).all (Blk.inn (pre.length+1+m1.length))=true:=by
  rw[htk]
  unfold hB
  simp only[List.all_append,hpre,List.all_cons,hm,Bool.and_true,Bool.true_and,Blk.inn]
  exact raw_inn _
 have R':=R.take hin
 have E':=E.takeN (k:=pre.length+1+m1.length) (Nat.zero_le _)
 have rt':=relL_take (n:=pre.length+1+m1.length) (fun _ hk=>avs_take (n:=pre.length+1+m1.length) hk) ht rt
 rw[htk] at R' E' rt'
 exact⟨l,ps,ys,hp,hy,R',E',rt',hd,hid,inj,fresh⟩
theorem NB.enter{X:Ctx}(hX:X.h=[]){t:List D}{pre more:List Blk}{n:Nat}{a:Act}{w:World}
  (hs:St Γ X {t:=t,h:=hB pre (rawR (List.replicate n (.slice none 0 0))) more,m:=[]} a w):NB Γ X t pre more (List.replicate n []) a w:=by
 obtain⟨l,R,E,rt,hd⟩:=hs
 have hpl:plusL X.O (List.replicate n none)=X.O:=by
  funext k
  apply propext
  constructor
  ·rintro (h1|⟨j,c,h1⟩)
   ·exact h1
   ·rw[List.getElem?_replicate] at h1;split at h1<;>simp at h1
  ·exact .inl
 rw[hX] at E
 refine⟨l,List.replicate n none,List.replicate n (.slice none 0 0),by simp,by simp,by rw[hpl];exact R,E,by rw[hpl];exact rt,by simpa[DefOk] using hd,?_,?_,?_⟩
 ·intro j B p y h1 h2 h3
  rw[List.getElem?_replicate] at h1 h2 h3
  split at h1<;>simp at h1
  rename_i hj
  rw[if_pos hj] at h2 h3
  cases h2;cases h3;subst h1
  exact⟨rfl,⟨rfl,rfl⟩,rfl⟩
 ·intro j k c c' blk h1
  rw[List.getElem?_replicate] at h1;split at h1<;>simp at h1
 ·intro j blk c h1
  rw[List.getElem?_replicate] at h1;split at h1<;>simp at h1
theorem keep_refl:∀b x,h[b]? = some x→∃x',h[b]? = some x'∧x.le x'∧(x.stays x'→l b=l b):=fun _ x hx=>⟨x,hx,x.le_refl,fun _=>rfl⟩
theorem lessO_hc(hO:∀k,O' k→O k):∀blk off y,¬avs O l h blk→w.cell? ⟨blk,off,none⟩=some y→w.cell? ⟨blk,off,none⟩=some y∧¬avs O' l h blk :=
 fun blk _ _ hn hy=>⟨hy,fun ha=>hn (ha.imp (hO blk) id)⟩
theorem Rep.lessO(R:Rep Γ O w l h)(hO:∀k,O' k→O k):Rep Γ O' w l h :=
 ⟨fun blk ho=>⟨(R.inb blk ho).1,fun h1=>(R.inb blk ho).2 (hO _ h1)⟩,fun blk h1=>R.obd blk (hO _ h1),R.inj,
  fun b x hb=>BlkOk.mono (lessO_hc hO) keep_refl rfl (fun _ _ _=>rfl) (R.blk b x hb),fun g cs hg=>RelCells.mono (lessO_hc hO) g 0 cs (R.glo g cs hg)⟩
theorem relL_zip:∀{ds:List D} {ys:List Value},ds.length=ys.length→(∀(j:Nat) (d:D) (y:Value),ds[j]? = some d→ys[j]? = some y→Rel w av l h d y)→RelL w av l h ds ys
 | [],[],_,_=>by simp[RelL]
 | [],_::_,hl,_=>by simp at hl
 | _::_,[],hl,_=>by simp at hl
 | d::ds,y::ys,hl,hr=>by
  simp only[RelL]
  exact⟨hr 0 d y rfl rfl,relL_zip (by simpa using hl) fun j d y h1 h2=>hr (j+1) d y (by simpa using h1) (by simpa using h2)⟩
abbrev rowsI(B:List Int):List (List Dp):=B.map fun n=>[.v (.int .i64 n)]
theorem hid_pure{p:Option (Nat×Nat)}{B:List Int}{y:Value}(hb:HidB w p B)(hv:VecV p B.length y)(hn:∀k c,p=some (k,c)→¬av k):RelP w av (.sl (rowsI B)) y:=by
 unfold HidB BlkOk at hb
 cases p with
 | none =>
  simp only[List.map_eq_nil_iff] at hb
  subst hb
  simp only[VecV] at hv
  simp only[RelP]
  exact .inl ⟨rfl,none,0,hv.2,fun _=>rfl⟩
 | some q =>
  obtain⟨k,cp⟩:=q
  simp only at hb
  obtain⟨o,cap,rc,cs,T,fr,zs,g1,g2,g3,g4,g5,g6,pre,rest,q0,q7⟩:=hb
  rw[relL_ints] at g6
  subst g6
  obtain⟨o2,cap2,rc2,rfl,hle⟩:=hv
  obtain⟨rfl,rfl⟩:=mkP_inj (rc.symm.trans rc2)
  simp only[RelP]
  refine .inr ⟨k,o,cap,1,by simp,by simpa using hle,relRows_at _ _ fun i e he=>?_⟩
  rw[List.getElem?_map] at he
  cases hB:B[i]? with
  | none=>rw[hB] at he;simp at he
  | some n =>
   rw[hB] at he
   simp only[Option.map_some,Option.some.injEq] at he
   subst he
   refine⟨rfl,⟨hn k cp rfl,.int .i64 n,?_,rfl⟩,trivial⟩
   rw[cell_of_row w k (o+i*1) cs T fr g1,←Array.getElem?_toList,q7,List.append_assoc,List.getElem?_append_right (by omega),q0,Nat.mul_one,Nat.add_sub_cancel_left,
    List.getElem?_append_left (by rw[List.length_map];exact(List.getElem?_eq_some_iff.1 hB).1),List.getElem?_map,hB]
   rfl
theorem NB.leave{X:Ctx}(hX:X.h=[]){t:List D}{pre more:List Blk}{A:List (List Int)}{a:Act}{w:World}(hn:NB Γ X t pre more A a w):
  St Γ X {t:=t,h:=hB pre (A.map fun B=>[.p (.sl (rowsI B))]) more,m:=[]} a w:=by
 obtain⟨l,ps,ys,hp,hy,R,E,rt,hd,hid,inj,fresh⟩:=hn
 have hO:∀k,X.O k→plusL X.O ps k:=fun k hk=>.inl hk
 have R1:=R.lessO hO
 have rt1:=RelL.mono (lessO_hc hO) keep_refl _ _ rt
 have hget:(hB pre (rawR ys) more)[pre.length]? = some (.vec (rawR ys) 0 1):=hB_get
 have hok:BlkOk w (avs X.O l (hB pre (rawR ys) more)) l (hB pre (rawR ys) more) pre.length (.vec (A.map fun B=>[.p (.sl (rowsI B))]) 0 1):=by
  have h0:=R1.blk _ _ hget
  unfold BlkOk at h0 ⊢
  cases hlq:l pre.length with
  | none =>
   simp only[hlq] at h0 ⊢
   have h1:ys=[]:=by simpa using h0
   have h2:A=[]:=by rw[←List.length_eq_zero_iff,←hy,h1];rfl
   rw[h2];rfl
  | some q =>
   obtain⟨blk,cp⟩:=q
   simp only[hlq] at h0 ⊢
   obtain⟨o,cap,rc,cs,T,fr,zs,g1,g2,g3,g4,g5,g6,g7⟩:=h0
   rw[raw_flat,relL_raw] at g6
   subst g6
   refine⟨o,cap,rc,cs,T,fr,zs,g1,g2,by simpa[hy] using g3,g4,fun e he=>?_,?_,g7⟩
   ·obtain⟨B,_,rfl⟩:=List.mem_map.1 he;rfl
   ·have hfl:(A.map fun B=>[D.p (.sl (rowsI B))]).flatten=A.map fun B=>D.p (.sl (rowsI B)):=by
     generalize A=A'
     induction A' with
     | nil=>rfl
     | cons B A' ih=>simp only[List.map_cons,List.flatten_cons,List.singleton_append,ih]
    rw[hfl]
    refine relL_zip (by simp[hy]) fun j d y h1 h2=>?_
    rw[List.getElem?_map] at h1
    cases hA:A[j]? with
    | none=>rw[hA] at h1;simp at h1
    | some B =>
     rw[hA] at h1
     simp only[Option.map_some,Option.some.injEq] at h1
     subst h1
     obtain⟨p,hpj⟩:∃p,ps[j]? = some p:=⟨_,List.getElem?_eq_getElem (by have:=(List.getElem?_eq_some_iff.1 hA).1;omega)⟩
     obtain⟨k1,k2,_⟩:=hid j B p y hA hpj h2
     simp only[Rel]
     refine hid_pure k1 k2 fun k c hk ha=>?_
     rcases ha with ha|ha
     ·exact(fresh j k c (by rw[hpj,hk])).1 ha
     ·exact(R.inb k ha).2 (.inr ⟨j,c,by rw[hpj,hk]⟩)
 have R2:=R1.redesc hget (by simp[hy]) hok
 have rt2:=RelL.mono (set_hc (rows':=A.map fun B=>[.p (.sl (rowsI B))]) hget) (set_keep (l:=l) hget (rows':=A.map fun B=>[.p (.sl (rowsI B))]) (by simp[hy])) _ _ rt1
 have hE:Ext X.w X.l [] w l (hB pre (A.map fun B=>[.p (.sl (rowsI B))]) more):=by
  refine⟨E.size,E.same,fun blk ho=>?_,fun b x hb=>by simp at hb,E.tape⟩
  have:=own_set (l:=l) (x':=.vec (A.map fun B=>[.p (.sl (rowsI B))]) 0 1) hget (by simp) (by simp) (k:=blk)
  rw[hB_set] at this
  exact E.news blk (this.1 ho)
 rw[hB_set] at R2 rt2
 exact⟨l,R2,by rw[hX];exact hE,rt2,by simpa[DefOk] using hd⟩
end
def sameBlk:Blk→Blk→Bool
 | .var a,.var b=>sameL a b
 | .vec a e s,.vec b e' s'=>sameLL a b&&(Dd (e=e')&&Dd (s=s'))
 | .map a c,.map b c'=>sameKV a b&&Dd (c=c')
 | .gone,.gone=>true
 | .defd,.defd=>true
 | .mit (some a) b c d,.mit (some a') b' c' d'=>(Dd (a=a')&&Dd (b=b'))&&(Dd (c=c')&&Dd (d=d'))
 | .mit none b c d,.mit none b' c' d'=>Dd (b=b')&&(Dd (c=c')&&Dd (d=d'))
 | _,_=>false
where
 sameLL:List (List D)→List (List D)→Bool
  | [],[]=>true
  | a::as,b::bs=>sameL a b&&sameLL as bs
  | _,_=>false
 sameKV:List (D×D×Nat)→List (D×D×Nat)→Bool
  | [],[]=>true
  | (k,d,n)::as,(k',d',n')::bs=>(sameD k k'&&sameD d d')&&(Dd (n=n')&&sameKV as bs)
  | _,_=>false
def sameH:List Blk→List Blk→Bool
 | [],[]=>true
 | a::as,b::bs=>sameBlk a b&&sameH as bs
 | _,_=>false
theorem sameLL_eq:∀{a b:List (List D)},sameBlk.sameLL a b=true→a=b
 | [],[],_=>rfl
 | a::as,b::bs,h=>by simp only[sameBlk.sameLL,Bool.and_eq_true] at h;rw[sameL_eq h.1,sameLL_eq h.2]
 | [],_::_,h=>by simp[sameBlk.sameLL] at h
 | _::_,[],h=>by simp[sameBlk.sameLL] at h
theorem sameKV_eq:∀{a b:List (D×D×Nat)},sameBlk.sameKV a b=true→a=b
 | [],[],_=>rfl
 | (k,d,n)::as,(k',d',n')::bs,h=>by
  simp only[sameBlk.sameKV,Bool.and_eq_true,decide_eq_true_eq] at h
  rw[sameD_eq h.1.1,sameD_eq h.1.2,h.2.1,sameKV_eq h.2.2]
 | [],_::_,h=>by simp[sameBlk.sameKV] at h
 | _::_,[],h=>by simp[sameBlk.sameKV] at h
theorem sameBlk_eq{a b:Blk}(h:sameBlk a b=true):a=b:=by
 unfold sameBlk at h
 split at h
 ·rw[sameL_eq h]
 ·simp only[Bool.and_eq_true,decide_eq_true_eq] at h;rw[sameLL_eq h.1,h.2.1,h.2.2]
 ·simp only[Bool.and_eq_true,decide_eq_true_eq] at h;rw[sameKV_eq h.1,h.2]
 ·rfl
 ·rfl
 ·simp only[Bool.and_eq_true,decide_eq_true_eq] at h;rw[h.1.1,h.1.2,h.2.1,h.2.2]
 ·simp only[Bool.and_eq_true,decide_eq_true_eq] at h;rw[h.1,h.2.1,h.2.2]
 ·cases h
theorem sameH_eq:∀{a b:List Blk},sameH a b=true→a=b
 | [],[],_=>rfl
 | a::as,b::bs,h=>by simp only[sameH,Bool.and_eq_true] at h;rw[sameBlk_eq h.1,sameH_eq h.2]
 | [],_::_,h=>by simp[sameH] at h
 | _::_,[],h=>by simp[sameH] at h
structure Memo where
 f:FuncId
 args:List D
 h:List Blk
 r:CR
def Memo.hit(m:Memo)(f:FuncId)(args:List D)(h:List Blk):Bool:=match Nat.beq m.f f with
 | true=>match sameL m.args args with
  | true=>sameH m.h h
  | false=>false
 | false=>false
def memoW:List Memo→FnF
 | [],_,_,_=>none
 | m::ms,f,args,h=>match m.hit f args h with
  | true=>some m.r
  | false=>memoW ms f args h
def Memo.Ok(P:Program)(Γ:Glob)(m:Memo):Prop:=funOk P m.f=true∧VRes P Γ m.f m.args m.h m.r
def MemosOk(P:Program)(Γ:Glob):List Memo→Prop
 | []=>True
 | m::ms=>m.Ok P Γ∧MemosOk P Γ ms
theorem Memo.hit_eq{m:Memo}{f:FuncId}{args:List D}{h:List Blk}(hh:m.hit f args h=true):m.f=f∧m.args=args∧m.h=h:=by
 unfold Memo.hit at hh
 split at hh
 ·rename_i h1
  split at hh
  ·rename_i h2
   exact⟨Nat.eq_of_beq_eq_true h1,sameL_eq h2,sameH_eq hh⟩
  ·cases hh
 ·cases hh
theorem memoW_ok{P:Program}{Γ:Glob}:∀{ms:List Memo},MemosOk P Γ ms→FnOk P Γ (memoW ms)
 | [],_,_,_,_,_,h=>by simp[memoW] at h
 | m::ms,hm,f,args,h,r,hw=>by
  simp only[memoW] at hw
  split at hw
  ·rename_i hh
   obtain⟨rfl,rfl,rfl⟩:=Memo.hit_eq hh
   cases hw
   exact hm.1
  ·exact memoW_ok hm.2 _ _ _ _ hw
def sameCR:CR→CR→Bool
 | .ret d h,.ret d' h'=>sameD d d'&&sameH h h'
 | _,_=>false
theorem sameCR_eq{a b:CR}(h:sameCR a b=true):a=b:=by
 unfold sameCR at h
 split at h
 ·simp only[Bool.and_eq_true] at h;rw[sameD_eq h.1,sameH_eq h.2]
 ·cases h
def Memo.runs(P:Program)(Γ:Glob)(ms:List Memo)(m:Memo):Bool:=match funOk P m.f,runFO P Γ (memoW ms) 100000 m.f m.args m.h with
 | true,some r=>sameCR r m.r
 | _,_=>false
theorem Memo.ok_of{P:Program}{Γ:Glob}(ok:POk P){ms:List Memo}{m:Memo}(hr:m.runs P Γ ms=true)(hm:MemosOk P Γ ms):m.Ok P Γ:=by
 unfold Memo.runs at hr
 split at hr
 ·rename_i r h1 h2
  refine⟨h1,?_⟩
  rw[←sameCR_eq hr]
  exact VRes.of_run ok (memoW_ok hm) h2
 ·cases hr
theorem Memo.call{P:Program}{Γ:Glob}{m:Memo}{d:D}{h':List Blk}(hm:m.Ok P Γ)(hr:m.r=.ret d h'):VCall P Γ m.f m.args m.h fun d2 h2=>d2=d∧h2=h':=by
 have:=hm.2
 rw[hr] at this
 exact this.call
section
variable {P:Program} {Γ:Glob}
abbrev coll(k:Nat):Deferred:={target:=.collected k,args:=#[]}
def deadX(X:Ctx)(ks:List Nat):Ctx:={O:=fun k=>X.O k∨k∈ks,w:=X.w,l:=X.l,h:=X.h,D:=ks.map coll++X.D}
def MB(Γ:Glob)(X:Ctx)(s:AS)(a:Act)(w:World):Prop :=
 ∃ks:List Nat,ks.Nodup∧(∀k∈ks,(X.w.heap.size≤k∨own X.l X.h k)∧w.heap[k]? = some (.deferred (some [])))∧St Γ (deadX X ks) s a w
theorem MB.enter{X:Ctx}{s:AS}{a:Act}{w:World}(hs:St Γ X s a w):MB Γ X s a w:=by
 refine⟨[],List.nodup_nil,by simp,?_⟩
 have:deadX X []=X:=by simp[deadX]
 rw[this]
 exact hs
theorem MB.sop{X:Ctx}{s s':AS}{a:Act}{w:World}{o:SOp}{φ:List Prop}(ha:o.app X.h s=some (s',φ))(hp:AllP φ)(hs:MB Γ X s a w):MB Γ X s' a w:=by
 obtain⟨ks,h1,h2,h3⟩:=hs
 exact⟨ks,h1,h2,SOp.sound (X:=deadX X ks) ha hp h3⟩
theorem MB.run{X:Ctx}{c:Code}{s s':AS}{e:Exit}(hcw:CW P Γ s.h false c s e s'){a:Act}{w:World}(hs:MB Γ X s a w):
  c.wpIn (FW none) 0 P (fun e' a' w'=>e'=e∧e' ≠ .outgrown∧MB Γ X s' a' w') a w:=by
 obtain⟨ks,nd,hk,l,R,E,rt,hd⟩:=hs
 refine wpIn_mono (hcw {O:=(deadX X ks).O,w:=w,l:=l,h:=s.h,D:=(deadX X ks).D} none rfl (fun _=>rfl) a w ⟨l,R,Ext.refl _ _ _,rt,hd⟩) ?_
 rintro e' a' w' ⟨h2,s2,⟨rfl,rfl⟩,l',R',E',rt',hd'⟩
 refine⟨rfl,h2,ks,nd,fun k hkk=>⟨(hk k hkk).1,?_⟩,l',R',E.trans E',rt',hd'⟩
 have hO:(deadX X ks).O k:=.inr hkk
 rw[E'.same k (R.obd k hO) (fun ho=>(R.inb k ho).2 hO)]
 exact(hk k hkk).2
theorem MB.drop{X:Ctx}{t:List D}{h:List Blk}{b:Nat}(hb:h[b]? = some .defd){a:Act}{w:World}(hs:MB Γ X {t:=t,h:=h,m:=[b]} a w):MB Γ X {t:=t,h:=h.set b .gone,m:=[]} a w:=by
 obtain⟨ks,nd,hk,l,R,E,rt,hd⟩:=hs
 have hbl:=(List.getElem?_eq_some_iff.1 hb).1
 have g:∀b':Nat,(h.set b .gone)[b']? = h[b']? ∨ (h.set b .gone)[b']? = some Blk.gone:=by
  intro b'
  by_cases e:b=b'
  ·subst e;exact .inr (List.getElem?_set_self hbl)
  ·exact .inl (List.getElem?_set_ne e)
 obtain⟨ds,hds⟩:∃ds,a.defers=ds:=⟨_,rfl⟩
 rw[hds] at hd
 cases ds with
 | nil=>simp[DefOk] at hd
 | cons d ds =>
  simp only[DefOk] at hd
  obtain⟨⟨blk,cp,_,h2,rfl⟩,rfl⟩:=hd
  have hown:own l h blk:=⟨b,.defd,cp,hb,by simp,h2⟩
  obtain⟨hlt,hnO⟩:=R.inb blk hown
  have hobj:w.heap[blk]? = some (.deferred (some [])):=by
   obtain⟨blk',cp',q1,q2⟩:=R.blk b _ hb
   rw[h2] at q1;cases q1
   exact q2
  have hO2:∀k,(deadX X (blk::ks)).O k ↔ ((deadX X ks).O k∨k=blk):=by
   intro k
   simp only[deadX,List.mem_cons]
   constructor
   ·rintro (h|h|h)
    ·exact .inl (.inl h)
    ·exact .inr h
    ·exact .inl (.inr h)
   ·rintro ((h|h)|h)
    ·exact .inl h
    ·exact .inr (.inr h)
    ·exact .inr (.inl h)
  have hav:∀k,avs (deadX X (blk::ks)).O l (h.set b .gone) k→avs (deadX X ks).O l h k:=by
   rintro k (hk1|hk1)
   ·rcases(hO2 k).1 hk1 with h|rfl
    ·exact .inl h
    ·exact .inr hown
   ·exact .inr (own_gc g hk1)
  refine⟨blk::ks,?_,?_,l,?_,E.gc g,relL_gc g hav rt,?_⟩
  ·refine List.nodup_cons.2 ⟨fun hm=>hnO (.inr hm),nd⟩
  ·intro k hkm
   rcases List.mem_cons.1 hkm with rfl|hkm
   ·exact⟨(E.news _ hown).symm,hobj⟩
   ·exact hk k hkm
  ·refine⟨?_,?_,?_,?_,?_⟩
   ·intro k ho
    refine⟨(R.inb k (own_gc g ho)).1,fun hO=>?_⟩
    rcases(hO2 k).1 hO with hO|rfl
    ·exact(R.inb k (own_gc g ho)).2 hO
    ·obtain⟨b',x,c,q1,q2,q3⟩:=ho
     have hne:b ≠ b':=by
      rintro rfl
      rw[List.getElem?_set_self hbl] at q1;cases q1;exact q2 rfl
     rw[List.getElem?_set_ne hne] at q1
     by_cases hc:c=cp
     ·subst hc
      exact hne (R.inj b b' _ x k c c hb (by simp) q1 q2 h2 q3)
     ·exact hne (R.inj b b' _ x k cp c hb (by simp) q1 q2 h2 q3)
   ·intro k hO
    rcases(hO2 k).1 hO with hO|rfl
    ·exact R.obd k hO
    ·exact hlt
   ·exact(R.gc g).inj
   ·intro b' x hx
    rcases g b' with e|e
    ·exact blkOk_gc g hav (R.blk b' x (by rw[←e];exact hx))
    ·rw[e] at hx;cases hx;trivial
   ·exact fun g0 cs hg=>relCells_take hav (R.glo g0 cs hg)
  ·simp only[DefOk,hds,deadX,List.map_cons,List.cons_append]
def MW(P:Program)(Γ:Glob)(X:Ctx)(c:Code)(s:AS)(Q:Exit→AS→Prop):Prop :=
 ∀a w,MB Γ X s a w→c.wpIn (FW none) 0 P (fun e a' w'=>e ≠ .outgrown∧∃s',Q e s'∧MB Γ X s' a' w') a w
theorem MW.run{X:Ctx}{c:Code}{s s':AS}{e:Exit}{Q:Exit→AS→Prop}(hcw:CW P Γ s.h false c s e s')(hq:Q e s'):MW P Γ X c s Q:=fun a w hs =>
 wpIn_mono (MB.run hcw hs) fun _ _ _ ⟨h1,h2,h3⟩=>⟨h2,s',h1▸hq,h3⟩
theorem MW.mono{X:Ctx}{c:Code}{s:AS}{Q Q':Exit→AS→Prop}(h:MW P Γ X c s Q)(hq:∀e s,Q e s→Q' e s):MW P Γ X c s Q':=fun a w hs =>
 wpIn_mono (h a w hs) fun _ _ _ ⟨h2,s',h3,h4⟩=>⟨h2,s',hq _ _ h3,h4⟩
theorem MW.then{X:Ctx}{c:Code}{s s1 s2:AS}{e:Exit}{Q:Exit→AS→Prop}(h:MW P Γ X c s (Det e s1))(hs:∀a w,MB Γ X s1 a w→MB Γ X s2 a w)(hq:Q e s2):MW P Γ X c s Q:=fun a w hm =>
 wpIn_mono (h a w hm) fun _ _ _ ⟨h2,_,⟨h3,h5⟩,h4⟩=>⟨h2,s2,h3▸hq,hs _ _ (h5▸h4)⟩
theorem MW.seq{X:Ctx}{c d:Code}{s:AS}{Q:Exit→AS→Prop}(h:MW P Γ X c s (thenQ (fun s'=>MW P Γ X d s' Q) Q)):MW P Γ X (.seq c d) s Q:=fun a w hs =>
 wpIn_seq (wpIn_mono (h a w hs) fun e a' w' ⟨h2,s',h3,h4⟩=>by
  cases e with
  | normal=>exact h3 a' w' h4
  | outgrown=>exact absurd rfl h2
  | _=>exact⟨h2,s',h3,h4⟩)
theorem MW.block{X:Ctx}{id:Nat}{c:Code}{s:AS}{Q:Exit→AS→Prop}(h:MW P Γ X c s (blockQ id Q)):MW P Γ X (.block id c) s Q:=fun a w hs =>
 wpIn_block (wpIn_mono (h a w hs) fun e a' w' ⟨h2,s',h3,h4⟩=>by
  cases e with
  | exit k =>
   simp only[Exit.inBlock,blockQ] at h3 ⊢
   split
   ·rename_i hk;rw[if_pos hk] at h3;exact⟨by simp,s',h3,h4⟩
   ·rename_i hk;rw[if_neg hk] at h3;exact⟨h2,s',h3,h4⟩
  | outgrown=>exact absurd rfl h2
  | _=>exact⟨h2,s',h3,h4⟩)
theorem MW.scope{X:Ctx}{c:Code}{s:AS}{Q:Exit→AS→Prop}(h:MW P Γ X c s (fun e s=>(∀l,e ≠ .goto l)∧Q e s)):MW P Γ X (.scope c) s Q:=by
 intro a w hs b k cs hro hb hr
 have h0:(lone (b.atR a (.code (.scope c)::k)) cs w).fenced P (FW none):=fenced_calm hb hr rfl
 obtain⟨e,a₁,w₁,⟨g2,s',⟨g3,g4⟩,g5⟩,harr⟩:=h a w hs b (.inScope c::k) cs hro hb hr
 cases e with
 | normal=>exact⟨.normal,a₁,w₁,⟨by simp,s',g4,g5⟩,.head h0 stepR_scope (StepsIn.trans harr (.one (fenced_calm hb hr rfl) stepR_inScope))⟩
 | exit id' =>
  have hx:exitTo id' (.inScope c::k)=exitTo id' k:=by simp[exitTo]
  exact⟨.exit id',a₁,w₁,⟨by simp,s',g4,g5⟩,fun k' hk=>.head h0 stepR_scope (harr.1 k' (by rw[hx];exact hk)),
   fun hr' hk=>let ⟨k₁,h1,h2⟩:=harr.2 hr' (by rw[hx];exact hk);⟨k₁,h1,.head h0 stepR_scope h2⟩⟩
 | goto l=>exact absurd rfl (g3 l)
 | ret=>exact⟨_,a₁,w₁,⟨by simp,s',g4,g5⟩,.of_steps (.one h0 stepR_scope) harr⟩
 | panic ch=>exact⟨_,a₁,w₁,⟨by simp,s',g4,g5⟩,.of_steps (.one h0 stepR_scope) harr⟩
 | outgrown=>exact absurd rfl g2
theorem MW.loop{X:Ctx}{c:Code}{ι:Type}(st:ι→AS)(fin:ι→Exit×AS)(μ:ι→Nat)(ok:ι→Prop)
  (round:∀i,ok i→(∃j,ok j∧μ j<μ i∧fin j=fin i∧MW P Γ X c (st i) (Det .normal (st j)))∨((fin i).1 ≠ .normal∧MW P Γ X c (st i) (Det (fin i).1 (fin i).2))) (i0:ι) (h0:ok i0):MW P Γ X (.loop c) (st i0) (Det (fin i0).1 (fin i0).2):=by
 intro a w hs
 refine wpIn_loopG (fun i a w=>ok i∧fin i=fin i0∧MB Γ X (st i) a w) μ i0 ⟨h0,rfl,hs⟩ ?_
 rintro i a w ⟨hok,hf,hm⟩
 rcases round i hok with ⟨j,h0,h1,h2,h3⟩|⟨h1,h2⟩
 ·refine wpIn_mono (h3 a w hm) ?_
  rintro e a' w' ⟨g1,s',⟨rfl,rfl⟩,g3⟩
  exact .inl ⟨rfl,j,⟨h0,h2.trans hf,g3⟩,h1⟩
 ·refine wpIn_mono (h2 a w hm) ?_
  rintro e a' w' ⟨g1,s',⟨rfl,rfl⟩,g3⟩
  rw[hf] at h1 g1 g3 ⊢
  exact .inr ⟨h1,g1,g1,_,⟨rfl,rfl⟩,g3⟩
theorem leaves_dead{fn:Func}{ts:Array Value}{t:List D}{h:List Blk}{R':Ending→World→Prop}{w0:World}{l0:Loc}{h0:List Blk}{O:Nat→Prop}{D0:List Deferred}{u:FrameMode}(hu:u ≠ .run):
  ∀(ks:List Nat) (w:World) (l:Loc),ks.Nodup→(∀k∈ks,(w0.heap.size≤k∨own l0 h0 k)∧w.heap[k]? = some (.deferred (some [])))→Rep Γ (fun k=>O k∨k∈ks) w l h→Ext w0 l0 h0 w l h →
   RelL w (avs (fun k=>O k∨k∈ks) l h) l h t ts.toList →
   (∀w' l',Rep Γ O w' l' h→Ext w0 l0 h0 w' l' h→RelL w' (avs O l' h) l' h t ts.toList→LeavesInM (FW none) 0 P fn ts R' D0 u w') →
   LeavesInM (FW none) 0 P fn ts R' (ks.map coll++D0) u w
 | [],w,l,_,_,R,E,rt,hk=>by
  have e:(fun k=>O k∨k∈([]:List Nat))=O:=by funext k;simp
  rw[e] at R rt
  exact hk w l R E rt
 | k::ks,w,l,nd,hd,R,E,rt,hk=>by
  obtain⟨hsz,hobj⟩:=hd k (by simp)
  obtain⟨nk,nd⟩:=List.nodup_cons.1 nd
  have hO:(fun j=>O j∨j∈k::ks) k:=.inr (by simp)
  have hno:¬own l h k:=fun ho=>(R.inb k ho).2 hO
  have hlt:=R.obd k hO
  have hgo:(getObj k).run P w=.ok (.deferred (some [])) w:=by simp[getObj,Sem.run,hobj]
  have hrun:(Instr.takeDeferred k).run P w=.ok [] {w with heap:=w.heap.setIfInBounds k (.deferred none)}:=by
   simp only[Instr.takeDeferred,Sem.run_bind,hgo,Result.andThen_ok,setObj_run (P:=P) hobj (by simp),Sem.run_pure]
  have hne:∀j,j ≠ k→({w with heap:=w.heap.setIfInBounds k (.deferred none)}:World).heap[j]? = w.heap[j]?:=by
   intro j hj
   simp[Ne.symm hj]
  have hav:∀j,avs (fun j=>O j∨j∈ks) l h j→avs (fun j=>O j∨j∈k::ks) l h j:=by
   rintro j ((h1|h1)|h1)
   ·exact .inl (.inl h1)
   ·exact .inl (.inr (by simp[h1]))
   ·exact .inr h1
  have hc:∀blk off y,¬avs (fun j=>O j∨j∈k::ks) l h blk→w.cell? ⟨blk,off,none⟩=some y→({w with heap:=w.heap.setIfInBounds k (.deferred none)}:World).cell? ⟨blk,off,none⟩=some y∧¬avs (fun j=>O j∨j∈ks) l h blk:=by
   intro blk off y hn hy
   have hb:blk ≠ k:=by rintro rfl;exact hn (.inl hO)
   refine⟨?_,fun ha=>hn (hav _ ha)⟩
   unfold World.cell? at hy ⊢
   simp only[hne blk hb]
   exact hy
  have hkp:∀b x,h[b]? = some x→∃x',h[b]? = some x'∧x.le x'∧(x.stays x'→l b=l b):=fun b x hx=>⟨x,hx,x.le_refl,fun _=>rfl⟩
  refine⟨hu,.inl ⟨k,_,rfl,hrun,leaves_dead hu ks _ l nd ?_ ?_ ?_ (RelL.mono hc hkp _ _ rt) hk⟩⟩
  ·intro j hj
   refine⟨(hd j (by simp[hj])).1,?_⟩
   rw[hne j (by rintro rfl;exact nk hj)]
   exact(hd j (by simp[hj])).2
  ·refine⟨?_,?_,R.inj,?_,fun g0 cs hg=>RelCells.mono hc g0 0 cs (R.glo g0 cs hg)⟩
   ·intro j ho
    obtain⟨h1,h2⟩:=R.inb j ho
    refine⟨by simpa using h1,fun hO=>h2 ?_⟩
    rcases hO with h|h
    ·exact .inl h
    ·exact .inr (by simp[h])
   ·intro j hj
    have:=R.obd j (hj.elim .inl fun h=>.inr (by simp[h]))
    simpa using this
   ·intro b x hb
    by_cases hx:x=.gone
    ·subst hx;trivial
    refine BlkOk.mono hc hkp rfl (fun blk cp hl=>hne blk ?_) (R.blk b x hb)
    rintro rfl
    exact hno ⟨b,x,cp,hb,hx,hl⟩
  ·refine⟨by simpa using E.size,fun blk h1 h2=>?_,E.news,E.keep,E.tape⟩
   rw[hne blk]
   ·exact E.same blk h1 h2
   ·rintro rfl
    rcases hsz with h|h
    ·omega
    ·exact h2 h
theorem Ev.of_mb{f:FuncId}{fn:Func}{c:Code}{args:List D}{h h':List Blk}{d:D}{e:Exit}{s:AS}(hf:P.funcs[f]? = some fn)(hb:fn.body=some c)
  (hv:∀X:Ctx,X.h=h→MW P Γ X c {t:=entryT fn args,h:=h,m:=[]} (Det e s))
  (hq:bodyQ P fn (fun d2 h2=>d2=d∧h2=h') e s):Ev P Γ f args h d h':=by
 intro O w l vs R ra
 refine callsIn_of_wp_marks hf hb trivial ?_ rfl
 refine wpIn_mono (hv _ rfl _ _ (MB.enter (entry_st R ra fn))) ?_
 rintro e' a' w' ⟨h2,s2,⟨rfl,rfl⟩,ks,nd,hk,l',R',E',rt',rd'⟩
 obtain⟨h3,h4,h5,ds,h6,h7⟩:=hq
 have key:=leaves_marks (P:=P) (Γ:=Γ) (O:=fun k=>O k∨k∈ks) (fn:=fn) (w0:=w') (l0:=l') (h0:=s2.h) (u:=.returning) (R':=fun e w'=>∃v d2 h2 l',e=.returned v∧(d2=d∧h2=h')∧Rep Γ O w' l' h2∧Ext w l h w' l' h2∧Rel w' (avs O l' h2) l' h2 d2 v)
  (by simp) s2.m a'.defers w' l' s2.h R' (Ext.refl _ _ _) rt' rd' h5 (fun w2 l2 k1 k2 k3=>by
   refine leaves_dead (P:=P) (Γ:=Γ) (w0:=w) (l0:=l) (h0:=h) (O:=O) (D0:=[]) (by simp) ks w2 l2 nd ?_ k1 (E'.trans k2) k3 ?_
   ·intro k hkk
    have hO:(fun k=>O k∨k∈ks) k:=.inr hkk
    refine⟨(hk k hkk).1,?_⟩
    rw[k2.same k (R'.obd k hO) (fun ho=>(R'.inb k ho).2 hO)]
    exact(hk k hkk).2
   ·intro w3 l3 g1 g2 g3
    obtain⟨v,h1,h2⟩:=results_sound (P:=P) g1 g3 h6
    exact⟨v,h1,⟨v,_,_,l3,rfl,h7,g1,g2,h2⟩⟩)
 rcases h3 with rfl|rfl
 ·exact key
 ·exact key
end
section
variable {P:Program} {Γ:Glob}
theorem TopW.deferH(ok:POk P){call:CallX}(hc:call.Ok P Γ){id:Nat}{ops:Array Oper}{d:Code}{s s':AS}{e:Exit}{os:List Oper}{o:Oper}(h0:ops.toList=os++[o]){fv:Operand}{args:Array Operand}{ats:Array TypeId}
  (ho:o.op=.defer {callee:=.value fv,args,argTypes:=ats}) (hg:o.guard=none) (hdst:o.dst=none) (hm:s.m=[]) {t1:List D} {h1:List Blk} (hr:runOpsX P Γ call [] ops.toList os s.t s.h=some (.normal,t1,h1))
  {f:FuncId} {fi ca:List D} (hcal:calleeD (evalD Γ t1 fv)=some (f,fi,ca))
  (hrest:CW P Γ h1 false d {t:=t1,h:=h1,m:=[]} e s') :
  TopW P Γ (.seq (.region id ops false) d) s e s' (some (f,fi++args.toList.map (evalD Γ t1)++ca)):=by
 intro O w0 l0 hh0 a w hs
 have hlen:ops.size=os.length+1:=by rw[←Array.length_toList,h0];simp
 have hrange:List.range ops.size=List.range' 0 os.length++[os.length]:=by rw[hlen,List.range_succ,List.range_eq_range']
 have ho0:ops[os.length]? = some o:=by rw[←Array.getElem?_toList,h0];simp
 refine wpIn_seq (wpIn_region ?_)
 rw[hrange]
 have hs2:St Γ {O:=O,w:=w0,l:=l0,h:=hh0} {t:=s.t,h:=s.h,m:=[]} a w:=by rw[←hm];exact hs
 refine runOpsX_wpK (r:=none) (X:={O:=O,w:=w0,l:=l0,h:=hh0}) hc (tail:=[os.length]) (fun _ a w hs=>?_) (fun c he=>by cases he) os 0 s.t s.h [o] (by simpa using h0) hr a w hs2
 obtain⟨l,R,E,rt,rd⟩:=hs
 have hdef:a.defers=[]:=rd
 simp only[wpOpsIn,ho0]
 have hw:Region.wanted o (yielded ops a.tmps)=true:=by unfold Region.wanted;rw[hg]
 rw[if_pos hw]
 obtain⟨a0,c0,e0,r1,r2⟩:=callee_sound (evalD_sound R rt fv) hcal
 refine⟨fun _ _=>trivial,?_⟩
 have e0':(FW none).round=none:=rfl
 rw[e0',Oper.semAt_none]
 have e1:(execOp a.eval o).run P w=.ok (.defer {target:=.fn (.func f) c0,args:=a0++args.map a.eval}) w:=by
  unfold execOp
  rw[ho]
  simp only[resolve,e0,Deferred.ofValue,Sem.run_bind,Sem.run_pure,Result.andThen_ok]
 rw[e1,Oper.uponIn_defer,hdst]
 simp only[Act.put,wpOpsIn,Exit.then]
 have hD:DefRel w O l h1 (f,fi++args.toList.map (evalD Γ t1)++ca) {target:=.fn (.func f) c0,args:=a0++args.map a.eval}:=by
  refine⟨_,_,rfl,?_⟩
  simp only[Array.toList_append]
  refine relL_append (relL_append r1 ?_) r2
  have:=relL_map R rt args.toList
  simpa using this
 refine wpIn_mono (hrest {O:=O,w:=w,l:=l,h:=h1,D:=[{target:=.fn (.func f) c0,args:=a0++args.map a.eval}]} none rfl (fun _=>rfl) _ w ⟨l,R,Ext.refl _ _ _,rt,by simp[DefOk,hdef]⟩) ?_
 rintro e1 a1 w1 ⟨k1,s1,⟨rfl,rfl⟩,k2⟩
 exact⟨rfl,k1,_,w,l,h1,E,hD,k2⟩
theorem CW.seq{h0:List Blk}{rd:Bool}{c d:Code}{s s1 s':AS}{e:Exit}(h1:CW P Γ h0 rd c s .normal s1)(h2:CW P Γ h0 rd d s1 e s'):CW P Γ h0 rd (.seq c d) s e s':=fun X r hX hr =>
 VW.seq ((h1 X r hX hr).mono fun e2 s2 hq=>by
  obtain⟨rfl,rfl⟩:=hq
  exact h2 X r hX hr)
theorem CW.out{h0:List Blk}{rd:Bool}{c d:Code}{s s':AS}{e:Exit}(he:e ≠ .normal)(h1:CW P Γ h0 rd c s e s'):CW P Γ h0 rd (.seq c d) s e s':=fun X r hX hr =>
 VW.seq ((h1 X r hX hr).mono fun e2 s2 hq=>by
  obtain⟨rfl,rfl⟩:=hq
  cases e2 with
  | normal=>exact absurd rfl he
  | _=>exact⟨rfl,rfl⟩)
theorem CW.regionX{h0:List Blk}{rd:Bool}{call:CallX}(hc:call.Ok P Γ){s:AS}{id:Nat}{ops:Array Oper}{e:Exit}{t':List D}{h':List Blk}
  (hr:runOpsX P Γ call s.m ops.toList ops.toList s.t s.h=some (e,t',h')):CW P Γ h0 rd (.region id ops false) s e {t:=t',h:=h',m:=s.m}:=fun _ _ _ _=>VW.regionX hc hr ⟨rfl,rfl⟩
end
def Shp(P:Program):Nat→TypeId→List Dp→Prop
 | 0,_,_=>False
 | n+1,t,ds=>match P.underlying t with
  | some .bool=>∃b,ds=[.v (.bool b)]
  | some (.int k)=>∃x,ds=[.v (.int k x)]∧(Lit.int k x).wf=true
  | some .string=>∃s,ds=[.v (.string s)]∧s.size≤reachBytes
  | some (.slice e)=>∃es,ds=[.sl es]∧es.length*P.bytesOf e≤reachBytes∧∀r∈es,Shp P n e r
  | some (.struct fs)=>ds.length=P.cellsOf t∧∀f∈fs.toList,Shp P n f.type ((ds.drop f.offset).take (P.cellsOf f.type))
  | _=>False
def contigB(P:Program):List Field→Nat→Nat→Bool
 | [],acc,total=>acc==total
 | f::fs,acc,total=>(f.offset==acc)&&contigB P fs (acc+P.cellsOf f.type) total
def plainB(P:Program)(ts:List TypeId):Bool:=ts.all fun t=>match P.underlying t with
 | some .bool|some (.int _)|some .string=>true
 | some (.slice e)=>ts.contains e&&Dd (0<P.cellsOf e)
 | some (.struct fs)=>contigB P fs.toList 0 (P.cellsOf t)&&fs.toList.all fun f=>ts.contains f.type
 | _=>false
def RelPL(w:World)(av:Nat→Prop):List Dp→List Value→Prop
 | [],[]=>True
 | d::ds,y::ys=>RelP w av d y∧RelPL w av ds ys
 | _,_=>False
section
variable {w:World} {av:Nat→Prop}
theorem RelPL.length:∀{ds:List Dp} {ys:List Value},RelPL w av ds ys→ds.length=ys.length
 | [],[],_=>rfl
 | _::_,_::_,h=>by simp[RelPL.length h.2]
 | [],_::_,h=>h.elim
 | _::_,[],h=>h.elim
theorem RelPL.append:∀{ds ds':List Dp} {ys ys':List Value},RelPL w av ds ys→RelPL w av ds' ys'→RelPL w av (ds++ds') (ys++ys')
 | [],_,[],_,_,h=>h
 | _::_,_,_::_,_,h,h'=>⟨h.1,RelPL.append h.2 h'⟩
 | [],_,_::_,_,h,_=>h.elim
 | _::_,_,[],_,h,_=>h.elim
theorem RelPL.relL{l:Loc}{h:List Blk}:∀{ds:List Dp} {ys:List Value},RelPL w av ds ys→RelL w av l h (ds.map .p) ys
 | [],[],_=>by simp[RelL]
 | _::_,_::_,r=>by simp only[List.map_cons,RelL,Rel];exact⟨r.1,RelPL.relL r.2⟩
 | [],_::_,h=>h.elim
 | _::_,[],h=>h.elim
theorem contig_le{P:Program}:∀{fs:List Field} {acc total:Nat},contigB P fs acc total=true→acc≤total∧∀f∈fs,acc≤f.offset
 | [],acc,total,h=>by simp only[contigB,beq_iff_eq] at h;exact⟨by omega,by simp⟩
 | f::fs,acc,total,h=>by
  simp only[contigB,Bool.and_eq_true,beq_iff_eq] at h
  obtain⟨h1,h2⟩:=contig_le h.2
  refine⟨by omega,fun g hg=>?_⟩
  rcases List.mem_cons.1 hg with rfl|hg
  ·omega
  ·have:=h2 g hg;omega
theorem contig_join{P:Program}{cs:List Value}{S:TypeId→List Dp→Prop}{total:Nat}(hc:cs.length=total):∀(fs:List Field) (acc:Nat),contigB P fs acc total=true →
  (∀f∈fs,∃ds,S f.type ds∧RelPL w av ds ((cs.drop f.offset).take (P.cellsOf f.type))) →
  ∃D,RelPL w av D (cs.drop acc)∧∀f∈fs,S f.type ((D.drop (f.offset - acc)).take (P.cellsOf f.type))
 | [],acc,h,_=>by
  simp only[contigB,beq_iff_eq] at h
  refine⟨[],?_,by simp⟩
  rw[List.drop_of_length_le (by omega)]
  trivial
 | f::fs,acc,h,hf=>by
  simp only[contigB,Bool.and_eq_true,beq_iff_eq] at h
  obtain⟨rfl,h⟩:=h
  obtain⟨ds,hs,hr⟩:=hf f (List.mem_cons_self ..)
  obtain⟨D,hD,hS⟩:=contig_join hc fs _ h (fun g hg=>hf g (List.mem_cons_of_mem _ hg))
  obtain⟨hle,hoff⟩:=contig_le h
  have hlen:ds.length=P.cellsOf f.type:=by
   have:=hr.length
   rw[this,List.length_take,List.length_drop]
   omega
  refine⟨ds++D,?_,fun g hg=>?_⟩
  ·have:=hr.append hD
   rw[←List.drop_drop,List.take_append_drop] at this
   exact this
  ·rcases List.mem_cons.1 hg with rfl|hg
   ·rw[Nat.sub_self,List.drop_zero,List.take_append_of_le_length (by omega),←hlen,List.take_length]
    exact hs
   ·have h1:=hoff g hg
    have hd:∀k,(ds++D).drop (ds.length+k)=D.drop k:=fun k=>by rw[List.drop_append];simp
    rw[show g.offset - f.offset=ds.length+(g.offset - (f.offset+P.cellsOf f.type)) by omega,hd]
    exact hS g hg
theorem relRows_of{blk c:Nat}:∀(es:List (List Dp)) (off:Nat),(∀i e,es[i]? = some e→e.length=c∧RelCells w av blk (off+i*c) e)→RelRows w av blk c off es
 | [],_,_=>trivial
 | e::es,off,h=>by
  obtain⟨h1,h2⟩:=h 0 e rfl
  refine⟨h1,by simpa using h2,relRows_of es (off+c) fun i e' he=>?_⟩
  obtain⟨h3,h4⟩:=h (i+1) e' (by simpa using he)
  refine⟨h3,?_⟩
  rw[show off+c+i*c=off+(i+1)*c by rw[Nat.add_mul];omega]
  exact h4
theorem relCells_of(hav:∀k,¬av k){blk:Nat}:∀(ds:List Dp) (ys:List Value) (off:Nat),RelPL w av ds ys→(∀(j:Nat) (y:Value),ys[j]? = some y→w.cell? ⟨blk,off+j,none⟩=some y)→RelCells w av blk off ds
 | [],_,_,_,_=>trivial
 | d::ds,[],_,r,_=>r.elim
 | d::ds,y::ys,off,r,hc=>by
  refine⟨⟨hav _,y,by simpa using hc 0 y rfl,r.1⟩,relCells_of hav ds ys (off+1) r.2 fun j z hz=>?_⟩
  have:=hc (j+1) z (by simpa using hz)
  rwa[show off+(j+1)=off+1+j by omega] at this
theorem cells_at{a:Addr}{n:Nat}{cs:List Value}(h:w.cells? 0 a n=some cs):cs.length=n∧∀(j:Nat) (y:Value),cs[j]? = some y→w.cell? (a.add j)=some y:=by
 obtain⟨h1,h2,h3⟩:=World.cells?_some h
 refine⟨h2,fun j y hy=>?_⟩
 have hj:j<n:=by rw[←h2];exact(List.getElem?_eq_some_iff.1 hy).1
 rw[h3 j hj,hy]
theorem weightsAll_mem{H:Type}{P:Program}{e:TypeId}{q:Nat→Bool}:∀{l:List (DataW H)},(DataW.weightsAll P e l).all q=true→∀d∈l,(d.weights P e).all q=true
 | [],_,d,hd=>by simp at hd
 | x::l,h,d,hd=>by
  simp only[DataW.weightsAll,List.all_append,Bool.and_eq_true] at h
  rcases List.mem_cons.1 hd with rfl|hd
  ·exact h.1
  ·exact weightsAll_mem h.2 d hd
theorem weightsEach_at{H:Type}{P:Program}{q:Nat→Bool}:∀{ts:List TypeId} {l:List (DataW H)},(DataW.weightsEach P ts l).all q=true→∀(i:Nat) (t:TypeId) (d:DataW H),ts[i]? = some t→l[i]? = some d→(d.weights P t).all q=true
 | [],_,_,i,t,d,ht,_=>by simp at ht
 | _::_,[],_,i,t,d,_,hd=>by simp at hd
 | t0::ts,x::l,h,i,t,d,ht,hd=>by
  simp only[DataW.weightsEach,List.all_append,Bool.and_eq_true] at h
  cases i with
  | zero=>simp at ht hd;subst ht;subst hd;exact h.1
  | succ i=>exact weightsEach_at h.2 i t d (by simpa using ht) (by simpa using hd)
end
section
variable {w:World} {av:Nat→Prop} {P:Program}
theorem plain_at{ts:List TypeId}(hts:plainB P ts=true){t:TypeId}(ht:t∈ts):(match P.underlying t with
 | some .bool|some (.int _)|some .string=>true
 | some (.slice e)=>ts.contains e&&Dd (0<P.cellsOf e)
 | some (.struct fs)=>contigB P fs.toList 0 (P.cellsOf t)&&fs.toList.all fun f=>ts.contains f.type
 | _=>false)=true:=List.all_eq_true.1 hts t ht
theorem open_plain{H:Type}{enc:TypeId×Value→H}{spare:Nat→Bool}{ts:List TypeId}(hts:plainB P ts=true)(hav:∀k,¬av k):
  ∀(fuel:Nat) (t:TypeId) (cs:List Value) (d:DataW H) (ps:List MemPlace),t∈ts→DataW.trod enc P w 0 spare true fuel t cs=some (d,ps)→(d.weights P t).all (· ≤ reachBytes)=true →
   ∃ds,Shp P fuel t ds∧RelPL w av ds cs:=by
 intro fuel
 induction fuel with
 | zero=>intro t cs d ps _ h;simp[DataW.trod] at h
 | succ n ih =>
  intro t cs d ps ht h hw
  have hp:=plain_at hts ht
  split at hp
  ·rename_i hu
   obtain⟨b,rfl,_⟩:=DataW.trod_bool hu h
   exact⟨[.v (.bool b)],by simp only[Shp,hu];exact⟨b,rfl⟩,by simp[RelPL,RelP]⟩
  ·rename_i k hu
   obtain⟨x,rfl,_,hwf⟩:=DataW.trod_int hu h
   exact⟨[.v (.int k x)],by simp only[Shp,hu];exact⟨x,rfl,hwf⟩,by simp[RelPL,RelP]⟩
  ·rename_i hu
   obtain⟨s,rfl,hx,_⟩:=DataW.trod_string hu h
   simp only[Prod.mk.injEq] at hx
   obtain⟨rfl,_⟩:=hx
   have hs:s.size≤reachBytes:=by
    simp only[DataW.weights,List.all_cons,List.all_nil,Bool.and_true,decide_eq_true_eq,Array.length_toList] at hw
    exact hw
   exact⟨[.v (.string s)],by simp only[Shp,hu];exact⟨s,rfl,hs⟩,by simp[RelPL,RelP]⟩
  ·rename_i e hu
   simp only[Bool.and_eq_true,decide_eq_true_eq,List.contains_iff_mem] at hp
   obtain⟨he,hpos⟩:=hp
   rcases DataW.trod_slice hu h with ⟨rfl,_⟩|⟨a,len,cap,elems,rest,m,hm,rfl,hx,_,hle,_,hlen,hel,_⟩
   ·refine⟨[.sl []],by simp only[Shp,hu];exact⟨[],rfl,by simp,by simp⟩,?_⟩
    simp only[RelPL,RelP,and_true]
    exact .inl ⟨trivial,none,0,rfl,fun _=>rfl⟩
   ·obtain rfl:n=m:=by omega
    simp only[Prod.mk.injEq] at hx
    obtain⟨rfl,_⟩:=hx
    simp only[DataW.weights,hu,List.all_cons,List.all_append,Bool.and_eq_true,decide_eq_true_eq,List.length_map] at hw
    obtain⟨hw1,hw2,_⟩:=hw
    have key:∀i,i<len→∃ds ys,Shp P n e ds∧RelPL w av ds ys∧w.cells? 0 (a.add (i*P.cellsOf e)) (P.cellsOf e)=some ys:=by
     intro i hi
     have h1:=hel i hi
     have h2:elems[i]? = some elems[i]:=List.getElem?_eq_getElem (by omega)
     generalize elems[i]=x at h2
     rw[h2] at h1
     obtain⟨ys,h3,h4⟩:=Option.bind_eq_some_iff.1 h1
     obtain⟨dx,px⟩:=x
     obtain⟨ds,h5,h6⟩:=ih e ys dx px he h4 (weightsAll_mem hw2 dx (List.mem_map.2 ⟨(dx,px),List.mem_of_getElem? h2,rfl⟩))
     exact⟨ds,ys,h5,h6,h3⟩
    obtain⟨f,hf⟩:∃f:Nat→List Dp,∀i,i<len→∃ys,Shp P n e (f i)∧RelPL w av (f i) ys∧w.cells? 0 (a.add (i*P.cellsOf e)) (P.cellsOf e)=some ys:=by
     classical
     refine⟨fun i=>if hi:i<len then Classical.choose (key i hi) else [],fun i hi=>?_⟩
     simp only[dif_pos hi]
     exact Classical.choose_spec (key i hi)
    refine⟨[.sl ((List.range len).map f)],?_,?_⟩
    ·simp only[Shp,hu]
     refine⟨_,rfl,?_,?_⟩
     ·simp only[List.length_map,List.length_range]
      have:len*P.bytesOf e≤(elems.length+rest.length)*P.bytesOf e:=Nat.mul_le_mul_right _ (by omega)
      omega
     ·intro r hr
      obtain⟨i,hi,rfl⟩:=List.mem_map.1 hr
      obtain⟨ys,h1,_⟩:=hf i (by simpa using hi)
      exact h1
    ·simp only[RelPL,RelP,and_true]
     by_cases h0:len=0
     ·subst h0
      exact .inl ⟨by simp,some a,cap,rfl,by simp⟩
     ·have hsp:a.spot=none:=by
       obtain⟨ys,_,_,h3⟩:=hf 0 (by omega)
       obtain⟨h4,h5⟩:=cells_at h3
       have h6:ys[0]? = some ys[0]:=List.getElem?_eq_getElem (by omega)
       have h7:=h5 0 _ h6
       simp only[Nat.zero_mul,Addr.add,if_true] at h7
       unfold World.cell? at h7
       split at h7
       ·split at h7
        ·simp at h7
        ·rename_i hns
         cases hs:a.spot with
         | none=>rfl
         | some _=>simp[hs] at hns
       ·simp at h7
      obtain⟨blk,off,sp⟩:=a
      simp only at hsp
      subst hsp
      refine .inr ⟨blk,off,cap,P.cellsOf e,by simp,by simpa using hle,relRows_of _ _ fun i r hr=>?_⟩
      simp only[List.getElem?_map,Option.map_eq_some_iff] at hr
      obtain⟨j,hj,rfl⟩:=hr
      rw[List.getElem?_eq_some_iff] at hj
      obtain⟨hj1,hj2⟩:=hj
      simp only[List.getElem_range] at hj2
      subst hj2
      obtain⟨ys,h1,h2,h3⟩:=hf i (by simpa using hj1)
      obtain⟨h4,h5⟩:=cells_at h3
      refine⟨by rw[h2.length,h4],relCells_of hav _ _ _ h2 fun k y hy=>?_⟩
      have:=h5 k y hy
      have e1:(((⟨blk,off,none⟩:Addr).add (i*P.cellsOf e)).add k)=⟨blk,off+i*P.cellsOf e+k,none⟩:=by
       rw[addr_add,addr_add]
      rwa[e1] at this
  ·rename_i fs hu
   simp only[Bool.and_eq_true,List.all_eq_true,List.contains_iff_mem] at hp
   obtain⟨hc,hfs⟩:=hp
   obtain⟨xs,m,hm,hx,hlen,hxs,hel⟩:=DataW.trod_struct hu h
   obtain rfl:n=m:=by omega
   simp only[Prod.mk.injEq] at hx
   obtain⟨rfl,_⟩:=hx
   simp only[DataW.weights,hu] at hw
   have key:∀f∈fs.toList,∃ds,Shp P n f.type ds∧RelPL w av ds ((cs.drop f.offset).take (P.cellsOf f.type)):=by
    intro f hf
    obtain⟨i,hi⟩:=List.mem_iff_getElem?.1 hf
    have hi':fs[i]? = some f:=by rw[←Array.getElem?_toList];exact hi
    have hil:i<xs.length:=by
     rw[hxs]
     have:=(Array.getElem?_eq_some_iff.1 hi').1
     exact this
    have h1:=hel i f hi'
    have h2:xs[i]? = some xs[i]:=List.getElem?_eq_getElem hil
    generalize xs[i]=x at h2
    rw[h2] at h1
    obtain⟨dx,px⟩:=x
    exact ih f.type _ dx px (hfs f hf) h1 (weightsEach_at hw i f.type dx (by simp[hi]) (by simp[h2]))
   obtain⟨D,hD,hS⟩:=contig_join hlen fs.toList 0 hc key
   rw[List.drop_zero] at hD
   refine⟨D,?_,hD⟩
   simp only[Shp,hu]
   refine⟨by rw[hD.length,hlen],fun f hf=>?_⟩
   have:=hS f hf
   rwa[Nat.sub_zero] at this
  ·simp at hp
end
theorem rep_start(_P:Program)(w:World):Rep (fun _=>none) (fun _=>False) w (fun _=>none) [] :=
 ⟨fun blk ho=>absurd ho own_nil,fun blk ho=>ho.elim,fun b b' x x' k c c' hb=>by simp at hb,fun b x hb=>by simp at hb,fun g cs hg=>by simp at hg⟩
theorem av_start(k:Nat):¬avs (fun _=>False) (fun _=>none) [] k:=fun ho=>ho.elim id (fun h=>absurd h own_nil)
theorem ev_calls{P:Program}{f:FuncId}{args:List D}{d:D}{W:World}{vs:List Value}(he:Ev P (fun _=>none) f args [] d [])(hr:RelL W (avs (fun _=>False) (fun _=>none) []) (fun _=>none) [] args vs):
  Calls P f vs.toArray W fun e W'=>∃v,e=.returned v∧Rel W' (fun _=>False) (fun _=>none) [] d v∧Go.RowKit.Below W.heap.size W W':=by
 have h1:=he (fun _=>False) W (fun _=>none) vs (rep_start P W) hr
 refine(callsIn_wide (n:=0)).1 (CallsIn.mono (h1:CallsIn (FW none) 0 P f _ W _) ?_)
 rintro e W' ⟨v,d2,h2,l',rfl,⟨rfl,rfl⟩,R',E',rd⟩
 refine⟨v,rfl,Rel.mono (fun blk off y hn hc=>⟨hc,fun h=>h.elim⟩) (fun b x hb=>by simp at hb) d2 v rd,?_⟩
 exact⟨E'.tape.2.1,E'.tape.1,E'.tape.2.2.1,E'.size,fun k hk=>E'.same k hk own_nil⟩
open Go Go.RowKit Go.ChangeShapes Go.WideShapes
section
variable {H:Type} {enc:TypeId×Value→H} {P:Program}
theorem trodAll_below(hl:laidOutB P=true){W W':World}(hb:Below W.heap.size W W'):∀{ts:List TypeId} {vs:List Value} {ds:List (DataW H)} {ps:List MemPlace},
  (ts.all fun t=>P.readableRec t&&Dd (t<P.types.size))=true→DataW.TrodAll enc P W 0 (fun _=>true) true ts vs ds ps→(∀x∈ps,x.block<W.heap.size) →
  DataW.TrodAll enc P W' 0 (fun b=>Dd (b<W.heap.size)) true ts vs ds ps
 | [],vs,ds,ps,_,h,_=>by
  obtain⟨rfl,rfl,rfl⟩:=trodAll_nil h
  rfl
 | t::ts,vs,ds,ps,ht,h,hps=>by
  obtain⟨v,vs',d,ds',p,q,rfl,rfl,rfl,h1,h2⟩:=trodAll_cons h
  simp only[List.all_cons,Bool.and_eq_true,decide_eq_true_eq] at ht
  refine⟨p,q,Below.trod hl ht.1.1 ht.1.2 h1 hb (fun x hx=>hps x (List.mem_append_left _ hx)),trodAll_below hl hb (by simpa using ht.2) h2 (fun x hx=>hps x (List.mem_append_right _ hx)),rfl⟩
theorem post_true{f:Func}{s:ChangeSpec}{apart:Bool}{W W':World}{args:Array Value}{ds gs:List (DataW H)}{before:List MemPlace}{b:TypeId}
  (hl:laidOutB P=true) (hp:(f.params.toList.all fun t=>P.readableRec t&&Dd (t<P.types.size))=true) (hv:s.vars=[]) (hr:f.resultTypes=#[b]) (hbt:P.underlying b=some .bool)
  (hW:DataW.Whole enc P f.params.toList s.vars apart W args.toList ds gs before) (hs:s.fn H ds={results:=[.lit (.bool true)],args:=ds}) (hb:Below W.heap.size W W') :
  s.post enc P f apart true false false W args (.bool true) W':=by
 have hW':=hW
 have hlt:=hW.lt
 obtain⟨p,q,hA,hV,rfl,_,_⟩:=hW
 rw[hv] at hV
 obtain⟨rfl,rfl⟩:=trodVars_none hV
 refine⟨ds,[],p++[],[],p,[],hW',?_,?_,?_,hb.frame _,fun h=>by cases h⟩
 ·simp only[List.append_nil,hs,hr,Value.resultList]
  exact⟨[],[],⟨1,by simp[DataW.trod,Value.cells,hbt]⟩,rfl,rfl⟩
 ·simp only[List.append_nil,hs]
  exact trodAll_below hl hb hp hA (fun x hx=>hlt x (by simpa using hx))
 ·simp only[List.append_nil,hs,hv]
  rfl
end
end Go.Vi
