/- LedgerLast: part of the proof: an evaluator of the model's programs on abstract values, and its soundness. No conditions beyond the given statement's own. -/
import Derived.Test.YtoincdhjcahadaaGreatDoorV7
import Derived.ChangeArms
import Derived.OpenShut
import Derived.Below
import Derived.Carry
open Decidable renaming decide → Dd
namespace Go.Vi
open Go
theorem Ev.castH{P:Program}{Γ:Glob}{f:FuncId}{args:List D}{h h' h2:List Blk}{d d2:D}(he:Ev P Γ f args h d h')(hd:d=d2)(hh:h'=h2):Ev P Γ f args h d2 h2:=hd▸hh▸he
theorem CW.cast{P:Program}{Γ:Glob}{h0:List Blk}{rd:Bool}{c:Code}{s s' s2:AS}{e e2:Exit}(hw:CW P Γ h0 rd c s e s')(he:e=e2)(hs:s'=s2):CW P Γ h0 rd c s e2 s2:=he▸hs▸hw
def forL{α σ ρ:Type}(f:α→σ→σ⊕ρ):List α→σ→σ⊕ρ
 | [],s=>.inl s
 | a::l,s=>match f a s with
  | .inl s'=>forL f l s'
  | .inr r=>.inr r
def eachFin{σ ρ:Type}(eE:Exit)(sE:σ→AS)(fin:ρ→Exit×AS):σ⊕ρ→Exit×AS
 | .inl s=>(eE,sE s)
 | .inr r=>fin r
def bodyFin{σ ρ:Type}(st:σ→AS)(fin:ρ→Exit×AS):σ⊕ρ→Exit×AS
 | .inl s=>(.normal,st s)
 | .inr r=>fin r
theorem CW.each{P:Program}{Γ:Glob}{h0:List Blk}{rd:Bool}{c:Code}{α σ ρ:Type}(l:List α)(f:α→σ→σ⊕ρ)(st:Nat→σ→AS)(eE:Exit)(sE:σ→AS)(fin:ρ→Exit×AS)
  (inv:Nat→σ→Prop) (hE:eE ≠ .normal) (hF:∀r,(fin r).1 ≠ .normal)
  (body:∀i a s,l[i]? = some a→inv i s→(∀s',f a s=.inl s'→inv (i+1) s')∧CW P Γ h0 rd c (st i s) (bodyFin (st (i+1)) fin (f a s)).1 (bodyFin (st (i+1)) fin (f a s)).2)
  (last:∀s,inv l.length s→CW P Γ h0 rd c (st l.length s) eE (sE s)) (s:σ) (h:inv 0 s) :
  CW P Γ h0 rd (.loop c) (st 0 s) (eachFin eE sE fin (forL f l s)).1 (eachFin eE sE fin (forL f l s)).2:=by
 refine CW.loop (ι:={p:Nat×σ // p.1≤l.length∧inv p.1 p.2}) (fun p=>st p.1.1 p.1.2) (fun p=>eachFin eE sE fin (forL f (l.drop p.1.1) p.1.2)) (fun p=>l.length - p.1.1) ?_ ⟨(0,s),Nat.zero_le _,h⟩
 rintro⟨⟨i,s⟩,hi,hv⟩
 simp only at hi hv ⊢
 by_cases hlt:i<l.length
 ·have ha:l[i]? = some l[i]:=List.getElem?_eq_getElem hlt
  have hd:l.drop i=l[i]::l.drop (i+1):=List.drop_eq_getElem_cons hlt
  obtain⟨b1,b2⟩:=body i _ s ha hv
  rw[hd]
  simp only[forL]
  cases hf:f l[i] s with
  | inl s' =>
   rw[hf] at b2
   exact .inl ⟨⟨(i+1,s'),hlt,b1 _ hf⟩,by simp only;omega,rfl,b2⟩
  | inr r =>
   rw[hf] at b2
   exact .inr ⟨hF r,b2⟩
 ·have:i=l.length:=by omega
  subst this
  rw[List.drop_length]
  exact .inr ⟨hE,last s hv⟩
def rfAsg:Code→Code
 | .rangeFunc _ _ a _=>a
 | _=>.skip
def rfBody:Code→Code
 | .rangeFunc _ _ _ b=>b
 | _=>.skip
theorem Iv.round{P:Program}{Γ:Glob}{b:Nat}{args:List D}{h h1 h':List Blk}{pend:Option Code}{f:FuncId}{ts:List D}{ps:Array Tmp}{asg body:Code}{t1:List D}{p1:Option Code}{f1:FuncId}{ts1:List D}{ps1:Array Tmp}
  {a1 b1:Code} {e2:Exit} {s2:AS} {d:D} (hb:h[b]? = some (.loop .ready pend f ts ps asg body)) (hlen:args.length=ps.size)
  (hasg:CW P Γ h true asg {t:=setAll ts (ps.toList.zip args),h:=h,m:=[]} .normal {t:=t1,h:=h1,m:=[]})
  (hb1:h1[b]? = some (.loop .ready p1 f1 ts1 ps1 a1 b1))
  (hbody:CW P Γ h true body {t:=t1,h:=h1.set b (.loop .busy p1 0 ts1 ps1 a1 b1),m:=[]} e2 s2)
  (hend:roundEnd b e2 s2=some (d,h')):Iv P Γ (.ref (.yl b)) args h d h' :=
 round_sound hb hlen (fun X r hX=>hasg X r hX (fun h=>by cases h)) hb1 (fun X r hX=>hbody X r hX (fun h=>by cases h)) hend
theorem CW.rangeFunc{P:Program}{Γ:Glob}(ok:POk P){h0:List Blk}{s s':AS}{g:Operand}{ps:Array Tmp}{asg body:Code}{f:FuncId}{fi ca:List D}{d:D}{h2:List Blk}{e:Exit}(hg:calleeD (evalD Γ s.t g)=some (f,fi,ca))(hf:funOk P f=true)
  (hc:Ev P Γ f (fi++[.ref (.yl (s.h.length+1))]++ca) (s.h++[.defd]++[.loop .ready none 0 s.t ps asg body]) d h2)
  (he:loopEnd s.h.length s.t s.m h2=some (e,s')):CW P Γ h0 false (.rangeFunc g ps asg body) s e s':=by
 intro X r _ hr
 obtain rfl:=hr rfl
 exact VW.rangeFunc ok hg hf (hc.mono fun _ _ hq=>hq.2) he
def Ref.to(n:Nat):Ref→Ref
 | .ptr _ o=>.ptr n o
 | .vec _ e=>.vec n e
 | .vs _ e i k c=>.vs n e i k c
 | .av _ o k s=>.av n o k s
 | .vp _ e i j=>.vp n e i j
 | .mp _=>.mp n
 | .it _=>.it n
 | .yl _=>.yl n
def idx(x:Nat):Nat→List Nat→Option Nat
 | _,[]=>none
 | k,y::ys=>match x==y with
  | true=>some k
  | false=>idx x (k+1) ys
theorem idx_some{x:Nat}:∀{ys:List Nat} {k i:Nat},idx x k ys=some i→k≤i∧ys[i - k]? = some x
 | [],k,i,h=>by simp[idx] at h
 | y::ys,k,i,h=>by
  unfold idx at h
  split at h
  ·rename_i e
   simp only[Option.some.injEq] at h
   subst h
   simp only[beq_iff_eq] at e
   subst e
   simp
  ·obtain⟨h1,h2⟩:=idx_some h
   refine⟨by omega,?_⟩
   rw[show i - k=(i - (k+1))+1 by omega,List.getElem?_cons_succ]
   exact h2
theorem idx_none{x:Nat}:∀{ys:List Nat} {k:Nat},idx x k ys=none→x ∉ ys
 | [],k,_=>by simp
 | y::ys,k,h=>by
  unfold idx at h
  split at h
  ·simp at h
  ·rename_i e
   simp only[beq_eq_false_iff_ne,ne_eq] at e
   simp[e,idx_none h]
theorem idx_at{x:Nat}{ys:List Nat}{i:Nat}(hn:ys.Nodup)(h:ys[i]? = some x):idx x 0 ys=some i:=by
 cases hi:idx x 0 ys with
 | none=>exact absurd (List.mem_of_getElem? h) (idx_none hi)
 | some j =>
  obtain⟨_,h2⟩:=idx_some hi
  simp only[Nat.sub_zero] at h2
  have hj:=(List.getElem?_eq_some_iff.1 h2).1
  have hi':=(List.getElem?_eq_some_iff.1 h).1
  rw[List.getElem?_eq_getElem hj] at h2
  rw[List.getElem?_eq_getElem hi'] at h
  have:ys[j]=ys[i]:=by simp only[Option.some.injEq] at h h2;rw[h,h2]
  rw[(List.getElem_inj hn).1 this]
def inv(is:List Nat)(r:Ref):D:=match idx r.blk 0 is with
 | some i=>.ref (r.to i)
 | none=>.any
def fwd(is:List Nat)(m:Nat)(r:Ref):D:=match is[r.blk]? with
 | some i=>.ref (r.to i)
 | none=>.ref (r.to (m+(r.blk - is.length)))
def isMit:Blk→Bool
 | .mit ..=>true
 | _=>false
section
variable {w:World} {av av':Nat→Prop} {l l':Loc} {h h':List Blk} {f:Ref→D}
mutual
theorem rel_mapR2(ha:∀k,av' k→av k)(hf:∀r y,RefRel l h r y→Rel w av' l' h' (f r) y):∀{d:D} {y:Value},Rel w av l h d y→Rel w av' l' h' (D.mapR f d) y
 | .p _,_,r=>by simp only[Rel,D.mapR] at r ⊢;exact relP_take ha r
 | .any,_,_=>by simp[Rel,D.mapR]
 | .ref r,y,rr=>by simp only[D.mapR];exact hf r y (by simpa only [Rel] using rr)
 | .ep _,_,r=>by
  simp only[Rel,D.mapR] at r ⊢
  obtain⟨blk,off,r1,r2⟩:=r
  exact⟨blk,off,r1,relCells_take ha r2⟩
 | .csl _,_,r=>by
  simp only[Rel,D.mapR] at r ⊢
  rcases r with r|⟨blk,off,sz,r1,r2⟩
  ·exact .inl r
  ·exact .inr ⟨blk,off,sz,r1,relRows_take ha r2⟩
 | .fn _ _ _,_,r=>by
  simp only[Rel,D.mapR] at r ⊢
  obtain⟨a,c,r1,r2,r3⟩:=r
  exact⟨a,c,r1,relL_mapR2 ha hf r2,relL_mapR2 ha hf r3⟩
 | .agg _,_,r=>by
  simp only[Rel,D.mapR] at r ⊢
  obtain⟨vs,r1,r2⟩:=r
  exact⟨vs,r1,relL_mapR2 ha hf r2⟩
 | .tup _,_,r=>by
  simp only[Rel,D.mapR] at r ⊢
  obtain⟨vs,r1,r2⟩:=r
  exact⟨vs,r1,relL_mapR2 ha hf r2⟩
 | .grd _ _,_,r=>by
  simp only[Rel,D.mapR] at r ⊢
  exact⟨fun hg=>rel_mapR2 ha hf (r.1 hg),r.2⟩
theorem relL_mapR2(ha:∀k,av' k→av k)(hf:∀r y,RefRel l h r y→Rel w av' l' h' (f r) y):∀{ds:List D} {ys:List Value},RelL w av l h ds ys→RelL w av' l' h' (D.mapRL f ds) ys
 | [],[],_=>by simp[RelL,D.mapRL]
 | [],_::_,r=>by simp[RelL] at r
 | _::_,[],r=>by simp[RelL] at r
 | _::_,_::_,r=>by
  simp only[RelL,D.mapRL] at r ⊢
  exact⟨rel_mapR2 ha hf r.1,relL_mapR2 ha hf r.2⟩
end
theorem relKV_mapR2(ha:∀k,av' k→av k)(hf:∀r y,RefRel l h r y→Rel w av' l' h' (f r) y):∀{kvs:List (D×D×Nat)} {es:List MapEntry},RelKV w av l h kvs es →
  RelKV w av' l' h' (kvs.map fun e=>(D.mapR f e.1,D.mapR f e.2.1,e.2.2)) es
 | [],[],_=>by simp[RelKV]
 | [],_::_,r=>by simp[RelKV] at r
 | _::_,[],r=>by simp[RelKV] at r
 | (k,d,m)::kvs,e::es,r=>by
  simp only[RelKV,List.map_cons] at r ⊢
  exact⟨rel_mapR2 ha hf r.1,rel_mapR2 ha hf r.2.1,r.2.2.1,relKV_mapR2 ha hf r.2.2.2⟩
theorem blkOk_mapR2(ha:∀k,av' k→av k)(hf:∀r y,RefRel l h r y→Rel w av' l' h' (f r) y){b b':Nat}(hl:l' b'=l b){x:Blk}(hm:isMit x=false)(r:BlkOk w av l h b x):BlkOk w av' l' h' b' (x.mapR f):=by
 cases x with
 | var cs =>
  obtain⟨blk,cp,c,T,r1,r2,r3⟩:=r
  exact⟨blk,cp,c,T,hl.trans r1,r2,relL_mapR2 ha hf r3⟩
 | vec es e sz =>
  unfold BlkOk at r ⊢
  simp only[Blk.mapR,hl] at r ⊢
  split
  ·rename_i h0;rw[h0] at r;simp only at r;rw[r];rfl
  ·rename_i blk cap h0
   rw[h0] at r
   obtain⟨oo,cc,rc,c,T,fr,ys,r1,r2,r3,r4,r5,r6,r7⟩:=r
   refine⟨oo,cc,rc,c,T,fr,ys,r1,r2,by simpa using r3,r4,?_,?_,r7⟩
   ·intro e he
    obtain⟨e0,he0,rfl⟩:=List.mem_map.1 he
    rw[mapRL_length];exact r5 e0 he0
   ·rw[←mapRL_flatten];exact relL_mapR2 ha hf r6
 | map kvs clock =>
  obtain⟨blk,cp,es,r1,r2,r3⟩:=r
  exact⟨blk,cp,es,hl.trans r1,r2,relKV_mapR2 ha hf r3⟩
 | sit s pos =>
  obtain⟨blk,cp,r1,r2⟩:=r
  exact⟨blk,cp,hl.trans r1,r2⟩
 | mit m since seen st=>simp[isMit] at hm
 | loop st pend fn tmps params asg body =>
  obtain⟨blk,cp,ts,dr,fn',r1,r2,r3⟩:=r
  exact⟨blk,cp,ts,dr,fn',hl.trans r1,r2,relL_mapR2 ha hf r3⟩
 | defd =>
  obtain⟨blk,cp,r1,r2⟩:=r
  exact⟨blk,cp,hl.trans r1,r2⟩
 | gone=>trivial
end
theorem isMit_mapR{f:Ref→D}(x:Blk):isMit (x.mapR f)=isMit x:=by cases x<;>rfl
theorem le_mapR2{f g:Ref→D}{x y:Blk}(h:(x.mapR f).le y):x.le (y.mapR g)∧(x.stays (y.mapR g)→(x.mapR f).stays y):=by
 cases x<;>cases y<;>simp only[Blk.le,Blk.mapR] at h<;>simp_all[Blk.le,Blk.mapR,Blk.stays]
theorem refRel_to{l l':Loc}{h h':List Blk}{f:Ref→D}{r:Ref}{n:Nat}{x:Blk}{y:Value}(hx:h[r.blk]? = some x)(hx':h'[n]? = some (x.mapR f))(hl:l' n=l r.blk)(rr:RefRel l h r y):RefRel l' h' (r.to n) y:=by
 unfold RefRel at rr ⊢
 refine⟨rr.1,?_⟩
 have rr:=rr.2
 cases r<;>simp only[Ref.blk] at hx hl<;>simp only[hx] at rr<;>simp only[Ref.to,hx',hl]<;>cases x<;>simp[Blk.mapR] at rr ⊢ <;> exact rr
theorem refRel_some{l:Loc}{h:List Blk}{r:Ref}{y:Value}(rr:RefRel l h r y):∃x,h[r.blk]? = some x:=by
 unfold RefRel at rr
 have rr:=rr.2
 cases hx:h[r.blk]? with
 | some x=>exact⟨x,rfl⟩
 | none=>cases r<;>simp only[Ref.blk] at hx<;>simp only[hx] at rr
def pick(is:List Nat)(H:List Blk):List Blk:=is.map fun i=>(H.getD i .gone).mapR (inv is)
theorem pick_get{is:List Nat}{H:List Blk}{b:Nat}{x:Blk}(h:(pick is H)[b]? = some x):∃i,is[b]? = some i∧x=(H.getD i .gone).mapR (inv is):=by
 unfold pick at h
 rw[List.getElem?_map] at h
 cases hi:is[b]? with
 | none=>rw[hi] at h;simp at h
 | some i=>rw[hi] at h;exact⟨i,rfl,by simpa using h.symm⟩
section
variable {Γ:Glob} {O:Nat→Prop} {w:World} {l:Loc} {H:List Blk} {is:List Nat}
def locP(is:List Nat)(l:Loc):Loc:=fun b=>match is[b]? with
 | some i=>l i
 | none=>none
theorem own_pick{k:Nat}(ho:own (locP is l) (pick is H) k):∃(b i cp:Nat) (x:Blk),is[b]? = some i∧H[i]? = some x∧x ≠ .gone∧l i=some (k,cp):=by
 obtain⟨b,x,cp,h1,h2,h3⟩:=ho
 obtain⟨i,hi,rfl⟩:=pick_get h1
 unfold locP at h3
 rw[hi] at h3
 have hg:H.getD i .gone ≠ .gone:=fun e=>h2 (by rw[e];rfl)
 refine⟨b,i,cp,H.getD i .gone,hi,?_,hg,h3⟩
 cases hx:H[i]? with
 | none=>simp[List.getD,hx] at hg
 | some x=>simp[List.getD,hx]
theorem own_of_pick{k:Nat}(ho:own (locP is l) (pick is H) k):own l H k:=by
 obtain⟨b,i,cp,x,_,h2,h3,h4⟩:=own_pick ho
 exact⟨i,x,cp,h2,h3,h4⟩
theorem refRel_inv(hn:is.Nodup){r:Ref}{y:Value}(rr:RefRel l H r y){av:Nat→Prop}:Rel w av (locP is l) (pick is H) (inv is r) y:=by
 unfold inv
 cases hi:idx r.blk 0 is with
 | none=>simp[Rel]
 | some i =>
  obtain⟨_,h2⟩:=idx_some hi
  simp only[Nat.sub_zero] at h2
  obtain⟨x,hx⟩:=refRel_some rr
  simp only[Rel]
  refine refRel_to (f:=inv is) hx ?_ ?_ rr
  ·unfold pick
   rw[List.getElem?_map,h2]
   simp[List.getD,hx]
  ·unfold locP
   rw[h2]
theorem Rep.pick(R:Rep Γ O w l H)(hn:is.Nodup)(hm:(pick is H).all (fun x=>!isMit x)=true){O':Nat→Prop}(hO:∀k,avs O' (locP is l) (Vi.pick is H) k→avs O l H k)(hO2:∀k,O' k→avs O l H k∧¬own (locP is l) (Vi.pick is H) k):
  Rep Γ O' w (locP is l) (Vi.pick is H) where
 inb k ho:=⟨(R.inb k (own_of_pick ho)).1,fun h'=>(hO2 k h').2 ho⟩
 obd k ho:=by
  rcases(hO2 k ho).1 with h'|h'
  ·exact R.obd k h'
  ·exact(R.inb k h').1
 inj b b' x x' k c c' h1 h2 h3 h4 h5 h6:=by
  obtain⟨i,hi,rfl⟩:=pick_get h1
  obtain⟨i',hi',rfl⟩:=pick_get h3
  unfold locP at h5 h6
  rw[hi] at h5;rw[hi'] at h6
  have g1:H.getD i .gone ≠ .gone:=fun e=>h2 (by rw[e];rfl)
  have g2:H.getD i' .gone ≠ .gone:=fun e=>h4 (by rw[e];rfl)
  have e1:H[i]? = some (H.getD i .gone):=by
   cases hx:H[i]? with
   | none=>simp[List.getD,hx] at g1
   | some x=>simp[List.getD,hx]
  have e2:H[i']? = some (H.getD i' .gone):=by
   cases hx:H[i']? with
   | none=>simp[List.getD,hx] at g2
   | some x=>simp[List.getD,hx]
  have:=R.inj i i' _ _ k c c' e1 g1 e2 g2 h5 h6
  subst this
  have a1:=idx_at hn hi
  have a2:=idx_at hn hi'
  rw[a1] at a2
  exact Option.some.inj a2
 blk b x h1:=by
  obtain⟨i,hi,rfl⟩:=pick_get h1
  cases hx:H[i]? with
  | none=>simp[List.getD,hx,Blk.mapR,BlkOk]
  | some x =>
   have hg:H.getD i .gone=x:=by simp[List.getD,hx]
   rw[hg] at h1 ⊢
   refine blkOk_mapR2 hO (fun r y rr=>refRel_inv hn rr) (b:=i) ?_ ?_ (R.blk i x hx)
   ·unfold locP;rw[hi]
   ·have:=List.all_eq_true.1 hm _ (List.mem_of_getElem? h1)
    rw[isMit_mapR] at this
    simpa using this
 glo g cs hg:=relCells_take hO (R.glo g cs hg)
end
def spread(is:List Nat)(m:Nat)(h':List Blk):Nat→List Blk→List Blk
 | _,[]=>[]
 | b,x::xs=>(match idx b 0 is with
  | some i=>(h'.getD i .gone).mapR (fwd is m)
  | none=>x)::spread is m h' (b+1) xs
def putB(is:List Nat)(h':List Blk)(H:List Blk):List Blk:=spread is H.length h' 0 H++(h'.drop is.length).map (Blk.mapR (fwd is H.length))
theorem spread_length{is:List Nat}{m:Nat}{h':List Blk}:∀(b:Nat) (xs:List Blk),(spread is m h' b xs).length=xs.length
 | _,[]=>rfl
 | b,x::xs=>by simp[spread,spread_length (b+1) xs]
theorem spread_get{is:List Nat}{m:Nat}{h':List Blk}:∀(b:Nat) (xs:List Blk) (j:Nat),(spread is m h' b xs)[j]? = (xs[j]?).map fun x=>match idx (b+j) 0 is with|some i=>(h'.getD i .gone).mapR (fwd is m)|none=>x
 | b,[],j=>by simp[spread]
 | b,x::xs,0=>by simp[spread]
 | b,x::xs,j+1=>by
  simp only[spread,List.getElem?_cons_succ]
  rw[spread_get (b+1) xs j,show b+1+j=b+(j+1) by omega]
section
variable {is:List Nat} {h' H:List Blk}
theorem putB_old{b:Nat}{x:Blk}(hx:H[b]? = some x)(hi:idx b 0 is=none):(putB is h' H)[b]? = some x:=by
 have hlt:=(List.getElem?_eq_some_iff.1 hx).1
 unfold putB
 rw[List.getElem?_append_left (by rw[spread_length];exact hlt),spread_get,hx]
 simp[hi]
theorem putB_is{b i:Nat}{x:Blk}(hx:H[b]? = some x)(hi:idx b 0 is=some i):(putB is h' H)[b]? = some ((h'.getD i .gone).mapR (fwd is H.length)):=by
 have hlt:=(List.getElem?_eq_some_iff.1 hx).1
 unfold putB
 rw[List.getElem?_append_left (by rw[spread_length];exact hlt),spread_get,hx]
 simp[hi]
theorem putB_new{j:Nat}:(putB is h' H)[H.length+j]? = (h'[is.length+j]?).map (Blk.mapR (fwd is H.length)):=by
 unfold putB
 rw[List.getElem?_append_right (by rw[spread_length];omega),spread_length,List.getElem?_map,List.getElem?_drop]
 simp
theorem putB_cases{b:Nat}{x:Blk}(h:(putB is h' H)[b]? = some x):
  (idx b 0 is=none∧H[b]? = some x)∨(∃i,b<H.length∧idx b 0 is=some i∧x=(h'.getD i .gone).mapR (fwd is H.length))∨∃j y,b=H.length+j∧h'[is.length+j]? = some y∧x=y.mapR (fwd is H.length):=by
 by_cases hb:b<H.length
 ·have hx:H[b]? = some H[b]:=List.getElem?_eq_getElem hb
  cases hi:idx b 0 is with
  | none=>rw[putB_old hx hi] at h;cases h;exact .inl ⟨rfl,hx⟩
  | some i=>rw[putB_is hx hi] at h;cases h;exact .inr (.inl ⟨i,hb,rfl,rfl⟩)
 ·obtain⟨j,rfl⟩:∃j,b=H.length+j:=⟨b - H.length,by omega⟩
  rw[putB_new] at h
  cases hy:h'[is.length+j]? with
  | none=>rw[hy] at h;simp at h
  | some y=>rw[hy] at h;exact .inr (.inr ⟨j,y,rfl,hy,by simpa using h.symm⟩)
end
def locB(is:List Nat)(m:Nat)(l l0:Loc):Loc:=fun b=>match idx b 0 is with
 | some i=>l0 i
 | none=>match Dd (b<m) with
  | true=>l b
  | false=>l0 (is.length+(b - m))
theorem Ev.frame{P:Program}{Γ:Glob}{f:FuncId}{args0 args:List D}{h0 h0' H:List Blk}{d0:D}(is:List Nat)(he:Ev P Γ f args0 h0 d0 h0')(hn:is.Nodup)(hb:∀i∈is,i<H.length)
  (ha:D.mapRL (inv is) args=args0) (hh:pick is H=h0) (hm:(h0.all (fun x=>!isMit x)&&h0'.all (fun x=>!isMit x))=true) :
  Ev P Γ f args H (d0.mapR (fwd is H.length)) (putB is h0' H):=by
 simp only[Bool.and_eq_true] at hm
 subst hh ha
 intro O w l vs R ra
 let O':Nat→Prop:=fun k=>avs O l H k∧¬own (locP is l) (pick is H) k
 have hO1:∀k,avs O' (locP is l) (pick is H) k→avs O l H k:=fun k ho=>ho.elim (·.1) (fun h=>.inr (own_of_pick h))
 have hO2:∀k,avs O l H k→avs O' (locP is l) (pick is H) k:=fun k ho=>by
  by_cases h:own (locP is l) (pick is H) k
  ·exact .inr h
  ·exact .inl ⟨ho,h⟩
 have R0:Rep Γ O' w (locP is l) (pick is H):=R.pick hn hm.1 hO1 (fun k h=>h)
 have ra0:RelL w (avs O' (locP is l) (pick is H)) (locP is l) (pick is H) (D.mapRL (inv is) args) vs:=relL_mapR2 hO1 (fun r y rr=>refRel_inv hn rr) ra
 refine CallsIn.mono (he O' w (locP is l) vs R0 ra0) ?_
 rintro e w' ⟨v,d2,h2,l',rfl,⟨rfl,rfl⟩,R',E',rd⟩
 have hlen:is.length≤h2.length:=by
  rcases Nat.lt_or_ge h2.length is.length with hlt|hge
  ·exfalso
   have hp:(pick is H)[h2.length]? ≠ none:=by
    unfold pick;rw[List.getElem?_map];simp[hlt]
   cases hx:(pick is H)[h2.length]? with
   | none=>exact hp hx
   | some x =>
    obtain⟨x',h1,_⟩:=E'.keep _ x hx
    simp at h1
  ·exact hge
 have hisP:∀{b i:Nat},is[b]? = some i→∃x,H[i]? = some x∧(pick is H)[b]? = some (x.mapR (inv is)):=fun {b i} hi=>by
  have hlt:=hb i (List.mem_of_getElem? hi)
  refine⟨H[i],List.getElem?_eq_getElem hlt,?_⟩
  unfold pick
  rw[List.getElem?_map,hi]
  simp[List.getD,List.getElem?_eq_getElem hlt]
 have L1:∀{i b:Nat},is[i]? = some b→locB is H.length l l' b=l' i:=fun {i b} hi=>by
  unfold locB;rw[idx_at hn hi]
 have L2:∀{b:Nat},idx b 0 is=none→b<H.length→locB is H.length l l' b=l b:=fun {b} h1 h2=>by
  unfold locB;rw[h1];simp[h2]
 have L3:∀{j:Nat},locB is H.length l l' (H.length+j)=l' (is.length+j):=fun {j}=>by
  unfold locB
  have:idx (H.length+j) 0 is=none:=by
   cases hi:idx (H.length+j) 0 is with
   | none=>rfl
   | some i =>
    obtain⟨_,h2⟩:=idx_some hi
    have:=hb _ (List.mem_of_getElem? h2)
    omega
  rw[this]
  have:Dd (H.length+j<H.length)=false:=by simp
  simp only[this,show is.length+(H.length+j - H.length)=is.length+j by omega]
 have back:∀{b:Nat} {x:Blk},(putB is h2 H)[b]? = some x→(idx b 0 is=none∧H[b]? = some x)∨∃i y,h2[i]? = some y∧x=y.mapR (fwd is H.length)∧locB is H.length l l' b=l' i∧(∀b' x',(putB is h2 H)[b']? = some x'→(idx b' 0 is=none∧H[b']? = some x')∨∃i' y',h2[i']? = some y'∧x'=y'.mapR (fwd is H.length)∧locB is H.length l l' b'=l' i'∧(i=i'→b=b')):=by
  have one:∀{b:Nat} {x:Blk},(putB is h2 H)[b]? = some x→(idx b 0 is=none∧H[b]? = some x)∨∃i y,h2[i]? = some y∧x=y.mapR (fwd is H.length)∧locB is H.length l l' b=l' i∧((i<is.length∧is[i]? = some b)∨(is.length≤i∧b=H.length+(i - is.length))):=by
   intro b x hx
   rcases putB_cases hx with h|⟨i,h1,h3,rfl⟩|⟨j,y,rfl,h3,rfl⟩
   ·exact .inl h
   ·obtain⟨_,h4⟩:=idx_some h3
    simp only[Nat.sub_zero] at h4
    have hi:=(List.getElem?_eq_some_iff.1 h4).1
    have:h2[i]? = some (h2.getD i .gone):=by
     rw[List.getD,List.getElem?_eq_getElem (by omega)];rfl
    exact .inr ⟨i,_,this,rfl,L1 h4,.inl ⟨hi,h4⟩⟩
   ·exact .inr ⟨_,y,h3,rfl,L3,.inr ⟨by omega,by omega⟩⟩
  intro b x hx
  rcases one hx with h|⟨i,y,h1,h3,h4,h5⟩
  ·exact .inl h
  ·refine .inr ⟨i,y,h1,h3,h4,fun b' x' hx'=>?_⟩
   rcases one hx' with h|⟨i',y',g1,g3,g4,g5⟩
   ·exact .inl h
   ·refine .inr ⟨i',y',g1,g3,g4,fun e=>?_⟩
    subst e
    rcases h5 with ⟨a1,a2⟩|⟨a1,a2⟩<;>rcases g5 with ⟨c1,c2⟩|⟨c1,c2⟩
    ·rw[a2] at c2;exact Option.some.inj c2
    ·omega
    ·omega
    ·omega
 have hgone:∀{y:Blk},y.mapR (fwd is H.length) ≠ .gone→y ≠ .gone:=fun {y} h e=>h (by rw[e];rfl)
 have oldO:∀{b:Nat} {x:Blk} {k c:Nat},idx b 0 is=none→H[b]? = some x→x ≠ .gone→l b=some (k,c)→O' k:=fun {b x k c} hi hx hg hl=>by
  refine⟨.inr ⟨b,x,c,hx,hg,hl⟩,fun ho=>?_⟩
  obtain⟨b',i,cp,x',q1,q2,q3,q4⟩:=own_pick ho
  have:=R.inj b i x x' k c cp hx hg q2 q3 hl q4
  subst this
  exact idx_none hi (List.mem_of_getElem? q1)
 have ownL:∀{k:Nat},own (locB is H.length l l') (putB is h2 H) k→own l' h2 k∨(own l H k∧O' k):=fun {k} ⟨b,x,cp,g1,g2,g3⟩=>by
  rcases back g1 with ⟨a1,a2⟩|⟨i,y,a1,a2,a3,_⟩
  ·have hlt:=(List.getElem?_eq_some_iff.1 a2).1
   rw[L2 a1 hlt] at g3
   exact .inr ⟨⟨b,x,cp,a2,g2,g3⟩,oldO a1 a2 g2 g3⟩
  ·rw[a3] at g3
   exact .inl ⟨i,y,cp,a1,hgone (a2▸g2),g3⟩
 have avL:∀k,avs O (locB is H.length l l') (putB is h2 H) k→avs O' l' h2 k:=fun k ho=>by
  rcases ho with ho|ho
  ·refine .inl ⟨.inl ho,fun h=>(R.inb k (own_of_pick h)).2 ho⟩
  ·rcases ownL ho with h|h
   ·exact .inr h
   ·exact .inl h.2
 have hf:∀(r:Ref) (y:Value),RefRel l' h2 r y→Rel w' (avs O (locB is H.length l l') (putB is h2 H)) (locB is H.length l l') (putB is h2 H) (fwd is H.length r) y:=fun r y rr=>by
  obtain⟨x,hx⟩:=refRel_some rr
  unfold fwd
  cases hi:is[r.blk]? with
  | some b =>
   simp only[Rel]
   obtain⟨x0,q1,_⟩:=hisP hi
   refine refRel_to hx ?_ (L1 hi) rr (f:=fwd is H.length)
   rw[putB_is q1 (idx_at hn hi)]
   simp[List.getD,hx]
  | none =>
   simp only[Rel]
   have hge:is.length≤r.blk:=by simpa using hi
   refine refRel_to hx ?_ ?_ rr (f:=fwd is H.length)
   ·rw[putB_new,show is.length+(r.blk - is.length)=r.blk by omega,hx];rfl
   ·rw[L3,show is.length+(r.blk - is.length)=r.blk by omega]
 have E:Ext w l H w' (locB is H.length l l') (putB is h2 H):=by
  refine⟨E'.size,fun blk hlt hno=>E'.same blk hlt (fun ho=>hno (own_of_pick ho)),fun blk ho=>?_,fun b x hx=>?_,E'.tape⟩
  ·rcases ownL ho with h|h
   ·rcases E'.news blk h with h|h
    ·exact .inl (own_of_pick h)
    ·exact .inr h
   ·exact .inl h.1
  ·have hlt:=(List.getElem?_eq_some_iff.1 hx).1
   cases hi:idx b 0 is with
   | none=>exact⟨x,putB_old hx hi,x.le_refl,fun _=>L2 hi hlt⟩
   | some i =>
    obtain⟨_,h4⟩:=idx_some hi
    simp only[Nat.sub_zero] at h4
    obtain⟨x0,q1,q2⟩:=hisP h4
    rw[hx] at q1;cases q1
    obtain⟨x',k1,k2,k3⟩:=E'.keep i _ q2
    have hgd:h2.getD i .gone=x':=by simp[List.getD,k1]
    refine⟨_,putB_is hx hi,?_,fun hs=>?_⟩
    ·rw[hgd];exact(le_mapR2 k2).1
    ·rw[hgd] at hs
     rw[L1 h4,k3 ((le_mapR2 k2).2 hs)]
     unfold locP;rw[h4]
 refine⟨v,_,_,_,rfl,⟨rfl,rfl⟩,⟨fun k ho=>?_,fun k ho=>Nat.lt_of_lt_of_le (R.obd k ho) E'.size,?_,fun b x hx=>?_,fun g cs hg=>?_⟩,E,?_⟩
 ·rcases ownL ho with h|h
  ·obtain⟨p1,p2⟩:=R'.inb k h
   refine⟨p1,fun hk=>p2 ⟨.inl hk,fun ho'=>(R.inb k (own_of_pick ho')).2 hk⟩⟩
  ·obtain⟨p1,p2⟩:=R.inb k h.1
   exact⟨Nat.lt_of_lt_of_le p1 E'.size,p2⟩
 ·intro b b' x x' k c c' g1 g2 g3 g4 g5 g6
  rcases back g1 with ⟨a1,a2⟩|⟨i,y,a1,a2,a3,a4⟩
  ·have hlt:=(List.getElem?_eq_some_iff.1 a2).1
   rw[L2 a1 hlt] at g5
   rcases back g3 with ⟨d1,d2⟩|⟨i',y',d1,d2,d3,_⟩
   ·have hlt':=(List.getElem?_eq_some_iff.1 d2).1
    rw[L2 d1 hlt'] at g6
    exact R.inj b b' x x' k c c' a2 g2 d2 g4 g5 g6
   ·rw[d3] at g6
    exact absurd (oldO a1 a2 g2 g5) (R'.inb k ⟨i',y',c',d1,hgone (d2▸g4),g6⟩).2
  ·rw[a3] at g5
   rcases a4 b' x' g3 with ⟨d1,d2⟩|⟨i',y',d1,d2,d3,d4⟩
   ·have hlt':=(List.getElem?_eq_some_iff.1 d2).1
    rw[L2 d1 hlt'] at g6
    exact absurd (oldO d1 d2 g4 g6) (R'.inb k ⟨i,y,c,a1,hgone (a2▸g2),g5⟩).2
   ·rw[d3] at g6
    exact d4 (R'.inj i i' y y' k c c' a1 (hgone (a2▸g2)) d1 (hgone (d2▸g4)) g5 g6)
 ·rcases back hx with ⟨a1,a2⟩|⟨i,y,a1,rfl,a3,_⟩
  ·have hlt:=(List.getElem?_eq_some_iff.1 a2).1
   by_cases hg:x=.gone
   ·subst hg;trivial
   refine BlkOk.ext E (L2 a1 hlt) (fun blk cp hl=>?_) (R.blk b x a2)
   exact E'.same blk (R.inb blk ⟨b,x,cp,a2,hg,hl⟩).1 (oldO a1 a2 hg hl).2
  ·refine blkOk_mapR2 avL hf a3 ?_ (R'.blk i y a1)
   have:=List.all_eq_true.1 hm.2 y (List.mem_of_getElem? a1)
   simpa using this
 ·exact RelCells.mono E.hc g 0 cs (R.glo g cs hg)
 ·exact rel_mapR2 avL hf rd
def nodupB:List Nat→Bool
 | []=>true
 | x::xs=>!memT x xs&&nodupB xs
theorem nodupB_iff:∀{xs:List Nat},nodupB xs=true→xs.Nodup
 | [],_=>List.nodup_nil
 | x::xs,h=>by
  simp only[nodupB,Bool.and_eq_true,Bool.not_eq_true'] at h
  refine List.nodup_cons.2 ⟨fun hm=>?_,nodupB_iff h.2⟩
  rw[memT_iff.2 hm] at h
  simp at h
def pickX(is:List Nat)(H:List Blk):List Nat→List Blk
 | []=>[]
 | i::js=>keepX (inv is) (H.getD i .gone)::pickX is H js
def pickP(is:List Nat)(H:List Blk):List Nat→List Prop
 | []=>[]
 | i::js=>keepK (inv is) (H.getD i .gone)++pickP is H js
theorem pickX_eq{is:List Nat}{H:List Blk}:∀{js:List Nat},AllP (pickP is H js)→pickX is H js=js.map fun i=>(H.getD i .gone).mapR (inv is)
 | [],_=>rfl
 | i::js,h=>by
  obtain⟨h1,h2⟩:=AllP.append (ps:=keepK (inv is) (H.getD i .gone)) h
  simp only[pickX,List.map_cons,keepX_eq h1,pickX_eq h2]
def spreadX(is:List Nat)(m:Nat)(h':List Blk):Nat→List Blk→List Blk
 | _,[]=>[]
 | b,x::xs=>(match idx b 0 is with
  | some i=>keepX (fwd is m) (h'.getD i .gone)
  | none=>x)::spreadX is m h' (b+1) xs
def mapX(f:Ref→D):List Blk→List Blk
 | []=>[]
 | x::xs=>keepX f x::mapX f xs
def mapP(f:Ref→D):List Blk→List Prop
 | []=>[]
 | x::xs=>keepK f x++mapP f xs
theorem mapX_eq{f:Ref→D}:∀{h:List Blk},AllP (mapP f h)→mapX f h=h.map (Blk.mapR f)
 | [],_=>rfl
 | x::xs,h=>by
  obtain⟨h1,h2⟩:=AllP.append (ps:=keepK f x) h
  simp only[mapX,List.map_cons,keepX_eq h1,mapX_eq h2]
theorem mapP_get{f:Ref→D}:∀{h:List Blk} (i:Nat),AllP (mapP f h)→AllP (keepK f (h.getD i .gone))
 | [],i,_=>by simp[keepK,AllP]
 | x::xs,i,h=>by
  obtain⟨h1,h2⟩:=AllP.append (ps:=keepK f x) h
  cases i with
  | zero=>exact h1
  | succ i=>simpa using mapP_get i h2
theorem mapP_drop{f:Ref→D}:∀{h:List Blk} (i:Nat),AllP (mapP f h)→AllP (mapP f (h.drop i))
 | [],i,_=>by simp[mapP,AllP]
 | x::xs,i,h=>by
  cases i with
  | zero=>exact h
  | succ i =>
   obtain⟨h1,h2⟩:=AllP.append (ps:=keepK f x) h
   exact mapP_drop i h2
theorem spreadX_eq{is:List Nat}{m:Nat}{h':List Blk}(hp:AllP (mapP (fwd is m) h')):∀(b:Nat) (xs:List Blk),spreadX is m h' b xs=spread is m h' b xs
 | _,[]=>rfl
 | b,x::xs=>by
  simp only[spreadX,spread,spreadX_eq hp (b+1) xs]
  cases idx b 0 is with
  | none=>rfl
  | some i=>simp only[keepX_eq (mapP_get i hp)]
def putX(is:List Nat)(h':List Blk)(H:List Blk):List Blk:=spreadX is H.length h' 0 H++mapX (fwd is H.length) (h'.drop is.length)
theorem putX_eq{is:List Nat}{h' H:List Blk}(hp:AllP (mapP (fwd is H.length) h')):putX is h' H=putB is h' H:=by
 unfold putX putB
 rw[spreadX_eq hp,mapX_eq (mapP_drop _ hp)]
def frameOk(is:List Nat)(h0 h0' H:List Blk):Bool:=nodupB is&&is.all (fun i=>Dd (i<H.length))&&(h0.all (fun x=>!isMit x)&&h0'.all (fun x=>!isMit x))
theorem Ev.frameX{P:Program}{Γ:Glob}{f:FuncId}{args0 args:List D}{h0 h0' H:List Blk}{d0:D}(is:List Nat)(he:Ev P Γ f args0 h0 d0 h0')(hk:frameOk is h0 h0' H=true)
  (ha:D.mapRL (inv is) args=args0) (hh:pickX is H is=h0) (p1:AllP (pickP is H is)) (p2:AllP (mapP (fwd is H.length) h0')):Ev P Γ f args H (d0.mapR (fwd is H.length)) (putX is h0' H):=by
 simp only[frameOk,Bool.and_eq_true] at hk
 rw[putX_eq p2]
 refine Ev.frame is he (nodupB_iff hk.1.1) (fun i hi=>?_) ha ?_ (by rw[hk.2.1,hk.2.2];rfl)
 ·have:=List.all_eq_true.1 hk.1.2 i hi
  simpa using this
 ·rw[←hh,pickX_eq p1];rfl
def fwd0(m:Nat)(r:Ref):D:=.ref (r.to (m+r.blk))
theorem fwd_nil(m:Nat):fwd [] m=fwd0 m:=by
 funext r;simp[fwd,fwd0]
theorem Ev.frameN{P:Program}{Γ:Glob}{f:FuncId}{args:List D}{h0':List Blk}{d0:D}(he:Ev P Γ f args [] d0 h0')(hm:h0'.all (fun x=>!isMit x)=true)
  (ha:D.innL 0 args=true) (h:List Blk):Ev P Γ f args h (d0.mapR (fwd0 h.length)) (h++h0'.map (Blk.mapR (fwd0 h.length))):=by
 have hr:∀(f:Ref→D),(∀d,D.inn 0 d=true→D.mapR f d=d)∧∀ds,D.innL 0 ds=true→D.mapRL f ds=ds:=fun f=>by
  refine⟨?_,?_⟩
  ·intro d
   refine D.rec (motive_1:=fun d=>D.inn 0 d=true→D.mapR f d=d) (motive_2:=fun ds=>D.innL 0 ds=true→D.mapRL f ds=ds) ?_ ?_ ?_ ?_ ?_ ?_ ?_ ?_ ?_ ?_ ?_ d
   ·intros;rfl
   ·intros;rfl
   ·intro r h;cases r<;>simp[D.inn] at h
   ·intros;rfl
   ·intros;rfl
   ·intro g a b ih1 ih2 h;simp only[D.inn,Bool.and_eq_true] at h;simp only[D.mapR,ih1 h.1,ih2 h.2]
   ·intro cs ih h;simp only[D.inn] at h;simp only[D.mapR,ih h]
   ·intro cs ih h;simp only[D.inn] at h;simp only[D.mapR,ih h]
   ·intro g d ih h;simp only[D.inn] at h;simp only[D.mapR,ih h]
   ·intros;rfl
   ·intro d ds ih1 ih2 h;simp only[D.innL,Bool.and_eq_true] at h;simp only[D.mapRL,ih1 h.1,ih2 h.2]
  ·intro ds
   refine D.rec_1 (motive_1:=fun d=>D.inn 0 d=true→D.mapR f d=d) (motive_2:=fun ds=>D.innL 0 ds=true→D.mapRL f ds=ds) ?_ ?_ ?_ ?_ ?_ ?_ ?_ ?_ ?_ ?_ ?_ ds
   ·intros;rfl
   ·intros;rfl
   ·intro r h;cases r<;>simp[D.inn] at h
   ·intros;rfl
   ·intros;rfl
   ·intro g a b ih1 ih2 h;simp only[D.inn,Bool.and_eq_true] at h;simp only[D.mapR,ih1 h.1,ih2 h.2]
   ·intro cs ih h;simp only[D.inn] at h;simp only[D.mapR,ih h]
   ·intro cs ih h;simp only[D.inn] at h;simp only[D.mapR,ih h]
   ·intro g d ih h;simp only[D.inn] at h;simp only[D.mapR,ih h]
   ·intros;rfl
   ·intro d ds ih1 ih2 h;simp only[D.innL,Bool.and_eq_true] at h;simp only[D.mapRL,ih1 h.1,ih2 h.2]
 have:=Ev.frame (H:=h) [] he List.nodup_nil (by simp) ((hr _).2 args ha) rfl (by simpa using hm)
 rw[fwd_nil] at this
 have e:putB [] h0' h=h++h0'.map (Blk.mapR (fwd0 h.length)):=by
  unfold putB
  have:∀(b:Nat) (xs:List Blk),spread [] h.length h0' b xs=xs:=by
   intro b xs
   induction xs generalizing b with
   | nil=>rfl
   | cons x xs ih=>simp[spread,idx,ih]
  rw[this,fwd_nil]
  simp
 rw[e] at this
 exact this
def GLe(Γ Γ':Glob):Prop:=∀g cs,Γ g=some cs→Γ' g=some cs
theorem GLe.none(Γ':Glob):GLe (fun _=>Option.none) Γ':=fun _ _ h=>by simp at h
theorem Rep.less{Γ Γ':Glob}{O:Nat→Prop}{w:World}{l:Loc}{h:List Blk}(hg:GLe Γ Γ')(R:Rep Γ' O w l h):Rep Γ O w l h :=
 ⟨R.inb,R.obd,R.inj,R.blk,fun g cs h=>R.glo g cs (hg g cs h)⟩
theorem Rep.more{Γ Γ':Glob}{O:Nat→Prop}{w w':World}{l l':Loc}{h h':List Blk}(R:Rep Γ' O w l h)(E:Ext w l h w' l' h')(R':Rep Γ O w' l' h'):Rep Γ' O w' l' h' :=
 ⟨R'.inb,R'.obd,R'.inj,R'.blk,fun g cs hg=>RelCells.mono E.hc g 0 cs (R.glo g cs hg)⟩
theorem Ev.glob{P:Program}{Γ Γ':Glob}(hg:GLe Γ Γ'){f:FuncId}{args:List D}{h h':List Blk}{d:D}(he:Ev P Γ f args h d h'):Ev P Γ' f args h d h':=by
 intro O w l vs R ra
 refine CallsIn.mono (he O w l vs (R.less hg) ra) ?_
 rintro e w' ⟨v,d2,h2,l',rfl,hq,R',E',rd⟩
 exact⟨v,d2,h2,l',rfl,hq,R.more E' R',E',rd⟩
theorem Ev.glob0{P:Program}{Γ':Glob}{f:FuncId}{args:List D}{h h':List Blk}{d:D}(he:Ev P (fun _=>none) f args h d h'):Ev P Γ' f args h d h':=he.glob (GLe.none Γ')
mutual
def D.nilW:D→D
 | .p (.v (.slice none 0 0))=>.p (.sl [])
 | .agg cs=>.agg (D.nilWL cs)
 | .tup cs=>.tup (D.nilWL cs)
 | d=>d
def D.nilWL:List D→List D
 | []=>[]
 | d::ds=>D.nilW d::D.nilWL ds
end
mutual
theorem rel_nilW{w:World}{av:Nat→Prop}{l:Loc}{h:List Blk}:∀(d:D) (y:Value),Rel w av l h d y→Rel w av l h (D.nilW d) y
 | .p x,y,r=>by
  unfold D.nilW
  split
  ·rename_i hx
   simp only[D.p.injEq] at hx
   subst hx
   simp only[Rel,RelP] at r ⊢
   exact .inl ⟨trivial,none,0,r,fun _=>rfl⟩
  ·rename_i hx;cases hx
  ·rename_i hx;cases hx
  ·exact r
 | .agg cs,y,r=>by
  simp only[D.nilW,Rel] at r ⊢
  obtain⟨vs,r1,r2⟩:=r
  exact⟨vs,r1,relL_nilW cs vs.toList r2⟩
 | .tup cs,y,r=>by
  simp only[D.nilW,Rel] at r ⊢
  obtain⟨vs,r1,r2⟩:=r
  exact⟨vs,r1,relL_nilW cs vs.toList r2⟩
 | .any,_,r=>r
 | .ref _,_,r=>r
 | .ep _,_,r=>r
 | .csl _,_,r=>r
 | .fn _ _ _,_,r=>r
 | .grd _ _,_,r=>r
theorem relL_nilW{w:World}{av:Nat→Prop}{l:Loc}{h:List Blk}:∀(ds:List D) (ys:List Value),RelL w av l h ds ys→RelL w av l h (D.nilWL ds) ys
 | [],[],_=>trivial
 | [],_::_,r=>by simp[RelL] at r
 | _::_,[],r=>by simp[RelL] at r
 | d::ds,y::ys,r=>by
  simp only[RelL,D.nilWL] at r ⊢
  exact⟨rel_nilW d y r.1,relL_nilW ds ys r.2⟩
end
def bodyC(fn:Func):Code:=match fn.body with
 | some c=>c
 | none=>.skip
theorem flat_drop{sz:Nat}:∀(es:List (List D)) (n:Nat) (row:List D),(∀r∈es,r.length=sz)→es[n]? = some row→∃rest,es.flatten.drop (n*sz)=row++rest
 | [],n,row,_,h=>by simp at h
 | e::es,0,row,hs,h=>by
  simp at h;subst h
  exact⟨es.flatten,by simp⟩
 | e::es,n+1,row,hs,h=>by
  simp only[List.getElem?_cons_succ] at h
  obtain⟨rest,hr⟩:=flat_drop es n row (fun r hr=>hs r (by simp[hr])) h
  refine⟨rest,?_⟩
  have he:e.length=sz:=hs e (by simp)
  rw[List.flatten_cons,List.drop_append_of_le_length' e es.flatten n sz he,hr]
where
 List.drop_append_of_le_length' (e t:List D) (n sz:Nat) (he:e.length=sz):(e++t).drop ((n+1)*sz)=t.drop (n*sz):=by
  rw[show(n+1)*sz=e.length+n*sz by rw[he,Nat.add_mul];omega,List.drop_append]
  simp
theorem flat_splice{sz:Nat}:∀(es:List (List D)) (n:Nat) (new:List D),(∀r∈es,r.length=sz)→new.length=sz→n<es.length→spliceL es.flatten (n*sz) new=(es.set n new).flatten
 | [],n,new,_,_,h=>by simp at h
 | e::es,0,new,hs,hn,_=>by
  have he:e.length=sz:=hs e (by simp)
  simp[spliceL,hn,←he]
 | e::es,n+1,new,hs,hn,h=>by
  have he:e.length=sz:=hs e (by simp)
  have ih:=flat_splice es n new (fun r hr=>hs r (by simp[hr])) hn (by simpa using h)
  simp only[List.set_cons_succ,List.flatten_cons,←ih]
  unfold spliceL
  have e1:(n+1)*sz=e.length+n*sz:=by rw[he,Nat.add_mul];omega
  rw[e1,List.take_append,List.drop_append]
  have h1:List.take (e.length+n*sz) e=e:=List.take_of_length_le (by omega)
  have h2:List.drop (e.length+n*sz+new.length) e=[]:=List.drop_eq_nil_of_le (by omega)
  rw[h1,h2]
  have h3:e.length+n*sz - e.length=n*sz:=by omega
  have h4:e.length+n*sz+new.length - e.length=n*sz+new.length:=by omega
  rw[h3,h4]
  simp[List.append_assoc]
theorem flat_len{sz:Nat}:∀(es:List (List D)),(∀r∈es,r.length=sz)→es.flatten.length=es.length*sz
 | [],_=>by simp
 | e::es,hs=>by
  rw[List.flatten_cons,List.length_append,flat_len es (fun r hr=>hs r (by simp[hr])),hs e (by simp),List.length_cons,Nat.add_mul];omega
section
variable {P:Program} {h:List Blk} {b sz:Nat} {es:List (List D)}
theorem load_arr{ty:TypeId}(ha:aggT P ty=some true)(hz:szOf P ty=some sz)(hb:h[b]? = some (.var es.flatten))(hs:∀r∈es,r.length=sz){n:Nat}{row:List D}(hn:es[n]? = some row):loadD P h ty (.ref (.ptr b (n*sz)))=some (.agg row):=by
 obtain⟨rest,hr⟩:=flat_drop es n row hs hn
 have hl:row.length=sz:=hs row (List.mem_of_getElem? hn)
 unfold loadD
 simp only[hb,hr,takeT,ha,hz]
 rw[if_pos (by simp;omega),←hl]
 simp
theorem store_arr{ty:TypeId}{x:D}{new:List D}(hx:x.cells=some new)(hz:szOf P ty=some sz)(hl:new.length=sz)(hb:h[b]? = some (.var es.flatten))(hs:∀r∈es,r.length=sz){n:Nat}(hn:n<es.length):storeD P h ty (.ref (.ptr b (n*sz))) x=some (h.set b (.var (es.set n new).flatten)):=by
 unfold storeD
 simp only[hx,hz,hl,hb]
 have:(n+1)*sz≤es.length*sz:=Nat.mul_le_mul_right _ hn
 rw[Nat.add_mul] at this
 rw[if_pos trivial,if_pos (by rw[flat_len es hs];omega),flat_splice es n new hs hl hn]
end
def sameBlk:Blk→Blk→Bool
 | .var a,.var b=>sameL a b
 | .vec a e s,.vec b e' s'=>sameLL a b&&(Dd (e=e')&&Dd (s=s'))
 | .map a c,.map b c'=>sameKV a b&&Dd (c=c')
 | .gone,.gone=>true
 | .defd,.defd=>true
 | .mit (some a) b c d,.mit (some a') b' c' d'=>(Dd (a=a')&&Dd (b=b'))&&(Dd (c=c')&&Dd (d=d'))
 | .mit none b c d,.mit none b' c' d'=>Dd (b=b')&&(Dd (c=c')&&Dd (d=d'))
 | _,_=>false
where
 sameLL:List (List D)→List (List D)→Bool
  | [],[]=>true
  | a::as,b::bs=>sameL a b&&sameLL as bs
  | _,_=>false
 sameKV:List (D×D×Nat)→List (D×D×Nat)→Bool
  | [],[]=>true
  | (k,d,n)::as,(k',d',n')::bs=>(sameD k k'&&sameD d d')&&(Dd (n=n')&&sameKV as bs)
  | _,_=>false
def sameH:List Blk→List Blk→Bool
 | [],[]=>true
 | a::as,b::bs=>sameBlk a b&&sameH as bs
 | _,_=>false
theorem sameLL_eq:∀{a b:List (List D)},sameBlk.sameLL a b=true→a=b
 | [],[],_=>rfl
 | a::as,b::bs,h=>by simp only[sameBlk.sameLL,Bool.and_eq_true] at h;rw[sameL_eq h.1,sameLL_eq h.2]
 | [],_::_,h=>by simp[sameBlk.sameLL] at h
 | _::_,[],h=>by simp[sameBlk.sameLL] at h
theorem sameKV_eq:∀{a b:List (D×D×Nat)},sameBlk.sameKV a b=true→a=b
 | [],[],_=>rfl
 | (k,d,n)::as,(k',d',n')::bs,h=>by
  simp only[sameBlk.sameKV,Bool.and_eq_true,decide_eq_true_eq] at h
  rw[sameD_eq h.1.1,sameD_eq h.1.2,h.2.1,sameKV_eq h.2.2]
 | [],_::_,h=>by simp[sameBlk.sameKV] at h
 | _::_,[],h=>by simp[sameBlk.sameKV] at h
theorem sameBlk_eq{a b:Blk}(h:sameBlk a b=true):a=b:=by
 unfold sameBlk at h
 split at h
 ·rw[sameL_eq h]
 ·simp only[Bool.and_eq_true,decide_eq_true_eq] at h;rw[sameLL_eq h.1,h.2.1,h.2.2]
 ·simp only[Bool.and_eq_true,decide_eq_true_eq] at h;rw[sameKV_eq h.1,h.2]
 ·rfl
 ·rfl
 ·simp only[Bool.and_eq_true,decide_eq_true_eq] at h;rw[h.1.1,h.1.2,h.2.1,h.2.2]
 ·simp only[Bool.and_eq_true,decide_eq_true_eq] at h;rw[h.1,h.2.1,h.2.2]
 ·cases h
theorem sameH_eq:∀{a b:List Blk},sameH a b=true→a=b
 | [],[],_=>rfl
 | a::as,b::bs,h=>by simp only[sameH,Bool.and_eq_true] at h;rw[sameBlk_eq h.1,sameH_eq h.2]
 | [],_::_,h=>by simp[sameH] at h
 | _::_,[],h=>by simp[sameH] at h
structure Memo where
 f:FuncId
 args:List D
 h:List Blk
 r:CR
def Memo.hit(m:Memo)(f:FuncId)(args:List D)(h:List Blk):Bool:=match Nat.beq m.f f with
 | true=>match sameL m.args args with
  | true=>sameH m.h h
  | false=>false
 | false=>false
def memoW:List Memo→FnF
 | [],_,_,_=>none
 | m::ms,f,args,h=>match m.hit f args h with
  | true=>some m.r
  | false=>memoW ms f args h
def Memo.Ok(P:Program)(Γ:Glob)(m:Memo):Prop:=funOk P m.f=true∧VRes P Γ m.f m.args m.h m.r
def MemosOk(P:Program)(Γ:Glob):List Memo→Prop
 | []=>True
 | m::ms=>m.Ok P Γ∧MemosOk P Γ ms
theorem Memo.hit_eq{m:Memo}{f:FuncId}{args:List D}{h:List Blk}(hh:m.hit f args h=true):m.f=f∧m.args=args∧m.h=h:=by
 unfold Memo.hit at hh
 split at hh
 ·rename_i h1
  split at hh
  ·rename_i h2
   exact⟨Nat.eq_of_beq_eq_true h1,sameL_eq h2,sameH_eq hh⟩
  ·cases hh
 ·cases hh
theorem memoW_ok{P:Program}{Γ:Glob}:∀{ms:List Memo},MemosOk P Γ ms→FnOk P Γ (memoW ms)
 | [],_,_,_,_,_,h=>by simp[memoW] at h
 | m::ms,hm,f,args,h,r,hw=>by
  simp only[memoW] at hw
  split at hw
  ·rename_i hh
   obtain⟨rfl,rfl,rfl⟩:=Memo.hit_eq hh
   cases hw
   exact hm.1
  ·exact memoW_ok hm.2 _ _ _ _ hw
def sameCR:CR→CR→Bool
 | .ret d h,.ret d' h'=>sameD d d'&&sameH h h'
 | _,_=>false
theorem sameCR_eq{a b:CR}(h:sameCR a b=true):a=b:=by
 unfold sameCR at h
 split at h
 ·simp only[Bool.and_eq_true] at h;rw[sameD_eq h.1,sameH_eq h.2]
 ·cases h
def Memo.runs(P:Program)(Γ:Glob)(ms:List Memo)(m:Memo):Bool:=match funOk P m.f,runFO P Γ (memoW ms) 100000 m.f m.args m.h with
 | true,some r=>sameCR r m.r
 | _,_=>false
theorem Memo.ok_of{P:Program}{Γ:Glob}(ok:POk P){ms:List Memo}{m:Memo}(hr:m.runs P Γ ms=true)(hm:MemosOk P Γ ms):m.Ok P Γ:=by
 unfold Memo.runs at hr
 split at hr
 ·rename_i r h1 h2
  refine⟨h1,?_⟩
  rw[←sameCR_eq hr]
  exact VRes.of_run ok (memoW_ok hm) h2
 ·cases hr
theorem Memo.call{P:Program}{Γ:Glob}{m:Memo}{d:D}{h':List Blk}(hm:m.Ok P Γ)(hr:m.r=.ret d h'):VCall P Γ m.f m.args m.h fun d2 h2=>d2=d∧h2=h':=by
 have:=hm.2
 rw[hr] at this
 exact this.call
def pureRow:List D→Option (List Dp)
 | []=>some []
 | .p x::ds=>match pureRow ds with
  | some xs=>some (x::xs)
  | none=>none
 | _=>none
def pureRows:List (List D)→Option (List (List Dp))
 | []=>some []
 | r::rs=>match pureRow r,pureRows rs with
  | some x,some xs=>some (x::xs)
  | _,_=>none
def frzV(d:D)(e:Nat):Option Blk→D
 | some (.vec es e' _)=>match Nat.beq e' e,pureRows es with
  | true,some rows=>.p (.sl rows)
  | _,_=>d
 | _=>d
mutual
def frzD(h:List Blk):D→D
 | .ref (.vec b e)=>frzV (.ref (.vec b e)) e h[b]?
 | .agg cs=>.agg (frzL h cs)
 | d=>d
def frzL(h:List Blk):List D→List D
 | []=>[]
 | d::ds=>frzD h d::frzL h ds
end
mutual
def flatD:D→Bool
 | .p (.v _)=>true
 | .agg cs=>flatL cs
 | .tup cs=>flatL cs
 | _=>false
def flatL:List D→Bool
 | []=>true
 | d::ds=>flatD d&&flatL ds
end
theorem pureRow_eq:∀{ds:List D} {xs:List Dp},pureRow ds=some xs→ds=xs.map .p
 | [],xs,h=>by simp only[pureRow,Option.some.injEq] at h;subst h;rfl
 | .p x::ds,xs,h=>by
  simp only[pureRow] at h
  split at h
  ·rename_i ys h1
   simp only[Option.some.injEq] at h
   subst h
   rw[pureRow_eq h1];rfl
  ·simp at h
 | .any::_,_,h=>by simp[pureRow] at h
 | .ref _::_,_,h=>by simp[pureRow] at h
 | .ep _::_,_,h=>by simp[pureRow] at h
 | .csl _::_,_,h=>by simp[pureRow] at h
 | .fn _ _ _::_,_,h=>by simp[pureRow] at h
 | .agg _::_,_,h=>by simp[pureRow] at h
 | .tup _::_,_,h=>by simp[pureRow] at h
 | .grd _ _::_,_,h=>by simp[pureRow] at h
theorem pureRows_eq:∀{es:List (List D)} {xs:List (List Dp)},pureRows es=some xs→es=xs.map (·.map .p)
 | [],xs,h=>by simp only[pureRows,Option.some.injEq] at h;subst h;rfl
 | e::es,xs,h=>by
  simp only[pureRows] at h
  split at h
  ·rename_i y ys h1 h2
   simp only[Option.some.injEq] at h
   subst h
   rw[pureRow_eq h1,pureRows_eq h2];rfl
  ·simp at h
section
variable {P:Program} {Γ:Glob} {O:Nat→Prop} {w:World} {l:Loc} {h:List Blk}
def PureV(l:Loc)(h:List Blk)(k:Nat):Prop:=∃(b:Nat) (rows:List (List Dp)) (e sz cap:Nat),h[b]? = some (.vec (rows.map (·.map D.p)) e sz)∧l b=some (k,cap)
theorem frzV_rel(R:Rep Γ O w l h){b e:Nat}{y:Value}{rows:List (List Dp)}{sz:Nat}(hb:h[b]? = some (.vec (rows.map (·.map .p)) e sz))(rr:RefRel l h (.vec b e) y){av':Nat→Prop}(ha:∀k,av' k→avs O l h k∧¬PureV l h k):
  RelP w av' (.sl rows) y:=by
 have hk:=R.blk _ _ hb
 unfold RefRel at rr
 simp only[hb] at rr
 have hv:=rr.2.2 trivial
 unfold BlkOk at hk
 simp only at hk
 simp only[RelP]
 cases hl:l b with
 | none =>
  rw[hl] at hv hk
  simp only[VecV] at hv hk
  exact .inl ⟨by simpa using hk,none,0,hv.2,fun _=>rfl⟩
 | some p =>
  obtain⟨blk,cap⟩:=p
  rw[hl] at hv hk
  simp only[VecV] at hv hk
  obtain⟨oo,cc,rfl,hv1,hv2⟩:=hv
  obtain⟨o2,c2,rc,c,T,fr,ys,q1,q2,q3,q4,q5,q6,pre,rest,q0,q7⟩:=hk
  obtain⟨rfl,rfl⟩:=mkP_inj rc
  refine .inr ⟨blk,oo,cc,sz,by simpa using hv1,by simpa using hv2,?_⟩
  have hcell:¬av' blk:=fun ho=>(ha blk ho).2 ⟨b,rows,e,sz,_,hb,hl⟩
  refine relRows_at rows oo fun i e1 he1=>?_
  have hlen:e1.length=sz:=by
   have:=q5 (e1.map .p) (List.mem_map.2 ⟨e1,List.mem_of_getElem? he1,rfl⟩)
   simpa using this
  refine⟨hlen,relCells_at (l:=l) (h:=h) (av:=avs O l h) (av':=av') (fun _ ho=>(ha _ ho).1) hcell e1 _ ?_⟩
  exact(CellsAt.of_relO (loc:=l) (h:=h) q1 q0 q7 q6).rowO q5 (by rw[List.getElem?_map,he1];rfl)
mutual
theorem frzD_rel(R:Rep Γ O w l h){av':Nat→Prop}(ha:∀k,av' k→avs O l h k∧¬PureV l h k):∀{d:D} {y:Value},D.inn 0 (frzD h d)=true→Rel w (avs O l h) l h d y→Rel w av' l [] (frzD h d) y
 | .p _,_,_,r=>by simp only[frzD,Rel] at r ⊢;exact relP_take (fun k hk=>(ha k hk).1) r
 | .any,_,_,_=>by simp[frzD,Rel]
 | .ep _,_,_,r=>by
  simp only[frzD,Rel] at r ⊢
  obtain⟨blk,off,r1,r2⟩:=r
  exact⟨blk,off,r1,relCells_take (fun k hk=>(ha k hk).1) r2⟩
 | .csl _,_,_,r=>by
  simp only[frzD,Rel] at r ⊢
  rcases r with r|⟨blk,off,sz,r1,r2⟩
  ·exact .inl r
  ·exact .inr ⟨blk,off,sz,r1,relRows_take (fun k hk=>(ha k hk).1) r2⟩
 | .agg cs,_,hi,r=>by
  simp only[frzD,D.inn] at hi
  simp only[frzD,Rel] at r ⊢
  obtain⟨vs,r1,r2⟩:=r
  exact⟨vs,r1,frzL_rel R ha hi r2⟩
 | .ref (.vec b e),y,hi,r=>by
  simp only[frzD] at hi ⊢
  unfold frzV at hi ⊢
  split at hi
  ·rename_i es e' sz hb
   split at hi
   ·rename_i rows h1 h2
    have he:=Nat.eq_of_beq_eq_true h1
    subst he
    rw[pureRows_eq h2] at hb
    simp only[Rel]
    exact frzV_rel R hb (by simpa only [Rel] using r) ha
   ·simp[D.inn] at hi
  ·simp[D.inn] at hi
 | .ref (.ptr _ _),_,hi,_=>by simp[frzD,D.inn] at hi
 | .ref (.vs _ _ _ _ _),_,hi,_=>by simp[frzD,D.inn] at hi
 | .ref (.av _ _ _ _),_,hi,_=>by simp[frzD,D.inn] at hi
 | .ref (.vp _ _ _ _),_,hi,_=>by simp[frzD,D.inn] at hi
 | .ref (.mp _),_,hi,_=>by simp[frzD,D.inn] at hi
 | .ref (.it _),_,hi,_=>by simp[frzD,D.inn] at hi
 | .ref (.yl _),_,hi,_=>by simp[frzD,D.inn] at hi
 | .fn f a b,_,hi,r=>by
  have:=rel_take (l:=l) (h:=h) (n:=0) (fun k hk=>(ha k hk).1) (by simpa[frzD] using hi) r
  simpa[frzD] using this
 | .tup a,_,hi,r=>by
  have:=rel_take (l:=l) (h:=h) (n:=0) (fun k hk=>(ha k hk).1) (by simpa[frzD] using hi) r
  simpa[frzD] using this
 | .grd g a,_,hi,r=>by
  have:=rel_take (l:=l) (h:=h) (n:=0) (fun k hk=>(ha k hk).1) (by simpa[frzD] using hi) r
  simpa[frzD] using this
theorem frzL_rel(R:Rep Γ O w l h){av':Nat→Prop}(ha:∀k,av' k→avs O l h k∧¬PureV l h k):∀{ds:List D} {ys:List Value},D.innL 0 (frzL h ds)=true→RelL w (avs O l h) l h ds ys→RelL w av' l [] (frzL h ds) ys
 | [],[],_,_=>by simp[frzL,RelL]
 | [],_::_,_,r=>by simp[RelL] at r
 | _::_,[],_,r=>by simp[RelL] at r
 | _::_,_::_,hi,r=>by
  simp only[frzL,D.innL,Bool.and_eq_true] at hi
  simp only[frzL,RelL] at r ⊢
  exact⟨frzD_rel R ha hi.1 r.1,frzL_rel R ha hi.2 r.2⟩
end
mutual
theorem rel_flat{w':World}{av av':Nat→Prop}{l':Loc}{h':List Blk}:∀{d:D} {y:Value},flatD d=true→Rel w av l h d y→Rel w' av' l' h' d y
 | .p (.v _),_,_,r=>by simpa[Rel,RelP] using r
 | .agg cs,_,hf,r=>by
  simp only[flatD] at hf
  simp only[Rel] at r ⊢
  obtain⟨vs,r1,r2⟩:=r
  exact⟨vs,r1,relL_flat hf r2⟩
 | .tup cs,_,hf,r=>by
  simp only[flatD] at hf
  simp only[Rel] at r ⊢
  obtain⟨vs,r1,r2⟩:=r
  exact⟨vs,r1,relL_flat hf r2⟩
 | .p (.sl _),_,hf,_=>by simp[flatD] at hf
 | .any,_,hf,_=>by simp[flatD] at hf
 | .ref _,_,hf,_=>by simp[flatD] at hf
 | .ep _,_,hf,_=>by simp[flatD] at hf
 | .csl _,_,hf,_=>by simp[flatD] at hf
 | .fn _ _ _,_,hf,_=>by simp[flatD] at hf
 | .grd _ _,_,hf,_=>by simp[flatD] at hf
theorem relL_flat{w':World}{av av':Nat→Prop}{l':Loc}{h':List Blk}:∀{ds:List D} {ys:List Value},flatL ds=true→RelL w av l h ds ys→RelL w' av' l' h' ds ys
 | [],[],_,_=>by simp[RelL]
 | [],_::_,_,r=>by simp[RelL] at r
 | _::_,[],_,r=>by simp[RelL] at r
 | _::_,_::_,hf,r=>by
  simp only[flatL,Bool.and_eq_true] at hf
  simp only[RelL] at r ⊢
  exact⟨rel_flat hf.1 r.1,relL_flat hf.2 r.2⟩
end
theorem Ev.frzArgs{f:FuncId}{args:List D}{d:D}(hi:D.innL 0 (frzL h args)=true)(hd:flatD d=true)(he:Ev P Γ f (frzL h args) [] d []):Ev P Γ f args h d h:=by
 intro O w l vs R ra
 have hav:∀l' k,avs (fun k=>avs O l h k∧¬PureV l h k) l' [] k→avs O l h k∧¬PureV l h k:=fun l' k ho=>ho.elim id (fun h=>absurd h own_nil)
 have R0:Rep Γ (fun k=>avs O l h k∧¬PureV l h k) w l []:=by
  refine⟨fun blk ho=>absurd ho own_nil,fun blk ho=>?_,fun b b' x x' k c c' hb=>by simp at hb,fun b x hb=>by simp at hb,fun g cs hg=>?_⟩
  ·rcases ho.1 with ho|ho
   ·exact R.obd blk ho
   ·exact(R.inb blk ho).1
  ·exact relCells_take (fun k hk=>(hav l k hk).1) (R.glo g cs hg)
 have ra0:=frzL_rel (av':=avs (fun k=>avs O l h k∧¬PureV l h k) l []) R (fun k hk=>hav l k hk) hi ra
 refine CallsIn.mono (he _ w l vs R0 ra0) ?_
 rintro e w' ⟨v,d2,h2,l',rfl,⟨rfl,rfl⟩,R',E',rd⟩
 have E:Ext w l h w' l h:=⟨E'.size,fun blk hb _=>E'.same blk hb own_nil,fun blk ho=>.inl ho,fun b x hx=>⟨x,hx,x.le_refl,fun _=>rfl⟩,E'.tape⟩
 refine⟨v,d2,h,l,rfl,⟨rfl,rfl⟩,⟨fun blk ho=>⟨Nat.lt_of_lt_of_le (R.inb blk ho).1 E'.size,(R.inb blk ho).2⟩,fun blk ho=>Nat.lt_of_lt_of_le (R.obd blk ho) E'.size,R.inj,fun b x hx=>?_,fun g cs hg=>?_⟩,E,rel_flat hd rd⟩
 ·by_cases hg:x=.gone
  ·subst hg;trivial
  exact BlkOk.ext E rfl (fun blk cp hl=>E'.same blk (R.inb blk ⟨b,x,cp,hx,hg,hl⟩).1 own_nil) (R.blk b x hx)
 ·exact RelCells.mono E.hc g 0 cs (R.glo g cs hg)
end
def hB(pre:List Blk)(R:List (List D))(more:List Blk):List Blk:=pre++(.vec R 0 1::more)
section
variable {P:Program} {Γ:Glob}
theorem TopW.deferH(ok:POk P){call:CallX}(hc:call.Ok P Γ){id:Nat}{ops:Array Oper}{d:Code}{s s':AS}{e:Exit}{os:List Oper}{o:Oper}(h0:ops.toList=os++[o]){fv:Operand}{args:Array Operand}{ats:Array TypeId}
  (ho:o.op=.defer {callee:=.value fv,args,argTypes:=ats}) (hg:o.guard=none) (hdst:o.dst=none) (hm:s.m=[]) {t1:List D} {h1:List Blk} (hr:runOpsX P Γ call [] ops.toList os s.t s.h=some (.normal,t1,h1))
  {f:FuncId} {fi ca:List D} (hcal:calleeD (evalD Γ t1 fv)=some (f,fi,ca))
  (hrest:CW P Γ h1 false d {t:=t1,h:=h1,m:=[]} e s') :
  TopW P Γ (.seq (.region id ops false) d) s e s' (some (f,fi++args.toList.map (evalD Γ t1)++ca)):=by
 intro O w0 l0 hh0 a w hs
 have hlen:ops.size=os.length+1:=by rw[←Array.length_toList,h0];simp
 have hrange:List.range ops.size=List.range' 0 os.length++[os.length]:=by rw[hlen,List.range_succ,List.range_eq_range']
 have ho0:ops[os.length]? = some o:=by rw[←Array.getElem?_toList,h0];simp
 refine wpIn_seq (wpIn_region ?_)
 rw[hrange]
 have hs2:St Γ {O:=O,w:=w0,l:=l0,h:=hh0} {t:=s.t,h:=s.h,m:=[]} a w:=by rw[←hm];exact hs
 refine runOpsX_wpK (r:=none) (X:={O:=O,w:=w0,l:=l0,h:=hh0}) hc (tail:=[os.length]) (fun _ a w hs=>?_) (fun c he=>by cases he) os 0 s.t s.h [o] (by simpa using h0) hr a w hs2
 obtain⟨l,R,E,rt,rd⟩:=hs
 have hdef:a.defers=[]:=rd
 simp only[wpOpsIn,ho0]
 have hw:Region.wanted o (yielded ops a.tmps)=true:=by unfold Region.wanted;rw[hg]
 rw[if_pos hw]
 obtain⟨a0,c0,e0,r1,r2⟩:=callee_sound (evalD_sound R rt fv) hcal
 refine⟨fun _ _=>trivial,?_⟩
 have e0':(FW none).round=none:=rfl
 rw[e0',Oper.semAt_none]
 have e1:(execOp a.eval o).run P w=.ok (.defer {target:=.fn (.func f) c0,args:=a0++args.map a.eval}) w:=by
  unfold execOp
  rw[ho]
  simp only[resolve,e0,Deferred.ofValue,Sem.run_bind,Sem.run_pure,Result.andThen_ok]
 rw[e1,Oper.uponIn_defer,hdst]
 simp only[Act.put,Exit.then]
 have hD:DefRel w O l h1 (f,fi++args.toList.map (evalD Γ t1)++ca) {target:=.fn (.func f) c0,args:=a0++args.map a.eval}:=by
  refine⟨_,_,rfl,?_⟩
  simp only[Array.toList_append]
  refine relL_append (relL_append r1 ?_) r2
  have:=relL_map R rt args.toList
  simpa using this
 refine wpIn_mono (hrest {O:=O,w:=w,l:=l,h:=h1,D:=[{target:=.fn (.func f) c0,args:=a0++args.map a.eval}]} none rfl (fun _=>rfl) _ w ⟨l,R,Ext.refl _ _ _,rt,by simp[DefOk,hdef]⟩) ?_
 rintro e1 a1 w1 ⟨k1,s1,⟨rfl,rfl⟩,k2⟩
 exact⟨rfl,k1,_,w,l,h1,E,hD,k2⟩
end
def Shp(P:Program):Nat→TypeId→List Dp→Prop
 | 0,_,_=>False
 | n+1,t,ds=>match P.underlying t with
  | some .bool=>∃b,ds=[.v (.bool b)]
  | some (.int k)=>∃x,ds=[.v (.int k x)]∧(Lit.int k x).wf=true
  | some .string=>∃s,ds=[.v (.string s)]∧s.size≤reachBytes
  | some (.slice e)=>∃es,ds=[.sl es]∧es.length*P.bytesOf e≤reachBytes∧∀r∈es,Shp P n e r
  | some (.struct fs)=>ds.length=P.cellsOf t∧∀f∈fs.toList,Shp P n f.type ((ds.drop f.offset).take (P.cellsOf f.type))
  | _=>False
def contigB(P:Program):List Field→Nat→Nat→Bool
 | [],acc,total=>acc==total
 | f::fs,acc,total=>(f.offset==acc)&&contigB P fs (acc+P.cellsOf f.type) total
def plainB(P:Program)(ts:List TypeId):Bool:=ts.all fun t=>match P.underlying t with
 | some .bool|some (.int _)|some .string=>true
 | some (.slice e)=>ts.contains e&&Dd (0<P.cellsOf e)
 | some (.struct fs)=>contigB P fs.toList 0 (P.cellsOf t)&&fs.toList.all fun f=>ts.contains f.type
 | _=>false
def RelPL(w:World)(av:Nat→Prop):List Dp→List Value→Prop
 | [],[]=>True
 | d::ds,y::ys=>RelP w av d y∧RelPL w av ds ys
 | _,_=>False
section
variable {w:World} {av:Nat→Prop}
theorem RelPL.length:∀{ds:List Dp} {ys:List Value},RelPL w av ds ys→ds.length=ys.length
 | [],[],_=>rfl
 | _::_,_::_,h=>by simp[RelPL.length h.2]
 | [],_::_,h=>h.elim
 | _::_,[],h=>h.elim
theorem RelPL.append:∀{ds ds':List Dp} {ys ys':List Value},RelPL w av ds ys→RelPL w av ds' ys'→RelPL w av (ds++ds') (ys++ys')
 | [],_,[],_,_,h=>h
 | _::_,_,_::_,_,h,h'=>⟨h.1,RelPL.append h.2 h'⟩
 | [],_,_::_,_,h,_=>h.elim
 | _::_,_,[],_,h,_=>h.elim
theorem RelPL.relL{l:Loc}{h:List Blk}:∀{ds:List Dp} {ys:List Value},RelPL w av ds ys→RelL w av l h (ds.map .p) ys
 | [],[],_=>by simp[RelL]
 | _::_,_::_,r=>by simp only[List.map_cons,RelL,Rel];exact⟨r.1,RelPL.relL r.2⟩
 | [],_::_,h=>h.elim
 | _::_,[],h=>h.elim
theorem contig_le{P:Program}:∀{fs:List Field} {acc total:Nat},contigB P fs acc total=true→acc≤total∧∀f∈fs,acc≤f.offset
 | [],acc,total,h=>by simp only[contigB,beq_iff_eq] at h;exact⟨by omega,by simp⟩
 | f::fs,acc,total,h=>by
  simp only[contigB,Bool.and_eq_true,beq_iff_eq] at h
  obtain⟨h1,h2⟩:=contig_le h.2
  refine⟨by omega,fun g hg=>?_⟩
  rcases List.mem_cons.1 hg with rfl|hg
  ·omega
  ·have:=h2 g hg;omega
theorem contig_join{P:Program}{cs:List Value}{S:TypeId→List Dp→Prop}{total:Nat}(hc:cs.length=total):∀(fs:List Field) (acc:Nat),contigB P fs acc total=true →
  (∀f∈fs,∃ds,S f.type ds∧RelPL w av ds ((cs.drop f.offset).take (P.cellsOf f.type))) →
  ∃D,RelPL w av D (cs.drop acc)∧∀f∈fs,S f.type ((D.drop (f.offset - acc)).take (P.cellsOf f.type))
 | [],acc,h,_=>by
  simp only[contigB,beq_iff_eq] at h
  refine⟨[],?_,by simp⟩
  rw[List.drop_of_length_le (by omega)]
  trivial
 | f::fs,acc,h,hf=>by
  simp only[contigB,Bool.and_eq_true,beq_iff_eq] at h
  obtain⟨rfl,h⟩:=h
  obtain⟨ds,hs,hr⟩:=hf f (List.mem_cons_self ..)
  obtain⟨D,hD,hS⟩:=contig_join hc fs _ h (fun g hg=>hf g (List.mem_cons_of_mem _ hg))
  obtain⟨hle,hoff⟩:=contig_le h
  have hlen:ds.length=P.cellsOf f.type:=by
   have:=hr.length
   rw[this,List.length_take,List.length_drop]
   omega
  refine⟨ds++D,?_,fun g hg=>?_⟩
  ·have:=hr.append hD
   rw[←List.drop_drop,List.take_append_drop] at this
   exact this
  ·rcases List.mem_cons.1 hg with rfl|hg
   ·rw[Nat.sub_self,List.drop_zero,List.take_append_of_le_length (by omega),←hlen,List.take_length]
    exact hs
   ·have h1:=hoff g hg
    have hd:∀k,(ds++D).drop (ds.length+k)=D.drop k:=fun k=>by rw[List.drop_append];simp
    rw[show g.offset - f.offset=ds.length+(g.offset - (f.offset+P.cellsOf f.type)) by omega,hd]
    exact hS g hg
theorem relRows_of{blk c:Nat}:∀(es:List (List Dp)) (off:Nat),(∀i e,es[i]? = some e→e.length=c∧RelCells w av blk (off+i*c) e)→RelRows w av blk c off es
 | [],_,_=>trivial
 | e::es,off,h=>by
  obtain⟨h1,h2⟩:=h 0 e rfl
  refine⟨h1,by simpa using h2,relRows_of es (off+c) fun i e' he=>?_⟩
  obtain⟨h3,h4⟩:=h (i+1) e' (by simpa using he)
  refine⟨h3,?_⟩
  rw[show off+c+i*c=off+(i+1)*c by rw[Nat.add_mul];omega]
  exact h4
theorem relCells_of(hav:∀k,¬av k){blk:Nat}:∀(ds:List Dp) (ys:List Value) (off:Nat),RelPL w av ds ys→(∀(j:Nat) (y:Value),ys[j]? = some y→w.cell? ⟨blk,off+j,none⟩=some y)→RelCells w av blk off ds
 | [],_,_,_,_=>trivial
 | d::ds,[],_,r,_=>r.elim
 | d::ds,y::ys,off,r,hc=>by
  refine⟨⟨hav _,y,by simpa using hc 0 y rfl,r.1⟩,relCells_of hav ds ys (off+1) r.2 fun j z hz=>?_⟩
  have:=hc (j+1) z (by simpa using hz)
  rwa[show off+(j+1)=off+1+j by omega] at this
theorem cells_at{a:Addr}{n:Nat}{cs:List Value}(h:w.cells? 0 a n=some cs):cs.length=n∧∀(j:Nat) (y:Value),cs[j]? = some y→w.cell? (a.add j)=some y:=by
 obtain⟨h1,h2,h3⟩:=World.cells?_some h
 refine⟨h2,fun j y hy=>?_⟩
 have hj:j<n:=by rw[←h2];exact(List.getElem?_eq_some_iff.1 hy).1
 rw[h3 j hj,hy]
theorem weightsAll_mem{H:Type}{P:Program}{e:TypeId}{q:Nat→Bool}:∀{l:List (DataW H)},(DataW.weightsAll P e l).all q=true→∀d∈l,(d.weights P e).all q=true
 | [],_,d,hd=>by simp at hd
 | x::l,h,d,hd=>by
  simp only[DataW.weightsAll,List.all_append,Bool.and_eq_true] at h
  rcases List.mem_cons.1 hd with rfl|hd
  ·exact h.1
  ·exact weightsAll_mem h.2 d hd
theorem weightsEach_at{H:Type}{P:Program}{q:Nat→Bool}:∀{ts:List TypeId} {l:List (DataW H)},(DataW.weightsEach P ts l).all q=true→∀(i:Nat) (t:TypeId) (d:DataW H),ts[i]? = some t→l[i]? = some d→(d.weights P t).all q=true
 | [],_,_,i,t,d,ht,_=>by simp at ht
 | _::_,[],_,i,t,d,_,hd=>by simp at hd
 | t0::ts,x::l,h,i,t,d,ht,hd=>by
  simp only[DataW.weightsEach,List.all_append,Bool.and_eq_true] at h
  cases i with
  | zero=>simp at ht hd;subst ht;subst hd;exact h.1
  | succ i=>exact weightsEach_at h.2 i t d (by simpa using ht) (by simpa using hd)
end
section
variable {w:World} {av:Nat→Prop} {P:Program}
theorem plain_at{ts:List TypeId}(hts:plainB P ts=true){t:TypeId}(ht:t∈ts):(match P.underlying t with
 | some .bool|some (.int _)|some .string=>true
 | some (.slice e)=>ts.contains e&&Dd (0<P.cellsOf e)
 | some (.struct fs)=>contigB P fs.toList 0 (P.cellsOf t)&&fs.toList.all fun f=>ts.contains f.type
 | _=>false)=true:=List.all_eq_true.1 hts t ht
theorem open_plain{H:Type}{enc:TypeId×Value→H}{spare:Nat→Bool}{ts:List TypeId}(hts:plainB P ts=true)(hav:∀k,¬av k):
  ∀(fuel:Nat) (t:TypeId) (cs:List Value) (d:DataW H) (ps:List MemPlace),t∈ts→DataW.trod enc P w 0 spare true fuel t cs=some (d,ps)→(d.weights P t).all (· ≤ reachBytes)=true →
   ∃ds,Shp P fuel t ds∧RelPL w av ds cs:=by
 intro fuel
 induction fuel with
 | zero=>intro t cs d ps _ h;simp[DataW.trod] at h
 | succ n ih =>
  intro t cs d ps ht h hw
  have hp:=plain_at hts ht
  split at hp
  ·rename_i hu
   obtain⟨b,rfl,_⟩:=DataW.trod_bool hu h
   exact⟨[.v (.bool b)],by simp only[Shp,hu];exact⟨b,rfl⟩,by simp[RelPL,RelP]⟩
  ·rename_i k hu
   obtain⟨x,rfl,_,hwf⟩:=DataW.trod_int hu h
   exact⟨[.v (.int k x)],by simp only[Shp,hu];exact⟨x,rfl,hwf⟩,by simp[RelPL,RelP]⟩
  ·rename_i hu
   obtain⟨s,rfl,hx,_⟩:=DataW.trod_string hu h
   simp only[Prod.mk.injEq] at hx
   obtain⟨rfl,_⟩:=hx
   have hs:s.size≤reachBytes:=by
    simp only[DataW.weights,List.all_cons,List.all_nil,Bool.and_true,decide_eq_true_eq,Array.length_toList] at hw
    exact hw
   exact⟨[.v (.string s)],by simp only[Shp,hu];exact⟨s,rfl,hs⟩,by simp[RelPL,RelP]⟩
  ·rename_i e hu
   simp only[Bool.and_eq_true,decide_eq_true_eq,List.contains_iff_mem] at hp
   obtain⟨he,hpos⟩:=hp
   rcases DataW.trod_slice hu h with ⟨rfl,_⟩|⟨a,len,cap,elems,rest,m,hm,rfl,hx,_,hle,_,hlen,hel,_⟩
   ·refine⟨[.sl []],by simp only[Shp,hu];exact⟨[],rfl,by simp,by simp⟩,?_⟩
    simp only[RelPL,RelP,and_true]
    exact .inl ⟨trivial,none,0,rfl,fun _=>rfl⟩
   ·obtain rfl:n=m:=by omega
    simp only[Prod.mk.injEq] at hx
    obtain⟨rfl,_⟩:=hx
    simp only[DataW.weights,hu,List.all_cons,List.all_append,Bool.and_eq_true,decide_eq_true_eq,List.length_map] at hw
    obtain⟨hw1,hw2,_⟩:=hw
    have key:∀i,i<len→∃ds ys,Shp P n e ds∧RelPL w av ds ys∧w.cells? 0 (a.add (i*P.cellsOf e)) (P.cellsOf e)=some ys:=by
     intro i hi
     have h1:=hel i hi
     have h2:elems[i]? = some elems[i]:=List.getElem?_eq_getElem (by omega)
     generalize elems[i]=x at h2
     rw[h2] at h1
     obtain⟨ys,h3,h4⟩:=Option.bind_eq_some_iff.1 h1
     obtain⟨dx,px⟩:=x
     obtain⟨ds,h5,h6⟩:=ih e ys dx px he h4 (weightsAll_mem hw2 dx (List.mem_map.2 ⟨(dx,px),List.mem_of_getElem? h2,rfl⟩))
     exact⟨ds,ys,h5,h6,h3⟩
    obtain⟨f,hf⟩:∃f:Nat→List Dp,∀i,i<len→∃ys,Shp P n e (f i)∧RelPL w av (f i) ys∧w.cells? 0 (a.add (i*P.cellsOf e)) (P.cellsOf e)=some ys:=by
     classical
     refine⟨fun i=>if hi:i<len then Classical.choose (key i hi) else [],fun i hi=>?_⟩
     simp only[dif_pos hi]
     exact Classical.choose_spec (key i hi)
    refine⟨[.sl ((List.range len).map f)],?_,?_⟩
    ·simp only[Shp,hu]
     refine⟨_,rfl,?_,?_⟩
     ·simp only[List.length_map,List.length_range]
      have:len*P.bytesOf e≤(elems.length+rest.length)*P.bytesOf e:=Nat.mul_le_mul_right _ (by omega)
      omega
     ·intro r hr
      obtain⟨i,hi,rfl⟩:=List.mem_map.1 hr
      obtain⟨ys,h1,_⟩:=hf i (by simpa using hi)
      exact h1
    ·simp only[RelPL,RelP,and_true]
     by_cases h0:len=0
     ·subst h0
      exact .inl ⟨by simp,some a,cap,rfl,by simp⟩
     ·have hsp:a.spot=none:=by
       obtain⟨ys,_,_,h3⟩:=hf 0 (by omega)
       obtain⟨h4,h5⟩:=cells_at h3
       have h6:ys[0]? = some ys[0]:=List.getElem?_eq_getElem (by omega)
       have h7:=h5 0 _ h6
       simp only[Nat.zero_mul,Addr.add,if_true] at h7
       unfold World.cell? at h7
       split at h7
       ·split at h7
        ·simp at h7
        ·rename_i hns
         cases hs:a.spot with
         | none=>rfl
         | some _=>simp[hs] at hns
       ·simp at h7
      obtain⟨blk,off,sp⟩:=a
      simp only at hsp
      subst hsp
      refine .inr ⟨blk,off,cap,P.cellsOf e,by simp,by simpa using hle,relRows_of _ _ fun i r hr=>?_⟩
      simp only[List.getElem?_map,Option.map_eq_some_iff] at hr
      obtain⟨j,hj,rfl⟩:=hr
      rw[List.getElem?_eq_some_iff] at hj
      obtain⟨hj1,hj2⟩:=hj
      simp only[List.getElem_range] at hj2
      subst hj2
      obtain⟨ys,h1,h2,h3⟩:=hf i (by simpa using hj1)
      obtain⟨h4,h5⟩:=cells_at h3
      refine⟨by rw[h2.length,h4],relCells_of hav _ _ _ h2 fun k y hy=>?_⟩
      have:=h5 k y hy
      have e1:(((⟨blk,off,none⟩:Addr).add (i*P.cellsOf e)).add k)=⟨blk,off+i*P.cellsOf e+k,none⟩:=by
       rw[addr_add,addr_add]
      rwa[e1] at this
  ·rename_i fs hu
   simp only[Bool.and_eq_true,List.all_eq_true,List.contains_iff_mem] at hp
   obtain⟨hc,hfs⟩:=hp
   obtain⟨xs,m,hm,hx,hlen,hxs,hel⟩:=DataW.trod_struct hu h
   obtain rfl:n=m:=by omega
   simp only[Prod.mk.injEq] at hx
   obtain⟨rfl,_⟩:=hx
   simp only[DataW.weights,hu] at hw
   have key:∀f∈fs.toList,∃ds,Shp P n f.type ds∧RelPL w av ds ((cs.drop f.offset).take (P.cellsOf f.type)):=by
    intro f hf
    obtain⟨i,hi⟩:=List.mem_iff_getElem?.1 hf
    have hi':fs[i]? = some f:=by rw[←Array.getElem?_toList];exact hi
    have hil:i<xs.length:=by
     rw[hxs]
     have:=(Array.getElem?_eq_some_iff.1 hi').1
     exact this
    have h1:=hel i f hi'
    have h2:xs[i]? = some xs[i]:=List.getElem?_eq_getElem hil
    generalize xs[i]=x at h2
    rw[h2] at h1
    obtain⟨dx,px⟩:=x
    exact ih f.type _ dx px (hfs f hf) h1 (weightsEach_at hw i f.type dx (by simp[hi]) (by simp[h2]))
   obtain⟨D,hD,hS⟩:=contig_join hlen fs.toList 0 hc key
   rw[List.drop_zero] at hD
   refine⟨D,?_,hD⟩
   simp only[Shp,hu]
   refine⟨by rw[hD.length,hlen],fun f hf=>?_⟩
   have:=hS f hf
   rwa[Nat.sub_zero] at this
  ·simp at hp
end
theorem av_start(k:Nat):¬avs (fun _=>False) (fun _=>none) [] k:=fun ho=>ho.elim id (fun h=>absurd h own_nil)
open Go Go.RowKit Go.ChangeShapes Go.WideShapes
section
variable {H:Type} {enc:TypeId×Value→H} {P:Program}
theorem trodAll_below(hl:laidOutB P=true){W W':World}(hb:Below W.heap.size W W'):∀{ts:List TypeId} {vs:List Value} {ds:List (DataW H)} {ps:List MemPlace},
  (ts.all fun t=>P.readableRec t&&Dd (t<P.types.size))=true→DataW.TrodAll enc P W 0 (fun _=>true) true ts vs ds ps→(∀x∈ps,x.block<W.heap.size) →
  DataW.TrodAll enc P W' 0 (fun b=>Dd (b<W.heap.size)) true ts vs ds ps
 | [],vs,ds,ps,_,h,_=>by
  obtain⟨rfl,rfl,rfl⟩:=trodAll_nil h
  rfl
 | t::ts,vs,ds,ps,ht,h,hps=>by
  obtain⟨v,vs',d,ds',p,q,rfl,rfl,rfl,h1,h2⟩:=trodAll_cons h
  simp only[List.all_cons,Bool.and_eq_true,decide_eq_true_eq] at ht
  refine⟨p,q,Below.trod hl ht.1.1 ht.1.2 h1 hb (fun x hx=>hps x (List.mem_append_left _ hx)),trodAll_below hl hb (by simpa using ht.2) h2 (fun x hx=>hps x (List.mem_append_right _ hx)),rfl⟩
theorem post_true{f:Func}{s:ChangeSpec}{apart:Bool}{W W':World}{args:Array Value}{ds gs:List (DataW H)}{before:List MemPlace}{b:TypeId}
  (hl:laidOutB P=true) (hp:(f.params.toList.all fun t=>P.readableRec t&&Dd (t<P.types.size))=true) (hv:s.vars=[]) (hr:f.resultTypes=#[b]) (hbt:P.underlying b=some .bool)
  (hW:DataW.Whole enc P f.params.toList s.vars apart W args.toList ds gs before) (hs:s.fn H ds={results:=[.lit (.bool true)],args:=ds}) (hb:Below W.heap.size W W') :
  s.post enc P f apart true false false W args (.bool true) W':=by
 have hW':=hW
 have hlt:=hW.lt
 obtain⟨p,q,hA,hV,rfl,_,_⟩:=hW
 rw[hv] at hV
 obtain⟨rfl,rfl⟩:=trodVars_none hV
 refine⟨ds,[],p++[],[],p,[],hW',?_,?_,?_,hb.frame _,fun h=>by cases h⟩
 ·simp only[List.append_nil,hs,hr,Value.resultList]
  exact⟨[],[],⟨1,by simp[DataW.trod,Value.cells,hbt]⟩,rfl,rfl⟩
 ·simp only[List.append_nil,hs]
  exact trodAll_below hl hb hp hA (fun x hx=>hlt x (by simpa using hx))
 ·simp only[List.append_nil,hs,hv]
  rfl
end
end Go.Vi
namespace Go.Vi
open Go Go.RowKit
theorem rep_startG{Γ:Glob}{w:World}(hg:∀g cs,Γ g=some cs→RelCells w (avs (fun _=>False) (fun _=>none) []) g 0 cs):Rep Γ (fun _=>False) w (fun _=>none) [] :=
 ⟨fun blk ho=>absurd ho own_nil,fun blk ho=>ho.elim,fun b b' x x' k c c' hb=>by simp at hb,fun b x hb=>by simp at hb,hg⟩
theorem ev_callsG{P:Program}{Γ:Glob}{f:FuncId}{args:List D}{d:D}{W:World}{vs:List Value}(hg:∀g cs,Γ g=some cs→RelCells W (avs (fun _=>False) (fun _=>none) []) g 0 cs)(he:Ev P Γ f args [] d [])(hr:RelL W (avs (fun _=>False) (fun _=>none) []) (fun _=>none) [] args vs):
  Calls P f vs.toArray W fun e W'=>∃v,e=.returned v∧Rel W' (fun _=>False) (fun _=>none) [] d v∧Go.RowKit.Below W.heap.size W W':=by
 have h1:=he (fun _=>False) W (fun _=>none) vs (rep_startG hg) hr
 refine(callsIn_wide (n:=0)).1 (CallsIn.mono (h1:CallsIn (FW none) 0 P f _ W _) ?_)
 rintro e W' ⟨v,d2,h2,l',rfl,⟨rfl,rfl⟩,R',E',rd⟩
 refine⟨v,rfl,Rel.mono (fun blk off y hn hc=>⟨hc,fun h=>h.elim⟩) (fun b x hb=>by simp at hb) d2 v rd,?_⟩
 exact⟨E'.tape.2.1,E'.tape.1,E'.tape.2.2.1,E'.size,fun k hk=>E'.same k hk own_nil⟩
end Go.Vi
