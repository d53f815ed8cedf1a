/- LedgerMergeSpec: part of the proof: an evaluator of the model's programs on abstract values, and its soundness. No conditions beyond the given statement's own. -/
import Derived.Test.YtoincdhjcahadaaGreatDoorV7
import Derived.ChangeArms
import Derived.OpenShut
open Decidable renaming decide → Qd
open List renaming getElem?_eq_getElem → C6, getElem?_cons_succ → Eo, mem_of_getElem? → Da, getElem?_eq_some_iff → Cx, map_cons → Ey, mem_map → Di, getElem?_map → D5, getD → Et, all_eq_true → CS, getElem?_append_left → CX, getElem?_append_right → Dc, nodup_nil → GD, flatten_cons → Dz, drop_append → FK, append_assoc → EJ, length_cons → Dk, range → DJ, range' → DW, range_eq_range' → FF, mem_cons → CU, cons_append → Hk, range'_succ → Gx
open Option.some renaming injEq → Cs, inj → E6
open Nat renaming sub_zero → FV, lt_of_lt_of_le → D7, add_mul → D2, eq_of_beq_eq_true → HW, le_refl → CP
open Go.Vi.D renaming mapR → EA, mapRL → ET, innL → Gu, inn → EU
open Go.Vi.Blk renaming mapR → Fu, defd → F3, loop → H3
open Bool renaming and_eq_true → Cy
open Go.CallsIn renaming mono → Ek
open Go.Vi.RelCells renaming mono → Gh
open Go.Vi.AllP renaming append → G1
open Array renaming length_toList → DV, getElem?_toList → Dr, toList_append → GB, replicate → DT, toList_setIfInBounds → FQ, toList_push → H9, toList_map → FC
open Go.Region renaming wanted → Dl, ready → Ef
open Go.Deferred renaming ofValue → Ds
open Go.Sem renaming run_bind → CM, run_pure → CY
open Go.Result renaming andThen_ok → CJ
open Go.Machine renaming fenced → Hd
open Go.StepsIn renaming trans → Fj
open Go.Vi.DefOk renaming mono → Fg
open Go.ComesIn renaming of_steps → GE
open Prod.mk renaming injEq → Cu
open Go.Oper renaming semAt_eq → F5
open Go.DataW renaming weightsEach → Ia
namespace Go.Vi
open Go
theorem Ev.castH{P:Program}{Γ:af}{f:FuncId}{args:List D}{h h' h2:List Blk}{d d2:D}(he:Ev P Γ f args h d h')(hd:d=d2)(hh:h'=h2):Ev P Γ f args h d2 h2:=hd▸hh▸he
theorem CW.cast{P:Program}{Γ:af}{h0:List Blk}{rd:Bool}{c:Code}{s s' s2:AS}{e e2:Exit}(hw:CW P Γ h0 rd c s e s')(he:e=e2)(hs:s'=s2):CW P Γ h0 rd c s e2 s2:=he▸hs▸hw
def forL{α σ ρ:Type}(f:α→σ→σ⊕ρ):List α→σ→σ⊕ρ
 | [],s=>.inl s
 | a::l,s=>match f a s with
  | .inl s'=>forL f l s'
  | .inr r=>.inr r
def aj{σ ρ:Type}(eE:Exit)(sE:σ→AS)(fin:ρ→Exit×AS):σ⊕ρ→Exit×AS
 | .inl s=>(eE,sE s)
 | .inr r=>fin r
def ap{σ ρ:Type}(st:σ→AS)(fin:ρ→Exit×AS):σ⊕ρ→Exit×AS
 | .inl s=>(.normal,st s)
 | .inr r=>fin r
theorem CW.each{P:Program}{Γ:af}{h0:List Blk}{rd:Bool}{c:Code}{α σ ρ:Type}(l:List α)(f:α→σ→σ⊕ρ)(st:Nat→σ→AS)(eE:Exit)(sE:σ→AS)(fin:ρ→Exit×AS)
  (inv:Nat→σ→Prop) (hE:eE ≠ .normal) (hF:∀r,(fin r).1 ≠ .normal)
  (body:∀i a s,l[i]? = some a→inv i s→(∀s',f a s=.inl s'→inv (i+1) s')∧CW P Γ h0 rd c (st i s) (ap (st (i+1)) fin (f a s)).1 (ap (st (i+1)) fin (f a s)).2)
  (last:∀s,inv l.length s→CW P Γ h0 rd c (st l.length s) eE (sE s)) (s:σ) (h:inv 0 s) :
  CW P Γ h0 rd (.loop c) (st 0 s) (aj eE sE fin (forL f l s)).1 (aj eE sE fin (forL f l s)).2:=by
 refine CW.loop (ι:={p:Nat×σ // p.1≤l.length∧inv p.1 p.2}) (fun p=>st p.1.1 p.1.2) (fun p=>aj eE sE fin (forL f (l.drop p.1.1) p.1.2)) (fun p=>l.length - p.1.1) ?_ ⟨(0,s),Nat.zero_le _,h⟩
 rintro⟨⟨i,s⟩,hi,hv⟩
 simp only at hi hv ⊢
 by_cases hlt:i<l.length
 ·have ha:l[i]? = some l[i]:=C6 hlt
  have hd:l.drop i=l[i]::l.drop (i+1):=List.drop_eq_getElem_cons hlt
  obtain⟨b1,b2⟩:=body i _ s ha hv
  rw[hd]
  simp only[forL]
  cases hf:f l[i] s with
  | inl s' =>
   rw[hf] at b2
   exact .inl ⟨⟨(i+1,s'),hlt,b1 _ hf⟩,by simp only;omega,rfl,b2⟩
  | inr r =>
   rw[hf] at b2
   exact .inr ⟨hF r,b2⟩
 ·have:i=l.length:=by omega
  subst this
  rw[List.drop_length]
  exact .inr ⟨hE,last s hv⟩
def aP:Code→Code
 | .rangeFunc _ _ a _=>a
 | _=>.skip
def aq:Code→Code
 | .rangeFunc _ _ _ b=>b
 | _=>.skip
theorem Iv.round{P:Program}{Γ:af}{b:Nat}{args:List D}{h h1 h':List Blk}{pend:Option Code}{f:FuncId}{ts:List D}{ps:Array Tmp}{asg body:Code}{t1:List D}{p1:Option Code}{f1:FuncId}{ts1:List D}{ps1:Array Tmp}
  {a1 b1:Code} {e2:Exit} {s2:AS} {d:D} (hb:h[b]? = some (.loop .ready pend f ts ps asg body)) (hlen:args.length=ps.size)
  (hasg:CW P Γ h true asg {t:=dh ts (ps.toList.zip args),h:=h,m:=[]} .normal {t:=t1,h:=h1,m:=[]})
  (hb1:h1[b]? = some (.loop .ready p1 f1 ts1 ps1 a1 b1))
  (hbody:CW P Γ h true body {t:=t1,h:=h1.set b (.loop .busy p1 f1 ts1 ps1 a1 b1),m:=[]} e2 s2)
  (hend:jp b e2 s2=some (d,h')):Iv P Γ (.ref (.yl b)) args h d h' :=
 j5 hb hlen (fun X r hX=>hasg X r hX (fun h=>by cases h)) hb1 (fun X r hX=>hbody X r hX (fun h=>by cases h)) hend
theorem CW.rangeFunc{P:Program}{Γ:af}(ok:POk P){h0:List Blk}{s s':AS}{g:Operand}{ps:Array Tmp}{asg body:Code}{f:FuncId}{fi ca:List D}{d:D}{h2:List Blk}{e:Exit}(hg:bI (evalD Γ s.t g)=some (f,fi,ca))(hf:dN P f=true)
  (hc:Ev P Γ f (fi++[.ref (.yl (s.h.length+1))]++ca) (s.h++[.defd]++[.loop .ready none 0 s.t ps asg body]) d h2)
  (he:mM s.h.length s.t s.m h2=some (e,s')):CW P Γ h0 false (.rangeFunc g ps asg body) s e s':=by
 intro X r _ hr
 obtain rfl:=hr rfl
 exact VW.rangeFunc ok hg hf (hc.mono fun _ _ hq=>hq.2) he
def Ref.to(n:Nat):Ref→Ref
 | .ptr _ o=>.ptr n o
 | .vec _ e=>.vec n e
 | .vs _ e i k c=>.vs n e i k c
 | .av _ o k s=>.av n o k s
 | .vp _ e i j=>.vp n e i j
 | .mp _=>.mp n
 | .it _=>.it n
 | .yl _=>.yl n
def idx(x:Nat):Nat→List Nat→Option Nat
 | _,[]=>none
 | k,y::ys=>match x==y with
  | true=>some k
  | false=>idx x (k+1) ys
theorem fh{x:Nat}:∀{ys:List Nat} {k i:Nat},idx x k ys=some i→k≤i∧ys[i - k]? = some x
 | [],k,i,h=>by simp[idx] at h
 | y::ys,k,i,h=>by
  unfold idx at h
  split at h
  ·rename_i e
   simp only[Cs] at h
   subst h
   simp only[beq_iff_eq] at e
   subst e
   simp
  ·obtain⟨h1,h2⟩:=fh h
   refine⟨by omega,?_⟩
   rw[show i - k=(i - (k+1))+1 by omega,Eo]
   exact h2
theorem m9{x:Nat}:∀{ys:List Nat} {k:Nat},idx x k ys=none→x ∉ ys
 | [],k,_=>by simp
 | y::ys,k,h=>by
  unfold idx at h
  split at h
  ·simp at h
  ·rename_i e
   simp only[beq_eq_false_iff_ne,ne_eq] at e
   simp[e,m9 h]
theorem qR{x:Nat}{ys:List Nat}{i:Nat}(hn:ys.Nodup)(h:ys[i]? = some x):idx x 0 ys=some i:=by
 cases hi:idx x 0 ys with
 | none=>exact absurd (Da h) (m9 hi)
 | some j =>
  obtain⟨_,h2⟩:=fh hi
  simp only[FV] at h2
  have hj:=(Cx.1 h2).1
  have hi':=(Cx.1 h).1
  rw[C6 hj] at h2
  rw[C6 hi'] at h
  have:ys[j]=ys[i]:=by simp only[Cs] at h h2;rw[h,h2]
  rw[(List.getElem_inj hn).1 this]
def inv(is:List Nat)(r:Ref):D:=match idx r.blk 0 is with
 | some i=>.ref (r.to i)
 | none=>.any
def fwd(is:List Nat)(m:Nat)(r:Ref):D:=match is[r.blk]? with
 | some i=>.ref (r.to i)
 | none=>.ref (r.to (m+(r.blk - is.length)))
def lq:Blk→Bool
 | .mit ..=>true
 | _=>false
section
variable {w:World} {av av':Nat→Prop} {l l':Loc} {h h':List Blk} {f:Ref→D}
mutual
theorem eO(ha:∀k,av' k→av k)(hf:∀r y,RefRel l h r y→Rel w av' l' h' (f r) y):∀{d:D} {y:Value},Rel w av l h d y→Rel w av' l' h' (EA f d) y
 | .p _,_,r=>by simp only[Rel,EA] at r ⊢;exact cW ha r
 | .any,_,_=>by simp[Rel,EA]
 | .ref r,y,rr=>by simp only[EA];exact hf r y (by simpa only [Rel] using rr)
 | .ep _,_,r=>by
  simp only[Rel,EA] at r ⊢
  obtain⟨blk,off,r1,r2⟩:=r
  exact⟨blk,off,r1,ar ha r2⟩
 | .csl _,_,r=>by
  simp only[Rel,EA] at r ⊢
  rcases r with r|⟨blk,off,sz,r1,r2⟩
  ·exact .inl r
  ·exact .inr ⟨blk,off,sz,r1,bk ha r2⟩
 | .fn _ _ _,_,r=>by
  simp only[Rel,EA] at r ⊢
  obtain⟨a,c,r1,r2,r3⟩:=r
  exact⟨a,c,r1,bw ha hf r2,bw ha hf r3⟩
 | .agg _,_,r=>by
  simp only[Rel,EA] at r ⊢
  obtain⟨vs,r1,r2⟩:=r
  exact⟨vs,r1,bw ha hf r2⟩
 | .tup _,_,r=>by
  simp only[Rel,EA] at r ⊢
  obtain⟨vs,r1,r2⟩:=r
  exact⟨vs,r1,bw ha hf r2⟩
 | .grd _ _,_,r=>by
  simp only[Rel,EA] at r ⊢
  exact⟨fun hg=>eO ha hf (r.1 hg),r.2⟩
theorem bw(ha:∀k,av' k→av k)(hf:∀r y,RefRel l h r y→Rel w av' l' h' (f r) y):∀{ds:List D} {ys:List Value},RelL w av l h ds ys→RelL w av' l' h' (ET f ds) ys
 | [],[],_=>by simp[RelL,ET]
 | [],_::_,r=>by simp[RelL] at r
 | _::_,[],r=>by simp[RelL] at r
 | _::_,_::_,r=>by
  simp only[RelL,ET] at r ⊢
  exact⟨eO ha hf r.1,bw ha hf r.2⟩
end
theorem ku(ha:∀k,av' k→av k)(hf:∀r y,RefRel l h r y→Rel w av' l' h' (f r) y):∀{kvs:List (D×D×Nat)} {es:List MapEntry},RelKV w av l h kvs es →
  RelKV w av' l' h' (kvs.map fun e=>(EA f e.1,EA f e.2.1,e.2.2)) es
 | [],[],_=>by simp[RelKV]
 | [],_::_,r=>by simp[RelKV] at r
 | _::_,[],r=>by simp[RelKV] at r
 | (k,d,m)::kvs,e::es,r=>by
  simp only[RelKV,Ey] at r ⊢
  exact⟨eO ha hf r.1,eO ha hf r.2.1,r.2.2.1,ku ha hf r.2.2.2⟩
theorem kv(ha:∀k,av' k→av k)(hf:∀r y,RefRel l h r y→Rel w av' l' h' (f r) y){b b':Nat}(hl:l' b'=l b){x:Blk}(hm:lq x=false)(r:BlkOk w av l h b x):BlkOk w av' l' h' b' (x.mapR f):=by
 cases x with
 | var cs =>
  obtain⟨blk,cp,c,T,r1,r2,r3⟩:=r
  exact⟨blk,cp,c,T,hl.trans r1,r2,bw ha hf r3⟩
 | vec es e sz =>
  unfold BlkOk at r ⊢
  simp only[Fu,hl] at r ⊢
  split
  ·rename_i h0;rw[h0] at r;simp only at r;rw[r];rfl
  ·rename_i blk cap h0
   rw[h0] at r
   obtain⟨oo,cc,rc,c,T,fr,ys,r1,r2,r3,r4,r5,r6,r7⟩:=r
   refine⟨oo,cc,rc,c,T,fr,ys,r1,r2,by simpa using r3,r4,?_,?_,r7⟩
   ·intro e he
    obtain⟨e0,he0,rfl⟩:=Di.1 he
    rw[eI];exact r5 e0 he0
   ·rw[←dV];exact bw ha hf r6
 | map kvs clock =>
  obtain⟨blk,cp,es,r1,r2,r3⟩:=r
  exact⟨blk,cp,es,hl.trans r1,r2,ku ha hf r3⟩
 | sit s pos =>
  obtain⟨blk,cp,r1,r2⟩:=r
  exact⟨blk,cp,hl.trans r1,r2⟩
 | mit m since seen st=>simp[lq] at hm
 | loop st pend fn tmps params asg body =>
  obtain⟨blk,cp,ts,dr,fn',r1,r2,r3,r4⟩:=r
  exact⟨blk,cp,ts,dr,fn',hl.trans r1,r2,bw ha hf r3,r4⟩
 | defd =>
  obtain⟨blk,cp,r1,r2⟩:=r
  exact⟨blk,cp,hl.trans r1,r2⟩
 | gone=>trivial
end
theorem sH{f:Ref→D}(x:Blk):lq (x.mapR f)=lq x:=by cases x<;>rfl
theorem qS{f g:Ref→D}{x y:Blk}(h:(x.mapR f).le y):x.le (y.mapR g)∧(x.stays (y.mapR g)→(x.mapR f).stays y):=by
 cases x<;>cases y<;>simp only[Blk.le,Fu] at h<;>simp_all[Blk.le,Fu,Blk.stays]
theorem kw{l l':Loc}{h h':List Blk}{f:Ref→D}{r:Ref}{n:Nat}{x:Blk}{y:Value}(hx:h[r.blk]? = some x)(hx':h'[n]? = some (x.mapR f))(hl:l' n=l r.blk)(rr:RefRel l h r y):RefRel l' h' (r.to n) y:=by
 unfold RefRel at rr ⊢
 refine⟨rr.1,?_⟩
 have rr:=rr.2
 cases r<;>simp only[Ref.blk] at hx hl<;>simp only[hx] at rr<;>simp only[Ref.to,hx',hl]<;>cases x<;>simp[Fu] at rr ⊢ <;> exact rr
theorem kx{l:Loc}{h:List Blk}{r:Ref}{y:Value}(rr:RefRel l h r y):∃x,h[r.blk]? = some x:=by
 unfold RefRel at rr
 have rr:=rr.2
 cases hx:h[r.blk]? with
 | some x=>exact⟨x,rfl⟩
 | none=>cases r<;>simp only[Ref.blk] at hx<;>simp only[hx] at rr
def pick(is:List Nat)(H:List Blk):List Blk:=is.map fun i=>(H.getD i .gone).mapR (inv is)
theorem jv{is:List Nat}{H:List Blk}{b:Nat}{x:Blk}(h:(pick is H)[b]? = some x):∃i,is[b]? = some i∧x=(H.getD i .gone).mapR (inv is):=by
 unfold pick at h
 rw[D5] at h
 cases hi:is[b]? with
 | none=>rw[hi] at h;simp at h
 | some i=>rw[hi] at h;exact⟨i,rfl,by simpa using h.symm⟩
section
variable {Γ:af} {O:Nat→Prop} {w:World} {l:Loc} {H:List Blk} {is:List Nat}
def na(is:List Nat)(l:Loc):Loc:=fun b=>match is[b]? with
 | some i=>l i
 | none=>none
theorem qT{k:Nat}(ho:own (na is l) (pick is H) k):∃(b i cp:Nat) (x:Blk),is[b]? = some i∧H[i]? = some x∧x ≠ .gone∧l i=some (k,cp):=by
 obtain⟨b,x,cp,h1,h2,h3⟩:=ho
 obtain⟨i,hi,rfl⟩:=jv h1
 unfold na at h3
 rw[hi] at h3
 have hg:H.getD i .gone ≠ .gone:=fun e=>h2 (by rw[e];rfl)
 refine⟨b,i,cp,H.getD i .gone,hi,?_,hg,h3⟩
 cases hx:H[i]? with
 | none=>simp[Et,hx] at hg
 | some x=>simp[Et,hx]
theorem cf{k:Nat}(ho:own (na is l) (pick is H) k):own l H k:=by
 obtain⟨b,i,cp,x,_,h2,h3,h4⟩:=qT ho
 exact⟨i,x,cp,h2,h3,h4⟩
theorem lY(_hn:is.Nodup){r:Ref}{y:Value}(rr:RefRel l H r y){av:Nat→Prop}:Rel w av (na is l) (pick is H) (inv is r) y:=by
 unfold inv
 cases hi:idx r.blk 0 is with
 | none=>simp[Rel]
 | some i =>
  obtain⟨_,h2⟩:=fh hi
  simp only[FV] at h2
  obtain⟨x,hx⟩:=kx rr
  simp only[Rel]
  refine kw (f:=inv is) hx ?_ ?_ rr
  ·unfold pick
   rw[D5,h2]
   simp[Et,hx]
  ·unfold na
   rw[h2]
theorem Rep.pick(R:Rep Γ O w l H)(hn:is.Nodup)(hm:(pick is H).all (fun x=>!lq x)=true){O':Nat→Prop}(hO:∀k,avs O' (na is l) (Vi.pick is H) k→avs O l H k)(hO2:∀k,O' k→avs O l H k∧¬own (na is l) (Vi.pick is H) k):
  Rep Γ O' w (na is l) (Vi.pick is H) where
 inb k ho:=⟨(R.inb k (cf ho)).1,fun h'=>(hO2 k h').2 ho⟩
 obd k ho:=by
  rcases(hO2 k ho).1 with h'|h'
  ·exact R.obd k h'
  ·exact(R.inb k h').1
 inj b b' x x' k c c' h1 h2 h3 h4 h5 h6:=by
  obtain⟨i,hi,rfl⟩:=jv h1
  obtain⟨i',hi',rfl⟩:=jv h3
  unfold na at h5 h6
  rw[hi] at h5;rw[hi'] at h6
  have g1:H.getD i .gone ≠ .gone:=fun e=>h2 (by rw[e];rfl)
  have g2:H.getD i' .gone ≠ .gone:=fun e=>h4 (by rw[e];rfl)
  have e1:H[i]? = some (H.getD i .gone):=by
   cases hx:H[i]? with
   | none=>simp[Et,hx] at g1
   | some x=>simp[Et,hx]
  have e2:H[i']? = some (H.getD i' .gone):=by
   cases hx:H[i']? with
   | none=>simp[Et,hx] at g2
   | some x=>simp[Et,hx]
  have:=R.inj i i' _ _ k c c' e1 g1 e2 g2 h5 h6
  subst this
  have a1:=qR hn hi
  have a2:=qR hn hi'
  rw[a1] at a2
  exact E6 a2
 blk b x h1:=by
  obtain⟨i,hi,rfl⟩:=jv h1
  cases hx:H[i]? with
  | none=>simp[Et,hx,Fu,BlkOk]
  | some x =>
   have hg:H.getD i .gone=x:=by simp[Et,hx]
   rw[hg] at h1 ⊢
   refine kv hO (fun r y rr=>lY hn rr) (b:=i) ?_ ?_ (R.blk i x hx)
   ·unfold na;rw[hi]
   ·have:=CS.1 hm _ (Da h1)
    rw[sH] at this
    simpa using this
 glo g cs hg:=ar hO (R.glo g cs hg)
end
def ei(is:List Nat)(m:Nat)(h':List Blk):Nat→List Blk→List Blk
 | _,[]=>[]
 | b,x::xs=>(match idx b 0 is with
  | some i=>(h'.getD i .gone).mapR (fwd is m)
  | none=>x)::ei is m h' (b+1) xs
def lZ(is:List Nat)(h':List Blk)(H:List Blk):List Blk:=ei is H.length h' 0 H++(h'.drop is.length).map (Fu (fwd is H.length))
theorem bZ{is:List Nat}{m:Nat}{h':List Blk}:∀(b:Nat) (xs:List Blk),(ei is m h' b xs).length=xs.length
 | _,[]=>rfl
 | b,x::xs=>by simp[ei,bZ (b+1) xs]
theorem iC{is:List Nat}{m:Nat}{h':List Blk}:∀(b:Nat) (xs:List Blk) (j:Nat),(ei is m h' b xs)[j]? = (xs[j]?).map fun x=>match idx (b+j) 0 is with|some i=>(h'.getD i .gone).mapR (fwd is m)|none=>x
 | b,[],j=>by simp[ei]
 | b,x::xs,0=>by simp[ei]
 | b,x::xs,j+1=>by
  simp only[ei,Eo]
  rw[iC (b+1) xs j,show b+1+j=b+(j+1) by omega]
section
variable {is:List Nat} {h' H:List Blk}
theorem qU{b:Nat}{x:Blk}(hx:H[b]? = some x)(hi:idx b 0 is=none):(lZ is h' H)[b]? = some x:=by
 have hlt:=(Cx.1 hx).1
 unfold lZ
 rw[CX (by rw[bZ];exact hlt),iC,hx]
 simp[hi]
theorem pU{b i:Nat}{x:Blk}(hx:H[b]? = some x)(hi:idx b 0 is=some i):(lZ is h' H)[b]? = some ((h'.getD i .gone).mapR (fwd is H.length)):=by
 have hlt:=(Cx.1 hx).1
 unfold lZ
 rw[CX (by rw[bZ];exact hlt),iC,hx]
 simp[hi]
theorem qV{j:Nat}:(lZ is h' H)[H.length+j]? = (h'[is.length+j]?).map (Fu (fwd is H.length)):=by
 unfold lZ
 rw[Dc (by rw[bZ];omega),bZ,D5,List.getElem?_drop]
 simp
theorem putB_cases{b:Nat}{x:Blk}(h:(lZ is h' H)[b]? = some x):
  (idx b 0 is=none∧H[b]? = some x)∨(∃i,b<H.length∧idx b 0 is=some i∧x=(h'.getD i .gone).mapR (fwd is H.length))∨∃j y,b=H.length+j∧h'[is.length+j]? = some y∧x=y.mapR (fwd is H.length):=by
 by_cases hb:b<H.length
 ·have hx:H[b]? = some H[b]:=C6 hb
  cases hi:idx b 0 is with
  | none=>rw[qU hx hi] at h;cases h;exact .inl ⟨rfl,hx⟩
  | some i=>rw[pU hx hi] at h;cases h;exact .inr (.inl ⟨i,hb,rfl,rfl⟩)
 ·obtain⟨j,rfl⟩:∃j,b=H.length+j:=⟨b - H.length,by omega⟩
  rw[qV] at h
  cases hy:h'[is.length+j]? with
  | none=>rw[hy] at h;simp at h
  | some y=>rw[hy] at h;exact .inr (.inr ⟨j,y,rfl,hy,by simpa using h.symm⟩)
end
def qW(is:List Nat)(m:Nat)(l l0:Loc):Loc:=fun b=>match idx b 0 is with
 | some i=>l0 i
 | none=>match Qd (b<m) with
  | true=>l b
  | false=>l0 (is.length+(b - m))
theorem Ev.frame{P:Program}{Γ:af}{f:FuncId}{args0 args:List D}{h0 h0' H:List Blk}{d0:D}(is:List Nat)(he:Ev P Γ f args0 h0 d0 h0')(hn:is.Nodup)(hb:∀i∈is,i<H.length)
  (ha:ET (inv is) args=args0) (hh:pick is H=h0) (hm:(h0.all (fun x=>!lq x)&&h0'.all (fun x=>!lq x))=true) :
  Ev P Γ f args H (d0.mapR (fwd is H.length)) (lZ is h0' H):=by
 simp only[Cy] at hm
 subst hh ha
 intro O w l vs R ra
 let O':Nat→Prop:=fun k=>avs O l H k∧¬own (na is l) (pick is H) k
 have hO1:∀k,avs O' (na is l) (pick is H) k→avs O l H k:=fun k ho=>ho.elim (·.1) (fun h=>.inr (cf h))
 have hO2:∀k,avs O l H k→avs O' (na is l) (pick is H) k:=fun k ho=>by
  by_cases h:own (na is l) (pick is H) k
  ·exact .inr h
  ·exact .inl ⟨ho,h⟩
 have R0:Rep Γ O' w (na is l) (pick is H):=R.pick hn hm.1 hO1 (fun k h=>h)
 have ra0:RelL w (avs O' (na is l) (pick is H)) (na is l) (pick is H) (ET (inv is) args) vs:=bw hO1 (fun r y rr=>lY hn rr) ra
 refine Ek (he O' w (na is l) vs R0 ra0) ?_
 rintro e w' ⟨v,d2,h2,l',rfl,⟨rfl,rfl⟩,R',E',rd⟩
 have hlen:is.length≤h2.length:=by
  rcases Nat.lt_or_ge h2.length is.length with hlt|hge
  ·exfalso
   have hp:(pick is H)[h2.length]? ≠ none:=by
    unfold pick;rw[D5];simp[hlt]
   cases hx:(pick is H)[h2.length]? with
   | none=>exact hp hx
   | some x =>
    obtain⟨x',h1,_⟩:=E'.keep _ x hx
    simp at h1
  ·exact hge
 have hisP:∀{b i:Nat},is[b]? = some i→∃x,H[i]? = some x∧(pick is H)[b]? = some (x.mapR (inv is)):=fun {b i} hi=>by
  have hlt:=hb i (Da hi)
  refine⟨H[i],C6 hlt,?_⟩
  unfold pick
  rw[D5,hi]
  simp[Et,C6 hlt]
 have L1:∀{i b:Nat},is[i]? = some b→qW is H.length l l' b=l' i:=fun {i b} hi=>by
  unfold qW;rw[qR hn hi]
 have L2:∀{b:Nat},idx b 0 is=none→b<H.length→qW is H.length l l' b=l b:=fun {b} h1 h2=>by
  unfold qW;rw[h1];simp[h2]
 have L3:∀{j:Nat},qW is H.length l l' (H.length+j)=l' (is.length+j):=fun {j}=>by
  unfold qW
  have:idx (H.length+j) 0 is=none:=by
   cases hi:idx (H.length+j) 0 is with
   | none=>rfl
   | some i =>
    obtain⟨_,h2⟩:=fh hi
    have:=hb _ (Da h2)
    omega
  rw[this]
  have:Qd (H.length+j<H.length)=false:=by simp
  simp only[this,show is.length+(H.length+j - H.length)=is.length+j by omega]
 have back:∀{b:Nat} {x:Blk},(lZ is h2 H)[b]? = some x→(idx b 0 is=none∧H[b]? = some x)∨∃i y,h2[i]? = some y∧x=y.mapR (fwd is H.length)∧qW is H.length l l' b=l' i∧(∀b' x',(lZ is h2 H)[b']? = some x'→(idx b' 0 is=none∧H[b']? = some x')∨∃i' y',h2[i']? = some y'∧x'=y'.mapR (fwd is H.length)∧qW is H.length l l' b'=l' i'∧(i=i'→b=b')):=by
  have one:∀{b:Nat} {x:Blk},(lZ is h2 H)[b]? = some x→(idx b 0 is=none∧H[b]? = some x)∨∃i y,h2[i]? = some y∧x=y.mapR (fwd is H.length)∧qW is H.length l l' b=l' i∧((i<is.length∧is[i]? = some b)∨(is.length≤i∧b=H.length+(i - is.length))):=by
   intro b x hx
   rcases putB_cases hx with h|⟨i,h1,h3,rfl⟩|⟨j,y,rfl,h3,rfl⟩
   ·exact .inl h
   ·obtain⟨_,h4⟩:=fh h3
    simp only[FV] at h4
    have hi:=(Cx.1 h4).1
    have:h2[i]? = some (h2.getD i .gone):=by
     rw[Et,C6 (by omega)];rfl
    exact .inr ⟨i,_,this,rfl,L1 h4,.inl ⟨hi,h4⟩⟩
   ·exact .inr ⟨_,y,h3,rfl,L3,.inr ⟨by omega,by omega⟩⟩
  intro b x hx
  rcases one hx with h|⟨i,y,h1,h3,h4,h5⟩
  ·exact .inl h
  ·refine .inr ⟨i,y,h1,h3,h4,fun b' x' hx'=>?_⟩
   rcases one hx' with h|⟨i',y',g1,g3,g4,g5⟩
   ·exact .inl h
   ·refine .inr ⟨i',y',g1,g3,g4,fun e=>?_⟩
    subst e
    rcases h5 with ⟨a1,a2⟩|⟨a1,a2⟩<;>rcases g5 with ⟨c1,c2⟩|⟨c1,c2⟩
    ·rw[a2] at c2;exact E6 c2
    ·omega
    ·omega
    ·omega
 have hgone:∀{y:Blk},y.mapR (fwd is H.length) ≠ .gone→y ≠ .gone:=fun {y} h e=>h (by rw[e];rfl)
 have oldO:∀{b:Nat} {x:Blk} {k c:Nat},idx b 0 is=none→H[b]? = some x→x ≠ .gone→l b=some (k,c)→O' k:=fun {b x k c} hi hx hg hl=>by
  refine⟨.inr ⟨b,x,c,hx,hg,hl⟩,fun ho=>?_⟩
  obtain⟨b',i,cp,x',q1,q2,q3,q4⟩:=qT ho
  have:=R.inj b i x x' k c cp hx hg q2 q3 hl q4
  subst this
  exact m9 hi (Da q1)
 have ownL:∀{k:Nat},own (qW is H.length l l') (lZ is h2 H) k→own l' h2 k∨(own l H k∧O' k):=fun {k} ⟨b,x,cp,g1,g2,g3⟩=>by
  rcases back g1 with ⟨a1,a2⟩|⟨i,y,a1,a2,a3,_⟩
  ·have hlt:=(Cx.1 a2).1
   rw[L2 a1 hlt] at g3
   exact .inr ⟨⟨b,x,cp,a2,g2,g3⟩,oldO a1 a2 g2 g3⟩
  ·rw[a3] at g3
   exact .inl ⟨i,y,cp,a1,hgone (a2▸g2),g3⟩
 have avL:∀k,avs O (qW is H.length l l') (lZ is h2 H) k→avs O' l' h2 k:=fun k ho=>by
  rcases ho with ho|ho
  ·refine .inl ⟨.inl ho,fun h=>(R.inb k (cf h)).2 ho⟩
  ·rcases ownL ho with h|h
   ·exact .inr h
   ·exact .inl h.2
 have hf:∀(r:Ref) (y:Value),RefRel l' h2 r y→Rel w' (avs O (qW is H.length l l') (lZ is h2 H)) (qW is H.length l l') (lZ is h2 H) (fwd is H.length r) y:=fun r y rr=>by
  obtain⟨x,hx⟩:=kx rr
  unfold fwd
  cases hi:is[r.blk]? with
  | some b =>
   simp only[Rel]
   obtain⟨x0,q1,_⟩:=hisP hi
   refine kw hx ?_ (L1 hi) rr (f:=fwd is H.length)
   rw[pU q1 (qR hn hi)]
   simp[Et,hx]
  | none =>
   simp only[Rel]
   have hge:is.length≤r.blk:=by simpa using hi
   refine kw hx ?_ ?_ rr (f:=fwd is H.length)
   ·rw[qV,show is.length+(r.blk - is.length)=r.blk by omega,hx];rfl
   ·rw[L3,show is.length+(r.blk - is.length)=r.blk by omega]
 have E:Ext w l H w' (qW is H.length l l') (lZ is h2 H):=by
  refine⟨E'.size,fun blk hlt hno=>E'.same blk hlt (fun ho=>hno (cf ho)),fun blk ho=>?_,fun b x hx=>?_,E'.tape⟩
  ·rcases ownL ho with h|h
   ·rcases E'.news blk h with h|h
    ·exact .inl (cf h)
    ·exact .inr h
   ·exact .inl h.1
  ·have hlt:=(Cx.1 hx).1
   cases hi:idx b 0 is with
   | none=>exact⟨x,qU hx hi,x.le_refl,fun _=>L2 hi hlt⟩
   | some i =>
    obtain⟨_,h4⟩:=fh hi
    simp only[FV] at h4
    obtain⟨x0,q1,q2⟩:=hisP h4
    rw[hx] at q1;cases q1
    obtain⟨x',k1,k2,k3⟩:=E'.keep i _ q2
    have hgd:h2.getD i .gone=x':=by simp[Et,k1]
    refine⟨_,pU hx hi,?_,fun hs=>?_⟩
    ·rw[hgd];exact(qS k2).1
    ·rw[hgd] at hs
     rw[L1 h4,k3 ((qS k2).2 hs)]
     unfold na;rw[h4]
 refine⟨v,_,_,_,rfl,⟨rfl,rfl⟩,⟨fun k ho=>?_,fun k ho=>D7 (R.obd k ho) E'.size,?_,fun b x hx=>?_,fun g cs hg=>?_⟩,E,?_⟩
 ·rcases ownL ho with h|h
  ·obtain⟨p1,p2⟩:=R'.inb k h
   refine⟨p1,fun hk=>p2 ⟨.inl hk,fun ho'=>(R.inb k (cf ho')).2 hk⟩⟩
  ·obtain⟨p1,p2⟩:=R.inb k h.1
   exact⟨D7 p1 E'.size,p2⟩
 ·intro b b' x x' k c c' g1 g2 g3 g4 g5 g6
  rcases back g1 with ⟨a1,a2⟩|⟨i,y,a1,a2,a3,a4⟩
  ·have hlt:=(Cx.1 a2).1
   rw[L2 a1 hlt] at g5
   rcases back g3 with ⟨d1,d2⟩|⟨i',y',d1,d2,d3,_⟩
   ·have hlt':=(Cx.1 d2).1
    rw[L2 d1 hlt'] at g6
    exact R.inj b b' x x' k c c' a2 g2 d2 g4 g5 g6
   ·rw[d3] at g6
    exact absurd (oldO a1 a2 g2 g5) (R'.inb k ⟨i',y',c',d1,hgone (d2▸g4),g6⟩).2
  ·rw[a3] at g5
   rcases a4 b' x' g3 with ⟨d1,d2⟩|⟨i',y',d1,d2,d3,d4⟩
   ·have hlt':=(Cx.1 d2).1
    rw[L2 d1 hlt'] at g6
    exact absurd (oldO d1 d2 g4 g6) (R'.inb k ⟨i,y,c,a1,hgone (a2▸g2),g5⟩).2
   ·rw[d3] at g6
    exact d4 (R'.inj i i' y y' k c c' a1 (hgone (a2▸g2)) d1 (hgone (d2▸g4)) g5 g6)
 ·rcases back hx with ⟨a1,a2⟩|⟨i,y,a1,rfl,a3,_⟩
  ·have hlt:=(Cx.1 a2).1
   by_cases hg:x=.gone
   ·subst hg;trivial
   refine BlkOk.ext E (L2 a1 hlt) (fun blk cp hl=>?_) (R.blk b x a2)
   exact E'.same blk (R.inb blk ⟨b,x,cp,a2,hg,hl⟩).1 (oldO a1 a2 hg hl).2
  ·refine kv avL hf a3 ?_ (R'.blk i y a1)
   have:=CS.1 hm.2 y (Da a1)
   simpa using this
 ·exact Gh E.hc g 0 cs (R.glo g cs hg)
 ·exact eO avL hf rd
def qX:List Nat→Bool
 | []=>true
 | x::xs=>!t3 x xs&&qX xs
theorem l4:∀{xs:List Nat},qX xs=true→xs.Nodup
 | [],_=>GD
 | x::xs,h=>by
  simp only[qX,Cy,Bool.not_eq_true'] at h
  refine List.nodup_cons.2 ⟨fun hm=>?_,l4 h.2⟩
  rw[dX.2 hm] at h
  simp at h
def wz(is:List Nat)(H:List Blk):List Nat→List Blk
 | []=>[]
 | i::js=>keepX (inv is) (H.getD i .gone)::wz is H js
def zy(is:List Nat)(H:List Blk):List Nat→List Prop
 | []=>[]
 | i::js=>ln (inv is) (H.getD i .gone)++zy is H js
theorem qY{is:List Nat}{H:List Blk}:∀{js:List Nat},AllP (zy is H js)→wz is H js=js.map fun i=>(H.getD i .gone).mapR (inv is)
 | [],_=>rfl
 | i::js,h=>by
  obtain⟨h1,h2⟩:=G1 (ps:=ln (inv is) (H.getD i .gone)) h
  simp only[wz,Ey,jr h1,qY h2]
def nb(is:List Nat)(m:Nat)(h':List Blk):Nat→List Blk→List Blk
 | _,[]=>[]
 | b,x::xs=>(match idx b 0 is with
  | some i=>keepX (fwd is m) (h'.getD i .gone)
  | none=>x)::nb is m h' (b+1) xs
def mapX(f:Ref→D):List Blk→List Blk
 | []=>[]
 | x::xs=>keepX f x::mapX f xs
def mapP(f:Ref→D):List Blk→List Prop
 | []=>[]
 | x::xs=>ln f x++mapP f xs
theorem ui{f:Ref→D}:∀{h:List Blk},AllP (mapP f h)→mapX f h=h.map (Fu f)
 | [],_=>rfl
 | x::xs,h=>by
  obtain⟨h1,h2⟩:=G1 (ps:=ln f x) h
  simp only[mapX,Ey,jr h1,ui h2]
theorem qZ{f:Ref→D}:∀{h:List Blk} (i:Nat),AllP (mapP f h)→AllP (ln f (h.getD i .gone))
 | [],i,_=>by simp[ln,AllP]
 | x::xs,i,h=>by
  obtain⟨h1,h2⟩:=G1 (ps:=ln f x) h
  cases i with
  | zero=>exact h1
  | succ i=>simpa using qZ i h2
theorem oP{f:Ref→D}:∀{h:List Blk} (i:Nat),AllP (mapP f h)→AllP (mapP f (h.drop i))
 | [],i,_=>by simp[mapP,AllP]
 | x::xs,i,h=>by
  cases i with
  | zero=>exact h
  | succ i =>
   obtain⟨h1,h2⟩:=G1 (ps:=ln f x) h
   exact oP i h2
theorem l5{is:List Nat}{m:Nat}{h':List Blk}(hp:AllP (mapP (fwd is m) h')):∀(b:Nat) (xs:List Blk),nb is m h' b xs=ei is m h' b xs
 | _,[]=>rfl
 | b,x::xs=>by
  simp only[nb,ei,l5 hp (b+1) xs]
  cases idx b 0 is with
  | none=>rfl
  | some i=>simp only[jr (qZ i hp)]
def putX(is:List Nat)(h':List Blk)(H:List Blk):List Blk:=nb is H.length h' 0 H++mapX (fwd is H.length) (h'.drop is.length)
theorem zz{is:List Nat}{h' H:List Blk}(hp:AllP (mapP (fwd is H.length) h')):putX is h' H=lZ is h' H:=by
 unfold putX lZ
 rw[l5 hp,ui (oP _ hp)]
def uj(is:List Nat)(h0 h0' H:List Blk):Bool:=qX is&&is.all (fun i=>Qd (i<H.length))&&(h0.all (fun x=>!lq x)&&h0'.all (fun x=>!lq x))
theorem Ev.frameX{P:Program}{Γ:af}{f:FuncId}{args0 args:List D}{h0 h0' H:List Blk}{d0:D}(is:List Nat)(he:Ev P Γ f args0 h0 d0 h0')(hk:uj is h0 h0' H=true)
  (ha:ET (inv is) args=args0) (hh:wz is H is=h0) (p1:AllP (zy is H is)) (p2:AllP (mapP (fwd is H.length) h0')):Ev P Γ f args H (d0.mapR (fwd is H.length)) (putX is h0' H):=by
 simp only[uj,Cy] at hk
 rw[zz p2]
 refine Ev.frame is he (l4 hk.1.1) (fun i hi=>?_) ha ?_ (by rw[hk.2.1,hk.2.2];rfl)
 ·have:=CS.1 hk.1.2 i hi
  simpa using this
 ·rw[←hh,qY p1];rfl
def fwd0(m:Nat)(r:Ref):D:=.ref (r.to (m+r.blk))
theorem ul(m:Nat):fwd [] m=fwd0 m:=by
 funext r;simp[fwd,fwd0]
theorem Ev.frameN{P:Program}{Γ:af}{f:FuncId}{args:List D}{h0':List Blk}{d0:D}(he:Ev P Γ f args [] d0 h0')(hm:h0'.all (fun x=>!lq x)=true)
  (ha:Gu 0 args=true) (h:List Blk):Ev P Γ f args h (d0.mapR (fwd0 h.length)) (h++h0'.map (Fu (fwd0 h.length))):=by
 have hr:∀(f:Ref→D),(∀d,EU 0 d=true→EA f d=d)∧∀ds,Gu 0 ds=true→ET f ds=ds:=fun f=>by
  refine⟨?_,?_⟩
  ·intro d
   refine D.rec (motive_1:=fun d=>EU 0 d=true→EA f d=d) (motive_2:=fun ds=>Gu 0 ds=true→ET f ds=ds) ?_ ?_ ?_ ?_ ?_ ?_ ?_ ?_ ?_ ?_ ?_ d
   ·intros;rfl
   ·intros;rfl
   ·intro r h;cases r<;>simp[EU] at h
   ·intros;rfl
   ·intros;rfl
   ·intro g a b ih1 ih2 h;simp only[EU,Cy] at h;simp only[EA,ih1 h.1,ih2 h.2]
   ·intro cs ih h;simp only[EU] at h;simp only[EA,ih h]
   ·intro cs ih h;simp only[EU] at h;simp only[EA,ih h]
   ·intro g d ih h;simp only[EU] at h;simp only[EA,ih h]
   ·intros;rfl
   ·intro d ds ih1 ih2 h;simp only[Gu,Cy] at h;simp only[ET,ih1 h.1,ih2 h.2]
  ·intro ds
   refine D.rec_1 (motive_1:=fun d=>EU 0 d=true→EA f d=d) (motive_2:=fun ds=>Gu 0 ds=true→ET f ds=ds) ?_ ?_ ?_ ?_ ?_ ?_ ?_ ?_ ?_ ?_ ?_ ds
   ·intros;rfl
   ·intros;rfl
   ·intro r h;cases r<;>simp[EU] at h
   ·intros;rfl
   ·intros;rfl
   ·intro g a b ih1 ih2 h;simp only[EU,Cy] at h;simp only[EA,ih1 h.1,ih2 h.2]
   ·intro cs ih h;simp only[EU] at h;simp only[EA,ih h]
   ·intro cs ih h;simp only[EU] at h;simp only[EA,ih h]
   ·intro g d ih h;simp only[EU] at h;simp only[EA,ih h]
   ·intros;rfl
   ·intro d ds ih1 ih2 h;simp only[Gu,Cy] at h;simp only[ET,ih1 h.1,ih2 h.2]
 have:=Ev.frame (H:=h) [] he GD (by simp) ((hr _).2 args ha) rfl (by simpa using hm)
 rw[ul] at this
 have e:lZ [] h0' h=h++h0'.map (Fu (fwd0 h.length)):=by
  unfold lZ
  have:∀(b:Nat) (xs:List Blk),ei [] h.length h0' b xs=xs:=by
   intro b xs
   induction xs generalizing b with
   | nil=>rfl
   | cons x xs ih=>simp[ei,idx,ih]
  rw[this,ul]
  simp
 rw[e] at this
 exact this
def GLe(Γ Γ':af):Prop:=∀g cs,Γ g=some cs→Γ' g=some cs
theorem GLe.none(Γ':af):GLe (fun _=>Option.none) Γ':=fun _ _ h=>by simp at h
theorem Rep.less{Γ Γ':af}{O:Nat→Prop}{w:World}{l:Loc}{h:List Blk}(hg:GLe Γ Γ')(R:Rep Γ' O w l h):Rep Γ O w l h :=
 ⟨R.inb,R.obd,R.inj,R.blk,fun g cs h=>R.glo g cs (hg g cs h)⟩
theorem Rep.more{Γ Γ':af}{O:Nat→Prop}{w w':World}{l l':Loc}{h h':List Blk}(R:Rep Γ' O w l h)(E:Ext w l h w' l' h')(R':Rep Γ O w' l' h'):Rep Γ' O w' l' h' :=
 ⟨R'.inb,R'.obd,R'.inj,R'.blk,fun g cs hg=>Gh E.hc g 0 cs (R.glo g cs hg)⟩
theorem Ev.glob{P:Program}{Γ Γ':af}(hg:GLe Γ Γ'){f:FuncId}{args:List D}{h h':List Blk}{d:D}(he:Ev P Γ f args h d h'):Ev P Γ' f args h d h':=by
 intro O w l vs R ra
 refine Ek (he O w l vs (R.less hg) ra) ?_
 rintro e w' ⟨v,d2,h2,l',rfl,hq,R',E',rd⟩
 exact⟨v,d2,h2,l',rfl,hq,R.more E' R',E',rd⟩
theorem Ev.glob0{P:Program}{Γ':af}{f:FuncId}{args:List D}{h h':List Blk}{d:D}(he:Ev P (fun _=>none) f args h d h'):Ev P Γ' f args h d h':=he.glob (GLe.none Γ')
mutual
def D.nilW:D→D
 | .p (.v (.slice none 0 0))=>.p (.sl [])
 | .agg cs=>.agg (D.nilWL cs)
 | .tup cs=>.tup (D.nilWL cs)
 | d=>d
def D.nilWL:List D→List D
 | []=>[]
 | d::ds=>D.nilW d::D.nilWL ds
end
mutual
theorem q8{w:World}{av:Nat→Prop}{l:Loc}{h:List Blk}:∀(d:D) (y:Value),Rel w av l h d y→Rel w av l h (D.nilW d) y
 | .p x,y,r=>by
  unfold D.nilW
  split
  ·rename_i hx
   simp only[D.p.injEq] at hx
   subst hx
   simp only[Rel,RelP] at r ⊢
   exact .inl ⟨trivial,none,0,r,fun _=>rfl⟩
  ·rename_i hx;cases hx
  ·rename_i hx;cases hx
  ·exact r
 | .agg cs,y,r=>by
  simp only[D.nilW,Rel] at r ⊢
  obtain⟨vs,r1,r2⟩:=r
  exact⟨vs,r1,gQ cs vs.toList r2⟩
 | .tup cs,y,r=>by
  simp only[D.nilW,Rel] at r ⊢
  obtain⟨vs,r1,r2⟩:=r
  exact⟨vs,r1,gQ cs vs.toList r2⟩
 | .any,_,r=>r
 | .ref _,_,r=>r
 | .ep _,_,r=>r
 | .csl _,_,r=>r
 | .fn _ _ _,_,r=>r
 | .grd _ _,_,r=>r
theorem gQ{w:World}{av:Nat→Prop}{l:Loc}{h:List Blk}:∀(ds:List D) (ys:List Value),RelL w av l h ds ys→RelL w av l h (D.nilWL ds) ys
 | [],[],_=>trivial
 | [],_::_,r=>by simp[RelL] at r
 | _::_,[],r=>by simp[RelL] at r
 | d::ds,y::ys,r=>by
  simp only[RelL,D.nilWL] at r ⊢
  exact⟨q8 d y r.1,gQ ds ys r.2⟩
end
theorem Ev.nilW{P:Program}{Γ:af}{f:FuncId}{args:List D}{h h':List Blk}{d:D}(he:Ev P Γ f args h d h'):Ev P Γ f args h d.nilW h':=by
 intro O w l vs R ra
 refine Ek (he O w l vs R ra) ?_
 rintro e w' ⟨v,d2,h2,l',rfl,⟨rfl,rfl⟩,R',E',rd⟩
 exact⟨v,_,_,l',rfl,⟨rfl,rfl⟩,R',E',q8 _ _ rd⟩
def ax(fn:Func):Code:=match fn.body with
 | some c=>c
 | none=>.skip
theorem oQ{sz:Nat}:∀(es:List (List D)) (n:Nat) (row:List D),(∀r∈es,r.length=sz)→es[n]? = some row→∃rest,es.flatten.drop (n*sz)=row++rest
 | [],n,row,_,h=>by simp at h
 | e::es,0,row,hs,h=>by
  simp at h;subst h
  exact⟨es.flatten,by simp⟩
 | e::es,n+1,row,hs,h=>by
  simp only[Eo] at h
  obtain⟨rest,hr⟩:=oQ es n row (fun r hr=>hs r (by simp[hr])) h
  refine⟨rest,?_⟩
  have he:e.length=sz:=hs e (by simp)
  rw[Dz,List.drop_append_of_le_length' e es.flatten n sz he,hr]
where
 List.drop_append_of_le_length' (e t:List D) (n sz:Nat) (he:e.length=sz):(e++t).drop ((n+1)*sz)=t.drop (n*sz):=by
  rw[show(n+1)*sz=e.length+n*sz by rw[he,D2];omega,FK]
  simp
theorem ky{sz:Nat}:∀(es:List (List D)) (n:Nat) (new:List D),(∀r∈es,r.length=sz)→new.length=sz→n<es.length→bd es.flatten (n*sz) new=(es.set n new).flatten
 | [],n,new,_,_,h=>by simp at h
 | e::es,0,new,hs,hn,_=>by
  have he:e.length=sz:=hs e (by simp)
  simp[bd,hn,←he]
 | e::es,n+1,new,hs,hn,h=>by
  have he:e.length=sz:=hs e (by simp)
  have ih:=ky es n new (fun r hr=>hs r (by simp[hr])) hn (by simpa using h)
  simp only[List.set_cons_succ,Dz,←ih]
  unfold bd
  have e1:(n+1)*sz=e.length+n*sz:=by rw[he,D2];omega
  rw[e1,List.take_append,FK]
  have h1:List.take (e.length+n*sz) e=e:=List.take_of_length_le (by omega)
  have h2:List.drop (e.length+n*sz+new.length) e=[]:=List.drop_eq_nil_of_le (by omega)
  rw[h1,h2]
  have h3:e.length+n*sz - e.length=n*sz:=by omega
  have h4:e.length+n*sz+new.length - e.length=n*sz+new.length:=by omega
  rw[h3,h4]
  simp[EJ]
theorem q9{sz:Nat}:∀(es:List (List D)),(∀r∈es,r.length=sz)→es.flatten.length=es.length*sz
 | [],_=>by simp
 | e::es,hs=>by
  rw[Dz,List.length_append,q9 es (fun r hr=>hs r (by simp[hr])),hs e (by simp),Dk,D2];omega
section
variable {P:Program} {h:List Blk} {b sz:Nat} {es:List (List D)}
theorem wA{ty:TypeId}(ha:Cf P ty=some true)(hz:szOf P ty=some sz)(hb:h[b]? = some (.var es.flatten))(hs:∀r∈es,r.length=sz){n:Nat}{row:List D}(hn:es[n]? = some row):bB P h ty (.ref (.ptr b (n*sz)))=some (.agg row):=by
 obtain⟨rest,hr⟩:=oQ es n row hs hn
 have hl:row.length=sz:=hs row (Da hn)
 unfold bB
 simp only[hb,hr,dK,ha,hz]
 rw[if_pos (by simp;omega),←hl]
 simp
theorem um{ty:TypeId}{x:D}{new:List D}(hx:x.cells=some new)(hz:szOf P ty=some sz)(hl:new.length=sz)(hb:h[b]? = some (.var es.flatten))(hs:∀r∈es,r.length=sz){n:Nat}(hn:n<es.length):fy P h ty (.ref (.ptr b (n*sz))) x=some (h.set b (.var (es.set n new).flatten)):=by
 unfold fy
 simp only[hx,hz,hl,hb]
 have:(n+1)*sz≤es.length*sz:=Nat.mul_le_mul_right _ hn
 rw[D2] at this
 rw[if_pos trivial,if_pos (by rw[q9 es hs];omega),ky es n new hs hl hn]
end
def sameBlk:Blk→Blk→Bool
 | .var a,.var b=>je a b
 | .vec a e s,.vec b e' s'=>sameLL a b&&(Qd (e=e')&&Qd (s=s'))
 | .map a c,.map b c'=>sameKV a b&&Qd (c=c')
 | .gone,.gone=>true
 | .defd,.defd=>true
 | .mit (some a) b c d,.mit (some a') b' c' d'=>(Qd (a=a')&&Qd (b=b'))&&(Qd (c=c')&&Qd (d=d'))
 | .mit none b c d,.mit none b' c' d'=>Qd (b=b')&&(Qd (c=c')&&Qd (d=d'))
 | _,_=>false
where
 sameLL:List (List D)→List (List D)→Bool
  | [],[]=>true
  | a::as,b::bs=>je a b&&sameLL as bs
  | _,_=>false
 sameKV:List (D×D×Nat)→List (D×D×Nat)→Bool
  | [],[]=>true
  | (k,d,n)::as,(k',d',n')::bs=>(sameD k k'&&sameD d d')&&(Qd (n=n')&&sameKV as bs)
  | _,_=>false
def pV:List Blk→List Blk→Bool
 | [],[]=>true
 | a::as,b::bs=>sameBlk a b&&pV as bs
 | _,_=>false
theorem oS:∀{a b:List (List D)},sameBlk.sameLL a b=true→a=b
 | [],[],_=>rfl
 | a::as,b::bs,h=>by simp only[sameBlk.sameLL,Cy] at h;rw[sameL_eq h.1,oS h.2]
 | [],_::_,h=>by simp[sameBlk.sameLL] at h
 | _::_,[],h=>by simp[sameBlk.sameLL] at h
theorem oT:∀{a b:List (D×D×Nat)},sameBlk.sameKV a b=true→a=b
 | [],[],_=>rfl
 | (k,d,n)::as,(k',d',n')::bs,h=>by
  simp only[sameBlk.sameKV,Cy,decide_eq_true_eq] at h
  rw[fe h.1.1,fe h.1.2,h.2.1,oT h.2.2]
 | [],_::_,h=>by simp[sameBlk.sameKV] at h
 | _::_,[],h=>by simp[sameBlk.sameKV] at h
theorem sI{a b:Blk}(h:sameBlk a b=true):a=b:=by
 unfold sameBlk at h
 split at h
 ·rw[sameL_eq h]
 ·simp only[Cy,decide_eq_true_eq] at h;rw[oS h.1,h.2.1,h.2.2]
 ·simp only[Cy,decide_eq_true_eq] at h;rw[oT h.1,h.2]
 ·rfl
 ·rfl
 ·simp only[Cy,decide_eq_true_eq] at h;rw[h.1.1,h.1.2,h.2.1,h.2.2]
 ·simp only[Cy,decide_eq_true_eq] at h;rw[h.1,h.2.1,h.2.2]
 ·cases h
theorem nc:∀{a b:List Blk},pV a b=true→a=b
 | [],[],_=>rfl
 | a::as,b::bs,h=>by simp only[pV,Cy] at h;rw[sI h.1,nc h.2]
 | [],_::_,h=>by simp[pV] at h
 | _::_,[],h=>by simp[pV] at h
structure Memo where
 f:FuncId
 args:List D
 h:List Blk
 r:CR
def Memo.hit(m:Memo)(f:FuncId)(args:List D)(h:List Blk):Bool:=match Nat.beq m.f f with
 | true=>match je m.args args with
  | true=>pV m.h h
  | false=>false
 | false=>false
def un:List Memo→FnF
 | [],_,_,_=>none
 | m::ms,f,args,h=>match m.hit f args h with
  | true=>some m.r
  | false=>un ms f args h
def Memo.Ok(P:Program)(Γ:af)(m:Memo):Prop:=dN P m.f=true∧VRes P Γ m.f m.args m.h m.r
def pW(P:Program)(Γ:af):List Memo→Prop
 | []=>True
 | m::ms=>m.Ok P Γ∧pW P Γ ms
theorem Memo.hit_eq{m:Memo}{f:FuncId}{args:List D}{h:List Blk}(hh:m.hit f args h=true):m.f=f∧m.args=args∧m.h=h:=by
 unfold Memo.hit at hh
 split at hh
 ·rename_i h1
  split at hh
  ·rename_i h2
   exact⟨HW h1,sameL_eq h2,nc hh⟩
  ·cases hh
 ·cases hh
theorem rb{P:Program}{Γ:af}:∀{ms:List Memo},pW P Γ ms→FnOk P Γ (un ms)
 | [],_,_,_,_,_,h=>by simp[un] at h
 | m::ms,hm,f,args,h,r,hw=>by
  simp only[un] at hw
  split at hw
  ·rename_i hh
   obtain⟨rfl,rfl,rfl⟩:=Memo.hit_eq hh
   cases hw
   exact hm.1
  ·exact rb hm.2 _ _ _ _ hw
def uo:CR→CR→Bool
 | .ret d h,.ret d' h'=>sameD d d'&&pV h h'
 | _,_=>false
theorem up{a b:CR}(h:uo a b=true):a=b:=by
 unfold uo at h
 split at h
 ·simp only[Cy] at h;rw[fe h.1,nc h.2]
 ·cases h
def Memo.runs(P:Program)(Γ:af)(ms:List Memo)(m:Memo):Bool:=match dN P m.f,ll P Γ (un ms) 100000 m.f m.args m.h with
 | true,some r=>uo r m.r
 | _,_=>false
theorem Memo.ok_of{P:Program}{Γ:af}(ok:POk P){ms:List Memo}{m:Memo}(hr:m.runs P Γ ms=true)(hm:pW P Γ ms):m.Ok P Γ:=by
 unfold Memo.runs at hr
 split at hr
 ·rename_i r h1 h2
  refine⟨h1,?_⟩
  rw[←up hr]
  exact VRes.of_run ok (rb hm) h2
 ·cases hr
theorem Memo.call{P:Program}{Γ:af}{m:Memo}{d:D}{h':List Blk}(hm:m.Ok P Γ)(hr:m.r=.ret d h'):VCall P Γ m.f m.args m.h fun d2 h2=>d2=d∧h2=h':=by
 have:=hm.2
 rw[hr] at this
 exact this.call
def cg:List D→Option (List Dp)
 | []=>some []
 | .p x::ds=>match cg ds with
  | some xs=>some (x::xs)
  | none=>none
 | _=>none
def gR:List (List D)→Option (List (List Dp))
 | []=>some []
 | r::rs=>match cg r,gR rs with
  | some x,some xs=>some (x::xs)
  | _,_=>none
def frzV(d:D)(e:Nat):Option Blk→D
 | some (.vec es e' _)=>match Nat.beq e' e,gR es with
  | true,some rows=>.p (.sl rows)
  | _,_=>d
 | _=>d
mutual
def kz(h:List Blk):D→D
 | .ref (.vec b e)=>frzV (.ref (.vec b e)) e h[b]?
 | .agg cs=>.agg (uq h cs)
 | d=>d
def uq(h:List Blk):List D→List D
 | []=>[]
 | d::ds=>kz h d::uq h ds
end
mutual
def jh:D→Bool
 | .p (.v _)=>true
 | .agg cs=>ur cs
 | .tup cs=>ur cs
 | _=>false
def ur:List D→Bool
 | []=>true
 | d::ds=>jh d&&ur ds
end
theorem l6:∀{ds:List D} {xs:List Dp},cg ds=some xs→ds=xs.map .p
 | [],xs,h=>by simp only[cg,Cs] at h;subst h;rfl
 | .p x::ds,xs,h=>by
  simp only[cg] at h
  split at h
  ·rename_i ys h1
   simp only[Cs] at h
   subst h
   rw[l6 h1];rfl
  ·simp at h
 | .any::_,_,h=>by simp[cg] at h
 | .ref _::_,_,h=>by simp[cg] at h
 | .ep _::_,_,h=>by simp[cg] at h
 | .csl _::_,_,h=>by simp[cg] at h
 | .fn _ _ _::_,_,h=>by simp[cg] at h
 | .agg _::_,_,h=>by simp[cg] at h
 | .tup _::_,_,h=>by simp[cg] at h
 | .grd _ _::_,_,h=>by simp[cg] at h
theorem kA:∀{es:List (List D)} {xs:List (List Dp)},gR es=some xs→es=xs.map (·.map .p)
 | [],xs,h=>by simp only[gR,Cs] at h;subst h;rfl
 | e::es,xs,h=>by
  simp only[gR] at h
  split at h
  ·rename_i y ys h1 h2
   simp only[Cs] at h
   subst h
   rw[l6 h1,kA h2];rfl
  ·simp at h
section
variable {P:Program} {Γ:af} {O:Nat→Prop} {w:World} {l:Loc} {h:List Blk}
def kB(l:Loc)(h:List Blk)(k:Nat):Prop:=∃(b:Nat) (rows:List (List Dp)) (e sz cap:Nat),h[b]? = some (.vec (rows.map (·.map D.p)) e sz)∧l b=some (k,cap)
theorem wB(R:Rep Γ O w l h){b e:Nat}{y:Value}{rows:List (List Dp)}{sz:Nat}(hb:h[b]? = some (.vec (rows.map (·.map .p)) e sz))(rr:RefRel l h (.vec b e) y){av':Nat→Prop}(ha:∀k,av' k→avs O l h k∧¬kB l h k):
  RelP w av' (.sl rows) y:=by
 have hk:=R.blk _ _ hb
 unfold RefRel at rr
 simp only[hb] at rr
 have hv:=rr.2.2 trivial
 unfold BlkOk at hk
 simp only at hk
 simp only[RelP]
 cases hl:l b with
 | none =>
  rw[hl] at hv hk
  simp only[gg] at hv hk
  exact .inl ⟨by simpa using hk,none,0,hv.2,fun _=>rfl⟩
 | some p =>
  obtain⟨blk,cap⟩:=p
  rw[hl] at hv hk
  simp only[gg] at hv hk
  obtain⟨oo,cc,rfl,hv1,hv2⟩:=hv
  obtain⟨o2,c2,rc,c,T,fr,ys,q1,q2,q3,q4,q5,q6,pre,rest,q0,q7⟩:=hk
  obtain⟨rfl,rfl⟩:=b8 rc
  refine .inr ⟨blk,oo,cc,sz,by simpa using hv1,by simpa using hv2,?_⟩
  have hcell:¬av' blk:=fun ho=>(ha blk ho).2 ⟨b,rows,e,sz,_,hb,hl⟩
  refine ir rows oo fun i e1 he1=>?_
  have hlen:e1.length=sz:=by
   have:=q5 (e1.map .p) (Di.2 ⟨e1,Da he1,rfl⟩)
   simpa using this
  refine⟨hlen,fQ (l:=l) (h:=h) (av:=avs O l h) (av':=av') (fun _ ho=>(ha _ ho).1) hcell e1 _ ?_⟩
  exact(CellsAt.of_relO (loc:=l) (h:=h) q1 q0 q7 q6).rowO q5 (by rw[D5,he1];rfl)
mutual
theorem wC(R:Rep Γ O w l h){av':Nat→Prop}(ha:∀k,av' k→avs O l h k∧¬kB l h k):∀{d:D} {y:Value},EU 0 (kz h d)=true→Rel w (avs O l h) l h d y→Rel w av' l [] (kz h d) y
 | .p _,_,_,r=>by simp only[kz,Rel] at r ⊢;exact cW (fun k hk=>(ha k hk).1) r
 | .any,_,_,_=>by simp[kz,Rel]
 | .ep _,_,_,r=>by
  simp only[kz,Rel] at r ⊢
  obtain⟨blk,off,r1,r2⟩:=r
  exact⟨blk,off,r1,ar (fun k hk=>(ha k hk).1) r2⟩
 | .csl _,_,_,r=>by
  simp only[kz,Rel] at r ⊢
  rcases r with r|⟨blk,off,sz,r1,r2⟩
  ·exact .inl r
  ·exact .inr ⟨blk,off,sz,r1,bk (fun k hk=>(ha k hk).1) r2⟩
 | .agg cs,_,hi,r=>by
  simp only[kz,EU] at hi
  simp only[kz,Rel] at r ⊢
  obtain⟨vs,r1,r2⟩:=r
  exact⟨vs,r1,jw R ha hi r2⟩
 | .ref (.vec b e),y,hi,r=>by
  simp only[kz] at hi ⊢
  unfold frzV at hi ⊢
  split at hi
  ·rename_i es e' sz hb
   split at hi
   ·rename_i rows h1 h2
    have he:=HW h1
    subst he
    rw[kA h2] at hb
    simp only[Rel]
    exact wB R hb (by simpa only [Rel] using r) ha
   ·simp[EU] at hi
  ·simp[EU] at hi
 | .ref (.ptr _ _),_,hi,_=>by simp[kz,EU] at hi
 | .ref (.vs _ _ _ _ _),_,hi,_=>by simp[kz,EU] at hi
 | .ref (.av _ _ _ _),_,hi,_=>by simp[kz,EU] at hi
 | .ref (.vp _ _ _ _),_,hi,_=>by simp[kz,EU] at hi
 | .ref (.mp _),_,hi,_=>by simp[kz,EU] at hi
 | .ref (.it _),_,hi,_=>by simp[kz,EU] at hi
 | .ref (.yl _),_,hi,_=>by simp[kz,EU] at hi
 | .fn f a b,_,hi,r=>by
  have:=cE (l:=l) (h:=h) (n:=0) (fun k hk=>(ha k hk).1) (by simpa[kz] using hi) r
  simpa[kz] using this
 | .tup a,_,hi,r=>by
  have:=cE (l:=l) (h:=h) (n:=0) (fun k hk=>(ha k hk).1) (by simpa[kz] using hi) r
  simpa[kz] using this
 | .grd g a,_,hi,r=>by
  have:=cE (l:=l) (h:=h) (n:=0) (fun k hk=>(ha k hk).1) (by simpa[kz] using hi) r
  simpa[kz] using this
theorem jw(R:Rep Γ O w l h){av':Nat→Prop}(ha:∀k,av' k→avs O l h k∧¬kB l h k):∀{ds:List D} {ys:List Value},Gu 0 (uq h ds)=true→RelL w (avs O l h) l h ds ys→RelL w av' l [] (uq h ds) ys
 | [],[],_,_=>by simp[uq,RelL]
 | [],_::_,_,r=>by simp[RelL] at r
 | _::_,[],_,r=>by simp[RelL] at r
 | _::_,_::_,hi,r=>by
  simp only[uq,Gu,Cy] at hi
  simp only[uq,RelL] at r ⊢
  exact⟨wC R ha hi.1 r.1,jw R ha hi.2 r.2⟩
end
mutual
theorem re{w':World}{av av':Nat→Prop}{l':Loc}{h':List Blk}:∀{d:D} {y:Value},jh d=true→Rel w av l h d y→Rel w' av' l' h' d y
 | .p (.v _),_,_,r=>by simpa[Rel,RelP] using r
 | .agg cs,_,hf,r=>by
  simp only[jh] at hf
  simp only[Rel] at r ⊢
  obtain⟨vs,r1,r2⟩:=r
  exact⟨vs,r1,kC hf r2⟩
 | .tup cs,_,hf,r=>by
  simp only[jh] at hf
  simp only[Rel] at r ⊢
  obtain⟨vs,r1,r2⟩:=r
  exact⟨vs,r1,kC hf r2⟩
 | .p (.sl _),_,hf,_=>by simp[jh] at hf
 | .any,_,hf,_=>by simp[jh] at hf
 | .ref _,_,hf,_=>by simp[jh] at hf
 | .ep _,_,hf,_=>by simp[jh] at hf
 | .csl _,_,hf,_=>by simp[jh] at hf
 | .fn _ _ _,_,hf,_=>by simp[jh] at hf
 | .grd _ _,_,hf,_=>by simp[jh] at hf
theorem kC{w':World}{av av':Nat→Prop}{l':Loc}{h':List Blk}:∀{ds:List D} {ys:List Value},ur ds=true→RelL w av l h ds ys→RelL w' av' l' h' ds ys
 | [],[],_,_=>by simp[RelL]
 | [],_::_,_,r=>by simp[RelL] at r
 | _::_,[],_,r=>by simp[RelL] at r
 | _::_,_::_,hf,r=>by
  simp only[ur,Cy] at hf
  simp only[RelL] at r ⊢
  exact⟨re hf.1 r.1,kC hf.2 r.2⟩
end
theorem Ev.frzArgs{f:FuncId}{args:List D}{d:D}(hi:Gu 0 (uq h args)=true)(hd:jh d=true)(he:Ev P Γ f (uq h args) [] d []):Ev P Γ f args h d h:=by
 intro O w l vs R ra
 have hav:∀l' k,avs (fun k=>avs O l h k∧¬kB l h k) l' [] k→avs O l h k∧¬kB l h k:=fun l' k ho=>ho.elim id (fun h=>absurd h bJ)
 have R0:Rep Γ (fun k=>avs O l h k∧¬kB l h k) w l []:=by
  refine⟨fun blk ho=>absurd ho bJ,fun blk ho=>?_,fun b b' x x' k c c' hb=>by simp at hb,fun b x hb=>by simp at hb,fun g cs hg=>?_⟩
  ·rcases ho.1 with ho|ho
   ·exact R.obd blk ho
   ·exact(R.inb blk ho).1
  ·exact ar (fun k hk=>(hav l k hk).1) (R.glo g cs hg)
 have ra0:=jw (av':=avs (fun k=>avs O l h k∧¬kB l h k) l []) R (fun k hk=>hav l k hk) hi ra
 refine Ek (he _ w l vs R0 ra0) ?_
 rintro e w' ⟨v,d2,h2,l',rfl,⟨rfl,rfl⟩,R',E',rd⟩
 have E:Ext w l h w' l h:=⟨E'.size,fun blk hb _=>E'.same blk hb bJ,fun blk ho=>.inl ho,fun b x hx=>⟨x,hx,x.le_refl,fun _=>rfl⟩,E'.tape⟩
 refine⟨v,d2,h,l,rfl,⟨rfl,rfl⟩,⟨fun blk ho=>⟨D7 (R.inb blk ho).1 E'.size,(R.inb blk ho).2⟩,fun blk ho=>D7 (R.obd blk ho) E'.size,R.inj,fun b x hx=>?_,fun g cs hg=>?_⟩,E,re hd rd⟩
 ·by_cases hg:x=.gone
  ·subst hg;trivial
  exact BlkOk.ext E rfl (fun blk cp hl=>E'.same blk (R.inb blk ⟨b,x,cp,hx,hg,hl⟩).1 bJ) (R.blk b x hx)
 ·exact Gh E.hc g 0 cs (R.glo g cs hg)
end
def hB(pre:List Blk)(R:List (List D))(more:List Blk):List Blk:=pre++(.vec R 0 1::more)
section
variable {P:Program} {Γ:af}
theorem TopW.deferH(_ok:POk P){call:CallX}(hc:call.Ok P Γ){id:Nat}{ops:Array Oper}{d:Code}{s s':AS}{e:Exit}{os:List Oper}{o:Oper}(h0:ops.toList=os++[o]){fv:Operand}{args:Array Operand}{ats:Array TypeId}
  (ho:o.op=.defer {callee:=.value fv,args,argTypes:=ats}) (hg:o.guard=none) (hdst:o.dst=none) (hm:s.m=[]) {t1:List D} {h1:List Blk} (hr:aZ P Γ call [] ops.toList os s.t s.h=some (.normal,t1,h1))
  {f:FuncId} {fi ca:List D} (hcal:bI (evalD Γ t1 fv)=some (f,fi,ca))
  (hrest:CW P Γ h1 false d {t:=t1,h:=h1,m:=[]} e s') :
  TopW P Γ (.seq (.region id ops false) d) s e s' (some (f,fi++args.toList.map (evalD Γ t1)++ca)):=by
 intro O w0 l0 hh0 a w hs
 have hlen:ops.size=os.length+1:=by rw[←DV,h0];simp
 have hrange:DJ ops.size=DW 0 os.length++[os.length]:=by rw[hlen,List.range_succ,FF]
 have ho0:ops[os.length]? = some o:=by rw[←Dr,h0];simp
 refine wpIn_seq (wpIn_region ?_)
 rw[hrange]
 have hs2:St Γ {O:=O,w:=w0,l:=l0,h:=hh0} {t:=s.t,h:=s.h,m:=[]} a w:=by rw[←hm];exact hs
 refine fN (r:=none) (X:={O:=O,w:=w0,l:=l0,h:=hh0}) hc (tail:=[os.length]) (fun _ a w hs=>?_) (fun c he=>by cases he) os 0 s.t s.h [o] (by simpa using h0) hr a w hs2
 obtain⟨l,R,E,rt,rd⟩:=hs
 have hdef:a.defers=[]:=rd
 simp only[wpOpsIn,ho0]
 have hw:Dl o (yielded ops a.tmps)=true:=by unfold Dl;rw[hg]
 rw[if_pos hw]
 obtain⟨a0,c0,e0,r1,r2⟩:=bK (aD R rt fv) hcal
 refine⟨fun _ _=>trivial,?_⟩
 have e0':(FW none).round=none:=rfl
 rw[e0',Oper.semAt_none]
 have e1:(execOp a.eval o).run P w=.ok (.defer {target:=.fn (.func f) c0,args:=a0++args.map a.eval}) w:=by
  unfold execOp
  rw[ho]
  simp only[resolve,e0,Ds,CM,CY,CJ]
 rw[e1,Oper.uponIn_defer,hdst]
 simp only[Act.put,Exit.then]
 have hD:tS w O l h1 (f,fi++args.toList.map (evalD Γ t1)++ca) {target:=.fn (.func f) c0,args:=a0++args.map a.eval}:=by
  refine⟨_,_,rfl,?_⟩
  simp only[GB]
  refine aH (aH r1 ?_) r2
  have:=ck R rt args.toList
  simpa using this
 refine wpIn_mono (hrest {O:=O,w:=w,l:=l,h:=h1,D:=[{target:=.fn (.func f) c0,args:=a0++args.map a.eval}]} none rfl (fun _=>rfl) _ w ⟨l,R,Ext.refl _ _ _,rt,by simp[DefOk,hdef]⟩) ?_
 rintro e1 a1 w1 ⟨k1,s1,⟨rfl,rfl⟩,k2⟩
 exact⟨rfl,k1,_,w,l,h1,E,hD,k2⟩
theorem CW.seq{h0:List Blk}{rd:Bool}{c d:Code}{s s1 s':AS}{e:Exit}(h1:CW P Γ h0 rd c s .normal s1)(h2:CW P Γ h0 rd d s1 e s'):CW P Γ h0 rd (.seq c d) s e s':=fun X r hX hr =>
 VW.seq ((h1 X r hX hr).mono fun e2 s2 hq=>by
  obtain⟨rfl,rfl⟩:=hq
  exact h2 X r hX hr)
theorem CW.out{h0:List Blk}{rd:Bool}{c d:Code}{s s':AS}{e:Exit}(he:e ≠ .normal)(h1:CW P Γ h0 rd c s e s'):CW P Γ h0 rd (.seq c d) s e s':=fun X r hX hr =>
 VW.seq ((h1 X r hX hr).mono fun e2 s2 hq=>by
  obtain⟨rfl,rfl⟩:=hq
  cases e2 with
  | normal=>exact absurd rfl he
  | _=>exact⟨rfl,rfl⟩)
theorem CW.regionX{h0:List Blk}{rd:Bool}{call:CallX}(hc:call.Ok P Γ){s:AS}{id:Nat}{ops:Array Oper}{e:Exit}{t':List D}{h':List Blk}
  (hr:aZ P Γ call s.m ops.toList ops.toList s.t s.h=some (e,t',h')):CW P Γ h0 rd (.region id ops false) s e {t:=t',h:=h',m:=s.m}:=fun _ _ _ _=>VW.regionX hc hr ⟨rfl,rfl⟩
end
theorem pX{F:Fence}{n:Nat}{P:Program}{l:Nat}{f:FuncId}{fn:Func}{tmps:Array Value}{assign body:Code}{w:World}{R:Ending→World→Prop}(hF:F.fn f)(hf:P.funcs[f]? = some fn)
  (h:assign.wpIn (F.inRound l) n P (Exit.then (fun a₁ w₁=>∃w₂,(Instr.beginRound l).run P w₁=.ok () w₂∧body.wpIn (F.inRound l) n P (fun e a w'=>∃c,e=.panic c∧a.defers=[]∧R (.panicked c) w') a₁ w₂) (fun _ _ _=>False))
   {tmps:=tmps,defers:=[]} w) :
  RoundIn F n P l f tmps assign body w R:=by
 refine⟨hF,fun c cs hr=>?_⟩
 let b:Frame:={ (default:Frame) with fn:=f,kind:=.normal,roundOf:=some l}
 have hb0:Frame.round l f tmps assign body .normal=b.atR {tmps:=tmps,defers:=[]} [.code assign,.beginRound,.code body]:=by
  simp[Frame.round,Frame.atR,b]
 have hr':(F.inRound l).room ((c::cs).length+1+n):=hr
 have hF':(F.inRound l).fn b.fn:=hF
 obtain⟨e,a₁,w₁,hq,harr⟩:=h b [.beginRound,.code body] (c::cs) rfl hF' hr'
 rw[←hb0] at harr
 cases e with
 | normal =>
  obtain⟨w₂,hbr,hbody⟩:=hq
  have s1:StepsIn (Hd P (F.inRound l)) P (lone (b.atR a₁ [.beginRound,.code body]) (c::cs) w₁) (lone (b.atR a₁ [.code body]) (c::cs) w₂) :=
   .one (fenced_calm (fr:=b.atR a₁ [.beginRound,.code body]) hF' hr' rfl) (stepR_beginRound rfl hbr)
  obtain⟨e₂,a₂,w₃,hq₂,harr₂⟩:=hbody b [] (c::cs) rfl hF' hr'
  obtain⟨ch,rfl,hd,hR⟩:=hq₂
  obtain⟨todo,hs⟩:=harr₂
  have hl:({b.atR a₂ todo with mode:=.panicking ch}:Frame).leaving P w₃ (.panicked ch):=⟨rfl,hd,fn,hf⟩
  refine⟨.panicked ch,w₃,hR,(Fj harr s1).trans (Fj hs (.one (fenced_leaving (F:=F.inRound l) (n:=n) hF' hr' hl) ?_))⟩
  exact step_leave_panicked hl
 | exit id=>exact hq.elim
 | goto t=>exact hq.elim
 | ret=>exact hq.elim
 | panic chain=>exact hq.elim
 | outgrown=>exact hq.elim
section
variable {P:Program} {Γ:af}
theorem ut{b:Nat}{args:List D}{h h1:List Blk}{pend:Option Code}{f:FuncId}{fn:Func}{ts:List D}{ps:Array Tmp}{asg body:Code}{t1:List D}{p1:Option Code}{f1:FuncId}{ts1:List D}{ps1:Array Tmp}
  {a1 b1:Code} {c:List PanicEntry} {s2:AS} (hb:h[b]? = some (.loop .ready pend f ts ps asg body)) (hf0:f ≠ 0) (hfn:P.funcs[f]? = some fn) (hlen:args.length=ps.size)
  (hasg:CW P Γ h true asg {t:=dh ts (ps.toList.zip args),h:=h,m:=[]} .normal {t:=t1,h:=h1,m:=[]})
  (hb1:h1[b]? = some (.loop .ready p1 f1 ts1 ps1 a1 b1))
  (hbody:CW P Γ h true body {t:=t1,h:=h1.set b (.loop .busy p1 f1 ts1 ps1 a1 b1),m:=[]} (.panic c) s2) (hm:s2.m=[]):VInvP P Γ (.ref (.yl b)) args h fun c2 h2=>c2=c∧h2=s2.h:=by
 intro O w l y vs R rx ra r o a next Q' hn
 simp only[Rel,RefRel,hb] at rx
 obtain⟨_,blk,cp,hl,rfl⟩:=rx
 obtain⟨rec,g1,g2,g3,g4,g5,g6,g7,gf,_⟩:=ip R hb hl
 have hrf:rec.fn=f:=gf.resolve_left hf0
 have hlv:=cX _ _ ra
 have e1:(do let d ←Ds (.func (.yield blk) #[] #[]) vs.toArray;invoke d.target d.args:Sem Next).run P w =
   .ok (.round blk rec.fn ((rec.params.zip vs.toArray).foldl (fun tmps (p:Tmp×Value)=>tmps.setIfInBounds p.1 p.2) rec.tmps) rec.assign rec.body) w:=by
  have hsz:vs.length=rec.params.size:=by rw[g4,←hlen,hlv]
  simp only[Ds,CM,CY,CJ,invoke,Instr.yield,cd (P:=P) g1,Array.empty_append]
  simp[hsz]
 rw[e1]
 refine⟨fun h=>by simp[Fence.wide] at h,?_⟩
 rw[g5,g6,g4]
 refine pX (F:=FW r) (fn:=fn) trivial (by rw[hrf];exact hfn) ?_
 have st0:St Γ {O:=O,w:=w,l:=l,h:=h} {t:=dh ts (ps.toList.zip args),h:=h,m:=[]}
   {tmps:=(ps.zip vs.toArray).foldl (fun tmps (p:Tmp×Value)=>tmps.setIfInBounds p.1 p.2) rec.tmps,defers:=[]} w:=by
  refine⟨l,R,Ext.refl _ _ _,?_,by simp[DefOk]⟩
  have:=fP (w:=w) (l:=l) (h:=h) (av:=avs O l h) ps.toList args vs ts rec.tmps ra g7
  rw[←Array.foldl_toList]
  simpa using this
 have hasg':∀X r,X.h=h→VW P Γ X r asg (fun e s=>e=.normal∧s={t:=t1,h:=h1,m:=[]}) {t:=dh ts (ps.toList.zip args),h:=h,m:=[]}:=fun X r hX=>hasg X r hX (fun h=>by cases h)
 have hbody':∀X r,X.h=h→VW P Γ X r body (fun e s=>e=.panic c∧s=s2) {t:=t1,h:=h1.set b (.loop .busy p1 f1 ts1 ps1 a1 b1),m:=[]}:=fun X r hX=>hbody X r hX (fun h=>by cases h)
 refine wpIn_mono (hasg' _ (some blk) rfl _ _ st0) ?_
 rintro e a₁ w₁ ⟨_,s1,⟨rfl,rfl⟩,l1,R1,E1,rt1,rd1⟩
 have hl1:l1 b=some (blk,cp):=by rw[ff E1 hb hb1];exact hl
 obtain⟨rec1,k1,k2,k3,k4,k5,k6,k7,_,k8⟩:=ip R1 hb1 hl1
 obtain⟨R2,E2⟩:=k8 .busy p1
 refine⟨{w₁ with heap:=w₁.heap.setIfInBounds blk (.loop {rec1 with state:=.busy,pending:=p1})},?_,?_⟩
 ·have:({rec1 with state:=.busy}:Loop)={rec1 with state:=.busy,pending:=p1}:=by rw[←k3]
  simp only[Instr.beginRound,CM,cd (P:=P) k1,CJ,this,br (P:=P) k1 (by simp),k2,CY]
 ·have st1:St Γ {O:=O,w:=w,l:=l,h:=h} {t:=t1,h:=h1.set b (.loop .busy p1 f1 ts1 ps1 a1 b1),m:=[]} a₁ {w₁ with heap:=w₁.heap.setIfInBounds blk (.loop {rec1 with state:=.busy,pending:=p1})}:=by
   refine⟨l1,R2,E1.trans E2,E2.relL rt1,?_⟩
   exact rd1
  refine wpIn_mono (hbody' _ (some blk) rfl _ _ st1) ?_
  rintro e a₂ w₂ ⟨_,s3,⟨rfl,rfl⟩,l2,R3,E3,rt3,rd3⟩
  rw[hm] at rd3
  exact⟨c,rfl,rd3,hn c _ l2 _ ⟨rfl,rfl⟩ R3 E3⟩
def AtF(P:Program)(f0:FuncId)(c:Code)(Q:Exit→Act→World→Prop)(a:Act)(w:World):Prop :=
 ∀(b:Frame) (k:List Item) (cs:List Frame),b.roundOf=none→b.fn=f0 →
  ∃e a' w',Q e a' w'∧ArrivesIn (Hd P (FW none)) P (lone (b.atR a (.code c::k)) cs w) b k cs e a' w'
theorem AtF.of_wp{f0:FuncId}{c:Code}{Q:Exit→Act→World→Prop}{a:Act}{w:World}(h:c.wpIn (FW none) 0 P Q a w):AtF P f0 c Q a w :=
 fun b k cs hr _=>h b k cs hr trivial (fI none _)
theorem AtF.mono{f0:FuncId}{c:Code}{Q Q':Exit→Act→World→Prop}{a:Act}{w:World}(h:AtF P f0 c Q a w)(hq:∀e a w,Q e a w→Q' e a w):AtF P f0 c Q' a w:=fun b k cs hr hf =>
 let ⟨e,a',w',q,s⟩:=h b k cs hr hf
 ⟨e,a',w',hq _ _ _ q,s⟩
theorem AtF.seq{f0:FuncId}{x y:Code}{Q:Exit→Act→World→Prop}{a:Act}{w:World}(h:AtF P f0 x (fun e a1 w1=>e=.normal∧AtF P f0 y Q a1 w1) a w):AtF P f0 (.seq x y) Q a w:=by
 intro b k cs hro hb
 have h0:(lone (b.atR a (.code (.seq x y)::k)) cs w).fenced P (FW none):=fenced_calm (F:=FW none) (n:=0) trivial (fI none _) rfl
 obtain⟨e,a₁,w₁,⟨rfl,hq⟩,harr⟩:=h b (.code y::k) cs hro hb
 obtain⟨e₂,a₂,w₂,hq₂,harr₂⟩:=hq b k cs hro hb
 exact⟨e₂,a₂,w₂,hq₂,.of_steps (.head h0 stepR_seq harr) harr₂⟩
theorem AtF.seqP{f0:FuncId}{x y:Code}{Q:Exit→Act→World→Prop}{a:Act}{w:World}(h:AtF P f0 x (fun e a1 w1=>∃c,e=.panic c∧Q e a1 w1) a w):AtF P f0 (.seq x y) Q a w:=by
 intro b k cs hro hb
 have h0:(lone (b.atR a (.code (.seq x y)::k)) cs w).fenced P (FW none):=fenced_calm (F:=FW none) (n:=0) trivial (fI none _) rfl
 obtain⟨e,a₁,w₁,⟨c,rfl,hq⟩,harr⟩:=h b (.code y::k) cs hro hb
 exact⟨_,a₁,w₁,hq,.of_steps (.one h0 stepR_seq) (.pass (x:=.code y) rfl (fun _ _=>.inl (by simp)) harr)⟩
theorem AtF.blockP{f0:FuncId}{id:Nat}{x:Code}{Q:Exit→Act→World→Prop}{a:Act}{w:World}(h:AtF P f0 x (fun e a1 w1=>∃c,e=.panic c∧Q e a1 w1) a w):AtF P f0 (.block id x) Q a w:=by
 intro b k cs hro hb
 have h0:(lone (b.atR a (.code (.block id x)::k)) cs w).fenced P (FW none):=fenced_calm (F:=FW none) (n:=0) trivial (fI none _) rfl
 obtain⟨e,a₁,w₁,⟨c,rfl,hq⟩,todo,harr⟩:=h b (.inBlock id::k) cs hro hb
 exact⟨_,a₁,w₁,hq,todo,.head h0 stepR_block harr⟩
theorem AtF.rangeFuncP(ok:POk P){X:Ctx}{s:AS}{f0:FuncId}{g:Operand}{ps:Array Tmp}{asg body:Code}{f:FuncId}{fi ca:List D}{c0:List PanicEntry}{hp:List Blk}(hg:bI (evalD Γ s.t g)=some (f,fi,ca))(hf:dN P f=true)
  (hc:VPan P Γ f (fi++[.ref (.yl (s.h.length+1))]++ca) (s.h++[.defd]++[.loop .ready none f0 s.t ps asg body]) fun c h'=>c=c0∧h'=hp)
  (hmp:ah hp (s.h.length::s.m)=true) {a:Act} {w:World} (hs:St Γ X s a w):AtF P f0 (.rangeFunc g ps asg body) (fun e a' w'=>e=.panic c0∧St Γ X {t:=s.t,h:=hp,m:=s.h.length::s.m} a' w') a w:=by
 intro b k cs hro hb
 have hmk:=hs.marks
 obtain⟨l,R,E,rt,rd⟩:=hs
 obtain⟨R1,E1⟩:=cr R (.deferred (some [])) .defd 0 (fun E=>⟨w.heap.size,0,by simp,heap_alloc_new w _⟩)
 generalize hw1:w.alloc (.deferred (some []))=w1 at R1 E1
 generalize hl1:l.upd s.h.length (some (w.heap.size,0))=l1 at R1 E1
 have rt1:=E1.relL rt
 have hlen:(s.h++[F3]).length=s.h.length+1:=by simp
 obtain⟨R2,E2⟩:=cr R1 (.loop {state:=.ready,pending:=none,fn:=b.fn,tmps:=a.tmps,params:=ps,assign:=asg,body,defers:=w.heap.size}) (.loop .ready none f0 s.t ps asg body) 0
  (fun E=>⟨w1.heap.size,0,a.tmps,w.heap.size,b.fn,by simp,heap_alloc_new w1 _,E.relL rt1,.inr hb⟩)
 generalize hw2:w1.alloc (.loop {state:=.ready,pending:=none,fn:=b.fn,tmps:=a.tmps,params:=ps,assign:=asg,body,defers:=w.heap.size})=w2 at R2 E2
 generalize hl2:l1.upd (s.h++[F3]).length (some (w1.heap.size,0))=l2 at R2 E2
 rw[hlen] at hl2
 obtain⟨a0,c1,e0,r1,r2⟩:=bK (aD R2 ((E1.trans E2).relL rt) g) hg
 unfold dN at hf
 split at hf
 case h_2=>simp at hf
 rename_i fn' hfn'
 have he:(Instr.enterLoop b.fn a.tmps ps asg body b.roundOf).run P w=.ok (w1.heap.size,[{target:=.collected w.heap.size,args:=#[]}]) w2:=by
  rw[hro]
  simp only[Instr.enterLoop,CM,lL,CJ,CY,hw1,hw2]
 have hres:(resolve a.eval (rangeCall g w1.heap.size) 0).run P w2=.ok {target:=.fn (.func f) c1,args:=a0++#[.func (.yield w1.heap.size) #[] #[]]} w2:=by
  simp only[resolve,e0,Ds,CY]
  simp
  rfl
 have hinv:(invoke (Target.fn (.func f) c1) (a0++#[.func (.yield w1.heap.size) #[] #[]])).run P w2=.ok (.enter f (a0++#[.func (.yield w1.heap.size) #[] #[]]++c1)) w2:=gt ok hfn' hf _ _
 have hl2n:l2 (s.h.length+1)=some (w1.heap.size,0):=by rw[←hl2];simp
 have hl2d:l2 s.h.length=some (w.heap.size,0):=by rw[←hl2,Loc.upd_ne _ _ _ (by omega),←hl1];simp
 have hHn:(s.h++[F3]++[H3 .ready none f0 s.t ps asg body])[s.h.length+1]? = some (.loop .ready none f0 s.t ps asg body):=by
  rw[Dc (by simp)];simp
 have hHd:(s.h++[F3]++[H3 .ready none f0 s.t ps asg body])[s.h.length]? = some .defd:=by
  rw[CX (by simp),Dc (by simp)];simp
 have hd2:DefOk X.D l2 (s.h++[F3]++[H3 .ready none f0 s.t ps asg body]) (s.h.length::s.m) ({target:=.collected w.heap.size,args:=#[]}::a.defers):=by
  simp only[DefOk]
  refine⟨⟨w.heap.size,0,hHd,hl2d,rfl⟩,?_⟩
  exact Fg (E1.trans E2).keep (by rw[EJ];exact cm hmk) rd
 have hcall:=hc X.O w2 l2 (a0++#[Value.func (Fn.yield w1.heap.size) #[] #[]]++c1).toList R2 (by
  simp only[GB]
  refine aH (aH r1 ?_) r2
  simp only[RelL,Rel,RefRel,hHn]
  exact⟨⟨rfl,w1.heap.size,0,hl2n,rfl⟩,trivial⟩)
 have hcall':=(show CallsIn (FW none) 0 P f (a0++#[Value.func (Fn.yield w1.heap.size) #[] #[]]++c1) w2 _ from hcall)
 have h0:(lone (b.atR a (.code (.rangeFunc g ps asg body)::k)) cs w).fenced P (FW none) :=
  fenced_lone (F:=FW none) (.inl trivial) (fun _ _=>trivial) (Fence.room_le (fI none (cs.length+1)) (CP _))
 have henter:=stepR_rangeFunc (P:=P) (b:=b) (a:=a) (k:=k) (cs:=cs) (w:=w) he hres hinv
 obtain⟨e,w₃,fr,⟨c,h',l3,rfl,⟨rfl,rfl⟩,R3,E3⟩,hsteps,hfn,hleave⟩:=hcall'.2 (b.atR {a with defers:=[{target:=.collected w.heap.size,args:=#[]}]++a.defers} (.inRangeFunc w1.heap.size::k)::cs) (fI none _)
 have hl:(lone fr (b.atR {a with defers:=[{target:=.collected w.heap.size,args:=#[]}]++a.defers} (.inRangeFunc w1.heap.size::k)::cs) w₃).fenced P (FW none):=fenced_leaving (F:=FW none) (n:=0) trivial (fI none _) hleave
 refine⟨.panic c,{a with defers:=[{target:=.collected w.heap.size,args:=#[]}]++a.defers},w₃,⟨rfl,?_⟩,.inRangeFunc w1.heap.size::k,.head h0 henter (Fj hsteps (.one hl ?_))⟩
 ·exact⟨l3,R3,(E.trans (E1.trans E2)).trans E3,((E1.trans E2).trans E3).relL rt,Fg E3.keep hmp hd2⟩
 ·rw[←Frame.raise_atR];exact step_leave_panicked hleave
theorem sJ{f:FuncId}{fn:Func}{c:Code}{args:Array Value}{w:World}{R:Ending→World→Prop}
  (hf:P.funcs[f]? = some fn) (hb:fn.body=some c)
  (h:AtF P f c (bodyPostM (FW none) 0 P fn R) {tmps:=args++DT (fn.ntmps - args.size) undef,defers:=[]} w):CallsIn (FW none) 0 P f args w R:=by
 refine⟨trivial,fun cs hr=>?_⟩
 let b:Frame:={ (default:Frame) with fn:=f,kind:=.normal,roundOf:=none}
 have henter:Frame.enter P f args .normal =
   b.atR {tmps:=args++DT (fn.ntmps - args.size) undef,defers:=[]} [.code c]:=by
  simp[Frame.enter,Frame.atR,hf,hb,b]
 obtain⟨e,a',w',hq,harr⟩:=h b [] cs rfl rfl
 rw[←henter] at harr
 cases e with
 | normal =>
  obtain⟨e',w'',fr',hR,hs,hfn,hl⟩:=leaves_stepsInM a'.defers .returning w' {b.atR a' [] with mode:=.returning} cs rfl rfl rfl hf rfl (F:=FW none) trivial hr hq
  exact⟨e',w'',fr',hR,GE (Fj harr (.one (fenced_calm (fr:=b.atR a' []) (F:=FW none) trivial hr rfl) (stepR_end rfl))) hs,hfn,hl⟩
 | ret =>
  obtain⟨todo,hs₀⟩:=harr.1 rfl
  obtain⟨e',w'',fr',hR,hs,hfn,hl⟩:=leaves_stepsInM a'.defers .returning w' {b.atR a' todo with mode:=.returning} cs rfl rfl rfl hf rfl (F:=FW none) trivial hr hq
  exact⟨e',w'',fr',hR,GE hs₀ hs,hfn,hl⟩
 | panic chain =>
  obtain⟨todo,hs₀⟩:=harr
  obtain⟨e',w'',fr',hR,hs,hfn,hl⟩:=leaves_stepsInM a'.defers (.panicking chain) w' {b.atR a' todo with mode:=.panicking chain} cs rfl rfl rfl hf rfl (F:=FW none) trivial hr hq
  exact⟨e',w'',fr',hR,GE hs₀ hs,hfn,hl⟩
 | exit id=>exact hq.elim
 | goto l=>exact hq.elim
 | outgrown=>exact⟨.outgrown,w',b,hq,harr.resolve_left (by simp[b]),rfl,trivial⟩
end
def VA(P:Program)(Γ:af)(X:Ctx)(r:Option Nat)(ops:Array Oper)(Q:Exit→AS→Prop)(s:AS):Prop :=
 ∀(a:Act) (w:World),St Γ X s a w→wpAnyIn (FW r) 0 P .any ops (eA Γ X Q) ops.size (DT ops.size false) a {w with drawn:=w.drawn+1}
section
variable {P:Program} {Γ:af} {X:Ctx} {r:Option Nat} {call:CallF} {ops:Array Oper} {m:List Nat} {t0 tF:List D} {hs:List (List Blk)} {ts:List (List D)} {Q:Exit→AS→Prop} {F:List Nat}
theorem VA.drawF{s:AS}(_ok:POk P)(hD:DrawOkF F ops.toList (bb ops.toList []))(hr:runR P Γ s.m ops.toList Wk FixOk ops.toList s.t s.h tF hs ts)
  (hq:qK P Γ F ops.toList (bb ops.toList []) tF hs ts) (hF:∀j o,ops.toList[j]? = some o→yC j F=true→hs.getD (j+1) []=hs.getD j []) (hQ:Q .normal {t:=tF,h:=hs.getD ops.size [],m:=s.m}):VA P Γ X r ops Q s:=by
 obtain⟨g1,g2,g3,g4,_⟩:=dR _ _ _ _ _ _ hr
 have h0:hs.getD 0 []=s.h:=by simp[List.getD_eq_getElem?_getD,g3]
 intro a w hst
 rw[←h0] at hr
 refine kg (t0:=s.t) (hs:=hs) hD hr hq hF hQ ops.size 0 _ a _ ?_ ?_
 ·have hrep:∀j,(DT ops.size false).getD j false=false:=by
   intro j
   simp only[Array.getD_eq_getD_getElem?,Array.getElem?_replicate]
   split<;>rfl
  refine⟨by simp,fun k o hk _ _ _ _=>?_,?_,by simp[eh],fun c o _ _=>?_⟩
  ·unfold Lst at hk;rw[hrep] at hk;cases hk
  ·have e1:cH ops.toList (DT ops.size false) s.t tF=s.t:=by
    refine aL (by rw[ak,g1]) fun x hx=>?_
    rw[ak] at hx
    rw[dg hx]
    split
    ·rfl
    ·rename_i hp
     refine g2 x fun o ho hd=>hp ?_
     obtain⟨k,hk⟩:=List.mem_iff_getElem?.1 ho
     exact bN.2 ⟨k,o,hk,hd,hrep k⟩
   rw[e1,h0]
   obtain⟨l,R,E,rt,rd⟩:=hst
   obtain⟨R',E'⟩:=R.of_heap (w':={w with drawn:=w.drawn+1}) rfl ⟨rfl,rfl,rfl,(by first|exact CP _|exact Nat.le_succ _)⟩
   exact⟨l,R',E.trans E',E'.relL rt,rd⟩
  ·unfold Lst
   rw[hrep]
   simp
 ·refine Nat.le_trans List.countP_le_length (by simp)
end
theorem VA.drawE{P:Program}{Γ:af}{X:Ctx}{r:Option Nat}{ops:Array Oper}{tF:List D}{hs:List (List Blk)}{ts:List (List D)}{Q:Exit→AS→Prop}{s:AS}(ok:POk P)(hD:DrawOk ops.toList (bb ops.toList []))(hr:runR P Γ s.m ops.toList Wk FixOk ops.toList s.t s.h tF hs ts)
  (hq:ij P Γ ops.toList (bb ops.toList []) tF hs ts) (hQ:Q .normal {t:=tF,h:=hs.getD ops.size [],m:=s.m}):VA P Γ X r ops Q s:=by
 refine VA.drawF (F:=[]) ok ⟨hD.self,hD.edge,hD.uniq,hD.oper,fun i k o o' h1 h2 h3 h4 h5=>hD.chain i k o o' h1 h2 h3 (by rw[ce] at h4;exact h4) (by rw[ce] at h5;exact h5)⟩ hr ?_ (fun _ _ _ h=>by cases h) hQ
 intro i o ho hqo hg k hk hc
 rw[ce] at hqo
 unfold eh at hk
 unfold fR at hc
 rw[kh] at hk hc
 obtain⟨f,d,h',h1,h2,h3⟩:=hq i o ho hqo hg k hk hc
 have:=a5 hqo h2
 subst this
 exact⟨f,d,h1,OpOk.sem h2,h3⟩
section
variable {P:Program} {Γ:af} {X:Ctx} {r:Option Nat} {Q:Exit→AS→Prop} {t:List D} {h:List Blk} {m:List Nat}
theorem VA.drawW(ok:POk P){ops:Array Oper}(hD:fK ops.toList (bb ops.toList [])=true)(hx:ops.toList.all (fun o=>match o.dst with|some x=>Qd (x<t.length)|none=>true)=true)
  (hr:RW P Γ m ops.toList true ops.toList t h (fun t' h'=>Q .normal {t:=t',h:=h',m:=m})):VA P Γ X r ops Q {t:=t,h:=h,m:=m}:=by
 obtain⟨tF,hs,ts,g1,g2,g3⟩:=RW.runR _ _ _ hr
 have hD':=gz hD
 have hx':=hx
 clear hx
 refine VA.drawE (hs:=hs) (ts:=ts) ok hD' g1 ?_ ?_
 ·intro i o ho hq ⟨f0,hf0,hg0⟩ k hk hcomp
  obtain⟨g5,g6,g7,g8,hat⟩:=dR _ _ _ _ _ _ g1
  obtain⟨call,hc,f,dw,d,⟨hfx,h1,hwk⟩,h2,h3,h4⟩:=hat i o ho
  have hi:i≤ops.toList.length:=by
   have:=(Cx.1 ho).1
   omega
  have hk':k≤ops.toList.length:=by
   simp only[j1,CU,Di] at hk
   rcases hk with rfl|⟨c,hc1,rfl⟩
   ·omega
   ·obtain⟨o',ho',_⟩:=bu hc1
    have:=(Cx.1 ho').1
    omega
  rw[g3 i hi] at h1
  rw[g3 k hk']
  have hwx:∀x,o.dst=some x→Wk dw (tF.getD x .any):=fun x hx=>by
   have hxl:x<t.length:=by
    have:=CS.1 hx' o (Da ho)
    simpa[hx] using this
   rw[h4 x hx (fun j o' hj ho' hd=>by have:=hD'.uniq i j o o' x ho ho' hx hd;omega) hxl]
   exact hwk
  unfold bT at h1
  split at h1
  ·rename_i hg
   split at h1
   ·rename_i d1 h1' hop
    split at h1
    ·simp only[Cs,Cu] at h1
     obtain⟨rfl,_⟩:=h1
     unfold dP at hop
     split at hop
     ·rename_i ho2
      rw[ho2] at hq
      simp[quietOp] at hq
     ·split at hop
      ·rename_i hsem
       cases hop
       exact⟨f,_,_,hfx,hsem,hwx⟩
      ·simp at hop
    ·simp at h1
   ·simp at h1
  ·rename_i hg
   exact absurd (dU X.w hfx hf0 hg hg0) (by simp)
  ·simp at h1
 ·have:=g3 ops.toList.length (CP _)
  rw[show ops.size=ops.toList.length by simp,this]
  exact g2
end
def uu:Nat→List (Array Bool)
 | 0=>[#[]]
 | n+1=>(uu n).flatMap fun s=>[s.push false,s.push true]
def kD(ops:Array Oper)(S:Array Bool):Bool:=(DJ ops.size).all fun i=>!S.getD i false||(match ops[i]? with
 | some o=>o.after.all fun e=>S.getD e.on false
 | none=>true)
def oU(ops:Array Oper)(o:Oper):Bool:=kD ops (DT ops.size false)&&(uu ops.size).all fun S=>!kD ops S||(
 (match Ef .any ops S with
  | []=>Ef .any (ops.push o) (S.push false)==[ops.size]
  | r=>Ef .any (ops.push o) (S.push false)==r&&r.all fun i=>Qd (i<ops.size)&&kD ops (S.setIfInBounds i true)))
theorem kF:∀(n:Nat) (S:Array Bool),S.size=n→S∈uu n
 | 0,S,h=>by
  have:S=#[]:=Array.eq_empty_of_size_eq_zero h
  simp[uu,this]
 | n+1,S,h=>by
  obtain⟨bs,c,rfl⟩:=Array.exists_push_of_size_eq_add_one h
  have h2:=kF n bs (by simpa using h)
  simp only[uu,List.mem_flatMap]
  refine⟨bs,h2,?_⟩
  cases c<;>simp
theorem eQ{ops:Array Oper}{tmps:Array Value}{o:Oper}(h:o.guard=none):Dl o (yielded ops tmps)=true:=by
 unfold Dl;rw[h]
theorem uv{F:Fence}{n:Nat}{P:Program}{o:Oper}{a:Act}{w:World}{K K':Act→World→Prop}{Q Q':Exit→Act→World→Prop}(hK:∀a w,K a w→K' a w)(hQ:∀e a w,e ≠ .normal→Q e a w→Q' e a w)(h:o.wpIn F n P a w K Q):o.wpIn F n P a w K' Q':=by
 refine⟨h.1,?_⟩
 have hh:=h.2
 have hl:LetsOut Q→LetsOut Q':=fun⟨a,w,h⟩=>⟨a,w,hQ _ _ _ (by simp) h⟩
 generalize (o.semAt F.round a.eval).run P w=res at hh
 unfold Oper.uponIn at hh ⊢
 split at hh
 ·exact hK _ _ hh
 ·exact hK _ _ hh
 ·exact hK _ _ hh
 ·exact⟨hh.1,Ek hh.2 fun e w'' he=>by cases e<;>first|exact hK _ _ he|exact hQ _ _ _ (by simp) he|exact hl he⟩
 ·exact⟨hh.1,RowsIn.mono hh.2 fun v w'' he=>hK _ _ he⟩
 ·exact⟨hh.1,RoundIn.mono hh.2 fun e w'' he=>by cases e<;>first|exact hK _ _ he|exact hQ _ _ _ (by simp) he|exact hl he⟩
 ·exact hQ _ _ _ (by simp) hh
 ·exact hh.elim
theorem wD{P:Program}{r:Option Nat}{ops:Array Oper}{o:Oper}{Q6 Q:Exit→Act→World→Prop}(hp:oU ops o=true)(hg:∀(i:Nat) (o':Oper),(ops.push o)[i]? = some o'→o'.guard=none)
  (hN:∀a w K,Q6 .normal a w→o.wpIn (FW r) 0 P a w K Q) (hP:∀e a w,e ≠ .normal→Q6 e a w→Q e a w) :
  ∀(fuel:Nat) (S:Array Bool) (a:Act) (w:World),S.size=ops.size→kD ops S=true→wpAnyIn (FW r) 0 P .any ops Q6 fuel S a w→wpAnyIn (FW r) 0 P .any (ops.push o) Q (fuel+1) (S.push false) a w:=by
 intro fuel
 unfold oU at hp
 rw[Cy,CS] at hp
 have hn:(ops.push o)[ops.size]? = some o:=by simp
 have last:∀(fuel:Nat) (S:Array Bool) (a:Act) (w:World),S.size=ops.size→kD ops S=true→Ef .any ops S=[]→Q6 .normal a w→wpAnyIn (FW r) 0 P .any (ops.push o) Q (fuel+1) (S.push false) a w:=by
  intro fuel S a w hs hc hr hq
  have h1:=hp.2 S (kF _ S hs)
  rw[hc,hr] at h1
  have h2:Ef .any (ops.push o) (S.push false)=[ops.size]:=by simpa using h1
  refine⟨fun h=>?_,fun i hi=>?_⟩
  ·rw[h2] at h;cases h
  ·rw[h2] at hi
   obtain rfl:i=ops.size:=by simpa using hi
   unfold wpOpIn
   rw[hn]
   simp only
   rw[if_pos (eQ (hg _ _ hn))]
   exact hN _ _ _ hq
 induction fuel with
 | zero =>
  intro S a w hs hc h
  exact last 0 S a w hs hc h.1 h.2
 | succ fuel ih =>
  intro S a w hs hc h
  cases hr:Ef .any ops S with
  | nil=>exact last _ S a w hs hc hr (h.1 hr)
  | cons x xs =>
   have h1:=hp.2 S (kF _ S hs)
   rw[hc,hr] at h1
   simp only[Bool.not_true,Bool.false_or,Cy,beq_iff_eq,CS] at h1
   obtain⟨h2,h3⟩:=h1
   refine⟨fun h=>?_,fun i hi=>?_⟩
   ·rw[h2] at h;cases h
   ·rw[h2] at hi
    have h4:=h3 i hi
    simp only[decide_eq_true_eq] at h4
    have h5:=h.2 i (by rw[hr];exact hi)
    have e1:(ops.push o)[i]? = ops[i]?:=by
     rw[Array.getElem?_push,if_neg (by omega)]
    have e2:ops[i]? = some ops[i]:=by simp[h4.1]
    have hgi:=hg i ops[i] (by rw[e1,e2])
    unfold wpOpIn at h5 ⊢
    rw[e1,e2]
    rw[e2] at h5
    simp only at h5 ⊢
    rw[if_pos (eQ hgi)] at h5 ⊢
    have e3:(S.push false).setIfInBounds i true=(S.setIfInBounds i true).push false:=by
     apply Array.toList_inj.1
     rw[FQ,H9,H9,FQ,List.set_append_left _ _ (by rw[DV,hs];exact h4.1)]
    rw[e3]
    exact uv (fun a' w' hk=>ih _ a' w' (by simp[hs]) h4.2 hk) hP h5
theorem VW.drawPush{P:Program}{Γ:af}{X:Ctx}{r:Option Nat}(ok:POk P){I:Inl}(hI:eu P Γ I){id:Nat}{ops:Array Oper}{o:Oper}{t t1:List D}{h h1 hq:List Blk}{as:List Ans}{φ:List Prop}{fv:Operand}{args:Array Operand}{ats:Array TypeId}{c:List PanicEntry}
  (ho:o.op=.call {callee:=.value fv,args,argTypes:=ats}) (hgs:(ops.push o).toList.all (fun o=>o.guard.isNone)=true) (hpush:oU ops o=true) (hD:fK ops.toList (bb ops.toList [])=true)
  (hx:ops.toList.all (fun o=>match o.dst with|some x=>Qd (x<t.length)|none=>true)=true) (hm:ah h []=true)
  (hsym:gK P Γ I [] ops.toList true ops.toList [] t h as=some (t1,h1,[],φ)) (hφ:AllP φ)
  (hcall:CROk P Γ (evalD Γ t1 fv) (args.toList.map (evalD Γ t1)) h1 (.pan c hq)) (hmq:ah hq []=true) :
  VW P Γ X r (.region id (ops.push o) true) (fun e s=>e=.panic c∧s={t:=t1,h:=hq,m:=[]}) {t:=t,h:=h,m:=[]}:=by
 intro a w hst
 have hRW:=eL (K:=fun t' h'=>(fun (e:Exit) (s:AS)=>e=.normal∧s={t:=t1,h:=h1,m:=[]}) .normal {t:=t',h:=h',m:=[]}) ok hI ⟨rfl,rfl⟩ _ _ _ _ _ _ StkOk.nil hm hsym hφ
 have hA:=VA.drawW (X:=X) (r:=r) (Q:=fun e s=>e=.normal∧s={t:=t1,h:=h1,m:=[]}) ok hD hx hRW a w hst
 refine wpIn_region_any ok.mixed ?_
 have e1:DT (ops.push o).size false=(DT ops.size false).push false:=by
  rw[Array.size_push];exact Array.replicate_succ
 have e2:(ops.push o).size=ops.size+1:=Array.size_push _
 rw[e1,e2]
 refine wD hpush (fun i o' ho'=>?_) (fun a' w' K hq6=>?_) (fun e a' w' hne hq6=>?_) _ _ _ _ (by simp) ?_ hA
 ·have hmem:o'∈(ops.push o).toList:=by
   rw[←Dr] at ho'
   exact Da ho'
  have:=CS.1 hgs o' hmem
  simpa using this
 ·obtain⟨_,s,⟨_,rfl⟩,l,R,E,rt,rd⟩:=hq6
  refine⟨fun _ _=>trivial,?_⟩
  rw[F5 _ _ _ (by intro c hc;rw[ho] at hc;simp at hc)]
  have e1:(execOp a'.eval o).run P w'=(do let d ←Ds (a'.eval fv) (args.toList.map a'.eval).toArray;invoke d.target d.args:Sem Next).run P w':=by
   unfold execOp
   rw[ho]
   simp only[resolve]
   congr 3
   rw[←FC]
  rw[e1]
  exact(hcall:VInvP P Γ _ _ h1 fun c2 h2=>c2=c∧h2=hq) X.O w' l _ _ R (aD R rt fv) (ck R rt args.toList) r o a' _ _ fun c2 h2 l2 w2 ⟨g1,g2⟩ g3 g4=>by
   subst g1;subst g2
   exact⟨by simp,_,⟨rfl,rfl⟩,l2,g3,E.trans g4,g4.relL rt,Fg g4.keep hmq rd⟩
 ·obtain⟨_,s,⟨h1,_⟩,_⟩:=hq6
  exact absurd h1 hne
 ·unfold oU at hpush
  rw[Cy] at hpush
  exact hpush.1
theorem CW.drawPush{P:Program}{Γ:af}{h0:List Blk}{rd:Bool}(ok:POk P){I:Inl}(hI:eu P Γ I){id:Nat}{opz ops:Array Oper}{o:Oper}{t t1:List D}{h h1 hq:List Blk}(as:List Ans){φ:List Prop}{fv:Operand}{args:Array Operand}{ats:Array TypeId}{c:List PanicEntry}
  (hz:opz=ops.push o) (ho:o.op=.call {callee:=.value fv,args,argTypes:=ats}) (hgs:(ops.push o).toList.all (fun o=>o.guard.isNone)=true) (hpush:oU ops o=true) (hD:fK ops.toList (bb ops.toList [])=true)
  (hx:ops.toList.all (fun o=>match o.dst with|some x=>Qd (x<t.length)|none=>true)=true) (hm:ah h []=true)
  (hsym:gK P Γ I [] ops.toList true ops.toList [] t h as=some (t1,h1,[],φ)) (hφ:AllP φ)
  (hcall:CROk P Γ (evalD Γ t1 fv) (args.toList.map (evalD Γ t1)) h1 (.pan c hq)) (hmq:ah hq []=true) :
  CW P Γ h0 rd (.region id opz true) {t:=t,h:=h,m:=[]} (.panic c) {t:=t1,h:=hq,m:=[]}:=by
 subst hz
 exact fun X r _ _=>VW.drawPush ok hI ho hgs hpush hD hx hm hsym hφ hcall hmq
section
variable {P:Program} {Γ:af}
theorem AtF.cw{f0:FuncId}{X:Ctx}{h0:List Blk}{c:Code}{s s':AS}{e:Exit}(hc:CW P Γ h0 false c s e s')(hX:X.h=h0){a:Act}{w:World}(hs:St Γ X s a w):AtF P f0 c (fun e1 a1 w1=>e1=e∧St Γ X s' a1 w1) a w:=by
 refine AtF.of_wp (wpIn_mono (hc X none hX (fun _=>rfl) a w hs) ?_)
 rintro e1 a1 w1 ⟨_,s1,⟨rfl,rfl⟩,h2⟩
 exact⟨rfl,h2⟩
def TopF(P:Program)(Γ:af)(f:FuncId)(c:Code)(s:AS)(e:Exit)(s':AS):Prop :=
 ∀(O:Nat→Prop) (w0:World) (l0:Loc) (h0:List Blk) (a:Act) (w:World),h0=s.h→St Γ {O:=O,w:=w0,l:=l0,h:=h0} s a w →
  AtF P f c (fun e1 a1 w1=>e1=e∧St Γ {O:=O,w:=w0,l:=l0,h:=h0} s' a1 w1) a w
theorem VRes.of_topF{f:FuncId}{fn:Func}{c:Code}{args:List D}{h:List Blk}{c0:List PanicEntry}{s':AS}{r:CR}(hf:P.funcs[f]? = some fn)(hb:fn.body=some c)
  (ht:TopF P Γ f c {t:=bL fn args,h:=h,m:=[]} (.panic c0) s') (he:fC P fn (fun _ _ _ _=>none) h.length (.panic c0) s' none=some r):VRes P Γ f args h r:=by
 intro O w l vs R ra
 refine sJ hf hb ?_
 refine(ht O w l h _ w rfl (fc R ra fn)).mono ?_
 rintro e1 a1 w1 ⟨rfl,hst⟩
 unfold fC at he
 split at he
 case h_2=>simp at he
 rename_i hmk
 simp only[Cy,decide_eq_true_eq] at hmk
 obtain⟨l',R',E',rt',rd'⟩:=hst
 exact bM (u:=.panicking c0) (by simp) s'.m a1.defers w1 l' s'.h R' E' rt' rd' hmk.2 fun w2 l2 R2 E2 rt2=>fO he R2 E2 rt2
end
def ej:Code→Nat→Bool
 | .region i _ _,n=>Nat.beq i n
 | .seq a b,n=>ej a n||ej b n
 | .cond _ a b,n=>ej a n||ej b n
 | .block _ b,n=>ej b n
 | .loop b,n=>ej b n
 | .scope b,n=>ej b n
 | .rangeFunc _ _ a b,n=>ej a n||ej b n
 | _,_=>false
def cA:Code→Nat→Code
 | .seq (.region i o d) b,n=>bif Nat.beq i n then .seq (.region i o d) b else cA b n
 | .seq a b,n=>bif ej a n then cA a n else cA b n
 | .cond _ a b,n=>bif ej a n then cA a n else cA b n
 | .block _ b,n=>cA b n
 | .loop b,n=>cA b n
 | .scope b,n=>cA b n
 | .rangeFunc _ _ a b,n=>bif ej a n then cA a n else cA b n
 | c,_=>c
section
variable {P:Program} {Γ:af}
def nd:CallX:=fun _ _ _=>none
theorem oV{call:CallX}{t:List D}{h:List Blk}{o:Op}{r:CR}(hs:ol P Γ nd t h o=some r):ol P Γ call t h o=some r:=by
 unfold ol at hs ⊢
 split at hs
 ·simp[nd] at hs
 ·exact hs
 ·exact hs
theorem fT{call:CallX}{m:List Nat}{L:List Oper}{t1:List D}{h1:List Blk}{r:Exit×List D×List Blk}{os2:List Oper}:∀(os1:List Oper) (t:List D) (h:List Blk),aZ P Γ nd m L os1 t h=some (.normal,t1,h1)→aZ P Γ call m L os2 t1 h1=some r →
  aZ P Γ call m L (os1++os2) t h=some r
 | [],t,h,ha,hb=>by
  simp only[aZ,Cs,Cu] at ha
  obtain⟨_,rfl,rfl⟩:=ha
  exact hb
 | o::os,t,h,ha,hb=>by
  simp only[aZ,Hk] at ha ⊢
  split at ha
  ·split at ha
   ·rename_i d h' hst
    rw[oV (call:=call) hst]
    simp only
    split at ha
    ·rename_i hm
     rw[if_pos hm]
     exact fT os _ _ ha hb
    ·simp at ha
   ·split at ha<;>simp at ha
   ·simp at ha
  ·exact fT os _ _ ha hb
  ·simp at ha
open Classical in
noncomputable def wE(x0:D)(a0:List D)(h0:List Blk)(r0:CR):CallX:=fun x args h=>if x=x0∧args=a0∧h=h0 then some r0 else none
theorem wF{x0:D}{a0:List D}{h0:List Blk}{r0:CR}(hr:CROk P Γ x0 a0 h0 r0):(wE x0 a0 h0 r0).Ok P Γ:=by
 intro x args h r he
 unfold wE at he
 split at he
 ·rename_i hh
  obtain⟨rfl,rfl,rfl⟩:=hh
  cases he
  exact hr
 ·simp at he
theorem CW.callPan{h0:List Blk}{rd:Bool}{id:Nat}{ops:Array Oper}{os1 rest:List Oper}{o:Oper}{t t1:List D}{h h1 hp:List Blk}{fv:Operand}{args:Array Operand}{ats:Array TypeId}{c:List PanicEntry}
  (hops:ops.toList=os1++o::rest) (hpre:aZ P Γ nd [] ops.toList os1 t h=some (.normal,t1,h1)) (ho:o.op=.call {callee:=.value fv,args,argTypes:=ats}) (hg:o.guard=none)
  (hcall:VInvP P Γ (evalD Γ t1 fv) (args.toList.map (evalD Γ t1)) h1 fun c2 h2=>c2=c∧h2=hp) (hm:ah hp []=true) :
  CW P Γ h0 rd (.region id ops false) {t:=t,h:=h,m:=[]} (.panic c) {t:=t1,h:=hp,m:=[]}:=by
 have hok:=wF (P:=P) (Γ:=Γ) (x0:=evalD Γ t1 fv) (a0:=args.toList.map (evalD Γ t1)) (h0:=h1) (r0:=.pan c hp) hcall
 refine CW.regionX (s:={t:=t,h:=h,m:=[]}) hok ?_
 show aZ P Γ _ [] ops.toList ops.toList t h=_
 conv=>lhs;arg 6;rw[hops]
 refine fT os1 t h hpre ?_
 simp only[aZ,hg,aC]
 have e1:ol P Γ (wE (evalD Γ t1 fv) (args.toList.map (evalD Γ t1)) h1 (.pan c hp)) t1 h1 o.op=some (.pan c hp):=by
  unfold ol
  rw[ho]
  simp only[wE]
  simp
 rw[e1]
 simp only
 rw[if_pos hm]
theorem VPan.frzArgs{f:FuncId}{args:List D}{h:List Blk}{c0:List PanicEntry}(hi:Gu 0 (uq h args)=true)(he:VPan P Γ f (uq h args) [] fun c h'=>c=c0∧h'=[]):VPan P Γ f args h fun c h'=>c=c0∧h'=h:=by
 intro O w l vs R ra
 have hav:∀l' k,avs (fun k=>avs O l h k∧¬kB l h k) l' [] k→avs O l h k∧¬kB l h k:=fun l' k ho=>ho.elim id (fun h=>absurd h bJ)
 have R0:Rep Γ (fun k=>avs O l h k∧¬kB l h k) w l []:=by
  refine⟨fun blk ho=>absurd ho bJ,fun blk ho=>?_,fun b b' x x' k c c' hb=>by simp at hb,fun b x hb=>by simp at hb,fun g cs hg=>?_⟩
  ·rcases ho.1 with ho|ho
   ·exact R.obd blk ho
   ·exact(R.inb blk ho).1
  ·exact ar (fun k hk=>(hav l k hk).1) (R.glo g cs hg)
 have ra0:=jw (av':=avs (fun k=>avs O l h k∧¬kB l h k) l []) R (fun k hk=>hav l k hk) hi ra
 refine Ek (he _ w l vs R0 ra0) ?_
 rintro e w' ⟨c,h2,l',rfl,⟨rfl,rfl⟩,R',E'⟩
 have E:Ext w l h w' l h:=⟨E'.size,fun blk hb _=>E'.same blk hb bJ,fun blk ho=>.inl ho,fun b x hx=>⟨x,hx,x.le_refl,fun _=>rfl⟩,E'.tape⟩
 refine⟨_,h,l,rfl,⟨rfl,rfl⟩,⟨fun blk ho=>⟨D7 (R.inb blk ho).1 E'.size,(R.inb blk ho).2⟩,fun blk ho=>D7 (R.obd blk ho) E'.size,R.inj,fun b x hx=>?_,fun g cs hg=>?_⟩,E⟩
 ·by_cases hg:x=.gone
  ·subst hg;trivial
  exact BlkOk.ext E rfl (fun blk cp hl=>E'.same blk (R.inb blk ⟨b,x,cp,hx,hg,hl⟩).1 bJ) (R.blk b x hx)
 ·exact Gh E.hc g 0 cs (R.glo g cs hg)
theorem RW.soundK{X:Ctx}{r:Option Nat}{m:List Nat}{ops:Array Oper}{Q':Exit→Act→World→Prop}{tail:List Nat}{K:List D→List Blk→Prop}
  (hN:∀t' h' a w,K t' h'→St Γ X {t:=t',h:=h',m:=m} a w→wpOpsIn (FW r) 0 P ops Q' tail a w):∀(os:List Oper) (i:Nat) (t:List D) (h:List Blk) (more:List Oper),ops.toList.drop i=os++more→RW P Γ m ops.toList false os t h K →
  ∀(a:Act) (w:World),St Γ X {t:=t,h:=h,m:=m} a w→wpOpsIn (FW r) 0 P ops Q' (DW i os.length++tail) a w:=by
 intro os
 induction os with
 | nil =>
  intro i t h more hd hr a w hs
  exact hN _ _ _ _ hr hs
 | cons o os ih =>
  intro i t h more hd hr a w hs
  have ho:ops[i]? = some o:=by
   rw[←Dr]
   have:=congrArg (·[0]?) hd
   simpa using this
  have hd':ops.toList.drop (i+1)=os++more:=by
   have:=congrArg (List.drop 1) hd
   simpa[Nat.add_comm] using this
  simp only[Dk,Gx,Hk,wpOpsIn,ho]
  exact j6 rfl hr (fun d h' a' w' hk hs'=>ih (i+1) _ _ _ hd' hk.2 a' w' hs') hs
theorem CW.symPan(ok:POk P){I:Inl}(hI:eu P Γ I){h0:List Blk}{rd:Bool}{id:Nat}{ops:Array Oper}{os1 rest:List Oper}{o:Oper}{t t1:List D}{h h1 hp:List Blk}(as:List Ans){φ:List Prop}{fv:Operand}{args:Array Operand}{ats:Array TypeId}{c:List PanicEntry}{m:List Nat}
  (hops:ops.toList=os1++o::rest) (hm:ah h m=true) (hsym:gK P Γ I m ops.toList false os1 [] t h as=some (t1,h1,[],φ)) (hφ:AllP φ) (ho:o.op=.call {callee:=.value fv,args,argTypes:=ats}) (hg:o.guard=none)
  (hcall:VInvP P Γ (evalD Γ t1 fv) (args.toList.map (evalD Γ t1)) h1 fun c2 h2=>c2=c∧h2=hp) (hmp:ah hp m=true) :
  CW P Γ h0 rd (.region id ops false) {t:=t,h:=h,m:=m} (.panic c) {t:=t1,h:=hp,m:=m}:=by
 intro X r _ _ a w hst
 have hRW:=eL (K:=fun t' h'=>t'=t1∧h'=h1) ok hI ⟨rfl,rfl⟩ _ _ _ _ _ _ StkOk.nil hm hsym hφ
 refine wpIn_region ?_
 have hlen:ops.size=os1.length+(rest.length+1):=by rw[←DV,hops];simp
 have hrange:DJ ops.size=DW 0 os1.length++(os1.length::DW (os1.length+1) rest.length):=by
  rw[hlen,FF,←List.range'_append_1,Gx,Nat.zero_add]
 rw[hrange]
 have hoi:ops[os1.length]? = some o:=by rw[←Dr,hops];simp
 refine RW.soundK (X:=X) (r:=r) (m:=m) ?_ os1 0 t h (o::rest) (by simpa using hops) hRW a w hst
 rintro t' h' a' w' ⟨rfl,rfl⟩ ⟨l,R,E,rt,rd'⟩
 simp only[wpOpsIn,hoi]
 rw[if_pos (eQ hg)]
 refine⟨fun _ _=>trivial,?_⟩
 rw[F5 _ _ _ (by intro c hc;rw[ho] at hc;simp at hc)]
 have e1:(execOp a'.eval o).run P w'=(do let d ←Ds (a'.eval fv) (args.toList.map a'.eval).toArray;invoke d.target d.args:Sem Next).run P w':=by
  unfold execOp
  rw[ho]
  simp only[resolve]
  congr 3
  rw[←FC]
 rw[e1]
 exact(hcall:VInvP P Γ _ _ h' fun c2 h2=>c2=c∧h2=hp) X.O w' l _ _ R (aD R rt fv) (ck R rt args.toList) r o a' _ _ fun c2 h2 l2 w2 ⟨g1,g2⟩ g3 g4=>by
  subst g1;subst g2
  exact⟨by simp,_,⟨rfl,rfl⟩,l2,g3,E.trans g4,g4.relL rt,Fg g4.keep hmp rd'⟩
theorem VPan.glob0{Γ':af}{f:FuncId}{args:List D}{h:List Blk}{K:List PanicEntry→List Blk→Prop}(he:VPan P (fun _=>none) f args h K):VPan P Γ' f args h K:=by
 intro O w l vs R ra
 refine Ek (he O w l vs (R.less (GLe.none Γ')) ra) ?_
 rintro e w' ⟨c,h2,l',rfl,hq,R',E'⟩
 exact⟨c,h2,l',rfl,hq,R.more E' R',E'⟩
end
def Shp(P:Program):Nat→TypeId→List Dp→Prop
 | 0,_,_=>False
 | n+1,t,ds=>match P.underlying t with
  | some .bool=>∃b,ds=[.v (.bool b)]
  | some (.int k)=>∃x,ds=[.v (.int k x)]∧(Lit.int k x).wf=true
  | some .string=>∃s,ds=[.v (.string s)]∧s.size≤reachBytes
  | some (.slice e)=>∃es,ds=[.sl es]∧es.length*P.bytesOf e≤reachBytes∧∀r∈es,Shp P n e r
  | some (.struct fs)=>ds.length=P.cellsOf t∧∀f∈fs.toList,Shp P n f.type ((ds.drop f.offset).take (P.cellsOf f.type))
  | _=>False
def dZ(P:Program):List Field→Nat→Nat→Bool
 | [],acc,total=>acc==total
 | f::fs,acc,total=>(f.offset==acc)&&dZ P fs (acc+P.cellsOf f.type) total
def uw(P:Program)(ts:List TypeId):Bool:=ts.all fun t=>match P.underlying t with
 | some .bool|some (.int _)|some .string=>true
 | some (.slice e)=>ts.contains e&&Qd (0<P.cellsOf e)
 | some (.struct fs)=>dZ P fs.toList 0 (P.cellsOf t)&&fs.toList.all fun f=>ts.contains f.type
 | _=>false
def RelPL(w:World)(av:Nat→Prop):List Dp→List Value→Prop
 | [],[]=>True
 | d::ds,y::ys=>RelP w av d y∧RelPL w av ds ys
 | _,_=>False
section
variable {w:World} {av:Nat→Prop}
theorem RelPL.length:∀{ds:List Dp} {ys:List Value},RelPL w av ds ys→ds.length=ys.length
 | [],[],_=>rfl
 | _::_,_::_,h=>by simp[RelPL.length h.2]
 | [],_::_,h=>h.elim
 | _::_,[],h=>h.elim
theorem RelPL.append:∀{ds ds':List Dp} {ys ys':List Value},RelPL w av ds ys→RelPL w av ds' ys'→RelPL w av (ds++ds') (ys++ys')
 | [],_,[],_,_,h=>h
 | _::_,_,_::_,_,h,h'=>⟨h.1,RelPL.append h.2 h'⟩
 | [],_,_::_,_,h,_=>h.elim
 | _::_,_,[],_,h,_=>h.elim
theorem oW{P:Program}:∀{fs:List Field} {acc total:Nat},dZ P fs acc total=true→acc≤total∧∀f∈fs,acc≤f.offset
 | [],acc,total,h=>by simp only[dZ,beq_iff_eq] at h;exact⟨by omega,by simp⟩
 | f::fs,acc,total,h=>by
  simp only[dZ,Cy,beq_iff_eq] at h
  obtain⟨h1,h2⟩:=oW h.2
  refine⟨by omega,fun g hg=>?_⟩
  rcases CU.1 hg with rfl|hg
  ·omega
  ·have:=h2 g hg;omega
theorem kG{P:Program}{cs:List Value}{S:TypeId→List Dp→Prop}{total:Nat}(hc:cs.length=total):∀(fs:List Field) (acc:Nat),dZ P fs acc total=true →
  (∀f∈fs,∃ds,S f.type ds∧RelPL w av ds ((cs.drop f.offset).take (P.cellsOf f.type))) →
  ∃D,RelPL w av D (cs.drop acc)∧∀f∈fs,S f.type ((D.drop (f.offset - acc)).take (P.cellsOf f.type))
 | [],acc,h,_=>by
  simp only[dZ,beq_iff_eq] at h
  refine⟨[],?_,by simp⟩
  rw[List.drop_of_length_le (by omega)]
  trivial
 | f::fs,acc,h,hf=>by
  simp only[dZ,Cy,beq_iff_eq] at h
  obtain⟨rfl,h⟩:=h
  obtain⟨ds,hs,hr⟩:=hf f (List.mem_cons_self ..)
  obtain⟨D,hD,hS⟩:=kG hc fs _ h (fun g hg=>hf g (List.mem_cons_of_mem _ hg))
  obtain⟨hle,hoff⟩:=oW h
  have hlen:ds.length=P.cellsOf f.type:=by
   have:=hr.length
   rw[this,List.length_take,List.length_drop]
   omega
  refine⟨ds++D,?_,fun g hg=>?_⟩
  ·have:=hr.append hD
   rw[←List.drop_drop,List.take_append_drop] at this
   exact this
  ·rcases CU.1 hg with rfl|hg
   ·rw[Nat.sub_self,List.drop_zero,List.take_append_of_le_length (by omega),←hlen,List.take_length]
    exact hs
   ·have h1:=hoff g hg
    have hd:∀k,(ds++D).drop (ds.length+k)=D.drop k:=fun k=>by rw[FK];simp
    rw[show g.offset - f.offset=ds.length+(g.offset - (f.offset+P.cellsOf f.type)) by omega,hd]
    exact hS g hg
theorem l7{blk c:Nat}:∀(es:List (List Dp)) (off:Nat),(∀i e,es[i]? = some e→e.length=c∧RelCells w av blk (off+i*c) e)→RelRows w av blk c off es
 | [],_,_=>trivial
 | e::es,off,h=>by
  obtain⟨h1,h2⟩:=h 0 e rfl
  refine⟨h1,by simpa using h2,l7 es (off+c) fun i e' he=>?_⟩
  obtain⟨h3,h4⟩:=h (i+1) e' (by simpa using he)
  refine⟨h3,?_⟩
  rw[show off+c+i*c=off+(i+1)*c by rw[D2];omega]
  exact h4
theorem kH(hav:∀k,¬av k){blk:Nat}:∀(ds:List Dp) (ys:List Value) (off:Nat),RelPL w av ds ys→(∀(j:Nat) (y:Value),ys[j]? = some y→w.cell? ⟨blk,off+j,none⟩=some y)→RelCells w av blk off ds
 | [],_,_,_,_=>trivial
 | d::ds,[],_,r,_=>r.elim
 | d::ds,y::ys,off,r,hc=>by
  refine⟨⟨hav _,y,by simpa using hc 0 y rfl,r.1⟩,kH hav ds ys (off+1) r.2 fun j z hz=>?_⟩
  have:=hc (j+1) z (by simpa using hz)
  rwa[show off+(j+1)=off+1+j by omega] at this
theorem rf{a:Addr}{n:Nat}{cs:List Value}(h:w.cells? 0 a n=some cs):cs.length=n∧∀(j:Nat) (y:Value),cs[j]? = some y→w.cell? (a.add j)=some y:=by
 obtain⟨h1,h2,h3⟩:=World.cells?_some h
 refine⟨h2,fun j y hy=>?_⟩
 have hj:j<n:=by rw[←h2];exact(Cx.1 hy).1
 rw[h3 j hj,hy]
theorem fD{H:Type}{P:Program}{e:TypeId}{q:Nat→Bool}:∀{l:List (DataW H)},(DataW.weightsAll P e l).all q=true→∀d∈l,(d.weights P e).all q=true
 | [],_,d,hd=>by simp at hd
 | x::l,h,d,hd=>by
  simp only[DataW.weightsAll,List.all_append,Cy] at h
  rcases CU.1 hd with rfl|hd
  ·exact h.1
  ·exact fD h.2 d hd
theorem co{H:Type}{P:Program}{q:Nat→Bool}:∀{ts:List TypeId} {l:List (DataW H)},(Ia P ts l).all q=true→∀(i:Nat) (t:TypeId) (d:DataW H),ts[i]? = some t→l[i]? = some d→(d.weights P t).all q=true
 | [],_,_,i,t,d,ht,_=>by simp at ht
 | _::_,[],_,i,t,d,_,hd=>by simp at hd
 | t0::ts,x::l,h,i,t,d,ht,hd=>by
  simp only[Ia,List.all_append,Cy] at h
  cases i with
  | zero=>simp at ht hd;subst ht;subst hd;exact h.1
  | succ i=>exact co h.2 i t d (by simpa using ht) (by simpa using hd)
end
end Go.Vi
