/- DegreeMore: part of the proof: contracts of the functions that the law reaches, and the law. No conditions beyond the given statement's own. -/
import Derived.Test.YthokmgafnhmlbaaGreatDoorW3
open Decidable renaming decide → Dd
open Go Go.Proofs
namespace Go.Vi
set_option maxRecDepth 100000
set_option maxHeartbeats 4000000
structure FlOk (es:List EdgT) (fs:List Int):Prop where
 len:fs.length=es.length
 sz:es.length≤1000
 lo:∀i,i<es.length→0≤fs.getD i 0
 hi:∀i,i<es.length→fs.getD i 0≤(es.getD i ⟨0,0,0⟩).most
 most:∀i,i<es.length→(es.getD i ⟨0,0,0⟩).most≤1073741824
theorem res_cases{m:Nat}{r:Int}(h:ResOk m r):∃i:Nat,i<m∧(r=2*(i:Int)∨r=2*(i:Int)+1):=by
 obtain⟨h0,h1⟩:=h
 refine⟨(r / 2).toNat,by omega,?_⟩
 omega
section
variable {es:List EdgT} {fs:List Int} {i:Nat}
theorem ix0(hi:i<100000):ixR (2*(i:Int))=(i:Int):=by
 unfold ixR
 rw[Int.tdiv_eq_ediv_of_nonneg (by omega),wrap_i64 (by omega) (by omega)];omega
theorem ix1(hi:i<100000):ixR (2*(i:Int)+1)=(i:Int):=by
 unfold ixR
 rw[Int.tdiv_eq_ediv_of_nonneg (by omega),wrap_i64 (by omega) (by omega)];omega
theorem tm0:(Int.tmod (2*(i:Int)) 2==0)=true:=by
 rw[Int.tmod_eq_emod_of_nonneg (by omega)];simp
theorem tm1:(Int.tmod (2*(i:Int)+1) 2==0)=false:=by
 rw[Int.tmod_eq_emod_of_nonneg (by omega)]<;>simp
theorem tn0:(Int.tmod (2*(i:Int)) 2==1)=false:=by
 rw[Int.tmod_eq_emod_of_nonneg (by omega)];simp
theorem tn1:(Int.tmod (2*(i:Int)+1) 2==1)=true:=by
 rw[Int.tmod_eq_emod_of_nonneg (by omega)]<;>simp
theorem end0(hi:i<100000):endA es (2*(i:Int))=(es.getD i ⟨0,0,0⟩).to:=by
 unfold endA endE exA
 rw[tm0,ix0 hi,Int.toNat_natCast]
theorem end1(hi:i<100000):endA es (2*(i:Int)+1)=(es.getD i ⟨0,0,0⟩).frm:=by
 unfold endA endE exA
 rw[tm1,ix1 hi,Int.toNat_natCast]
theorem cap1(hi:i<100000):capA es fs (2*(i:Int)+1)=fs.getD i 0:=by
 unfold capA capE fA
 rw[tm1,ix1 hi,Int.toNat_natCast]
theorem cap0(h:FlOk es fs)(hi:i<es.length):capA es fs (2*(i:Int))=(es.getD i ⟨0,0,0⟩).most - fs.getD i 0:=by
 have h1:=h.lo i hi
 have h2:=h.hi i hi
 have h3:=h.most i hi
 have h4:=h.sz
 unfold capA capE fA exA
 rw[tm0,ix0 (by omega),Int.toNat_natCast]
 exact wrap_i64 (by omega) (by omega)
theorem xr0{m:Nat}(hi:i<m)(hm:m≤100000):xr (2*(i:Int))=2*(i:Int)+1:=by
 rw[xr_eq (m:=m) ⟨by omega,by omega⟩ (by omega),if_pos (by omega)]
theorem xr1{m:Nat}(hi:i<m)(hm:m≤100000):xr (2*(i:Int)+1)=2*(i:Int):=by
 rw[xr_eq (m:=m) ⟨by omega,by omega⟩ (by omega),if_neg (by omega)];omega
end
def AdjL(es:List EdgT)(A:List (List Int)):Prop:=∀(v:Nat) (r:Int),r∈A.getD v []→endA es (xr r)=(v:Int)
theorem getD_set{A:List (List Int)}{u v:Nat}{B:List Int}:(A.set u B).getD v []=if u=v∧u<A.length then B else A.getD v []:=by
 simp only[List.getD,List.getElem?_set]
 by_cases h:u=v
 ·subst h
  by_cases h2:u<A.length
  ·simp[h2]
  ·simp[h2]
 ·simp[h]
theorem AdjL.set{es:List EdgT}{A:List (List Int)}(h:AdjL es A){u:Nat}{r:Int}(hr:endA es (xr r)=(u:Int)):AdjL es (A.set u (A.getD u []++[r])):=by
 intro v x hx
 rw[getD_set] at hx
 split at hx
 ·rename_i hc
  obtain⟨rfl,_⟩:=hc
  rcases List.mem_append.1 hx with hx|hx
  ·exact h u x hx
  ·simp only[List.mem_singleton] at hx
   subst hx;exact hr
 ·exact h v x hx
theorem adj_law{es:List EdgT}(hm:es.length≤1000)(n:Nat)(hin:∀x∈es,EdgIn n x):∀(l:List EdgT) (s:List (List Int)×Int) (i:Nat),s.2=i→es.drop i=l→AdjL es s.1→AdjL es (l.foldl adjF s).1
 | [],s,_,_,_,h=>h
 | x::l,s,i,hi,hd,h=>by
  rw[List.foldl_cons]
  have hlt:i<es.length:=by
   have:=congrArg List.length hd
   simp only[List.length_drop,List.length_cons] at this
   omega
  have hx:es[i]? = some x:=by
   have:=congrArg (fun y=>y[0]?) hd
   simpa using this
  have hg:es.getD i ⟨0,0,0⟩=x:=by simp[List.getD,hx]
  obtain⟨x1,x2,x3,x4⟩:=hin x (List.mem_of_getElem? hx)
  have e1:IntKind.i64.wrap (2*s.2)=2*(i:Int):=by rw[hi];exact wrap_i64 (by omega) (by omega)
  have e2:IntKind.i64.wrap (2*(i:Int)+1)=2*(i:Int)+1:=wrap_i64 (by omega) (by omega)
  refine adj_law hm n hin l (adjF s x) (i+1) (by simp[adjF,hi]) (by rw[←List.drop_drop,hd];rfl) ?_
  unfold adjF
  rw[e1,e2]
  refine(h.set ?_).set ?_
  ·rw[xr0 hlt (by omega),end1 (by omega),hg];omega
  ·rw[xr1 hlt (by omega),end0 (by omega),hg];omega
theorem adjR_law{es:List EdgT}(hm:es.length≤1000){n:Nat}(hin:∀x∈es,EdgIn n x):AdjL es (adjR n es):=by
 refine adj_law hm n hin es (List.replicate n [],0) 0 rfl rfl ?_
 intro v r hr
 have:(List.replicate n ([]:List Int)).getD v []=[]:=by
  simp only[List.getD,List.getElem?_replicate]
  split<;>rfl
 rw[this] at hr;simp at hr
def muS(s:List Int×QF):Nat:=2*unm s.1+s.2.list.length
theorem usY_mu{n:Nat}{to r u:Int}{s s':List Int×QF}(h:SOk n s)(hr:0≤r)(hu:u.toNat<n)(hy:usY to r u s=.inl s'):muS s'≤muS s:=by
 unfold usY at hy
 split at hy
 ·cases hy;exact Nat.le_refl _
 ·rename_i hg
  split at hy
  ·cases hy
  ·cases hy
   have h1:=unm_set (l:=s.1) (by rw[h.len];exact hu) (by simpa using hg) hr
   simp only[muS,QF.push,QF.list,List.length_append,List.length_singleton]
   have:s.2.list.length=(match s.2.vs with|true=>s.2.l.drop s.2.i|false=>s.2.l).length:=rfl
   omega
theorem forL_mu{es:List EdgT}{fs:List Int}{to:Int}{n:Nat}(hm:es.length≤1000)(hin:∀x∈es,EdgIn n x):∀(B:List Int) (s s':List Int×QF),(∀r∈B,ResOk es.length r)→SOk n s→forL (usG es fs to) B s=.inl s'→muS s'≤muS s
 | [],s,s',_,h,hf=>by cases hf;exact Nat.le_refl _
 | r::B,s,s',hB,h,hf=>by
  simp only[forL] at hf
  have hr:=hB r (by simp)
  have he:=endA_in hr (by omega) hin
  split at hf
  ·rename_i s1 h1
   have h2:SOk n s1∧muS s1≤muS s:=by
    unfold usG at h1
    split at h1
    ·exact⟨h.usY hr.1 he.1 he.2 h1,usY_mu h hr.1 he.2 h1⟩
    ·cases h1;exact⟨h,Nat.le_refl _⟩
   exact Nat.le_trans (forL_mu hm hin B s1 s' (fun x hx=>hB x (by simp[hx])) h2.1 hf) h2.2
  ·cases hf
theorem bfs_ex{es:List EdgT}{fs:List Int}{to:Int}{n:Nat}(hm:es.length≤1000)(hin:∀x∈es,EdgIn n x){adj:List (List Int)}(ha:adj.length=n)(hB:∀B∈adj,∀r∈B,ResOk es.length r):
  ∀(m:Nat) (s:List Int×QF),muS s<m→SOk n s→∃k f,Bfs adj es fs to k s f
 | 0,s,h,_=>absurd h (Nat.not_lt_zero _)
 | m+1,s,h,hs=>by
  cases hl:s.2.list with
  | nil=>exact⟨0,s,.done hl⟩
  | cons v rest =>
   obtain⟨v0,v1⟩:=hs.mem v (by rw[hl];simp)
   have hr:∀r∈adj.getD v.toNat [],ResOk es.length r:=by
    have:adj.getD v.toNat []=adj[v.toNat]'(by omega):=by simp[List.getD,ha,v1]
    rw[this]
    exact hB _ (List.getElem_mem _)
   cases hf:forL (usG es fs to) (adj.getD v.toNat []) (s.1,s.2.pop) with
   | inr f=>exact⟨0,f,.stop hl hf⟩
   | inl s' =>
    have h1:=hs.pop hl
    have h2:=SOk.forL hm hin _ _ _ hr h1 hf
    have h3:=forL_mu hm hin _ _ _ hr h1 hf
    have h4:muS (s.1,s.2.pop)+1=muS s:=by
     simp only[muS,QF.pop_list hl,hl,List.length_cons];omega
    obtain⟨k,f,hb⟩:=bfs_ex hm hin ha hB m s' (by omega) h2
    exact⟨k+1,f,.step hl hf hb⟩
theorem getDI_set{l:List Int}{u w:Nat}{r d:Int}:(l.set u r).getD w d=if u=w∧u<l.length then r else l.getD w d:=by
 simp only[List.getD,List.getElem?_set]
 by_cases h:u=w
 ·subst h
  by_cases h2:u<l.length
  ·simp[h2]
  ·simp[h2]
 ·simp[h]
theorem usY_keep{to r u:Int}{s:List Int×QF}{w:Nat}(h:0≤s.1.getD w 0):(sumV (usY to r u s)).1.getD w 0=s.1.getD w 0:=by
 have key:s.1.getD u.toNat 0<0→(s.1.set u.toNat r).getD w 0=s.1.getD w 0:=by
  intro hx
  rw[getDI_set,if_neg]
  rintro⟨rfl,_⟩
  omega
 unfold usY
 cases hg:Dd (s.1.getD u.toNat 0≥0) with
 | true=>rfl
 | false =>
  have hx:s.1.getD u.toNat 0<0:=by simpa using hg
  cases u==to with
  | true=>exact key hx
  | false=>exact key hx
theorem usG_keep{es:List EdgT}{fs:List Int}{to r:Int}{s:List Int×QF}{w:Nat}(h:0≤s.1.getD w 0):(sumV (usG es fs to r s)).1.getD w 0=s.1.getD w 0:=by
 unfold usG
 cases Dd (capA es fs r>0) with
 | true=>exact usY_keep h
 | false=>rfl
structure TI (es:List EdgT) (fs:List Int) (n:Nat) (frm:Int) (ρ:Nat→Nat) (s:List Int×QF):Prop where
 len:s.1.length=n
 src:0≤s.1.getD frm.toNat 0
 q:∀v∈s.2.list,0≤s.1.getD v.toNat 0
 t:∀v:Nat,v<n→0≤s.1.getD v 0→(v:Int) ≠ frm→ResOk es.length (s.1.getD v 0)∧0<capA es fs (s.1.getD v 0)∧endA es (s.1.getD v 0)=(v:Int)∧0≤s.1.getD (endA es (xr (s.1.getD v 0))).toNat 0∧ρ (endA es (xr (s.1.getD v 0))).toNat<ρ v
section
variable {es:List EdgT} {fs:List Int} {n:Nat} {frm to:Int} {ρ:Nat→Nat} {s:List Int×QF}
theorem TI.set(h:TI es fs n frm ρ s){v:Nat}(hv:v<n)(hm:0≤s.1.getD v 0){r u:Int}(hr:ResOk es.length r)(hc:0<capA es fs r)(ho:endA es (xr r)=(v:Int))(hu:endA es r=u)(h0:0≤u)(hun:u.toNat<n)(hx:s.1.getD u.toNat 0<0){q:QF}
  (hq:∀w∈q.list,w=u∨w∈s.2.list):TI es fs n frm (fun w=>if w=u.toNat then ρ v+1 else ρ w) (s.1.set u.toNat r,q):=by
 have hlt:u.toNat<s.1.length:=by rw[h.len];exact hun
 have hs:(s.1.set u.toNat r).getD u.toNat 0=r:=by rw[getDI_set,if_pos ⟨rfl,hlt⟩]
 have hk:∀w,w ≠ u.toNat→(s.1.set u.toNat r).getD w 0=s.1.getD w 0:=fun w hw=>by rw[getDI_set,if_neg (fun e=>hw e.1.symm)]
 have hmk:∀w,0≤s.1.getD w 0→(s.1.set u.toNat r).getD w 0=s.1.getD w 0:=fun w hw=>hk w (by rintro rfl;omega)
 refine⟨by simpa using h.len,?_,?_,?_⟩
 ·simp only;rw[hmk _ h.src];exact h.src
 ·intro w hw
  simp only
  rcases hq w hw with rfl|hw
  ·rw[hs];exact hr.1
  ·rw[hmk _ (h.q w hw)];exact h.q w hw
 ·intro w hw hwm hwf
  simp only at hwm ⊢
  by_cases he:w=u.toNat
  ·subst he
   rw[hs]
   have hvu:v ≠ u.toNat:=by rintro rfl;omega
   refine⟨hr,hc,by omega,?_,?_⟩
   ·rw[ho,Int.toNat_natCast,hmk _ hm];exact hm
   ·rw[ho,Int.toNat_natCast,if_neg hvu,if_pos rfl];omega
  ·rw[hk w he] at hwm ⊢
   obtain⟨t1,t2,t3,t4,t5⟩:=h.t w hw hwm hwf
   have hne:(endA es (xr (s.1.getD w 0))).toNat ≠ u.toNat:=by
    intro e;rw[e] at t4;omega
   refine⟨t1,t2,t3,?_,?_⟩
   ·rw[hmk _ t4];exact t4
   ·rw[if_neg hne,if_neg he];exact t5
theorem TI.usG(hm:es.length≤1000)(hin:∀x∈es,EdgIn n x)(h:TI es fs n frm ρ s){v:Nat}(hv:v<n)(hmk:0≤s.1.getD v 0){r:Int}(hr:ResOk es.length r)(ho:endA es (xr r)=(v:Int)):∃ρ',TI es fs n frm ρ' (sumV (usG es fs to r s)):=by
 unfold Vi.usG
 cases hc:Dd (capA es fs r>0) with
 | false=>exact⟨ρ,h⟩
 | true =>
  have hc':0<capA es fs r:=by simpa using hc
  obtain⟨e0,e1⟩:=endA_in hr (by omega) hin
  show ∃ρ',TI es fs n frm ρ' (sumV (usY to r (endA es r) s))
  unfold usY
  cases hg:Dd (s.1.getD (endA es r).toNat 0≥0) with
  | true=>exact⟨ρ,h⟩
  | false =>
   have hx:s.1.getD (endA es r).toNat 0<0:=by simpa using hg
   cases endA es r==to with
   | true=>exact⟨_,h.set hv hmk hr hc' ho rfl e0 e1 hx (fun w hw=>.inr hw)⟩
   | false =>
    refine⟨_,h.set hv hmk hr hc' ho rfl e0 e1 hx (fun w hw=>?_)⟩
    simp only[QF.push,QF.list,List.mem_append,List.mem_singleton] at hw
    rcases hw with hw|hw
    ·exact .inr hw
    ·exact .inl hw
theorem TI.forL(hm:es.length≤1000)(hin:∀x∈es,EdgIn n x){v:Nat}(hv:v<n):∀(B:List Int) (ρ:Nat→Nat) (s:List Int×QF),(∀r∈B,ResOk es.length r∧endA es (xr r)=(v:Int))→TI es fs n frm ρ s→0≤s.1.getD v 0→∃ρ',TI es fs n frm ρ' (sumV (forL (Vi.usG es fs to) B s))
 | [],ρ,s,_,h,_=>⟨ρ,h⟩
 | r::B,ρ,s,hB,h,hmk=>by
  obtain⟨hr,ho⟩:=hB r (by simp)
  obtain⟨ρ1,h1⟩:=h.usG (to:=to) hm hin hv hmk hr ho
  have hk:=usG_keep (es:=es) (fs:=fs) (to:=to) (r:=r) hmk
  simp only[Vi.forL]
  cases hg:Vi.usG es fs to r s with
  | inr s1=>rw[hg] at h1;exact⟨ρ1,h1⟩
  | inl s1 =>
   rw[hg] at h1 hk
   exact TI.forL hm hin hv B ρ1 s1 (fun x hx=>hB x (by simp[hx])) h1 (by simp only[sumV] at hk;rw[hk];exact hmk)
theorem TI.bfs(hm:es.length≤1000)(hin:∀x∈es,EdgIn n x){adj:List (List Int)}(ha:adj.length=n)(hB:∀B∈adj,∀r∈B,ResOk es.length r)(hA:AdjL es adj){k:Nat}{s f:List Int×QF}(hb:Bfs adj es fs to k s f):
  ∀{ρ:Nat→Nat},SOk n s→TI es fs n frm ρ s→∃ρ',TI es fs n frm ρ' f:=by
 have key:∀{s:List Int×QF} {v:Int} {rest:List Int},SOk n s→s.2.list=v::rest→v.toNat<n∧(∀r∈adj.getD v.toNat [],ResOk es.length r∧endA es (xr r)=(v.toNat:Int)):=by
  intro s v rest hs hl
  obtain⟨v0,v1⟩:=hs.mem v (by rw[hl];simp)
  refine⟨v1,fun r hr=>⟨?_,hA v.toNat r hr⟩⟩
  have:adj.getD v.toNat []=adj[v.toNat]'(by omega):=by simp[List.getD,ha,v1]
  rw[this] at hr
  exact hB _ (List.getElem_mem _) r hr
 have pop:∀{s:List Int×QF} {v:Int} {rest:List Int} {ρ:Nat→Nat},s.2.list=v::rest→TI es fs n frm ρ s→TI es fs n frm ρ (s.1,s.2.pop):=by
  intro s v rest ρ hl h
  exact⟨h.len,h.src,fun w hw=>h.q w (by rw[QF.pop_list hl] at hw;rw[hl];simp[hw]),h.t⟩
 induction hb with
 | done _=>exact fun _ h=>⟨_,h⟩
 | stop hl hf =>
  intro ρ hs h
  obtain⟨k1,k2⟩:=key hs hl
  have hm0:=h.q _ (by rw[hl];exact List.mem_cons_self)
  obtain⟨ρ',h'⟩:=TI.forL (to:=to) hm hin k1 _ ρ _ k2 (pop hl h) hm0
  rw[hf] at h'
  exact⟨ρ',h'⟩
 | step hl hf _ ih =>
  intro ρ hs h
  obtain⟨k1,k2⟩:=key hs hl
  have hm0:=h.q _ (by rw[hl];exact List.mem_cons_self)
  obtain⟨ρ',h'⟩:=TI.forL (to:=to) hm hin k1 _ ρ _ k2 (pop hl h) hm0
  rw[hf] at h'
  exact ih (SOk.forL hm hin _ _ _ (fun r hr=>(k2 r hr).1) (hs.pop hl) hf) h'
end
inductive PathT (es:List EdgT) (fs by':List Int) (frm:Int) (ρ:Nat→Nat):Int→List Int→Prop
 | nil:PathT es fs by' frm ρ frm []
 | cons {v r rs}:v ≠ frm→0≤v→by'[v.toNat]? = some r→ResOk es.length r→0<capA es fs r→endA es r=v→ρ (endA es (xr r)).toNat<ρ v.toNat→PathT es fs by' frm ρ (endA es (xr r)) rs→PathT es fs by' frm ρ v (r::rs)
theorem PathT.path{es:List EdgT}{fs by':List Int}{frm:Int}{ρ:Nat→Nat}{v:Int}{rs:List Int}(h:PathT es fs by' frm ρ v rs):Path es by' frm v rs:=by
 induction h with
 | nil=>exact .nil
 | cons h1 h2 h3 h4 _ _ _ _ ih=>exact .cons h1 h2 h3 h4 ih
theorem path_ex{es:List EdgT}{fs:List Int}{n:Nat}{frm:Int}{ρ:Nat→Nat}{s:List Int×QF}(hm:es.length≤1000)(hin:∀x∈es,EdgIn n x)(h:TI es fs n frm ρ s):∀(m:Nat) (v:Int),ρ v.toNat<m→0≤v→v.toNat<n→0≤s.1.getD v.toNat 0→∃rs,PathT es fs s.1 frm ρ v rs
 | 0,v,h,_,_,_=>absurd h (Nat.not_lt_zero _)
 | m+1,v,hρ,v0,v1,hmk=>by
  by_cases hv:v=frm
  ·subst hv;exact⟨[],.nil⟩
  ·obtain⟨t1,t2,t3,t4,t5⟩:=h.t v.toNat v1 hmk (by omega)
   have hx:=xr_ok t1 (by omega)
   obtain⟨e0,e1⟩:=endA_in hx (by omega) hin
   obtain⟨rs,hp⟩:=path_ex hm hin h m (endA es (xr (s.1.getD v.toNat 0))) (by omega) e0 e1 t4
   have hg:s.1[v.toNat]? = some (s.1.getD v.toNat 0):=by simp[List.getD,h.len,v1]
   exact⟨_,.cons hv v0 hg t1 t2 (by rw[t3];omega) t5 hp⟩
def outL:List EdgT→List Int→Int→Int
 | x::es,f::fs,w=>(if x.frm=w then f else 0) - (if x.to=w then f else 0)+outL es fs w
 | _,_,_=>0
theorem outL_set:∀(es:List EdgT) (fs:List Int) (i:Nat) (d w:Int),fs.length=es.length→i<es.length →
  outL es (fs.set i (fs.getD i 0+d)) w=outL es fs w+((if (es.getD i ⟨0,0,0⟩).frm=w then d else 0) - (if (es.getD i ⟨0,0,0⟩).to=w then d else 0))
 | [],_,i,_,_,_,hi=>absurd hi (Nat.not_lt_zero _)
 | x::es,[],_,_,_,hl,_=>by simp at hl
 | x::es,f::fs,0,d,w,_,_=>by
  simp only[List.set_cons_zero,List.getD_cons_zero,outL]
  split<;>split<;>omega
 | x::es,f::fs,i+1,d,w,hl,hi=>by
  simp only[List.set_cons_succ,List.getD_cons_succ,outL]
  rw[outL_set es fs i d w (by simpa using hl) (by simpa using hi)]
  omega
theorem ls_fold{es:List EdgT}{fs:List Int}:∀(rs:List Int) (l0:Int),0<l0→(∀r∈rs,0<capA es fs r)→0<rs.foldl (lsF es fs) l0∧rs.foldl (lsF es fs) l0≤l0∧∀r∈rs,rs.foldl (lsF es fs) l0≤capA es fs r
 | [],l0,h,_=>⟨h,Int.le_refl _,by simp⟩
 | r::rs,l0,h,hc=>by
  have hr:=hc r (by simp)
  have h1:0<lsF es fs l0 r∧lsF es fs l0 r≤l0∧lsF es fs l0 r≤capA es fs r:=by
   unfold lsF mnI
   split<;>omega
  obtain⟨a,b,c⟩:=ls_fold rs (lsF es fs l0 r) h1.1 (fun x hx=>hc x (by simp[hx]))
  rw[List.foldl_cons]
  refine⟨a,by omega,fun x hx=>?_⟩
  rcases List.mem_cons.1 hx with rfl|hx
  ·omega
  ·exact c x hx
section
variable {es:List EdgT} {fs by':List Int} {frm:Int} {ρ:Nat→Nat}
theorem PathT.rank{v:Int}{rs:List Int}(h:PathT es fs by' frm ρ v rs):∀r∈rs,ResOk es.length r∧0<capA es fs r∧ρ (endA es r).toNat≤ρ v.toNat∧ρ (endA es (xr r)).toNat<ρ (endA es r).toNat:=by
 induction h with
 | nil=>simp
 | cons h1 h2 h3 h4 h5 h6 h7 _ ih =>
  intro r hr
  rcases List.mem_cons.1 hr with rfl|hr
  ·exact⟨h4,h5,by rw[h6];exact Nat.le_refl _,by rw[h6];exact h7⟩
  ·obtain⟨a,b,c,d⟩:=ih r hr
   exact⟨a,b,by omega,d⟩
theorem PathT.dist(hm:es.length≤1000){v r:Int}{rs:List Int}(h:PathT es fs by' frm ρ v (r::rs)):∀x∈rs,ixR x ≠ ixR r:=by
 cases h with
 | cons h1 h2 h3 h4 h5 h6 h7 h8 =>
  intro x hx e
  obtain⟨a,_,c,d⟩:=h8.rank x hx
  obtain⟨i,hi,ri⟩:=res_cases h4
  obtain⟨j,hj,rj⟩:=res_cases a
  have hij:i=j:=by
   rcases ri with rfl|rfl<;>rcases rj with rfl|rfl
   ·rw[ix0 (by omega),ix0 (by omega)] at e;omega
   ·rw[ix0 (by omega),ix1 (by omega)] at e;omega
   ·rw[ix1 (by omega),ix0 (by omega)] at e;omega
   ·rw[ix1 (by omega),ix1 (by omega)] at e;omega
  subst hij
  rcases ri with rfl|rfl<;>rcases rj with rfl|rfl
  ·rw[h6] at c;omega
  ·rw[xr0 hi (by omega)] at h7 c
   rw[xr1 hi (by omega),h6] at d
   omega
  ·rw[xr1 hi (by omega)] at h7 c
   rw[xr0 hi (by omega),h6] at d
   omega
  ·rw[h6] at c;omega
theorem push_one{gs:List Int}(h:FlOk es gs){r least:Int}(hr:ResOk es.length r)(hl:0<least)(hc:least≤capA es gs r):
  FlOk es (puF least gs r)∧∀w,outL es (puF least gs r) w=outL es gs w+((if endA es (xr r)=w then least else 0) - (if endA es r=w then least else 0)):=by
 have hs:=h.sz
 obtain⟨i,hi,hri⟩:=res_cases hr
 have h1:=h.lo i hi
 have h2:=h.hi i hi
 have h3:=h.most i hi
 have hlen:=h.len
 have key:∀d:Int,0≤gs.getD i 0+d→gs.getD i 0+d≤(es.getD i ⟨0,0,0⟩).most→FlOk es (gs.set i (gs.getD i 0+d)):=by
  intro d d0 d1
  refine⟨by simpa using hlen,hs,?_,?_,h.most⟩
  ·intro j hj
   rw[getDI_set]
   split
   ·exact d0
   ·exact h.lo j hj
  ·intro j hj
   rw[getDI_set]
   split
   ·rename_i hc;rw[←hc.1];exact d1
   ·exact h.hi j hj
 rcases hri with rfl|rfl
 ·rw[cap0 h hi] at hc
  have e:puF least gs (2*(i:Int))=gs.set i (gs.getD i 0+least):=by
   unfold puF fA pushE
   rw[ix0 (by omega),Int.toNat_natCast,tn0]
   simp only
   rw[wrap_i64 (by omega) (by omega)]
  rw[e]
  refine⟨key least (by omega) (by omega),fun w=>?_⟩
  rw[outL_set es gs i least w hlen hi,xr0 hi (by omega),end0 (by omega),end1 (by omega)]
 ·rw[cap1 (by omega)] at hc
  have e:puF least gs (2*(i:Int)+1)=gs.set i (gs.getD i 0+(-least)):=by
   unfold puF fA pushE
   rw[ix1 (by omega),Int.toNat_natCast,tn1]
   simp only
   rw[wrap_i64 (n:=0 - least) (by omega) (by omega),wrap_i64 (by omega) (by omega)]
   congr 1;omega
  rw[e]
  refine⟨key (-least) (by omega) (by omega),fun w=>?_⟩
  rw[outL_set es gs i (-least) w hlen hi,xr1 hi (by omega),end0 (by omega),end1 (by omega)]
  split<;>split<;>omega
theorem fA_pu{gs:List Int}{least r x:Int}(hr:ResOk es.length r)(hx:ResOk es.length x)(hm:es.length≤1000)(hne:ixR x ≠ ixR r):fA (puF least gs r) x=fA gs x:=by
 unfold fA puF
 rw[getDI_set,if_neg]
 rintro⟨e,_⟩
 have h1:=(ixR_eq hr (by omega)).1
 have h2:=(ixR_eq hx (by omega)).1
 rw[h1,h2] at e
 rw[h1,h2] at hne
 simp only[Int.toNat_natCast] at e
 exact hne (by rw[e])
theorem capA_fA{gs:List Int}{x:Int}(h:fA gs x=fA fs x):capA es gs x=capA es fs x:=by unfold capA;rw[h]
theorem push_path(least:Int)(hl:0<least):∀(rs:List Int) (v:Int) (gs:List Int),PathT es fs by' frm ρ v rs→FlOk es gs→(∀r∈rs,fA gs r=fA fs r)→(∀r∈rs,least≤capA es fs r) →
  FlOk es (rs.foldl (puF least) gs)∧∀w,outL es (rs.foldl (puF least) gs) w=outL es gs w+((if frm=w then least else 0) - (if v=w then least else 0))
 | [],v,gs,hp,h,_,_=>by
  cases hp
  exact⟨h,fun w=>by simp only[List.foldl_nil];omega⟩
 | r::rs,v,gs,hp,h,hf,hc=>by
  have hd:=hp.dist h.sz
  have hk:=hp.rank
  cases hp with
  | cons h1 h2 h3 h4 h5 h6 h7 h8 =>
   obtain⟨a,b⟩:=push_one h h4 hl (by rw[capA_fA (hf r (by simp))];exact hc r (by simp))
   obtain⟨c,d⟩:=push_path least hl rs _ (puF least gs r) h8 a (fun x hx=>by
    rw[fA_pu h4 (hk x (by simp[hx])).1 h.sz (hd x hx)];exact hf x (by simp[hx])) (fun x hx=>hc x (by simp[hx]))
   rw[List.foldl_cons]
   refine⟨c,fun w=>?_⟩
   rw[d w,b w,h6]
   omega
theorem aug_ok(h:FlOk es fs){v:Int}{rs:List Int}(hp:PathT es fs by' frm ρ v rs):0<lsR es fs rs∧FlOk es (puR es fs rs)∧∀w,outL es (puR es fs rs) w=outL es fs w+((if frm=w then lsR es fs rs else 0) - (if v=w then lsR es fs rs else 0)):=by
 obtain⟨a,_,c⟩:=ls_fold (es:=es) (fs:=fs) rs 1073741824 (by omega) (fun r hr=>(hp.rank r hr).2.1)
 exact⟨a,push_path _ a rs v fs hp h (fun _ _=>rfl) c⟩
end
def sumM:List EdgT→Int
 | []=>0
 | x::es=>x.most+sumM es
theorem outL_le:∀(es:List EdgT) (fs:List Int) (w:Int),(∀i,i<es.length→0≤fs.getD i 0∧fs.getD i 0≤(es.getD i ⟨0,0,0⟩).most)→outL es fs w≤sumM es
 | [],fs,w,_=>by cases fs<;>simp[outL,sumM]
 | x::es,[],w,h=>by
  have h0:=h 0 (by simp)
  have h1:=outL_le es [] w (fun i hi=>by have:=h (i+1) (by simpa using hi);simpa using this)
  simp only[List.getD_cons_zero,List.getD_nil] at h0
  have e:outL es [] w=0:=by cases es<;>rfl
  simp only[outL,sumM]
  omega
 | x::es,f::fs,w,h=>by
  have h0:=h 0 (by simp)
  have h1:=outL_le es fs w (fun i hi=>by have:=h (i+1) (by simpa using hi);simpa using this)
  simp only[List.getD_cons_zero] at h0
  simp only[outL,sumM]
  split<;>split<;>omega
section
variable {es:List EdgT} {n:Nat} {frm to:Int}
theorem bs0_ok(hfr:0≤frm∧frm.toNat<n):SOk n (bs0 n es.length frm):=by
 refine⟨by simp[by0],by simp,by simp,?_,?_⟩
 ·intro v hv
  simp only[QF.list,List.mem_singleton] at hv
  subst hv;exact hfr
 ·have h1:unm (by0 n es.length frm)≤n:=by
   have:=List.countP_le_length (p:=fun x:Int=>Dd (x<0)) (l:=by0 n es.length frm)
   unfold unm
   simpa[by0] using this
  simp only[List.length_singleton];omega
theorem bs0_ti{fs:List Int}(hm:es.length≤1000)(hfr:0≤frm∧frm.toNat<n):TI es fs n frm (fun _=>0) (bs0 n es.length frm):=by
 have h0:(by0 n es.length frm).getD frm.toNat 0=2*(es.length:Int):=by
  unfold by0
  rw[getDI_set,if_pos ⟨rfl,by simpa using hfr.2⟩,wrap_i64 (by omega) (by omega)];omega
 refine⟨by simp[by0],?_,?_,?_⟩
 ·simp only;rw[h0];omega
 ·intro v hv
  simp only[QF.list,List.mem_singleton] at hv
  subst hv
  simp only;rw[h0];omega
 ·intro v hv hmk hne
  simp only at hmk
  unfold by0 at hmk
  rw[getDI_set,if_neg (by rintro⟨e,_⟩;omega)] at hmk
  have:(List.replicate n (-1:Int)).getD v 0 = -1:=by simp[List.getD,hv]
  rw[this] at hmk
  omega
theorem srch_ex(hm:es.length≤1000)(hin:∀x∈es,EdgIn n x)(hfr:0≤frm∧frm.toNat<n)(fs:List Int):∃k f ρ,Bfs (adjR n es) es fs to k (bs0 n es.length frm) f∧TI es fs n frm ρ f:=by
 have hB:∀B∈adjR n es,∀r∈B,ResOk es.length r:=fun B hb=>(adjR_ok n hm B hb).1
 obtain⟨k,f,hb⟩:=bfs_ex (fs:=fs) (to:=to) hm hin (adjR_len n es) hB _ (bs0 n es.length frm) (Nat.lt_succ_self _) (bs0_ok hfr)
 obtain⟨ρ,hT⟩:=TI.bfs (frm:=frm) hm hin (adjR_len n es) hB (adjR_law hm hin) hb (bs0_ok hfr) (bs0_ti hm hfr)
 exact⟨k,f,ρ,hb,hT⟩
structure Flow (es:List EdgT) (frm to:Int) (fs:List Int):Prop where
 ok:FlOk es fs
 cons:∀w,w ≠ frm→w ≠ to→outL es fs w=0
theorem Flow.aug{fs by':List Int}{ρ:Nat→Nat}{rs:List Int}(h:Flow es frm to fs)(hp:PathT es fs by' frm ρ to rs):Flow es frm to (puR es fs rs):=by
 obtain⟨_,b,c⟩:=aug_ok h.ok hp
 refine⟨b,fun w h1 h2=>?_⟩
 rw[c w,if_neg (fun e=>h1 e.symm),if_neg (fun e=>h2 e.symm),h.cons w h1 h2]
 rfl
theorem max_ex(hm:es.length≤1000)(hin:∀x∈es,EdgIn n x)(hfr:0≤frm∧frm.toNat<n)(hto:0≤to∧to.toNat<n)(hne:frm ≠ to):∀(m:Nat) (fs:List Int),(sumM es - outL es fs frm).toNat<m→Flow es frm to fs →
  ∃j g,MaxR (adjR n es) es n frm to j fs g∧Flow es frm to g.1∧∃k f ρ,Bfs (adjR n es) es g.1 to k (bs0 n es.length frm) f∧TI es g.1 n frm ρ f∧f.1=g.2∧g.2.getD to.toNat 0<0
 | 0,fs,h,_=>absurd h (Nat.not_lt_zero _)
 | m+1,fs,h,hF=>by
  obtain⟨k,f,ρ,hb,hT⟩:=srch_ex (to:=to) hm hin hfr fs
  by_cases hx:f.1.getD to.toNat 0<0
  ·exact⟨0,(fs,f.1),.done hb hx,hF,k,f,ρ,hb,hT,rfl,hx⟩
  ·obtain⟨rs,hp⟩:=path_ex hm hin hT _ to (Nat.lt_succ_self _) hto.1 hto.2 (by omega)
   obtain⟨a,b,c⟩:=aug_ok hF.ok hp
   have hle:=outL_le es (puR es fs rs) frm (fun i hi=>⟨b.lo i hi,b.hi i hi⟩)
   have hc:=c frm
   rw[if_pos rfl,if_neg (fun e=>hne e.symm)] at hc
   obtain⟨j,g,h1,h2⟩:=max_ex hm hin hfr hto hne m (puR es fs rs) (by omega) (hF.aug hp)
   exact⟨j+1,g,.step hb hx hp.path h1,h2⟩
theorem flow0(hm:es.length≤1000)(h0:∀x∈es,0≤x.most∧x.most≤1073741824):Flow es frm to (List.replicate es.length 0):=by
 have hg:∀i,(List.replicate es.length (0:Int)).getD i 0=0:=by
  intro i
  simp only[List.getD,List.getElem?_replicate]
  split<;>rfl
 have hx:∀i,i<es.length→es.getD i ⟨0,0,0⟩∈es:=by
  intro i hi
  have:es.getD i ⟨0,0,0⟩=es[i]:=by simp[List.getD,hi]
  rw[this];exact List.getElem_mem hi
 refine⟨⟨by simp,hm,fun i _=>by rw[hg];exact Int.le_refl _,fun i hi=>by rw[hg];exact(h0 _ (hx i hi)).1,fun i hi=>(h0 _ (hx i hi)).2⟩,fun w _ _=>?_⟩
 have:∀(l:List EdgT),outL l (List.replicate l.length 0) w=0:=by
  intro l
  induction l with
  | nil=>rfl
  | cons x l ih=>simp only[List.length_cons,List.replicate_succ,outL,ih];split<;>split<;>rfl
 exact this es
theorem max_all(hm:es.length≤1000)(hin:∀x∈es,EdgIn n x)(h0:∀x∈es,0≤x.most∧x.most≤1073741824)(hfr:0≤frm∧frm.toNat<n)(hto:0≤to∧to.toNat<n)(hne:frm ≠ to):
  ∃j g,MaxR (adjR n es) es n frm to j (List.replicate es.length 0) g∧Flow es frm to g.1∧∃k f ρ,Bfs (adjR n es) es g.1 to k (bs0 n es.length frm) f∧TI es g.1 n frm ρ f∧f.1=g.2∧g.2.getD to.toNat 0<0 :=
 max_ex hm hin hfr hto hne _ _ (Nat.lt_succ_self _) (flow0 hm h0)
end
section
variable {es:List EdgT} {fs by1 by':List Int} {frm to:Int} {i:Nat}
theorem edE{es:List EdgT}(hi:i<es.length):es[i]? = some (es.getD i ⟨0,0,0⟩):=by simp[List.getD,hi]
end
def adjP(v:Int):List EdgT→Nat→List Int
 | [],_=>[]
 | x::l,i=>(bif x.frm==v then [2*(i:Int)] else [])++((bif x.to==v then [2*(i:Int)+1] else [])++adjP v l (i+1))
theorem adj_p{n:Nat}:∀(l:List EdgT) (s:List (List Int)×Int) (i:Nat),s.2=i→i+l.length≤1000→s.1.length=n→(∀x∈l,EdgIn n x)→∀v:Nat,v<n→(l.foldl adjF s).1.getD v []=s.1.getD v []++adjP v l i
 | [],s,i,_,_,_,_,v,_=>by simp[adjP]
 | x::l,s,i,hi,hm,hA,hin,v,hv=>by
  rw[List.foldl_cons]
  simp only[List.length_cons] at hm
  obtain⟨x1,x2,x3,x4⟩:=hin x (by simp)
  have e1:IntKind.i64.wrap (2*s.2)=2*(i:Int):=by rw[hi];exact wrap_i64 (by omega) (by omega)
  have e2:IntKind.i64.wrap (2*(i:Int)+1)=2*(i:Int)+1:=wrap_i64 (by omega) (by omega)
  rw[adj_p l (adjF s x) (i+1) (by simp[adjF,hi]) (by omega) (by rw[adjF_len];exact hA) (fun y hy=>hin y (by simp[hy])) v hv]
  have key:(adjF s x).1.getD v []=s.1.getD v []++((bif x.frm==(v:Int) then [2*(i:Int)] else [])++(bif x.to==(v:Int) then [2*(i:Int)+1] else [])):=by
   unfold adjF
   rw[e1,e2]
   simp only[getD_set,List.length_set]
   by_cases h1:x.frm=(v:Int)
   ·by_cases h2:x.to=(v:Int)
    ·simp[h1,h2,hA,hv]
    ·have h3:¬x.to.toNat=v:=by omega
     have b2:(x.to==(v:Int))=false:=by simpa using h2
     simp[h1,b2,h3,hA,hv]
   ·have h4:¬x.frm.toNat=v:=by omega
    have b1:(x.frm==(v:Int))=false:=by simpa using h1
    by_cases h2:x.to=(v:Int)
    ·simp[b1,h2,h4,hA,hv]
    ·have h3:¬x.to.toNat=v:=by omega
     have b2:(x.to==(v:Int))=false:=by simpa using h2
     simp[b1,b2,h3,h4]
  rw[key]
  simp only[adjP,List.append_assoc]
theorem adjR_p{n:Nat}{es:List EdgT}(hm:es.length≤1000)(hin:∀x∈es,EdgIn n x){v:Nat}(hv:v<n):(adjR n es).getD v []=adjP v es 0:=by
 have h:=adj_p es (List.replicate n [],0) 0 rfl (by omega) (by simp) hin v hv
 have h0:(List.replicate n ([]:List Int)).getD v []=[]:=by simp[List.getD,hv]
 rw[h0,List.nil_append] at h
 exact h
section
variable {es:List EdgT} {fs:List Int} {to:Int} {n:Nat}
theorem usY_inl1{r u:Int}{s:List Int×QF}(h0:0≤u):usY (-1) r u s=.inl (sumV (usY (-1) r u s)):=by
 have:(u == -1)=false:=by simp only[beq_eq_false_iff_ne];omega
 unfold usY
 rw[this]
 cases Dd (s.1.getD u.toNat 0≥0)<;>rfl
def usV(es:List EdgT)(fs:List Int)(s:List Int×QF)(r:Int):List Int×QF:=sumV (usG es fs (-1) r s)
theorem usG_inl1{r:Int}{s:List Int×QF}(h0:0≤endA es r):usG es fs (-1) r s=.inl (usV es fs s r):=by
 unfold usV usG
 cases Dd (capA es fs r>0) with
 | true=>exact usY_inl1 h0
 | false=>rfl
theorem forL_inl1:∀(B:List Int) (s:List Int×QF),(∀r∈B,0≤endA es r)→forL (usG es fs (-1)) B s=.inl (B.foldl (usV es fs) s)
 | [],s,_=>rfl
 | r::B,s,h=>by
  simp only[forL,usG_inl1 (h r (by simp)),List.foldl_cons]
  exact forL_inl1 B _ (fun x hx=>h x (by simp[hx]))
theorem usY_full{r u:Int}{s s':List Int×QF}(h0:0≤u)(h:usY to r u s=.inl s'):usY (-1) r u s=.inl s':=by
 have e:(u == -1)=false:=by simp only[beq_eq_false_iff_ne];omega
 unfold usY at h ⊢
 rw[e]
 cases hd:Dd (s.1.getD u.toNat 0≥0) with
 | true=>rw[hd] at h;exact h
 | false =>
  rw[hd] at h
  cases ht:u==to with
  | true=>rw[ht] at h;cases h
  | false=>rw[ht] at h;exact h
theorem usY_stop{r u:Int}{s f:List Int×QF}(h0:0≤u)(h:usY to r u s=.inr f):∃s2,usY (-1) r u s=.inl s2∧s2.1=f.1∧f.1=s.1.set u.toNat r∧u=to:=by
 have e:(u == -1)=false:=by simp only[beq_eq_false_iff_ne];omega
 unfold usY at h ⊢
 rw[e]
 cases hd:Dd (s.1.getD u.toNat 0≥0) with
 | true=>rw[hd] at h;cases h
 | false =>
  rw[hd] at h
  cases ht:u==to with
  | true =>
   rw[ht] at h
   cases h
   exact⟨_,rfl,rfl,rfl,by simpa using ht⟩
  | false=>rw[ht] at h;cases h
theorem usG_full{r:Int}{s s':List Int×QF}(h0:0≤endA es r)(h:usG es fs to r s=.inl s'):usG es fs (-1) r s=.inl s':=by
 unfold usG at h ⊢
 cases hd:Dd (capA es fs r>0) with
 | true=>rw[hd] at h;exact usY_full h0 h
 | false=>rw[hd] at h;exact h
theorem usG_stop{r:Int}{s f:List Int×QF}(h0:0≤endA es r)(h:usG es fs to r s=.inr f):∃s2,usG es fs (-1) r s=.inl s2∧s2.1=f.1∧f.1=s.1.set to.toNat r:=by
 unfold usG at h ⊢
 cases hd:Dd (capA es fs r>0) with
 | true =>
  rw[hd] at h
  obtain⟨s2,a,b,c,d⟩:=usY_stop h0 h
  exact⟨s2,a,b,by rw[c,d]⟩
 | false=>rw[hd] at h;cases h
theorem forG_keep{to:Int}{w:Nat}:∀(B:List Int) (s:List Int×QF),0≤s.1.getD w 0→(sumV (forL (usG es fs to) B s)).1.getD w 0=s.1.getD w 0
 | [],s,_=>rfl
 | r::B,s,h=>by
  have h1:=usG_keep (es:=es) (fs:=fs) (to:=to) (r:=r) h
  simp only[forL]
  cases hg:usG es fs to r s with
  | inl s1 =>
   rw[hg] at h1
   simp only[sumV] at h1
   exact(forG_keep B s1 (by rw[h1];exact h)).trans h1
  | inr s1=>rw[hg] at h1;exact h1
theorem Bfs.keep{adj:List (List Int)}{to:Int}{k:Nat}{s f:List Int×QF}(h:Bfs adj es fs to k s f){w:Nat}:0≤s.1.getD w 0→f.1.getD w 0=s.1.getD w 0:=by
 induction h with
 | done _=>exact fun _=>rfl
 | stop hl hg =>
  rename_i s v rest f
  intro h0
  have h1:=forG_keep (es:=es) (fs:=fs) (to:=to) (w:=w) (adj.getD v.toNat []) (s.1,s.2.pop) h0
  rw[hg] at h1
  exact h1
 | step hl hg hk ih =>
  rename_i s v rest s' f k
  intro h0
  have h1:=forG_keep (es:=es) (fs:=fs) (to:=to) (w:=w) (adj.getD v.toNat []) (s.1,s.2.pop) h0
  rw[hg] at h1
  simp only[sumV] at h1
  rw[ih (by rw[h1];exact h0)]
  exact h1
theorem forL_full:∀(B:List Int) (s s':List Int×QF),(∀r∈B,0≤endA es r)→forL (usG es fs to) B s=.inl s'→forL (usG es fs (-1)) B s=.inl s'
 | [],s,s',_,h=>h
 | r::B,s,s',hB,h=>by
  simp only[forL] at h ⊢
  cases hg:usG es fs to r s with
  | inl s1 =>
   rw[hg] at h
   rw[usG_full (hB r (by simp)) hg]
   exact forL_full B s1 s' (fun x hx=>hB x (by simp[hx])) h
  | inr s1=>rw[hg] at h;cases h
theorem forL_stop:∀(B:List Int) (s f:List Int×QF),(∀r∈B,0≤r∧0≤endA es r)→forL (usG es fs to) B s=.inr f→to.toNat<s.1.length→0≤f.1.getD to.toNat 0∧∃s2,forL (usG es fs (-1)) B s=.inl s2∧∀w:Nat,0≤f.1.getD w 0→s2.1.getD w 0=f.1.getD w 0
 | [],s,f,_,h,_=>by cases h
 | r::B,s,f,hB,h,hn=>by
  simp only[forL] at h ⊢
  obtain⟨hr,he⟩:=hB r (by simp)
  cases hg:usG es fs to r s with
  | inl s1 =>
   rw[hg] at h
   rw[usG_full he hg]
   have hl:=usG_len es fs to r s
   rw[hg] at hl
   exact forL_stop B s1 f (fun x hx=>hB x (by simp[hx])) h (by simp only[sumV] at hl;omega)
  | inr s1 =>
   rw[hg] at h
   cases h
   obtain⟨s2,a,b,c⟩:=usG_stop he hg
   rw[a]
   refine⟨by rw[c,getDI_set,if_pos ⟨rfl,hn⟩];exact hr,_,forL_inl1 B s2 (fun x hx=>(hB x (by simp[hx])).2),fun w hw=>?_⟩
   have h3:=forG_keep (es:=es) (fs:=fs) (to := -1) (w:=w) B s2 (by rw[b];exact hw)
   rw[forL_inl1 B s2 (fun x hx=>(hB x (by simp[hx])).2)] at h3
   simp only[sumV] at h3
   rw[h3,b]
theorem bfs_full(hm:es.length≤1000)(hin:∀x∈es,EdgIn n x)(hto:to.toNat<n){adj:List (List Int)}(ha:adj.length=n)(hB:∀B∈adj,∀r∈B,ResOk es.length r){k:Nat}{s f:List Int×QF}(hb:Bfs adj es fs to k s f):
  SOk n s→∃k' f',Bfs adj es fs (-1) k' s f'∧(∀w:Nat,0≤f.1.getD w 0→f'.1.getD w 0=f.1.getD w 0)∧(f.1.getD to.toNat 0<0→f'=f):=by
 have key:∀{s:List Int×QF} {v:Int} {rest:List Int},SOk n s→s.2.list=v::rest→∀r∈adj.getD v.toNat [],ResOk es.length r∧0≤r∧0≤endA es r:=by
  intro s v rest hs hl r hr
  obtain⟨v0,v1⟩:=hs.mem v (by rw[hl];simp)
  have:adj.getD v.toNat []=adj[v.toNat]'(by omega):=by simp[List.getD,ha,v1]
  rw[this] at hr
  have h:=hB _ (List.getElem_mem _) r hr
  exact⟨h,h.1,(endA_in h (by omega) hin).1⟩
 induction hb with
 | done he=>exact fun _=>⟨0,_,.done he,fun _ _=>rfl,fun _=>rfl⟩
 | stop hl hf =>
  intro hs
  have hk:=key hs hl
  obtain⟨a,s2,b,c⟩:=forL_stop _ _ _ (fun r hr=>(hk r hr).2) hf (by simp only;rw[hs.len];exact hto)
  have hs2:=SOk.forL hm hin _ _ _ (fun r hr=>(hk r hr).1) (hs.pop hl) b
  obtain⟨k',f',hb'⟩:=bfs_ex (fs:=fs) (to := -1) hm hin ha hB _ s2 (Nat.lt_succ_self _) hs2
  refine⟨k'+1,f',.step hl b hb',fun w hw=>?_,fun h=>by omega⟩
  have:=hb'.keep (w:=w) (by rw[c w hw];exact hw)
  rw[this,c w hw]
 | step hl hf _ ih =>
  intro hs
  have hk:=key hs hl
  obtain⟨k',f',a,b,c⟩:=ih (SOk.forL hm hin _ _ _ (fun r hr=>(hk r hr).1) (hs.pop hl) hf)
  exact⟨k'+1,f',.step hl (forL_full _ _ _ (fun r hr=>(hk r hr).2.2) hf) a,b,c⟩
end
theorem getDG_set{α:Type}{l:List α}{u w:Nat}{r d:α}:(l.set u r).getD w d=if u=w∧u<l.length then r else l.getD w d:=by
 simp only[List.getD,List.getElem?_set]
 by_cases h:u=w
 ·subst h
  by_cases h2:u<l.length
  ·simp[h2]
  ·simp[h2]
 ·simp[h]
section
variable {es:List EdgT} {fs:List Int} {n:Nat} {frm:Int} {pos:Nat}
theorem SOk.usV(hm:es.length≤1000)(hin:∀x∈es,EdgIn n x){s:List Int×QF}{r:Int}(hr:ResOk es.length r)(h:SOk n s):SOk n (Vi.usV es fs s r):=by
 obtain⟨e0,e1⟩:=endA_in hr (by omega) hin
 have hg:=usG_inl1 (es:=es) (fs:=fs) (s:=s) e0
 unfold usG at hg
 cases hd:Dd (capA es fs r>0) with
 | true=>rw[hd] at hg;exact h.usY hr.1 e0 e1 hg
 | false =>
  rw[hd] at hg
  cases hg':Vi.usV es fs s r
  simp only[hg'] at hg
  cases hg
  exact h
end
structure UseT where
 att:Int
 req:Int
 cr:Int
def UseT.row(e:UseT):List Dp:=[vi e.att,vi e.req,vi e.cr]
def vecU(l:List UseT):List (List D):=l.map fun e=>[int e.att,int e.req,int e.cr]
theorem vecU_app(l:List UseT)(a b c:Int):vecU l++[[int a,int b,int c]]=vecU (l++[⟨a,b,c⟩]):=by simp[vecU]
theorem vecU_len(l:List UseT):(vecU l).length=l.length:=by simp[vecU]
theorem vecU_map(f:Ref→D)(l:List UseT):(vecU l).map (D.mapRL f)=vecU l:=by simp[vecU,D.mapRL,D.mapR]
theorem vecU_inn(n:Nat)(l:List UseT):(vecU l).all (D.innL n)=true:=by simp[vecU,D.innL,D.inn]
theorem vecU_frz(l:List UseT):vecU l=(l.map UseT.row).map (·.map .p):=by simp[vecU,UseT.row]
abbrev auH(p:ProgT)(fl:List Int)(ms:Int)(cut:List Bool):List Blk:=[.var p.l,.var [nq,int 0,nq],.var [int 0],.var [rowsD' (inR1 fl)],.var [nq,int ms,rowsD' (rowsB cut)]]
abbrev auS(p:ProgT)(l:List AttT)(fl:List Int)(ms:Int)(cut:List Bool)(i:Int):AS:={t:=mkT 84 0 [(1,rowsD' (l.map AttT.row)),(2,.ref (.ptr 0 0)),(4,.ref (.ptr 1 0)),(5,.ref (.ptr 2 0)),(8,.ref (.ptr 3 0)),(10,.ref (.ptr 4 0)),(41,rowsD' (p.reqs.map ReqT.row)),(42,int ((p.reqs.map ReqT.row).length:Int)),(43,int i)],h:=auH p fl ms cut,m:=[]}
abbrev auE(p:ProgT)(l:List AttT)(fl:List Int)(ms:Int)(cut:List Bool):AS:={t:=mkT 84 0 [(1,rowsD' (l.map AttT.row)),(2,.ref (.ptr 0 0)),(4,.ref (.ptr 1 0)),(5,.ref (.ptr 2 0)),(8,.ref (.ptr 3 0)),(10,.ref (.ptr 4 0))],h:=auH p fl ms cut,m:=[]}
def auF(ms:Int)(q:ReqT):Int:=IntKind.i64.wrap (ms+q.credits)
theorem au_body{p:ProgT}{l:List AttT}{fl:List Int}{cut:List Bool}{ms:Int}{q:ReqT}{i:Nat}{h0:List Blk}(hh:h0.length≤5)(hr:RowAt (i:Int) (p.reqs.map ReqT.row) q.row 6)(hlt:Dd ((i:Int)<((p.reqs.map ReqT.row).length:Int))=true)(hw:IntKind.i64.wrap ((i:Int)+1)=((i+1:Nat):Int)):(CW Tryz.prog Γ0 [.var p.l,.var [nq,int 0,nq],.var [int 0]] false (sub Tryz.f19 0) (auS p l fl ms cut i) .normal (auS p l fl (auF ms q) cut ((i+1:Nat):Int))):=by
 refine CW.cast (CW.symX (s':={t:=mkT 84 0 [(1,rowsD' (List.map AttT.row l)),(2,.ref (.ptr 0 0)),(4,.ref (.ptr 1 0)),(5,.ref (.ptr 2 0)),(8,.ref (.ptr 3 0)),(10,.ref (.ptr 4 0)),(41,rowsD' (List.map ReqT.row p.reqs)),(42,int (↑(List.length (List.map ReqT.row p.reqs)):Int)),(43,int (IntKind.wrap IntKind.i64 ((↑i:Int)+1)))],h:=[.var [strD p.nm,int p.number,int p.uses,int p.earn,int p.num,int p.den,rowsD' (List.map ReqT.row p.reqs)],.var [nq,int 0,nq],.var [int 0],.var [rowsD' (inR1 fl)],.var [nq,int (IntKind.wrap IntKind.i64 (ms+q.credits)),rowsD' (rowsB cut)]],m:=[]}) (e:=Exit.normal) pok [.st (.mask [1,2,4,5,8,10,41,42,43]),.st (.trim 5)] [.b true,.row [vs q.nm,vi q.credits,vi q.grade,Dp.v (Value.bool q.home),Dp.sl q.names,Dp.sl (inR1 q.frm)]] (by kernel_rfl) (.c hlt (.c hr .n))) ?_ ?_<;>(first|rfl|(rw[hw]<;>rfl))
theorem au_last{p:ProgT}{l:List AttT}{fl:List Int}{cut:List Bool}{ms:Int}{i:Nat}(hlt:Dd ((i:Int)<((p.reqs.map ReqT.row).length:Int))=false):(CW Tryz.prog Γ0 [.var p.l,.var [nq,int 0,nq],.var [int 0]] false (sub Tryz.f19 0) (auS p l fl ms cut i) (.exit 0) (auE p l fl ms cut)):=by
 exact CW.cast (CW.symX (s':={t:=mkT 84 0 [(1,rowsD' (List.map AttT.row l)),(2,.ref (.ptr 0 0)),(4,.ref (.ptr 1 0)),(5,.ref (.ptr 2 0)),(8,.ref (.ptr 3 0)),(10,.ref (.ptr 4 0))],h:=[.var [strD p.nm,int p.number,int p.uses,int p.earn,int p.num,int p.den,rowsD' (List.map ReqT.row p.reqs)],.var [nq,int 0,nq],.var [int 0],.var [rowsD' (inR1 fl)],.var [nq,int ms,rowsD' (rowsB cut)]],m:=[]}) (e:=Exit.exit 0) pok [.st (.mask [1,2,4,5,8,10])] [.b false] (by kernel_rfl) (.c hlt .n)) (by rfl) (by rfl)
theorem au_cw{p:ProgT}{l:List AttT}{fl:List Int}{cut:List Bool}(hn:p.reqs.length≤100):CW Tryz.prog Γ0 [.var p.l,.var [nq,int 0,nq],.var [int 0]] false (.loop (sub Tryz.f19 0)) (auS p l fl 0 cut 0) (.exit 0) (auE p l fl (p.reqs.foldl auF 0) cut):=by
 have:=CW.each (P:=Tryz.prog) (Γ:=Γ0) (h0:=[.var p.l,.var [nq,int 0,nq],.var [int 0]]) (rd:=false) (c:=sub Tryz.f19 0) (σ:=Int) (ρ:=Empty) p.reqs (fun q s=>.inl (auF s q))
  (fun i s=>auS p l fl s cut (i:Int)) (.exit 0) (fun s=>auE p l fl s cut) (fun r=>r.elim) (fun _ _=>True) (by simp) (fun r=>r.elim) ?_ ?_ 0 trivial
 ·rw[forL_fold] at this
  exact this
 ·intro i q s hq _
  have hi:=(List.getElem?_eq_some_iff.1 hq).1
  exact⟨fun _ _=>trivial,au_body (h0:=[]) (by simp) (rowAt hq rfl) (lt_len ReqT.row hi) (wrap_succ hi (by omega))⟩
 ·intro s _
  exact au_last (ge_len ReqT.row p.reqs)
structure AuS where
 us:List UseT
 ms:Int
 at_:Int
abbrev apT:List D:=mkT 84 0 [(4,.ref (.ptr 1 0)),(5,.ref (.ptr 2 0)),(8,.ref (.ptr 3 0)),(10,.ref (.ptr 4 0)),(13,.ref (.ptr 5 0)),(58,.fn (.func 65) [] [.ref (.ptr 8 0),.ref (.ptr 7 0)])]
noncomputable abbrev apL(st:LoopState):Blk:=.loop st none 0 apT #[59,60] (rfAsg (sub Tryz.f19 1)) (rfBody (sub Tryz.f19 1))
noncomputable abbrev apH(p:ProgT)(l:List AttT)(fl:List Int)(cut:List Bool)(s:AuS)(e:Nat)(st:LoopState)(more:List Blk):List Blk:=[.var p.l,.var [nq,int 0,nq],.var [int 0],.var [rowsD' (inR1 fl)],.var [.ref (.vec 6 e),int s.ms,rowsD' (rowsB cut)],.var [int s.at_],.vec (vecU s.us) e 3,.var p.l,.var [rowsD' (l.map AttT.row)],.defd,apL st]++more
abbrev apU(i k:Int):List D:=mkT 84 0 [(4,.ref (.ptr 1 0)),(5,.ref (.ptr 2 0)),(8,.ref (.ptr 3 0)),(10,.ref (.ptr 4 0)),(13,.ref (.ptr 5 0)),(14,int i),(15,int k)]
def apF(fl:List Int)(i k f:Int)(s:AuS):AuS:=match Dd (f>0) with
 | true=>⟨s.us++[⟨i,k,f⟩],IntKind.i64.wrap (s.ms - f),IntKind.i64.wrap (s.at_+1)⟩
 | false=>⟨s.us,s.ms,IntKind.i64.wrap (s.at_+1)⟩
theorem ap_asg{p:ProgT}{l:List AttT}{fl:List Int}{cut:List Bool}{s:AuS}{i k:Int}{a:AttT}:(CW Tryz.prog Γ0 (apH p l fl cut s 1 .ready [.var (a.row.map .p)]) true (rfAsg (sub Tryz.f19 1)) {t:=setAll apT [(59,int i),(60,int k)],h:=apH p l fl cut s 1 .ready [.var (a.row.map .p)],m:=[]} .normal {t:=apU i k,h:=apH p l fl cut s 1 .ready [.var (a.row.map .p)],m:=[]}):=by
 exact CW.cast (CW.symX (s':={t:=mkT 84 0 [(4,.ref (.ptr 1 0)),(5,.ref (.ptr 2 0)),(8,.ref (.ptr 3 0)),(10,.ref (.ptr 4 0)),(13,.ref (.ptr 5 0)),(14,int i),(15,int k)],h:=[.var [strD p.nm,int p.number,int p.uses,int p.earn,int p.num,int p.den,rowsD' (List.map ReqT.row p.reqs)],.var [nq,int 0,nq],.var [int 0],.var [rowsD' (inR1 fl)],.var [.ref (.vec 6 1),int s.ms,rowsD' (rowsB cut)],.var [int s.at_],.vec (vecU s.us) 1 3,.var [strD p.nm,int p.number,int p.uses,int p.earn,int p.num,int p.den,rowsD' (List.map ReqT.row p.reqs)],.var [rowsD' (List.map AttT.row l)],.defd,.loop LoopState.ready none 0 (mkT 84 0 [(4,.ref (.ptr 1 0)),(5,.ref (.ptr 2 0)),(8,.ref (.ptr 3 0)),(10,.ref (.ptr 4 0)),(13,.ref (.ptr 5 0)),(58,D.fn (Fn.func 65) [] [.ref (.ptr 8 0),.ref (.ptr 7 0)])]) {toList:=[59,60]} (rfAsg (sub Tryz.f19 1)) (rfBody (sub Tryz.f19 1)),.var [int a.course,int a.term,int a.grade,int a.campus,int a.credits]],m:=[]}) (e:=Exit.normal) pok [.st (.mask [4,5,8,10,13,14,15])] [] (by kernel_rfl) .n) (by rfl) (by rfl)
theorem ap_no{p:ProgT}{l:List AttT}{fl:List Int}{cut:List Bool}{s:AuS}{i k f:Int}{a:AttT}(hf:RowAt s.at_ (inR1 fl) [vi f] 1)(hg:Dd (f>0)=false):(CW Tryz.prog Γ0 (apH p l fl cut s 1 .ready [.var (a.row.map .p)]) true (rfBody (sub Tryz.f19 1)) {t:=apU i k,h:=apH p l fl cut s 1 .busy [.var (a.row.map .p)],m:=[]} .normal {t:=mkT 84 0 [],h:=apH p l fl cut ⟨s.us,s.ms,IntKind.i64.wrap (s.at_+1)⟩ 2 .busy [.var (a.row.map .p)],m:=[]}):=by
 exact CW.cast (CW.symX (s':={t:=mkT 84 0 [],h:=[.var [strD p.nm,int p.number,int p.uses,int p.earn,int p.num,int p.den,rowsD' (List.map ReqT.row p.reqs)],.var [nq,int 0,nq],.var [int 0],.var [rowsD' (inR1 fl)],.var [.ref (.vec 6 2),int s.ms,rowsD' (rowsB cut)],.var [int (IntKind.wrap IntKind.i64 (s.at_+1))],.vec (vecU s.us) 2 3,.var [strD p.nm,int p.number,int p.uses,int p.earn,int p.num,int p.den,rowsD' (List.map ReqT.row p.reqs)],.var [rowsD' (List.map AttT.row l)],.defd,.loop LoopState.busy none 0 (mkT 84 0 [(4,.ref (.ptr 1 0)),(5,.ref (.ptr 2 0)),(8,.ref (.ptr 3 0)),(10,.ref (.ptr 4 0)),(13,.ref (.ptr 5 0)),(58,D.fn (Fn.func 65) [] [.ref (.ptr 8 0),.ref (.ptr 7 0)])]) {toList:=[59,60]} (rfAsg (sub Tryz.f19 1)) (rfBody (sub Tryz.f19 1)),.var [int a.course,int a.term,int a.grade,int a.campus,int a.credits]],m:=[]}) (e:=Exit.normal) pok [.st (.mask []),.st (.ren 6 2)] [.row [vi f],.b false] (by kernel_rfl) (.c hf (.c hg (.c (show List.map (D.mapRL (renR 6 1 2)) (vecU s.us)=vecU s.us from(by first|assumption|rfl|exact vecU_map _ _)) .n)))) (by rfl) (by rfl)
theorem ap_yes{p:ProgT}{l:List AttT}{fl:List Int}{cut:List Bool}{s:AuS}{i k f:Int}{a:AttT}(hf:RowAt s.at_ (inR1 fl) [vi f] 1)(hg:Dd (f>0)=true)(hl:s.us.length≤1000000):(CW Tryz.prog Γ0 (apH p l fl cut s 1 .ready [.var (a.row.map .p)]) true (rfBody (sub Tryz.f19 1)) {t:=apU i k,h:=apH p l fl cut s 1 .busy [.var (a.row.map .p)],m:=[]} .normal {t:=mkT 84 0 [],h:=apH p l fl cut ⟨s.us++[⟨i,k,f⟩],IntKind.i64.wrap (s.ms - f),IntKind.i64.wrap (s.at_+1)⟩ 2 .busy [.var (a.row.map .p)],m:=[]}):=by
 refine CW.cast (CW.symX (s':={t:=mkT 84 0 [],h:=[.var [strD p.nm,int p.number,int p.uses,int p.earn,int p.num,int p.den,rowsD' (List.map ReqT.row p.reqs)],.var [nq,int 0,nq],.var [int 0],.var [rowsD' (inR1 fl)],.var [.ref (.vec 6 2),int (IntKind.wrap IntKind.i64 (s.ms - f)),rowsD' (rowsB cut)],.var [int (IntKind.wrap IntKind.i64 (s.at_+1))],.vec (vecU s.us++[[int i,int k,int f]]) 2 3,.var [strD p.nm,int p.number,int p.uses,int p.earn,int p.num,int p.den,rowsD' (List.map ReqT.row p.reqs)],.var [rowsD' (List.map AttT.row l)],.defd,.loop LoopState.busy none 0 (mkT 84 0 [(4,.ref (.ptr 1 0)),(5,.ref (.ptr 2 0)),(8,.ref (.ptr 3 0)),(10,.ref (.ptr 4 0)),(13,.ref (.ptr 5 0)),(58,D.fn (Fn.func 65) [] [.ref (.ptr 8 0),.ref (.ptr 7 0)])]) {toList:=[59,60]} (rfAsg (sub Tryz.f19 1)) (rfBody (sub Tryz.f19 1)),.var [int a.course,int a.term,int a.grade,int a.campus,int a.credits]],m:=[]}) (e:=Exit.normal) pok [.st (.mask []),.st (.trimV 12)] [.row [vi f],.b true] (by kernel_rfl) (.c hf (.c hg (.c (show(List.all [[int i,int k,int f]] (rowOk 3)&&roomOk (List.length (vecU s.us)+List.length [[int i,int k,int f]]) 24)=true from ?_) (.c (show Blk.inn 12 (.var [strD p.nm,int p.number,int p.uses,int p.earn,int p.num,int p.den,rowsD' (List.map ReqT.row p.reqs)])=true from rfl) (.c (show Blk.inn 12 (.var [nq,int 0,nq])=true from rfl) (.c (show Blk.inn 12 (.var [int 0])=true from rfl) (.c (show Blk.inn 12 (.var [rowsD' (inR1 fl)])=true from rfl) (.c (show Blk.inn 12 (.var [.ref (.vec 6 2),int (IntKind.wrap IntKind.i64 (s.ms - f)),rowsD' (rowsB cut)])=true from rfl) (.c (show Blk.inn 12 (.var [int (IntKind.wrap IntKind.i64 (s.at_+1))])=true from rfl) (.c (show Blk.inn 12 (.vec (vecU s.us++[[int i,int k,int f]]) 2 3)=true from ?_) (.c (show Blk.inn 12 (.var [strD p.nm,int p.number,int p.uses,int p.earn,int p.num,int p.den,rowsD' (List.map ReqT.row p.reqs)])=true from rfl) (.c (show Blk.inn 12 (.var [rowsD' (List.map AttT.row l)])=true from rfl) (.c (show Blk.inn 12 .defd=true from rfl) (.c (show Blk.inn 12 (.loop LoopState.busy none 0 (mkT 84 0 [(4,.ref (.ptr 1 0)),(5,.ref (.ptr 2 0)),(8,.ref (.ptr 3 0)),(10,.ref (.ptr 4 0)),(13,.ref (.ptr 5 0)),(58,D.fn (Fn.func 65) [] [.ref (.ptr 8 0),.ref (.ptr 7 0)])]) {toList:=[59,60]} (rfAsg (sub Tryz.f19 1)) (rfBody (sub Tryz.f19 1)))=true from rfl) (.c (show Blk.inn 12 (.var [int a.course,int a.term,int a.grade,int a.campus,int a.credits])=true from rfl) .n)))))))))))))))) (by simp only[vecU_app];first|done|rfl) (by simp only[vecU_app];first|done|rfl)<;>(first|assumption|rfl|exact vecU_map _ _|exact vecU_inn _ _|(rw[vecU_app];exact vecU_map _ _)|(rw[vecU_app];exact vecU_inn _ _)|(simp[rowOk,D.one,Value.oneCell',roomOk,vecU_len];omega))
theorem apIv_ev{p:ProgT}{l:List AttT}{fl:List Int}{cut:List Bool}{s:AuS}{i k f:Int}{a:AttT}(hf:RowAt s.at_ (inR1 fl) [vi f] 1)(hl:s.us.length≤1000000):Iv Tryz.prog Γ0 (.ref (.yl 10)) [int i,int k] (apH p l fl cut s 1 .ready [.var (a.row.map .p)]) (bool true) (apH p l fl cut (apF fl i k f s) 2 .ready [.var (a.row.map .p)]):=by
 unfold apF
 cases hg:Dd (f>0) with
 | true=>exact Iv.round (h1:=apH p l fl cut s 1 .ready [.var (a.row.map .p)]) rfl rfl ap_asg rfl (ap_yes hf hg hl) rfl
 | false=>exact Iv.round (h1:=apH p l fl cut s 1 .ready [.var (a.row.map .p)]) rfl rfl ap_asg rfl (ap_no hf hg) rfl
noncomputable abbrev a2S(p:ProgT)(l:List AttT)(fl:List Int)(cut:List Bool)(a:AttT)(ks:List Int)(i:Int)(s:AuS)(j:Int):AS:={t:=mkT 30 0 [(0,.ref (.yl 10)),(1,.ref (.ptr 8 0)),(2,.ref (.ptr 7 0)),(4,int i),(8,rowsD' (l.map AttT.row)),(9,int ((l.map AttT.row).length:Int)),(10,int i),(17,rowsD' (inR1 ks)),(18,int ((inR1 ks).length:Int)),(19,int j)],h:=apH p l fl cut s 1 .ready [.var (a.row.map .p)],m:=[]}
noncomputable abbrev a2E(p:ProgT)(l:List AttT)(fl:List Int)(cut:List Bool)(a:AttT)(i:Int)(s:AuS):AS:={t:=mkT 30 0 [(0,.ref (.yl 10)),(1,.ref (.ptr 8 0)),(2,.ref (.ptr 7 0)),(8,rowsD' (l.map AttT.row)),(9,int ((l.map AttT.row).length:Int)),(10,int i)],h:=apH p l fl cut s 1 .ready [.var (a.row.map .p)],m:=[]}
theorem a2_body{p:ProgT}{l:List AttT}{fl:List Int}{cut:List Bool}{a:AttT}{ks:List Int}{s0 s:AuS}{i k f:Int}{j:Nat}(hf:RowAt s.at_ (inR1 fl) [vi f] 1)(hk:RowAt (j:Int) (inR1 ks) [vi k] 1)(hlt:Dd ((j:Int)<((inR1 ks).length:Int))=true)(hw:IntKind.i64.wrap ((j:Int)+1)=((j+1:Nat):Int))(hl:s.us.length≤1000000):(CW Tryz.prog Γ0 (apH p l fl cut s0 0 .ready []) false (sub Tryz.f65 1) (a2S p l fl cut a ks i s j) .normal (a2S p l fl cut a ks i (apF fl i k f s) ((j+1:Nat):Int))):=by
 refine CW.cast (CW.symX (s':={t:=mkT 30 0 [(0,.ref (.yl 10)),(1,.ref (.ptr 8 0)),(2,.ref (.ptr 7 0)),(4,int i),(8,rowsD' (List.map AttT.row l)),(9,int (↑(List.length (List.map AttT.row l)):Int)),(10,int i),(17,rowsD' (inR1 ks)),(18,int (↑(List.length (inR1 ks)):Int)),(19,int (IntKind.wrap IntKind.i64 ((↑j:Int)+1)))],h:=[.var [strD p.nm,int p.number,int p.uses,int p.earn,int p.num,int p.den,rowsD' (List.map ReqT.row p.reqs)],.var [nq,int 0,nq],.var [int 0],.var [rowsD' (inR1 fl)],.var [.ref (.vec 6 1),int (apF fl i k f s).ms,rowsD' (rowsB cut)],.var [int (apF fl i k f s).at_],.vec (vecU (apF fl i k f s).us) 1 3,.var [strD p.nm,int p.number,int p.uses,int p.earn,int p.num,int p.den,rowsD' (List.map ReqT.row p.reqs)],.var [rowsD' (List.map AttT.row l)],.defd,.loop LoopState.ready none 0 (mkT 84 0 [(4,.ref (.ptr 1 0)),(5,.ref (.ptr 2 0)),(8,.ref (.ptr 3 0)),(10,.ref (.ptr 4 0)),(13,.ref (.ptr 5 0)),(58,D.fn (Fn.func 65) [] [.ref (.ptr 8 0),.ref (.ptr 7 0)])]) {toList:=[59,60]} (rfAsg (sub Tryz.f19 1)) (rfBody (sub Tryz.f19 1)),.var [int a.course,int a.term,int a.grade,int a.campus,int a.credits]],m:=[]}) (e:=Exit.normal) pok [.st (.mask [0,1,2,4,8,9,10,17,18,19]),.st (.ren 6 1)] [.b true,.row [vi k],.inv (bool true) [.var [strD p.nm,int p.number,int p.uses,int p.earn,int p.num,int p.den,rowsD' (List.map ReqT.row p.reqs)],.var [nq,int 0,nq],.var [int 0],.var [rowsD' (inR1 fl)],.var [.ref (.vec 6 2),int (apF fl i k f s).ms,rowsD' (rowsB cut)],.var [int (apF fl i k f s).at_],.vec (vecU (apF fl i k f s).us) 2 3,.var [strD p.nm,int p.number,int p.uses,int p.earn,int p.num,int p.den,rowsD' (List.map ReqT.row p.reqs)],.var [rowsD' (List.map AttT.row l)],.defd,.loop LoopState.ready none 0 (mkT 84 0 [(4,.ref (.ptr 1 0)),(5,.ref (.ptr 2 0)),(8,.ref (.ptr 3 0)),(10,.ref (.ptr 4 0)),(13,.ref (.ptr 5 0)),(58,D.fn (Fn.func 65) [] [.ref (.ptr 8 0),.ref (.ptr 7 0)])]) {toList:=[59,60]} (rfAsg (sub Tryz.f19 1)) (rfBody (sub Tryz.f19 1)),.var [int a.course,int a.term,int a.grade,int a.campus,int a.credits]],.b false] (by kernel_rfl) (.c hlt (.c hk (.c (@apIv_ev (p) (l) (fl) (cut) (s) (i) (k) (f) (a) (hf) (hl)) (.c (show(!true)=false from rfl) (.c (show List.map (D.mapRL (renR 6 2 1)) (vecU (apF fl i k f s).us)=vecU (apF fl i k f s).us from(by first|assumption|rfl|exact vecU_map _ _|exact vecU_inn _ _|omega)) .n)))))) ?_ ?_<;>(first|rfl|(rw[hw]<;>rfl))
theorem a2_last{p:ProgT}{l:List AttT}{fl:List Int}{cut:List Bool}{a:AttT}{ks:List Int}{s0 s:AuS}{i:Int}{j:Nat}(hlt:Dd ((j:Int)<((inR1 ks).length:Int))=false):(CW Tryz.prog Γ0 (apH p l fl cut s0 0 .ready []) false (sub Tryz.f65 1) (a2S p l fl cut a ks i s j) (.exit 2) (a2E p l fl cut a i s)):=by
 exact CW.cast (CW.symX (s':={t:=mkT 30 0 [(0,.ref (.yl 10)),(1,.ref (.ptr 8 0)),(2,.ref (.ptr 7 0)),(8,rowsD' (List.map AttT.row l)),(9,int (↑(List.length (List.map AttT.row l)):Int)),(10,int i)],h:=[.var [strD p.nm,int p.number,int p.uses,int p.earn,int p.num,int p.den,rowsD' (List.map ReqT.row p.reqs)],.var [nq,int 0,nq],.var [int 0],.var [rowsD' (inR1 fl)],.var [.ref (.vec 6 1),int s.ms,rowsD' (rowsB cut)],.var [int s.at_],.vec (vecU s.us) 1 3,.var [strD p.nm,int p.number,int p.uses,int p.earn,int p.num,int p.den,rowsD' (List.map ReqT.row p.reqs)],.var [rowsD' (List.map AttT.row l)],.defd,.loop LoopState.ready none 0 (mkT 84 0 [(4,.ref (.ptr 1 0)),(5,.ref (.ptr 2 0)),(8,.ref (.ptr 3 0)),(10,.ref (.ptr 4 0)),(13,.ref (.ptr 5 0)),(58,D.fn (Fn.func 65) [] [.ref (.ptr 8 0),.ref (.ptr 7 0)])]) {toList:=[59,60]} (rfAsg (sub Tryz.f19 1)) (rfBody (sub Tryz.f19 1)),.var [int a.course,int a.term,int a.grade,int a.campus,int a.credits]],m:=[]}) (e:=Exit.exit 2) pok [.st (.mask [0,1,2,8,9,10])] [.b false] (by kernel_rfl) (.c hlt .n)) (by rfl) (by rfl)
def apG(fl:List Int)(i:Int)(s:AuS)(k:Int):AuS:=apF fl i k (fl.getD s.at_.toNat 0) s
theorem apG_at{fl:List Int}{i k:Int}{s:AuS}{c:Nat}(h:s.at_=c)(hc:c≤1000000):(apG fl i s k).at_=((c+1:Nat):Int):=by
 have hw:IntKind.i64.wrap (s.at_+1)=((c+1:Nat):Int):=by rw[h];exact wrap_i64 (by omega) (by omega)
 unfold apG apF
 split<;>exact hw
theorem apG_us{fl:List Int}{i k:Int}{s:AuS}:(apG fl i s k).us.length≤s.us.length+1:=by
 unfold apG apF
 split
 ·simp
 ·simp only;omega
theorem apGs{fl:List Int}{i:Int}:∀(ks:List Int) (s:AuS) (c:Nat),s.at_=c→c+ks.length≤1000000→(ks.foldl (apG fl i) s).at_=((c+ks.length:Nat):Int)∧(ks.foldl (apG fl i) s).us.length≤s.us.length+ks.length
 | [],s,c,h,_=>⟨h,by simp⟩
 | k::ks,s,c,h,hc=>by
  simp only[List.length_cons] at hc
  obtain⟨a,b⟩:=apGs ks (apG fl i s k) (c+1) (apG_at h (by omega)) (by omega)
  have:=apG_us (fl:=fl) (i:=i) (k:=k) (s:=s)
  rw[List.foldl_cons]
  refine⟨by rw[a,List.length_cons];congr 1;omega,?_⟩
  simp only[List.length_cons];omega
theorem a2_cw{p:ProgT}{l:List AttT}{fl:List Int}{cut:List Bool}{a:AttT}{ks:List Int}{s0 s:AuS}{i:Int}{c:Nat}(hs:s.at_=c)(hb:c+ks.length≤fl.length)(hfl:fl.length≤100000)(hus:s.us.length≤100000):CW Tryz.prog Γ0 (apH p l fl cut s0 0 .ready []) false (.loop (sub Tryz.f65 1)) (a2S p l fl cut a ks i s 0) (.exit 2) (a2E p l fl cut a i (ks.foldl (apG fl i) s)):=by
 have:=CW.each (P:=Tryz.prog) (Γ:=Γ0) (h0:=apH p l fl cut s0 0 .ready []) (rd:=false) (c:=sub Tryz.f65 1) (σ:=AuS) (ρ:=Empty) ks (fun k s=>.inl (apG fl i s k))
  (fun j s=>a2S p l fl cut a ks i s (j:Int)) (.exit 2) (fun s=>a2E p l fl cut a i s) (fun r=>r.elim) (fun j s=>s.at_=((c+j:Nat):Int)∧s.us.length≤100000+j) (by simp) (fun r=>r.elim) ?_ ?_ s ⟨by simpa using hs,by omega⟩
 ·rw[forL_fold] at this
  exact this
 ·rintro j k s hk ⟨h1,h2⟩
  have hi:=(List.getElem?_eq_some_iff.1 hk).1
  have hg:fl[c+j]? = some (fl.getD s.at_.toNat 0):=by
   rw[h1,Int.toNat_natCast]
   simp only[List.getD,List.getElem?_eq_getElem (show c+j<fl.length by omega),Option.getD_some]
  have hf:=rowAt (row:=fun n:Int=>[vi n]) (sz:=1) hg rfl
  rw[←h1] at hf
  refine⟨fun s' h=>?_,a2_body hf (rowAt (row:=fun n:Int=>[vi n]) hk rfl) (lt_len (fun n:Int=>[vi n]) hi) (wrap_succ hi (by omega)) (by omega)⟩
  cases h
  refine⟨apG_at h1 (show c+j≤1000000 by omega),?_⟩
  have:=apG_us (fl:=fl) (i:=i) (k:=k) (s:=s)
  omega
 ·intro s _
  exact a2_last (ge_len (fun n:Int=>[vi n]) ks)
noncomputable abbrev a3S(p:ProgT)(l:List AttT)(fl:List Int)(cut:List Bool)(s:AuS)(i:Int):AS:={t:=mkT 30 0 [(0,.ref (.yl 10)),(1,.ref (.ptr 8 0)),(2,.ref (.ptr 7 0)),(8,rowsD' (l.map AttT.row)),(9,int ((l.map AttT.row).length:Int)),(10,int i)],h:=apH p l fl cut s 1 .ready [],m:=[]}
noncomputable abbrev a3E(p:ProgT)(l:List AttT)(fl:List Int)(cut:List Bool)(s:AuS):AS:={t:=mkT 30 0 [],h:=apH p l fl cut s 1 .ready [],m:=[]}
def a3F(p:ProgT)(fl:List Int)(s:AuS×Int)(a:AttT):AuS×Int:=((elR p a).foldl (apG fl s.2) s.1,s.2+1)
noncomputable abbrev a3_body_x0(p:ProgT)(l:List AttT)(fl:List Int)(cut:List Bool)(a:AttT)(s:AuS):List Blk:=[.var [strD p.nm,int p.number,int p.uses,int p.earn,int p.num,int p.den,rowsD' (List.map ReqT.row p.reqs)],.var [nq,int 0,nq],.var [int 0],.var [rowsD' (inR1 fl)],.var [.ref (.vec 6 1),int s.ms,rowsD' (rowsB cut)],.var [int s.at_],.vec (vecU s.us) 1 3,.var [strD p.nm,int p.number,int p.uses,int p.earn,int p.num,int p.den,rowsD' (List.map ReqT.row p.reqs)],.var [rowsD' (List.map AttT.row l)],.defd,.loop LoopState.ready none 0 (mkT 84 0 [(4,.ref (.ptr 1 0)),(5,.ref (.ptr 2 0)),(8,.ref (.ptr 3 0)),(10,.ref (.ptr 4 0)),(13,.ref (.ptr 5 0)),(58,D.fn (Fn.func 65) [] [.ref (.ptr 8 0),.ref (.ptr 7 0)])]) {toList:=[59,60]} (rfAsg (sub Tryz.f19 1)) (rfBody (sub Tryz.f19 1)),.var [int a.course,int a.term,int a.grade,int a.campus,int a.credits]]
theorem a3_body{p:ProgT}{l:List AttT}{fl:List Int}{cut:List Bool}{a:AttT}{s0 s:AuS}{i c:Nat}(hp:p.ok)(hn:p.reqs.length≤1000)(hr:RowAt (i:Int) (l.map AttT.row) a.row 5)(hlt:Dd ((i:Int)<((l.map AttT.row).length:Int))=true)(hw:IntKind.i64.wrap ((i:Int)+1)=((i+1:Nat):Int))
  (hcw:CW Tryz.prog Γ0 (apH p l fl cut s0 0 .ready []) false (.loop (sub Tryz.f65 1)) (a2S p l fl cut a (elR p a) i s 0) (.exit 2) (a2E p l fl cut a i ((elR p a).foldl (apG fl (i:Int)) s))):(CW Tryz.prog Γ0 (apH p l fl cut s0 0 .ready []) false (sub Tryz.f65 0) (a3S p l fl cut s i) .normal (a3S p l fl cut (a3F p fl (s,(i:Int)) a).1 ((i+1:Nat):Int))):=by
 have hl0:=(@hcw)
 refine CW.cast (CW.symX (s':={t:=mkT 30 0 [(0,.ref (.yl 10)),(1,.ref (.ptr 8 0)),(2,.ref (.ptr 7 0)),(8,rowsD' (List.map AttT.row l)),(9,int (↑(List.length (List.map AttT.row l)):Int)),(10,int (IntKind.wrap IntKind.i64 ((↑i:Int)+1)))],h:=[.var [strD p.nm,int p.number,int p.uses,int p.earn,int p.num,int p.den,rowsD' (List.map ReqT.row p.reqs)],.var [nq,int 0,nq],.var [int 0],.var [rowsD' (inR1 fl)],.var [.ref (.vec 6 1),int (List.foldl (apG fl (↑i:Int)) s (elR p a)).ms,rowsD' (rowsB cut)],.var [int (List.foldl (apG fl (↑i:Int)) s (elR p a)).at_],.vec (vecU (List.foldl (apG fl (↑i:Int)) s (elR p a)).us) 1 3,.var [strD p.nm,int p.number,int p.uses,int p.earn,int p.num,int p.den,rowsD' (List.map ReqT.row p.reqs)],.var [rowsD' (List.map AttT.row l)],.defd,.loop LoopState.ready none 0 (mkT 84 0 [(4,.ref (.ptr 1 0)),(5,.ref (.ptr 2 0)),(8,.ref (.ptr 3 0)),(10,.ref (.ptr 4 0)),(13,.ref (.ptr 5 0)),(58,D.fn (Fn.func 65) [] [.ref (.ptr 8 0),.ref (.ptr 7 0)])]) {toList:=[59,60]} (rfAsg (sub Tryz.f19 1)) (rfBody (sub Tryz.f19 1))],m:=[]}) (e:=Exit.normal) pok [.st (.mask [0,1,2,8,9,10]),.st (.trimV 11)] [.b true,.row (AttT.row a),.val (rowsD' (inR1 (elR p a))),.sum [0,1,2,4,8,9,10,17,18,19] (Exit.exit 2) {t:=mkT 30 0 [(0,.ref (.yl 10)),(1,.ref (.ptr 8 0)),(2,.ref (.ptr 7 0)),(8,rowsD' (List.map AttT.row l)),(9,int (↑(List.length (List.map AttT.row l)):Int)),(10,int (↑i:Int))],h:=[.var [strD p.nm,int p.number,int p.uses,int p.earn,int p.num,int p.den,rowsD' (List.map ReqT.row p.reqs)],.var [nq,int 0,nq],.var [int 0],.var [rowsD' (inR1 fl)],.var [.ref (.vec 6 1),int (List.foldl (apG fl (↑i:Int)) s (elR p a)).ms,rowsD' (rowsB cut)],.var [int (List.foldl (apG fl (↑i:Int)) s (elR p a)).at_],.vec (vecU (List.foldl (apG fl (↑i:Int)) s (elR p a)).us) 1 3,.var [strD p.nm,int p.number,int p.uses,int p.earn,int p.num,int p.den,rowsD' (List.map ReqT.row p.reqs)],.var [rowsD' (List.map AttT.row l)],.defd,.loop LoopState.ready none 0 (mkT 84 0 [(4,.ref (.ptr 1 0)),(5,.ref (.ptr 2 0)),(8,.ref (.ptr 3 0)),(10,.ref (.ptr 4 0)),(13,.ref (.ptr 5 0)),(58,D.fn (Fn.func 65) [] [.ref (.ptr 8 0),.ref (.ptr 7 0)])]) {toList:=[59,60]} (rfAsg (sub Tryz.f19 1)) (rfBody (sub Tryz.f19 1)),.var [int a.course,int a.term,int a.grade,int a.campus,int a.credits]],m:=[]}] (by kernel_rfl) (.c hlt (.c hr (.c (@eligible_ev (p) (hp) (hn) (a) ((a3_body_x0 p l fl cut a s))) (.c hl0 (.c (show Blk.inn 11 (.var [strD p.nm,int p.number,int p.uses,int p.earn,int p.num,int p.den,rowsD' (List.map ReqT.row p.reqs)])=true from rfl) (.c (show Blk.inn 11 (.var [nq,int 0,nq])=true from rfl) (.c (show Blk.inn 11 (.var [int 0])=true from rfl) (.c (show Blk.inn 11 (.var [rowsD' (inR1 fl)])=true from rfl) (.c (show Blk.inn 11 (.var [.ref (.vec 6 1),int (List.foldl (apG fl (↑i:Int)) s (elR p a)).ms,rowsD' (rowsB cut)])=true from rfl) (.c (show Blk.inn 11 (.var [int (List.foldl (apG fl (↑i:Int)) s (elR p a)).at_])=true from rfl) (.c (show Blk.inn 11 (.vec (vecU (List.foldl (apG fl (↑i:Int)) s (elR p a)).us) 1 3)=true from(by first|assumption|rfl|exact vecU_map _ _|exact vecU_inn _ _|omega)) (.c (show Blk.inn 11 (.var [strD p.nm,int p.number,int p.uses,int p.earn,int p.num,int p.den,rowsD' (List.map ReqT.row p.reqs)])=true from rfl) (.c (show Blk.inn 11 (.var [rowsD' (List.map AttT.row l)])=true from rfl) (.c (show Blk.inn 11 .defd=true from rfl) (.c (show Blk.inn 11 (.loop LoopState.ready none 0 (mkT 84 0 [(4,.ref (.ptr 1 0)),(5,.ref (.ptr 2 0)),(8,.ref (.ptr 3 0)),(10,.ref (.ptr 4 0)),(13,.ref (.ptr 5 0)),(58,D.fn (Fn.func 65) [] [.ref (.ptr 8 0),.ref (.ptr 7 0)])]) {toList:=[59,60]} (rfAsg (sub Tryz.f19 1)) (rfBody (sub Tryz.f19 1)))=true from rfl) .n)))))))))))))))) ?_ ?_<;>(first|rfl|(simp only[a3F,hw];first|done|rfl))
theorem a3_last{p:ProgT}{l:List AttT}{fl:List Int}{cut:List Bool}{s0 s:AuS}{i:Nat}(hlt:Dd ((i:Int)<((l.map AttT.row).length:Int))=false):(CW Tryz.prog Γ0 (apH p l fl cut s0 0 .ready []) false (sub Tryz.f65 0) (a3S p l fl cut s i) (.exit 0) (a3E p l fl cut s)):=by
 exact CW.cast (CW.symX (s':={t:=mkT 30 0 [],h:=[.var [strD p.nm,int p.number,int p.uses,int p.earn,int p.num,int p.den,rowsD' (List.map ReqT.row p.reqs)],.var [nq,int 0,nq],.var [int 0],.var [rowsD' (inR1 fl)],.var [.ref (.vec 6 1),int s.ms,rowsD' (rowsB cut)],.var [int s.at_],.vec (vecU s.us) 1 3,.var [strD p.nm,int p.number,int p.uses,int p.earn,int p.num,int p.den,rowsD' (List.map ReqT.row p.reqs)],.var [rowsD' (List.map AttT.row l)],.defd,.loop LoopState.ready none 0 (mkT 84 0 [(4,.ref (.ptr 1 0)),(5,.ref (.ptr 2 0)),(8,.ref (.ptr 3 0)),(10,.ref (.ptr 4 0)),(13,.ref (.ptr 5 0)),(58,D.fn (Fn.func 65) [] [.ref (.ptr 8 0),.ref (.ptr 7 0)])]) {toList:=[59,60]} (rfAsg (sub Tryz.f19 1)) (rfBody (sub Tryz.f19 1))],m:=[]}) (e:=Exit.exit 0) pok [.st (.mask [])] [.b false] (by kernel_rfl) (.c hlt .n)) (by rfl) (by rfl)
def pairsN(p:ProgT)(l:List AttT):Nat:=(l.map fun a=>(elR p a).length).sum
theorem a3_cw{p:ProgT}(hp:p.ok){l:List AttT}{fl:List Int}{cut:List Bool}{s0 s:AuS}{c:Nat}(hn:p.reqs.length≤100)(hl:l.length≤100)(hs:s.at_=c)(hb:c+pairsN p l≤fl.length)(hfl:fl.length≤50000)(hus:s.us=[]):CW Tryz.prog Γ0 (apH p l fl cut s0 0 .ready []) false (.loop (sub Tryz.f65 0)) (a3S p l fl cut s 0) (.exit 0) (a3E p l fl cut (l.foldl (a3F p fl) (s,0)).1):=by
 have:=CW.each (P:=Tryz.prog) (Γ:=Γ0) (h0:=apH p l fl cut s0 0 .ready []) (rd:=false) (c:=sub Tryz.f65 0) (σ:=AuS×Int) (ρ:=Empty) l (fun a s=>.inl (a3F p fl s a))
  (fun i s=>a3S p l fl cut s.1 (i:Int)) (.exit 0) (fun s=>a3E p l fl cut s.1) (fun r=>r.elim) (fun i s=>s.2=i∧∃c:Nat,s.1.at_=c∧c+pairsN p (l.drop i)≤fl.length∧s.1.us.length≤c) (by simp) (fun r=>r.elim) ?_ ?_ (s,0) ⟨by simp,c,hs,by simpa using hb,by simp[hus]⟩
 ·rw[forL_fold] at this
  exact this
 ·rintro i a ⟨s,k⟩ hc ⟨hk,c,h1,h2,h3⟩
  simp only at hk h1 h3
  subst hk
  have hi:=(List.getElem?_eq_some_iff.1 hc).1
  have hd:l.drop i=a::l.drop (i+1):=by
   rw[List.drop_eq_getElem_cons hi]
   congr 1
   exact(List.getElem?_eq_some_iff.1 hc).2
  have h4:pairsN p (l.drop i)=(elR p a).length+pairsN p (l.drop (i+1)):=by rw[hd];simp[pairsN]
  have h5:=elR_len p a
  refine⟨fun s' h=>?_,a3_body (c:=c) hp (by omega) (rowAt hc rfl) (lt_len AttT.row hi) (wrap_succ hi (by omega)) (a2_cw (s:=s) h1 (show c+(elR p a).length≤fl.length by omega) (by omega) (show s.us.length≤100000 by omega))⟩
  cases h
  obtain⟨g1,g2⟩:=apGs (fl:=fl) (i:=(i:Int)) (elR p a) s c h1 (by omega)
  exact⟨by simp[a3F],c+(elR p a).length,g1,by omega,by simp only[a3F];omega⟩
 ·intro s _
  exact a3_last (ge_len AttT.row l)
theorem apiter_a{p:ProgT}{l:List AttT}{fl:List Int}{cut:List Bool}{s0 s:AuS}
  (hcw:CW Tryz.prog Γ0 (apH p l fl cut s0 0 .ready []) false (.loop (sub Tryz.f65 0)) (a3S p l fl cut s0 0) (.exit 0) (a3E p l fl cut s)):(Ev Tryz.prog Γ0 65 [.ref (.yl 10),.ref (.ptr 8 0),.ref (.ptr 7 0)] (apH p l fl cut s0 0 .ready []) (.tup []) (apH p l fl cut s 1 .ready [])):=by
 have hl0:=(@hcw)
 exact Ev.castH (Ev.of_sym (h':=[.var [strD p.nm,int p.number,int p.uses,int p.earn,int p.num,int p.den,rowsD' (List.map ReqT.row p.reqs)],.var [nq,int 0,nq],.var [int 0],.var [rowsD' (inR1 fl)],.var [.ref (.vec 6 1),int s.ms,rowsD' (rowsB cut)],.var [int s.at_],.vec (vecU s.us) 1 3,.var [strD p.nm,int p.number,int p.uses,int p.earn,int p.num,int p.den,rowsD' (List.map ReqT.row p.reqs)],.var [rowsD' (List.map AttT.row l)],.defd,.loop LoopState.ready none 0 (mkT 84 0 [(4,.ref (.ptr 1 0)),(5,.ref (.ptr 2 0)),(8,.ref (.ptr 3 0)),(10,.ref (.ptr 4 0)),(13,.ref (.ptr 5 0)),(58,D.fn (Fn.func 65) [] [.ref (.ptr 8 0),.ref (.ptr 7 0)])]) {toList:=[59,60]} (rfAsg (sub Tryz.f19 1)) (rfBody (sub Tryz.f19 1))]) (d:=D.tup []) pok [.nx 1,.st (.ren 6 1),.sum [0,1,2,8,9,10] (Exit.exit 0) {t:=mkT 30 0 [],h:=[.var [strD p.nm,int p.number,int p.uses,int p.earn,int p.num,int p.den,rowsD' (List.map ReqT.row p.reqs)],.var [nq,int 0,nq],.var [int 0],.var [rowsD' (inR1 fl)],.var [.ref (.vec 6 1),int s.ms,rowsD' (rowsB cut)],.var [int s.at_],.vec (vecU s.us) 1 3,.var [strD p.nm,int p.number,int p.uses,int p.earn,int p.num,int p.den,rowsD' (List.map ReqT.row p.reqs)],.var [rowsD' (List.map AttT.row l)],.defd,.loop LoopState.ready none 0 (mkT 84 0 [(4,.ref (.ptr 1 0)),(5,.ref (.ptr 2 0)),(8,.ref (.ptr 3 0)),(10,.ref (.ptr 4 0)),(13,.ref (.ptr 5 0)),(58,D.fn (Fn.func 65) [] [.ref (.ptr 8 0),.ref (.ptr 7 0)])]) {toList:=[59,60]} (rfAsg (sub Tryz.f19 1)) (rfBody (sub Tryz.f19 1))],m:=[]}] (by kernel_rfl) (.c (show List.map (D.mapRL (renR 6 0 1)) (vecU s0.us)=vecU s0.us from(by first|assumption|rfl|exact vecU_map _ _|exact vecU_inn _ _|omega)) (.c hl0 .n))) (by rfl) (by rfl)
noncomputable abbrev apH0(p:ProgT)(l:List AttT)(fl:List Int)(cut:List Bool)(s:AuS):List Blk:=[.var p.l,.var [nq,int 0,nq],.var [int 0],.var [rowsD' (inR1 fl)],.var [.ref (.vec 6 0),int s.ms,rowsD' (rowsB cut)],.var [int s.at_],.vec (vecU s.us) 0 3,.var p.l,.var [rowsD' (l.map AttT.row)]]
theorem ap_rf_a{p:ProgT}(hp:p.ok){l:List AttT}{fl:List Int}{cut:List Bool}{s:AuS}{c:Nat}{h0:List Blk}(hn:p.reqs.length≤100)(hl:l.length≤100)(hs:s.at_=c)(hb:c+pairsN p l≤fl.length)(hfl:fl.length≤50000)(hus:s.us=[]):CW Tryz.prog Γ0 h0 false (sub Tryz.f19 1) {t:=apT,h:=apH0 p l fl cut s,m:=[]} .normal
  {t:=apT,h:=apH p l fl cut (l.foldl (a3F p fl) (s,0)).1 1 .exhausted [],m:=[9]} :=
 CW.rangeFunc (f:=65) (fi:=[]) (ca:=[.ref (.ptr 8 0),.ref (.ptr 7 0)]) pok (s:={t:=apT,h:=apH0 p l fl cut s,m:=[]}) (g:=.tmp 58) (ps:=#[59,60]) (asg:=rfAsg (sub Tryz.f19 1)) (body:=rfBody (sub Tryz.f19 1)) rfl (by kernel_rfl) (apiter_a (a3_cw hp hn hl hs hb hfl hus)) rfl
theorem try0_ev(h:List Blk):(Ev Tryz.prog Γ0 41 [int 0] h (.tup []) h):=by
 exact Ev.castH (Ev.sym0 (d:=D.tup []) pok [.inl,.b false] (by kernel_rfl) (.c (show(!0==0)=false from rfl) .n) rfl rfl h) (by rfl) (by rfl)
abbrev adT(l:List AttT):List D:=mkT 84 0 [(1,rowsD' (l.map AttT.row)),(2,.ref (.ptr 0 0)),(4,.ref (.ptr 1 0)),(5,.ref (.ptr 2 0))]
abbrev adH(p:ProgT)(e:Int):List Blk:=[.var p.l,.var [nq,int 0,nq],.var [int e]]
noncomputable abbrev ad_ok_x0(p:ProgT)(fl:List Int):List Blk:=[.var [strD p.nm,int p.number,int p.uses,int p.earn,int p.num,int p.den,rowsD' (List.map ReqT.row p.reqs)],.var [nq,int 0,nq],.var [int 0],.var [rowsD' (inR1 fl)]]
noncomputable abbrev ad_ok_x1(p:ProgT):List Blk:=[.var [strD p.nm,int p.number,int p.uses,int p.earn,int p.num,int p.den,rowsD' (List.map ReqT.row p.reqs)],.var [nq,int 0,nq],.var [int 0]]
theorem ad_ok{p:ProgT}{l:List AttT}{es:List EdgT}{n ms:Int}{fl:List Int}{cut:List Bool}{s:AuS}
  (hnet:∀h,Ev Tryz.prog Γ0 16 [.agg p.l,rowsD' (l.map AttT.row)] h (.tup [int n,rowsD' (es.map EdgT.row),int 0]) h)
  (hmax:∀h,Ev Tryz.prog Γ0 42 [int n,rowsD' (es.map EdgT.row),int 0,int (IntKind.i64.wrap (n - 1))] h (.tup [rowsD' (inR1 fl),rowsD' (rowsB cut),int 0]) h)
  (hl1:CW Tryz.prog Γ0 (adH p 0) false (.loop (sub Tryz.f19 0)) (auS p l fl 0 cut 0) (.exit 0) (auE p l fl ms cut))
  (hrf:CW Tryz.prog Γ0 (adH p 0) false (sub Tryz.f19 1) {t:=apT,h:=[.var p.l,.var [nq,int 0,nq],.var [int 0],.var [rowsD' (inR1 fl)],.var [.ref (.vec 6 0),int ms,rowsD' (rowsB cut)],.var [int ((l.map AttT.row).length:Int)],.vec [] 0 3,.var p.l,.var [rowsD' (l.map AttT.row)]],m:=[]} .normal {t:=apT,h:=apH p l fl cut s 1 .exhausted [],m:=[9]}):(CW Tryz.prog Γ0 (adH p 0) false (cR (cR (bodyC Tryz.f19))) {t:=adT l,h:=adH p 0,m:=[]} .ret
   {t:=mkT 84 0 [(4,.ref (.ptr 1 0)),(5,.ref (.ptr 2 0))],h:=[.var p.l,.var [rowsD' (s.us.map UseT.row),int s.ms,rowsD' (rowsB cut)],.var [int 0],.var [rowsD' (inR1 fl)],.var [rowsD' (s.us.map UseT.row),int s.ms,rowsD' (rowsB cut)],.var [int s.at_],.gone,.var p.l,.var [rowsD' (l.map AttT.row)],.defd,apL .exhausted],m:=[9]}):=by
 have hl0:=(@hl1)
 have hl1:=(@hrf)
 exact CW.cast (CW.symX (s':={t:=mkT 84 0 [(4,.ref (.ptr 1 0)),(5,.ref (.ptr 2 0))],h:=[.var [strD p.nm,int p.number,int p.uses,int p.earn,int p.num,int p.den,rowsD' (List.map ReqT.row p.reqs)],.var [rowsD' (List.map UseT.row s.us),int s.ms,rowsD' (rowsB cut)],.var [int 0],.var [rowsD' (inR1 fl)],.var [rowsD' (List.map UseT.row s.us),int s.ms,rowsD' (rowsB cut)],.var [int s.at_],.gone,.var [strD p.nm,int p.number,int p.uses,int p.earn,int p.num,int p.den,rowsD' (List.map ReqT.row p.reqs)],.var [rowsD' (List.map AttT.row l)],.defd,.loop LoopState.exhausted none 0 (mkT 84 0 [(4,.ref (.ptr 1 0)),(5,.ref (.ptr 2 0)),(8,.ref (.ptr 3 0)),(10,.ref (.ptr 4 0)),(13,.ref (.ptr 5 0)),(58,D.fn (Fn.func 65) [] [.ref (.ptr 8 0),.ref (.ptr 7 0)])]) {toList:=[59,60]} (rfAsg (sub Tryz.f19 1)) (rfBody (sub Tryz.f19 1))],m:=[9]}) (e:=Exit.ret) pok [.st (.mask [4,5]),.st (.frz 6 (List.map UseT.row s.us))] [.val (D.tup [int n,rowsD' (List.map EdgT.row es),int 0]),.val (D.tup []),.val (D.tup [rowsD' (inR1 fl),rowsD' (rowsB cut),int 0]),.val (D.tup []),.sum [1,2,4,5,8,10,41,42,43] (Exit.exit 0) {t:=mkT 84 0 [(1,rowsD' (List.map AttT.row l)),(2,.ref (.ptr 0 0)),(4,.ref (.ptr 1 0)),(5,.ref (.ptr 2 0)),(8,.ref (.ptr 3 0)),(10,.ref (.ptr 4 0))],h:=[.var [strD p.nm,int p.number,int p.uses,int p.earn,int p.num,int p.den,rowsD' (List.map ReqT.row p.reqs)],.var [nq,int 0,nq],.var [int 0],.var [rowsD' (inR1 fl)],.var [nq,int ms,rowsD' (rowsB cut)]],m:=[]},.nx 1,.st (.nilC 4 0 3),.inl,.sum [4,5,8,10,13,58] (Exit.normal) {t:=mkT 84 0 [(4,.ref (.ptr 1 0)),(5,.ref (.ptr 2 0)),(8,.ref (.ptr 3 0)),(10,.ref (.ptr 4 0)),(13,.ref (.ptr 5 0)),(58,D.fn (Fn.func 65) [] [.ref (.ptr 8 0),.ref (.ptr 7 0)])],h:=[.var [strD p.nm,int p.number,int p.uses,int p.earn,int p.num,int p.den,rowsD' (List.map ReqT.row p.reqs)],.var [nq,int 0,nq],.var [int 0],.var [rowsD' (inR1 fl)],.var [.ref (.vec 6 1),int s.ms,rowsD' (rowsB cut)],.var [int s.at_],.vec (vecU s.us) 1 3,.var [strD p.nm,int p.number,int p.uses,int p.earn,int p.num,int p.den,rowsD' (List.map ReqT.row p.reqs)],.var [rowsD' (List.map AttT.row l)],.defd,.loop LoopState.exhausted none 0 (mkT 84 0 [(4,.ref (.ptr 1 0)),(5,.ref (.ptr 2 0)),(8,.ref (.ptr 3 0)),(10,.ref (.ptr 4 0)),(13,.ref (.ptr 5 0)),(58,D.fn (Fn.func 65) [] [.ref (.ptr 8 0),.ref (.ptr 7 0)])]) {toList:=[59,60]} (rfAsg (sub Tryz.f19 1)) (rfBody (sub Tryz.f19 1))],m:=[9]}] (by kernel_rfl) (.c (@hnet ((ad_ok_x1 p))) (.c (@try0_ev ((ad_ok_x1 p))) (.c (@hmax ((ad_ok_x1 p))) (.c (@try0_ev ((ad_ok_x0 p fl))) (.c hl0 (.c hl1 (.c (show vecU s.us=List.map (fun x=>List.map D.p x) (List.map UseT.row s.us) from(by first|assumption|rfl|exact vecU_frz _|exact vecU_map _ _)) .n)))))))) (by rfl) (by rfl)
def regOps:Code→Array Oper
 | .region _ o _=>o
 | _=>#[]
def idOf:Code→Nat
 | .region i _ _=>i
 | _=>0
theorem f19_code:bodyC Tryz.f19=.seq (.region (idOf (cL (bodyC Tryz.f19))) (regOps (cL (bodyC Tryz.f19))) false) (.seq (.region (idOf (cL (cR (bodyC Tryz.f19)))) (regOps (cL (cR (bodyC Tryz.f19)))) false) (cR (cR (bodyC Tryz.f19)))):=by kernel_rfl
def noCall:CallX:=fun _ _ _=>none
theorem noCall_ok:noCall.Ok Tryz.prog Γ0:=fun _ _ _ _ h=>by simp[noCall] at h
def lastOp(o:List Oper):Oper:=o.getLastD default
abbrev a0T(p:ProgT)(l:List AttT):List D:=mkT 84 0 [(0,.agg p.l),(1,rowsD' (l.map AttT.row)),(2,.ref (.ptr 0 0)),(4,.ref (.ptr 1 0)),(5,.ref (.ptr 2 0))]
abbrev a1T(p:ProgT)(l:List AttT):List D:=mkT 84 0 [(0,.agg p.l),(1,rowsD' (l.map AttT.row)),(2,.ref (.ptr 0 0)),(4,.ref (.ptr 1 0)),(5,.ref (.ptr 2 0)),(17,.fn (.func 39) [] [.ref (.ptr 2 0)])]
theorem audit_top{p:ProgT}{l:List AttT}{e:Exit}{s':AS}(hrest:CW Tryz.prog Γ0 (adH p 0) false (cR (cR (bodyC Tryz.f19))) {t:=adT l,h:=adH p 0,m:=[]} e s'):
  TopW Tryz.prog Γ0 (bodyC Tryz.f19) {t:=entryT Tryz.f19 [.agg p.l,rowsD' (l.map AttT.row)],h:=[],m:=[]} e s' (some (39,[.ref (.ptr 2 0)])):=by
 rw[f19_code]
 refine TopW.seq (s1:={t:=a0T p l,h:=adH p 0,m:=[]}) (fun X=>VW.regionX (t':=a0T p l) (h':=adH p 0) (e:=.normal) noCall_ok (by kernel_rfl) ⟨rfl,rfl⟩) ?_
 exact TopW.deferH (os:=(regOps (cL (cR (bodyC Tryz.f19)))).toList.dropLast) (o:=lastOp (regOps (cL (cR (bodyC Tryz.f19)))).toList) (fv:=.tmp 17) (args:=#[]) (ats:=#[]) (t1:=a1T p l) (h1:=adH p 0) (f:=39) (fi:=[]) (ca:=[.ref (.ptr 2 0)]) pok noCall_ok (by kernel_rfl) (by kernel_rfl) (by kernel_rfl) (by kernel_rfl) rfl (by kernel_rfl) (by kernel_rfl) (CW.pre [1,2,4,5] hrest)
theorem dfn_ok:DfF.Ok Tryz.prog Γ0 (runDfO Tryz.prog Γ0 noW 100):=(run_ok pok (W:=noW) (fun _ _ _ _ h=>by simp[noW] at h) 100).2.2.2.2
theorem audit_a{p:ProgT}{l:List AttT}{es:List EdgT}{n ms:Int}{fl:List Int}{cut:List Bool}{s:AuS}
  (hnet:∀h,Ev Tryz.prog Γ0 16 [.agg p.l,rowsD' (l.map AttT.row)] h (.tup [int n,rowsD' (es.map EdgT.row),int 0]) h)
  (hmax:∀h,Ev Tryz.prog Γ0 42 [int n,rowsD' (es.map EdgT.row),int 0,int (IntKind.i64.wrap (n - 1))] h (.tup [rowsD' (inR1 fl),rowsD' (rowsB cut),int 0]) h)
  (hl1:CW Tryz.prog Γ0 (adH p 0) false (.loop (sub Tryz.f19 0)) (auS p l fl 0 cut 0) (.exit 0) (auE p l fl ms cut))
  (hrf:CW Tryz.prog Γ0 (adH p 0) false (sub Tryz.f19 1) {t:=apT,h:=[.var p.l,.var [nq,int 0,nq],.var [int 0],.var [rowsD' (inR1 fl)],.var [.ref (.vec 6 0),int ms,rowsD' (rowsB cut)],.var [int ((l.map AttT.row).length:Int)],.vec [] 0 3,.var p.l,.var [rowsD' (l.map AttT.row)]],m:=[]} .normal {t:=apT,h:=apH p l fl cut s 1 .exhausted [],m:=[9]}) (h:List Blk) :
  Ev Tryz.prog Γ0 19 [.agg p.l,rowsD' (l.map AttT.row)] h (.tup [.agg [rowsD' (s.us.map UseT.row),int s.ms,rowsD' (rowsB cut)],int 0]) h:=by
 have h1:=VRes.of_top (f:=19) (args:=[.agg p.l,rowsD' (l.map AttT.row)]) (dfn:=runDfO Tryz.prog Γ0 noW 100) (h:=[]) (r:=.ret (.tup [.agg [rowsD' (s.us.map UseT.row),int s.ms,rowsD' (rowsB cut)],int 0]) []) (fn:=Tryz.f19) (c:=bodyC Tryz.f19) pok rfl rfl dfn_ok (audit_top (ad_ok hnet hmax hl1 hrf)) (by kernel_rfl)
 exact Ev.frame0 rfl h1.call h
abbrev bT:List D:=mkT 84 0 [(4,.ref (.ptr 1 0)),(5,.ref (.ptr 2 0))]
noncomputable abbrev ad_net_x0(p:ProgT):List Blk:=[.var [strD p.nm,int p.number,int p.uses,int p.earn,int p.num,int p.den,rowsD' (List.map ReqT.row p.reqs)],.var [nq,int 0,nq],.var [int 0]]
theorem ad_net{p:ProgT}{l:List AttT}{es:List EdgT}{n e:Int}(hnet:∀h,Ev Tryz.prog Γ0 16 [.agg p.l,rowsD' (l.map AttT.row)] h (.tup [int n,rowsD' (es.map EdgT.row),int e]) h):(CW Tryz.prog Γ0 (adH p 0) false (cL (cR (cR (bodyC Tryz.f19)))) {t:=adT l,h:=adH p 0,m:=[]} .normal {t:=bT,h:=adH p e,m:=[]}):=by
 exact CW.cast (CW.symX (s':={t:=mkT 84 0 [(4,.ref (.ptr 1 0)),(5,.ref (.ptr 2 0))],h:=[.var [strD p.nm,int p.number,int p.uses,int p.earn,int p.num,int p.den,rowsD' (List.map ReqT.row p.reqs)],.var [nq,int 0,nq],.var [int e]],m:=[]}) (e:=Exit.normal) pok [.st (.mask [4,5])] [.val (D.tup [int n,rowsD' (List.map EdgT.row es),int e])] (by kernel_rfl) (.c (@hnet ((ad_net_x0 p))) .n)) (by rfl) (by rfl)
noncomputable abbrev c3:Code:=cL (cR (cR (cR (bodyC Tryz.f19))))
theorem f19_code3:cR (cR (bodyC Tryz.f19))=.seq (cL (cR (cR (bodyC Tryz.f19)))) (.seq (.region (idOf c3) (regOps c3) false) (cR (cR (cR (cR (bodyC Tryz.f19)))))):=by kernel_rfl
noncomputable def callT:CallX:=callOf (runFO Tryz.prog Γ0 noW 100) (fun _ _ _=>none)
theorem callT_ok:callT.Ok Tryz.prog Γ0:=callOf_ok pok (run_ok pok (W:=noW) (fun _ _ _ _ h=>by simp[noW] at h) 100).2.2.1 (fun _ _ _ _ _ h=>by simp at h)
noncomputable def r3R(p:ProgT)(e:Int):Option (Exit×List D×List Blk):=runOpsX Tryz.prog Γ0 callT [] (regOps c3).toList (regOps c3).toList bT (adH p e)
noncomputable def r3(p:ProgT)(e:Int):Exit×List D×List Blk:=(r3R p e).getD (.normal,[],[])
theorem r3_eq{p:ProgT}{e:Int}(he:e=150∨e=190∨e=180):r3R p e=some (r3 p e):=by
 rcases he with rfl|rfl|rfl<;>kernel_rfl
def isNorm:Exit→Bool
 | .normal=>true
 | _=>false
theorem r3_ne{p:ProgT}{e:Int}(he:e=150∨e=190∨e=180):(r3 p e).1 ≠ .normal:=by
 intro h
 have:isNorm (r3 p e).1=false:=by rcases he with rfl|rfl|rfl<;>kernel_rfl
 rw[h] at this
 cases this
theorem r3_end{p:ProgT}{e:Int}(he:e=150∨e=190∨e=180):topEnd Tryz.prog Tryz.f19 (runDfO Tryz.prog Γ0 noW 100) 0 (r3 p e).1 {t:=(r3 p e).2.1,h:=(r3 p e).2.2,m:=[]} (some (39,[.ref (.ptr 2 0)]))=some (.ret (.tup [.agg [nq,int 0,nq],int e]) []):=by
 rcases he with rfl|rfl|rfl<;>kernel_rfl
theorem audit_bad{p:ProgT}{l:List AttT}{es:List EdgT}{n e:Int}(he:e=150∨e=190∨e=180)(hnet:∀h,Ev Tryz.prog Γ0 16 [.agg p.l,rowsD' (l.map AttT.row)] h (.tup [int n,rowsD' (es.map EdgT.row),int e]) h)(h:List Blk):
  Ev Tryz.prog Γ0 19 [.agg p.l,rowsD' (l.map AttT.row)] h (.tup [.agg [nq,int 0,nq],int e]) h:=by
 have hrest:CW Tryz.prog Γ0 (adH p 0) false (cR (cR (bodyC Tryz.f19))) {t:=adT l,h:=adH p 0,m:=[]} (r3 p e).1 {t:=(r3 p e).2.1,h:=(r3 p e).2.2,m:=[]}:=by
  rw[f19_code3]
  exact CW.seq (ad_net hnet) (CW.out (r3_ne he) (CW.regionX (s:={t:=bT,h:=adH p e,m:=[]}) callT_ok (r3_eq he)))
 have h1:=VRes.of_top (f:=19) (args:=[.agg p.l,rowsD' (l.map AttT.row)]) (dfn:=runDfO Tryz.prog Γ0 noW 100) (h:=[]) (r:=.ret (.tup [.agg [nq,int 0,nq],int e]) []) (fn:=Tryz.f19) (c:=bodyC Tryz.f19) pok rfl rfl dfn_ok (audit_top hrest) (r3_end he)
 exact Ev.frame0 rfl h1.call h
structure EdgG (n:Nat) (x:EdgT):Prop where
 f0:0≤x.frm
 ft:x.frm<x.to
 tn:x.to<n
 m0:0≤x.most
 m1:x.most≤1073741824
structure NetOk (p:ProgT) (l:List AttT):Prop where
 pe:pErr p=0
 ae:aErr l=0
 rs:p.reqs.length≤6
 ls:l.length≤9
theorem bif0{b:Bool}{x:Int}(h:(bif b then x else 0)=0)(hx:x ≠ 0):b=false:=by cases b<;>simp_all
theorem ck_all:∀(rs:List ReqT),(match forL ckF rs () with | .inl _=>(0:Int) | .inr _=>190)=0→∀q∈rs,reqB q=true
 | [],_,_,hq=>by simp at hq
 | q::rs,h,x,hx=>by
  simp only[forL,ckF] at h
  cases hq:reqB q with
  | false=>rw[hq] at h;simp at h
  | true =>
   rw[hq] at h
   simp only[cond_true] at h
   rcases List.mem_cons.1 hx with rfl|hx
   ·exact hq
   ·exact ck_all rs h x hx
section
variable {p:ProgT} {l:List AttT}
theorem NetOk.req(h:NetOk p l):1≤p.uses∧p.uses≤4∧∀q∈p.reqs,1≤q.credits∧q.credits≤10000:=by
 have h1:=h.pe
 unfold pErr at h1
 cases hh:pHead p with
 | true=>rw[hh] at h1;simp at h1
 | false =>
  rw[hh] at h1
  simp only[cond_false] at h1
  have h2:=ck_all _ h1
  unfold pHead at hh
  simp only[Bool.or_eq_false_iff,Bool.not_eq_false',inB,Bool.and_eq_true,decide_eq_true_eq] at hh
  refine⟨by omega,by omega,fun q hq=>?_⟩
  have h3:=h2 q hq
  unfold reqB at h3
  simp only[inB,Bool.and_eq_true,decide_eq_true_eq] at h3
  omega
theorem NetOk.att(h:NetOk p l):∀a∈l,0≤a.credits∧a.credits≤60:=by
 have h1:=bif0 h.ae (by decide)
 intro a ha
 have h2:=List.any_eq_false.1 h1 a ha
 simp only[Bool.not_eq_true,Bool.not_eq_false'] at h2
 unfold attB at h2
 simp only[inB,Bool.and_eq_true,decide_eq_true_eq] at h2
 omega
end
theorem elR_mem(a:AttT):∀(rs:List ReqT) (s:List Int×Int) (i:Nat),s.2=i→(∀k∈s.1,0≤k∧k<i)→∀k∈(rs.foldl (elF a) s).1,0≤k∧k<(i+rs.length:Nat)
 | [],s,i,_,h,k,hk=>by simpa using h k hk
 | q::rs,s,i,hi,h,k,hk=>by
  rw[List.foldl_cons] at hk
  have:=elR_mem a rs (elF a s q) (i+1) (by simp[elF,hi]) (fun x hx=>by
   unfold elF at hx
   cases hb:elB q a with
   | true =>
    rw[hb] at hx
    simp only[cond_true,List.mem_append,List.mem_singleton] at hx
    rcases hx with hx|rfl
    ·have:=h x hx;omega
    ·omega
   | false =>
    rw[hb] at hx
    have:=h x hx;omega) k hk
  simp only[List.length_cons];omega
section
variable {p:ProgT} {l:List AttT}
theorem n1_good(h:NetOk p l){n:Nat}(hn:n=2+l.length+p.reqs.length):∀(bs:List AttT) (s:List EdgT×Int) (i:Nat),s.2=i→i+bs.length=l.length→(∀a∈bs,0≤a.credits∧a.credits≤60)→(∀x∈s.1,EdgG n x)→∀x∈(bs.foldl (n1F p) s).1,EdgG n x
 | [],s,i,_,_,_,hs=>hs
 | a::bs,s,i,hi,hl,ha,hs=>by
  rw[List.foldl_cons]
  simp only[List.length_cons] at hl
  have hls:=h.ls
  have hrs:=h.rs
  obtain⟨u1,u2,_⟩:=h.req
  obtain⟨c0,c1⟩:=ha a (by simp)
  have hm0:0≤a.credits*p.uses:=Int.mul_nonneg c0 (by omega)
  have hm1:a.credits*p.uses≤60*4:=Int.mul_le_mul c1 u2 (by omega) (by omega)
  refine n1_good h hn bs (n1F p s a) (i+1) (by simp[n1F,hi]) (by omega) (fun x hx=>ha x (by simp[hx])) ?_
  intro x hx
  simp only[n1F,List.mem_append,List.mem_singleton] at hx
  rcases hx with hx|rfl
  ·exact hs x hx
  ·have e1:IntKind.i64.wrap (1+s.2)=1+s.2:=wrap_i64 (by omega) (by omega)
   have e2:IntKind.i64.wrap (a.credits*p.uses)=a.credits*p.uses:=wrap_i64 (by omega) (by omega)
   refine⟨?_,?_,?_,?_,?_⟩<;>simp only[e1,e2]<;>omega
theorem mid_eq(h:NetOk p l):midR l=1+(l.length:Int):=by
 have:=h.ls
 unfold midR
 rw[List.length_map]
 exact wrap_i64 (by omega) (by omega)
theorem sink_eq(h:NetOk p l):sinkR p l=1+(l.length:Int)+(p.reqs.length:Int):=by
 have:=h.ls
 have:=h.rs
 unfold sinkR
 rw[mid_eq h,List.length_map]
 exact wrap_i64 (by omega) (by omega)
theorem n2_good(h:NetOk p l){n:Nat}(hn:n=2+l.length+p.reqs.length){i:Nat}(hi:i<l.length){cr:Int}(c0:0≤cr)(c1:cr≤60):∀(ks:List Int) (es:List EdgT),(∀k∈ks,0≤k∧k<p.reqs.length)→(∀x∈es,EdgG n x)→∀x∈ks.foldl (n2F (midR l) i cr) es,EdgG n x
 | [],es,_,hs=>hs
 | k::ks,es,hk,hs=>by
  have hls:=h.ls
  have hrs:=h.rs
  rw[List.foldl_cons]
  refine n2_good h hn hi c0 c1 ks _ (fun x hx=>hk x (by simp[hx])) ?_
  intro x hx
  simp only[n2F,List.mem_append,List.mem_singleton] at hx
  rcases hx with hx|rfl
  ·exact hs x hx
  ·obtain⟨k0,k1⟩:=hk k (by simp)
   have e1:IntKind.i64.wrap (1+(i:Int))=1+i:=wrap_i64 (by omega) (by omega)
   have e2:IntKind.i64.wrap (midR l+k)=1+l.length+k:=by rw[mid_eq h];exact wrap_i64 (by omega) (by omega)
   refine⟨?_,?_,?_,?_,?_⟩<;>simp only[e1,e2]<;>omega
theorem n3_good(h:NetOk p l){n:Nat}(hn:n=2+l.length+p.reqs.length):∀(bs:List AttT) (s:List EdgT×Int) (i:Nat),s.2=i→i+bs.length=l.length→(∀a∈bs,0≤a.credits∧a.credits≤60)→(∀x∈s.1,EdgG n x)→∀x∈(bs.foldl (n3F p (midR l)) s).1,EdgG n x
 | [],s,i,_,_,_,hs=>hs
 | a::bs,s,i,hi,hl,ha,hs=>by
  rw[List.foldl_cons]
  simp only[List.length_cons] at hl
  obtain⟨c0,c1⟩:=ha a (by simp)
  refine n3_good h hn bs (n3F p (midR l) s a) (i+1) (by simp[n3F,hi]) (by omega) (fun x hx=>ha x (by simp[hx])) ?_
  simp only[n3F,hi]
  exact n2_good h hn (by omega) c0 c1 _ _ (fun k hk=>by have:=elR_mem a p.reqs ([],0) 0 rfl (by simp) k hk;simpa using this) hs
theorem n4_good(h:NetOk p l){n:Nat}(hn:n=2+l.length+p.reqs.length):∀(qs:List ReqT) (s:List EdgT×Int) (i:Nat),s.2=i→i+qs.length=p.reqs.length→(∀q∈qs,1≤q.credits∧q.credits≤10000)→(∀x∈s.1,EdgG n x)→∀x∈(qs.foldl (n4F (midR l) (sinkR p l)) s).1,EdgG n x
 | [],s,i,_,_,_,hs=>hs
 | q::qs,s,i,hi,hl,hq,hs=>by
  rw[List.foldl_cons]
  simp only[List.length_cons] at hl
  have hls:=h.ls
  have hrs:=h.rs
  obtain⟨c0,c1⟩:=hq q (by simp)
  refine n4_good h hn qs (n4F (midR l) (sinkR p l) s q) (i+1) (by simp[n4F,hi]) (by omega) (fun x hx=>hq x (by simp[hx])) ?_
  intro x hx
  simp only[n4F,List.mem_append,List.mem_singleton] at hx
  rcases hx with hx|rfl
  ·exact hs x hx
  ·have e2:IntKind.i64.wrap (midR l+s.2)=1+l.length+s.2:=by rw[mid_eq h];exact wrap_i64 (by omega) (by omega)
   have e3:=sink_eq h
   refine⟨?_,?_,?_,?_,?_⟩<;>simp only[e2,e3]<;>omega
theorem net_good(h:NetOk p l):∀x∈net3 p l,EdgG (2+l.length+p.reqs.length) x:=by
 have h1:∀x∈net1 p l,EdgG (2+l.length+p.reqs.length) x:=n1_good h rfl l ([],0) 0 rfl (by simp) h.att (by simp)
 have h2:∀x∈net2 p l,EdgG (2+l.length+p.reqs.length) x:=n3_good h rfl l (net1 p l,0) 0 rfl (by simp) h.att h1
 exact n4_good h rfl p.reqs (net2 p l,0) 0 rfl (by simp) h.req.2.2 h2
end
theorem EdgG.inn{n:Nat}{x:EdgT}(h:EdgG n x):EdgIn n x:=⟨h.f0,by have:=h.ft;have:=h.tn;omega,by have:=h.f0;have:=h.ft;omega,h.tn⟩
theorem EdgG.ok{n:Nat}{x:EdgT}(h:EdgG n x):edgBad (n:Int) x=false:=by
 obtain⟨a,b,c,d,e⟩:=h
 unfold edgBad nodB
 simp only[Bool.or_eq_false_iff,Bool.not_eq_false',Bool.and_eq_true,decide_eq_true_eq,decide_eq_false_iff_not,beq_eq_false_iff_ne]
 omega
theorem n3F_len{p:ProgT}{mid:Int}:∀(bs:List AttT) (s:List EdgT×Int),(bs.foldl (n3F p mid) s).1.length=s.1.length+pairsN p bs
 | [],s=>by simp[pairsN]
 | a::bs,s=>by
  rw[List.foldl_cons,n3F_len bs]
  simp only[n3F,n2_len,pairsN,List.map_cons,List.sum_cons]
  omega
theorem n4F_len{mid sink:Int}:∀(qs:List ReqT) (s:List EdgT×Int),(qs.foldl (n4F mid sink) s).1.length=s.1.length+qs.length
 | [],s=>by simp
 | q::qs,s=>by
  rw[List.foldl_cons,n4F_len qs]
  simp only[n4F,List.length_append,List.length_cons,List.length_nil]
  omega
theorem pairsN_le(p:ProgT):∀(bs:List AttT),pairsN p bs≤bs.length*p.reqs.length
 | []=>by simp[pairsN]
 | a::bs=>by
  have h1:=pairsN_le p bs
  have h2:=elR_len p a
  simp only[pairsN,List.map_cons,List.sum_cons,List.length_cons,Nat.add_mul,Nat.one_mul] at h1 ⊢
  omega
section
variable {p:ProgT} {l:List AttT}
theorem net3_length:(net3 p l).length=l.length+pairsN p l+p.reqs.length:=by
 unfold net3 net2
 rw[n4F_len,n3F_len,net1_len]
abbrev nN(p:ProgT)(l:List AttT):Nat:=2+l.length+p.reqs.length
theorem NetOk.size(h:NetOk p l):(net3 p l).length≤69:=by
 have h1:=pairsN_le p l
 have h2:l.length*p.reqs.length≤9*6:=Nat.mul_le_mul h.ls h.rs
 have h3:=h.ls
 have h4:=h.rs
 rw[net3_length];omega
theorem NetOk.sums(h:NetOk p l):(sumsR l).2.2=0:=by
 unfold sumsR
 rw[h.ae];rfl
theorem NetOk.net(h:NetOk p l):netR p l=((nN p l:Int),net3 p l,0):=by
 have hN:nN p l=2+l.length+p.reqs.length:=rfl
 have h1:=h.ls
 have h2:=h.rs
 have e:IntKind.i64.wrap (sinkR p l+1)=(nN p l:Int):=by rw[sink_eq h,wrap_i64 (by omega) (by omega)];omega
 show netX p l (sumsR l).2.2=_
 unfold netX
 rw[h.pe,h.sums,e]
 rfl
theorem NetOk.chk(h:NetOk p l):chkE (nN p l:Int) (net3 p l) 0 ((nN p l:Int) - 1)=0:=by
 have hN:nN p l=2+l.length+p.reqs.length:=rfl
 have h1:=h.ls
 have h2:=h.rs
 have h3:=h.size
 have hb:(net3 p l).any (edgBad (nN p l:Int))=false:=List.any_eq_false.2 fun x hx=>by rw[(net_good h x hx).ok];simp
 have hc:chkR (nN p l:Int) (net3 p l)=0:=by
  unfold chkR
  have:(Dd ((nN p l:Int)<2)||Dd ((nN p l:Int)>4096)||Dd ((((net3 p l).map EdgT.row).length:Int)>65536))=false:=by
   simp only[Bool.or_eq_false_iff,decide_eq_false_iff_not,List.length_map];omega
  rw[this,hb]
 unfold chkE
 rw[hc]
 have:endsBad (nN p l:Int) 0 ((nN p l:Int) - 1)=false:=by
  unfold endsBad
  simp only[Bool.or_eq_false_iff,decide_eq_false_iff_not,beq_eq_false_iff_ne];omega
 rw[this]
 rfl
def auR(p:ProgT)(l:List AttT)(fl:List Int):AuS:=(l.foldl (a3F p fl) (⟨[],p.reqs.foldl auF 0,((l.map AttT.row).length:Int)⟩,0)).1
theorem audit_ok(hp:p.ok)(h:NetOk p l){j:Nat}{g:List Int×List Int}(hR:MaxR (adjR (nN p l) (net3 p l)) (net3 p l) (nN p l) 0 ((nN p l:Int) - 1) j (List.replicate (net3 p l).length 0) g)(hg:g.1.length=(net3 p l).length)(h0:List Blk):
  Ev Tryz.prog Γ0 19 [.agg p.l,rowsD' (l.map AttT.row)] h0 (.tup [.agg [rowsD' ((auR p l g.1).us.map UseT.row),int (auR p l g.1).ms,rowsD' (rowsB (cutR g.2))],int 0]) h0:=by
 have h1:=h.ls
 have h2:=h.rs
 have h3:=h.size
 have hN:nN p l=2+l.length+p.reqs.length:=rfl
 have hw:IntKind.i64.wrap ((nN p l:Int) - 1)=(nN p l:Int) - 1:=wrap_i64 (by omega) (by omega)
 refine audit_a (n:=(nN p l:Int)) (es:=net3 p l) (ms:=p.reqs.foldl auF 0) (fl:=g.1) (cut:=cutR g.2) (s:=auR p l g.1) (fun h=>?_) (fun h=>?_) (au_cw (by omega)) ?_ h0
 ·have:=net_ev hp (l:=l) (by omega) (by omega) h
  rw[NetOk.net ‹NetOk p l›] at this
  exact this
 ·rw[hw]
  refine maxR_ev (n:=nN p l) (by omega) (by omega) (by omega) (fun x hx=>(net_good ‹NetOk p l› x hx).inn) ⟨by omega,by simp;omega⟩ ⟨by omega,by omega⟩ (fun h=>?_) hR h
  have:=chke_ev (n:=(nN p l:Int)) (a:=0) (b:=(nN p l:Int) - 1) (l:=net3 p l) (by unfold Short;omega) h
  rw[NetOk.chk ‹NetOk p l›] at this
  exact this
 ·exact ap_rf_a (s:=⟨[],p.reqs.foldl auF 0,((l.map AttT.row).length:Int)⟩) (c:=l.length) hp (by omega) (by omega) (by simp) (by rw[hg,net3_length];omega) (by omega) rfl
end
abbrev toS(p:ProgT)(n i:Int):AS:={t:=mkT 21 0 [(1,.ref (.ptr 0 0)),(3,int n),(4,int i)],h:=[.var p.l],m:=[]}
theorem to_body{p:ProgT}{q:ReqT}{n:Int}{i:Nat}(hr:RowAt (i:Int) (p.reqs.map ReqT.row) q.row 6)(hlt:Dd ((i:Int)<((p.reqs.map ReqT.row).length:Int))=true)(hw:IntKind.i64.wrap ((i:Int)+1)=((i+1:Nat):Int)):(CW Tryz.prog Γ0 [] false (sub Tryz.f23 0) (toS p n i) .normal (toS p (auF n q) ((i+1:Nat):Int))):=by
 refine CW.cast (CW.symX (s':={t:=mkT 21 0 [(1,.ref (.ptr 0 0)),(3,int (IntKind.wrap IntKind.i64 (n+q.credits))),(4,int (IntKind.wrap IntKind.i64 ((↑i:Int)+1)))],h:=[.var [strD p.nm,int p.number,int p.uses,int p.earn,int p.num,int p.den,rowsD' (List.map ReqT.row p.reqs)]],m:=[]}) (e:=Exit.normal) pok [.st (.mask [1,3,4])] [.b true,.row [vs q.nm,vi q.credits,vi q.grade,Dp.v (Value.bool q.home),Dp.sl q.names,Dp.sl (inR1 q.frm)]] (by kernel_rfl) (.c hlt (.c hr .n))) ?_ ?_<;>(first|rfl|(rw[hw]<;>rfl))
theorem to_last{p:ProgT}{n:Int}{i:Nat}(hlt:Dd ((i:Int)<((p.reqs.map ReqT.row).length:Int))=false):(CW Tryz.prog Γ0 [] false (sub Tryz.f23 0) (toS p n i) (.exit 0) {t:=mkT 21 0 [(3,int n)],h:=[.var p.l],m:=[]}):=by
 exact CW.cast (CW.symX (s':={t:=mkT 21 0 [(3,int n)],h:=[.var [strD p.nm,int p.number,int p.uses,int p.earn,int p.num,int p.den,rowsD' (List.map ReqT.row p.reqs)]],m:=[]}) (e:=Exit.exit 0) pok [.st (.mask [3])] [.b false] (by kernel_rfl) (.c hlt .n)) (by rfl) (by rfl)
def totR(p:ProgT):Int:=p.reqs.foldl auF 0
theorem to_cw{p:ProgT}(hn:p.reqs.length≤1000):CW Tryz.prog Γ0 [] false (.loop (sub Tryz.f23 0)) (toS p 0 0) (.exit 0) {t:=mkT 21 0 [(3,int (totR p))],h:=[.var p.l],m:=[]}:=by
 have:=CW.each (P:=Tryz.prog) (Γ:=Γ0) (h0:=[]) (rd:=false) (c:=sub Tryz.f23 0) (σ:=Int) (ρ:=Empty) p.reqs (fun q s=>.inl (auF s q))
  (fun i s=>toS p s (i:Int)) (.exit 0) (fun s=>{t:=mkT 21 0 [(3,int s)],h:=[.var p.l],m:=[]}) (fun r=>r.elim) (fun _ _=>True) (by simp) (fun r=>r.elim) ?_ ?_ 0 trivial
 ·rw[forL_fold] at this
  exact this
 ·intro i q s hq _
  have hi:=(List.getElem?_eq_some_iff.1 hq).1
  exact⟨fun _ _=>trivial,to_body (rowAt hq rfl) (lt_len ReqT.row hi) (wrap_succ hi (by omega))⟩
 ·intro s _
  exact to_last (ge_len ReqT.row p.reqs)
theorem tot_ev{p:ProgT}(hn:p.reqs.length≤1000)(h:List Blk):(Ev Tryz.prog Γ0 23 [.agg p.l] h (int (totR p)) h):=by
 have hl0:=(@to_cw (p) (hn))
 exact Ev.castH (Ev.sym0 (d:=int (totR p)) pok [.sum [1,3,4] (Exit.exit 0) {t:=mkT 21 0 [(3,int (totR p))],h:=[.var [strD p.nm,int p.number,int p.uses,int p.earn,int p.num,int p.den,rowsD' (List.map ReqT.row p.reqs)]],m:=[]}] (by kernel_rfl) (.c hl0 .n) rfl rfl h) (by rfl) (by rfl)
def asF(n:Int)(u:UseT):Int:=IntKind.i64.wrap (n+u.cr)
def asgR(us:List UseT):Int:=us.foldl asF 0
def b2F(i n:Int)(u:UseT):Int:=bif u.att==i then IntKind.i64.wrap (n+u.cr) else n
def sumA(us:List UseT)(i:Int):Int:=us.foldl (b2F i) 0
def b4F(i n:Int)(u:UseT):Int:=bif u.req==i then IntKind.i64.wrap (n+u.cr) else n
def sumQ(us:List UseT)(i:Int):Int:=us.foldl (b4F i) 0
structure UseOk (p:ProgT) (l:List AttT) (u:UseT):Prop where
 a0:0≤u.att
 q0:0≤u.req
 c0:1≤u.cr
 ex:∃a q,l[u.att.toNat]? = some a∧p.reqs[u.req.toNat]? = some q∧u.cr≤a.credits∧elB q a=true
def useLt(w u:UseT):Prop:=w.att<u.att∨w.att=u.att∧w.req<u.req
def prs(p:ProgT):List AttT→Int→List (Int×Int×Int)
 | [],_=>[]
 | a::l,i=>(elR p a).map (fun k=>(i,k,a.credits))++prs p l (i+1)
theorem prs_len(p:ProgT):∀(l:List AttT) (i:Int),(prs p l i).length=pairsN p l
 | [],_=>rfl
 | a::l,i=>by
  simp only[prs,List.length_append,List.length_map,prs_len p l,pairsN,List.map_cons,List.sum_cons]
def prE(mid:Int)(t:Int×Int×Int):EdgT:=⟨IntKind.i64.wrap (1+t.1),IntKind.i64.wrap (mid+t.2.1),t.2.2⟩
theorem n2F_map(mid i cr:Int):∀(ks:List Int) (es:List EdgT),ks.foldl (n2F mid i cr) es=es++ks.map fun k=>prE mid (i,k,cr)
 | [],es=>by simp
 | k::ks,es=>by
  rw[List.foldl_cons,n2F_map mid i cr ks]
  simp[n2F,prE]
theorem n3F_prs(p:ProgT)(mid:Int):∀(l:List AttT) (es:List EdgT) (i:Int),(l.foldl (n3F p mid) (es,i)).1=es++(prs p l i).map (prE mid)
 | [],es,i=>by simp[prs]
 | a::l,es,i=>by
  rw[List.foldl_cons]
  show(l.foldl (n3F p mid) ((elR p a).foldl (n2F mid i a.credits) es,i+1)).1=_
  rw[n3F_prs p mid l,n2F_map]
  simp only[prs,List.map_append,List.map_map,List.append_assoc]
  rfl
def apT2(fl:List Int)(s:AuS)(t:Int×Int×Int):AuS:=apG fl t.1 s t.2.1
theorem a3F_prs(p:ProgT)(fl:List Int):∀(l:List AttT) (s:AuS) (i:Int),(l.foldl (a3F p fl) (s,i)).1=(prs p l i).foldl (apT2 fl) s
 | [],s,i=>rfl
 | a::l,s,i=>by
  rw[List.foldl_cons]
  show(l.foldl (a3F p fl) ((elR p a).foldl (apG fl i) s,i+1)).1=_
  rw[a3F_prs p fl l]
  simp only[prs,List.foldl_append,List.foldl_map]
  rfl
def useL(fl:List Int):List (Int×Int×Int)→Nat→List UseT
 | [],_=>[]
 | t::ts,c=>match Dd (fl.getD c 0>0) with
  | true=>⟨t.1,t.2.1,fl.getD c 0⟩::useL fl ts (c+1)
  | false=>useL fl ts (c+1)
theorem apT2_us(fl:List Int):∀(ts:List (Int×Int×Int)) (s:AuS) (c:Nat),s.at_=c→c+ts.length≤1000000→(ts.foldl (apT2 fl) s).us=s.us++useL fl ts c
 | [],s,c,_,_=>by simp[useL]
 | t::ts,s,c,h,hc=>by
  simp only[List.length_cons] at hc
  rw[List.foldl_cons,apT2_us fl ts (apT2 fl s t) (c+1) (apG_at h (by omega)) (by omega)]
  have e:s.at_.toNat=c:=by rw[h,Int.toNat_natCast]
  unfold apT2 apG apF
  rw[e]
  simp only[useL]
  cases hg:Dd (fl.getD c 0>0) with
  | true=>simp
  | false=>rfl
theorem useL_mem(fl:List Int):∀(ts:List (Int×Int×Int)) (c:Nat) (u:UseT),u∈useL fl ts c→∃(j:Nat) (t:Int×Int×Int),ts[j]? = some t∧u.att=t.1∧u.req=t.2.1∧u.cr=fl.getD (c+j) 0∧0<u.cr
 | [],_,u,h=>by simp[useL] at h
 | t::ts,c,u,h=>by
  simp only[useL] at h
  cases hg:Dd (fl.getD c 0>0) with
  | true =>
   rw[hg] at h
   rcases List.mem_cons.1 h with rfl|h
   ·exact⟨0,t,rfl,rfl,rfl,rfl,by simpa using hg⟩
   ·obtain⟨j,t',a,b,c',d,e⟩:=useL_mem fl ts (c+1) u h
    exact⟨j+1,t',by simpa using a,b,c',by rw[d];congr 1;omega,e⟩
  | false =>
   rw[hg] at h
   obtain⟨j,t',a,b,c',d,e⟩:=useL_mem fl ts (c+1) u h
   exact⟨j+1,t',by simpa using a,b,c',by rw[d];congr 1;omega,e⟩
end Go.Vi
