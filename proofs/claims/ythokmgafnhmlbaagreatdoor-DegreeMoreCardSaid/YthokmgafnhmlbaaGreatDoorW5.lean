/- DegreeMore: part of the proof: contracts of the functions that the law reaches, and the law. No conditions beyond the given statement's own. -/
import Derived.Test.YthokmgafnhmlbaaGreatDoorW4
open Decidable renaming decide → Dd
open Go Go.Proofs
namespace Go.Vi
set_option maxRecDepth 100000
set_option maxHeartbeats 4000000
theorem elF_mem(a:AttT):∀(qs:List ReqT) (s:List Int×Int) (k:Int),k∈(qs.foldl (elF a) s).1→k∈s.1∨∃(j:Nat) (q:ReqT),qs[j]? = some q∧k=s.2+j∧elB q a=true
 | [],s,k,h=>.inl h
 | q::qs,s,k,h=>by
  rw[List.foldl_cons] at h
  rcases elF_mem a qs (elF a s q) k h with h|⟨j,q',h1,h2,h3⟩
  ·unfold elF at h
   cases hb:elB q a with
   | true =>
    rw[hb] at h
    simp only[cond_true,List.mem_append,List.mem_singleton] at h
    rcases h with h|rfl
    ·exact .inl h
    ·exact .inr ⟨0,q,rfl,by simp,hb⟩
   | false=>rw[hb] at h;exact .inl h
  ·exact .inr ⟨j+1,q',by simpa using h1,by rw[h2];simp only[elF];omega,h3⟩
theorem elF_pw(a:AttT):∀(qs:List ReqT) (s:List Int×Int),s.1.Pairwise (· < ·)→(∀k∈s.1,k<s.2)→(qs.foldl (elF a) s).1.Pairwise (· < ·)
 | [],s,h,_=>h
 | q::qs,s,h,hk=>by
  rw[List.foldl_cons]
  refine elF_pw a qs (elF a s q) ?_ ?_
  ·unfold elF
   cases elB q a with
   | true =>
    simp only[cond_true]
    rw[List.pairwise_append]
    exact⟨h,List.pairwise_singleton _ _,fun x hx y hy=>by rw[List.mem_singleton.1 hy];exact hk x hx⟩
   | false=>exact h
  ·intro k hm
   unfold elF at hm ⊢
   cases hb:elB q a with
   | true =>
    rw[hb] at hm
    simp only[cond_true,List.mem_append,List.mem_singleton] at hm
    rcases hm with hm|rfl
    ·have:=hk k hm;simp only;omega
    ·simp only;omega
   | false =>
    rw[hb] at hm
    have:=hk k hm;simp only;omega
theorem prs_mem(p:ProgT):∀(l:List AttT) (i:Int) (t:Int×Int×Int),t∈prs p l i→∃(j:Nat) (a:AttT),l[j]? = some a∧t.1=i+j∧t.2.2=a.credits∧t.2.1∈elR p a
 | [],_,_,h=>by simp[prs] at h
 | a::l,i,t,h=>by
  simp only[prs,List.mem_append,List.mem_map] at h
  rcases h with ⟨k,hk,rfl⟩|h
  ·exact⟨0,a,rfl,by simp,rfl,hk⟩
  ·obtain⟨j,b,h1,h2,h3⟩:=prs_mem p l (i+1) t h
   exact⟨j+1,b,by simpa using h1,by rw[h2];omega,h3⟩
def prLt(s t:Int×Int×Int):Prop:=s.1<t.1∨s.1=t.1∧s.2.1<t.2.1
theorem prs_pw(p:ProgT):∀(l:List AttT) (i:Int),(prs p l i).Pairwise prLt
 | [],_=>List.Pairwise.nil
 | a::l,i=>by
  simp only[prs]
  rw[List.pairwise_append]
  refine⟨?_,prs_pw p l (i+1),?_⟩
  ·rw[List.pairwise_map]
   refine List.Pairwise.imp (fun h=>.inr ⟨rfl,h⟩) (elF_pw a p.reqs ([],0) List.Pairwise.nil (by simp))
  ·intro s hs t ht
   obtain⟨k,_,rfl⟩:=List.mem_map.1 hs
   obtain⟨j,b,_,h2,_⟩:=prs_mem p l (i+1) t ht
   exact .inl (by rw[h2];simp only;omega)
theorem useL_pw(fl:List Int):∀(ts:List (Int×Int×Int)) (c:Nat),ts.Pairwise prLt→(useL fl ts c).Pairwise useLt
 | [],_,_=>List.Pairwise.nil
 | t::ts,c,h=>by
  obtain⟨h1,h2⟩:=List.pairwise_cons.1 h
  simp only[useL]
  cases Dd (fl.getD c 0>0) with
  | true =>
   refine List.pairwise_cons.2 ⟨fun u hu=>?_,useL_pw fl ts (c+1) h2⟩
   obtain⟨j,t',a,b,c',_,_⟩:=useL_mem fl ts (c+1) u hu
   have:=h1 t' (List.mem_of_getElem? a)
   unfold prLt at this
   unfold useLt
   rw[b,c']
   exact this
  | false=>exact useL_pw fl ts (c+1) h2
theorem pw_next{us:List UseT}(h:us.Pairwise useLt)(i:Nat)(w u:UseT)(hw:us[i]? = some w)(hu:us[i+1]? = some u):useLt w u:=by
 obtain⟨a1,a2⟩:=List.getElem?_eq_some_iff.1 hw
 obtain⟨b1,b2⟩:=List.getElem?_eq_some_iff.1 hu
 have:=List.pairwise_iff_getElem.1 h i (i+1) a1 b1 (by omega)
 rw[a2,b2] at this
 exact this
theorem n4F_pre{mid sink:Int}:∀(qs:List ReqT) (s:List EdgT×Int),∃r,(qs.foldl (n4F mid sink) s).1=s.1++r
 | [],s=>⟨[],by simp⟩
 | q::qs,s=>by
  obtain⟨r,hr⟩:=n4F_pre (mid:=mid) (sink:=sink) qs (n4F mid sink s q)
  refine⟨⟨IntKind.i64.wrap (mid+s.2),sink,q.credits⟩::r,?_⟩
  rw[List.foldl_cons,hr];simp only[n4F,List.append_assoc,List.singleton_append]
theorem net3_pair{p:ProgT}{l:List AttT}{j:Nat}{t:Int×Int×Int}(ht:(prs p l 0)[j]? = some t):(net3 p l).getD (l.length+j) ⟨0,0,0⟩=prE (midR l) t:=by
 obtain⟨r,hr⟩:=n4F_pre (mid:=midR l) (sink:=sinkR p l) p.reqs (net2 p l,0)
 have h2:net2 p l=net1 p l++(prs p l 0).map (prE (midR l)):=n3F_prs p (midR l) l (net1 p l) 0
 have hj:=(List.getElem?_eq_some_iff.1 ht).1
 unfold net3
 rw[hr]
 simp only[h2,List.getD,List.append_assoc]
 rw[List.getElem?_append_right (by rw[net1_len];omega),net1_len,Nat.add_sub_cancel_left,List.getElem?_append_left (by simpa using hj)]
 simp[ht]
theorem useL_ok{p:ProgT}{l:List AttT}{fl:List Int}(hf:FlOk (net3 p l) fl):∀u∈useL fl (prs p l 0) l.length,UseOk p l u:=by
 intro u hu
 obtain⟨j,t,h1,h2,h3,h4,h5⟩:=useL_mem fl _ _ u hu
 obtain⟨i,a,g1,g2,g3,g4⟩:=prs_mem p l 0 t (List.mem_of_getElem? h1)
 have hj:=(List.getElem?_eq_some_iff.1 h1).1
 rw[prs_len] at hj
 have hm:=hf.hi (l.length+j) (by rw[net3_length];omega)
 rw[net3_pair h1] at hm
 rcases elF_mem a p.reqs ([],0) t.2.1 g4 with h|⟨k,q,k1,k2,k3⟩
 ·simp at h
 ·simp only[prE] at hm
  refine⟨by rw[h2,g2];omega,by rw[h3,k2];simp,by omega,a,q,?_,?_,by rw[h4,←g3];exact hm,k3⟩
  ·rw[h2,g2];simpa using g1
  ·rw[h3,k2];simpa using k1
theorem outL_app:∀(es1 es2:List EdgT) (fs:List Int) (w:Int),es1.length≤fs.length→outL (es1++es2) fs w=outL es1 (fs.take es1.length) w+outL es2 (fs.drop es1.length) w
 | [],es2,fs,w,_=>by simp[outL]
 | x::es1,es2,[],w,h=>by simp at h
 | x::es1,es2,f::fs,w,h=>by
  simp only[List.cons_append,outL,List.length_cons,List.take_succ_cons,List.drop_succ_cons]
  rw[outL_app es1 es2 fs w (by simpa using h)]
  omega
def sP(i:Int):List (Int×Int×Int)→List Int→Int
 | t::ts,f::gs=>(if t.1=i then f else 0)+sP i ts gs
 | _,_=>0
theorem sP_nil{i:Int}{gs:List Int}:sP i [] gs=0:=by cases gs<;>rfl
theorem outL_sP{mid i:Int}:∀(ts:List (Int×Int×Int)) (gs:List Int),(∀t∈ts,IntKind.i64.wrap (1+t.1)=1+t.1∧IntKind.i64.wrap (mid+t.2.1) ≠ 1+i)→outL (ts.map (prE mid)) gs (1+i)=sP i ts gs
 | [],gs,_=>by cases gs<;>rfl
 | t::ts,[],_=>rfl
 | t::ts,f::gs,h=>by
  obtain⟨h1,h2⟩:=h t (by simp)
  simp only[List.map_cons,outL,sP,prE]
  rw[outL_sP ts gs (fun x hx=>h x (by simp[hx])),if_neg h2,h1]
  by_cases e:t.1=i
  ·rw[if_pos e,if_pos (by omega)];omega
  ·rw[if_neg e,if_neg (by omega)];omega
theorem b2_sum{i:Int}:∀(ts:List (Int×Int×Int)) (fl:List Int) (c:Nat) (n:Int),c+ts.length≤fl.length→(∀j,0≤fl.getD j 0∧fl.getD j 0≤1073741824)→0≤n→n+ts.length*1073741824≤4611686018427387904 →
  (useL fl ts c).foldl (b2F i) n=n+sP i ts (fl.drop c)
 | [],fl,c,n,_,_,_,_=>by
  rw[sP_nil]
  show n=n+0
  omega
 | t::ts,fl,c,n,hc,hf,h0,hb=>by
  simp only[List.length_cons] at hc hb
  have hd:fl.drop c=fl.getD c 0::fl.drop (c+1):=by
   rw[List.drop_eq_getElem_cons (show c<fl.length by omega)]
   simp[List.getD,show c<fl.length by omega]
  obtain⟨f0,f1⟩:=hf c
  have hb':n+((ts.length:Int)+1)*1073741824≤4611686018427387904:=by
   rw[Int.natCast_add] at hb;exact hb
  rw[hd]
  simp only[useL,sP]
  cases hg:Dd (fl.getD c 0>0) with
  | true =>
   simp only[List.foldl_cons]
   by_cases e:t.1=i
   ·have e2:b2F i n ⟨t.1,t.2.1,fl.getD c 0⟩=n+fl.getD c 0:=by
     unfold b2F
     simp only[e,beq_self_eq_true,cond_true]
     exact wrap_i64 (by omega) (by omega)
    rw[e2,b2_sum ts fl (c+1) (n+fl.getD c 0) (by omega) hf (by omega) (by omega),if_pos e]
    omega
   ·have e2:b2F i n ⟨t.1,t.2.1,fl.getD c 0⟩=n:=by
     unfold b2F
     rw[show((⟨t.1,t.2.1,fl.getD c 0⟩:UseT).att==i)=false from by simpa using e]
     rfl
    rw[e2,b2_sum ts fl (c+1) n (by omega) hf h0 (by omega),if_neg e]
    omega
  | false =>
   have hz:fl.getD c 0=0:=by
    have:¬fl.getD c 0>0:=by simpa using hg
    omega
   simp only
   rw[b2_sum ts fl (c+1) n (by omega) hf h0 (by omega),hz]
   split<;>omega
def sQ(i:Int):List (Int×Int×Int)→List Int→Int
 | t::ts,f::gs=>(if t.2.1=i then f else 0)+sQ i ts gs
 | _,_=>0
theorem sQ_nil{i:Int}{gs:List Int}:sQ i [] gs=0:=by cases gs<;>rfl
theorem outL_sQ{mid i:Int}:∀(ts:List (Int×Int×Int)) (gs:List Int),(∀t∈ts,IntKind.i64.wrap (mid+t.2.1)=mid+t.2.1∧IntKind.i64.wrap (1+t.1) ≠ mid+i)→outL (ts.map (prE mid)) gs (mid+i) = - sQ i ts gs
 | [],gs,_=>by cases gs<;>rfl
 | t::ts,[],_=>rfl
 | t::ts,f::gs,h=>by
  obtain⟨h1,h2⟩:=h t (by simp)
  simp only[List.map_cons,outL,sQ,prE]
  rw[outL_sQ ts gs (fun x hx=>h x (by simp[hx])),if_neg h2,h1]
  by_cases e:t.2.1=i
  ·rw[if_pos e,if_pos (by omega)];omega
  ·rw[if_neg e,if_neg (by omega)];omega
theorem b4_sum{i:Int}:∀(ts:List (Int×Int×Int)) (fl:List Int) (c:Nat) (n:Int),c+ts.length≤fl.length→(∀j,0≤fl.getD j 0∧fl.getD j 0≤1073741824)→0≤n→n+ts.length*1073741824≤4611686018427387904 →
  (useL fl ts c).foldl (b4F i) n=n+sQ i ts (fl.drop c)
 | [],fl,c,n,_,_,_,_=>by
  rw[sQ_nil]
  show n=n+0
  omega
 | t::ts,fl,c,n,hc,hf,h0,hb=>by
  simp only[List.length_cons] at hc hb
  have hd:fl.drop c=fl.getD c 0::fl.drop (c+1):=by
   rw[List.drop_eq_getElem_cons (show c<fl.length by omega)]
   simp[List.getD,show c<fl.length by omega]
  obtain⟨f0,f1⟩:=hf c
  have hb':n+((ts.length:Int)+1)*1073741824≤4611686018427387904:=by
   rw[Int.natCast_add] at hb;exact hb
  rw[hd]
  simp only[useL,sQ]
  cases hg:Dd (fl.getD c 0>0) with
  | true =>
   simp only[List.foldl_cons]
   by_cases e:t.2.1=i
   ·have e2:b4F i n ⟨t.1,t.2.1,fl.getD c 0⟩=n+fl.getD c 0:=by
     unfold b4F
     simp only[e,beq_self_eq_true,cond_true]
     exact wrap_i64 (by omega) (by omega)
    rw[e2,b4_sum ts fl (c+1) (n+fl.getD c 0) (by omega) hf (by omega) (by omega),if_pos e]
    omega
   ·have e2:b4F i n ⟨t.1,t.2.1,fl.getD c 0⟩=n:=by
     unfold b4F
     rw[show((⟨t.1,t.2.1,fl.getD c 0⟩:UseT).req==i)=false from by simpa using e]
     rfl
    rw[e2,b4_sum ts fl (c+1) n (by omega) hf h0 (by omega),if_neg e]
    omega
  | false =>
   have hz:fl.getD c 0=0:=by
    have:¬fl.getD c 0>0:=by simpa using hg
    omega
   simp only
   rw[b4_sum ts fl (c+1) n (by omega) hf h0 (by omega),hz]
   split<;>omega
def n1L(p:ProgT):List AttT→Int→List EdgT
 | [],_=>[]
 | a::l,i=>⟨0,IntKind.i64.wrap (1+i),IntKind.i64.wrap (a.credits*p.uses)⟩::n1L p l (i+1)
theorem n1F_L(p:ProgT):∀(l:List AttT) (es:List EdgT) (i:Int),(l.foldl (n1F p) (es,i)).1=es++n1L p l i
 | [],es,i=>by simp[n1L]
 | a::l,es,i=>by
  rw[List.foldl_cons]
  show(l.foldl (n1F p) (es++[⟨0,IntKind.i64.wrap (1+i),IntKind.i64.wrap (a.credits*p.uses)⟩],i+1)).1=_
  rw[n1F_L p l]
  simp[n1L]
def n4L(mid sink:Int):List ReqT→Int→List EdgT
 | [],_=>[]
 | q::qs,k=>⟨IntKind.i64.wrap (mid+k),sink,q.credits⟩::n4L mid sink qs (k+1)
theorem n4F_L(mid sink:Int):∀(qs:List ReqT) (es:List EdgT) (k:Int),(qs.foldl (n4F mid sink) (es,k)).1=es++n4L mid sink qs k
 | [],es,k=>by simp[n4L]
 | q::qs,es,k=>by
  rw[List.foldl_cons]
  show(qs.foldl (n4F mid sink) (es++[⟨IntKind.i64.wrap (mid+k),sink,q.credits⟩],k+1)).1=_
  rw[n4F_L mid sink qs]
  simp[n4L]
theorem net3_parts(p:ProgT)(l:List AttT):net3 p l=n1L p l 0++((prs p l 0).map (prE (midR l))++n4L (midR l) (sinkR p l) p.reqs 0):=by
 have h1:net1 p l=n1L p l 0:=by
  have:=n1F_L p l [] 0
  rw[List.nil_append] at this
  exact this
 have h2:net2 p l=net1 p l++(prs p l 0).map (prE (midR l)):=n3F_prs p (midR l) l (net1 p l) 0
 have h3:net3 p l=net2 p l++n4L (midR l) (sinkR p l) p.reqs 0:=n4F_L (midR l) (sinkR p l) p.reqs (net2 p l) 0
 rw[h3,h2,h1,List.append_assoc]
theorem n1L_len(p:ProgT):∀(l:List AttT) (i:Int),(n1L p l i).length=l.length
 | [],_=>rfl
 | a::l,i=>by simp[n1L,n1L_len p l]
theorem n1L_other(p:ProgT){w:Int}(hw:w ≠ 0):∀(l:List AttT) (i:Nat) (gs:List Int),i+l.length≤1000→(∀j,j<l.length→w ≠ 1+((i+j:Nat):Int))→outL (n1L p l i) gs w=0
 | [],_,gs,_,_=>by cases gs<;>rfl
 | a::l,i,[],_,_=>rfl
 | a::l,i,g::gs,hi,h=>by
  simp only[List.length_cons] at hi h
  have h0:=h 0 (by omega)
  have e:IntKind.i64.wrap (1+(i:Int))=1+i:=wrap_i64 (by omega) (by omega)
  have ih:=n1L_other p hw l (i+1) gs (by omega) (fun j hj=>by have:=h (j+1) (by omega);rw[show i+1+j=i+(j+1) by omega];exact this)
  simp only[n1L,outL,e]
  rw[if_neg (Ne.symm hw),if_neg (by simp only[Nat.add_zero] at h0;omega)]
  have e2:n1L p l ((i:Int)+1)=n1L p l ((i+1:Nat):Int):=rfl
  rw[e2,ih];rfl
theorem n1L_own(p:ProgT):∀(l:List AttT) (i:Nat) (gs:List Int) (j:Nat),i+l.length≤1000→j<l.length→l.length≤gs.length→outL (n1L p l i) gs (1+((i+j:Nat):Int)) = - gs.getD j 0
 | [],_,_,_,_,hj,_=>absurd hj (Nat.not_lt_zero _)
 | a::l,i,[],_,_,_,h=>by simp at h
 | a::l,i,g::gs,j,hi,hj,hg=>by
  simp only[List.length_cons] at hi hj hg
  have e:IntKind.i64.wrap (1+(i:Int))=1+i:=wrap_i64 (by omega) (by omega)
  have e2:n1L p l ((i:Int)+1)=n1L p l ((i+1:Nat):Int):=rfl
  simp only[n1L,outL,e,e2]
  rw[if_neg (by omega)]
  cases j with
  | zero =>
   rw[if_pos (by simp),n1L_other p (by omega) l (i+1) gs (by omega) (fun j hj=>by omega)]
   simp only[List.getD_cons_zero];omega
  | succ j =>
   rw[if_neg (by omega)]
   have ih:=n1L_own p l (i+1) gs j (by omega) (by omega) (by omega)
   rw[show i+(j+1)=i+1+j by omega,ih]
   simp only[List.getD_cons_succ];omega
theorem n4L_other{mid sink w:Int}(h0:0≤mid)(h1:mid≤1000)(hs:w ≠ sink):∀(qs:List ReqT) (k:Nat) (gs:List Int),k+qs.length≤1000→(∀j,j<qs.length→w ≠ mid+((k+j:Nat):Int))→outL (n4L mid sink qs k) gs w=0
 | [],_,gs,_,_=>by cases gs<;>rfl
 | q::qs,k,[],_,_=>rfl
 | q::qs,k,g::gs,hk,h=>by
  simp only[List.length_cons] at hk h
  have h2:=h 0 (by omega)
  have e:IntKind.i64.wrap (mid+(k:Int))=mid+k:=wrap_i64 (by omega) (by omega)
  have ih:=n4L_other h0 h1 hs qs (k+1) gs (by omega) (fun j hj=>by have:=h (j+1) (by omega);rw[show k+1+j=k+(j+1) by omega];exact this)
  have e2:n4L mid sink qs ((k:Int)+1)=n4L mid sink qs ((k+1:Nat):Int):=rfl
  simp only[n4L,outL,e,e2]
  rw[if_neg (by simp only[Nat.add_zero] at h2;omega),if_neg (Ne.symm hs),ih];rfl
theorem n4L_own{mid sink:Int}(h0:0≤mid)(h1:mid≤1000):∀(qs:List ReqT) (k:Nat) (gs:List Int) (j:Nat),k+qs.length≤1000→mid+((k+qs.length:Nat):Int)≤sink→j<qs.length→qs.length≤gs.length→outL (n4L mid sink qs k) gs (mid+((k+j:Nat):Int))=gs.getD j 0
 | [],_,_,_,_,_,hj,_=>absurd hj (Nat.not_lt_zero _)
 | q::qs,k,[],_,_,_,_,h=>by simp at h
 | q::qs,k,g::gs,j,hk,hs,hj,hg=>by
  simp only[List.length_cons] at hk hs hj hg
  have e:IntKind.i64.wrap (mid+(k:Int))=mid+k:=wrap_i64 (by omega) (by omega)
  have e2:n4L mid sink qs ((k:Int)+1)=n4L mid sink qs ((k+1:Nat):Int):=rfl
  simp only[n4L,outL,e,e2]
  cases j with
  | zero =>
   rw[if_pos (by simp),if_neg (by omega),n4L_other h0 h1 (by omega) qs (k+1) gs (by omega) (fun j hj=>by omega)]
   simp only[List.getD_cons_zero];omega
  | succ j =>
   rw[if_neg (by omega),if_neg (by omega)]
   have ih:=n4L_own (sink:=sink) h0 h1 qs (k+1) gs j (by omega) (by omega) (by omega) (by omega)
   rw[show k+(j+1)=k+1+j by omega,ih]
   simp only[List.getD_cons_succ];omega
theorem sP_take{i:Int}:∀(ts:List (Int×Int×Int)) (gs:List Int),sP i ts (gs.take ts.length)=sP i ts gs
 | [],gs=>by rw[sP_nil,sP_nil]
 | t::ts,[]=>rfl
 | t::ts,g::gs=>by simp only[List.length_cons,List.take_succ_cons,sP,sP_take ts gs]
theorem sQ_take{i:Int}:∀(ts:List (Int×Int×Int)) (gs:List Int),sQ i ts (gs.take ts.length)=sQ i ts gs
 | [],gs=>by rw[sQ_nil,sQ_nil]
 | t::ts,[]=>rfl
 | t::ts,g::gs=>by simp only[List.length_cons,List.take_succ_cons,sQ,sQ_take ts gs]
theorem prs_in{p:ProgT}{l:List AttT}{t:Int×Int×Int}(ht:t∈prs p l 0):0≤t.1∧t.1<l.length∧0≤t.2.1∧t.2.1<p.reqs.length:=by
 obtain⟨i,a,g1,g2,g3,g4⟩:=prs_mem p l 0 t ht
 have:=(List.getElem?_eq_some_iff.1 g1).1
 rcases elF_mem a p.reqs ([],0) t.2.1 g4 with h|⟨k,q,k1,k2,k3⟩
 ·simp at h
 ·have:=(List.getElem?_eq_some_iff.1 k1).1
  simp only at k2
  omega
theorem flow_att{p:ProgT}{l:List AttT}(h:NetOk p l){fl:List Int}(hF:Flow (net3 p l) 0 ((nN p l:Int) - 1) fl){i:Nat}(hi:i<l.length):sP i (prs p l 0) (fl.drop l.length)=fl.getD i 0:=by
 have hN:nN p l=2+l.length+p.reqs.length:=rfl
 have hls:=h.ls
 have hrs:=h.rs
 have hlen:=hF.ok.len
 rw[net3_length] at hlen
 have hc:=hF.cons (1+(i:Int)) (by omega) (by omega)
 have hp:=prs_len p l 0
 rw[net3_parts,outL_app _ _ _ _ (by rw[n1L_len];omega),n1L_len,outL_app _ _ _ _ (by rw[List.length_map,hp,List.length_drop];omega),List.length_map] at hc
 have h1:=n1L_own p l 0 (fl.take l.length) i (by omega) hi (by rw[List.length_take];omega)
 rw[Nat.zero_add] at h1
 have h2:=outL_sP (mid:=midR l) (i:=(i:Int)) (prs p l 0) ((fl.drop l.length).take (prs p l 0).length) (fun t ht=>by
  obtain⟨a,b,c,d⟩:=prs_in ht
  rw[mid_eq h]
  exact⟨wrap_i64 (by omega) (by omega),by rw[wrap_i64 (by omega) (by omega)];omega⟩)
 have h3:=n4L_other (mid:=midR l) (sink:=sinkR p l) (w:=1+(i:Int)) (by rw[mid_eq h];omega) (by rw[mid_eq h];omega) (by rw[sink_eq h];omega) p.reqs 0 (((fl.drop l.length)).drop (prs p l 0).length) (by omega) (fun j _=>by rw[mid_eq h];omega)
 have e:(fl.take l.length).getD i 0=fl.getD i 0:=by
  simp only[List.getD,List.getElem?_take,if_pos hi]
 have e0:n1L p l ((0:Nat):Int)=n1L p l 0:=rfl
 have e4:n4L (midR l) (sinkR p l) p.reqs ((0:Nat):Int)=n4L (midR l) (sinkR p l) p.reqs 0:=rfl
 rw[e0,e] at h1
 rw[e4] at h3
 rw[h1,h2,h3,sP_take] at hc
 omega
theorem flow_req{p:ProgT}{l:List AttT}(h:NetOk p l){fl:List Int}(hF:Flow (net3 p l) 0 ((nN p l:Int) - 1) fl){k:Nat}(hk:k<p.reqs.length):sQ k (prs p l 0) (fl.drop l.length)=fl.getD (l.length+pairsN p l+k) 0:=by
 have hN:nN p l=2+l.length+p.reqs.length:=rfl
 have hls:=h.ls
 have hrs:=h.rs
 have hlen:=hF.ok.len
 rw[net3_length] at hlen
 have hm:=mid_eq h
 have hc:=hF.cons (midR l+(k:Int)) (by omega) (by omega)
 have hp:=prs_len p l 0
 rw[net3_parts,outL_app _ _ _ _ (by rw[n1L_len];omega),n1L_len,outL_app _ _ _ _ (by rw[List.length_map,hp,List.length_drop];omega),List.length_map] at hc
 have h1:=n1L_other p (w:=midR l+(k:Int)) (by omega) l 0 (fl.take l.length) (by omega) (fun j hj=>by omega)
 have h2:=outL_sQ (mid:=midR l) (i:=(k:Int)) (prs p l 0) ((fl.drop l.length).take (prs p l 0).length) (fun t ht=>by
  obtain⟨a,b,c,d⟩:=prs_in ht
  exact⟨wrap_i64 (by omega) (by omega),by rw[wrap_i64 (by omega) (by omega)];omega⟩)
 have h3:=n4L_own (mid:=midR l) (sink:=sinkR p l) (by omega) (by omega) p.reqs 0 (((fl.drop l.length)).drop (prs p l 0).length) k (by omega) (by rw[sink_eq h,hm];omega) hk (by rw[List.length_drop,List.length_drop,hp];omega)
 rw[Nat.zero_add] at h3
 have e:((fl.drop l.length).drop (prs p l 0).length).getD k 0=fl.getD (l.length+pairsN p l+k) 0:=by
  rw[hp,List.drop_drop]
  simp only[List.getD,List.getElem?_drop]
 have e0:n1L p l ((0:Nat):Int)=n1L p l 0:=rfl
 have e4:n4L (midR l) (sinkR p l) p.reqs ((0:Nat):Int)=n4L (midR l) (sinkR p l) p.reqs 0:=rfl
 rw[e0] at h1
 rw[e4,e] at h3
 rw[h1,h2,h3,sQ_take] at hc
 omega
theorem n1L_get(p:ProgT):∀(l:List AttT) (i:Int) (j:Nat) (a:AttT),l[j]? = some a→((n1L p l i).getD j ⟨0,0,0⟩).most=IntKind.i64.wrap (a.credits*p.uses)
 | [],_,_,_,h=>by simp at h
 | b::l,i,0,a,h=>by
  simp only[List.getElem?_cons_zero,Option.some.injEq] at h
  subst h;rfl
 | b::l,i,j+1,a,h=>by
  simp only[n1L,List.getD_cons_succ]
  exact n1L_get p l (i+1) j a (by simpa using h)
theorem n4L_get(mid sink:Int):∀(qs:List ReqT) (k:Int) (j:Nat) (q:ReqT),qs[j]? = some q→((n4L mid sink qs k).getD j ⟨0,0,0⟩).most=q.credits
 | [],_,_,_,h=>by simp at h
 | b::l,i,0,a,h=>by
  simp only[List.getElem?_cons_zero,Option.some.injEq] at h
  subst h;rfl
 | b::l,i,j+1,a,h=>by
  simp only[n4L,List.getD_cons_succ]
  exact n4L_get mid sink l (i+1) j a (by simpa using h)
theorem fl_all{es:List EdgT}{fl:List Int}(h:FlOk es fl)(j:Nat):0≤fl.getD j 0∧fl.getD j 0≤1073741824:=by
 by_cases hj:j<es.length
 ·exact⟨h.lo j hj,by have:=h.hi j hj;have:=h.most j hj;omega⟩
 ·have:fl.getD j 0=0:=by
   have:=h.len
   simp only[List.getD,List.getElem?_eq_none (show fl.length≤j by omega),Option.getD_none]
  omega
section
variable {p:ProgT} {l:List AttT} {fl:List Int}
theorem pairsN_small(h:NetOk p l):pairsN p l≤54:=by
 have h1:=pairsN_le p l
 have h2:l.length*p.reqs.length≤9*6:=Nat.mul_le_mul h.ls h.rs
 omega
theorem sumA_le(h:NetOk p l)(hF:Flow (net3 p l) 0 ((nN p l:Int) - 1) fl)(i:Nat)(a:AttT)(ha:l[i]? = some a):sumA (useL fl (prs p l 0) l.length) (i:Int)≤IntKind.i64.wrap (a.credits*p.uses):=by
 have hi:=(List.getElem?_eq_some_iff.1 ha).1
 have hp:=prs_len p l 0
 have h54:=pairsN_small h
 have hlen:=hF.ok.len
 rw[net3_length] at hlen
 have hs:=b2_sum (i:=(i:Int)) (prs p l 0) fl l.length 0 (by omega) (fl_all hF.ok) (by omega) (by omega)
 unfold sumA
 rw[hs,flow_att h hF hi]
 have hm:=hF.ok.hi i (by rw[net3_length];omega)
 have e:(net3 p l).getD i ⟨0,0,0⟩=(n1L p l 0).getD i ⟨0,0,0⟩:=by
  rw[net3_parts]
  simp only[List.getD,List.getElem?_append_left (show i<(n1L p l 0).length by rw[n1L_len];exact hi)]
 rw[e,n1L_get p l 0 i a ha] at hm
 omega
theorem sumQ_le(h:NetOk p l)(hF:Flow (net3 p l) 0 ((nN p l:Int) - 1) fl)(k:Nat)(q:ReqT)(hq:p.reqs[k]? = some q):sumQ (useL fl (prs p l 0) l.length) (k:Int)≤q.credits:=by
 have hk:=(List.getElem?_eq_some_iff.1 hq).1
 have hp:=prs_len p l 0
 have h54:=pairsN_small h
 have hlen:=hF.ok.len
 rw[net3_length] at hlen
 have hs:=b4_sum (i:=(k:Int)) (prs p l 0) fl l.length 0 (by omega) (fl_all hF.ok) (by omega) (by omega)
 unfold sumQ
 rw[hs,flow_req h hF hk]
 have hm:=hF.ok.hi (l.length+pairsN p l+k) (by rw[net3_length];omega)
 have e:(net3 p l).getD (l.length+pairsN p l+k) ⟨0,0,0⟩=(n4L (midR l) (sinkR p l) p.reqs 0).getD k ⟨0,0,0⟩:=by
  rw[net3_parts]
  simp only[List.getD]
  rw[List.getElem?_append_right (by rw[n1L_len];omega),n1L_len,List.getElem?_append_right (by rw[List.length_map,hp];omega),List.length_map,hp]
  congr 2;omega
 rw[e,n4L_get _ _ p.reqs 0 k q hq] at hm
 omega
end
def sumC:List UseT→Int
 | []=>0
 | u::us=>u.cr+sumC us
theorem useL_sum{fl:List Int}(hf:∀j,0≤fl.getD j 0∧fl.getD j 0≤1073741824):∀(ts:List (Int×Int×Int)) (c:Nat),0≤sumC (useL fl ts c)∧sumC (useL fl ts c)≤ts.length*1073741824
 | [],c=>by simp[useL,sumC]
 | t::ts,c=>by
  obtain⟨a,b⟩:=useL_sum hf ts (c+1)
  obtain⟨f0,f1⟩:=hf c
  simp only[useL,List.length_cons]
  rw[Int.natCast_add]
  cases Dd (fl.getD c 0>0) with
  | true=>simp only[sumC];omega
  | false=>simp only;omega
theorem apT2_ms{fl:List Int}(hf:∀j,0≤fl.getD j 0∧fl.getD j 0≤1073741824):∀(ts:List (Int×Int×Int)) (s:AuS) (c:Nat),s.at_=c→c+ts.length≤1000000→s.ms≤4611686018427387904 → -4611686018427387904≤s.ms - ts.length*1073741824→(ts.foldl (apT2 fl) s).ms=s.ms - sumC (useL fl ts c)
 | [],s,c,_,_,_,_=>by
  show s.ms=s.ms - 0
  omega
 | t::ts,s,c,h,hc,h1,h2=>by
  simp only[List.length_cons] at hc h2
  rw[Int.natCast_add] at h2
  obtain⟨f0,f1⟩:=hf c
  have e:s.at_.toNat=c:=by rw[h,Int.toNat_natCast]
  have hm:(apT2 fl s t).ms=(if fl.getD c 0>0 then s.ms - fl.getD c 0 else s.ms):=by
   unfold apT2 apG apF
   rw[e]
   by_cases hg:fl.getD c 0>0
   ·rw[if_pos hg,show Dd (fl.getD c 0>0)=true from by simpa using hg]
    exact wrap_i64 (by omega) (by omega)
   ·rw[if_neg hg,show Dd (fl.getD c 0>0)=false from by simpa using hg]
  have hb:(apT2 fl s t).ms≤s.ms∧s.ms - 1073741824≤(apT2 fl s t).ms:=by
   rw[hm];split<;>omega
  rw[List.foldl_cons,apT2_ms hf ts (apT2 fl s t) (c+1) (apG_at h (by omega)) (by omega) (by omega) (by omega),hm]
  simp only[useL]
  by_cases hg:fl.getD c 0>0
  ·rw[if_pos hg,show Dd (fl.getD c 0>0)=true from by simpa using hg]
   simp only[sumC];omega
  ·rw[if_neg hg,show Dd (fl.getD c 0>0)=false from by simpa using hg]
theorem asF_sum{fl:List Int}(hf:∀j,0≤fl.getD j 0∧fl.getD j 0≤1073741824):∀(ts:List (Int×Int×Int)) (c:Nat) (n:Int),0≤n→n+ts.length*1073741824≤4611686018427387904→(useL fl ts c).foldl asF n=n+sumC (useL fl ts c)
 | [],c,n,_,_=>by
  show n=n+0
  omega
 | t::ts,c,n,h0,h=>by
  simp only[List.length_cons] at h
  rw[Int.natCast_add] at h
  obtain⟨f0,f1⟩:=hf c
  simp only[useL]
  cases Dd (fl.getD c 0>0) with
  | true =>
   have e:asF n ⟨t.1,t.2.1,fl.getD c 0⟩=n+fl.getD c 0:=wrap_i64 (by simp only;omega) (by simp only;omega)
   simp only[List.foldl_cons,sumC]
   rw[e,asF_sum hf ts (c+1) (n+fl.getD c 0) (by omega) (by omega)]
   omega
  | false=>exact asF_sum hf ts (c+1) n h0 (by omega)
def sumK(f:Nat→Int):Nat→Int
 | 0=>0
 | K+1=>sumK f K+f K
theorem sumK_add(f g:Nat→Int):∀K,sumK (fun k=>f k+g k) K=sumK f K+sumK g K
 | 0=>rfl
 | K+1=>by simp only[sumK,sumK_add f g K];omega
theorem sumK_one{r:Int}{x:Int}(h0:0≤r):∀K:Nat,sumK (fun k=>if r=(k:Int) then x else 0) K=if r<K then x else 0
 | 0=>by simp only[sumK];rw[if_neg (by omega)]
 | K+1=>by
  simp only[sumK,sumK_one h0 K]
  by_cases h1:r<K
  ·rw[if_pos h1,if_neg (by omega),if_pos (by omega)];omega
  ·by_cases h2:r=K
   ·rw[if_neg h1,if_pos h2,if_pos (by omega)];omega
   ·rw[if_neg h1,if_neg h2,if_neg (by omega)];omega
theorem sumK_zero:∀K,sumK (fun _=>0) K=0
 | 0=>rfl
 | K+1=>by simp only[sumK,sumK_zero K];rfl
theorem sumC_sQ{fl:List Int}(hf:∀j,0≤fl.getD j 0∧fl.getD j 0≤1073741824){K:Nat}:∀(ts:List (Int×Int×Int)) (c:Nat),c+ts.length≤fl.length→(∀t∈ts,0≤t.2.1∧t.2.1<K)→sumC (useL fl ts c)=sumK (fun k=>sQ (k:Int) ts (fl.drop c)) K
 | [],c,_,_=>by
  have e:(fun k:Nat=>sQ (k:Int) [] (fl.drop c))=fun _=>0:=by funext k;exact sQ_nil
  rw[e,sumK_zero];rfl
 | t::ts,c,hc,ht=>by
  simp only[List.length_cons] at hc
  have hd:fl.drop c=fl.getD c 0::fl.drop (c+1):=by
   rw[List.drop_eq_getElem_cons (show c<fl.length by omega)]
   simp[List.getD,show c<fl.length by omega]
  obtain⟨f0,f1⟩:=hf c
  obtain⟨t0,t1⟩:=ht t (by simp)
  have ih:=sumC_sQ hf ts (c+1) (by omega) (fun x hx=>ht x (by simp[hx]))
  have e:(fun k:Nat=>sQ (k:Int) (t::ts) (fl.drop c))=fun k:Nat=>(if t.2.1=(k:Int) then fl.getD c 0 else 0)+sQ (k:Int) ts (fl.drop (c+1)):=by
   funext k
   rw[hd]
   rfl
  rw[e,sumK_add,sumK_one t0,if_pos t1,←ih]
  simp only[useL]
  by_cases hg:fl.getD c 0>0
  ·rw[show Dd (fl.getD c 0>0)=true from by simpa using hg]
   rfl
  ·rw[show Dd (fl.getD c 0>0)=false from by simpa using hg]
   simp only;omega
theorem sumK_front(f:Nat→Int):∀K,sumK f (K+1)=f 0+sumK (fun k=>f (k+1)) K
 | 0=>by simp only[sumK];omega
 | K+1=>by
  have:=sumK_front f K
  simp only[sumK] at this ⊢
  omega
def totL:List ReqT→Int
 | []=>0
 | q::qs=>q.credits+totL qs
theorem sumK_tot:∀(qs:List ReqT) (f:Nat→Int),(∀(k:Nat) (q:ReqT),qs[k]? = some q→f k≤q.credits)→sumK f qs.length≤totL qs
 | [],_,_=>Int.le_refl _
 | q::qs,f,h=>by
  rw[List.length_cons,sumK_front]
  have h1:=h 0 q rfl
  have h2:=sumK_tot qs (fun k=>f (k+1)) (fun k q' hq=>h (k+1) q' (by simpa using hq))
  simp only[totL];omega
theorem au_tot:∀(qs:List ReqT) (n:Int),(∀q∈qs,1≤q.credits∧q.credits≤10000)→0≤n→n+qs.length*10000≤4611686018427387904→qs.foldl auF n=n+totL qs∧0≤totL qs∧totL qs≤qs.length*10000
 | [],n,_,_,_=>by
  refine⟨?_,Int.le_refl _,by simp[totL]⟩
  show n=n+0
  omega
 | q::qs,n,h,h0,hb=>by
  simp only[List.length_cons] at hb ⊢
  rw[Int.natCast_add] at hb ⊢
  obtain⟨a,b⟩:=h q (by simp)
  have e:auF n q=n+q.credits:=wrap_i64 (by omega) (by omega)
  obtain⟨c,d,f⟩:=au_tot qs (n+q.credits) (fun x hx=>h x (by simp[hx])) (by omega) (by omega)
  rw[List.foldl_cons,e,c]
  simp only[totL]
  refine⟨by omega,by omega,by omega⟩
section
variable {p:ProgT} {l:List AttT} {fl:List Int}
theorem auR_us(h:NetOk p l):(auR p l fl).us=useL fl (prs p l 0) l.length:=by
 have h54:=pairsN_small h
 have hls:=h.ls
 have hp:=prs_len p l 0
 unfold auR
 rw[a3F_prs,apT2_us fl (prs p l 0) _ l.length (by simp) (by omega)]
 rfl
theorem auR_ms(h:NetOk p l)(hF:Flow (net3 p l) 0 ((nN p l:Int) - 1) fl):(auR p l fl).ms=IntKind.i64.wrap (totR p - asgR (auR p l fl).us)∧0≤(auR p l fl).ms:=by
 have h54:=pairsN_small h
 have hls:=h.ls
 have hrs:=h.rs
 have hp:=prs_len p l 0
 have hf:=fl_all hF.ok
 have hlen:=hF.ok.len
 rw[net3_length] at hlen
 obtain⟨t1,t2,t3⟩:=au_tot p.reqs 0 h.req.2.2 (by omega) (by omega)
 have hm:(auR p l fl).ms=totR p - sumC (useL fl (prs p l 0) l.length):=by
  unfold auR
  rw[a3F_prs,apT2_ms hf (prs p l 0) _ l.length (by simp) (by omega) (by show p.reqs.foldl auF 0≤_;omega) (by show _≤p.reqs.foldl auF 0 - _;omega)]
  rfl
 have ha:asgR (auR p l fl).us=sumC (useL fl (prs p l 0) l.length):=by
  rw[auR_us h]
  have:=asF_sum hf (prs p l 0) l.length 0 (by omega) (by omega)
  unfold asgR
  rw[this];omega
 have hq:sumC (useL fl (prs p l 0) l.length)≤totL p.reqs:=by
  rw[sumC_sQ hf (K:=p.reqs.length) (prs p l 0) l.length (by omega) (fun t ht=>by have:=prs_in ht;omega)]
  refine sumK_tot p.reqs _ (fun k q hk=>?_)
  have:=sumQ_le h hF k q hk
  have hs:=b4_sum (i:=(k:Int)) (prs p l 0) fl l.length 0 (by omega) hf (by omega) (by omega)
  unfold sumQ at this
  rw[hs] at this
  omega
 have hc:=(useL_sum hf (prs p l 0) l.length).1
 have ht:totR p=totL p.reqs:=by unfold totR;omega
 rw[ha,hm]
 refine⟨(wrap_i64 (by omega) (by omega)).symm,by omega⟩
end
end Go.Vi

open Go Go.Proofs
namespace Go.Vi
set_option maxRecDepth 100000
set_option maxHeartbeats 4000000
abbrev fwS(p:ProgT)(i:Int):AS:={t:=mkT 30 0 [(2,.ref (.ptr 0 0)),(4,bool false),(5,int i)],h:=[.var p.l],m:=[]}
abbrev fwE(p:ProgT):AS:={t:=mkT 30 0 [],h:=[.var p.l],m:=[]}
abbrev fwX(p:ProgT):Unit→Exit×AS:=fun _=>(.ret,{t:=mkT 30 0 [(4,bool false)],h:=[.var p.l],m:=[]})
def fwF(q:ReqT)(_:Unit):Unit⊕Unit:=bif Dd (((inR1 q.frm).length:Int)>10) then .inr () else .inl ()
theorem fw_body{p:ProgT}{q:ReqT}{i:Nat}(hr:RowAt (i:Int) (p.reqs.map ReqT.row) q.row 6)(hlt:Dd ((i:Int)<((p.reqs.map ReqT.row).length:Int))=true)(hw:IntKind.i64.wrap ((i:Int)+1)=((i+1:Nat):Int)):(CW Tryz.prog Γ0 [] false (sub Tryz.f10 0) (fwS p i) (bodyFin (fun _:Unit=>fwS p ((i+1:Nat):Int)) (fwX p) (fwF q ())).1 (bodyFin (fun _:Unit=>fwS p ((i+1:Nat):Int)) (fwX p) (fwF q ())).2):=by
 cases hc0:Dd ((↑(List.length (inR1 q.frm)):Int)>10)
 ·exact CW.cast (CW.symX (s':={t:=mkT 30 0 [(2,.ref (.ptr 0 0)),(4,bool false),(5,int (IntKind.wrap IntKind.i64 ((↑i:Int)+1)))],h:=[.var [strD p.nm,int p.number,int p.uses,int p.earn,int p.num,int p.den,rowsD' (List.map ReqT.row p.reqs)]],m:=[]}) (e:=Exit.normal) pok [.st (.mask [2,4,5])] [.b true,.row [vs q.nm,vi q.credits,vi q.grade,Dp.v (Value.bool q.home),Dp.sl q.names,Dp.sl (inR1 q.frm)],.b false] (by kernel_rfl) (.c hlt (.c hr (.c hc0 .n)))) (by simp only[fwF,hc0,cond_false,bodyFin];first|done|rfl) (by simp only[fwF,hc0,cond_false,bodyFin,hw];first|done|rfl)
 ·exact CW.cast (CW.symX (s':={t:=mkT 30 0 [(4,bool false)],h:=[.var [strD p.nm,int p.number,int p.uses,int p.earn,int p.num,int p.den,rowsD' (List.map ReqT.row p.reqs)]],m:=[]}) (e:=Exit.ret) pok [.st (.mask [4])] [.b true,.row [vs q.nm,vi q.credits,vi q.grade,Dp.v (Value.bool q.home),Dp.sl q.names,Dp.sl (inR1 q.frm)],.b true] (by kernel_rfl) (.c hlt (.c hr (.c hc0 .n)))) (by simp only[fwF,hc0,cond_true,bodyFin];first|done|rfl) (by simp only[fwF,hc0,cond_true,bodyFin];first|done|rfl)
theorem fw_last{p:ProgT}{i:Nat}(hlt:Dd ((i:Int)<((p.reqs.map ReqT.row).length:Int))=false):(CW Tryz.prog Γ0 [] false (sub Tryz.f10 0) (fwS p i) (.exit 0) (fwE p)):=by
 exact CW.cast (CW.symX (s':={t:=mkT 30 0 [],h:=[.var [strD p.nm,int p.number,int p.uses,int p.earn,int p.num,int p.den,rowsD' (List.map ReqT.row p.reqs)]],m:=[]}) (e:=Exit.exit 0) pok [.st (.mask [])] [.b false] (by kernel_rfl) (.c hlt .n)) (by rfl) (by rfl)
def fwFin(p:ProgT):Exit×AS:=eachFin (.exit 0) (fun _:Unit=>fwE p) (fwX p) (forL fwF p.reqs ())
theorem fw_cw{p:ProgT}(hs:Short p.reqs):CW Tryz.prog Γ0 [] false (.loop (sub Tryz.f10 0)) (fwS p 0) (fwFin p).1 (fwFin p).2:=by
 refine CW.each p.reqs fwF (fun i _=>fwS p (i:Int)) (.exit 0) (fun _=>fwE p) (fwX p) (fun _ _=>True) (by simp) (fun _=>by simp[]) ?_ ?_ () trivial
 ·intro i q _ hc _
  have hi:=(List.getElem?_eq_some_iff.1 hc).1
  exact⟨fun _ _=>trivial,fw_body (rowAt hc rfl) (lt_len ReqT.row hi) (wrap_succ hi hs)⟩
 ·intro _ _
  exact fw_last (ge_len ReqT.row p.reqs)
def fwB(p:ProgT):Bool:=match forL fwF p.reqs () with | .inl _=>true | .inr _=>false
def fewB(p:ProgT)(n:Int):Bool:=bif Dd (((p.reqs.map ReqT.row).length:Int)>6)||Dd (n>8) then false else fwB p
theorem few_ev{p:ProgT}(hs:Short p.reqs){l:List AttT}(h:List Blk):(Ev Tryz.prog Γ0 10 [.agg p.l,rowsD' (l.map AttT.row)] h (bool (fewB p ((l.map AttT.row).length:Int))) h):=by
 cases hc0:Dd ((↑(List.length (List.map ReqT.row p.reqs)):Int)>6)||Dd ((↑(List.length (List.map AttT.row l)):Int)>8)
 ·have hl1:=(@fw_cw (p) (hs))
  unfold fwFin at hl1
  revert hl1
  cases ho2:forL fwF p.reqs () with
  | inl o2_0_0 =>
   intro hl1
   exact Ev.castH (Ev.sym0 (d:=bool true) pok [.b false,.sum [2,4,5] (Exit.exit 0) {t:=mkT 30 0 [],h:=[.var [strD p.nm,int p.number,int p.uses,int p.earn,int p.num,int p.den,rowsD' (List.map ReqT.row p.reqs)]],m:=[]}] (by kernel_rfl) (.c hc0 (.c hl1 .n)) rfl rfl h) (by simp only[fewB,fwB,hc0,ho2,cond_false];first|done|rfl) (by rfl)
  | inr o2_1_0 =>
   intro hl1
   exact Ev.castH (Ev.sym0 (d:=bool false) pok [.b false,.sum [2,4,5] (Exit.ret) {t:=mkT 30 0 [(4,bool false)],h:=[.var [strD p.nm,int p.number,int p.uses,int p.earn,int p.num,int p.den,rowsD' (List.map ReqT.row p.reqs)]],m:=[]}] (by kernel_rfl) (.c hc0 (.c hl1 .n)) rfl rfl h) (by simp only[fewB,fwB,hc0,ho2,cond_false];first|done|rfl) (by rfl)
 ·exact Ev.castH (Ev.sym0 (d:=bool false) pok [.b true] (by kernel_rfl) (.c hc0 .n) rfl rfl h) (by simp only[fewB,fwB,hc0,cond_true];first|done|rfl) (by rfl)
set_option maxRecDepth 1000000
def s19m0:Memo:=⟨69,[.ref (.ptr 31 0),int 0,int 5],[.gone,.vec [[int 7],[int 8]] 0 1,.vec [[int 8],[int 7]] 0 1,.vec [[strD ⟨#[97]⟩,int 6,int 1,bool false,nq,.ref (.vec 1 0)],[strD ⟨#[98]⟩,int 4,int 1,bool false,nq,.ref (.vec 2 0)]] 0 6,.gone,.vec [[int 7,int 0,int 5,int 0,int 6],[int 8,int 0,int 5,int 0,int 3]] 0 5,.var [strD ⟨#[]⟩,int 1,int 1,int 0,int 0,int 1,.ref (.vec 3 0)],.var [strD ⟨#[]⟩,int 1,int 1,int 0,int 0,int 1,.ref (.vec 3 0)],.var [nq,int 0,nq],.var [int 0],.gone,.gone,.gone,.gone,.gone,.gone,.vec [[int 0,int 1,int 6],[int 0,int 2,int 3],[int 1,int 3,int 6],[int 1,int 4,int 6],[int 2,int 3,int 3],[int 2,int 4,int 3],[int 3,int 5,int 6],[int 4,int 5,int 4]] 7 3,.gone,.gone,.gone,.gone,.gone,.gone,.gone,.gone,.gone,.gone,.var [int 0],.var [int 5],.vec [[int 0],[int 0],[int 0],[int 0],[int 0],[int 0],[int 0],[int 0]] 0 1,.vec [[.ref (.vec 34 1)],[.ref (.vec 36 2)],[.ref (.vec 40 2)],[.ref (.vec 44 2)],[.ref (.vec 48 2)],[.ref (.vec 58 1)]] 0 1,.var [.ref (.vec 16 7),.ref (.vec 29 0),.ref (.vec 30 0)],.gone,.gone,.vec [[int 0],[int 2]] 1 1,.gone,.vec [[int 1],[int 4],[int 6]] 2 1,.gone,.gone,.gone,.vec [[int 3],[int 8],[int 10]] 2 1,.gone,.gone,.gone,.vec [[int 5],[int 9],[int 12]] 2 1,.gone,.gone,.gone,.vec [[int 7],[int 11],[int 14]] 2 1,.gone,.gone,.gone,.gone,.gone,.gone,.gone,.gone,.gone,.vec [[int 13],[int 15]] 1 1,.gone,.gone,.gone,.var [.ref (.ptr 31 0)]],.ret (.ref (.vec 66 0)) [.gone,.vec [[int 7],[int 8]] 0 1,.vec [[int 8],[int 7]] 0 1,.vec [[strD ⟨#[97]⟩,int 6,int 1,bool false,nq,.ref (.vec 1 0)],[strD ⟨#[98]⟩,int 4,int 1,bool false,nq,.ref (.vec 2 0)]] 0 6,.gone,.vec [[int 7,int 0,int 5,int 0,int 6],[int 8,int 0,int 5,int 0,int 3]] 0 5,.var [strD ⟨#[]⟩,int 1,int 1,int 0,int 0,int 1,.ref (.vec 3 0)],.var [strD ⟨#[]⟩,int 1,int 1,int 0,int 0,int 1,.ref (.vec 3 0)],.var [nq,int 0,nq],.var [int 0],.gone,.gone,.gone,.gone,.gone,.gone,.vec [[int 0,int 1,int 6],[int 0,int 2,int 3],[int 1,int 3,int 6],[int 1,int 4,int 6],[int 2,int 3,int 3],[int 2,int 4,int 3],[int 3,int 5,int 6],[int 4,int 5,int 4]] 7 3,.gone,.gone,.gone,.gone,.gone,.gone,.gone,.gone,.gone,.gone,.var [int 0],.var [int 5],.vec [[int 0],[int 0],[int 0],[int 0],[int 0],[int 0],[int 0],[int 0]] 0 1,.vec [[.ref (.vec 34 1)],[.ref (.vec 36 2)],[.ref (.vec 40 2)],[.ref (.vec 44 2)],[.ref (.vec 48 2)],[.ref (.vec 58 1)]] 0 1,.var [.ref (.vec 16 7),.ref (.vec 29 0),.ref (.vec 30 0)],.gone,.gone,.vec [[int 0],[int 2]] 1 1,.gone,.vec [[int 1],[int 4],[int 6]] 2 1,.gone,.gone,.gone,.vec [[int 3],[int 8],[int 10]] 2 1,.gone,.gone,.gone,.vec [[int 5],[int 9],[int 12]] 2 1,.gone,.gone,.gone,.vec [[int 7],[int 11],[int 14]] 2 1,.gone,.gone,.gone,.gone,.gone,.gone,.gone,.gone,.gone,.vec [[int 13],[int 15]] 1 1,.gone,.gone,.gone,.var [.ref (.ptr 31 0)],.gone,.gone,.gone,.vec [[int 16],[int 0],[int 2],[int 4],[int 6],[int 12]] 0 1,.gone,.gone,.gone,.gone,.gone,.gone,.gone,.gone,.gone,.gone,.gone,.gone,.gone,.gone,.gone,.gone,.gone,.gone]⟩
theorem s19m0_ok:s19m0.Ok Tryz.prog Γ0:=Memo.ok_of pok (ms:=[]) (by kernel_rfl) trivial
def s19m1:Memo:=⟨68,[int 6,.ref (.vec 16 7)],[.gone,.vec [[int 7],[int 8]] 0 1,.vec [[int 8],[int 7]] 0 1,.vec [[strD ⟨#[97]⟩,int 6,int 1,bool false,nq,.ref (.vec 1 0)],[strD ⟨#[98]⟩,int 4,int 1,bool false,nq,.ref (.vec 2 0)]] 0 6,.gone,.vec [[int 7,int 0,int 5,int 0,int 6],[int 8,int 0,int 5,int 0,int 3]] 0 5,.var [strD ⟨#[]⟩,int 1,int 1,int 0,int 0,int 1,.ref (.vec 3 0)],.var [strD ⟨#[]⟩,int 1,int 1,int 0,int 0,int 1,.ref (.vec 3 0)],.var [nq,int 0,nq],.var [int 0],.gone,.gone,.gone,.gone,.gone,.gone,.vec [[int 0,int 1,int 6],[int 0,int 2,int 3],[int 1,int 3,int 6],[int 1,int 4,int 6],[int 2,int 3,int 3],[int 2,int 4,int 3],[int 3,int 5,int 6],[int 4,int 5,int 4]] 7 3,.gone,.gone,.gone,.gone,.gone,.gone,.gone,.gone,.gone,.gone,.var [int 0],.var [int 5]],.ret (.ref (.ptr 31 0)) [.gone,.vec [[int 7],[int 8]] 0 1,.vec [[int 8],[int 7]] 0 1,.vec [[strD ⟨#[97]⟩,int 6,int 1,bool false,nq,.ref (.vec 1 0)],[strD ⟨#[98]⟩,int 4,int 1,bool false,nq,.ref (.vec 2 0)]] 0 6,.gone,.vec [[int 7,int 0,int 5,int 0,int 6],[int 8,int 0,int 5,int 0,int 3]] 0 5,.var [strD ⟨#[]⟩,int 1,int 1,int 0,int 0,int 1,.ref (.vec 3 0)],.var [strD ⟨#[]⟩,int 1,int 1,int 0,int 0,int 1,.ref (.vec 3 0)],.var [nq,int 0,nq],.var [int 0],.gone,.gone,.gone,.gone,.gone,.gone,.vec [[int 0,int 1,int 6],[int 0,int 2,int 3],[int 1,int 3,int 6],[int 1,int 4,int 6],[int 2,int 3,int 3],[int 2,int 4,int 3],[int 3,int 5,int 6],[int 4,int 5,int 4]] 7 3,.gone,.gone,.gone,.gone,.gone,.gone,.gone,.gone,.gone,.gone,.var [int 0],.var [int 5],.vec [[int 0],[int 0],[int 0],[int 0],[int 0],[int 0],[int 0],[int 0]] 0 1,.vec [[.ref (.vec 34 1)],[.ref (.vec 36 2)],[.ref (.vec 40 2)],[.ref (.vec 44 2)],[.ref (.vec 48 2)],[.ref (.vec 58 1)]] 0 1,.var [.ref (.vec 16 7),.ref (.vec 29 0),.ref (.vec 30 0)],.gone,.gone,.vec [[int 0],[int 2]] 1 1,.gone,.vec [[int 1],[int 4],[int 6]] 2 1,.gone,.gone,.gone,.vec [[int 3],[int 8],[int 10]] 2 1,.gone,.gone,.gone,.vec [[int 5],[int 9],[int 12]] 2 1,.gone,.gone,.gone,.vec [[int 7],[int 11],[int 14]] 2 1,.gone,.gone,.gone,.gone,.gone,.gone,.gone,.gone,.gone,.vec [[int 13],[int 15]] 1 1,.gone,.gone,.gone]⟩
theorem s19m1_ok:s19m1.Ok Tryz.prog Γ0:=Memo.ok_of pok (ms:=[]) (by kernel_rfl) trivial
def s19m2:Memo:=⟨69,[.ref (.ptr 31 0),int 0,int 5],[.gone,.vec [[int 7],[int 8]] 0 1,.vec [[int 8],[int 7]] 0 1,.vec [[strD ⟨#[97]⟩,int 6,int 1,bool false,nq,.ref (.vec 1 0)],[strD ⟨#[98]⟩,int 4,int 1,bool false,nq,.ref (.vec 2 0)]] 0 6,.gone,.vec [[int 7,int 0,int 5,int 0,int 6],[int 8,int 0,int 5,int 0,int 3]] 0 5,.var [strD ⟨#[]⟩,int 1,int 1,int 0,int 0,int 1,.ref (.vec 3 0)],.var [strD ⟨#[]⟩,int 1,int 1,int 0,int 0,int 1,.ref (.vec 3 0)],.var [nq,int 0,nq],.var [int 0],.gone,.gone,.gone,.gone,.gone,.gone,.vec [[int 0,int 1,int 6],[int 0,int 2,int 3],[int 1,int 3,int 6],[int 1,int 4,int 6],[int 2,int 3,int 3],[int 2,int 4,int 3],[int 3,int 5,int 6],[int 4,int 5,int 4]] 7 3,.gone,.gone,.gone,.gone,.gone,.gone,.gone,.gone,.gone,.gone,.var [int 0],.var [int 5],.vec [[int 6],[int 0],[int 6],[int 0],[int 0],[int 0],[int 6],[int 0]] 0 1,.vec [[.ref (.vec 34 1)],[.ref (.vec 36 2)],[.ref (.vec 40 2)],[.ref (.vec 44 2)],[.ref (.vec 48 2)],[.ref (.vec 58 1)]] 0 1,.var [.ref (.vec 16 7),.ref (.vec 29 0),.ref (.vec 30 0)],.gone,.gone,.vec [[int 0],[int 2]] 1 1,.gone,.vec [[int 1],[int 4],[int 6]] 2 1,.gone,.gone,.gone,.vec [[int 3],[int 8],[int 10]] 2 1,.gone,.gone,.gone,.vec [[int 5],[int 9],[int 12]] 2 1,.gone,.gone,.gone,.vec [[int 7],[int 11],[int 14]] 2 1,.gone,.gone,.gone,.gone,.gone,.gone,.gone,.gone,.gone,.vec [[int 13],[int 15]] 1 1,.gone,.gone,.gone,.var [.ref (.ptr 31 0)],.gone,.gone,.gone,.vec [[int 16],[int 0],[int 2],[int 4],[int 6],[int 12]] 0 1,.gone,.gone,.gone,.gone,.gone,.gone,.gone,.gone,.gone,.gone,.gone,.gone,.gone,.gone,.gone,.gone,.gone,.gone,.var [.ref (.vec 66 0)],.var [int 6]],.ret (.ref (.vec 90 0)) [.gone,.vec [[int 7],[int 8]] 0 1,.vec [[int 8],[int 7]] 0 1,.vec [[strD ⟨#[97]⟩,int 6,int 1,bool false,nq,.ref (.vec 1 0)],[strD ⟨#[98]⟩,int 4,int 1,bool false,nq,.ref (.vec 2 0)]] 0 6,.gone,.vec [[int 7,int 0,int 5,int 0,int 6],[int 8,int 0,int 5,int 0,int 3]] 0 5,.var [strD ⟨#[]⟩,int 1,int 1,int 0,int 0,int 1,.ref (.vec 3 0)],.var [strD ⟨#[]⟩,int 1,int 1,int 0,int 0,int 1,.ref (.vec 3 0)],.var [nq,int 0,nq],.var [int 0],.gone,.gone,.gone,.gone,.gone,.gone,.vec [[int 0,int 1,int 6],[int 0,int 2,int 3],[int 1,int 3,int 6],[int 1,int 4,int 6],[int 2,int 3,int 3],[int 2,int 4,int 3],[int 3,int 5,int 6],[int 4,int 5,int 4]] 7 3,.gone,.gone,.gone,.gone,.gone,.gone,.gone,.gone,.gone,.gone,.var [int 0],.var [int 5],.vec [[int 6],[int 0],[int 6],[int 0],[int 0],[int 0],[int 6],[int 0]] 0 1,.vec [[.ref (.vec 34 1)],[.ref (.vec 36 2)],[.ref (.vec 40 2)],[.ref (.vec 44 2)],[.ref (.vec 48 2)],[.ref (.vec 58 1)]] 0 1,.var [.ref (.vec 16 7),.ref (.vec 29 0),.ref (.vec 30 0)],.gone,.gone,.vec [[int 0],[int 2]] 1 1,.gone,.vec [[int 1],[int 4],[int 6]] 2 1,.gone,.gone,.gone,.vec [[int 3],[int 8],[int 10]] 2 1,.gone,.gone,.gone,.vec [[int 5],[int 9],[int 12]] 2 1,.gone,.gone,.gone,.vec [[int 7],[int 11],[int 14]] 2 1,.gone,.gone,.gone,.gone,.gone,.gone,.gone,.gone,.gone,.vec [[int 13],[int 15]] 1 1,.gone,.gone,.gone,.var [.ref (.ptr 31 0)],.gone,.gone,.gone,.vec [[int 16],[int 0],[int 2],[int 4],[int 6],[int 12]] 0 1,.gone,.gone,.gone,.gone,.gone,.gone,.gone,.gone,.gone,.gone,.gone,.gone,.gone,.gone,.gone,.gone,.gone,.gone,.var [.ref (.vec 66 0)],.var [int 6],.gone,.gone,.gone,.vec [[int 16],[int 5],[int 2],[int 8],[int 10],[int 14]] 0 1,.gone,.gone,.gone,.gone,.gone,.gone,.gone,.gone,.gone,.gone,.gone,.gone,.gone,.gone,.gone,.gone,.gone,.gone]⟩
theorem s19m2_ok:s19m2.Ok Tryz.prog Γ0:=Memo.ok_of pok (ms:=[]) (by kernel_rfl) trivial
def s19m3:Memo:=⟨42,[int 6,.ref (.vec 16 7),int 0,int 5],[.gone,.vec [[int 7],[int 8]] 0 1,.vec [[int 8],[int 7]] 0 1,.vec [[strD ⟨#[97]⟩,int 6,int 1,bool false,nq,.ref (.vec 1 0)],[strD ⟨#[98]⟩,int 4,int 1,bool false,nq,.ref (.vec 2 0)]] 0 6,.gone,.vec [[int 7,int 0,int 5,int 0,int 6],[int 8,int 0,int 5,int 0,int 3]] 0 5,.var [strD ⟨#[]⟩,int 1,int 1,int 0,int 0,int 1,.ref (.vec 3 0)],.var [strD ⟨#[]⟩,int 1,int 1,int 0,int 0,int 1,.ref (.vec 3 0)],.var [nq,int 0,nq],.var [int 0],.gone,.gone,.gone,.gone,.gone,.gone,.vec [[int 0,int 1,int 6],[int 0,int 2,int 3],[int 1,int 3,int 6],[int 1,int 4,int 6],[int 2,int 3,int 3],[int 2,int 4,int 3],[int 3,int 5,int 6],[int 4,int 5,int 4]] 7 3,.gone,.gone,.gone,.gone,.gone,.gone,.gone,.gone,.gone,.gone],.ret (.tup [.ref (.vec 29 0),.ref (.vec 122 0),int 0]) [.gone,.vec [[int 7],[int 8]] 0 1,.vec [[int 8],[int 7]] 0 1,.vec [[strD ⟨#[97]⟩,int 6,int 1,bool false,nq,.ref (.vec 1 0)],[strD ⟨#[98]⟩,int 4,int 1,bool false,nq,.ref (.vec 2 0)]] 0 6,.gone,.vec [[int 7,int 0,int 5,int 0,int 6],[int 8,int 0,int 5,int 0,int 3]] 0 5,.var [strD ⟨#[]⟩,int 1,int 1,int 0,int 0,int 1,.ref (.vec 3 0)],.var [strD ⟨#[]⟩,int 1,int 1,int 0,int 0,int 1,.ref (.vec 3 0)],.var [nq,int 0,nq],.var [int 0],.gone,.gone,.gone,.gone,.gone,.gone,.vec [[int 0,int 1,int 6],[int 0,int 2,int 3],[int 1,int 3,int 6],[int 1,int 4,int 6],[int 2,int 3,int 3],[int 2,int 4,int 3],[int 3,int 5,int 6],[int 4,int 5,int 4]] 7 3,.gone,.gone,.gone,.gone,.gone,.gone,.gone,.gone,.gone,.gone,.gone,.gone,.vec [[int 6],[int 3],[int 6],[int 0],[int 0],[int 3],[int 6],[int 3]] 0 1,.gone,.gone,.gone,.gone,.gone,.gone,.gone,.gone,.gone,.gone,.gone,.gone,.gone,.gone,.gone,.gone,.gone,.gone,.gone,.gone,.gone,.gone,.gone,.gone,.gone,.gone,.gone,.gone,.gone,.gone,.gone,.gone,.gone,.gone,.gone,.gone,.gone,.gone,.gone,.gone,.gone,.gone,.gone,.gone,.gone,.gone,.gone,.gone,.gone,.gone,.gone,.gone,.gone,.gone,.gone,.gone,.gone,.gone,.gone,.gone,.gone,.gone,.gone,.gone,.gone,.gone,.gone,.gone,.gone,.gone,.gone,.gone,.gone,.gone,.gone,.gone,.gone,.gone,.gone,.gone,.gone,.gone,.gone,.gone,.gone,.gone,.gone,.gone,.gone,.gone,.gone,.gone,.vec [[bool true],[bool false],[bool false],[bool false],[bool false],[bool false]] 0 1]⟩
theorem s19m3_ok:s19m3.Ok Tryz.prog Γ0:=Memo.ok_of pok (ms:=[s19m0,s19m1,s19m2]) (by kernel_rfl) ⟨s19m0_ok,s19m1_ok,s19m2_ok,trivial⟩
def s19m4:Memo:=⟨19,[.agg [strD ⟨#[]⟩,int 1,int 1,int 0,int 0,int 1,.ref (.vec 3 0)],.ref (.vec 5 0)],[.gone,.vec [[int 7],[int 8]] 0 1,.vec [[int 8],[int 7]] 0 1,.vec [[strD ⟨#[97]⟩,int 6,int 1,bool false,nq,.ref (.vec 1 0)],[strD ⟨#[98]⟩,int 4,int 1,bool false,nq,.ref (.vec 2 0)]] 0 6,.gone,.vec [[int 7,int 0,int 5,int 0,int 6],[int 8,int 0,int 5,int 0,int 3]] 0 5,.var [strD ⟨#[]⟩,int 1,int 1,int 0,int 0,int 1,.ref (.vec 3 0)]],.ret (.tup [.agg [.ref (.vec 141 1),int 1,.ref (.vec 122 0)],int 0]) [.gone,.vec [[int 7],[int 8]] 0 1,.vec [[int 8],[int 7]] 0 1,.vec [[strD ⟨#[97]⟩,int 6,int 1,bool false,nq,.ref (.vec 1 0)],[strD ⟨#[98]⟩,int 4,int 1,bool false,nq,.ref (.vec 2 0)]] 0 6,.gone,.vec [[int 7,int 0,int 5,int 0,int 6],[int 8,int 0,int 5,int 0,int 3]] 0 5,.var [strD ⟨#[]⟩,int 1,int 1,int 0,int 0,int 1,.ref (.vec 3 0)],.gone,.gone,.gone,.gone,.gone,.gone,.gone,.gone,.gone,.gone,.gone,.gone,.gone,.gone,.gone,.gone,.gone,.gone,.gone,.gone,.gone,.gone,.gone,.gone,.gone,.gone,.gone,.gone,.gone,.gone,.gone,.gone,.gone,.gone,.gone,.gone,.gone,.gone,.gone,.gone,.gone,.gone,.gone,.gone,.gone,.gone,.gone,.gone,.gone,.gone,.gone,.gone,.gone,.gone,.gone,.gone,.gone,.gone,.gone,.gone,.gone,.gone,.gone,.gone,.gone,.gone,.gone,.gone,.gone,.gone,.gone,.gone,.gone,.gone,.gone,.gone,.gone,.gone,.gone,.gone,.gone,.gone,.gone,.gone,.gone,.gone,.gone,.gone,.gone,.gone,.gone,.gone,.gone,.gone,.gone,.gone,.gone,.gone,.gone,.gone,.gone,.gone,.gone,.gone,.gone,.gone,.gone,.gone,.gone,.gone,.gone,.gone,.gone,.gone,.gone,.vec [[bool true],[bool false],[bool false],[bool false],[bool false],[bool false]] 0 1,.gone,.gone,.gone,.gone,.gone,.gone,.gone,.gone,.gone,.gone,.gone,.gone,.gone,.gone,.gone,.gone,.gone,.gone,.vec [[int 0,int 0,int 6],[int 1,int 1,int 3]] 1 3,.gone,.gone,.gone,.gone,.gone,.gone,.gone,.gone,.gone]⟩
theorem s19m4_ok:s19m4.Ok Tryz.prog Γ0:=Memo.ok_of pok (ms:=[s19m3]) (by kernel_rfl) ⟨s19m3_ok,trivial⟩
def s19m5:Memo:=⟨16,[.agg [strD ⟨#[]⟩,int 1,int 1,int 0,int 0,int 1,.ref (.vec 3 0)],.ref (.vec 5 0)],[.gone,.vec [[int 7],[int 8]] 0 1,.vec [[int 8],[int 7]] 0 1,.vec [[strD ⟨#[97]⟩,int 6,int 1,bool false,nq,.ref (.vec 1 0)],[strD ⟨#[98]⟩,int 4,int 1,bool false,nq,.ref (.vec 2 0)]] 0 6,.gone,.vec [[int 7,int 0,int 5,int 0,int 6],[int 8,int 0,int 5,int 0,int 3]] 0 5,.var [strD ⟨#[]⟩,int 1,int 1,int 0,int 0,int 1,.ref (.vec 3 0)],.gone,.gone,.gone,.gone,.gone,.gone,.gone,.gone,.gone,.gone,.gone,.gone,.gone,.gone,.gone,.gone,.gone,.gone,.gone,.gone,.gone,.gone,.gone,.gone,.gone,.gone,.gone,.gone,.gone,.gone,.gone,.gone,.gone,.gone,.gone,.gone,.gone,.gone,.gone,.gone,.gone,.gone,.gone,.gone,.gone,.gone,.gone,.gone,.gone,.gone,.gone,.gone,.gone,.gone,.gone,.gone,.gone,.gone,.gone,.gone,.gone,.gone,.gone,.gone,.gone,.gone,.gone,.gone,.gone,.gone,.gone,.gone,.gone,.gone,.gone,.gone,.gone,.gone,.gone,.gone,.gone,.gone,.gone,.gone,.gone,.gone,.gone,.gone,.gone,.gone,.gone,.gone,.gone,.gone,.gone,.gone,.gone,.gone,.gone,.gone,.gone,.gone,.gone,.gone,.gone,.gone,.gone,.gone,.gone,.gone,.gone,.gone,.gone,.gone,.gone,.vec [[bool true],[bool false],[bool false],[bool false],[bool false],[bool false]] 0 1,.gone,.gone,.gone,.gone,.gone,.gone,.gone,.gone,.gone,.gone,.gone,.gone,.gone,.gone,.gone,.gone,.gone,.gone,.vec [[int 0,int 0,int 6],[int 1,int 1,int 3]] 1 3,.gone,.gone,.gone,.gone,.gone,.gone,.gone,.gone,.gone,.var [.ref (.vec 141 1),int 1,.ref (.vec 122 0)],.gone,.gone,.gone,.gone,.gone,.gone,.gone,.gone,.gone,.gone,.gone,.gone,.gone,.gone,.gone,.gone,.gone,.gone,.gone,.gone,.vec [[bool true],[bool false]] 0 1,.gone,.gone,.gone,.gone,.gone,.gone,.gone,.var [nq,int 0,.ref (.vec 172 0)],.var [strD ⟨#[]⟩,int 1,int 1,int 0,int 0,int 1,.ref (.vec 183 0)],.vec [[int 7]] 0 1,.vec [[strD ⟨#[]⟩,int 6,int 0,bool true,nq,.ref (.vec 182 0)]] 0 6,.gone,.gone,.gone,.gone,.gone,.gone,.gone,.gone,.gone,.gone,.gone,.gone,.gone,.vec [[int 3,int 0,int 0,int 0,int 1]] 0 5,.var [nq,int 0,nq]],.ret (.tup [int 6,.ref (.vec 205 7),int 0]) [.gone,.vec [[int 7],[int 8]] 0 1,.vec [[int 8],[int 7]] 0 1,.vec [[strD ⟨#[97]⟩,int 6,int 1,bool false,nq,.ref (.vec 1 0)],[strD ⟨#[98]⟩,int 4,int 1,bool false,nq,.ref (.vec 2 0)]] 0 6,.gone,.vec [[int 7,int 0,int 5,int 0,int 6],[int 8,int 0,int 5,int 0,int 3]] 0 5,.var [strD ⟨#[]⟩,int 1,int 1,int 0,int 0,int 1,.ref (.vec 3 0)],.gone,.gone,.gone,.gone,.gone,.gone,.gone,.gone,.gone,.gone,.gone,.gone,.gone,.gone,.gone,.gone,.gone,.gone,.gone,.gone,.gone,.gone,.gone,.gone,.gone,.gone,.gone,.gone,.gone,.gone,.gone,.gone,.gone,.gone,.gone,.gone,.gone,.gone,.gone,.gone,.gone,.gone,.gone,.gone,.gone,.gone,.gone,.gone,.gone,.gone,.gone,.gone,.gone,.gone,.gone,.gone,.gone,.gone,.gone,.gone,.gone,.gone,.gone,.gone,.gone,.gone,.gone,.gone,.gone,.gone,.gone,.gone,.gone,.gone,.gone,.gone,.gone,.gone,.gone,.gone,.gone,.gone,.gone,.gone,.gone,.gone,.gone,.gone,.gone,.gone,.gone,.gone,.gone,.gone,.gone,.gone,.gone,.gone,.gone,.gone,.gone,.gone,.gone,.gone,.gone,.gone,.gone,.gone,.gone,.gone,.gone,.gone,.gone,.gone,.gone,.vec [[bool true],[bool false],[bool false],[bool false],[bool false],[bool false]] 0 1,.gone,.gone,.gone,.gone,.gone,.gone,.gone,.gone,.gone,.gone,.gone,.gone,.gone,.gone,.gone,.gone,.gone,.gone,.vec [[int 0,int 0,int 6],[int 1,int 1,int 3]] 1 3,.gone,.gone,.gone,.gone,.gone,.gone,.gone,.gone,.gone,.var [.ref (.vec 141 1),int 1,.ref (.vec 122 0)],.gone,.gone,.gone,.gone,.gone,.gone,.gone,.gone,.gone,.gone,.gone,.gone,.gone,.gone,.gone,.gone,.gone,.gone,.gone,.gone,.vec [[bool true],[bool false]] 0 1,.gone,.gone,.gone,.gone,.gone,.gone,.gone,.var [nq,int 0,.ref (.vec 172 0)],.var [strD ⟨#[]⟩,int 1,int 1,int 0,int 0,int 1,.ref (.vec 183 0)],.vec [[int 7]] 0 1,.vec [[strD ⟨#[]⟩,int 6,int 0,bool true,nq,.ref (.vec 182 0)]] 0 6,.gone,.gone,.gone,.gone,.gone,.gone,.gone,.gone,.gone,.gone,.gone,.gone,.gone,.vec [[int 3,int 0,int 0,int 0,int 1]] 0 5,.var [nq,int 0,nq],.gone,.gone,.gone,.gone,.gone,.gone,.vec [[int 0,int 1,int 6],[int 0,int 2,int 3],[int 1,int 3,int 6],[int 1,int 4,int 6],[int 2,int 3,int 3],[int 2,int 4,int 3],[int 3,int 5,int 6],[int 4,int 5,int 4]] 7 3,.gone,.gone,.gone,.gone,.gone,.gone,.gone,.gone,.gone,.gone]⟩
theorem s19m5_ok:s19m5.Ok Tryz.prog Γ0:=Memo.ok_of pok (ms:=[]) (by kernel_rfl) trivial
def s19m6:Memo:=⟨22,[.agg [strD ⟨#[]⟩,int 1,int 1,int 0,int 0,int 1,.ref (.vec 3 0)],.ref (.vec 5 0),.ref (.vec 141 1)],[.gone,.vec [[int 7],[int 8]] 0 1,.vec [[int 8],[int 7]] 0 1,.vec [[strD ⟨#[97]⟩,int 6,int 1,bool false,nq,.ref (.vec 1 0)],[strD ⟨#[98]⟩,int 4,int 1,bool false,nq,.ref (.vec 2 0)]] 0 6,.gone,.vec [[int 7,int 0,int 5,int 0,int 6],[int 8,int 0,int 5,int 0,int 3]] 0 5,.var [strD ⟨#[]⟩,int 1,int 1,int 0,int 0,int 1,.ref (.vec 3 0)],.gone,.gone,.gone,.gone,.gone,.gone,.gone,.gone,.gone,.gone,.gone,.gone,.gone,.gone,.gone,.gone,.gone,.gone,.gone,.gone,.gone,.gone,.gone,.gone,.gone,.gone,.gone,.gone,.gone,.gone,.gone,.gone,.gone,.gone,.gone,.gone,.gone,.gone,.gone,.gone,.gone,.gone,.gone,.gone,.gone,.gone,.gone,.gone,.gone,.gone,.gone,.gone,.gone,.gone,.gone,.gone,.gone,.gone,.gone,.gone,.gone,.gone,.gone,.gone,.gone,.gone,.gone,.gone,.gone,.gone,.gone,.gone,.gone,.gone,.gone,.gone,.gone,.gone,.gone,.gone,.gone,.gone,.gone,.gone,.gone,.gone,.gone,.gone,.gone,.gone,.gone,.gone,.gone,.gone,.gone,.gone,.gone,.gone,.gone,.gone,.gone,.gone,.gone,.gone,.gone,.gone,.gone,.gone,.gone,.gone,.gone,.gone,.gone,.gone,.gone,.vec [[bool true],[bool false],[bool false],[bool false],[bool false],[bool false]] 0 1,.gone,.gone,.gone,.gone,.gone,.gone,.gone,.gone,.gone,.gone,.gone,.gone,.gone,.gone,.gone,.gone,.gone,.gone,.vec [[int 0,int 0,int 6],[int 1,int 1,int 3]] 1 3,.gone,.gone,.gone,.gone,.gone,.gone,.gone,.gone,.gone,.var [.ref (.vec 141 1),int 1,.ref (.vec 122 0)],.gone,.gone,.gone,.gone,.gone,.gone,.gone,.gone,.gone,.gone,.gone,.gone,.gone,.gone,.gone,.gone,.gone,.gone,.gone,.gone,.vec [[bool true],[bool false]] 0 1,.gone,.gone,.gone,.gone,.gone,.gone,.gone,.var [nq,int 0,.ref (.vec 172 0)],.var [strD ⟨#[]⟩,int 1,int 1,int 0,int 0,int 1,.ref (.vec 183 0)],.vec [[int 7]] 0 1,.vec [[strD ⟨#[]⟩,int 6,int 0,bool true,nq,.ref (.vec 182 0)]] 0 6,.gone,.gone,.gone,.gone,.gone,.gone,.gone,.gone,.gone,.gone,.gone,.gone,.gone,.vec [[int 3,int 0,int 0,int 0,int 1]] 0 5,.var [nq,int 0,nq],.gone,.gone,.gone,.gone,.gone,.gone,.vec [[int 0,int 1,int 6],[int 0,int 2,int 3],[int 1,int 3,int 6],[int 1,int 4,int 6],[int 2,int 3,int 3],[int 2,int 4,int 3],[int 3,int 5,int 6],[int 4,int 5,int 4]] 7 3,.gone,.gone,.gone,.gone,.gone,.gone,.gone,.gone,.gone,.gone],.ret (bool true) [.gone,.vec [[int 7],[int 8]] 0 1,.vec [[int 8],[int 7]] 0 1,.vec [[strD ⟨#[97]⟩,int 6,int 1,bool false,nq,.ref (.vec 1 0)],[strD ⟨#[98]⟩,int 4,int 1,bool false,nq,.ref (.vec 2 0)]] 0 6,.gone,.vec [[int 7,int 0,int 5,int 0,int 6],[int 8,int 0,int 5,int 0,int 3]] 0 5,.var [strD ⟨#[]⟩,int 1,int 1,int 0,int 0,int 1,.ref (.vec 3 0)],.gone,.gone,.gone,.gone,.gone,.gone,.gone,.gone,.gone,.gone,.gone,.gone,.gone,.gone,.gone,.gone,.gone,.gone,.gone,.gone,.gone,.gone,.gone,.gone,.gone,.gone,.gone,.gone,.gone,.gone,.gone,.gone,.gone,.gone,.gone,.gone,.gone,.gone,.gone,.gone,.gone,.gone,.gone,.gone,.gone,.gone,.gone,.gone,.gone,.gone,.gone,.gone,.gone,.gone,.gone,.gone,.gone,.gone,.gone,.gone,.gone,.gone,.gone,.gone,.gone,.gone,.gone,.gone,.gone,.gone,.gone,.gone,.gone,.gone,.gone,.gone,.gone,.gone,.gone,.gone,.gone,.gone,.gone,.gone,.gone,.gone,.gone,.gone,.gone,.gone,.gone,.gone,.gone,.gone,.gone,.gone,.gone,.gone,.gone,.gone,.gone,.gone,.gone,.gone,.gone,.gone,.gone,.gone,.gone,.gone,.gone,.gone,.gone,.gone,.gone,.vec [[bool true],[bool false],[bool false],[bool false],[bool false],[bool false]] 0 1,.gone,.gone,.gone,.gone,.gone,.gone,.gone,.gone,.gone,.gone,.gone,.gone,.gone,.gone,.gone,.gone,.gone,.gone,.vec [[int 0,int 0,int 6],[int 1,int 1,int 3]] 1 3,.gone,.gone,.gone,.gone,.gone,.gone,.gone,.gone,.gone,.var [.ref (.vec 141 1),int 1,.ref (.vec 122 0)],.gone,.gone,.gone,.gone,.gone,.gone,.gone,.gone,.gone,.gone,.gone,.gone,.gone,.gone,.gone,.gone,.gone,.gone,.gone,.gone,.vec [[bool true],[bool false]] 0 1,.gone,.gone,.gone,.gone,.gone,.gone,.gone,.var [nq,int 0,.ref (.vec 172 0)],.var [strD ⟨#[]⟩,int 1,int 1,int 0,int 0,int 1,.ref (.vec 183 0)],.vec [[int 7]] 0 1,.vec [[strD ⟨#[]⟩,int 6,int 0,bool true,nq,.ref (.vec 182 0)]] 0 6,.gone,.gone,.gone,.gone,.gone,.gone,.gone,.gone,.gone,.gone,.gone,.gone,.gone,.vec [[int 3,int 0,int 0,int 0,int 1]] 0 5,.var [nq,int 0,nq],.gone,.gone,.gone,.gone,.gone,.gone,.vec [[int 0,int 1,int 6],[int 0,int 2,int 3],[int 1,int 3,int 6],[int 1,int 4,int 6],[int 2,int 3,int 3],[int 2,int 4,int 3],[int 3,int 5,int 6],[int 4,int 5,int 4]] 7 3,.gone,.gone,.gone,.gone,.gone,.gone,.gone,.gone,.gone,.gone]⟩
theorem s19m6_ok:s19m6.Ok Tryz.prog Γ0:=Memo.ok_of pok (ms:=[]) (by kernel_rfl) trivial
def s19mR:Memo:=⟨9,[],[],.ret (bool true) []⟩
theorem s19mR_ok:s19mR.Ok Tryz.prog Γ0:=Memo.ok_of pok (ms:=[s19m4,s19m5,s19m6]) (by kernel_rfl) ⟨s19m4_ok,s19m5_ok,s19m6_ok,trivial⟩
theorem sane19_ev(h:List Blk):Ev Tryz.prog Γ0 9 [] h (bool true) h:=Ev.frame0 rfl (Memo.call s19mR_ok rfl) h
theorem few_le{p:ProgT}{l:List AttT}(h:(!fewB p ((l.map AttT.row).length:Int))=false):p.reqs.length≤6∧l.length≤8:=by
 unfold fewB at h
 cases hc:(Dd (((p.reqs.map ReqT.row).length:Int)>6)||Dd (((l.map AttT.row).length:Int)>8))
 ·simp only[Bool.or_eq_false_iff,decide_eq_false_iff_not,List.length_map] at hc
  omega
 ·rw[hc] at h;simp at h
theorem pErr_or(p:ProgT):pErr p=0∨pErr p=190:=by
 unfold pErr
 cases pHead p with
 | true=>exact .inr rfl
 | false =>
  simp only[cond_false]
  cases forL ckF p.reqs () with
  | inl _=>exact .inl rfl
  | inr _=>exact .inr rfl
theorem aErr_or(l:List AttT):aErr l=0∨aErr l=150:=by
 unfold aErr
 cases l.any (fun a=>!attB a) with
 | true=>exact .inr rfl
 | false=>exact .inl rfl
theorem net_err{p:ProgT}{l:List AttT}:(netR p l).2.2=0∧pErr p=0∧aErr l=0∨((netR p l).2.2=150∨(netR p l).2.2=190∨(netR p l).2.2=180):=by
 show(netX p l (sumsR l).2.2).2.2=0∧_∨((netX p l (sumsR l).2.2).2.2=150∨(netX p l (sumsR l).2.2).2.2=190∨(netX p l (sumsR l).2.2).2.2=180)
 unfold netX sumsR
 rcases pErr_or p with h|h<;>rcases aErr_or l with h2|h2<;>rw[h,h2]<;>simp
theorem useL_len(fl:List Int):∀(ts:List (Int×Int×Int)) (c:Nat),(useL fl ts c).length≤ts.length
 | [],c=>Nat.le_refl _
 | t::ts,c=>by
  have:=useL_len fl ts (c+1)
  simp only[useL]
  split<;>simp only[List.length_cons]<;>omega
section
variable {es:List EdgT} {fs:List Int} {n:Nat}
theorem usV_cases{s:List Int×QF}{r:Int}(e0:0≤endA es r):(usV es fs s r=s∧(0<capA es fs r→0≤s.1.getD (endA es r).toNat 0))∨usV es fs s r=(s.1.set (endA es r).toNat r,s.2.push (endA es r)):=by
 have e:(endA es r == -1)=false:=by simp only[beq_eq_false_iff_ne];omega
 unfold usV usG
 cases hc:Dd (capA es fs r>0) with
 | false=>exact .inl ⟨rfl,fun h=>by simp only[decide_eq_false_iff_not] at hc;omega⟩
 | true =>
  simp only
  unfold usY
  rw[e]
  cases hd:Dd (s.1.getD (endA es r).toNat 0≥0) with
  | true=>exact .inl ⟨rfl,fun _=>by simpa using hd⟩
  | false=>exact .inr rfl
theorem push_list(q:QF)(u:Int):(q.push u).list=q.list++[u]:=rfl
theorem foldV(hm:es.length≤1000)(hin:∀x∈es,EdgIn n x):∀(B:List Int) (s:List Int×QF),(∀r∈B,ResOk es.length r)→SOk n s →
  (∀w:Nat,0≤s.1.getD w 0→(B.foldl (usV es fs) s).1.getD w 0=s.1.getD w 0)∧(∀v∈s.2.list,v∈(B.foldl (usV es fs) s).2.list) ∧
  (∀w:Nat,0≤(B.foldl (usV es fs) s).1.getD w 0→0≤s.1.getD w 0∨(w:Int)∈(B.foldl (usV es fs) s).2.list) ∧
  (∀r∈B,0<capA es fs r→0≤(B.foldl (usV es fs) s).1.getD (endA es r).toNat 0)
 | [],s,_,_=>⟨fun _ _=>rfl,fun _ h=>h,fun _ h=>.inl h,fun _ h=>by simp at h⟩
 | r::B,s,hB,hs=>by
  have hr:=hB r (by simp)
  obtain⟨e0,e1⟩:=endA_in hr (by omega) hin
  obtain⟨a,b,c,d⟩:=foldV hm hin B (usV es fs s r) (fun x hx=>hB x (by simp[hx])) (hs.usV hm hin hr)
  have k1:∀w:Nat,0≤s.1.getD w 0→(usV es fs s r).1.getD w 0=s.1.getD w 0:=fun w hw=>usG_keep hw
  have k2:∀v∈s.2.list,v∈(usV es fs s r).2.list:=by
   rcases usV_cases (fs:=fs) (s:=s) e0 with ⟨h,_⟩|h
   ·rw[h];exact fun _ h=>h
   ·rw[h]
    intro v hv
    simp only[push_list,List.mem_append]
    exact .inl hv
  have k3:∀w:Nat,0≤(usV es fs s r).1.getD w 0→0≤s.1.getD w 0∨(w:Int)∈(usV es fs s r).2.list:=by
   intro w hw
   rcases usV_cases (fs:=fs) (s:=s) e0 with ⟨h,_⟩|h
   ·rw[h] at hw;exact .inl hw
   ·rw[h] at hw ⊢
    simp only[getDG_set] at hw
    by_cases hc:(endA es r).toNat=w
    ·right
     simp only[push_list,List.mem_append,List.mem_singleton]
     right;omega
    ·rw[if_neg (fun q=>hc q.1)] at hw
     exact .inl hw
  have k4:0<capA es fs r→0≤(usV es fs s r).1.getD (endA es r).toNat 0:=by
   intro hc
   rcases usV_cases (fs:=fs) (s:=s) e0 with ⟨h,g⟩|h
   ·rw[h];exact g hc
   ·rw[h]
    simp only[getDG_set]
    rw[if_pos ⟨trivial,by rw[hs.len];exact e1⟩]
    exact hr.1
  simp only[List.foldl_cons]
  refine⟨fun w hw=>?_,fun v hv=>b v (k2 v hv),fun w hw=>?_,fun x hx hc=>?_⟩
  ·rw[a w (by rw[k1 w hw];exact hw),k1 w hw]
  ·rcases c w hw with h|h
   ·rcases k3 w h with h|h
    ·exact .inl h
    ·exact .inr (b _ h)
   ·exact .inr h
  ·rcases List.mem_cons.1 hx with rfl|hx
   ·have:=k4 hc
    rw[a _ this];exact this
   ·exact d x hx hc
def Clo(adj:List (List Int))(es:List EdgT)(fs:List Int)(n:Nat)(s:List Int×QF):Prop:=∀w:Nat,w<n→0≤s.1.getD w 0→(w:Int)∈s.2.list∨∀r∈adj.getD w [],0<capA es fs r→0≤s.1.getD (endA es r).toNat 0
theorem clo_bfs(hm:es.length≤1000)(hin:∀x∈es,EdgIn n x){adj:List (List Int)}(ha:adj.length=n)(hB:∀B∈adj,∀r∈B,ResOk es.length r){k:Nat}{s f:List Int×QF}(hb:Bfs adj es fs (-1) k s f):
  SOk n s→Clo adj es fs n s→∀w:Nat,w<n→0≤f.1.getD w 0→∀r∈adj.getD w [],0<capA es fs r→0≤f.1.getD (endA es r).toNat 0:=by
 have key:∀{s:List Int×QF} {v:Int} {rest:List Int},SOk n s→s.2.list=v::rest→∀r∈adj.getD v.toNat [],ResOk es.length r:=by
  intro s v rest hs hl r hr
  obtain⟨v0,v1⟩:=hs.mem v (by rw[hl];simp)
  have:adj.getD v.toNat []=adj[v.toNat]'(by omega):=by simp[List.getD,ha,v1]
  rw[this] at hr
  exact hB _ (List.getElem_mem _) r hr
 induction hb with
 | done he =>
  intro _ h w hw hm0
  rcases h w hw hm0 with h1|h1
  ·rw[he] at h1;simp at h1
  ·exact h1
 | stop hl hf =>
  rename_i s v rest f
  intro hs
  have:=forL_inl1 (es:=es) (fs:=fs) (adj.getD v.toNat []) (s.1,s.2.pop) (fun r hr=>(endA_in (key hs hl r hr) (by omega) hin).1)
  rw[hf] at this
  cases this
 | step hl hf hk ih =>
  rename_i s v rest s' f k
  intro hs h
  have hB':=key hs hl
  have e:=forL_inl1 (es:=es) (fs:=fs) (adj.getD v.toNat []) (s.1,s.2.pop) (fun r hr=>(endA_in (hB' r hr) (by omega) hin).1)
  rw[hf] at e
  have e:=Sum.inl.inj e
  obtain⟨a,b,c,d⟩:=foldV (fs:=fs) hm hin (adj.getD v.toNat []) (s.1,s.2.pop) hB' (hs.pop hl)
  rw[←e] at a b c d
  have v0:=(hs.mem v (by rw[hl];simp)).1
  refine ih (SOk.forL hm hin _ _ _ hB' (hs.pop hl) hf) ?_
  intro w hw hm1
  rcases c w hm1 with h1|h1
  ·rcases h w hw h1 with h2|h2
   ·rw[hl] at h2
    rcases List.mem_cons.1 h2 with h3|h3
    ·right
     intro r hr hc
     have:adj.getD w []=adj.getD v.toNat []:=by rw[←h3,Int.toNat_natCast]
     rw[this] at hr
     exact d r hr hc
    ·left
     exact b _ (by rw[QF.pop_list hl];exact h3)
   ·right
    intro r hr hc
    have:=h2 r hr hc
    rw[a _ this];exact this
  ·exact .inl h1
theorem adjP_mem:∀(l:List EdgT) (i j:Nat) (x:EdgT),l[j]? = some x→(2*((i+j:Nat):Int)∈adjP x.frm l i∧2*((i+j:Nat):Int)+1∈adjP x.to l i)
 | [],_,_,_,h=>by simp at h
 | y::l,i,0,x,h=>by
  simp only[List.getElem?_cons_zero,Option.some.injEq] at h
  subst h
  simp[adjP]
 | y::l,i,j+1,x,h=>by
  obtain⟨a,b⟩:=adjP_mem l (i+1) j x (by simpa using h)
  rw[show i+1+j=i+(j+1) by omega] at a b
  simp only[adjP,List.mem_append]
  exact⟨.inr (.inr a),.inr (.inr b)⟩
theorem cut_closed{frm to:Int}(hF:FlOk es fs)(hin:∀x∈es,EdgIn n x)(hfr:0≤frm∧frm.toNat<n)(hto:to.toNat<n){k:Nat}{f:List Int×QF}(hb:Bfs (adjR n es) es fs to k (bs0 n es.length frm) f)(hx:f.1.getD to.toNat 0<0)(i:Nat)(hi:i<es.length):
  (0≤f.1.getD (es.getD i ⟨0,0,0⟩).frm.toNat 0→fs.getD i 0<(es.getD i ⟨0,0,0⟩).most→0≤f.1.getD (es.getD i ⟨0,0,0⟩).to.toNat 0) ∧
  (0≤f.1.getD (es.getD i ⟨0,0,0⟩).to.toNat 0→0<fs.getD i 0→0≤f.1.getD (es.getD i ⟨0,0,0⟩).frm.toNat 0):=by
 have hm:=hF.sz
 have hB:∀B∈adjR n es,∀r∈B,ResOk es.length r:=fun B hb=>(adjR_ok n hm B hb).1
 have hs:=bs0_ok (es:=es) hfr
 obtain⟨k',f',h1,_,h3⟩:=bfs_full hm hin hto (adjR_len n es) hB hb hs
 have e:=h3 hx
 subst e
 have hw:IntKind.i64.wrap ((es.length:Int)*2)=(es.length:Int)*2:=wrap_i64 (by omega) (by omega)
 have hc0:Clo (adjR n es) es fs n (bs0 n es.length frm):=by
  intro w hw' hm0
  left
  simp only[bs0,by0,getDG_set,List.length_replicate] at hm0
  by_cases hc:frm.toNat=w
  ·simp only[QF.list,List.mem_singleton];omega
  ·rw[if_neg (fun q=>hc q.1)] at hm0
   have:(List.replicate n (-1:Int)).getD w 0 = -1:=by simp[List.getD,hw']
   rw[this] at hm0
   omega
 have key:=clo_bfs hm hin (adjR_len n es) hB h1 hs hc0
 have hxi:es[i]? = some (es.getD i ⟨0,0,0⟩):=edE hi
 obtain⟨x1,x2,x3,x4⟩:=hin _ (List.mem_of_getElem? hxi)
 obtain⟨m1,m2⟩:=adjP_mem es 0 i _ hxi
 rw[Nat.zero_add] at m1 m2
 constructor
 ·intro ha hlt
  have hr:2*(i:Int)∈(adjR n es).getD (es.getD i ⟨0,0,0⟩).frm.toNat []:=by
   rw[adjR_p hm hin (by omega),Int.toNat_of_nonneg x1];exact m1
  have:=key _ (by omega) ha _ hr (by rw[cap0 hF hi];omega)
  rw[end0 (by omega)] at this
  exact this
 ·intro ha hlt
  have hr:2*(i:Int)+1∈(adjR n es).getD (es.getD i ⟨0,0,0⟩).to.toNat []:=by
   rw[adjR_p hm hin (by omega),Int.toNat_of_nonneg x3];exact m2
  have:=key _ (by omega) ha _ hr (by rw[cap1 (by omega)];omega)
  rw[end1 (by omega)] at this
  exact this
end
def cutL(S:Int→Bool):List EdgT→Int
 | []=>0
 | x::es=>(bif S x.frm&&!S x.to then x.most else 0)+cutL S es
def netL(S:Int→Bool):List EdgT→List Int→Int
 | x::es,f::fs=>(bif S x.frm then f else 0) - (bif S x.to then f else 0)+netL S es fs
 | _,_=>0
theorem cut_net{S:Int→Bool}:∀(es:List EdgT) (fs:List Int),fs.length=es.length→(∀i,i<es.length→(S (es.getD i ⟨0,0,0⟩).frm=true→S (es.getD i ⟨0,0,0⟩).to=false→fs.getD i 0=(es.getD i ⟨0,0,0⟩).most)∧(S (es.getD i ⟨0,0,0⟩).frm=false→S (es.getD i ⟨0,0,0⟩).to=true→fs.getD i 0=0))→cutL S es=netL S es fs
 | [],fs,_,_=>by cases fs<;>rfl
 | x::es,[],h,_=>by simp at h
 | x::es,f::fs,h,hp=>by
  have h0:=hp 0 (by simp)
  have ih:=cut_net es fs (by simpa using h) (fun i hi=>by have:=hp (i+1) (by simpa using hi);simpa using this)
  simp only[List.getD_cons_zero] at h0
  obtain⟨a,b⟩:=h0
  simp only[cutL,netL,ih]
  cases h1:S x.frm<;>cases h2:S x.to
  ·simp
  ·have:=b h1 h2
   simp[this]
  ·have:=a h1 h2
   simp[this]
  ·simp
theorem sumK_congr{f g:Nat→Int}:∀K,(∀k,k<K→f k=g k)→sumK f K=sumK g K
 | 0,_=>rfl
 | K+1,h=>by
  simp only[sumK]
  rw[sumK_congr K (fun k hk=>h k (by omega)),h K (by omega)]
theorem net_sum{S:Int→Bool}{n:Nat}:∀(es:List EdgT) (fs:List Int),(∀x∈es,EdgIn n x)→netL S es fs=sumK (fun w=>bif S (w:Int) then outL es fs (w:Int) else 0) n
 | [],fs,_=>by
  have:sumK (fun w=>bif S (w:Int) then outL [] fs (w:Int) else 0) n=sumK (fun _=>0) n:=sumK_congr n (fun k _=>by cases fs<;>cases S (k:Int)<;>rfl)
  rw[this,sumK_zero]
  cases fs<;>rfl
 | x::es,[],_=>by
  have:sumK (fun w=>bif S (w:Int) then outL (x::es) [] (w:Int) else 0) n=sumK (fun _=>0) n:=sumK_congr n (fun k _=>by cases S (k:Int)<;>rfl)
  rw[this,sumK_zero]
  rfl
 | x::es,f::fs,hin=>by
  obtain⟨x1,x2,x3,x4⟩:=hin x (by simp)
  have ih:=net_sum (S:=S) es fs (fun y hy=>hin y (by simp[hy]))
  have e:sumK (fun w=>bif S (w:Int) then outL (x::es) (f::fs) (w:Int) else 0) n
    = sumK (fun w=>((if x.frm=(w:Int) then (bif S x.frm then f else 0) else 0)+(if x.to=(w:Int) then (-(bif S x.to then f else 0)) else 0))+(bif S (w:Int) then outL es fs (w:Int) else 0)) n:=by
   refine sumK_congr n (fun w _=>?_)
   simp only[outL]
   by_cases h1:x.frm=(w:Int)
   ·by_cases h2:x.to=(w:Int)
    ·rw[if_pos h1,if_pos h2,if_pos h1,if_pos h2,h1,h2]
     cases S (w:Int)<;>simp<;>omega
    ·rw[if_pos h1,if_neg h2,if_pos h1,if_neg h2,h1]
     cases S (w:Int)<;>simp
   ·by_cases h2:x.to=(w:Int)
    ·rw[if_neg h1,if_pos h2,if_neg h1,if_pos h2,h2]
     cases S (w:Int)<;>simp
    ·rw[if_neg h1,if_neg h2,if_neg h1,if_neg h2]
     cases S (w:Int)<;>simp
  rw[e,sumK_add,sumK_add,sumK_one x1,sumK_one x3,if_pos x2,if_pos x4,←ih]
  simp only[netL]
  omega
theorem sumK_front1{f:Nat→Int}:∀m:Nat,(∀w,0<w→w<m+1→f w=0)→sumK f (m+1)=f 0
 | 0,_=>by simp[sumK]
 | m+1,h=>by
  rw[sumK,sumK_front1 m (fun w h1 h2=>h w h1 (by omega)),h (m+1) (by omega) (by omega)]
  omega
theorem sumK_ends{f:Nat→Int}{m:Nat}(h:∀w,0<w→w<m+1→f w=0):sumK f (m+2)=f 0+f (m+1):=by
 rw[sumK,sumK_front1 m h]
theorem netL_true:∀(es:List EdgT) (fs:List Int),netL (fun _=>true) es fs=0
 | [],fs=>by cases fs<;>rfl
 | x::es,[]=>rfl
 | x::es,f::fs=>by simp[netL,netL_true es fs]
theorem cut_out{es:List EdgT}{fl:List Int}{n m:Nat}(hn:n=m+2)(hF:Flow es 0 ((n:Int) - 1) fl)(hin:∀x∈es,EdgIn n x){k:Nat}{f:List Int×QF}(hb:Bfs (adjR n es) es fl ((n:Int) - 1) k (bs0 n es.length 0) f)(hx:f.1.getD ((n:Int) - 1).toNat 0<0)(h0:0≤f.1.getD 0 0):
  cutL (fun v=>Dd (0≤f.1.getD v.toNat 0)) es = - outL es fl ((n:Int) - 1):=by
 have hc:=cut_closed hF.ok hin (frm:=0) ⟨by omega,by simp;omega⟩ (by omega) hb hx
 rw[cut_net es fl hF.ok.len (fun i hi=>?_)]
 ·rw[net_sum es fl hin]
  have e0:=net_sum (S:=fun _=>true) es fl hin
  rw[netL_true] at e0
  subst hn
  rw[sumK_ends (fun w h1 h2=>by
   have:outL es fl (w:Int)=0:=hF.cons _ (by omega) (by omega)
   simp[this])]
  rw[sumK_ends (fun w h1 h2=>by
   have:outL es fl (w:Int)=0:=hF.cons _ (by omega) (by omega)
   simp[this])] at e0
  have e1:((m+2:Nat):Int) - 1=((m+1:Nat):Int):=by omega
  rw[e1] at hx ⊢
  rw[Int.toNat_natCast] at hx
  simp only[Int.toNat_natCast,h0,decide_true,cond_true] at e0 ⊢
  have:Dd (0≤f.1.getD (m+1) 0)=false:=by simp only[decide_eq_false_iff_not];omega
  rw[this]
  simp only[cond_false]
  omega
 ·obtain⟨a,b⟩:=hc i hi
  have hl:=hF.ok.lo i hi
  have hh:=hF.ok.hi i hi
  simp only[decide_eq_true_eq,decide_eq_false_iff_not]
  refine⟨fun h1 h2=>?_,fun h1 h2=>?_⟩
  ·by_cases hlt:fl.getD i 0<(es.getD i ⟨0,0,0⟩).most
   ·exact absurd (a h1 hlt) h2
   ·omega
  ·by_cases hlt:0<fl.getD i 0
   ·exact absurd (b h2 hlt) h1
   ·omega
theorem n4L_sink{mid sink:Int}(h0:0≤mid)(h1:mid≤1000):∀(qs:List ReqT) (k:Nat) (gs:List Int),k+qs.length≤1000→mid+((k+qs.length:Nat):Int)≤sink→qs.length≤gs.length→outL (n4L mid sink qs k) gs sink = - sumK (fun j=>gs.getD j 0) qs.length
 | [],k,gs,_,_,_=>by cases gs<;>rfl
 | q::qs,k,[],_,_,h=>by simp at h
 | q::qs,k,g::gs,hk,hs,hg=>by
  simp only[List.length_cons] at hk hs hg
  have e:IntKind.i64.wrap (mid+(k:Int))=mid+k:=wrap_i64 (by omega) (by omega)
  have e2:n4L mid sink qs ((k:Int)+1)=n4L mid sink qs ((k+1:Nat):Int):=rfl
  have ih:=n4L_sink (sink:=sink) h0 h1 qs (k+1) gs (by omega) (by omega) (by omega)
  simp only[n4L,outL,e,e2]
  rw[if_neg (by omega),if_pos trivial,ih,List.length_cons,sumK_front]
  simp only[List.getD_cons_zero,List.getD_cons_succ]
  omega
theorem sQ_zero{i:Int}:∀(ts:List (Int×Int×Int)) (gs:List Int),(∀t∈ts,t.2.1 ≠ i)→sQ i ts gs=0
 | [],gs,_=>sQ_nil
 | t::ts,[],_=>rfl
 | t::ts,g::gs,h=>by
  simp only[sQ]
  rw[if_neg (h t (by simp)),sQ_zero ts gs (fun x hx=>h x (by simp[hx]))];rfl
section
variable {p:ProgT} {l:List AttT} {fl:List Int}
theorem out_sink(h:NetOk p l)(hF:Flow (net3 p l) 0 ((nN p l:Int) - 1) fl):- outL (net3 p l) fl ((nN p l:Int) - 1)=sumC (useL fl (prs p l 0) l.length):=by
 have hN:nN p l=2+l.length+p.reqs.length:=rfl
 have hls:=h.ls
 have hrs:=h.rs
 have hlen:=hF.ok.len
 rw[net3_length] at hlen
 have hm:=mid_eq h
 have hsk:=sink_eq h
 have hp:=prs_len p l 0
 have ew:(nN p l:Int) - 1=midR l+(p.reqs.length:Int):=by omega
 have es:(nN p l:Int) - 1=sinkR p l:=by omega
 have h1:=n1L_other p (w:=(nN p l:Int) - 1) (by omega) l 0 (fl.take l.length) (by omega) (fun j hj=>by omega)
 have h2:=outL_sQ (mid:=midR l) (i:=(p.reqs.length:Int)) (prs p l 0) ((fl.drop l.length).take (prs p l 0).length) (fun t ht=>by
  obtain⟨a,b,c,d⟩:=prs_in ht
  exact⟨wrap_i64 (by omega) (by omega),by rw[wrap_i64 (by omega) (by omega)];omega⟩)
 rw[sQ_zero _ _ (fun t ht=>by have:=prs_in ht;omega),←ew] at h2
 have h3:=n4L_sink (mid:=midR l) (sink:=sinkR p l) (by omega) (by omega) p.reqs 0 ((fl.drop l.length).drop (prs p l 0).length) (by omega) (by omega) (by rw[List.length_drop,List.length_drop,hp];omega)
 rw[←es] at h3
 have e0:n1L p l ((0:Nat):Int)=n1L p l 0:=rfl
 have e4:n4L (midR l) ((nN p l:Int) - 1) p.reqs ((0:Nat):Int)=n4L (midR l) (sinkR p l) p.reqs 0:=by rw[es];rfl
 rw[e0] at h1
 rw[e4] at h3
 rw[net3_parts,outL_app _ _ _ _ (by rw[n1L_len];omega),n1L_len,outL_app _ _ _ _ (by rw[List.length_map,hp,List.length_drop];omega),List.length_map,h1,h2,h3]
 rw[sumC_sQ (fl_all hF.ok) (K:=p.reqs.length) (prs p l 0) l.length (by omega) (fun t ht=>by have:=prs_in ht;omega)]
 rw[sumK_congr p.reqs.length (g:=fun k=>fl.getD (l.length+pairsN p l+k) 0) (fun k hk=>flow_req h hF hk)]
 rw[sumK_congr p.reqs.length (g:=fun k=>fl.getD (l.length+pairsN p l+k) 0) (fun k hk=>by
  rw[hp,List.drop_drop]
  simp only[List.getD,List.getElem?_drop])]
 omega
end
def sumU(F:UseT→Bool):List UseT→Int
 | []=>0
 | u::us=>(bif F u then u.cr else 0)+sumU F us
theorem sumU_split{S:Int→Bool}{m:Int}:∀(us:List UseT),(∀u∈us,0≤u.cr)→sumC us≤sumU (fun u=>!S (1+u.att)) us+sumU (fun u=>S (m+u.req)) us+sumU (fun u=>S (1+u.att)&&!S (m+u.req)) us
 | [],_=>by simp[sumC,sumU]
 | u::us,h=>by
  have h1:=h u (by simp)
  have h2:=sumU_split (S:=S) (m:=m) us (fun x hx=>h x (by simp[hx]))
  simp only[sumC,sumU]
  cases S (1+u.att)<;>cases S (m+u.req)<;>simp only[Bool.not_true,Bool.not_false,Bool.and_true,Bool.and_false,Bool.true_and,Bool.false_and,cond_true,cond_false]<;>omega
theorem sumU_att{T:Int→Bool}{K:Nat}:∀(us:List UseT),(∀u∈us,0≤u.att∧u.att<K)→sumU (fun u=>T u.att) us=sumK (fun i=>bif T (i:Int) then sumU (fun u=>u.att==(i:Int)) us else 0) K
 | [],_=>by
  rw[sumK_congr K (g:=fun _=>0) (fun k _=>by cases T (k:Int)<;>rfl),sumK_zero]
  rfl
 | u::us,h=>by
  obtain⟨a,b⟩:=h u (by simp)
  have ih:=sumU_att (T:=T) us (fun x hx=>h x (by simp[hx]))
  rw[sumK_congr K (g:=fun i=>(if u.att=(i:Int) then (bif T u.att then u.cr else 0) else 0)+(bif T (i:Int) then sumU (fun u=>u.att==(i:Int)) us else 0)) (fun k _=>by
   simp only[sumU]
   by_cases e:u.att=(k:Int)
   ·rw[if_pos e,e]
    cases T (k:Int)<;>simp
   ·have:(u.att==(k:Int))=false:=by simpa using e
    rw[if_neg e,this]
    cases T (k:Int)<;>simp)]
  rw[sumK_add,sumK_one a,if_pos b,←ih]
  rfl
theorem sumU_req{T:Int→Bool}{K:Nat}:∀(us:List UseT),(∀u∈us,0≤u.req∧u.req<K)→sumU (fun u=>T u.req) us=sumK (fun i=>bif T (i:Int) then sumU (fun u=>u.req==(i:Int)) us else 0) K
 | [],_=>by
  rw[sumK_congr K (g:=fun _=>0) (fun k _=>by cases T (k:Int)<;>rfl),sumK_zero]
  rfl
 | u::us,h=>by
  obtain⟨a,b⟩:=h u (by simp)
  have ih:=sumU_req (T:=T) us (fun x hx=>h x (by simp[hx]))
  rw[sumK_congr K (g:=fun i=>(if u.req=(i:Int) then (bif T u.req then u.cr else 0) else 0)+(bif T (i:Int) then sumU (fun u=>u.req==(i:Int)) us else 0)) (fun k _=>by
   simp only[sumU]
   by_cases e:u.req=(k:Int)
   ·rw[if_pos e,e]
    cases T (k:Int)<;>simp
   ·have:(u.req==(k:Int))=false:=by simpa using e
    rw[if_neg e,this]
    cases T (k:Int)<;>simp)]
  rw[sumK_add,sumK_one a,if_pos b,←ih]
  rfl
theorem cutL_app{S:Int→Bool}:∀(a b:List EdgT),cutL S (a++b)=cutL S a+cutL S b
 | [],b=>by simp[cutL]
 | x::a,b=>by simp only[List.cons_append,cutL,cutL_app a b];omega
theorem cut_1{S:Int→Bool}(h0:S 0=true)(p:ProgT){g:Nat→Int}:∀(l:List AttT) (i:Nat),i+l.length≤1000→(∀(j:Nat) (a:AttT),l[j]? = some a→g (i+j)≤IntKind.i64.wrap (a.credits*p.uses))→sumK (fun j=>bif !S (1+((i+j:Nat):Int)) then g (i+j) else 0) l.length≤cutL S (n1L p l i)
 | [],i,_,_=>Int.le_refl _
 | a::l,i,hi,h=>by
  simp only[List.length_cons] at hi
  have e:IntKind.i64.wrap (1+(i:Int))=1+i:=wrap_i64 (by omega) (by omega)
  have e2:n1L p l ((i:Int)+1)=n1L p l ((i+1:Nat):Int):=rfl
  have ih:=cut_1 h0 p (g:=g) l (i+1) (by omega) (fun j b hb=>by have:=h (j+1) b (by simpa using hb);rw[show i+1+j=i+(j+1) by omega];exact this)
  have hz:=h 0 a rfl
  rw[List.length_cons,sumK_front]
  simp only[n1L,cutL,e,e2,h0,Bool.true_and,Nat.add_zero] at hz ⊢
  rw[sumK_congr l.length (g:=fun j=>bif !S (1+((i+1+j:Nat):Int)) then g (i+1+j) else 0) (fun k _=>by rw[show i+(k+1)=i+1+k by omega])]
  cases S (1+(i:Int))<;>simp only[Bool.not_true,Bool.not_false,cond_true,cond_false]<;>omega
theorem cut_3{S:Int→Bool}{mid sink:Int}(h0:S sink=false)(m0:0≤mid)(m1:mid≤1000){g:Nat→Int}:∀(qs:List ReqT) (k:Nat),k+qs.length≤1000→(∀(j:Nat) (q:ReqT),qs[j]? = some q→g (k+j)≤q.credits)→sumK (fun j=>bif S (mid+((k+j:Nat):Int)) then g (k+j) else 0) qs.length≤cutL S (n4L mid sink qs k)
 | [],i,_,_=>Int.le_refl _
 | q::qs,i,hi,h=>by
  simp only[List.length_cons] at hi
  have e:IntKind.i64.wrap (mid+(i:Int))=mid+i:=wrap_i64 (by omega) (by omega)
  have e2:n4L mid sink qs ((i:Int)+1)=n4L mid sink qs ((i+1:Nat):Int):=rfl
  have ih:=cut_3 h0 m0 m1 (g:=g) qs (i+1) (by omega) (fun j b hb=>by have:=h (j+1) b (by simpa using hb);rw[show i+1+j=i+(j+1) by omega];exact this)
  have hz:=h 0 q rfl
  rw[List.length_cons,sumK_front]
  simp only[n4L,cutL,e,e2,h0,Bool.not_false,Bool.and_true,Nat.add_zero] at hz ⊢
  rw[sumK_congr qs.length (g:=fun j=>bif S (mid+((i+1+j:Nat):Int)) then g (i+1+j) else 0) (fun k _=>by rw[show i+(k+1)=i+1+k by omega])]
  cases S (mid+(i:Int))<;>simp only[cond_true,cond_false]<;>omega
theorem cut_2n{S:Int→Bool}{mid:Int}:∀(ts:List (Int×Int×Int)),(∀t∈ts,0≤t.2.2)→0≤cutL S (ts.map (prE mid))
 | [],_=>Int.le_refl _
 | t::ts,h=>by
  have h1:=h t (by simp)
  have h2:=cut_2n (S:=S) (mid:=mid) ts (fun x hx=>h x (by simp[hx]))
  simp only[List.map_cons,cutL,prE]
  cases (S (IntKind.i64.wrap (1+t.1))&&!S (IntKind.i64.wrap (mid+t.2.1)))<;>simp only[cond_true,cond_false]<;>omega
theorem cut_2{S:Int→Bool}{mid:Int}:∀(ts:List (Int×Int×Int)) (us:List UseT),(∀t∈ts,0≤t.2.2∧IntKind.i64.wrap (1+t.1)=1+t.1∧IntKind.i64.wrap (mid+t.2.1)=mid+t.2.1)→ts.Pairwise prLt→us.Pairwise useLt→(∀u∈us,∃t∈ts,t.1=u.att∧t.2.1=u.req∧u.cr≤t.2.2)→sumU (fun u=>S (1+u.att)&&!S (mid+u.req)) us≤cutL S (ts.map (prE mid))
 | [],[],_,_,_,_=>Int.le_refl _
 | [],u::us,_,_,_,h=>by
  obtain⟨t,ht,_⟩:=h u (by simp)
  simp at ht
 | t::ts,[],h0,_,_,_=>cut_2n _ (fun x hx=>(h0 x hx).1)
 | t::ts,u::us,h0,hp,hu,h=>by
  obtain⟨t0,e1,e2⟩:=h0 t (by simp)
  have hp':=List.pairwise_cons.1 hp
  have hu':=List.pairwise_cons.1 hu
  have h0':∀x∈ts,0≤x.2.2∧IntKind.i64.wrap (1+x.1)=1+x.1∧IntKind.i64.wrap (mid+x.2.1)=mid+x.2.1:=fun x hx=>h0 x (by simp[hx])
  obtain⟨t',ht',a1,a2,a3⟩:=h u (by simp)
  by_cases hk:t.1=u.att∧t.2.1=u.req
  ·have ih:=cut_2 (S:=S) (mid:=mid) ts us h0' hp'.2 hu'.2 (fun w hw=>by
    obtain⟨x,hx,b1,b2,b3⟩:=h w (by simp[hw])
    have hl:=hu'.1 w hw
    rcases List.mem_cons.1 hx with rfl|hx
    ·unfold useLt at hl;omega
    ·exact⟨x,hx,b1,b2,b3⟩)
   have hc:u.cr≤t.2.2:=by
    rcases List.mem_cons.1 ht' with rfl|ht'
    ·exact a3
    ·have:=hp'.1 t' ht'
     unfold prLt at this;omega
   rw[hk.1] at e1
   rw[hk.2] at e2
   simp only[List.map_cons,cutL,prE,sumU,hk.1,hk.2,e1,e2]
   cases (S (1+u.att)&&!S (mid+u.req))<;>simp only[cond_true,cond_false]<;>omega
  ·have ht2:t'∈ts:=by
    rcases List.mem_cons.1 ht' with rfl|ht'
    ·exact absurd ⟨a1,a2⟩ hk
    ·exact ht'
   have hlt:=hp'.1 t' ht2
   have ih:=cut_2 (S:=S) (mid:=mid) ts (u::us) h0' hp'.2 hu (fun w hw=>by
    obtain⟨x,hx,b1,b2,b3⟩:=h w hw
    rcases List.mem_cons.1 hx with rfl|hx
    ·rcases List.mem_cons.1 hw with rfl|hw
     ·exact absurd ⟨b1,b2⟩ hk
     ·have hl:=hu'.1 w hw
      unfold useLt at hl
      unfold prLt at hlt
      omega
    ·exact⟨x,hx,b1,b2,b3⟩)
   have hn:cutL S (ts.map (prE mid))≤cutL S ((t::ts).map (prE mid)):=by
    simp only[List.map_cons,cutL,prE]
    cases (S (IntKind.i64.wrap (1+t.1))&&!S (IntKind.i64.wrap (mid+t.2.1)))<;>simp only[cond_true,cond_false]<;>omega
   exact Int.le_trans ih hn
termination_by ts us=>ts.length+us.length
theorem foldU{F:UseT→Bool}{g:Int→UseT→Int}(hg:∀n u,g n u=bif F u then IntKind.i64.wrap (n+u.cr) else n):∀(us:List UseT) (n:Int),(∀u∈us,0≤u.cr∧u.cr≤60)→0≤n→n+us.length*60≤4611686018427387904→us.foldl g n=n+sumU F us
 | [],n,_,_,_=>by
  show n=n+0
  omega
 | u::us,n,h,h0,hb=>by
  obtain⟨a,b⟩:=h u (by simp)
  simp only[List.length_cons] at hb
  have hb':n+((us.length:Int)+1)*60≤4611686018427387904:=by
   rw[Int.natCast_add] at hb;exact hb
  rw[List.foldl_cons,hg]
  simp only[sumU]
  cases F u with
  | true =>
   simp only[cond_true]
   rw[wrap_i64 (by omega) (by omega),foldU hg us _ (fun x hx=>h x (by simp[hx])) (by omega) (by omega)]
   omega
  | false =>
   simp only[cond_false]
   rw[foldU hg us _ (fun x hx=>h x (by simp[hx])) h0 (by omega)]
   omega
theorem sumU_true:∀(us:List UseT),sumU (fun _=>true) us=sumC us
 | []=>rfl
 | u::us=>by simp only[sumU,sumC,cond_true,sumU_true us]
theorem elF_keep(a:AttT):∀(rs:List ReqT) (s:List Int×Int) (k:Int),k∈s.1→k∈(rs.foldl (elF a) s).1
 | [],_,_,h=>h
 | q::rs,s,k,h=>by
  rw[List.foldl_cons]
  refine elF_keep a rs _ k ?_
  unfold elF
  cases elB q a with
  | true=>simp only[cond_true,List.mem_append];exact .inl h
  | false=>exact h
theorem elF_in(a:AttT):∀(rs:List ReqT) (s:List Int×Int) (i j:Nat) (q:ReqT),s.2=i→rs[j]? = some q→elB q a=true→((i+j:Nat):Int)∈(rs.foldl (elF a) s).1
 | [],_,_,_,_,_,h,_=>by simp at h
 | q'::rs,s,i,0,q,hi,h,hb=>by
  simp only[List.getElem?_cons_zero,Option.some.injEq] at h
  subst h
  rw[List.foldl_cons]
  refine elF_keep a rs _ _ ?_
  unfold elF
  rw[hb]
  simp[hi]
 | q'::rs,s,i,j+1,q,hi,h,hb=>by
  rw[List.foldl_cons]
  have:=elF_in a rs (elF a s q') (i+1) j q (by simp[elF,hi]) (by simpa using h) hb
  rw[show i+1+j=i+(j+1) by omega] at this
  exact this
theorem prs_has(p:ProgT):∀(l:List AttT) (i:Int) (j:Nat) (a:AttT) (k:Int),l[j]? = some a→k∈elR p a→(i+j,k,a.credits)∈prs p l i
 | [],_,_,_,_,h,_=>by simp at h
 | b::l,i,0,a,k,h,hk=>by
  simp only[List.getElem?_cons_zero,Option.some.injEq] at h
  subst h
  simp only[prs,List.mem_append,List.mem_map]
  exact .inl ⟨k,hk,by simp⟩
 | b::l,i,j+1,a,k,h,hk=>by
  have:=prs_has p l (i+1) j a k (by simpa using h) hk
  simp only[prs,List.mem_append]
  right
  have e:i+((j+1:Nat):Int)=i+1+j:=by omega
  rw[e];exact this
theorem pw_of_next:∀(us:List UseT),(∀(i:Nat) (w u:UseT),us[i]? = some w→us[i+1]? = some u→useLt w u)→us.Pairwise useLt
 | [],_=>List.Pairwise.nil
 | x::us,h=>by
  have ih:=pw_of_next us (fun i w u hw hu=>h (i+1) w u (by simpa using hw) (by simpa using hu))
  refine List.pairwise_cons.2 ⟨?_,ih⟩
  intro u hu
  cases us with
  | nil=>simp at hu
  | cons y us =>
   have h1:=h 0 x y rfl rfl
   rcases List.mem_cons.1 hu with rfl|hu
   ·exact h1
   ·have h2:=(List.pairwise_cons.1 ih).1 u hu
    unfold useLt at *
    omega
structure AsnOk (p:ProgT) (l:List AttT) (us:List UseT):Prop where
 len:us.length≤1000
 ok:∀u∈us,UseOk p l u
 next:∀(i:Nat) (w u:UseT),us[i]? = some w→us[i+1]? = some u→useLt w u
 hA:∀(i:Nat) (a:AttT),l[i]? = some a→sumA us (i:Int)≤IntKind.i64.wrap (a.credits*p.uses)
 hQ:∀(i:Nat) (q:ReqT),p.reqs[i]? = some q→sumQ us (i:Int)≤q.credits
section
variable {p:ProgT} {l:List AttT} {us:List UseT}
theorem AsnOk.cr(h:NetOk p l)(hu:AsnOk p l us):∀u∈us,0≤u.cr∧u.cr≤60:=by
 intro u hm
 obtain⟨a0,q0,c0,a,q,ha,hq,h1,h2⟩:=hu.ok u hm
 have:=h.att a (List.mem_of_getElem? ha)
 omega
theorem AsnOk.asg(h:NetOk p l)(hu:AsnOk p l us):asgR us=sumC us:=by
 have hl:=hu.len
 unfold asgR
 rw[foldU (F:=fun _=>true) (g:=asF) (fun n u=>rfl) us 0 (hu.cr h) (by omega) (by omega),sumU_true]
 omega
theorem asn_le(h:NetOk p l)(hu:AsnOk p l us){S:Int→Bool}(S0:S 0=true)(S1:S (sinkR p l)=false):sumC us≤cutL S (net3 p l):=by
 have hcr:=hu.cr h
 have hl:=hu.len
 have hls:=h.ls
 have hrs:=h.rs
 have hm:=mid_eq h
 have hrange:∀u∈us,(0≤u.att∧u.att<l.length)∧(0≤u.req∧u.req<p.reqs.length):=by
  intro u hm
  obtain⟨a0,q0,c0,a,q,ha,hq,h1,h2⟩:=hu.ok u hm
  have:=(List.getElem?_eq_some_iff.1 ha).1
  have:=(List.getElem?_eq_some_iff.1 hq).1
  omega
 have hsp:=sumU_split (S:=S) (m:=midR l) us (fun u h=>(hcr u h).1)
 have hX:=sumU_att (T:=fun i=>!S (1+i)) (K:=l.length) us (fun u h=>(hrange u h).1)
 have hY:=sumU_req (T:=fun k=>S (midR l+k)) (K:=p.reqs.length) us (fun u h=>(hrange u h).2)
 have e1:=cut_1 S0 p (g:=fun i=>sumU (fun u=>u.att==(i:Int)) us) l 0 (by omega) (fun j a ha=>by
  have:=hu.hA j a ha
  unfold sumA at this
  rw[foldU (F:=fun u=>u.att==(j:Int)) (g:=b2F (j:Int)) (fun n u=>rfl) us 0 hcr (by omega) (by omega)] at this
  rw[Nat.zero_add];omega)
 have e3:=cut_3 (mid:=midR l) S1 (by omega) (by omega) (g:=fun i=>sumU (fun u=>u.req==(i:Int)) us) p.reqs 0 (by omega) (fun j a ha=>by
  have:=hu.hQ j a ha
  unfold sumQ at this
  rw[foldU (F:=fun u=>u.req==(j:Int)) (g:=b4F (j:Int)) (fun n u=>rfl) us 0 hcr (by omega) (by omega)] at this
  rw[Nat.zero_add];omega)
 have e2:=cut_2 (S:=S) (mid:=midR l) (prs p l 0) us (fun t ht=>by
  obtain⟨a,b,c,d⟩:=prs_in ht
  obtain⟨j,x,g1,g2,g3,g4⟩:=prs_mem p l 0 t ht
  have:=h.att x (List.mem_of_getElem? g1)
  exact⟨by omega,wrap_i64 (by omega) (by omega),wrap_i64 (by omega) (by omega)⟩) (prs_pw p l 0) (pw_of_next us hu.next) (fun u hm=>by
  obtain⟨a0,q0,c0,a,q,ha,hq,h1,h2⟩:=hu.ok u hm
  have hk:=elF_in a p.reqs ([],0) 0 u.req.toNat q rfl hq h2
  rw[Nat.zero_add,Int.toNat_of_nonneg q0] at hk
  have:=prs_has p l 0 u.att.toNat a u.req ha hk
  rw[Int.toNat_of_nonneg a0,Int.zero_add] at this
  exact⟨_,this,rfl,rfl,h1⟩)
 rw[net3_parts,cutL_app,cutL_app]
 simp only[Nat.zero_add] at e1 e3
 have z1:n1L p l ((0:Nat):Int)=n1L p l 0:=rfl
 have z3:n4L (midR l) (sinkR p l) p.reqs ((0:Nat):Int)=n4L (midR l) (sinkR p l) p.reqs 0:=rfl
 rw[z1] at e1
 rw[z3] at e3
 rw[←hX] at e1
 rw[←hY] at e3
 omega
end
section
variable {p:ProgT} {l:List AttT}
theorem asn_flow{fl:List Int}(h:NetOk p l)(hF:Flow (net3 p l) 0 ((nN p l:Int) - 1) fl):AsnOk p l (useL fl (prs p l 0) l.length):=by
 have h54:=pairsN_small h
 have:=useL_len fl (prs p l 0) l.length
 rw[prs_len] at this
 exact⟨by omega,useL_ok hF.ok,pw_next (useL_pw _ _ _ (prs_pw p l 0)),sumA_le h hF,sumQ_le h hF⟩
def cutS(by':List Int)(v:Int):Bool:=Dd (0≤by'.getD v.toNat 0)
structure AudOk (p:ProgT) (l:List AttT) (g:List Int×List Int):Prop where
 net:NetOk p l
 run:∃j,MaxR (adjR (nN p l) (net3 p l)) (net3 p l) (nN p l) 0 ((nN p l:Int) - 1) j (List.replicate (net3 p l).length 0) g
 flow:Flow (net3 p l) 0 ((nN p l:Int) - 1) g.1
 len:g.2.length=nN p l
 src:cutS g.2 0=true
 snk:cutS g.2 ((nN p l:Int) - 1)=false
 val:cutL (cutS g.2) (net3 p l)=sumC (useL g.1 (prs p l 0) l.length)
theorem aud_ex(h:NetOk p l):∃g,AudOk p l g:=by
 have hN:nN p l=2+l.length+p.reqs.length:=rfl
 have hsz:=h.size
 have hin:∀x∈net3 p l,EdgIn (nN p l) x:=fun x hx=>(net_good h x hx).inn
 obtain⟨j,g,hR,hF,k,f,ρ,hb,hT,hfg,hx⟩:=max_all (es:=net3 p l) (n:=nN p l) (frm:=0) (to:=(nN p l:Int) - 1) (by omega) hin (fun x hx=>⟨(net_good h x hx).m0,(net_good h x hx).m1⟩) ⟨by omega,by show(0:Int).toNat<nN p l;simp;omega⟩ (by omega) (by omega)
 rw[←hfg] at hx
 have h0:0≤f.1.getD 0 0:=hT.src
 refine⟨g,h,⟨j,hR⟩,hF,by rw[←hfg];exact hT.len,?_,?_,?_⟩
 ·unfold cutS
  rw[←hfg]
  simp only[Int.toNat_zero,h0,decide_true]
 ·unfold cutS
  rw[←hfg]
  simp only[decide_eq_false_iff_not];omega
 ·have:=cut_out (m:=l.length+p.reqs.length) (by omega) hF hin hb hx h0
  rw[out_sink h hF,hfg] at this
  exact this
variable {g:List Int×List Int}
theorem AudOk.opt(h:AudOk p l g){us:List UseT}(hu:AsnOk p l us):sumC us≤sumC (useL g.1 (prs p l 0) l.length):=by
 have hN:nN p l=2+l.length+p.reqs.length:=rfl
 rw[←h.val]
 refine asn_le h.net hu h.src ?_
 have:sinkR p l=(nN p l:Int) - 1:=by rw[sink_eq h.net];omega
 rw[this];exact h.snk
theorem AudOk.tot(h:AudOk p l g):totR p=totL p.reqs∧0≤totL p.reqs∧totL p.reqs≤60000∧(auR p l g.1).us=useL g.1 (prs p l 0) l.length∧asgR (auR p l g.1).us=sumC (useL g.1 (prs p l 0) l.length)∧(auR p l g.1).ms=totL p.reqs - sumC (useL g.1 (prs p l 0) l.length)∧0≤(auR p l g.1).ms∧0≤sumC (useL g.1 (prs p l 0) l.length):=by
 have hrs:=h.net.rs
 obtain⟨t1,t2,t3⟩:=au_tot p.reqs 0 h.net.req.2.2 (by omega) (by omega)
 have t4:totR p=totL p.reqs:=by unfold totR;rw[t1];omega
 have hus:=auR_us (fl:=g.1) h.net
 have ha:asgR (useL g.1 (prs p l 0) l.length)=sumC (useL g.1 (prs p l 0) l.length):=(asn_flow h.net h.flow).asg h.net
 obtain⟨m1,m2⟩:=auR_ms h.net h.flow
 have h54:=pairsN_small h.net
 obtain⟨s0,s1⟩:=useL_sum (fl_all h.flow.ok) (prs p l 0) l.length
 rw[prs_len] at s1
 rw[hus,ha,t4,wrap_i64 (by omega) (by omega)] at m1
 exact⟨t4,t2,by omega,hus,by rw[hus];exact ha,m1,m2,s0⟩
end
section
variable {p:ProgT} {l:List AttT} {g:List Int×List Int}
theorem AudOk.aud(hp:p.ok)(h:AudOk p l g)(h0:List Blk):Ev Tryz.prog Γ0 19 [.agg p.l,rowsD' (l.map AttT.row)] h0 (.tup [.agg [rowsD' ((auR p l g.1).us.map UseT.row),int (auR p l g.1).ms,rowsD' (rowsB (cutR g.2))],int 0]) h0:=by
 obtain⟨j,hR⟩:=h.run
 exact audit_ok hp h.net hR h.flow.ok.len h0
end
end Go.Vi
