/- DegreeAssigned: part of the proof: contracts of the functions that the law reaches, and the law. No conditions beyond the given statement's own. -/
import Derived.Test.YthokmgafnhmlbaaGreatDoorW6
import Derived.Test.YthokmgafnhmlbaaGreatDoorCards
import Derived.Test.YthokmgafnhmlbaaGreatDoorTie
import Derived.WalkKit
import Derived.ProofKit
import Derived.OpenShut
import Derived.Deep.DeepHandedRow
import Derived.Lib.LaidTab
open Decidable renaming decide → Dd
open Go Go.Proofs
namespace Go.Vi
set_option maxRecDepth 100000
set_option maxHeartbeats 4000000
theorem elF_mem(a:AttT):∀(qs:List ReqT) (s:List Int×Int) (k:Int),k∈(qs.foldl (elF a) s).1→k∈s.1∨∃(j:Nat) (q:ReqT),qs[j]? = some q∧k=s.2+j∧elB q a=true
 | [],s,k,h=>.inl h
 | q::qs,s,k,h=>by
  rw[List.foldl_cons] at h
  rcases elF_mem a qs (elF a s q) k h with h|⟨j,q',h1,h2,h3⟩
  ·unfold elF at h
   cases hb:elB q a with
   | true =>
    rw[hb] at h
    simp only[cond_true,List.mem_append,List.mem_singleton] at h
    rcases h with h|rfl
    ·exact .inl h
    ·exact .inr ⟨0,q,rfl,by simp,hb⟩
   | false=>rw[hb] at h;exact .inl h
  ·exact .inr ⟨j+1,q',by simpa using h1,by rw[h2];simp only[elF];omega,h3⟩
theorem elF_pw(a:AttT):∀(qs:List ReqT) (s:List Int×Int),s.1.Pairwise (· < ·)→(∀k∈s.1,k<s.2)→(qs.foldl (elF a) s).1.Pairwise (· < ·)
 | [],s,h,_=>h
 | q::qs,s,h,hk=>by
  rw[List.foldl_cons]
  refine elF_pw a qs (elF a s q) ?_ ?_
  ·unfold elF
   cases elB q a with
   | true =>
    simp only[cond_true]
    rw[List.pairwise_append]
    exact⟨h,List.pairwise_singleton _ _,fun x hx y hy=>by rw[List.mem_singleton.1 hy];exact hk x hx⟩
   | false=>exact h
  ·intro k hm
   unfold elF at hm ⊢
   cases hb:elB q a with
   | true =>
    rw[hb] at hm
    simp only[cond_true,List.mem_append,List.mem_singleton] at hm
    rcases hm with hm|rfl
    ·have:=hk k hm;simp only;omega
    ·simp only;omega
   | false =>
    rw[hb] at hm
    have:=hk k hm;simp only;omega
theorem prs_mem(p:ProgT):∀(l:List AttT) (i:Int) (t:Int×Int×Int),t∈prs p l i→∃(j:Nat) (a:AttT),l[j]? = some a∧t.1=i+j∧t.2.2=a.credits∧t.2.1∈elR p a
 | [],_,_,h=>by simp[prs] at h
 | a::l,i,t,h=>by
  simp only[prs,List.mem_append,List.mem_map] at h
  rcases h with ⟨k,hk,rfl⟩|h
  ·exact⟨0,a,rfl,by simp,rfl,hk⟩
  ·obtain⟨j,b,h1,h2,h3⟩:=prs_mem p l (i+1) t h
   exact⟨j+1,b,by simpa using h1,by rw[h2];omega,h3⟩
def prLt(s t:Int×Int×Int):Prop:=s.1<t.1∨s.1=t.1∧s.2.1<t.2.1
theorem prs_pw(p:ProgT):∀(l:List AttT) (i:Int),(prs p l i).Pairwise prLt
 | [],_=>List.Pairwise.nil
 | a::l,i=>by
  simp only[prs]
  rw[List.pairwise_append]
  refine⟨?_,prs_pw p l (i+1),?_⟩
  ·rw[List.pairwise_map]
   refine List.Pairwise.imp (fun h=>.inr ⟨rfl,h⟩) (elF_pw a p.reqs ([],0) List.Pairwise.nil (by simp))
  ·intro s hs t ht
   obtain⟨k,_,rfl⟩:=List.mem_map.1 hs
   obtain⟨j,b,_,h2,_⟩:=prs_mem p l (i+1) t ht
   exact .inl (by rw[h2];simp only;omega)
theorem useL_pw(fl:List Int):∀(ts:List (Int×Int×Int)) (c:Nat),ts.Pairwise prLt→(useL fl ts c).Pairwise useLt
 | [],_,_=>List.Pairwise.nil
 | t::ts,c,h=>by
  obtain⟨h1,h2⟩:=List.pairwise_cons.1 h
  simp only[useL]
  cases Dd (fl.getD c 0>0) with
  | true =>
   refine List.pairwise_cons.2 ⟨fun u hu=>?_,useL_pw fl ts (c+1) h2⟩
   obtain⟨j,t',a,b,c',_,_⟩:=useL_mem fl ts (c+1) u hu
   have:=h1 t' (List.mem_of_getElem? a)
   unfold prLt at this
   unfold useLt
   rw[b,c']
   exact this
  | false=>exact useL_pw fl ts (c+1) h2
theorem pw_next{us:List UseT}(h:us.Pairwise useLt)(i:Nat)(w u:UseT)(hw:us[i]? = some w)(hu:us[i+1]? = some u):useLt w u:=by
 obtain⟨a1,a2⟩:=List.getElem?_eq_some_iff.1 hw
 obtain⟨b1,b2⟩:=List.getElem?_eq_some_iff.1 hu
 have:=List.pairwise_iff_getElem.1 h i (i+1) a1 b1 (by omega)
 rw[a2,b2] at this
 exact this
theorem n4F_pre{mid sink:Int}:∀(qs:List ReqT) (s:List EdgT×Int),∃r,(qs.foldl (n4F mid sink) s).1=s.1++r
 | [],s=>⟨[],by simp⟩
 | q::qs,s=>by
  obtain⟨r,hr⟩:=n4F_pre (mid:=mid) (sink:=sink) qs (n4F mid sink s q)
  refine⟨⟨IntKind.i64.wrap (mid+s.2),sink,q.credits⟩::r,?_⟩
  rw[List.foldl_cons,hr];simp only[n4F,List.append_assoc,List.singleton_append]
theorem net3_pair{p:ProgT}{l:List AttT}{j:Nat}{t:Int×Int×Int}(ht:(prs p l 0)[j]? = some t):(net3 p l).getD (l.length+j) ⟨0,0,0⟩=prE (midR l) t:=by
 obtain⟨r,hr⟩:=n4F_pre (mid:=midR l) (sink:=sinkR p l) p.reqs (net2 p l,0)
 have h2:net2 p l=net1 p l++(prs p l 0).map (prE (midR l)):=n3F_prs p (midR l) l (net1 p l) 0
 have hj:=(List.getElem?_eq_some_iff.1 ht).1
 unfold net3
 rw[hr]
 simp only[h2,List.getD,List.append_assoc]
 rw[List.getElem?_append_right (by rw[net1_len];omega),net1_len,Nat.add_sub_cancel_left,List.getElem?_append_left (by simpa using hj)]
 simp[ht]
theorem useL_ok{p:ProgT}{l:List AttT}{fl:List Int}(hf:FlOk (net3 p l) fl):∀u∈useL fl (prs p l 0) l.length,UseOk p l u:=by
 intro u hu
 obtain⟨j,t,h1,h2,h3,h4,h5⟩:=useL_mem fl _ _ u hu
 obtain⟨i,a,g1,g2,g3,g4⟩:=prs_mem p l 0 t (List.mem_of_getElem? h1)
 have hj:=(List.getElem?_eq_some_iff.1 h1).1
 rw[prs_len] at hj
 have hm:=hf.hi (l.length+j) (by rw[net3_length];omega)
 rw[net3_pair h1] at hm
 rcases elF_mem a p.reqs ([],0) t.2.1 g4 with h|⟨k,q,k1,k2,k3⟩
 ·simp at h
 ·simp only[prE] at hm
  refine⟨by rw[h2,g2];omega,by rw[h3,k2];simp,by omega,a,q,?_,?_,by rw[h4,←g3];exact hm,k3⟩
  ·rw[h2,g2];simpa using g1
  ·rw[h3,k2];simpa using k1
theorem outL_app:∀(es1 es2:List EdgT) (fs:List Int) (w:Int),es1.length≤fs.length→outL (es1++es2) fs w=outL es1 (fs.take es1.length) w+outL es2 (fs.drop es1.length) w
 | [],es2,fs,w,_=>by simp[outL]
 | x::es1,es2,[],w,h=>by simp at h
 | x::es1,es2,f::fs,w,h=>by
  simp only[List.cons_append,outL,List.length_cons,List.take_succ_cons,List.drop_succ_cons]
  rw[outL_app es1 es2 fs w (by simpa using h)]
  omega
def sP(i:Int):List (Int×Int×Int)→List Int→Int
 | t::ts,f::gs=>(if t.1=i then f else 0)+sP i ts gs
 | _,_=>0
theorem sP_nil{i:Int}{gs:List Int}:sP i [] gs=0:=by cases gs<;>rfl
theorem outL_sP{mid i:Int}:∀(ts:List (Int×Int×Int)) (gs:List Int),(∀t∈ts,IntKind.i64.wrap (1+t.1)=1+t.1∧IntKind.i64.wrap (mid+t.2.1) ≠ 1+i)→outL (ts.map (prE mid)) gs (1+i)=sP i ts gs
 | [],gs,_=>by cases gs<;>rfl
 | t::ts,[],_=>rfl
 | t::ts,f::gs,h=>by
  obtain⟨h1,h2⟩:=h t (by simp)
  simp only[List.map_cons,outL,sP,prE]
  rw[outL_sP ts gs (fun x hx=>h x (by simp[hx])),if_neg h2,h1]
  by_cases e:t.1=i
  ·rw[if_pos e,if_pos (by omega)];omega
  ·rw[if_neg e,if_neg (by omega)];omega
theorem b2_sum{i:Int}:∀(ts:List (Int×Int×Int)) (fl:List Int) (c:Nat) (n:Int),c+ts.length≤fl.length→(∀j,0≤fl.getD j 0∧fl.getD j 0≤1073741824)→0≤n→n+ts.length*1073741824≤4611686018427387904 →
  (useL fl ts c).foldl (b2F i) n=n+sP i ts (fl.drop c)
 | [],fl,c,n,_,_,_,_=>by
  rw[sP_nil]
  show n=n+0
  omega
 | t::ts,fl,c,n,hc,hf,h0,hb=>by
  simp only[List.length_cons] at hc hb
  have hd:fl.drop c=fl.getD c 0::fl.drop (c+1):=by
   rw[List.drop_eq_getElem_cons (show c<fl.length by omega)]
   simp[List.getD,show c<fl.length by omega]
  obtain⟨f0,f1⟩:=hf c
  have hb':n+((ts.length:Int)+1)*1073741824≤4611686018427387904:=by
   rw[Int.natCast_add] at hb;exact hb
  rw[hd]
  simp only[useL,sP]
  cases hg:Dd (fl.getD c 0>0) with
  | true =>
   simp only[List.foldl_cons]
   by_cases e:t.1=i
   ·have e2:b2F i n ⟨t.1,t.2.1,fl.getD c 0⟩=n+fl.getD c 0:=by
     unfold b2F
     simp only[e,beq_self_eq_true,cond_true]
     exact wrap_i64 (by omega) (by omega)
    rw[e2,b2_sum ts fl (c+1) (n+fl.getD c 0) (by omega) hf (by omega) (by omega),if_pos e]
    omega
   ·have e2:b2F i n ⟨t.1,t.2.1,fl.getD c 0⟩=n:=by
     unfold b2F
     rw[show((⟨t.1,t.2.1,fl.getD c 0⟩:UseT).att==i)=false from by simpa using e]
     rfl
    rw[e2,b2_sum ts fl (c+1) n (by omega) hf h0 (by omega),if_neg e]
    omega
  | false =>
   have hz:fl.getD c 0=0:=by
    have:¬fl.getD c 0>0:=by simpa using hg
    omega
   simp only
   rw[b2_sum ts fl (c+1) n (by omega) hf h0 (by omega),hz]
   split<;>omega
def sQ(i:Int):List (Int×Int×Int)→List Int→Int
 | t::ts,f::gs=>(if t.2.1=i then f else 0)+sQ i ts gs
 | _,_=>0
theorem sQ_nil{i:Int}{gs:List Int}:sQ i [] gs=0:=by cases gs<;>rfl
theorem outL_sQ{mid i:Int}:∀(ts:List (Int×Int×Int)) (gs:List Int),(∀t∈ts,IntKind.i64.wrap (mid+t.2.1)=mid+t.2.1∧IntKind.i64.wrap (1+t.1) ≠ mid+i)→outL (ts.map (prE mid)) gs (mid+i) = - sQ i ts gs
 | [],gs,_=>by cases gs<;>rfl
 | t::ts,[],_=>rfl
 | t::ts,f::gs,h=>by
  obtain⟨h1,h2⟩:=h t (by simp)
  simp only[List.map_cons,outL,sQ,prE]
  rw[outL_sQ ts gs (fun x hx=>h x (by simp[hx])),if_neg h2,h1]
  by_cases e:t.2.1=i
  ·rw[if_pos e,if_pos (by omega)];omega
  ·rw[if_neg e,if_neg (by omega)];omega
theorem b4_sum{i:Int}:∀(ts:List (Int×Int×Int)) (fl:List Int) (c:Nat) (n:Int),c+ts.length≤fl.length→(∀j,0≤fl.getD j 0∧fl.getD j 0≤1073741824)→0≤n→n+ts.length*1073741824≤4611686018427387904 →
  (useL fl ts c).foldl (b4F i) n=n+sQ i ts (fl.drop c)
 | [],fl,c,n,_,_,_,_=>by
  rw[sQ_nil]
  show n=n+0
  omega
 | t::ts,fl,c,n,hc,hf,h0,hb=>by
  simp only[List.length_cons] at hc hb
  have hd:fl.drop c=fl.getD c 0::fl.drop (c+1):=by
   rw[List.drop_eq_getElem_cons (show c<fl.length by omega)]
   simp[List.getD,show c<fl.length by omega]
  obtain⟨f0,f1⟩:=hf c
  have hb':n+((ts.length:Int)+1)*1073741824≤4611686018427387904:=by
   rw[Int.natCast_add] at hb;exact hb
  rw[hd]
  simp only[useL,sQ]
  cases hg:Dd (fl.getD c 0>0) with
  | true =>
   simp only[List.foldl_cons]
   by_cases e:t.2.1=i
   ·have e2:b4F i n ⟨t.1,t.2.1,fl.getD c 0⟩=n+fl.getD c 0:=by
     unfold b4F
     simp only[e,beq_self_eq_true,cond_true]
     exact wrap_i64 (by omega) (by omega)
    rw[e2,b4_sum ts fl (c+1) (n+fl.getD c 0) (by omega) hf (by omega) (by omega),if_pos e]
    omega
   ·have e2:b4F i n ⟨t.1,t.2.1,fl.getD c 0⟩=n:=by
     unfold b4F
     rw[show((⟨t.1,t.2.1,fl.getD c 0⟩:UseT).req==i)=false from by simpa using e]
     rfl
    rw[e2,b4_sum ts fl (c+1) n (by omega) hf h0 (by omega),if_neg e]
    omega
  | false =>
   have hz:fl.getD c 0=0:=by
    have:¬fl.getD c 0>0:=by simpa using hg
    omega
   simp only
   rw[b4_sum ts fl (c+1) n (by omega) hf h0 (by omega),hz]
   split<;>omega
def n1L(p:ProgT):List AttT→Int→List EdgT
 | [],_=>[]
 | a::l,i=>⟨0,IntKind.i64.wrap (1+i),IntKind.i64.wrap (a.credits*p.uses)⟩::n1L p l (i+1)
theorem n1F_L(p:ProgT):∀(l:List AttT) (es:List EdgT) (i:Int),(l.foldl (n1F p) (es,i)).1=es++n1L p l i
 | [],es,i=>by simp[n1L]
 | a::l,es,i=>by
  rw[List.foldl_cons]
  show(l.foldl (n1F p) (es++[⟨0,IntKind.i64.wrap (1+i),IntKind.i64.wrap (a.credits*p.uses)⟩],i+1)).1=_
  rw[n1F_L p l]
  simp[n1L]
def n4L(mid sink:Int):List ReqT→Int→List EdgT
 | [],_=>[]
 | q::qs,k=>⟨IntKind.i64.wrap (mid+k),sink,q.credits⟩::n4L mid sink qs (k+1)
theorem n4F_L(mid sink:Int):∀(qs:List ReqT) (es:List EdgT) (k:Int),(qs.foldl (n4F mid sink) (es,k)).1=es++n4L mid sink qs k
 | [],es,k=>by simp[n4L]
 | q::qs,es,k=>by
  rw[List.foldl_cons]
  show(qs.foldl (n4F mid sink) (es++[⟨IntKind.i64.wrap (mid+k),sink,q.credits⟩],k+1)).1=_
  rw[n4F_L mid sink qs]
  simp[n4L]
theorem net3_parts(p:ProgT)(l:List AttT):net3 p l=n1L p l 0++((prs p l 0).map (prE (midR l))++n4L (midR l) (sinkR p l) p.reqs 0):=by
 have h1:net1 p l=n1L p l 0:=by
  have:=n1F_L p l [] 0
  rw[List.nil_append] at this
  exact this
 have h2:net2 p l=net1 p l++(prs p l 0).map (prE (midR l)):=n3F_prs p (midR l) l (net1 p l) 0
 have h3:net3 p l=net2 p l++n4L (midR l) (sinkR p l) p.reqs 0:=n4F_L (midR l) (sinkR p l) p.reqs (net2 p l) 0
 rw[h3,h2,h1,List.append_assoc]
theorem n1L_len(p:ProgT):∀(l:List AttT) (i:Int),(n1L p l i).length=l.length
 | [],_=>rfl
 | a::l,i=>by simp[n1L,n1L_len p l]
theorem n1L_other(p:ProgT){w:Int}(hw:w ≠ 0):∀(l:List AttT) (i:Nat) (gs:List Int),i+l.length≤1000→(∀j,j<l.length→w ≠ 1+((i+j:Nat):Int))→outL (n1L p l i) gs w=0
 | [],_,gs,_,_=>by cases gs<;>rfl
 | a::l,i,[],_,_=>rfl
 | a::l,i,g::gs,hi,h=>by
  simp only[List.length_cons] at hi h
  have h0:=h 0 (by omega)
  have e:IntKind.i64.wrap (1+(i:Int))=1+i:=wrap_i64 (by omega) (by omega)
  have ih:=n1L_other p hw l (i+1) gs (by omega) (fun j hj=>by have:=h (j+1) (by omega);rw[show i+1+j=i+(j+1) by omega];exact this)
  simp only[n1L,outL,e]
  rw[if_neg (Ne.symm hw),if_neg (by simp only[Nat.add_zero] at h0;omega)]
  have e2:n1L p l ((i:Int)+1)=n1L p l ((i+1:Nat):Int):=rfl
  rw[e2,ih];rfl
theorem n1L_own(p:ProgT):∀(l:List AttT) (i:Nat) (gs:List Int) (j:Nat),i+l.length≤1000→j<l.length→l.length≤gs.length→outL (n1L p l i) gs (1+((i+j:Nat):Int)) = - gs.getD j 0
 | [],_,_,_,_,hj,_=>absurd hj (Nat.not_lt_zero _)
 | a::l,i,[],_,_,_,h=>by simp at h
 | a::l,i,g::gs,j,hi,hj,hg=>by
  simp only[List.length_cons] at hi hj hg
  have e:IntKind.i64.wrap (1+(i:Int))=1+i:=wrap_i64 (by omega) (by omega)
  have e2:n1L p l ((i:Int)+1)=n1L p l ((i+1:Nat):Int):=rfl
  simp only[n1L,outL,e,e2]
  rw[if_neg (by omega)]
  cases j with
  | zero =>
   rw[if_pos (by simp),n1L_other p (by omega) l (i+1) gs (by omega) (fun j hj=>by omega)]
   simp only[List.getD_cons_zero];omega
  | succ j =>
   rw[if_neg (by omega)]
   have ih:=n1L_own p l (i+1) gs j (by omega) (by omega) (by omega)
   rw[show i+(j+1)=i+1+j by omega,ih]
   simp only[List.getD_cons_succ];omega
theorem n4L_other{mid sink w:Int}(h0:0≤mid)(h1:mid≤1000)(hs:w ≠ sink):∀(qs:List ReqT) (k:Nat) (gs:List Int),k+qs.length≤1000→(∀j,j<qs.length→w ≠ mid+((k+j:Nat):Int))→outL (n4L mid sink qs k) gs w=0
 | [],_,gs,_,_=>by cases gs<;>rfl
 | q::qs,k,[],_,_=>rfl
 | q::qs,k,g::gs,hk,h=>by
  simp only[List.length_cons] at hk h
  have h2:=h 0 (by omega)
  have e:IntKind.i64.wrap (mid+(k:Int))=mid+k:=wrap_i64 (by omega) (by omega)
  have ih:=n4L_other h0 h1 hs qs (k+1) gs (by omega) (fun j hj=>by have:=h (j+1) (by omega);rw[show k+1+j=k+(j+1) by omega];exact this)
  have e2:n4L mid sink qs ((k:Int)+1)=n4L mid sink qs ((k+1:Nat):Int):=rfl
  simp only[n4L,outL,e,e2]
  rw[if_neg (by simp only[Nat.add_zero] at h2;omega),if_neg (Ne.symm hs),ih];rfl
theorem n4L_own{mid sink:Int}(h0:0≤mid)(h1:mid≤1000):∀(qs:List ReqT) (k:Nat) (gs:List Int) (j:Nat),k+qs.length≤1000→mid+((k+qs.length:Nat):Int)≤sink→j<qs.length→qs.length≤gs.length→outL (n4L mid sink qs k) gs (mid+((k+j:Nat):Int))=gs.getD j 0
 | [],_,_,_,_,_,hj,_=>absurd hj (Nat.not_lt_zero _)
 | q::qs,k,[],_,_,_,_,h=>by simp at h
 | q::qs,k,g::gs,j,hk,hs,hj,hg=>by
  simp only[List.length_cons] at hk hs hj hg
  have e:IntKind.i64.wrap (mid+(k:Int))=mid+k:=wrap_i64 (by omega) (by omega)
  have e2:n4L mid sink qs ((k:Int)+1)=n4L mid sink qs ((k+1:Nat):Int):=rfl
  simp only[n4L,outL,e,e2]
  cases j with
  | zero =>
   rw[if_pos (by simp),if_neg (by omega),n4L_other h0 h1 (by omega) qs (k+1) gs (by omega) (fun j hj=>by omega)]
   simp only[List.getD_cons_zero];omega
  | succ j =>
   rw[if_neg (by omega),if_neg (by omega)]
   have ih:=n4L_own (sink:=sink) h0 h1 qs (k+1) gs j (by omega) (by omega) (by omega) (by omega)
   rw[show k+(j+1)=k+1+j by omega,ih]
   simp only[List.getD_cons_succ];omega
theorem sP_take{i:Int}:∀(ts:List (Int×Int×Int)) (gs:List Int),sP i ts (gs.take ts.length)=sP i ts gs
 | [],gs=>by rw[sP_nil,sP_nil]
 | t::ts,[]=>rfl
 | t::ts,g::gs=>by simp only[List.length_cons,List.take_succ_cons,sP,sP_take ts gs]
theorem sQ_take{i:Int}:∀(ts:List (Int×Int×Int)) (gs:List Int),sQ i ts (gs.take ts.length)=sQ i ts gs
 | [],gs=>by rw[sQ_nil,sQ_nil]
 | t::ts,[]=>rfl
 | t::ts,g::gs=>by simp only[List.length_cons,List.take_succ_cons,sQ,sQ_take ts gs]
theorem prs_in{p:ProgT}{l:List AttT}{t:Int×Int×Int}(ht:t∈prs p l 0):0≤t.1∧t.1<l.length∧0≤t.2.1∧t.2.1<p.reqs.length:=by
 obtain⟨i,a,g1,g2,g3,g4⟩:=prs_mem p l 0 t ht
 have:=(List.getElem?_eq_some_iff.1 g1).1
 rcases elF_mem a p.reqs ([],0) t.2.1 g4 with h|⟨k,q,k1,k2,k3⟩
 ·simp at h
 ·have:=(List.getElem?_eq_some_iff.1 k1).1
  simp only at k2
  omega
theorem flow_att{p:ProgT}{l:List AttT}(h:NetOk p l){fl:List Int}(hF:Flow (net3 p l) 0 ((nN p l:Int) - 1) fl){i:Nat}(hi:i<l.length):sP i (prs p l 0) (fl.drop l.length)=fl.getD i 0:=by
 have hN:nN p l=2+l.length+p.reqs.length:=rfl
 have hls:=h.ls
 have hrs:=h.rs
 have hlen:=hF.ok.len
 rw[net3_length] at hlen
 have hc:=hF.cons (1+(i:Int)) (by omega) (by omega)
 have hp:=prs_len p l 0
 rw[net3_parts,outL_app _ _ _ _ (by rw[n1L_len];omega),n1L_len,outL_app _ _ _ _ (by rw[List.length_map,hp,List.length_drop];omega),List.length_map] at hc
 have h1:=n1L_own p l 0 (fl.take l.length) i (by omega) hi (by rw[List.length_take];omega)
 rw[Nat.zero_add] at h1
 have h2:=outL_sP (mid:=midR l) (i:=(i:Int)) (prs p l 0) ((fl.drop l.length).take (prs p l 0).length) (fun t ht=>by
  obtain⟨a,b,c,d⟩:=prs_in ht
  rw[mid_eq h]
  exact⟨wrap_i64 (by omega) (by omega),by rw[wrap_i64 (by omega) (by omega)];omega⟩)
 have h3:=n4L_other (mid:=midR l) (sink:=sinkR p l) (w:=1+(i:Int)) (by rw[mid_eq h];omega) (by rw[mid_eq h];omega) (by rw[sink_eq h];omega) p.reqs 0 (((fl.drop l.length)).drop (prs p l 0).length) (by omega) (fun j _=>by rw[mid_eq h];omega)
 have e:(fl.take l.length).getD i 0=fl.getD i 0:=by
  simp only[List.getD,List.getElem?_take,if_pos hi]
 have e0:n1L p l ((0:Nat):Int)=n1L p l 0:=rfl
 have e4:n4L (midR l) (sinkR p l) p.reqs ((0:Nat):Int)=n4L (midR l) (sinkR p l) p.reqs 0:=rfl
 rw[e0,e] at h1
 rw[e4] at h3
 rw[h1,h2,h3,sP_take] at hc
 omega
theorem flow_req{p:ProgT}{l:List AttT}(h:NetOk p l){fl:List Int}(hF:Flow (net3 p l) 0 ((nN p l:Int) - 1) fl){k:Nat}(hk:k<p.reqs.length):sQ k (prs p l 0) (fl.drop l.length)=fl.getD (l.length+pairsN p l+k) 0:=by
 have hN:nN p l=2+l.length+p.reqs.length:=rfl
 have hls:=h.ls
 have hrs:=h.rs
 have hlen:=hF.ok.len
 rw[net3_length] at hlen
 have hm:=mid_eq h
 have hc:=hF.cons (midR l+(k:Int)) (by omega) (by omega)
 have hp:=prs_len p l 0
 rw[net3_parts,outL_app _ _ _ _ (by rw[n1L_len];omega),n1L_len,outL_app _ _ _ _ (by rw[List.length_map,hp,List.length_drop];omega),List.length_map] at hc
 have h1:=n1L_other p (w:=midR l+(k:Int)) (by omega) l 0 (fl.take l.length) (by omega) (fun j hj=>by omega)
 have h2:=outL_sQ (mid:=midR l) (i:=(k:Int)) (prs p l 0) ((fl.drop l.length).take (prs p l 0).length) (fun t ht=>by
  obtain⟨a,b,c,d⟩:=prs_in ht
  exact⟨wrap_i64 (by omega) (by omega),by rw[wrap_i64 (by omega) (by omega)];omega⟩)
 have h3:=n4L_own (mid:=midR l) (sink:=sinkR p l) (by omega) (by omega) p.reqs 0 (((fl.drop l.length)).drop (prs p l 0).length) k (by omega) (by rw[sink_eq h,hm];omega) hk (by rw[List.length_drop,List.length_drop,hp];omega)
 rw[Nat.zero_add] at h3
 have e:((fl.drop l.length).drop (prs p l 0).length).getD k 0=fl.getD (l.length+pairsN p l+k) 0:=by
  rw[hp,List.drop_drop]
  simp only[List.getD,List.getElem?_drop]
 have e0:n1L p l ((0:Nat):Int)=n1L p l 0:=rfl
 have e4:n4L (midR l) (sinkR p l) p.reqs ((0:Nat):Int)=n4L (midR l) (sinkR p l) p.reqs 0:=rfl
 rw[e0] at h1
 rw[e4,e] at h3
 rw[h1,h2,h3,sQ_take] at hc
 omega
theorem n1L_get(p:ProgT):∀(l:List AttT) (i:Int) (j:Nat) (a:AttT),l[j]? = some a→((n1L p l i).getD j ⟨0,0,0⟩).most=IntKind.i64.wrap (a.credits*p.uses)
 | [],_,_,_,h=>by simp at h
 | b::l,i,0,a,h=>by
  simp only[List.getElem?_cons_zero,Option.some.injEq] at h
  subst h;rfl
 | b::l,i,j+1,a,h=>by
  simp only[n1L,List.getD_cons_succ]
  exact n1L_get p l (i+1) j a (by simpa using h)
theorem n4L_get(mid sink:Int):∀(qs:List ReqT) (k:Int) (j:Nat) (q:ReqT),qs[j]? = some q→((n4L mid sink qs k).getD j ⟨0,0,0⟩).most=q.credits
 | [],_,_,_,h=>by simp at h
 | b::l,i,0,a,h=>by
  simp only[List.getElem?_cons_zero,Option.some.injEq] at h
  subst h;rfl
 | b::l,i,j+1,a,h=>by
  simp only[n4L,List.getD_cons_succ]
  exact n4L_get mid sink l (i+1) j a (by simpa using h)
theorem fl_all{es:List EdgT}{fl:List Int}(h:FlOk es fl)(j:Nat):0≤fl.getD j 0∧fl.getD j 0≤1073741824:=by
 by_cases hj:j<es.length
 ·exact⟨h.lo j hj,by have:=h.hi j hj;have:=h.most j hj;omega⟩
 ·have:fl.getD j 0=0:=by
   have:=h.len
   simp only[List.getD,List.getElem?_eq_none (show fl.length≤j by omega),Option.getD_none]
  omega
section
variable {p:ProgT} {l:List AttT} {fl:List Int}
theorem pairsN_small(h:NetOk p l):pairsN p l≤54:=by
 have h1:=pairsN_le p l
 have h2:l.length*p.reqs.length≤9*6:=Nat.mul_le_mul h.ls h.rs
 omega
theorem sumA_le(h:NetOk p l)(hF:Flow (net3 p l) 0 ((nN p l:Int) - 1) fl)(i:Nat)(a:AttT)(ha:l[i]? = some a):sumA (useL fl (prs p l 0) l.length) (i:Int)≤IntKind.i64.wrap (a.credits*p.uses):=by
 have hi:=(List.getElem?_eq_some_iff.1 ha).1
 have hp:=prs_len p l 0
 have h54:=pairsN_small h
 have hlen:=hF.ok.len
 rw[net3_length] at hlen
 have hs:=b2_sum (i:=(i:Int)) (prs p l 0) fl l.length 0 (by omega) (fl_all hF.ok) (by omega) (by omega)
 unfold sumA
 rw[hs,flow_att h hF hi]
 have hm:=hF.ok.hi i (by rw[net3_length];omega)
 have e:(net3 p l).getD i ⟨0,0,0⟩=(n1L p l 0).getD i ⟨0,0,0⟩:=by
  rw[net3_parts]
  simp only[List.getD,List.getElem?_append_left (show i<(n1L p l 0).length by rw[n1L_len];exact hi)]
 rw[e,n1L_get p l 0 i a ha] at hm
 omega
theorem sumQ_le(h:NetOk p l)(hF:Flow (net3 p l) 0 ((nN p l:Int) - 1) fl)(k:Nat)(q:ReqT)(hq:p.reqs[k]? = some q):sumQ (useL fl (prs p l 0) l.length) (k:Int)≤q.credits:=by
 have hk:=(List.getElem?_eq_some_iff.1 hq).1
 have hp:=prs_len p l 0
 have h54:=pairsN_small h
 have hlen:=hF.ok.len
 rw[net3_length] at hlen
 have hs:=b4_sum (i:=(k:Int)) (prs p l 0) fl l.length 0 (by omega) (fl_all hF.ok) (by omega) (by omega)
 unfold sumQ
 rw[hs,flow_req h hF hk]
 have hm:=hF.ok.hi (l.length+pairsN p l+k) (by rw[net3_length];omega)
 have e:(net3 p l).getD (l.length+pairsN p l+k) ⟨0,0,0⟩=(n4L (midR l) (sinkR p l) p.reqs 0).getD k ⟨0,0,0⟩:=by
  rw[net3_parts]
  simp only[List.getD]
  rw[List.getElem?_append_right (by rw[n1L_len];omega),n1L_len,List.getElem?_append_right (by rw[List.length_map,hp];omega),List.length_map,hp]
  congr 2;omega
 rw[e,n4L_get _ _ p.reqs 0 k q hq] at hm
 omega
end
def sumC:List UseT→Int
 | []=>0
 | u::us=>u.cr+sumC us
theorem useL_sum{fl:List Int}(hf:∀j,0≤fl.getD j 0∧fl.getD j 0≤1073741824):∀(ts:List (Int×Int×Int)) (c:Nat),0≤sumC (useL fl ts c)∧sumC (useL fl ts c)≤ts.length*1073741824
 | [],c=>by simp[useL,sumC]
 | t::ts,c=>by
  obtain⟨a,b⟩:=useL_sum hf ts (c+1)
  obtain⟨f0,f1⟩:=hf c
  simp only[useL,List.length_cons]
  rw[Int.natCast_add]
  cases Dd (fl.getD c 0>0) with
  | true=>simp only[sumC];omega
  | false=>simp only;omega
theorem apT2_ms{fl:List Int}(hf:∀j,0≤fl.getD j 0∧fl.getD j 0≤1073741824):∀(ts:List (Int×Int×Int)) (s:AuS) (c:Nat),s.at_=c→c+ts.length≤1000000→s.ms≤4611686018427387904 → -4611686018427387904≤s.ms - ts.length*1073741824→(ts.foldl (apT2 fl) s).ms=s.ms - sumC (useL fl ts c)
 | [],s,c,_,_,_,_=>by
  show s.ms=s.ms - 0
  omega
 | t::ts,s,c,h,hc,h1,h2=>by
  simp only[List.length_cons] at hc h2
  rw[Int.natCast_add] at h2
  obtain⟨f0,f1⟩:=hf c
  have e:s.at_.toNat=c:=by rw[h,Int.toNat_natCast]
  have hm:(apT2 fl s t).ms=(if fl.getD c 0>0 then s.ms - fl.getD c 0 else s.ms):=by
   unfold apT2 apG apF
   rw[e]
   by_cases hg:fl.getD c 0>0
   ·rw[if_pos hg,show Dd (fl.getD c 0>0)=true from by simpa using hg]
    exact wrap_i64 (by omega) (by omega)
   ·rw[if_neg hg,show Dd (fl.getD c 0>0)=false from by simpa using hg]
  have hb:(apT2 fl s t).ms≤s.ms∧s.ms - 1073741824≤(apT2 fl s t).ms:=by
   rw[hm];split<;>omega
  rw[List.foldl_cons,apT2_ms hf ts (apT2 fl s t) (c+1) (apG_at h (by omega)) (by omega) (by omega) (by omega),hm]
  simp only[useL]
  by_cases hg:fl.getD c 0>0
  ·rw[if_pos hg,show Dd (fl.getD c 0>0)=true from by simpa using hg]
   simp only[sumC];omega
  ·rw[if_neg hg,show Dd (fl.getD c 0>0)=false from by simpa using hg]
theorem asF_sum{fl:List Int}(hf:∀j,0≤fl.getD j 0∧fl.getD j 0≤1073741824):∀(ts:List (Int×Int×Int)) (c:Nat) (n:Int),0≤n→n+ts.length*1073741824≤4611686018427387904→(useL fl ts c).foldl asF n=n+sumC (useL fl ts c)
 | [],c,n,_,_=>by
  show n=n+0
  omega
 | t::ts,c,n,h0,h=>by
  simp only[List.length_cons] at h
  rw[Int.natCast_add] at h
  obtain⟨f0,f1⟩:=hf c
  simp only[useL]
  cases Dd (fl.getD c 0>0) with
  | true =>
   have e:asF n ⟨t.1,t.2.1,fl.getD c 0⟩=n+fl.getD c 0:=wrap_i64 (by simp only;omega) (by simp only;omega)
   simp only[List.foldl_cons,sumC]
   rw[e,asF_sum hf ts (c+1) (n+fl.getD c 0) (by omega) (by omega)]
   omega
  | false=>exact asF_sum hf ts (c+1) n h0 (by omega)
def sumK(f:Nat→Int):Nat→Int
 | 0=>0
 | K+1=>sumK f K+f K
theorem sumK_add(f g:Nat→Int):∀K,sumK (fun k=>f k+g k) K=sumK f K+sumK g K
 | 0=>rfl
 | K+1=>by simp only[sumK,sumK_add f g K];omega
theorem sumK_one{r:Int}{x:Int}(h0:0≤r):∀K:Nat,sumK (fun k=>if r=(k:Int) then x else 0) K=if r<K then x else 0
 | 0=>by simp only[sumK];rw[if_neg (by omega)]
 | K+1=>by
  simp only[sumK,sumK_one h0 K]
  by_cases h1:r<K
  ·rw[if_pos h1,if_neg (by omega),if_pos (by omega)];omega
  ·by_cases h2:r=K
   ·rw[if_neg h1,if_pos h2,if_pos (by omega)];omega
   ·rw[if_neg h1,if_neg h2,if_neg (by omega)];omega
theorem sumK_zero:∀K,sumK (fun _=>0) K=0
 | 0=>rfl
 | K+1=>by simp only[sumK,sumK_zero K];rfl
theorem sumC_sQ{fl:List Int}(hf:∀j,0≤fl.getD j 0∧fl.getD j 0≤1073741824){K:Nat}:∀(ts:List (Int×Int×Int)) (c:Nat),c+ts.length≤fl.length→(∀t∈ts,0≤t.2.1∧t.2.1<K)→sumC (useL fl ts c)=sumK (fun k=>sQ (k:Int) ts (fl.drop c)) K
 | [],c,_,_=>by
  have e:(fun k:Nat=>sQ (k:Int) [] (fl.drop c))=fun _=>0:=by funext k;exact sQ_nil
  rw[e,sumK_zero];rfl
 | t::ts,c,hc,ht=>by
  simp only[List.length_cons] at hc
  have hd:fl.drop c=fl.getD c 0::fl.drop (c+1):=by
   rw[List.drop_eq_getElem_cons (show c<fl.length by omega)]
   simp[List.getD,show c<fl.length by omega]
  obtain⟨f0,f1⟩:=hf c
  obtain⟨t0,t1⟩:=ht t (by simp)
  have ih:=sumC_sQ hf ts (c+1) (by omega) (fun x hx=>ht x (by simp[hx]))
  have e:(fun k:Nat=>sQ (k:Int) (t::ts) (fl.drop c))=fun k:Nat=>(if t.2.1=(k:Int) then fl.getD c 0 else 0)+sQ (k:Int) ts (fl.drop (c+1)):=by
   funext k
   rw[hd]
   rfl
  rw[e,sumK_add,sumK_one t0,if_pos t1,←ih]
  simp only[useL]
  by_cases hg:fl.getD c 0>0
  ·rw[show Dd (fl.getD c 0>0)=true from by simpa using hg]
   rfl
  ·rw[show Dd (fl.getD c 0>0)=false from by simpa using hg]
   simp only;omega
theorem sumK_front(f:Nat→Int):∀K,sumK f (K+1)=f 0+sumK (fun k=>f (k+1)) K
 | 0=>by simp only[sumK];omega
 | K+1=>by
  have:=sumK_front f K
  simp only[sumK] at this ⊢
  omega
def totL:List ReqT→Int
 | []=>0
 | q::qs=>q.credits+totL qs
theorem sumK_tot:∀(qs:List ReqT) (f:Nat→Int),(∀(k:Nat) (q:ReqT),qs[k]? = some q→f k≤q.credits)→sumK f qs.length≤totL qs
 | [],_,_=>Int.le_refl _
 | q::qs,f,h=>by
  rw[List.length_cons,sumK_front]
  have h1:=h 0 q rfl
  have h2:=sumK_tot qs (fun k=>f (k+1)) (fun k q' hq=>h (k+1) q' (by simpa using hq))
  simp only[totL];omega
theorem au_tot:∀(qs:List ReqT) (n:Int),(∀q∈qs,1≤q.credits∧q.credits≤10000)→0≤n→n+qs.length*10000≤4611686018427387904→qs.foldl auF n=n+totL qs∧0≤totL qs∧totL qs≤qs.length*10000
 | [],n,_,_,_=>by
  refine⟨?_,Int.le_refl _,by simp[totL]⟩
  show n=n+0
  omega
 | q::qs,n,h,h0,hb=>by
  simp only[List.length_cons] at hb ⊢
  rw[Int.natCast_add] at hb ⊢
  obtain⟨a,b⟩:=h q (by simp)
  have e:auF n q=n+q.credits:=wrap_i64 (by omega) (by omega)
  obtain⟨c,d,f⟩:=au_tot qs (n+q.credits) (fun x hx=>h x (by simp[hx])) (by omega) (by omega)
  rw[List.foldl_cons,e,c]
  simp only[totL]
  refine⟨by omega,by omega,by omega⟩
section
variable {p:ProgT} {l:List AttT} {fl:List Int}
theorem auR_us(h:NetOk p l):(auR p l fl).us=useL fl (prs p l 0) l.length:=by
 have h54:=pairsN_small h
 have hls:=h.ls
 have hp:=prs_len p l 0
 unfold auR
 rw[a3F_prs,apT2_us fl (prs p l 0) _ l.length (by simp) (by omega)]
 rfl
theorem auR_ms(h:NetOk p l)(hF:Flow (net3 p l) 0 ((nN p l:Int) - 1) fl):(auR p l fl).ms=IntKind.i64.wrap (totR p - asgR (auR p l fl).us)∧0≤(auR p l fl).ms:=by
 have h54:=pairsN_small h
 have hls:=h.ls
 have hrs:=h.rs
 have hp:=prs_len p l 0
 have hf:=fl_all hF.ok
 have hlen:=hF.ok.len
 rw[net3_length] at hlen
 obtain⟨t1,t2,t3⟩:=au_tot p.reqs 0 h.req.2.2 (by omega) (by omega)
 have hm:(auR p l fl).ms=totR p - sumC (useL fl (prs p l 0) l.length):=by
  unfold auR
  rw[a3F_prs,apT2_ms hf (prs p l 0) _ l.length (by simp) (by omega) (by show p.reqs.foldl auF 0≤_;omega) (by show _≤p.reqs.foldl auF 0 - _;omega)]
  rfl
 have ha:asgR (auR p l fl).us=sumC (useL fl (prs p l 0) l.length):=by
  rw[auR_us h]
  have:=asF_sum hf (prs p l 0) l.length 0 (by omega) (by omega)
  unfold asgR
  rw[this];omega
 have hq:sumC (useL fl (prs p l 0) l.length)≤totL p.reqs:=by
  rw[sumC_sQ hf (K:=p.reqs.length) (prs p l 0) l.length (by omega) (fun t ht=>by have:=prs_in ht;omega)]
  refine sumK_tot p.reqs _ (fun k q hk=>?_)
  have:=sumQ_le h hF k q hk
  have hs:=b4_sum (i:=(k:Int)) (prs p l 0) fl l.length 0 (by omega) hf (by omega) (by omega)
  unfold sumQ at this
  rw[hs] at this
  omega
 have hc:=(useL_sum hf (prs p l 0) l.length).1
 have ht:totR p=totL p.reqs:=by unfold totR;omega
 rw[ha,hm]
 refine⟨(wrap_i64 (by omega) (by omega)).symm,by omega⟩
end
end Go.Vi

open Go Go.Proofs
namespace Go.Vi
set_option maxRecDepth 100000
set_option maxHeartbeats 4000000
abbrev fwS(p:ProgT)(i:Int):AS:={t:=mkT 30 0 [(2,.ref (.ptr 0 0)),(4,bool false),(5,int i)],h:=[.var p.l],m:=[]}
abbrev fwE(p:ProgT):AS:={t:=mkT 30 0 [],h:=[.var p.l],m:=[]}
abbrev fwX(p:ProgT):Unit→Exit×AS:=fun _=>(.ret,{t:=mkT 30 0 [(4,bool false)],h:=[.var p.l],m:=[]})
def fwF(q:ReqT)(_:Unit):Unit⊕Unit:=bif Dd (((inR1 q.frm).length:Int)>10) then .inr () else .inl ()
theorem fw_body{p:ProgT}{q:ReqT}{i:Nat}(hr:RowAt (i:Int) (p.reqs.map ReqT.row) q.row 6)(hlt:Dd ((i:Int)<((p.reqs.map ReqT.row).length:Int))=true)(hw:IntKind.i64.wrap ((i:Int)+1)=((i+1:Nat):Int)):(CW Tryz.prog Γ0 [] false (sub Tryz.f10 0) (fwS p i) (bodyFin (fun _:Unit=>fwS p ((i+1:Nat):Int)) (fwX p) (fwF q ())).1 (bodyFin (fun _:Unit=>fwS p ((i+1:Nat):Int)) (fwX p) (fwF q ())).2):=by
 cases hc0:Dd ((↑(List.length (inR1 q.frm)):Int)>10)
 ·exact CW.cast (CW.symX (s:={t:=mkT 30 0 [(2,.ref (.ptr 0 0)),(4,bool false),(5,int (↑i:Int))],h:=[.var [strD p.nm,int p.number,int p.uses,int p.earn,int p.num,int p.den,rowsD' (List.map ReqT.row p.reqs)]],m:=[]}) (s':={t:=mkT 30 0 [(2,.ref (.ptr 0 0)),(4,bool false),(5,int (IntKind.wrap IntKind.i64 ((↑i:Int)+1)))],h:=[.var [strD p.nm,int p.number,int p.uses,int p.earn,int p.num,int p.den,rowsD' (List.map ReqT.row p.reqs)]],m:=[]}) (e:=Exit.normal) pok (φ:=[Dd ((↑i:Int)<(↑(List.length (List.map ReqT.row p.reqs)):Int))=true,RowAt (↑i:Int) (List.map ReqT.row p.reqs) [vs q.nm,vi q.credits,vi q.grade,Dp.v (Value.bool q.home),Dp.sl q.names,Dp.sl (inR1 q.frm)] 6,Dd ((↑(List.length (inR1 q.frm)):Int)>10)=false]) [.st (.mask [2,4,5])] [.b true,.row [vs q.nm,vi q.credits,vi q.grade,Dp.v (Value.bool q.home),Dp.sl q.names,Dp.sl (inR1 q.frm)],.b false] (by kernel_rfl) ⟨hlt,hr,hc0,trivial⟩) (by simp only[fwF,hc0,cond_false,bodyFin];first|done|rfl) (by simp only[fwF,hc0,cond_false,bodyFin,hw];first|done|rfl)
 ·exact CW.cast (CW.symX (s:={t:=mkT 30 0 [(2,.ref (.ptr 0 0)),(4,bool false),(5,int (↑i:Int))],h:=[.var [strD p.nm,int p.number,int p.uses,int p.earn,int p.num,int p.den,rowsD' (List.map ReqT.row p.reqs)]],m:=[]}) (s':={t:=mkT 30 0 [(4,bool false)],h:=[.var [strD p.nm,int p.number,int p.uses,int p.earn,int p.num,int p.den,rowsD' (List.map ReqT.row p.reqs)]],m:=[]}) (e:=Exit.ret) pok (φ:=[Dd ((↑i:Int)<(↑(List.length (List.map ReqT.row p.reqs)):Int))=true,RowAt (↑i:Int) (List.map ReqT.row p.reqs) [vs q.nm,vi q.credits,vi q.grade,Dp.v (Value.bool q.home),Dp.sl q.names,Dp.sl (inR1 q.frm)] 6,Dd ((↑(List.length (inR1 q.frm)):Int)>10)=true]) [.st (.mask [4])] [.b true,.row [vs q.nm,vi q.credits,vi q.grade,Dp.v (Value.bool q.home),Dp.sl q.names,Dp.sl (inR1 q.frm)],.b true] (by kernel_rfl) ⟨hlt,hr,hc0,trivial⟩) (by simp only[fwF,hc0,cond_true,bodyFin];first|done|rfl) (by simp only[fwF,hc0,cond_true,bodyFin];first|done|rfl)
theorem fw_last{p:ProgT}{i:Nat}(hlt:Dd ((i:Int)<((p.reqs.map ReqT.row).length:Int))=false):(CW Tryz.prog Γ0 [] false (sub Tryz.f10 0) (fwS p i) (.exit 0) (fwE p)):=by
 exact CW.cast (CW.symX (s:={t:=mkT 30 0 [(2,.ref (.ptr 0 0)),(4,bool false),(5,int (↑i:Int))],h:=[.var [strD p.nm,int p.number,int p.uses,int p.earn,int p.num,int p.den,rowsD' (List.map ReqT.row p.reqs)]],m:=[]}) (s':={t:=mkT 30 0 [],h:=[.var [strD p.nm,int p.number,int p.uses,int p.earn,int p.num,int p.den,rowsD' (List.map ReqT.row p.reqs)]],m:=[]}) (e:=Exit.exit 0) pok (φ:=[Dd ((↑i:Int)<(↑(List.length (List.map ReqT.row p.reqs)):Int))=false]) [.st (.mask [])] [.b false] (by kernel_rfl) ⟨hlt,trivial⟩) (by rfl) (by rfl)
def fwFin(p:ProgT):Exit×AS:=eachFin (.exit 0) (fun _:Unit=>fwE p) (fwX p) (forL fwF p.reqs ())
theorem fw_cw{p:ProgT}(hs:Short p.reqs):CW Tryz.prog Γ0 [] false (.loop (sub Tryz.f10 0)) (fwS p 0) (fwFin p).1 (fwFin p).2:=by
 refine CW.each p.reqs fwF (fun i _=>fwS p (i:Int)) (.exit 0) (fun _=>fwE p) (fwX p) (fun _ _=>True) (by simp) (fun _=>by simp[]) ?_ ?_ () trivial
 ·intro i q _ hc _
  have hi:=(List.getElem?_eq_some_iff.1 hc).1
  exact⟨fun _ _=>trivial,fw_body (rowAt hc rfl) (lt_len ReqT.row hi) (wrap_succ hi hs)⟩
 ·intro _ _
  exact fw_last (ge_len ReqT.row p.reqs)
def fwB(p:ProgT):Bool:=match forL fwF p.reqs () with | .inl _=>true | .inr _=>false
def fewB(p:ProgT)(n:Int):Bool:=bif Dd (((p.reqs.map ReqT.row).length:Int)>6)||Dd (n>8) then false else fwB p
theorem few_ev{p:ProgT}(hs:Short p.reqs){l:List AttT}(h:List Blk):(Ev Tryz.prog Γ0 10 [.agg p.l,rowsD' (l.map AttT.row)] h (bool (fewB p ((l.map AttT.row).length:Int))) h):=by
 cases hc0:Dd ((↑(List.length (List.map ReqT.row p.reqs)):Int)>6)||Dd ((↑(List.length (List.map AttT.row l)):Int)>8)
 ·have hl1:=(@fw_cw (p) (hs))
  unfold fwFin at hl1
  revert hl1
  cases ho2:forL fwF p.reqs () with
  | inl o2_0_0 =>
   intro hl1
   exact Ev.castH (Ev.sym0 (P:=Tryz.prog) (Γ:=Γ0) (f:=10) (args:=[D.agg (ProgT.l p),rowsD' (List.map AttT.row l)]) (d:=bool true) pok (φ:=[(Dd ((↑(List.length (List.map ReqT.row p.reqs)):Int)>6)||Dd ((↑(List.length (List.map AttT.row l)):Int)>8))=false,CW Tryz.prog Γ0 [] false (.loop (sub Tryz.f10 0)) {t:=mkT 30 0 [(2,.ref (.ptr 0 0)),(4,bool false),(5,int 0)],h:=[.var [strD p.nm,int p.number,int p.uses,int p.earn,int p.num,int p.den,rowsD' (List.map ReqT.row p.reqs)]],m:=[]} (Exit.exit 0) {t:=mkT 30 0 [],h:=[.var [strD p.nm,int p.number,int p.uses,int p.earn,int p.num,int p.den,rowsD' (List.map ReqT.row p.reqs)]],m:=[]}]) [.b false,.sum [2,4,5] (Exit.exit 0) {t:=mkT 30 0 [],h:=[.var [strD p.nm,int p.number,int p.uses,int p.earn,int p.num,int p.den,rowsD' (List.map ReqT.row p.reqs)]],m:=[]}] (by kernel_rfl) ⟨hc0,hl1,trivial⟩ rfl rfl h) (by simp only[fewB,fwB,hc0,ho2,cond_false];first|done|rfl) (by rfl)
  | inr o2_1_0 =>
   intro hl1
   exact Ev.castH (Ev.sym0 (P:=Tryz.prog) (Γ:=Γ0) (f:=10) (args:=[D.agg (ProgT.l p),rowsD' (List.map AttT.row l)]) (d:=bool false) pok (φ:=[(Dd ((↑(List.length (List.map ReqT.row p.reqs)):Int)>6)||Dd ((↑(List.length (List.map AttT.row l)):Int)>8))=false,CW Tryz.prog Γ0 [] false (.loop (sub Tryz.f10 0)) {t:=mkT 30 0 [(2,.ref (.ptr 0 0)),(4,bool false),(5,int 0)],h:=[.var [strD p.nm,int p.number,int p.uses,int p.earn,int p.num,int p.den,rowsD' (List.map ReqT.row p.reqs)]],m:=[]} (Exit.ret) {t:=mkT 30 0 [(4,bool false)],h:=[.var [strD p.nm,int p.number,int p.uses,int p.earn,int p.num,int p.den,rowsD' (List.map ReqT.row p.reqs)]],m:=[]}]) [.b false,.sum [2,4,5] (Exit.ret) {t:=mkT 30 0 [(4,bool false)],h:=[.var [strD p.nm,int p.number,int p.uses,int p.earn,int p.num,int p.den,rowsD' (List.map ReqT.row p.reqs)]],m:=[]}] (by kernel_rfl) ⟨hc0,hl1,trivial⟩ rfl rfl h) (by simp only[fewB,fwB,hc0,ho2,cond_false];first|done|rfl) (by rfl)
 ·exact Ev.castH (Ev.sym0 (P:=Tryz.prog) (Γ:=Γ0) (f:=10) (args:=[D.agg (ProgT.l p),rowsD' (List.map AttT.row l)]) (d:=bool false) pok (φ:=[(Dd ((↑(List.length (List.map ReqT.row p.reqs)):Int)>6)||Dd ((↑(List.length (List.map AttT.row l)):Int)>8))=true]) [.b true] (by kernel_rfl) ⟨hc0,trivial⟩ rfl rfl h) (by simp only[fewB,fwB,hc0,cond_true];first|done|rfl) (by rfl)
set_option maxRecDepth 1000000
def s19m0:Memo:=⟨69,[.ref (.ptr 31 0),int 0,int 5],[.gone,.vec [[int 7],[int 8]] 0 1,.vec [[int 8],[int 7]] 0 1,.vec [[strD ⟨#[97]⟩,int 6,int 1,bool false,nq,.ref (.vec 1 0)],[strD ⟨#[98]⟩,int 4,int 1,bool false,nq,.ref (.vec 2 0)]] 0 6,.gone,.vec [[int 7,int 0,int 5,int 0,int 6],[int 8,int 0,int 5,int 0,int 3]] 0 5,.var [strD ⟨#[]⟩,int 1,int 1,int 0,int 0,int 1,.ref (.vec 3 0)],.var [strD ⟨#[]⟩,int 1,int 1,int 0,int 0,int 1,.ref (.vec 3 0)],.var [nq,int 0,nq],.var [int 0],.gone,.gone,.gone,.gone,.gone,.gone,.vec [[int 0,int 1,int 6],[int 0,int 2,int 3],[int 1,int 3,int 6],[int 1,int 4,int 6],[int 2,int 3,int 3],[int 2,int 4,int 3],[int 3,int 5,int 6],[int 4,int 5,int 4]] 7 3,.gone,.gone,.gone,.gone,.gone,.gone,.gone,.gone,.gone,.gone,.var [int 0],.var [int 5],.vec [[int 0],[int 0],[int 0],[int 0],[int 0],[int 0],[int 0],[int 0]] 0 1,.vec [[.ref (.vec 34 1)],[.ref (.vec 36 2)],[.ref (.vec 40 2)],[.ref (.vec 44 2)],[.ref (.vec 48 2)],[.ref (.vec 58 1)]] 0 1,.var [.ref (.vec 16 7),.ref (.vec 29 0),.ref (.vec 30 0)],.gone,.gone,.vec [[int 0],[int 2]] 1 1,.gone,.vec [[int 1],[int 4],[int 6]] 2 1,.gone,.gone,.gone,.vec [[int 3],[int 8],[int 10]] 2 1,.gone,.gone,.gone,.vec [[int 5],[int 9],[int 12]] 2 1,.gone,.gone,.gone,.vec [[int 7],[int 11],[int 14]] 2 1,.gone,.gone,.gone,.gone,.gone,.gone,.gone,.gone,.gone,.vec [[int 13],[int 15]] 1 1,.gone,.gone,.gone,.var [.ref (.ptr 31 0)]],.ret (.ref (.vec 66 0)) [.gone,.vec [[int 7],[int 8]] 0 1,.vec [[int 8],[int 7]] 0 1,.vec [[strD ⟨#[97]⟩,int 6,int 1,bool false,nq,.ref (.vec 1 0)],[strD ⟨#[98]⟩,int 4,int 1,bool false,nq,.ref (.vec 2 0)]] 0 6,.gone,.vec [[int 7,int 0,int 5,int 0,int 6],[int 8,int 0,int 5,int 0,int 3]] 0 5,.var [strD ⟨#[]⟩,int 1,int 1,int 0,int 0,int 1,.ref (.vec 3 0)],.var [strD ⟨#[]⟩,int 1,int 1,int 0,int 0,int 1,.ref (.vec 3 0)],.var [nq,int 0,nq],.var [int 0],.gone,.gone,.gone,.gone,.gone,.gone,.vec [[int 0,int 1,int 6],[int 0,int 2,int 3],[int 1,int 3,int 6],[int 1,int 4,int 6],[int 2,int 3,int 3],[int 2,int 4,int 3],[int 3,int 5,int 6],[int 4,int 5,int 4]] 7 3,.gone,.gone,.gone,.gone,.gone,.gone,.gone,.gone,.gone,.gone,.var [int 0],.var [int 5],.vec [[int 0],[int 0],[int 0],[int 0],[int 0],[int 0],[int 0],[int 0]] 0 1,.vec [[.ref (.vec 34 1)],[.ref (.vec 36 2)],[.ref (.vec 40 2)],[.ref (.vec 44 2)],[.ref (.vec 48 2)],[.ref (.vec 58 1)]] 0 1,.var [.ref (.vec 16 7),.ref (.vec 29 0),.ref (.vec 30 0)],.gone,.gone,.vec [[int 0],[int 2]] 1 1,.gone,.vec [[int 1],[int 4],[int 6]] 2 1,.gone,.gone,.gone,.vec [[int 3],[int 8],[int 10]] 2 1,.gone,.gone,.gone,.vec [[int 5],[int 9],[int 12]] 2 1,.gone,.gone,.gone,.vec [[int 7],[int 11],[int 14]] 2 1,.gone,.gone,.gone,.gone,.gone,.gone,.gone,.gone,.gone,.vec [[int 13],[int 15]] 1 1,.gone,.gone,.gone,.var [.ref (.ptr 31 0)],.gone,.gone,.gone,.vec [[int 16],[int 0],[int 2],[int 4],[int 6],[int 12]] 0 1,.gone,.gone,.gone,.gone,.gone,.gone,.gone,.gone,.gone,.gone,.gone,.gone,.gone,.gone,.gone,.gone,.gone,.gone]⟩
theorem s19m0_ok:s19m0.Ok Tryz.prog Γ0:=Memo.ok_of pok (ms:=[]) (by kernel_rfl) trivial
def s19m1:Memo:=⟨68,[int 6,.ref (.vec 16 7)],[.gone,.vec [[int 7],[int 8]] 0 1,.vec [[int 8],[int 7]] 0 1,.vec [[strD ⟨#[97]⟩,int 6,int 1,bool false,nq,.ref (.vec 1 0)],[strD ⟨#[98]⟩,int 4,int 1,bool false,nq,.ref (.vec 2 0)]] 0 6,.gone,.vec [[int 7,int 0,int 5,int 0,int 6],[int 8,int 0,int 5,int 0,int 3]] 0 5,.var [strD ⟨#[]⟩,int 1,int 1,int 0,int 0,int 1,.ref (.vec 3 0)],.var [strD ⟨#[]⟩,int 1,int 1,int 0,int 0,int 1,.ref (.vec 3 0)],.var [nq,int 0,nq],.var [int 0],.gone,.gone,.gone,.gone,.gone,.gone,.vec [[int 0,int 1,int 6],[int 0,int 2,int 3],[int 1,int 3,int 6],[int 1,int 4,int 6],[int 2,int 3,int 3],[int 2,int 4,int 3],[int 3,int 5,int 6],[int 4,int 5,int 4]] 7 3,.gone,.gone,.gone,.gone,.gone,.gone,.gone,.gone,.gone,.gone,.var [int 0],.var [int 5]],.ret (.ref (.ptr 31 0)) [.gone,.vec [[int 7],[int 8]] 0 1,.vec [[int 8],[int 7]] 0 1,.vec [[strD ⟨#[97]⟩,int 6,int 1,bool false,nq,.ref (.vec 1 0)],[strD ⟨#[98]⟩,int 4,int 1,bool false,nq,.ref (.vec 2 0)]] 0 6,.gone,.vec [[int 7,int 0,int 5,int 0,int 6],[int 8,int 0,int 5,int 0,int 3]] 0 5,.var [strD ⟨#[]⟩,int 1,int 1,int 0,int 0,int 1,.ref (.vec 3 0)],.var [strD ⟨#[]⟩,int 1,int 1,int 0,int 0,int 1,.ref (.vec 3 0)],.var [nq,int 0,nq],.var [int 0],.gone,.gone,.gone,.gone,.gone,.gone,.vec [[int 0,int 1,int 6],[int 0,int 2,int 3],[int 1,int 3,int 6],[int 1,int 4,int 6],[int 2,int 3,int 3],[int 2,int 4,int 3],[int 3,int 5,int 6],[int 4,int 5,int 4]] 7 3,.gone,.gone,.gone,.gone,.gone,.gone,.gone,.gone,.gone,.gone,.var [int 0],.var [int 5],.vec [[int 0],[int 0],[int 0],[int 0],[int 0],[int 0],[int 0],[int 0]] 0 1,.vec [[.ref (.vec 34 1)],[.ref (.vec 36 2)],[.ref (.vec 40 2)],[.ref (.vec 44 2)],[.ref (.vec 48 2)],[.ref (.vec 58 1)]] 0 1,.var [.ref (.vec 16 7),.ref (.vec 29 0),.ref (.vec 30 0)],.gone,.gone,.vec [[int 0],[int 2]] 1 1,.gone,.vec [[int 1],[int 4],[int 6]] 2 1,.gone,.gone,.gone,.vec [[int 3],[int 8],[int 10]] 2 1,.gone,.gone,.gone,.vec [[int 5],[int 9],[int 12]] 2 1,.gone,.gone,.gone,.vec [[int 7],[int 11],[int 14]] 2 1,.gone,.gone,.gone,.gone,.gone,.gone,.gone,.gone,.gone,.vec [[int 13],[int 15]] 1 1,.gone,.gone,.gone]⟩
theorem s19m1_ok:s19m1.Ok Tryz.prog Γ0:=Memo.ok_of pok (ms:=[]) (by kernel_rfl) trivial
def s19m2:Memo:=⟨69,[.ref (.ptr 31 0),int 0,int 5],[.gone,.vec [[int 7],[int 8]] 0 1,.vec [[int 8],[int 7]] 0 1,.vec [[strD ⟨#[97]⟩,int 6,int 1,bool false,nq,.ref (.vec 1 0)],[strD ⟨#[98]⟩,int 4,int 1,bool false,nq,.ref (.vec 2 0)]] 0 6,.gone,.vec [[int 7,int 0,int 5,int 0,int 6],[int 8,int 0,int 5,int 0,int 3]] 0 5,.var [strD ⟨#[]⟩,int 1,int 1,int 0,int 0,int 1,.ref (.vec 3 0)],.var [strD ⟨#[]⟩,int 1,int 1,int 0,int 0,int 1,.ref (.vec 3 0)],.var [nq,int 0,nq],.var [int 0],.gone,.gone,.gone,.gone,.gone,.gone,.vec [[int 0,int 1,int 6],[int 0,int 2,int 3],[int 1,int 3,int 6],[int 1,int 4,int 6],[int 2,int 3,int 3],[int 2,int 4,int 3],[int 3,int 5,int 6],[int 4,int 5,int 4]] 7 3,.gone,.gone,.gone,.gone,.gone,.gone,.gone,.gone,.gone,.gone,.var [int 0],.var [int 5],.vec [[int 6],[int 0],[int 6],[int 0],[int 0],[int 0],[int 6],[int 0]] 0 1,.vec [[.ref (.vec 34 1)],[.ref (.vec 36 2)],[.ref (.vec 40 2)],[.ref (.vec 44 2)],[.ref (.vec 48 2)],[.ref (.vec 58 1)]] 0 1,.var [.ref (.vec 16 7),.ref (.vec 29 0),.ref (.vec 30 0)],.gone,.gone,.vec [[int 0],[int 2]] 1 1,.gone,.vec [[int 1],[int 4],[int 6]] 2 1,.gone,.gone,.gone,.vec [[int 3],[int 8],[int 10]] 2 1,.gone,.gone,.gone,.vec [[int 5],[int 9],[int 12]] 2 1,.gone,.gone,.gone,.vec [[int 7],[int 11],[int 14]] 2 1,.gone,.gone,.gone,.gone,.gone,.gone,.gone,.gone,.gone,.vec [[int 13],[int 15]] 1 1,.gone,.gone,.gone,.var [.ref (.ptr 31 0)],.gone,.gone,.gone,.vec [[int 16],[int 0],[int 2],[int 4],[int 6],[int 12]] 0 1,.gone,.gone,.gone,.gone,.gone,.gone,.gone,.gone,.gone,.gone,.gone,.gone,.gone,.gone,.gone,.gone,.gone,.gone,.var [.ref (.vec 66 0)],.var [int 6]],.ret (.ref (.vec 90 0)) [.gone,.vec [[int 7],[int 8]] 0 1,.vec [[int 8],[int 7]] 0 1,.vec [[strD ⟨#[97]⟩,int 6,int 1,bool false,nq,.ref (.vec 1 0)],[strD ⟨#[98]⟩,int 4,int 1,bool false,nq,.ref (.vec 2 0)]] 0 6,.gone,.vec [[int 7,int 0,int 5,int 0,int 6],[int 8,int 0,int 5,int 0,int 3]] 0 5,.var [strD ⟨#[]⟩,int 1,int 1,int 0,int 0,int 1,.ref (.vec 3 0)],.var [strD ⟨#[]⟩,int 1,int 1,int 0,int 0,int 1,.ref (.vec 3 0)],.var [nq,int 0,nq],.var [int 0],.gone,.gone,.gone,.gone,.gone,.gone,.vec [[int 0,int 1,int 6],[int 0,int 2,int 3],[int 1,int 3,int 6],[int 1,int 4,int 6],[int 2,int 3,int 3],[int 2,int 4,int 3],[int 3,int 5,int 6],[int 4,int 5,int 4]] 7 3,.gone,.gone,.gone,.gone,.gone,.gone,.gone,.gone,.gone,.gone,.var [int 0],.var [int 5],.vec [[int 6],[int 0],[int 6],[int 0],[int 0],[int 0],[int 6],[int 0]] 0 1,.vec [[.ref (.vec 34 1)],[.ref (.vec 36 2)],[.ref (.vec 40 2)],[.ref (.vec 44 2)],[.ref (.vec 48 2)],[.ref (.vec 58 1)]] 0 1,.var [.ref (.vec 16 7),.ref (.vec 29 0),.ref (.vec 30 0)],.gone,.gone,.vec [[int 0],[int 2]] 1 1,.gone,.vec [[int 1],[int 4],[int 6]] 2 1,.gone,.gone,.gone,.vec [[int 3],[int 8],[int 10]] 2 1,.gone,.gone,.gone,.vec [[int 5],[int 9],[int 12]] 2 1,.gone,.gone,.gone,.vec [[int 7],[int 11],[int 14]] 2 1,.gone,.gone,.gone,.gone,.gone,.gone,.gone,.gone,.gone,.vec [[int 13],[int 15]] 1 1,.gone,.gone,.gone,.var [.ref (.ptr 31 0)],.gone,.gone,.gone,.vec [[int 16],[int 0],[int 2],[int 4],[int 6],[int 12]] 0 1,.gone,.gone,.gone,.gone,.gone,.gone,.gone,.gone,.gone,.gone,.gone,.gone,.gone,.gone,.gone,.gone,.gone,.gone,.var [.ref (.vec 66 0)],.var [int 6],.gone,.gone,.gone,.vec [[int 16],[int 5],[int 2],[int 8],[int 10],[int 14]] 0 1,.gone,.gone,.gone,.gone,.gone,.gone,.gone,.gone,.gone,.gone,.gone,.gone,.gone,.gone,.gone,.gone,.gone,.gone]⟩
theorem s19m2_ok:s19m2.Ok Tryz.prog Γ0:=Memo.ok_of pok (ms:=[]) (by kernel_rfl) trivial
def s19m3:Memo:=⟨42,[int 6,.ref (.vec 16 7),int 0,int 5],[.gone,.vec [[int 7],[int 8]] 0 1,.vec [[int 8],[int 7]] 0 1,.vec [[strD ⟨#[97]⟩,int 6,int 1,bool false,nq,.ref (.vec 1 0)],[strD ⟨#[98]⟩,int 4,int 1,bool false,nq,.ref (.vec 2 0)]] 0 6,.gone,.vec [[int 7,int 0,int 5,int 0,int 6],[int 8,int 0,int 5,int 0,int 3]] 0 5,.var [strD ⟨#[]⟩,int 1,int 1,int 0,int 0,int 1,.ref (.vec 3 0)],.var [strD ⟨#[]⟩,int 1,int 1,int 0,int 0,int 1,.ref (.vec 3 0)],.var [nq,int 0,nq],.var [int 0],.gone,.gone,.gone,.gone,.gone,.gone,.vec [[int 0,int 1,int 6],[int 0,int 2,int 3],[int 1,int 3,int 6],[int 1,int 4,int 6],[int 2,int 3,int 3],[int 2,int 4,int 3],[int 3,int 5,int 6],[int 4,int 5,int 4]] 7 3,.gone,.gone,.gone,.gone,.gone,.gone,.gone,.gone,.gone,.gone],.ret (.tup [.ref (.vec 29 0),.ref (.vec 122 0),int 0]) [.gone,.vec [[int 7],[int 8]] 0 1,.vec [[int 8],[int 7]] 0 1,.vec [[strD ⟨#[97]⟩,int 6,int 1,bool false,nq,.ref (.vec 1 0)],[strD ⟨#[98]⟩,int 4,int 1,bool false,nq,.ref (.vec 2 0)]] 0 6,.gone,.vec [[int 7,int 0,int 5,int 0,int 6],[int 8,int 0,int 5,int 0,int 3]] 0 5,.var [strD ⟨#[]⟩,int 1,int 1,int 0,int 0,int 1,.ref (.vec 3 0)],.var [strD ⟨#[]⟩,int 1,int 1,int 0,int 0,int 1,.ref (.vec 3 0)],.var [nq,int 0,nq],.var [int 0],.gone,.gone,.gone,.gone,.gone,.gone,.vec [[int 0,int 1,int 6],[int 0,int 2,int 3],[int 1,int 3,int 6],[int 1,int 4,int 6],[int 2,int 3,int 3],[int 2,int 4,int 3],[int 3,int 5,int 6],[int 4,int 5,int 4]] 7 3,.gone,.gone,.gone,.gone,.gone,.gone,.gone,.gone,.gone,.gone,.gone,.gone,.vec [[int 6],[int 3],[int 6],[int 0],[int 0],[int 3],[int 6],[int 3]] 0 1,.gone,.gone,.gone,.gone,.gone,.gone,.gone,.gone,.gone,.gone,.gone,.gone,.gone,.gone,.gone,.gone,.gone,.gone,.gone,.gone,.gone,.gone,.gone,.gone,.gone,.gone,.gone,.gone,.gone,.gone,.gone,.gone,.gone,.gone,.gone,.gone,.gone,.gone,.gone,.gone,.gone,.gone,.gone,.gone,.gone,.gone,.gone,.gone,.gone,.gone,.gone,.gone,.gone,.gone,.gone,.gone,.gone,.gone,.gone,.gone,.gone,.gone,.gone,.gone,.gone,.gone,.gone,.gone,.gone,.gone,.gone,.gone,.gone,.gone,.gone,.gone,.gone,.gone,.gone,.gone,.gone,.gone,.gone,.gone,.gone,.gone,.gone,.gone,.gone,.gone,.gone,.gone,.vec [[bool true],[bool false],[bool false],[bool false],[bool false],[bool false]] 0 1]⟩
theorem s19m3_ok:s19m3.Ok Tryz.prog Γ0:=Memo.ok_of pok (ms:=[s19m0,s19m1,s19m2]) (by kernel_rfl) ⟨s19m0_ok,s19m1_ok,s19m2_ok,trivial⟩
def s19m4:Memo:=⟨19,[.agg [strD ⟨#[]⟩,int 1,int 1,int 0,int 0,int 1,.ref (.vec 3 0)],.ref (.vec 5 0)],[.gone,.vec [[int 7],[int 8]] 0 1,.vec [[int 8],[int 7]] 0 1,.vec [[strD ⟨#[97]⟩,int 6,int 1,bool false,nq,.ref (.vec 1 0)],[strD ⟨#[98]⟩,int 4,int 1,bool false,nq,.ref (.vec 2 0)]] 0 6,.gone,.vec [[int 7,int 0,int 5,int 0,int 6],[int 8,int 0,int 5,int 0,int 3]] 0 5,.var [strD ⟨#[]⟩,int 1,int 1,int 0,int 0,int 1,.ref (.vec 3 0)]],.ret (.tup [.agg [.ref (.vec 141 1),int 1,.ref (.vec 122 0)],int 0]) [.gone,.vec [[int 7],[int 8]] 0 1,.vec [[int 8],[int 7]] 0 1,.vec [[strD ⟨#[97]⟩,int 6,int 1,bool false,nq,.ref (.vec 1 0)],[strD ⟨#[98]⟩,int 4,int 1,bool false,nq,.ref (.vec 2 0)]] 0 6,.gone,.vec [[int 7,int 0,int 5,int 0,int 6],[int 8,int 0,int 5,int 0,int 3]] 0 5,.var [strD ⟨#[]⟩,int 1,int 1,int 0,int 0,int 1,.ref (.vec 3 0)],.gone,.gone,.gone,.gone,.gone,.gone,.gone,.gone,.gone,.gone,.gone,.gone,.gone,.gone,.gone,.gone,.gone,.gone,.gone,.gone,.gone,.gone,.gone,.gone,.gone,.gone,.gone,.gone,.gone,.gone,.gone,.gone,.gone,.gone,.gone,.gone,.gone,.gone,.gone,.gone,.gone,.gone,.gone,.gone,.gone,.gone,.gone,.gone,.gone,.gone,.gone,.gone,.gone,.gone,.gone,.gone,.gone,.gone,.gone,.gone,.gone,.gone,.gone,.gone,.gone,.gone,.gone,.gone,.gone,.gone,.gone,.gone,.gone,.gone,.gone,.gone,.gone,.gone,.gone,.gone,.gone,.gone,.gone,.gone,.gone,.gone,.gone,.gone,.gone,.gone,.gone,.gone,.gone,.gone,.gone,.gone,.gone,.gone,.gone,.gone,.gone,.gone,.gone,.gone,.gone,.gone,.gone,.gone,.gone,.gone,.gone,.gone,.gone,.gone,.gone,.vec [[bool true],[bool false],[bool false],[bool false],[bool false],[bool false]] 0 1,.gone,.gone,.gone,.gone,.gone,.gone,.gone,.gone,.gone,.gone,.gone,.gone,.gone,.gone,.gone,.gone,.gone,.gone,.vec [[int 0,int 0,int 6],[int 1,int 1,int 3]] 1 3,.gone,.gone,.gone,.gone,.gone,.gone,.gone,.gone,.gone]⟩
theorem s19m4_ok:s19m4.Ok Tryz.prog Γ0:=Memo.ok_of pok (ms:=[s19m3]) (by kernel_rfl) ⟨s19m3_ok,trivial⟩
def s19m5:Memo:=⟨16,[.agg [strD ⟨#[]⟩,int 1,int 1,int 0,int 0,int 1,.ref (.vec 3 0)],.ref (.vec 5 0)],[.gone,.vec [[int 7],[int 8]] 0 1,.vec [[int 8],[int 7]] 0 1,.vec [[strD ⟨#[97]⟩,int 6,int 1,bool false,nq,.ref (.vec 1 0)],[strD ⟨#[98]⟩,int 4,int 1,bool false,nq,.ref (.vec 2 0)]] 0 6,.gone,.vec [[int 7,int 0,int 5,int 0,int 6],[int 8,int 0,int 5,int 0,int 3]] 0 5,.var [strD ⟨#[]⟩,int 1,int 1,int 0,int 0,int 1,.ref (.vec 3 0)],.gone,.gone,.gone,.gone,.gone,.gone,.gone,.gone,.gone,.gone,.gone,.gone,.gone,.gone,.gone,.gone,.gone,.gone,.gone,.gone,.gone,.gone,.gone,.gone,.gone,.gone,.gone,.gone,.gone,.gone,.gone,.gone,.gone,.gone,.gone,.gone,.gone,.gone,.gone,.gone,.gone,.gone,.gone,.gone,.gone,.gone,.gone,.gone,.gone,.gone,.gone,.gone,.gone,.gone,.gone,.gone,.gone,.gone,.gone,.gone,.gone,.gone,.gone,.gone,.gone,.gone,.gone,.gone,.gone,.gone,.gone,.gone,.gone,.gone,.gone,.gone,.gone,.gone,.gone,.gone,.gone,.gone,.gone,.gone,.gone,.gone,.gone,.gone,.gone,.gone,.gone,.gone,.gone,.gone,.gone,.gone,.gone,.gone,.gone,.gone,.gone,.gone,.gone,.gone,.gone,.gone,.gone,.gone,.gone,.gone,.gone,.gone,.gone,.gone,.gone,.vec [[bool true],[bool false],[bool false],[bool false],[bool false],[bool false]] 0 1,.gone,.gone,.gone,.gone,.gone,.gone,.gone,.gone,.gone,.gone,.gone,.gone,.gone,.gone,.gone,.gone,.gone,.gone,.vec [[int 0,int 0,int 6],[int 1,int 1,int 3]] 1 3,.gone,.gone,.gone,.gone,.gone,.gone,.gone,.gone,.gone,.var [.ref (.vec 141 1),int 1,.ref (.vec 122 0)],.gone,.gone,.gone,.gone,.gone,.gone,.gone,.gone,.gone,.gone,.gone,.gone,.gone,.gone,.gone,.gone,.gone,.gone,.gone,.gone,.vec [[bool true],[bool false]] 0 1,.gone,.gone,.gone,.gone,.gone,.gone,.gone,.var [nq,int 0,.ref (.vec 172 0)],.var [strD ⟨#[]⟩,int 1,int 1,int 0,int 0,int 1,.ref (.vec 183 0)],.vec [[int 7]] 0 1,.vec [[strD ⟨#[]⟩,int 6,int 0,bool true,nq,.ref (.vec 182 0)]] 0 6,.gone,.gone,.gone,.gone,.gone,.gone,.gone,.gone,.gone,.gone,.gone,.gone,.gone,.vec [[int 3,int 0,int 0,int 0,int 1]] 0 5,.var [nq,int 0,nq]],.ret (.tup [int 6,.ref (.vec 205 7),int 0]) [.gone,.vec [[int 7],[int 8]] 0 1,.vec [[int 8],[int 7]] 0 1,.vec [[strD ⟨#[97]⟩,int 6,int 1,bool false,nq,.ref (.vec 1 0)],[strD ⟨#[98]⟩,int 4,int 1,bool false,nq,.ref (.vec 2 0)]] 0 6,.gone,.vec [[int 7,int 0,int 5,int 0,int 6],[int 8,int 0,int 5,int 0,int 3]] 0 5,.var [strD ⟨#[]⟩,int 1,int 1,int 0,int 0,int 1,.ref (.vec 3 0)],.gone,.gone,.gone,.gone,.gone,.gone,.gone,.gone,.gone,.gone,.gone,.gone,.gone,.gone,.gone,.gone,.gone,.gone,.gone,.gone,.gone,.gone,.gone,.gone,.gone,.gone,.gone,.gone,.gone,.gone,.gone,.gone,.gone,.gone,.gone,.gone,.gone,.gone,.gone,.gone,.gone,.gone,.gone,.gone,.gone,.gone,.gone,.gone,.gone,.gone,.gone,.gone,.gone,.gone,.gone,.gone,.gone,.gone,.gone,.gone,.gone,.gone,.gone,.gone,.gone,.gone,.gone,.gone,.gone,.gone,.gone,.gone,.gone,.gone,.gone,.gone,.gone,.gone,.gone,.gone,.gone,.gone,.gone,.gone,.gone,.gone,.gone,.gone,.gone,.gone,.gone,.gone,.gone,.gone,.gone,.gone,.gone,.gone,.gone,.gone,.gone,.gone,.gone,.gone,.gone,.gone,.gone,.gone,.gone,.gone,.gone,.gone,.gone,.gone,.gone,.vec [[bool true],[bool false],[bool false],[bool false],[bool false],[bool false]] 0 1,.gone,.gone,.gone,.gone,.gone,.gone,.gone,.gone,.gone,.gone,.gone,.gone,.gone,.gone,.gone,.gone,.gone,.gone,.vec [[int 0,int 0,int 6],[int 1,int 1,int 3]] 1 3,.gone,.gone,.gone,.gone,.gone,.gone,.gone,.gone,.gone,.var [.ref (.vec 141 1),int 1,.ref (.vec 122 0)],.gone,.gone,.gone,.gone,.gone,.gone,.gone,.gone,.gone,.gone,.gone,.gone,.gone,.gone,.gone,.gone,.gone,.gone,.gone,.gone,.vec [[bool true],[bool false]] 0 1,.gone,.gone,.gone,.gone,.gone,.gone,.gone,.var [nq,int 0,.ref (.vec 172 0)],.var [strD ⟨#[]⟩,int 1,int 1,int 0,int 0,int 1,.ref (.vec 183 0)],.vec [[int 7]] 0 1,.vec [[strD ⟨#[]⟩,int 6,int 0,bool true,nq,.ref (.vec 182 0)]] 0 6,.gone,.gone,.gone,.gone,.gone,.gone,.gone,.gone,.gone,.gone,.gone,.gone,.gone,.vec [[int 3,int 0,int 0,int 0,int 1]] 0 5,.var [nq,int 0,nq],.gone,.gone,.gone,.gone,.gone,.gone,.vec [[int 0,int 1,int 6],[int 0,int 2,int 3],[int 1,int 3,int 6],[int 1,int 4,int 6],[int 2,int 3,int 3],[int 2,int 4,int 3],[int 3,int 5,int 6],[int 4,int 5,int 4]] 7 3,.gone,.gone,.gone,.gone,.gone,.gone,.gone,.gone,.gone,.gone]⟩
theorem s19m5_ok:s19m5.Ok Tryz.prog Γ0:=Memo.ok_of pok (ms:=[]) (by kernel_rfl) trivial
def s19m6:Memo:=⟨22,[.agg [strD ⟨#[]⟩,int 1,int 1,int 0,int 0,int 1,.ref (.vec 3 0)],.ref (.vec 5 0),.ref (.vec 141 1)],[.gone,.vec [[int 7],[int 8]] 0 1,.vec [[int 8],[int 7]] 0 1,.vec [[strD ⟨#[97]⟩,int 6,int 1,bool false,nq,.ref (.vec 1 0)],[strD ⟨#[98]⟩,int 4,int 1,bool false,nq,.ref (.vec 2 0)]] 0 6,.gone,.vec [[int 7,int 0,int 5,int 0,int 6],[int 8,int 0,int 5,int 0,int 3]] 0 5,.var [strD ⟨#[]⟩,int 1,int 1,int 0,int 0,int 1,.ref (.vec 3 0)],.gone,.gone,.gone,.gone,.gone,.gone,.gone,.gone,.gone,.gone,.gone,.gone,.gone,.gone,.gone,.gone,.gone,.gone,.gone,.gone,.gone,.gone,.gone,.gone,.gone,.gone,.gone,.gone,.gone,.gone,.gone,.gone,.gone,.gone,.gone,.gone,.gone,.gone,.gone,.gone,.gone,.gone,.gone,.gone,.gone,.gone,.gone,.gone,.gone,.gone,.gone,.gone,.gone,.gone,.gone,.gone,.gone,.gone,.gone,.gone,.gone,.gone,.gone,.gone,.gone,.gone,.gone,.gone,.gone,.gone,.gone,.gone,.gone,.gone,.gone,.gone,.gone,.gone,.gone,.gone,.gone,.gone,.gone,.gone,.gone,.gone,.gone,.gone,.gone,.gone,.gone,.gone,.gone,.gone,.gone,.gone,.gone,.gone,.gone,.gone,.gone,.gone,.gone,.gone,.gone,.gone,.gone,.gone,.gone,.gone,.gone,.gone,.gone,.gone,.gone,.vec [[bool true],[bool false],[bool false],[bool false],[bool false],[bool false]] 0 1,.gone,.gone,.gone,.gone,.gone,.gone,.gone,.gone,.gone,.gone,.gone,.gone,.gone,.gone,.gone,.gone,.gone,.gone,.vec [[int 0,int 0,int 6],[int 1,int 1,int 3]] 1 3,.gone,.gone,.gone,.gone,.gone,.gone,.gone,.gone,.gone,.var [.ref (.vec 141 1),int 1,.ref (.vec 122 0)],.gone,.gone,.gone,.gone,.gone,.gone,.gone,.gone,.gone,.gone,.gone,.gone,.gone,.gone,.gone,.gone,.gone,.gone,.gone,.gone,.vec [[bool true],[bool false]] 0 1,.gone,.gone,.gone,.gone,.gone,.gone,.gone,.var [nq,int 0,.ref (.vec 172 0)],.var [strD ⟨#[]⟩,int 1,int 1,int 0,int 0,int 1,.ref (.vec 183 0)],.vec [[int 7]] 0 1,.vec [[strD ⟨#[]⟩,int 6,int 0,bool true,nq,.ref (.vec 182 0)]] 0 6,.gone,.gone,.gone,.gone,.gone,.gone,.gone,.gone,.gone,.gone,.gone,.gone,.gone,.vec [[int 3,int 0,int 0,int 0,int 1]] 0 5,.var [nq,int 0,nq],.gone,.gone,.gone,.gone,.gone,.gone,.vec [[int 0,int 1,int 6],[int 0,int 2,int 3],[int 1,int 3,int 6],[int 1,int 4,int 6],[int 2,int 3,int 3],[int 2,int 4,int 3],[int 3,int 5,int 6],[int 4,int 5,int 4]] 7 3,.gone,.gone,.gone,.gone,.gone,.gone,.gone,.gone,.gone,.gone],.ret (bool true) [.gone,.vec [[int 7],[int 8]] 0 1,.vec [[int 8],[int 7]] 0 1,.vec [[strD ⟨#[97]⟩,int 6,int 1,bool false,nq,.ref (.vec 1 0)],[strD ⟨#[98]⟩,int 4,int 1,bool false,nq,.ref (.vec 2 0)]] 0 6,.gone,.vec [[int 7,int 0,int 5,int 0,int 6],[int 8,int 0,int 5,int 0,int 3]] 0 5,.var [strD ⟨#[]⟩,int 1,int 1,int 0,int 0,int 1,.ref (.vec 3 0)],.gone,.gone,.gone,.gone,.gone,.gone,.gone,.gone,.gone,.gone,.gone,.gone,.gone,.gone,.gone,.gone,.gone,.gone,.gone,.gone,.gone,.gone,.gone,.gone,.gone,.gone,.gone,.gone,.gone,.gone,.gone,.gone,.gone,.gone,.gone,.gone,.gone,.gone,.gone,.gone,.gone,.gone,.gone,.gone,.gone,.gone,.gone,.gone,.gone,.gone,.gone,.gone,.gone,.gone,.gone,.gone,.gone,.gone,.gone,.gone,.gone,.gone,.gone,.gone,.gone,.gone,.gone,.gone,.gone,.gone,.gone,.gone,.gone,.gone,.gone,.gone,.gone,.gone,.gone,.gone,.gone,.gone,.gone,.gone,.gone,.gone,.gone,.gone,.gone,.gone,.gone,.gone,.gone,.gone,.gone,.gone,.gone,.gone,.gone,.gone,.gone,.gone,.gone,.gone,.gone,.gone,.gone,.gone,.gone,.gone,.gone,.gone,.gone,.gone,.gone,.vec [[bool true],[bool false],[bool false],[bool false],[bool false],[bool false]] 0 1,.gone,.gone,.gone,.gone,.gone,.gone,.gone,.gone,.gone,.gone,.gone,.gone,.gone,.gone,.gone,.gone,.gone,.gone,.vec [[int 0,int 0,int 6],[int 1,int 1,int 3]] 1 3,.gone,.gone,.gone,.gone,.gone,.gone,.gone,.gone,.gone,.var [.ref (.vec 141 1),int 1,.ref (.vec 122 0)],.gone,.gone,.gone,.gone,.gone,.gone,.gone,.gone,.gone,.gone,.gone,.gone,.gone,.gone,.gone,.gone,.gone,.gone,.gone,.gone,.vec [[bool true],[bool false]] 0 1,.gone,.gone,.gone,.gone,.gone,.gone,.gone,.var [nq,int 0,.ref (.vec 172 0)],.var [strD ⟨#[]⟩,int 1,int 1,int 0,int 0,int 1,.ref (.vec 183 0)],.vec [[int 7]] 0 1,.vec [[strD ⟨#[]⟩,int 6,int 0,bool true,nq,.ref (.vec 182 0)]] 0 6,.gone,.gone,.gone,.gone,.gone,.gone,.gone,.gone,.gone,.gone,.gone,.gone,.gone,.vec [[int 3,int 0,int 0,int 0,int 1]] 0 5,.var [nq,int 0,nq],.gone,.gone,.gone,.gone,.gone,.gone,.vec [[int 0,int 1,int 6],[int 0,int 2,int 3],[int 1,int 3,int 6],[int 1,int 4,int 6],[int 2,int 3,int 3],[int 2,int 4,int 3],[int 3,int 5,int 6],[int 4,int 5,int 4]] 7 3,.gone,.gone,.gone,.gone,.gone,.gone,.gone,.gone,.gone,.gone]⟩
theorem s19m6_ok:s19m6.Ok Tryz.prog Γ0:=Memo.ok_of pok (ms:=[]) (by kernel_rfl) trivial
def s19mR:Memo:=⟨9,[],[],.ret (bool true) []⟩
theorem s19mR_ok:s19mR.Ok Tryz.prog Γ0:=Memo.ok_of pok (ms:=[s19m4,s19m5,s19m6]) (by kernel_rfl) ⟨s19m4_ok,s19m5_ok,s19m6_ok,trivial⟩
theorem sane19_ev(h:List Blk):Ev Tryz.prog Γ0 9 [] h (bool true) h:=Ev.frame0 rfl (Memo.call s19mR_ok rfl) h
theorem few_le{p:ProgT}{l:List AttT}(h:(!fewB p ((l.map AttT.row).length:Int))=false):p.reqs.length≤6∧l.length≤8:=by
 unfold fewB at h
 cases hc:(Dd (((p.reqs.map ReqT.row).length:Int)>6)||Dd (((l.map AttT.row).length:Int)>8))
 ·simp only[Bool.or_eq_false_iff,decide_eq_false_iff_not,List.length_map] at hc
  omega
 ·rw[hc] at h;simp at h
theorem pErr_or(p:ProgT):pErr p=0∨pErr p=190:=by
 unfold pErr
 cases pHead p with
 | true=>exact .inr rfl
 | false =>
  simp only[cond_false]
  cases forL ckF p.reqs () with
  | inl _=>exact .inl rfl
  | inr _=>exact .inr rfl
theorem aErr_or(l:List AttT):aErr l=0∨aErr l=150:=by
 unfold aErr
 cases l.any (fun a=>!attB a) with
 | true=>exact .inr rfl
 | false=>exact .inl rfl
theorem net_err{p:ProgT}{l:List AttT}:(netR p l).2.2=0∧pErr p=0∧aErr l=0∨((netR p l).2.2=150∨(netR p l).2.2=190∨(netR p l).2.2=180):=by
 show(netX p l (sumsR l).2.2).2.2=0∧_∨((netX p l (sumsR l).2.2).2.2=150∨(netX p l (sumsR l).2.2).2.2=190∨(netX p l (sumsR l).2.2).2.2=180)
 unfold netX sumsR
 rcases pErr_or p with h|h<;>rcases aErr_or l with h2|h2<;>rw[h,h2]<;>simp
theorem degreeAssigned_a{p:ProgT}(hp:p.ok){l:List AttT}(hfew:∀h,Ev Tryz.prog Γ0 10 [.agg p.l,rowsD' (l.map AttT.row)] h (bool (fewB p ((l.map AttT.row).length:Int))) h)(h:List Blk):Ev Tryz.prog Γ0 6 [.agg p.l,rowsD' (l.map AttT.row)] h (bool true) h:=by
 cases ho:fewB p ((l.map AttT.row).length:Int) with
 | false=>rw[ho] at hfew;exact da_out sane19_ev hfew h
 | true =>
  obtain⟨h1,h2⟩:=few_le (p:=p) (l:=l) (by rw[ho];rfl)
  rw[ho] at hfew
  rcases net_err (p:=p) (l:=l) with ⟨_,e1,e2⟩|he
  ·have hN:NetOk p l:=⟨e1,e2,h1,by omega⟩
   obtain⟨j,g,hR,hF,_⟩:=max_all (es:=net3 p l) (n:=nN p l) (frm:=0) (to:=(nN p l:Int) - 1) (by have:=hN.size;omega) (fun x hx=>(net_good hN x hx).inn) (fun x hx=>⟨(net_good hN x hx).m0,(net_good hN x hx).m1⟩) ⟨by omega,by show(0:Int).toNat<2+l.length+p.reqs.length;simp;omega⟩ (by have:nN p l=2+l.length+p.reqs.length:=rfl;omega) (by have:nN p l=2+l.length+p.reqs.length:=rfl;omega)
   obtain⟨m1,m2⟩:=auR_ms hN hF
   have hu:(auR p l g.1).us.length≤1000:=by
    have:=(apGs (fl:=g.1) (i:=0) [] ⟨[],0,0⟩ 0 rfl (by simp)).2
    rw[auR_us hN]
    have h54:=pairsN_small hN
    have key:∀(ts:List (Int×Int×Int)) (c:Nat),(useL g.1 ts c).length≤ts.length:=by
     intro ts
     induction ts with
     | nil=>intro c;exact Nat.le_refl _
     | cons t ts ih=>intro c;simp only[useL];have:=ih (c+1);split<;>simp only[List.length_cons]<;>omega
    have:=key (prs p l 0) l.length
    rw[prs_len] at this;omega
   refine da_ok (us:=(auR p l g.1).us) (ms:=(auR p l g.1).ms) (cut:=cutR g.2) sane19_ev hfew (audit_ok hp hN hR hF.ok.len) ?_ (by omega) hu (by rw[←m1];simp) (by simpa using m2) h
   intro h'
   refine asn_true hp hu (by omega) (by omega) ?_ ?_ ?_ ?_ h'
   ·rw[auR_us hN];exact useL_ok hF.ok
   ·rw[auR_us hN];exact pw_next (useL_pw _ _ _ (prs_pw p l 0))
   ·rw[auR_us hN];exact sumA_le hN hF
   ·rw[auR_us hN];exact sumQ_le hN hF
  ·refine da_bad (e:=(netR p l).2.2) sane19_ev hfew (audit_bad he (fun h=>net_ev hp (by omega) (by omega) h)) ?_ h
   rcases he with e|e|e<;>rw[e]<;>rfl
theorem degreeAssigned_ev{p:ProgT}(hp:p.ok){l:List AttT}(h:List Blk):Ev Tryz.prog Γ0 6 [.agg p.l,rowsD' (l.map AttT.row)] h (bool true) h:=degreeAssigned_a hp (few_ev hp.sr) h
open Go.ChangeShapes Go.WideShapes Go.ChangeAt Go.RowKit Go.Proofs.YthokmgafnhmlbaaGreatDoor
set_option maxRecDepth 100000
theorem cells3:Tryz.prog.cellsOf 3=1:=by kernel_rfl
theorem cells4:Tryz.prog.cellsOf 4=1:=by kernel_rfl
theorem cells9:Tryz.prog.cellsOf 9=1:=by kernel_rfl
theorem cells23:Tryz.prog.cellsOf 23=2:=by kernel_rfl
theorem cells24:Tryz.prog.cellsOf 24=1:=by kernel_rfl
theorem cells26:Tryz.prog.cellsOf 26=7:=by kernel_rfl
theorem cells28:Tryz.prog.cellsOf 28=5:=by kernel_rfl
theorem cells34:Tryz.prog.cellsOf 34=1:=by kernel_rfl
theorem cells57:Tryz.prog.cellsOf 57=1:=by kernel_rfl
theorem cells59:Tryz.prog.cellsOf 59=6:=by kernel_rfl
theorem bytes3:Tryz.prog.bytesOf 3=8:=by kernel_rfl
theorem bytes28:Tryz.prog.bytesOf 28=40:=by kernel_rfl
theorem bytes59:Tryz.prog.bytesOf 59=88:=by kernel_rfl
theorem plain26:plainB Tryz.prog [3,4,9,23,24,26,28,34,37,57,59]=true:=by kernel_rfl
theorem shp_int{n:Nat}{ds:List Dp}(h:Shp Tryz.prog n 3 ds):∃x,ds=[vi x]∧I64 x:=by
 cases n with
 | zero=>exact h.elim
 | succ n =>
  simp only[Shp,Tryz.underlying3] at h
  obtain⟨x,rfl,hw⟩:=h
  refine⟨x,rfl,?_⟩
  have:=bounds_i64 hw
  exact this
theorem shp_str{n:Nat}{ds:List Dp}(h:Shp Tryz.prog n 9 ds):∃s,ds=[vs s]:=by
 cases n with
 | zero=>exact h.elim
 | succ n =>
  simp only[Shp,Tryz.underlying9] at h
  obtain⟨s,rfl,_⟩:=h
  exact⟨s,rfl⟩
theorem shp_ratio{n:Nat}{ds:List Dp}(h:Shp Tryz.prog n 23 ds):∃a b,ds=[vi a,vi b]∧I64 a∧I64 b:=by
 cases n with
 | zero=>exact h.elim
 | succ n =>
  simp only[Shp,Tryz.underlying23,List.forall_mem_cons,cells3,cells23] at h
  obtain⟨hl,h1,h2,_⟩:=h
  obtain⟨a,e1,ha⟩:=shp_int h1
  obtain⟨b,e2,hb⟩:=shp_int h2
  match ds,hl with
  | [x,y],_ =>
   simp at e1 e2
   subst e1;subst e2
   exact⟨a,b,rfl,ha,hb⟩
theorem map_of{α:Type}{row:α→List Dp}{ok:α→Prop}:∀{es:List (List Dp)},(∀r∈es,∃a,r=row a∧ok a)→∃l:List α,es=l.map row∧∀a∈l,ok a
 | [],_=>⟨[],rfl,by simp⟩
 | r::es,h=>by
  obtain⟨a,rfl,ha⟩:=h r (List.mem_cons_self ..)
  obtain⟨l,rfl,hl⟩:=map_of (fun r hr=>h r (List.mem_cons_of_mem _ hr))
  exact⟨a::l,rfl,fun b hb=>(List.mem_cons.1 hb).elim (fun e=>e▸ha) (hl b)⟩
theorem short_of{n k:Nat}(h:n*k≤reachBytes)(hk:1≤k):n≤140737488355328:=by
 have:n≤n*k:=Nat.le_mul_of_pos_right n hk
 unfold reachBytes at h
 omega
theorem shp_bool{n:Nat}{ds:List Dp}(h:Shp Tryz.prog n 4 ds):∃b,ds=[.v (.bool b)]:=by
 cases n with
 | zero=>exact h.elim
 | succ n =>
  simp only[Shp,Tryz.underlying4] at h
  obtain⟨b,rfl⟩:=h
  exact⟨b,rfl⟩
theorem shp_strs{n:Nat}{ds:List Dp}(h:Shp Tryz.prog n 57 ds):∃l,ds=[.sl l]:=by
 cases n with
 | zero=>exact h.elim
 | succ n =>
  simp only[Shp,Tryz.underlying57] at h
  obtain⟨es,rfl,_⟩:=h
  exact⟨es,rfl⟩
theorem shp_ints{n:Nat}{ds:List Dp}(h:Shp Tryz.prog n 34 ds):∃l:List Int,ds=[.sl (inR1 l)]∧Short l:=by
 cases n with
 | zero=>exact h.elim
 | succ n =>
  simp only[Shp,Tryz.underlying34,bytes3] at h
  obtain⟨es,rfl,hb,he⟩:=h
  obtain⟨l,rfl,_⟩:=map_of (row:=fun n:Int=>[vi n]) (ok:=fun _=>True) (fun r hr=>by obtain⟨x,e,_⟩:=shp_int (he r hr);exact⟨x,e,trivial⟩)
  exact⟨l,rfl,by have:=short_of hb (by omega);simpa[Short] using this⟩
theorem shp_req{n:Nat}{ds:List Dp}(h:Shp Tryz.prog n 59 ds):∃q:ReqT,ds=q.row∧q.ok:=by
 cases n with
 | zero=>exact h.elim
 | succ n =>
  simp only[Shp,Tryz.underlying59,List.forall_mem_cons,cells3,cells4,cells9,cells34,cells57,cells59] at h
  obtain⟨hl,h1,h2,h3,h4,h5,h6,_⟩:=h
  obtain⟨s,e1⟩:=shp_str h1
  obtain⟨a,e2,_⟩:=shp_int h2
  obtain⟨b,e3,_⟩:=shp_int h3
  obtain⟨c,e4⟩:=shp_bool h4
  obtain⟨d,e5⟩:=shp_strs h5
  obtain⟨f,e6,hf⟩:=shp_ints h6
  match ds,hl with
  | [p1,p2,p3,p4,p5,p6],_ =>
   simp at e1 e2 e3 e4 e5 e6
   subst e1;subst e2;subst e3;subst e4;subst e5;subst e6
   exact⟨⟨s,a,b,c,d,f⟩,rfl,⟨hf⟩⟩
theorem shp_prog{n:Nat}{ds:List Dp}(h:Shp Tryz.prog n 26 ds):∃p:ProgT,ds.map .p=p.l∧p.ok:=by
 cases n with
 | zero=>exact h.elim
 | succ n =>
  rw[Shp,Tryz.underlying26] at h
  simp only[List.forall_mem_cons,cells3,cells9,cells23,cells24,cells26] at h
  obtain⟨hl,h1,h2,h3,h4,h5,h6,_⟩:=h
  obtain⟨s,e1⟩:=shp_str h1
  obtain⟨a,e2,_⟩:=shp_int h2
  obtain⟨b,e3,_⟩:=shp_int h3
  obtain⟨c,e4,_⟩:=shp_int h4
  obtain⟨x,y,e5,hx,hy⟩:=shp_ratio h5
  cases n with
  | zero=>exact h6.elim
  | succ n =>
   simp only[Shp,Tryz.underlying24,bytes59] at h6
   obtain⟨es,e6,hb,he⟩:=h6
   obtain⟨l,rfl,hk⟩:=map_of (row:=ReqT.row) (ok:=ReqT.ok) (fun r hr=>shp_req (he r hr))
   match ds,hl with
   | [p1,p2,p3,p4,p5,p6,p7],_ =>
    simp at e1 e2 e3 e4 e5 e6
    obtain⟨rfl,rfl⟩:=e5
    subst e1;subst e2;subst e3;subst e4;subst e6
    exact⟨⟨s,a,b,c,x,y,l⟩,rfl,⟨by have:=short_of hb (by omega);simpa[Short] using this,hk,hx,hy⟩⟩
theorem shp_att{n:Nat}{ds:List Dp}(h:Shp Tryz.prog n 28 ds):∃a:AttT,ds=a.row∧True:=by
 cases n with
 | zero=>exact h.elim
 | succ n =>
  simp only[Shp,Tryz.underlying28,List.forall_mem_cons,cells3,cells28] at h
  obtain⟨hl,h1,h2,h3,h4,h5,_⟩:=h
  obtain⟨a,e1,_⟩:=shp_int h1
  obtain⟨b,e2,_⟩:=shp_int h2
  obtain⟨c,e3,_⟩:=shp_int h3
  obtain⟨d,e4,_⟩:=shp_int h4
  obtain⟨e,e5,_⟩:=shp_int h5
  match ds,hl with
  | [p,q,r,t,u],_ =>
   simp at e1 e2 e3 e4 e5
   subst e1;subst e2;subst e3;subst e4;subst e5
   exact⟨⟨a,b,c,d,e⟩,rfl,trivial⟩
theorem shp_atts{n:Nat}{ds:List Dp}(h:Shp Tryz.prog n 37 ds):∃l:List AttT,ds=[.sl (l.map AttT.row)]∧Short l:=by
 cases n with
 | zero=>exact h.elim
 | succ n =>
  simp only[Shp,Tryz.underlying37,bytes28] at h
  obtain⟨es,rfl,hb,he⟩:=h
  obtain⟨l,rfl,_⟩:=map_of (row:=AttT.row) (ok:=fun _=>True) (fun r hr=>shp_att (he r hr))
  exact⟨l,rfl,by have:=short_of hb (by omega);simpa[Short] using this⟩
theorem arg_prog{H:Type}{enc:TypeId×Value→H}{W:World}{base:Nat}{v:Value}{d:DataW H}{p:List MemPlace}
  (hok:Value.okWide Tryz.prog W .any base 26 v) (h:DataW.Trod enc Tryz.prog W 0 (fun _=>true) true 26 v d p) (hw:(d.weights Tryz.prog 26).all (· ≤ reachBytes)=true) :
  ∃r:ProgT,r.ok∧Rel W (avs (fun _=>False) (fun _=>none) []) (fun _=>none) [] (.agg r.l) v:=by
 unfold Value.okWide at hok
 rw[Tryz.underlying26] at hok
 obtain⟨cs,rfl,_,_⟩:=hok
 obtain⟨fuel,hf⟩:=h
 obtain⟨ds,h1,h2⟩:=open_plain plain26 av_start fuel 26 _ d p (by decide) hf hw
 obtain⟨r,e,hr⟩:=shp_prog h1
 refine⟨r,hr,?_⟩
 rw[←e]
 simp only[Rel]
 exact⟨cs,rfl,h2.relL⟩
theorem arg_atts{H:Type}{enc:TypeId×Value→H}{W:World}{base:Nat}{v:Value}{d:DataW H}{p:List MemPlace}
  (hok:Value.okWide Tryz.prog W .any base 37 v) (h:DataW.Trod enc Tryz.prog W 0 (fun _=>true) true 37 v d p) (hw:(d.weights Tryz.prog 37).all (· ≤ reachBytes)=true) :
  ∃l:List AttT,Short l∧Rel W (avs (fun _=>False) (fun _=>none) []) (fun _=>none) [] (rowsD' (l.map AttT.row)) v:=by
 obtain⟨fuel,hf⟩:=h
 unfold Value.okWide at hok
 rw[Tryz.underlying37] at hok
 have hc:v.cells.toList=[v]:=by
  cases v<;>first|rfl|skip
  unfold Cell.okWide at hok
  rw[Tryz.underlying37] at hok
  exact hok.elim
 rw[hc] at hf
 obtain⟨ds,h1,h2⟩:=open_plain plain26 av_start fuel 37 _ d p (by decide) hf hw
 obtain⟨l,rfl,hl⟩:=shp_atts h1
 refine⟨l,hl,?_⟩
 simp only[RelPL,and_true] at h2
 simpa[rowsD',Rel] using h2
end Go.Vi
open Go Go.Proofs
namespace Go.Vi
set_option maxHeartbeats 4000000
open Go.ChangeShapes Go.WideShapes Go.ChangeAt Go.RowKit Go.Proofs.YthokmgafnhmlbaaGreatDoor
set_option maxRecDepth 100000
theorem ownK:ownKnob Tryz.prog.godebug=none:=by kernel_rfl
theorem laidOut:laidOutB Tryz.prog=true:=by kernel_rfl
def kd(a b c d:Bool)(f g:Value):List Value:=[.bool a,.bool b,.bool c,.bool d,f,g]
def kf(k:Nat):Value:=.func (.func k) #[] #[]
def kindsCells:List Value :=
 kd false false false false .nilFunc .nilFunc++kd false false false true (kf 212) (kf 213)++kd false false false true (kf 214) (kf 215)++kd false true false true (kf 216) (kf 217) ++
 kd false false false true (kf 218) (kf 219)++kd true true false false (kf 220) (kf 222)++kd true true false false (kf 224) (kf 225)++kd false true false false (kf 226) (kf 227) ++
 kd false true true false (kf 228) (kf 230)++kd true false false false (kf 221) (kf 231)
noncomputable def laidWorld(os:Os):World :=
 {World.holding Tryz.prog os ⟨#[],#[],[]⟩ with heap:=(World.holding Tryz.prog os ⟨#[],#[],[]⟩).heap.modify 0 fun
   | .cells _ t frozen=>.cells kindsCells.toArray t frozen
   | o=>o}
theorem laid_met (os:Os) (args:Array Value):laidMetH Tryz.prog [("sizar/rules.kinds",Rows.laid_sizar_rules_kinds)] ((laidWorld os).forCall (fun _ _=>0) ⟨#[],args,[]⟩).memory :=
 laidMetH_of_parts3 (fuel:=8) (laidMet_nil _ _) (by kernel_rfl) (by kernel_rfl)
end Go.Vi
