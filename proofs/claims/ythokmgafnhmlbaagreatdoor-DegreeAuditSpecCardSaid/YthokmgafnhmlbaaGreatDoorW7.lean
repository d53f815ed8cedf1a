/- DegreeAuditSpec: part of the proof: contracts of the functions that the law reaches, and the law. No conditions beyond the given statement's own. -/
import Derived.Test.YthokmgafnhmlbaaGreatDoorW6
open Decidable renaming decide → Dd
open Go Go.Proofs
namespace Go.Vi
set_option maxRecDepth 100000
set_option maxHeartbeats 4000000
theorem flow_req{p:ProgT}{l:List AttT}(h:NetOk p l){fl:List Int}(hF:Flow (net3 p l) 0 ((nN p l:Int) - 1) fl){k:Nat}(hk:k<p.reqs.length):sQ k (prs p l 0) (fl.drop l.length)=fl.getD (l.length+pairsN p l+k) 0:=by
 have hN:nN p l=2+l.length+p.reqs.length:=rfl
 have hls:=h.ls
 have hrs:=h.rs
 have hlen:=hF.ok.len
 rw[net3_length] at hlen
 have hm:=mid_eq h
 have hc:=hF.cons (midR l+(k:Int)) (by omega) (by omega)
 have hp:=prs_len p l 0
 rw[net3_parts,outL_app _ _ _ _ (by rw[n1L_len];omega),n1L_len,outL_app _ _ _ _ (by rw[List.length_map,hp,List.length_drop];omega),List.length_map] at hc
 have h1:=n1L_other p (w:=midR l+(k:Int)) (by omega) l 0 (fl.take l.length) (by omega) (fun j hj=>by omega)
 have h2:=outL_sQ (mid:=midR l) (i:=(k:Int)) (prs p l 0) ((fl.drop l.length).take (prs p l 0).length) (fun t ht=>by
  obtain⟨a,b,c,d⟩:=prs_in ht
  exact⟨wrap_i64 (by omega) (by omega),by rw[wrap_i64 (by omega) (by omega)];omega⟩)
 have h3:=n4L_own (mid:=midR l) (sink:=sinkR p l) (by omega) (by omega) p.reqs 0 (((fl.drop l.length)).drop (prs p l 0).length) k (by omega) (by rw[sink_eq h,hm];omega) hk (by rw[List.length_drop,List.length_drop,hp];omega)
 rw[Nat.zero_add] at h3
 have e:((fl.drop l.length).drop (prs p l 0).length).getD k 0=fl.getD (l.length+pairsN p l+k) 0:=by
  rw[hp,List.drop_drop]
  simp only[List.getD,List.getElem?_drop]
 have e0:n1L p l ((0:Nat):Int)=n1L p l 0:=rfl
 have e4:n4L (midR l) (sinkR p l) p.reqs ((0:Nat):Int)=n4L (midR l) (sinkR p l) p.reqs 0:=rfl
 rw[e0] at h1
 rw[e4,e] at h3
 rw[h1,h2,h3,sQ_take] at hc
 omega
theorem n4L_get(mid sink:Int):∀(qs:List ReqT) (k:Int) (j:Nat) (q:ReqT),qs[j]? = some q→((n4L mid sink qs k).getD j ⟨0,0,0⟩).most=q.credits
 | [],_,_,_,h=>by simp at h
 | b::l,i,0,a,h=>by
  simp only[List.getElem?_cons_zero,Option.some.injEq] at h
  subst h;rfl
 | b::l,i,j+1,a,h=>by
  simp only[n4L,List.getD_cons_succ]
  exact n4L_get mid sink l (i+1) j a (by simpa using h)
theorem fl_all{es:List EdgT}{fl:List Int}(h:FlOk es fl)(j:Nat):0≤fl.getD j 0∧fl.getD j 0≤1073741824:=by
 by_cases hj:j<es.length
 ·exact⟨h.lo j hj,by have:=h.hi j hj;have:=h.most j hj;omega⟩
 ·have:fl.getD j 0=0:=by
   have:=h.len
   simp only[List.getD,List.getElem?_eq_none (show fl.length≤j by omega),Option.getD_none]
  omega
section
variable {p:ProgT} {l:List AttT} {fl:List Int}
theorem pairsN_small(h:NetOk p l):pairsN p l≤54:=by
 have h1:=pairsN_le p l
 have h2:l.length*p.reqs.length≤9*6:=Nat.mul_le_mul h.ls h.rs
 omega
theorem sumQ_le(h:NetOk p l)(hF:Flow (net3 p l) 0 ((nN p l:Int) - 1) fl)(k:Nat)(q:ReqT)(hq:p.reqs[k]? = some q):sumQ (useL fl (prs p l 0) l.length) (k:Int)≤q.credits:=by
 have hk:=(List.getElem?_eq_some_iff.1 hq).1
 have hp:=prs_len p l 0
 have h54:=pairsN_small h
 have hlen:=hF.ok.len
 rw[net3_length] at hlen
 have hs:=b4_sum (i:=(k:Int)) (prs p l 0) fl l.length 0 (by omega) (fl_all hF.ok) (by omega) (by omega)
 unfold sumQ
 rw[hs,flow_req h hF hk]
 have hm:=hF.ok.hi (l.length+pairsN p l+k) (by rw[net3_length];omega)
 have e:(net3 p l).getD (l.length+pairsN p l+k) ⟨0,0,0⟩=(n4L (midR l) (sinkR p l) p.reqs 0).getD k ⟨0,0,0⟩:=by
  rw[net3_parts]
  simp only[List.getD]
  rw[List.getElem?_append_right (by rw[n1L_len];omega),n1L_len,List.getElem?_append_right (by rw[List.length_map,hp];omega),List.length_map,hp]
  congr 2;omega
 rw[e,n4L_get _ _ p.reqs 0 k q hq] at hm
 omega
end
def sumC:List UseT→Int
 | []=>0
 | u::us=>u.cr+sumC us
theorem useL_sum{fl:List Int}(hf:∀j,0≤fl.getD j 0∧fl.getD j 0≤1073741824):∀(ts:List (Int×Int×Int)) (c:Nat),0≤sumC (useL fl ts c)∧sumC (useL fl ts c)≤ts.length*1073741824
 | [],c=>by simp[useL,sumC]
 | t::ts,c=>by
  obtain⟨a,b⟩:=useL_sum hf ts (c+1)
  obtain⟨f0,f1⟩:=hf c
  simp only[useL,List.length_cons]
  rw[Int.natCast_add]
  cases Dd (fl.getD c 0>0) with
  | true=>simp only[sumC];omega
  | false=>simp only;omega
theorem apT2_ms{fl:List Int}(hf:∀j,0≤fl.getD j 0∧fl.getD j 0≤1073741824):∀(ts:List (Int×Int×Int)) (s:AuS) (c:Nat),s.at_=c→c+ts.length≤1000000→s.ms≤4611686018427387904 → -4611686018427387904≤s.ms - ts.length*1073741824→(ts.foldl (apT2 fl) s).ms=s.ms - sumC (useL fl ts c)
 | [],s,c,_,_,_,_=>by
  show s.ms=s.ms - 0
  omega
 | t::ts,s,c,h,hc,h1,h2=>by
  simp only[List.length_cons] at hc h2
  rw[Int.natCast_add] at h2
  obtain⟨f0,f1⟩:=hf c
  have e:s.at_.toNat=c:=by rw[h,Int.toNat_natCast]
  have hm:(apT2 fl s t).ms=(if fl.getD c 0>0 then s.ms - fl.getD c 0 else s.ms):=by
   unfold apT2 apG apF
   rw[e]
   by_cases hg:fl.getD c 0>0
   ·rw[if_pos hg,show Dd (fl.getD c 0>0)=true from by simpa using hg]
    exact wrap_i64 (by omega) (by omega)
   ·rw[if_neg hg,show Dd (fl.getD c 0>0)=false from by simpa using hg]
  have hb:(apT2 fl s t).ms≤s.ms∧s.ms - 1073741824≤(apT2 fl s t).ms:=by
   rw[hm];split<;>omega
  rw[List.foldl_cons,apT2_ms hf ts (apT2 fl s t) (c+1) (apG_at h (by omega)) (by omega) (by omega) (by omega),hm]
  simp only[useL]
  by_cases hg:fl.getD c 0>0
  ·rw[if_pos hg,show Dd (fl.getD c 0>0)=true from by simpa using hg]
   simp only[sumC];omega
  ·rw[if_neg hg,show Dd (fl.getD c 0>0)=false from by simpa using hg]
theorem asF_sum{fl:List Int}(hf:∀j,0≤fl.getD j 0∧fl.getD j 0≤1073741824):∀(ts:List (Int×Int×Int)) (c:Nat) (n:Int),0≤n→n+ts.length*1073741824≤4611686018427387904→(useL fl ts c).foldl asF n=n+sumC (useL fl ts c)
 | [],c,n,_,_=>by
  show n=n+0
  omega
 | t::ts,c,n,h0,h=>by
  simp only[List.length_cons] at h
  rw[Int.natCast_add] at h
  obtain⟨f0,f1⟩:=hf c
  simp only[useL]
  cases Dd (fl.getD c 0>0) with
  | true =>
   have e:asF n ⟨t.1,t.2.1,fl.getD c 0⟩=n+fl.getD c 0:=wrap_i64 (by simp only;omega) (by simp only;omega)
   simp only[List.foldl_cons,sumC]
   rw[e,asF_sum hf ts (c+1) (n+fl.getD c 0) (by omega) (by omega)]
   omega
  | false=>exact asF_sum hf ts (c+1) n h0 (by omega)
def sumK(f:Nat→Int):Nat→Int
 | 0=>0
 | K+1=>sumK f K+f K
theorem sumK_add(f g:Nat→Int):∀K,sumK (fun k=>f k+g k) K=sumK f K+sumK g K
 | 0=>rfl
 | K+1=>by simp only[sumK,sumK_add f g K];omega
theorem sumK_one{r:Int}{x:Int}(h0:0≤r):∀K:Nat,sumK (fun k=>if r=(k:Int) then x else 0) K=if r<K then x else 0
 | 0=>by simp only[sumK];rw[if_neg (by omega)]
 | K+1=>by
  simp only[sumK,sumK_one h0 K]
  by_cases h1:r<K
  ·rw[if_pos h1,if_neg (by omega),if_pos (by omega)];omega
  ·by_cases h2:r=K
   ·rw[if_neg h1,if_pos h2,if_pos (by omega)];omega
   ·rw[if_neg h1,if_neg h2,if_neg (by omega)];omega
theorem sumK_zero:∀K,sumK (fun _=>0) K=0
 | 0=>rfl
 | K+1=>by simp only[sumK,sumK_zero K];rfl
theorem sumC_sQ{fl:List Int}(hf:∀j,0≤fl.getD j 0∧fl.getD j 0≤1073741824){K:Nat}:∀(ts:List (Int×Int×Int)) (c:Nat),c+ts.length≤fl.length→(∀t∈ts,0≤t.2.1∧t.2.1<K)→sumC (useL fl ts c)=sumK (fun k=>sQ (k:Int) ts (fl.drop c)) K
 | [],c,_,_=>by
  have e:(fun k:Nat=>sQ (k:Int) [] (fl.drop c))=fun _=>0:=by funext k;exact sQ_nil
  rw[e,sumK_zero];rfl
 | t::ts,c,hc,ht=>by
  simp only[List.length_cons] at hc
  have hd:fl.drop c=fl.getD c 0::fl.drop (c+1):=by
   rw[List.drop_eq_getElem_cons (show c<fl.length by omega)]
   simp[List.getD,show c<fl.length by omega]
  obtain⟨f0,f1⟩:=hf c
  obtain⟨t0,t1⟩:=ht t (by simp)
  have ih:=sumC_sQ hf ts (c+1) (by omega) (fun x hx=>ht x (by simp[hx]))
  have e:(fun k:Nat=>sQ (k:Int) (t::ts) (fl.drop c))=fun k:Nat=>(if t.2.1=(k:Int) then fl.getD c 0 else 0)+sQ (k:Int) ts (fl.drop (c+1)):=by
   funext k
   rw[hd]
   rfl
  rw[e,sumK_add,sumK_one t0,if_pos t1,←ih]
  simp only[useL]
  by_cases hg:fl.getD c 0>0
  ·rw[show Dd (fl.getD c 0>0)=true from by simpa using hg]
   rfl
  ·rw[show Dd (fl.getD c 0>0)=false from by simpa using hg]
   simp only;omega
theorem sumK_front(f:Nat→Int):∀K,sumK f (K+1)=f 0+sumK (fun k=>f (k+1)) K
 | 0=>by simp only[sumK];omega
 | K+1=>by
  have:=sumK_front f K
  simp only[sumK] at this ⊢
  omega
def totL:List ReqT→Int
 | []=>0
 | q::qs=>q.credits+totL qs
theorem sumK_tot:∀(qs:List ReqT) (f:Nat→Int),(∀(k:Nat) (q:ReqT),qs[k]? = some q→f k≤q.credits)→sumK f qs.length≤totL qs
 | [],_,_=>Int.le_refl _
 | q::qs,f,h=>by
  rw[List.length_cons,sumK_front]
  have h1:=h 0 q rfl
  have h2:=sumK_tot qs (fun k=>f (k+1)) (fun k q' hq=>h (k+1) q' (by simpa using hq))
  simp only[totL];omega
theorem au_tot:∀(qs:List ReqT) (n:Int),(∀q∈qs,1≤q.credits∧q.credits≤10000)→0≤n→n+qs.length*10000≤4611686018427387904→qs.foldl auF n=n+totL qs∧0≤totL qs∧totL qs≤qs.length*10000
 | [],n,_,_,_=>by
  refine⟨?_,Int.le_refl _,by simp[totL]⟩
  show n=n+0
  omega
 | q::qs,n,h,h0,hb=>by
  simp only[List.length_cons] at hb ⊢
  rw[Int.natCast_add] at hb ⊢
  obtain⟨a,b⟩:=h q (by simp)
  have e:auF n q=n+q.credits:=wrap_i64 (by omega) (by omega)
  obtain⟨c,d,f⟩:=au_tot qs (n+q.credits) (fun x hx=>h x (by simp[hx])) (by omega) (by omega)
  rw[List.foldl_cons,e,c]
  simp only[totL]
  refine⟨by omega,by omega,by omega⟩
section
variable {p:ProgT} {l:List AttT} {fl:List Int}
theorem auR_us(h:NetOk p l):(auR p l fl).us=useL fl (prs p l 0) l.length:=by
 have h54:=pairsN_small h
 have hls:=h.ls
 have hp:=prs_len p l 0
 unfold auR
 rw[a3F_prs,apT2_us fl (prs p l 0) _ l.length (by simp) (by omega)]
 rfl
theorem auR_ms(h:NetOk p l)(hF:Flow (net3 p l) 0 ((nN p l:Int) - 1) fl):(auR p l fl).ms=IntKind.i64.wrap (totR p - asgR (auR p l fl).us)∧0≤(auR p l fl).ms:=by
 have h54:=pairsN_small h
 have hls:=h.ls
 have hrs:=h.rs
 have hp:=prs_len p l 0
 have hf:=fl_all hF.ok
 have hlen:=hF.ok.len
 rw[net3_length] at hlen
 obtain⟨t1,t2,t3⟩:=au_tot p.reqs 0 h.req.2.2 (by omega) (by omega)
 have hm:(auR p l fl).ms=totR p - sumC (useL fl (prs p l 0) l.length):=by
  unfold auR
  rw[a3F_prs,apT2_ms hf (prs p l 0) _ l.length (by simp) (by omega) (by show p.reqs.foldl auF 0≤_;omega) (by show _≤p.reqs.foldl auF 0 - _;omega)]
  rfl
 have ha:asgR (auR p l fl).us=sumC (useL fl (prs p l 0) l.length):=by
  rw[auR_us h]
  have:=asF_sum hf (prs p l 0) l.length 0 (by omega) (by omega)
  unfold asgR
  rw[this];omega
 have hq:sumC (useL fl (prs p l 0) l.length)≤totL p.reqs:=by
  rw[sumC_sQ hf (K:=p.reqs.length) (prs p l 0) l.length (by omega) (fun t ht=>by have:=prs_in ht;omega)]
  refine sumK_tot p.reqs _ (fun k q hk=>?_)
  have:=sumQ_le h hF k q hk
  have hs:=b4_sum (i:=(k:Int)) (prs p l 0) fl l.length 0 (by omega) hf (by omega) (by omega)
  unfold sumQ at this
  rw[hs] at this
  omega
 have hc:=(useL_sum hf (prs p l 0) l.length).1
 have ht:totR p=totL p.reqs:=by unfold totR;omega
 rw[ha,hm]
 refine⟨(wrap_i64 (by omega) (by omega)).symm,by omega⟩
end
abbrev m1H(p:ProgT)(es:List EdgT):List Blk:=[.var p.l,.vec (vecE es) 0 3]
abbrev m1S(p:ProgT)(l:List AttT)(es:List EdgT)(i:Int):AS:={t:=mkT 118 0 [(1,rowsD' (l.map AttT.row)),(2,.ref (.ptr 0 0)),(8,int ((l.map AttT.row).length:Int)),(9,int ((p.reqs.map ReqT.row).length:Int)),(10,.ref (.vec 1 0)),(11,int i)],h:=m1H p es,m:=[]}
abbrev m1E(p:ProgT)(l:List AttT)(es:List EdgT):AS:={t:=mkT 118 0 [(1,rowsD' (l.map AttT.row)),(2,.ref (.ptr 0 0)),(8,int ((l.map AttT.row).length:Int)),(9,int ((p.reqs.map ReqT.row).length:Int)),(10,.ref (.vec 1 0))],h:=m1H p es,m:=[]}
theorem m1_body{p:ProgT}{l:List AttT}{a:AttT}{es:List EdgT}{i:Nat}(hr:RowAt (i:Int) (l.map AttT.row) a.row 5)(hlt:Dd ((i:Int)<((l.map AttT.row).length:Int))=true)(hw:IntKind.i64.wrap ((i:Int)+1)=((i+1:Nat):Int))(hl:es.length≤1000000):(CW Tryz.prog Γ0 [] false (sub Tryz.f17 0) (m1S p l es i) .normal (m1S p l (n1F p (es,(i:Int)) a).1 ((i+1:Nat):Int))):=by
 refine CW.cast (CW.symX (s':={t:=mkT 118 0 [(1,rowsD' (List.map AttT.row l)),(2,.ref (.ptr 0 0)),(8,int (↑(List.length (List.map AttT.row l)):Int)),(9,int (↑(List.length (List.map ReqT.row p.reqs)):Int)),(10,.ref (.vec 1 0)),(11,int (IntKind.wrap IntKind.i64 ((↑i:Int)+1)))],h:=[.var [strD p.nm,int p.number,int p.uses,int p.earn,int p.num,int p.den,rowsD' (List.map ReqT.row p.reqs)],.vec (vecE es++[[int 0,int (IntKind.wrap IntKind.i64 (1+(↑i:Int))),int (IntKind.wrap IntKind.i64 (a.credits*p.uses))]]) 0 3],m:=[]}) (e:=Exit.normal) pok [.st (.mask [1,2,8,9,10,11]),.st (.ren 1 0),.st (.trimV 2)] [.b true,.row (AttT.row a)] (by kernel_rfl) (.c hlt (.c hr (.c (show(List.all [[int 0,int (IntKind.wrap IntKind.i64 (1+(↑i:Int))),int (IntKind.wrap IntKind.i64 (a.credits*p.uses))]] (rowOk 3)&&roomOk (List.length (vecE es)+List.length [[int 0,int (IntKind.wrap IntKind.i64 (1+(↑i:Int))),int (IntKind.wrap IntKind.i64 (a.credits*p.uses))]]) 24)=true from ?_) (.e (.ref (.ptr 0 2)) (.e (int p.uses) (.c (show List.map (D.mapRL (renR 1 1 0)) (vecE es++[[int 0,int (IntKind.wrap IntKind.i64 (1+(↑i:Int))),int (IntKind.wrap IntKind.i64 (a.credits*p.uses))]])=vecE es++[[int 0,int (IntKind.wrap IntKind.i64 (1+(↑i:Int))),int (IntKind.wrap IntKind.i64 (a.credits*p.uses))]] from ?_) (.c (show [[int 0,int (IntKind.wrap IntKind.i64 (1+(↑i:Int))),int (IntKind.wrap IntKind.i64 (a.credits*p.uses))]]=[[int 0,int (IntKind.wrap IntKind.i64 (1+(↑i:Int))),int (IntKind.wrap IntKind.i64 (a.credits*p.uses))]] from rfl) (.c (show Blk.inn 2 (match 0==1 with|true=>.vec (vecE es++[[int 0,int (IntKind.wrap IntKind.i64 (1+(↑i:Int))),int (IntKind.wrap IntKind.i64 (a.credits*p.uses))]]) 0 3|false=>keepX (renR 1 1 0) (.var [strD p.nm,int p.number,int p.uses,int p.earn,int p.num,int p.den,rowsD' (List.map ReqT.row p.reqs)]))=true from rfl) (.c (show Blk.inn 2 (match 0+1==1 with|true=>.vec (vecE es++[[int 0,int (IntKind.wrap IntKind.i64 (1+(↑i:Int))),int (IntKind.wrap IntKind.i64 (a.credits*p.uses))]]) 0 3|false=>keepX (renR 1 1 0) (.vec (vecE es++[[int 0,int (IntKind.wrap IntKind.i64 (1+(↑i:Int))),int (IntKind.wrap IntKind.i64 (a.credits*p.uses))]]) 1 3))=true from ?_) .n)))))))))) (by simp only[];first|done|rfl) (by simp only[n1F,hw,vecE_app];first|done|rfl)<;>(first|assumption|rfl|exact vecE_map _ _|exact vecE_inn _ _|(rw[vecE_app];exact vecE_map _ _)|(rw[vecE_app];exact vecE_inn _ _)|(simp[rowOk,D.one,Value.oneCell',roomOk,vecE_len];omega))
theorem m1_last{p:ProgT}{l:List AttT}{es:List EdgT}{i:Nat}(hlt:Dd ((i:Int)<((l.map AttT.row).length:Int))=false):(CW Tryz.prog Γ0 [] false (sub Tryz.f17 0) (m1S p l es i) (.exit 0) (m1E p l es)):=by
 exact CW.cast (CW.symX (s':={t:=mkT 118 0 [(1,rowsD' (List.map AttT.row l)),(2,.ref (.ptr 0 0)),(8,int (↑(List.length (List.map AttT.row l)):Int)),(9,int (↑(List.length (List.map ReqT.row p.reqs)):Int)),(10,.ref (.vec 1 0))],h:=[.var [strD p.nm,int p.number,int p.uses,int p.earn,int p.num,int p.den,rowsD' (List.map ReqT.row p.reqs)],.vec (vecE es) 0 3],m:=[]}) (e:=Exit.exit 0) pok [.st (.mask [1,2,8,9,10])] [.b false] (by kernel_rfl) (.c hlt .n)) (by rfl) (by rfl)
theorem m1_cw{p:ProgT}{l:List AttT}(hl:l.length≤1000):CW Tryz.prog Γ0 [] false (.loop (sub Tryz.f17 0)) (m1S p l [] 0) (.exit 0) (m1E p l (net1 p l)):=by
 have:=CW.each (P:=Tryz.prog) (Γ:=Γ0) (h0:=[]) (rd:=false) (c:=sub Tryz.f17 0) (σ:=List EdgT×Int) (ρ:=Empty) l (fun a s=>.inl (n1F p s a))
  (fun i s=>m1S p l s.1 (i:Int)) (.exit 0) (fun s=>m1E p l s.1) (fun r=>r.elim) (fun i s=>s.2=i∧s.1.length≤i) (by simp) (fun r=>r.elim) ?_ ?_ ([],0) (by simp)
 ·rw[forL_fold] at this
  exact this
 ·rintro i a ⟨es,k⟩ hc ⟨hk,he⟩
  simp only at hk he
  subst hk
  have hi:=(List.getElem?_eq_some_iff.1 hc).1
  refine⟨fun s' h=>?_,m1_body (rowAt hc rfl) (lt_len AttT.row hi) (wrap_succ hi (by omega)) (show es.length≤1000000 by omega)⟩
  cases h
  simp[n1F];omega
 ·intro s _
  exact m1_last (ge_len AttT.row l)
abbrev m2S(p:ProgT)(l:List AttT)(ks:List Int)(es:List EdgT)(i j:Int):AS:={t:=mkT 118 0 [(1,rowsD' (l.map AttT.row)),(2,.ref (.ptr 0 0)),(8,int ((l.map AttT.row).length:Int)),(9,int ((p.reqs.map ReqT.row).length:Int)),(10,.ref (.vec 1 0)),(12,int i),(13,rowsD' (inR1 ks)),(14,int j)],h:=m1H p es,m:=[]}
abbrev m2E(p:ProgT)(l:List AttT)(es:List EdgT)(i:Int):AS:={t:=mkT 118 0 [(1,rowsD' (l.map AttT.row)),(2,.ref (.ptr 0 0)),(8,int ((l.map AttT.row).length:Int)),(9,int ((p.reqs.map ReqT.row).length:Int)),(10,.ref (.vec 1 0)),(12,int i)],h:=m1H p es,m:=[]}
theorem m2_body{p:ProgT}{l:List AttT}{a:AttT}{ks:List Int}{es:List EdgT}{i k:Int}{j:Nat}(hr:RowAt i (l.map AttT.row) a.row 5)(hk:RowAt (j:Int) (inR1 ks) [vi k] 1)(hlt:Dd ((j:Int)<((inR1 ks).length:Int))=true)(hw:IntKind.i64.wrap ((j:Int)+1)=((j+1:Nat):Int))(hl:es.length≤1000000):(CW Tryz.prog Γ0 [] false (sub Tryz.f17 2) (m2S p l ks es i j) .normal (m2S p l ks (n2F (midR l) i a.credits es k) i ((j+1:Nat):Int))):=by
 refine CW.cast (CW.symX (s':={t:=mkT 118 0 [(1,rowsD' (List.map AttT.row l)),(2,.ref (.ptr 0 0)),(8,int (↑(List.length (List.map AttT.row l)):Int)),(9,int (↑(List.length (List.map ReqT.row p.reqs)):Int)),(10,.ref (.vec 1 0)),(12,int i),(13,rowsD' (inR1 ks)),(14,int (IntKind.wrap IntKind.i64 ((↑j:Int)+1)))],h:=[.var [strD p.nm,int p.number,int p.uses,int p.earn,int p.num,int p.den,rowsD' (List.map ReqT.row p.reqs)],.vec (vecE es++[[int (IntKind.wrap IntKind.i64 (1+i)),int (IntKind.wrap IntKind.i64 (IntKind.wrap IntKind.i64 (1+(↑(List.length (List.map AttT.row l)):Int))+k)),int a.credits]]) 0 3],m:=[]}) (e:=Exit.normal) pok [.st (.mask [1,2,8,9,10,12,13,14]),.st (.ren 1 0),.st (.trimV 2)] [.b true,.row [vi k],.row (AttT.row a)] (by kernel_rfl) (.c hlt (.c hk (.c hr (.c (show(List.all [[int (IntKind.wrap IntKind.i64 (1+i)),int (IntKind.wrap IntKind.i64 (IntKind.wrap IntKind.i64 (1+(↑(List.length (List.map AttT.row l)):Int))+k)),int a.credits]] (rowOk 3)&&roomOk (List.length (vecE es)+List.length [[int (IntKind.wrap IntKind.i64 (1+i)),int (IntKind.wrap IntKind.i64 (IntKind.wrap IntKind.i64 (1+(↑(List.length (List.map AttT.row l)):Int))+k)),int a.credits]]) 24)=true from ?_) (.c (show List.map (D.mapRL (renR 1 1 0)) (vecE es++[[int (IntKind.wrap IntKind.i64 (1+i)),int (IntKind.wrap IntKind.i64 (IntKind.wrap IntKind.i64 (1+(↑(List.length (List.map AttT.row l)):Int))+k)),int a.credits]])=vecE es++[[int (IntKind.wrap IntKind.i64 (1+i)),int (IntKind.wrap IntKind.i64 (IntKind.wrap IntKind.i64 (1+(↑(List.length (List.map AttT.row l)):Int))+k)),int a.credits]] from ?_) (.c (show [[int (IntKind.wrap IntKind.i64 (1+i)),int (IntKind.wrap IntKind.i64 (IntKind.wrap IntKind.i64 (1+(↑(List.length (List.map AttT.row l)):Int))+k)),int a.credits]]=[[int (IntKind.wrap IntKind.i64 (1+i)),int (IntKind.wrap IntKind.i64 (IntKind.wrap IntKind.i64 (1+(↑(List.length (List.map AttT.row l)):Int))+k)),int a.credits]] from rfl) (.c (show Blk.inn 2 (match 0==1 with|true=>.vec (vecE es++[[int (IntKind.wrap IntKind.i64 (1+i)),int (IntKind.wrap IntKind.i64 (IntKind.wrap IntKind.i64 (1+(↑(List.length (List.map AttT.row l)):Int))+k)),int a.credits]]) 0 3|false=>keepX (renR 1 1 0) (.var [strD p.nm,int p.number,int p.uses,int p.earn,int p.num,int p.den,rowsD' (List.map ReqT.row p.reqs)]))=true from rfl) (.c (show Blk.inn 2 (match 0+1==1 with|true=>.vec (vecE es++[[int (IntKind.wrap IntKind.i64 (1+i)),int (IntKind.wrap IntKind.i64 (IntKind.wrap IntKind.i64 (1+(↑(List.length (List.map AttT.row l)):Int))+k)),int a.credits]]) 0 3|false=>keepX (renR 1 1 0) (.vec (vecE es++[[int (IntKind.wrap IntKind.i64 (1+i)),int (IntKind.wrap IntKind.i64 (IntKind.wrap IntKind.i64 (1+(↑(List.length (List.map AttT.row l)):Int))+k)),int a.credits]]) 1 3))=true from ?_) .n))))))))) (by simp only[];first|done|rfl) (by simp only[n2F,hw,vecE_app];first|done|rfl)<;>(first|assumption|rfl|exact vecE_map _ _|exact vecE_inn _ _|(rw[vecE_app];exact vecE_map _ _)|(rw[vecE_app];exact vecE_inn _ _)|(simp[rowOk,D.one,Value.oneCell',roomOk,vecE_len];omega))
theorem m2_last{p:ProgT}{l:List AttT}{ks:List Int}{es:List EdgT}{i:Int}{j:Nat}(hlt:Dd ((j:Int)<((inR1 ks).length:Int))=false):(CW Tryz.prog Γ0 [] false (sub Tryz.f17 2) (m2S p l ks es i j) (.exit 4) (m2E p l es i)):=by
 exact CW.cast (CW.symX (s':={t:=mkT 118 0 [(1,rowsD' (List.map AttT.row l)),(2,.ref (.ptr 0 0)),(8,int (↑(List.length (List.map AttT.row l)):Int)),(9,int (↑(List.length (List.map ReqT.row p.reqs)):Int)),(10,.ref (.vec 1 0)),(12,int i)],h:=[.var [strD p.nm,int p.number,int p.uses,int p.earn,int p.num,int p.den,rowsD' (List.map ReqT.row p.reqs)],.vec (vecE es) 0 3],m:=[]}) (e:=Exit.exit 4) pok [.st (.mask [1,2,8,9,10,12])] [.b false] (by kernel_rfl) (.c hlt .n)) (by rfl) (by rfl)
theorem m2_cw{p:ProgT}{l:List AttT}{a:AttT}{ks:List Int}{es:List EdgT}{i:Int}(hr:RowAt i (l.map AttT.row) a.row 5)(hks:ks.length≤1000)(hes:es.length≤900000):CW Tryz.prog Γ0 [] false (.loop (sub Tryz.f17 2)) (m2S p l ks es i 0) (.exit 4) (m2E p l (ks.foldl (n2F (midR l) i a.credits) es) i):=by
 have:=CW.each (P:=Tryz.prog) (Γ:=Γ0) (h0:=[]) (rd:=false) (c:=sub Tryz.f17 2) (σ:=List EdgT) (ρ:=Empty) ks (fun k s=>.inl (n2F (midR l) i a.credits s k))
  (fun j s=>m2S p l ks s i (j:Int)) (.exit 4) (fun s=>m2E p l s i) (fun r=>r.elim) (fun j s=>s.length≤es.length+j) (by simp) (fun r=>r.elim) ?_ ?_ es (by simp)
 ·rw[forL_fold] at this
  exact this
 ·intro j k s hc he
  have hi:=(List.getElem?_eq_some_iff.1 hc).1
  refine⟨fun s' h=>?_,m2_body hr (rowAt (row:=fun n:Int=>[vi n]) hc rfl) (lt_len (fun n:Int=>[vi n]) hi) (wrap_succ hi (by omega)) (by omega)⟩
  cases h
  simp[n2F];omega
 ·intro s _
  exact m2_last (ge_len (fun n:Int=>[vi n]) ks)
abbrev m3S(p:ProgT)(l:List AttT)(es:List EdgT)(i:Int):AS:={t:=mkT 118 0 [(1,rowsD' (l.map AttT.row)),(2,.ref (.ptr 0 0)),(8,int ((l.map AttT.row).length:Int)),(9,int ((p.reqs.map ReqT.row).length:Int)),(10,.ref (.vec 1 0)),(12,int i)],h:=m1H p es,m:=[]}
abbrev m3E(p:ProgT)(l:List AttT)(es:List EdgT):AS:={t:=mkT 118 0 [(2,.ref (.ptr 0 0)),(8,int ((l.map AttT.row).length:Int)),(9,int ((p.reqs.map ReqT.row).length:Int)),(10,.ref (.vec 1 0))],h:=m1H p es,m:=[]}
noncomputable abbrev m3_body_x0(p:ProgT)(es:List EdgT):List Blk:=[.var [strD p.nm,int p.number,int p.uses,int p.earn,int p.num,int p.den,rowsD' (List.map ReqT.row p.reqs)],.vec (vecE es) 0 3]
theorem m3_body{p:ProgT}{l:List AttT}{a:AttT}{es:List EdgT}{i:Nat}(hp:p.ok)(hn:p.reqs.length≤1000)(hr:RowAt (i:Int) (l.map AttT.row) a.row 5)(hks:(elR p a).length≤1000)(hlt:Dd ((i:Int)<((l.map AttT.row).length:Int))=true)(hw:IntKind.i64.wrap ((i:Int)+1)=((i+1:Nat):Int))(hes:es.length≤900000):(CW Tryz.prog Γ0 [] false (sub Tryz.f17 1) (m3S p l es i) .normal (m3S p l (n3F p (midR l) (es,(i:Int)) a).1 ((i+1:Nat):Int))):=by
 have hl0:=(@m2_cw (p) (l) (a) (elR p a) (es) ((↑i:Int)) (hr) (hks) (hes))
 refine CW.cast (CW.symX (s':={t:=mkT 118 0 [(1,rowsD' (List.map AttT.row l)),(2,.ref (.ptr 0 0)),(8,int (↑(List.length (List.map AttT.row l)):Int)),(9,int (↑(List.length (List.map ReqT.row p.reqs)):Int)),(10,.ref (.vec 1 0)),(12,int (IntKind.wrap IntKind.i64 ((↑i:Int)+1)))],h:=[.var [strD p.nm,int p.number,int p.uses,int p.earn,int p.num,int p.den,rowsD' (List.map ReqT.row p.reqs)],.vec (vecE (List.foldl (n2F (midR l) (↑i:Int) a.credits) es (elR p a))) 0 3],m:=[]}) (e:=Exit.normal) pok [.st (.mask [1,2,8,9,10,12])] [.b true,.row (AttT.row a),.val (rowsD' (inR1 (elR p a))),.sum [1,2,8,9,10,12,13,14] (Exit.exit 4) {t:=mkT 118 0 [(1,rowsD' (List.map AttT.row l)),(2,.ref (.ptr 0 0)),(8,int (↑(List.length (List.map AttT.row l)):Int)),(9,int (↑(List.length (List.map ReqT.row p.reqs)):Int)),(10,.ref (.vec 1 0)),(12,int (↑i:Int))],h:=[.var [strD p.nm,int p.number,int p.uses,int p.earn,int p.num,int p.den,rowsD' (List.map ReqT.row p.reqs)],.vec (vecE (List.foldl (n2F (midR l) (↑i:Int) a.credits) es (elR p a))) 0 3],m:=[]}] (by kernel_rfl) (.c hlt (.c hr (.c (@releg_ev (p) (hp) (hn) (a) ((m3_body_x0 p es))) (.c hl0 .n))))) ?_ ?_<;>(first|rfl|(simp only[n3F,hw];first|done|rfl))
theorem m3_last{p:ProgT}{l:List AttT}{es:List EdgT}{i:Nat}(hlt:Dd ((i:Int)<((l.map AttT.row).length:Int))=false):(CW Tryz.prog Γ0 [] false (sub Tryz.f17 1) (m3S p l es i) (.exit 2) (m3E p l es)):=by
 exact CW.cast (CW.symX (s':={t:=mkT 118 0 [(2,.ref (.ptr 0 0)),(8,int (↑(List.length (List.map AttT.row l)):Int)),(9,int (↑(List.length (List.map ReqT.row p.reqs)):Int)),(10,.ref (.vec 1 0))],h:=[.var [strD p.nm,int p.number,int p.uses,int p.earn,int p.num,int p.den,rowsD' (List.map ReqT.row p.reqs)],.vec (vecE es) 0 3],m:=[]}) (e:=Exit.exit 2) pok [.st (.mask [2,8,9,10])] [.b false] (by kernel_rfl) (.c hlt .n)) (by rfl) (by rfl)
theorem m3_cw{p:ProgT}(hp:p.ok){l:List AttT}{e0:List EdgT}(hn:p.reqs.length≤100)(hl:l.length≤100)(he0:e0.length≤1000):CW Tryz.prog Γ0 [] false (.loop (sub Tryz.f17 1)) (m3S p l e0 0) (.exit 2) (m3E p l (l.foldl (n3F p (midR l)) (e0,0)).1):=by
 have:=CW.each (P:=Tryz.prog) (Γ:=Γ0) (h0:=[]) (rd:=false) (c:=sub Tryz.f17 1) (σ:=List EdgT×Int) (ρ:=Empty) l (fun a s=>.inl (n3F p (midR l) s a))
  (fun i s=>m3S p l s.1 (i:Int)) (.exit 2) (fun s=>m3E p l s.1) (fun r=>r.elim) (fun i s=>s.2=i∧s.1.length≤1000+100*i) (by simp) (fun r=>r.elim) ?_ ?_ (e0,0) (by simp;omega)
 ·rw[forL_fold] at this
  exact this
 ·rintro i a ⟨es,k⟩ hc ⟨hk,he⟩
  simp only at hk he
  subst hk
  have hi:=(List.getElem?_eq_some_iff.1 hc).1
  have h1:=elR_len p a
  refine⟨fun s' h=>?_,m3_body hp (by omega) (rowAt hc rfl) (by omega) (lt_len AttT.row hi) (wrap_succ hi (by omega)) (show es.length≤900000 by omega)⟩
  cases h
  simp only[n3F,n2_len]
  refine⟨by simp,?_⟩
  omega
 ·intro s _
  exact m3_last (ge_len AttT.row l)
abbrev m4S(p:ProgT)(l:List AttT)(es:List EdgT)(i:Int):AS:={t:=mkT 118 0 [(2,.ref (.ptr 0 0)),(8,int ((l.map AttT.row).length:Int)),(9,int ((p.reqs.map ReqT.row).length:Int)),(10,.ref (.vec 1 0)),(15,int i)],h:=m1H p es,m:=[]}
abbrev m4E(p:ProgT)(l:List AttT)(es:List EdgT):AS:={t:=mkT 118 0 [(8,int ((l.map AttT.row).length:Int)),(9,int ((p.reqs.map ReqT.row).length:Int)),(10,.ref (.vec 1 0))],h:=m1H p es,m:=[]}
theorem m4_body{p:ProgT}{l:List AttT}{q:ReqT}{es:List EdgT}{i:Nat}(hr:RowAt (i:Int) (p.reqs.map ReqT.row) q.row 6)(hlt:Dd ((i:Int)<((p.reqs.map ReqT.row).length:Int))=true)(hw:IntKind.i64.wrap ((i:Int)+1)=((i+1:Nat):Int))(hl:es.length≤1000000):(CW Tryz.prog Γ0 [] false (sub Tryz.f17 3) (m4S p l es i) .normal (m4S p l (n4F (midR l) (sinkR p l) (es,(i:Int)) q).1 ((i+1:Nat):Int))):=by
 refine CW.cast (CW.symX (s':={t:=mkT 118 0 [(2,.ref (.ptr 0 0)),(8,int (↑(List.length (List.map AttT.row l)):Int)),(9,int (↑(List.length (List.map ReqT.row p.reqs)):Int)),(10,.ref (.vec 1 0)),(15,int (IntKind.wrap IntKind.i64 ((↑i:Int)+1)))],h:=[.var [strD p.nm,int p.number,int p.uses,int p.earn,int p.num,int p.den,rowsD' (List.map ReqT.row p.reqs)],.vec (vecE es++[[int (IntKind.wrap IntKind.i64 (IntKind.wrap IntKind.i64 (1+(↑(List.length (List.map AttT.row l)):Int))+(↑i:Int))),int (IntKind.wrap IntKind.i64 (IntKind.wrap IntKind.i64 (1+(↑(List.length (List.map AttT.row l)):Int))+(↑(List.length (List.map ReqT.row p.reqs)):Int))),int q.credits]]) 0 3],m:=[]}) (e:=Exit.normal) pok [.st (.mask [2,8,9,10,15]),.st (.ren 1 0),.st (.trimV 2)] [.b true,.row [vs q.nm,vi q.credits,vi q.grade,Dp.v (Value.bool q.home),Dp.sl q.names,Dp.sl (inR1 q.frm)]] (by kernel_rfl) (.c hlt (.c hr (.c (show(List.all [[int (IntKind.wrap IntKind.i64 (IntKind.wrap IntKind.i64 (1+(↑(List.length (List.map AttT.row l)):Int))+(↑i:Int))),int (IntKind.wrap IntKind.i64 (IntKind.wrap IntKind.i64 (1+(↑(List.length (List.map AttT.row l)):Int))+(↑(List.length (List.map ReqT.row p.reqs)):Int))),int q.credits]] (rowOk 3)&&roomOk (List.length (vecE es)+List.length [[int (IntKind.wrap IntKind.i64 (IntKind.wrap IntKind.i64 (1+(↑(List.length (List.map AttT.row l)):Int))+(↑i:Int))),int (IntKind.wrap IntKind.i64 (IntKind.wrap IntKind.i64 (1+(↑(List.length (List.map AttT.row l)):Int))+(↑(List.length (List.map ReqT.row p.reqs)):Int))),int q.credits]]) 24)=true from ?_) (.c (show List.map (D.mapRL (renR 1 1 0)) (vecE es++[[int (IntKind.wrap IntKind.i64 (IntKind.wrap IntKind.i64 (1+(↑(List.length (List.map AttT.row l)):Int))+(↑i:Int))),int (IntKind.wrap IntKind.i64 (IntKind.wrap IntKind.i64 (1+(↑(List.length (List.map AttT.row l)):Int))+(↑(List.length (List.map ReqT.row p.reqs)):Int))),int q.credits]])=vecE es++[[int (IntKind.wrap IntKind.i64 (IntKind.wrap IntKind.i64 (1+(↑(List.length (List.map AttT.row l)):Int))+(↑i:Int))),int (IntKind.wrap IntKind.i64 (IntKind.wrap IntKind.i64 (1+(↑(List.length (List.map AttT.row l)):Int))+(↑(List.length (List.map ReqT.row p.reqs)):Int))),int q.credits]] from ?_) (.c (show [[int (IntKind.wrap IntKind.i64 (IntKind.wrap IntKind.i64 (1+(↑(List.length (List.map AttT.row l)):Int))+(↑i:Int))),int (IntKind.wrap IntKind.i64 (IntKind.wrap IntKind.i64 (1+(↑(List.length (List.map AttT.row l)):Int))+(↑(List.length (List.map ReqT.row p.reqs)):Int))),int q.credits]]=[[int (IntKind.wrap IntKind.i64 (IntKind.wrap IntKind.i64 (1+(↑(List.length (List.map AttT.row l)):Int))+(↑i:Int))),int (IntKind.wrap IntKind.i64 (IntKind.wrap IntKind.i64 (1+(↑(List.length (List.map AttT.row l)):Int))+(↑(List.length (List.map ReqT.row p.reqs)):Int))),int q.credits]] from rfl) (.c (show Blk.inn 2 (match 0==1 with|true=>.vec (vecE es++[[int (IntKind.wrap IntKind.i64 (IntKind.wrap IntKind.i64 (1+(↑(List.length (List.map AttT.row l)):Int))+(↑i:Int))),int (IntKind.wrap IntKind.i64 (IntKind.wrap IntKind.i64 (1+(↑(List.length (List.map AttT.row l)):Int))+(↑(List.length (List.map ReqT.row p.reqs)):Int))),int q.credits]]) 0 3|false=>keepX (renR 1 1 0) (.var [strD p.nm,int p.number,int p.uses,int p.earn,int p.num,int p.den,rowsD' (List.map ReqT.row p.reqs)]))=true from rfl) (.c (show Blk.inn 2 (match 0+1==1 with|true=>.vec (vecE es++[[int (IntKind.wrap IntKind.i64 (IntKind.wrap IntKind.i64 (1+(↑(List.length (List.map AttT.row l)):Int))+(↑i:Int))),int (IntKind.wrap IntKind.i64 (IntKind.wrap IntKind.i64 (1+(↑(List.length (List.map AttT.row l)):Int))+(↑(List.length (List.map ReqT.row p.reqs)):Int))),int q.credits]]) 0 3|false=>keepX (renR 1 1 0) (.vec (vecE es++[[int (IntKind.wrap IntKind.i64 (IntKind.wrap IntKind.i64 (1+(↑(List.length (List.map AttT.row l)):Int))+(↑i:Int))),int (IntKind.wrap IntKind.i64 (IntKind.wrap IntKind.i64 (1+(↑(List.length (List.map AttT.row l)):Int))+(↑(List.length (List.map ReqT.row p.reqs)):Int))),int q.credits]]) 1 3))=true from ?_) .n)))))))) (by simp only[];first|done|rfl) (by simp only[n4F,hw,vecE_app];first|done|rfl)<;>(first|assumption|rfl|exact vecE_map _ _|exact vecE_inn _ _|(rw[vecE_app];exact vecE_map _ _)|(rw[vecE_app];exact vecE_inn _ _)|(simp[rowOk,D.one,Value.oneCell',roomOk,vecE_len];omega))
theorem m4_last{p:ProgT}{l:List AttT}{es:List EdgT}{i:Nat}(hlt:Dd ((i:Int)<((p.reqs.map ReqT.row).length:Int))=false):(CW Tryz.prog Γ0 [] false (sub Tryz.f17 3) (m4S p l es i) (.exit 6) (m4E p l es)):=by
 exact CW.cast (CW.symX (s':={t:=mkT 118 0 [(8,int (↑(List.length (List.map AttT.row l)):Int)),(9,int (↑(List.length (List.map ReqT.row p.reqs)):Int)),(10,.ref (.vec 1 0))],h:=[.var [strD p.nm,int p.number,int p.uses,int p.earn,int p.num,int p.den,rowsD' (List.map ReqT.row p.reqs)],.vec (vecE es) 0 3],m:=[]}) (e:=Exit.exit 6) pok [.st (.mask [8,9,10])] [.b false] (by kernel_rfl) (.c hlt .n)) (by rfl) (by rfl)
theorem m4_cw{p:ProgT}{l:List AttT}{e0:List EdgT}(hn:p.reqs.length≤100)(he:e0.length≤100000):CW Tryz.prog Γ0 [] false (.loop (sub Tryz.f17 3)) (m4S p l e0 0) (.exit 6) (m4E p l (p.reqs.foldl (n4F (midR l) (sinkR p l)) (e0,0)).1):=by
 have:=CW.each (P:=Tryz.prog) (Γ:=Γ0) (h0:=[]) (rd:=false) (c:=sub Tryz.f17 3) (σ:=List EdgT×Int) (ρ:=Empty) p.reqs (fun a s=>.inl (n4F (midR l) (sinkR p l) s a))
  (fun i s=>m4S p l s.1 (i:Int)) (.exit 6) (fun s=>m4E p l s.1) (fun r=>r.elim) (fun i s=>s.2=i∧s.1.length≤e0.length+i) (by simp) (fun r=>r.elim) ?_ ?_ (e0,0) (by simp)
 ·rw[forL_fold] at this
  exact this
 ·rintro i a ⟨es,k⟩ hc ⟨hk,he⟩
  simp only at hk he
  subst hk
  have hi:=(List.getElem?_eq_some_iff.1 hc).1
  refine⟨fun s' h=>?_,m4_body (rowAt hc rfl) (lt_len ReqT.row hi) (wrap_succ hi (by omega)) (show es.length≤1000000 by omega)⟩
  cases h
  simp[n4F];omega
 ·intro s _
  exact m4_last (ge_len ReqT.row p.reqs)
def nodR(p:ProgT)(l:List AttT):Int:=IntKind.i64.wrap (IntKind.i64.wrap (2+((l.map AttT.row).length:Int))+((p.reqs.map ReqT.row).length:Int))
theorem nodR_eq(p:ProgT)(l:List AttT)(hn:p.reqs.length≤100)(hl:l.length≤100):nodR p l=IntKind.i64.wrap (sinkR p l+1):=by
 simp only[nodR,sinkR,midR,List.length_map]
 rw[wrap_i64 (n:=2+(l.length:Int)) (by omega) (by omega),wrap_i64 (n:=1+(l.length:Int)) (by omega) (by omega),wrap_i64 (n:=1+(l.length:Int)+(p.reqs.length:Int)) (by omega) (by omega)]
 congr 1
 omega
def rnetX(p:ProgT)(l:List AttT)(e:Int):Int×List EdgT×Int:=match pErr p != 0 with
 | true=>(0,[],pErr p)
 | false=>match e != 0 with
  | true=>(0,[],e)
  | false=>(nodR p l,net3 p l,0)
theorem rnetX_eq{p:ProgT}{l:List AttT}(hn:p.reqs.length≤100)(hl:l.length≤100)(e:Int):rnetX p l e=netX p l e:=by unfold rnetX netX;rw[nodR_eq p l hn hl]<;>rfl
noncomputable abbrev rnet_a_x0(p:ProgT):List D:=[D.agg [strD p.nm,int p.number,int p.uses,int p.earn,int p.num,int p.den,rowsD' (List.map ReqT.row p.reqs)]]
noncomputable abbrev rnet_a_x1(p:ProgT):List Blk:=[.var [strD p.nm,int p.number,int p.uses,int p.earn,int p.num,int p.den,rowsD' (List.map ReqT.row p.reqs)]]
theorem rnet_a{p:ProgT}(hp:p.ok){l:List AttT}(hn:p.reqs.length≤100)(hl:l.length≤100)(h1:(net1 p l).length≤1000)(h2:(net2 p l).length≤100000){a b c:Int}(hs:∀h,Ev Tryz.prog Γ0 38 [rowsD' (l.map AttT.row)] h (.tup [int a,int b,int c]) h)(h:List Blk):(Ev Tryz.prog Γ0 17 [.agg p.l,rowsD' (l.map AttT.row)] h (.tup [int (rnetX p l c).1,rowsD' ((rnetX p l c).2.1.map EdgT.row),int (rnetX p l c).2.2]) h):=by
 cases hc0:pErr p != 0
 ·cases hc1:c != 0
  ·have hl2:=(@m1_cw (p) (l) (by first|assumption|rfl|exact vecE_frz _|omega))
   have hl3:=(@m3_cw (p) (hp) (l) (net1 p l) (hn) (hl) (h1))
   have hl4:=(@m4_cw (p) (l) ((List.foldl (n3F p (midR l)) (net1 p l,0) l).1) (hn) (h2))
   exact Ev.castH (Ev.nilW (Ev.sym0 (d:=D.tup [int (IntKind.wrap IntKind.i64 (IntKind.wrap IntKind.i64 (2+(↑(List.length (List.map AttT.row l)):Int))+(↑(List.length (List.map ReqT.row p.reqs)):Int))),rowsD' (List.map EdgT.row (net3 p l)),int 0]) pok [.val (int (pErr p)),.b false,.val (D.tup [int a,int b,int c]),.b false,.sum [1,2,8,9,10,11] (Exit.exit 0) {t:=mkT 118 0 [(1,rowsD' (List.map AttT.row l)),(2,.ref (.ptr 0 0)),(8,int (↑(List.length (List.map AttT.row l)):Int)),(9,int (↑(List.length (List.map ReqT.row p.reqs)):Int)),(10,.ref (.vec 1 0))],h:=[.var [strD p.nm,int p.number,int p.uses,int p.earn,int p.num,int p.den,rowsD' (List.map ReqT.row p.reqs)],.vec (vecE (net1 p l)) 0 3],m:=[]},.sum [1,2,8,9,10,12] (Exit.exit 2) {t:=mkT 118 0 [(2,.ref (.ptr 0 0)),(8,int (↑(List.length (List.map AttT.row l)):Int)),(9,int (↑(List.length (List.map ReqT.row p.reqs)):Int)),(10,.ref (.vec 1 0))],h:=[.var [strD p.nm,int p.number,int p.uses,int p.earn,int p.num,int p.den,rowsD' (List.map ReqT.row p.reqs)],.vec (vecE (List.foldl (n3F p (midR l)) (net1 p l,0) l).1) 0 3],m:=[]},.sum [2,8,9,10,15] (Exit.exit 6) {t:=mkT 118 0 [(8,int (↑(List.length (List.map AttT.row l)):Int)),(9,int (↑(List.length (List.map ReqT.row p.reqs)):Int)),(10,.ref (.vec 1 0))],h:=[.var [strD p.nm,int p.number,int p.uses,int p.earn,int p.num,int p.den,rowsD' (List.map ReqT.row p.reqs)],.vec (vecE (List.foldl (n4F (midR l) (sinkR p l)) ((List.foldl (n3F p (midR l)) (net1 p l,0) l).1,0) p.reqs).1) 0 3],m:=[]},.st (.frz 1 (List.map EdgT.row (net3 p l)))] (by kernel_rfl) (.c (@rcheck_ev (p) (hp) ((rnet_a_x1 p))) (.c hc0 (.c (@hs ((rnet_a_x1 p))) (.c hc1 (.c hl2 (.c hl3 (.c hl4 (.c (show vecE (List.foldl (n4F (midR l) (sinkR p l)) ((List.foldl (n3F p (midR l)) (net1 p l,0) l).1,0) p.reqs).1=List.map (fun x=>List.map D.p x) (List.map EdgT.row (net3 p l)) from(by first|assumption|rfl|exact vecE_frz _|omega)) .n)))))))) rfl rfl h)) (by simp only[rnetX,hc0,hc1];first|done|rfl) (by rfl)
  ·exact Ev.castH (Ev.nilW (Ev.sym0 (d:=D.tup [int 0,nq,int c]) pok [.val (int (pErr p)),.b false,.val (D.tup [int a,int b,int c]),.b true] (by kernel_rfl) (.c (@rcheck_ev (p) (hp) ((rnet_a_x1 p))) (.c hc0 (.c (@hs ((rnet_a_x1 p))) (.c hc1 .n)))) rfl rfl h)) (by simp only[rnetX,hc0,hc1];first|done|rfl) (by rfl)
 ·exact Ev.castH (Ev.nilW (Ev.sym0 (d:=D.tup [int 0,nq,int (pErr p)]) pok [.val (int (pErr p)),.b true] (by kernel_rfl) (.c (@rcheck_ev (p) (hp) ((rnet_a_x1 p))) (.c hc0 .n)) rfl rfl h)) (by simp only[rnetX,hc0];first|done|rfl) (by rfl)
theorem rnet_ev{p:ProgT}(hp:p.ok){l:List AttT}(hn:p.reqs.length≤100)(hl:l.length≤100)(h:List Blk):Ev Tryz.prog Γ0 17 [.agg p.l,rowsD' (l.map AttT.row)] h (.tup [int (netR p l).1,rowsD' ((netR p l).2.1.map EdgT.row),int (netR p l).2.2]) h:=by
 unfold netR
 rw[←rnetX_eq hn hl]
 exact rnet_a hp hn hl (by have:=net1_len p l;omega) (by have:=net2_len p l hn hl;omega) (fun h=>sums5_ev (by unfold Short;omega) h) h
end Go.Vi

open Go Go.Proofs
namespace Go.Vi
set_option maxRecDepth 100000
set_option maxHeartbeats 4000000
abbrev fwS(p:ProgT)(i:Int):AS:={t:=mkT 30 0 [(2,.ref (.ptr 0 0)),(4,bool false),(5,int i)],h:=[.var p.l],m:=[]}
abbrev fwE(p:ProgT):AS:={t:=mkT 30 0 [],h:=[.var p.l],m:=[]}
abbrev fwX(p:ProgT):Unit→Exit×AS:=fun _=>(.ret,{t:=mkT 30 0 [(4,bool false)],h:=[.var p.l],m:=[]})
def fwF(q:ReqT)(_:Unit):Unit⊕Unit:=bif Dd (((inR1 q.frm).length:Int)>10) then .inr () else .inl ()
theorem fw_body{p:ProgT}{q:ReqT}{i:Nat}(hr:RowAt (i:Int) (p.reqs.map ReqT.row) q.row 6)(hlt:Dd ((i:Int)<((p.reqs.map ReqT.row).length:Int))=true)(hw:IntKind.i64.wrap ((i:Int)+1)=((i+1:Nat):Int)):(CW Tryz.prog Γ0 [] false (sub Tryz.f10 0) (fwS p i) (bodyFin (fun _:Unit=>fwS p ((i+1:Nat):Int)) (fwX p) (fwF q ())).1 (bodyFin (fun _:Unit=>fwS p ((i+1:Nat):Int)) (fwX p) (fwF q ())).2):=by
 cases hc0:Dd ((↑(List.length (inR1 q.frm)):Int)>10)
 ·exact CW.cast (CW.symX (s':={t:=mkT 30 0 [(2,.ref (.ptr 0 0)),(4,bool false),(5,int (IntKind.wrap IntKind.i64 ((↑i:Int)+1)))],h:=[.var [strD p.nm,int p.number,int p.uses,int p.earn,int p.num,int p.den,rowsD' (List.map ReqT.row p.reqs)]],m:=[]}) (e:=Exit.normal) pok [.st (.mask [2,4,5])] [.b true,.row [vs q.nm,vi q.credits,vi q.grade,Dp.v (Value.bool q.home),Dp.sl q.names,Dp.sl (inR1 q.frm)],.b false] (by kernel_rfl) (.c hlt (.c hr (.c hc0 .n)))) (by simp only[fwF,hc0,cond_false,bodyFin];first|done|rfl) (by simp only[fwF,hc0,cond_false,bodyFin,hw];first|done|rfl)
 ·exact CW.cast (CW.symX (s':={t:=mkT 30 0 [(4,bool false)],h:=[.var [strD p.nm,int p.number,int p.uses,int p.earn,int p.num,int p.den,rowsD' (List.map ReqT.row p.reqs)]],m:=[]}) (e:=Exit.ret) pok [.st (.mask [4])] [.b true,.row [vs q.nm,vi q.credits,vi q.grade,Dp.v (Value.bool q.home),Dp.sl q.names,Dp.sl (inR1 q.frm)],.b true] (by kernel_rfl) (.c hlt (.c hr (.c hc0 .n)))) (by simp only[fwF,hc0,cond_true,bodyFin];first|done|rfl) (by simp only[fwF,hc0,cond_true,bodyFin];first|done|rfl)
theorem fw_last{p:ProgT}{i:Nat}(hlt:Dd ((i:Int)<((p.reqs.map ReqT.row).length:Int))=false):(CW Tryz.prog Γ0 [] false (sub Tryz.f10 0) (fwS p i) (.exit 0) (fwE p)):=by
 exact CW.cast (CW.symX (s':={t:=mkT 30 0 [],h:=[.var [strD p.nm,int p.number,int p.uses,int p.earn,int p.num,int p.den,rowsD' (List.map ReqT.row p.reqs)]],m:=[]}) (e:=Exit.exit 0) pok [.st (.mask [])] [.b false] (by kernel_rfl) (.c hlt .n)) (by rfl) (by rfl)
def fwFin(p:ProgT):Exit×AS:=eachFin (.exit 0) (fun _:Unit=>fwE p) (fwX p) (forL fwF p.reqs ())
theorem fw_cw{p:ProgT}(hs:Short p.reqs):CW Tryz.prog Γ0 [] false (.loop (sub Tryz.f10 0)) (fwS p 0) (fwFin p).1 (fwFin p).2:=by
 refine CW.each p.reqs fwF (fun i _=>fwS p (i:Int)) (.exit 0) (fun _=>fwE p) (fwX p) (fun _ _=>True) (by simp) (fun _=>by simp[]) ?_ ?_ () trivial
 ·intro i q _ hc _
  have hi:=(List.getElem?_eq_some_iff.1 hc).1
  exact⟨fun _ _=>trivial,fw_body (rowAt hc rfl) (lt_len ReqT.row hi) (wrap_succ hi hs)⟩
 ·intro _ _
  exact fw_last (ge_len ReqT.row p.reqs)
def fwB(p:ProgT):Bool:=match forL fwF p.reqs () with | .inl _=>true | .inr _=>false
def fewB(p:ProgT)(n:Int):Bool:=bif Dd (((p.reqs.map ReqT.row).length:Int)>6)||Dd (n>8) then false else fwB p
theorem few_ev{p:ProgT}(hs:Short p.reqs){l:List AttT}(h:List Blk):(Ev Tryz.prog Γ0 10 [.agg p.l,rowsD' (l.map AttT.row)] h (bool (fewB p ((l.map AttT.row).length:Int))) h):=by
 cases hc0:Dd ((↑(List.length (List.map ReqT.row p.reqs)):Int)>6)||Dd ((↑(List.length (List.map AttT.row l)):Int)>8)
 ·have hl1:=(@fw_cw (p) (hs))
  unfold fwFin at hl1
  revert hl1
  cases ho2:forL fwF p.reqs () with
  | inl o2_0_0 =>
   intro hl1
   exact Ev.castH (Ev.sym0 (d:=bool true) pok [.b false,.sum [2,4,5] (Exit.exit 0) {t:=mkT 30 0 [],h:=[.var [strD p.nm,int p.number,int p.uses,int p.earn,int p.num,int p.den,rowsD' (List.map ReqT.row p.reqs)]],m:=[]}] (by kernel_rfl) (.c hc0 (.c hl1 .n)) rfl rfl h) (by simp only[fewB,fwB,hc0,ho2,cond_false];first|done|rfl) (by rfl)
  | inr o2_1_0 =>
   intro hl1
   exact Ev.castH (Ev.sym0 (d:=bool false) pok [.b false,.sum [2,4,5] (Exit.ret) {t:=mkT 30 0 [(4,bool false)],h:=[.var [strD p.nm,int p.number,int p.uses,int p.earn,int p.num,int p.den,rowsD' (List.map ReqT.row p.reqs)]],m:=[]}] (by kernel_rfl) (.c hc0 (.c hl1 .n)) rfl rfl h) (by simp only[fewB,fwB,hc0,ho2,cond_false];first|done|rfl) (by rfl)
 ·exact Ev.castH (Ev.sym0 (d:=bool false) pok [.b true] (by kernel_rfl) (.c hc0 .n) rfl rfl h) (by simp only[fewB,fwB,hc0,cond_true];first|done|rfl) (by rfl)
set_option maxRecDepth 1000000
def s19m0:Memo:=⟨69,[.ref (.ptr 31 0),int 0,int 5],[.gone,.vec [[int 7],[int 8]] 0 1,.vec [[int 8],[int 7]] 0 1,.vec [[strD ⟨#[97]⟩,int 6,int 1,bool false,nq,.ref (.vec 1 0)],[strD ⟨#[98]⟩,int 4,int 1,bool false,nq,.ref (.vec 2 0)]] 0 6,.gone,.vec [[int 7,int 0,int 5,int 0,int 6],[int 8,int 0,int 5,int 0,int 3]] 0 5,.var [strD ⟨#[]⟩,int 1,int 1,int 0,int 0,int 1,.ref (.vec 3 0)],.var [strD ⟨#[]⟩,int 1,int 1,int 0,int 0,int 1,.ref (.vec 3 0)],.var [nq,int 0,nq],.var [int 0],.gone,.gone,.gone,.gone,.gone,.gone,.vec [[int 0,int 1,int 6],[int 0,int 2,int 3],[int 1,int 3,int 6],[int 1,int 4,int 6],[int 2,int 3,int 3],[int 2,int 4,int 3],[int 3,int 5,int 6],[int 4,int 5,int 4]] 7 3,.gone,.gone,.gone,.gone,.gone,.gone,.gone,.gone,.gone,.gone,.var [int 0],.var [int 5],.vec [[int 0],[int 0],[int 0],[int 0],[int 0],[int 0],[int 0],[int 0]] 0 1,.vec [[.ref (.vec 34 1)],[.ref (.vec 36 2)],[.ref (.vec 40 2)],[.ref (.vec 44 2)],[.ref (.vec 48 2)],[.ref (.vec 58 1)]] 0 1,.var [.ref (.vec 16 7),.ref (.vec 29 0),.ref (.vec 30 0)],.gone,.gone,.vec [[int 0],[int 2]] 1 1,.gone,.vec [[int 1],[int 4],[int 6]] 2 1,.gone,.gone,.gone,.vec [[int 3],[int 8],[int 10]] 2 1,.gone,.gone,.gone,.vec [[int 5],[int 9],[int 12]] 2 1,.gone,.gone,.gone,.vec [[int 7],[int 11],[int 14]] 2 1,.gone,.gone,.gone,.gone,.gone,.gone,.gone,.gone,.gone,.vec [[int 13],[int 15]] 1 1,.gone,.gone,.gone,.var [.ref (.ptr 31 0)]],.ret (.ref (.vec 66 0)) [.gone,.vec [[int 7],[int 8]] 0 1,.vec [[int 8],[int 7]] 0 1,.vec [[strD ⟨#[97]⟩,int 6,int 1,bool false,nq,.ref (.vec 1 0)],[strD ⟨#[98]⟩,int 4,int 1,bool false,nq,.ref (.vec 2 0)]] 0 6,.gone,.vec [[int 7,int 0,int 5,int 0,int 6],[int 8,int 0,int 5,int 0,int 3]] 0 5,.var [strD ⟨#[]⟩,int 1,int 1,int 0,int 0,int 1,.ref (.vec 3 0)],.var [strD ⟨#[]⟩,int 1,int 1,int 0,int 0,int 1,.ref (.vec 3 0)],.var [nq,int 0,nq],.var [int 0],.gone,.gone,.gone,.gone,.gone,.gone,.vec [[int 0,int 1,int 6],[int 0,int 2,int 3],[int 1,int 3,int 6],[int 1,int 4,int 6],[int 2,int 3,int 3],[int 2,int 4,int 3],[int 3,int 5,int 6],[int 4,int 5,int 4]] 7 3,.gone,.gone,.gone,.gone,.gone,.gone,.gone,.gone,.gone,.gone,.var [int 0],.var [int 5],.vec [[int 0],[int 0],[int 0],[int 0],[int 0],[int 0],[int 0],[int 0]] 0 1,.vec [[.ref (.vec 34 1)],[.ref (.vec 36 2)],[.ref (.vec 40 2)],[.ref (.vec 44 2)],[.ref (.vec 48 2)],[.ref (.vec 58 1)]] 0 1,.var [.ref (.vec 16 7),.ref (.vec 29 0),.ref (.vec 30 0)],.gone,.gone,.vec [[int 0],[int 2]] 1 1,.gone,.vec [[int 1],[int 4],[int 6]] 2 1,.gone,.gone,.gone,.vec [[int 3],[int 8],[int 10]] 2 1,.gone,.gone,.gone,.vec [[int 5],[int 9],[int 12]] 2 1,.gone,.gone,.gone,.vec [[int 7],[int 11],[int 14]] 2 1,.gone,.gone,.gone,.gone,.gone,.gone,.gone,.gone,.gone,.vec [[int 13],[int 15]] 1 1,.gone,.gone,.gone,.var [.ref (.ptr 31 0)],.gone,.gone,.gone,.vec [[int 16],[int 0],[int 2],[int 4],[int 6],[int 12]] 0 1,.gone,.gone,.gone,.gone,.gone,.gone,.gone,.gone,.gone,.gone,.gone,.gone,.gone,.gone,.gone,.gone,.gone,.gone]⟩
theorem s19m0_ok:s19m0.Ok Tryz.prog Γ0:=Memo.ok_of pok (ms:=[]) (by kernel_rfl) trivial
def s19m1:Memo:=⟨68,[int 6,.ref (.vec 16 7)],[.gone,.vec [[int 7],[int 8]] 0 1,.vec [[int 8],[int 7]] 0 1,.vec [[strD ⟨#[97]⟩,int 6,int 1,bool false,nq,.ref (.vec 1 0)],[strD ⟨#[98]⟩,int 4,int 1,bool false,nq,.ref (.vec 2 0)]] 0 6,.gone,.vec [[int 7,int 0,int 5,int 0,int 6],[int 8,int 0,int 5,int 0,int 3]] 0 5,.var [strD ⟨#[]⟩,int 1,int 1,int 0,int 0,int 1,.ref (.vec 3 0)],.var [strD ⟨#[]⟩,int 1,int 1,int 0,int 0,int 1,.ref (.vec 3 0)],.var [nq,int 0,nq],.var [int 0],.gone,.gone,.gone,.gone,.gone,.gone,.vec [[int 0,int 1,int 6],[int 0,int 2,int 3],[int 1,int 3,int 6],[int 1,int 4,int 6],[int 2,int 3,int 3],[int 2,int 4,int 3],[int 3,int 5,int 6],[int 4,int 5,int 4]] 7 3,.gone,.gone,.gone,.gone,.gone,.gone,.gone,.gone,.gone,.gone,.var [int 0],.var [int 5]],.ret (.ref (.ptr 31 0)) [.gone,.vec [[int 7],[int 8]] 0 1,.vec [[int 8],[int 7]] 0 1,.vec [[strD ⟨#[97]⟩,int 6,int 1,bool false,nq,.ref (.vec 1 0)],[strD ⟨#[98]⟩,int 4,int 1,bool false,nq,.ref (.vec 2 0)]] 0 6,.gone,.vec [[int 7,int 0,int 5,int 0,int 6],[int 8,int 0,int 5,int 0,int 3]] 0 5,.var [strD ⟨#[]⟩,int 1,int 1,int 0,int 0,int 1,.ref (.vec 3 0)],.var [strD ⟨#[]⟩,int 1,int 1,int 0,int 0,int 1,.ref (.vec 3 0)],.var [nq,int 0,nq],.var [int 0],.gone,.gone,.gone,.gone,.gone,.gone,.vec [[int 0,int 1,int 6],[int 0,int 2,int 3],[int 1,int 3,int 6],[int 1,int 4,int 6],[int 2,int 3,int 3],[int 2,int 4,int 3],[int 3,int 5,int 6],[int 4,int 5,int 4]] 7 3,.gone,.gone,.gone,.gone,.gone,.gone,.gone,.gone,.gone,.gone,.var [int 0],.var [int 5],.vec [[int 0],[int 0],[int 0],[int 0],[int 0],[int 0],[int 0],[int 0]] 0 1,.vec [[.ref (.vec 34 1)],[.ref (.vec 36 2)],[.ref (.vec 40 2)],[.ref (.vec 44 2)],[.ref (.vec 48 2)],[.ref (.vec 58 1)]] 0 1,.var [.ref (.vec 16 7),.ref (.vec 29 0),.ref (.vec 30 0)],.gone,.gone,.vec [[int 0],[int 2]] 1 1,.gone,.vec [[int 1],[int 4],[int 6]] 2 1,.gone,.gone,.gone,.vec [[int 3],[int 8],[int 10]] 2 1,.gone,.gone,.gone,.vec [[int 5],[int 9],[int 12]] 2 1,.gone,.gone,.gone,.vec [[int 7],[int 11],[int 14]] 2 1,.gone,.gone,.gone,.gone,.gone,.gone,.gone,.gone,.gone,.vec [[int 13],[int 15]] 1 1,.gone,.gone,.gone]⟩
theorem s19m1_ok:s19m1.Ok Tryz.prog Γ0:=Memo.ok_of pok (ms:=[]) (by kernel_rfl) trivial
def s19m2:Memo:=⟨69,[.ref (.ptr 31 0),int 0,int 5],[.gone,.vec [[int 7],[int 8]] 0 1,.vec [[int 8],[int 7]] 0 1,.vec [[strD ⟨#[97]⟩,int 6,int 1,bool false,nq,.ref (.vec 1 0)],[strD ⟨#[98]⟩,int 4,int 1,bool false,nq,.ref (.vec 2 0)]] 0 6,.gone,.vec [[int 7,int 0,int 5,int 0,int 6],[int 8,int 0,int 5,int 0,int 3]] 0 5,.var [strD ⟨#[]⟩,int 1,int 1,int 0,int 0,int 1,.ref (.vec 3 0)],.var [strD ⟨#[]⟩,int 1,int 1,int 0,int 0,int 1,.ref (.vec 3 0)],.var [nq,int 0,nq],.var [int 0],.gone,.gone,.gone,.gone,.gone,.gone,.vec [[int 0,int 1,int 6],[int 0,int 2,int 3],[int 1,int 3,int 6],[int 1,int 4,int 6],[int 2,int 3,int 3],[int 2,int 4,int 3],[int 3,int 5,int 6],[int 4,int 5,int 4]] 7 3,.gone,.gone,.gone,.gone,.gone,.gone,.gone,.gone,.gone,.gone,.var [int 0],.var [int 5],.vec [[int 6],[int 0],[int 6],[int 0],[int 0],[int 0],[int 6],[int 0]] 0 1,.vec [[.ref (.vec 34 1)],[.ref (.vec 36 2)],[.ref (.vec 40 2)],[.ref (.vec 44 2)],[.ref (.vec 48 2)],[.ref (.vec 58 1)]] 0 1,.var [.ref (.vec 16 7),.ref (.vec 29 0),.ref (.vec 30 0)],.gone,.gone,.vec [[int 0],[int 2]] 1 1,.gone,.vec [[int 1],[int 4],[int 6]] 2 1,.gone,.gone,.gone,.vec [[int 3],[int 8],[int 10]] 2 1,.gone,.gone,.gone,.vec [[int 5],[int 9],[int 12]] 2 1,.gone,.gone,.gone,.vec [[int 7],[int 11],[int 14]] 2 1,.gone,.gone,.gone,.gone,.gone,.gone,.gone,.gone,.gone,.vec [[int 13],[int 15]] 1 1,.gone,.gone,.gone,.var [.ref (.ptr 31 0)],.gone,.gone,.gone,.vec [[int 16],[int 0],[int 2],[int 4],[int 6],[int 12]] 0 1,.gone,.gone,.gone,.gone,.gone,.gone,.gone,.gone,.gone,.gone,.gone,.gone,.gone,.gone,.gone,.gone,.gone,.gone,.var [.ref (.vec 66 0)],.var [int 6]],.ret (.ref (.vec 90 0)) [.gone,.vec [[int 7],[int 8]] 0 1,.vec [[int 8],[int 7]] 0 1,.vec [[strD ⟨#[97]⟩,int 6,int 1,bool false,nq,.ref (.vec 1 0)],[strD ⟨#[98]⟩,int 4,int 1,bool false,nq,.ref (.vec 2 0)]] 0 6,.gone,.vec [[int 7,int 0,int 5,int 0,int 6],[int 8,int 0,int 5,int 0,int 3]] 0 5,.var [strD ⟨#[]⟩,int 1,int 1,int 0,int 0,int 1,.ref (.vec 3 0)],.var [strD ⟨#[]⟩,int 1,int 1,int 0,int 0,int 1,.ref (.vec 3 0)],.var [nq,int 0,nq],.var [int 0],.gone,.gone,.gone,.gone,.gone,.gone,.vec [[int 0,int 1,int 6],[int 0,int 2,int 3],[int 1,int 3,int 6],[int 1,int 4,int 6],[int 2,int 3,int 3],[int 2,int 4,int 3],[int 3,int 5,int 6],[int 4,int 5,int 4]] 7 3,.gone,.gone,.gone,.gone,.gone,.gone,.gone,.gone,.gone,.gone,.var [int 0],.var [int 5],.vec [[int 6],[int 0],[int 6],[int 0],[int 0],[int 0],[int 6],[int 0]] 0 1,.vec [[.ref (.vec 34 1)],[.ref (.vec 36 2)],[.ref (.vec 40 2)],[.ref (.vec 44 2)],[.ref (.vec 48 2)],[.ref (.vec 58 1)]] 0 1,.var [.ref (.vec 16 7),.ref (.vec 29 0),.ref (.vec 30 0)],.gone,.gone,.vec [[int 0],[int 2]] 1 1,.gone,.vec [[int 1],[int 4],[int 6]] 2 1,.gone,.gone,.gone,.vec [[int 3],[int 8],[int 10]] 2 1,.gone,.gone,.gone,.vec [[int 5],[int 9],[int 12]] 2 1,.gone,.gone,.gone,.vec [[int 7],[int 11],[int 14]] 2 1,.gone,.gone,.gone,.gone,.gone,.gone,.gone,.gone,.gone,.vec [[int 13],[int 15]] 1 1,.gone,.gone,.gone,.var [.ref (.ptr 31 0)],.gone,.gone,.gone,.vec [[int 16],[int 0],[int 2],[int 4],[int 6],[int 12]] 0 1,.gone,.gone,.gone,.gone,.gone,.gone,.gone,.gone,.gone,.gone,.gone,.gone,.gone,.gone,.gone,.gone,.gone,.gone,.var [.ref (.vec 66 0)],.var [int 6],.gone,.gone,.gone,.vec [[int 16],[int 5],[int 2],[int 8],[int 10],[int 14]] 0 1,.gone,.gone,.gone,.gone,.gone,.gone,.gone,.gone,.gone,.gone,.gone,.gone,.gone,.gone,.gone,.gone,.gone,.gone]⟩
theorem s19m2_ok:s19m2.Ok Tryz.prog Γ0:=Memo.ok_of pok (ms:=[]) (by kernel_rfl) trivial
def s19m3:Memo:=⟨42,[int 6,.ref (.vec 16 7),int 0,int 5],[.gone,.vec [[int 7],[int 8]] 0 1,.vec [[int 8],[int 7]] 0 1,.vec [[strD ⟨#[97]⟩,int 6,int 1,bool false,nq,.ref (.vec 1 0)],[strD ⟨#[98]⟩,int 4,int 1,bool false,nq,.ref (.vec 2 0)]] 0 6,.gone,.vec [[int 7,int 0,int 5,int 0,int 6],[int 8,int 0,int 5,int 0,int 3]] 0 5,.var [strD ⟨#[]⟩,int 1,int 1,int 0,int 0,int 1,.ref (.vec 3 0)],.var [strD ⟨#[]⟩,int 1,int 1,int 0,int 0,int 1,.ref (.vec 3 0)],.var [nq,int 0,nq],.var [int 0],.gone,.gone,.gone,.gone,.gone,.gone,.vec [[int 0,int 1,int 6],[int 0,int 2,int 3],[int 1,int 3,int 6],[int 1,int 4,int 6],[int 2,int 3,int 3],[int 2,int 4,int 3],[int 3,int 5,int 6],[int 4,int 5,int 4]] 7 3,.gone,.gone,.gone,.gone,.gone,.gone,.gone,.gone,.gone,.gone],.ret (.tup [.ref (.vec 29 0),.ref (.vec 122 0),int 0]) [.gone,.vec [[int 7],[int 8]] 0 1,.vec [[int 8],[int 7]] 0 1,.vec [[strD ⟨#[97]⟩,int 6,int 1,bool false,nq,.ref (.vec 1 0)],[strD ⟨#[98]⟩,int 4,int 1,bool false,nq,.ref (.vec 2 0)]] 0 6,.gone,.vec [[int 7,int 0,int 5,int 0,int 6],[int 8,int 0,int 5,int 0,int 3]] 0 5,.var [strD ⟨#[]⟩,int 1,int 1,int 0,int 0,int 1,.ref (.vec 3 0)],.var [strD ⟨#[]⟩,int 1,int 1,int 0,int 0,int 1,.ref (.vec 3 0)],.var [nq,int 0,nq],.var [int 0],.gone,.gone,.gone,.gone,.gone,.gone,.vec [[int 0,int 1,int 6],[int 0,int 2,int 3],[int 1,int 3,int 6],[int 1,int 4,int 6],[int 2,int 3,int 3],[int 2,int 4,int 3],[int 3,int 5,int 6],[int 4,int 5,int 4]] 7 3,.gone,.gone,.gone,.gone,.gone,.gone,.gone,.gone,.gone,.gone,.gone,.gone,.vec [[int 6],[int 3],[int 6],[int 0],[int 0],[int 3],[int 6],[int 3]] 0 1,.gone,.gone,.gone,.gone,.gone,.gone,.gone,.gone,.gone,.gone,.gone,.gone,.gone,.gone,.gone,.gone,.gone,.gone,.gone,.gone,.gone,.gone,.gone,.gone,.gone,.gone,.gone,.gone,.gone,.gone,.gone,.gone,.gone,.gone,.gone,.gone,.gone,.gone,.gone,.gone,.gone,.gone,.gone,.gone,.gone,.gone,.gone,.gone,.gone,.gone,.gone,.gone,.gone,.gone,.gone,.gone,.gone,.gone,.gone,.gone,.gone,.gone,.gone,.gone,.gone,.gone,.gone,.gone,.gone,.gone,.gone,.gone,.gone,.gone,.gone,.gone,.gone,.gone,.gone,.gone,.gone,.gone,.gone,.gone,.gone,.gone,.gone,.gone,.gone,.gone,.gone,.gone,.vec [[bool true],[bool false],[bool false],[bool false],[bool false],[bool false]] 0 1]⟩
theorem s19m3_ok:s19m3.Ok Tryz.prog Γ0:=Memo.ok_of pok (ms:=[s19m0,s19m1,s19m2]) (by kernel_rfl) ⟨s19m0_ok,s19m1_ok,s19m2_ok,trivial⟩
def s19m4:Memo:=⟨19,[.agg [strD ⟨#[]⟩,int 1,int 1,int 0,int 0,int 1,.ref (.vec 3 0)],.ref (.vec 5 0)],[.gone,.vec [[int 7],[int 8]] 0 1,.vec [[int 8],[int 7]] 0 1,.vec [[strD ⟨#[97]⟩,int 6,int 1,bool false,nq,.ref (.vec 1 0)],[strD ⟨#[98]⟩,int 4,int 1,bool false,nq,.ref (.vec 2 0)]] 0 6,.gone,.vec [[int 7,int 0,int 5,int 0,int 6],[int 8,int 0,int 5,int 0,int 3]] 0 5,.var [strD ⟨#[]⟩,int 1,int 1,int 0,int 0,int 1,.ref (.vec 3 0)]],.ret (.tup [.agg [.ref (.vec 141 1),int 1,.ref (.vec 122 0)],int 0]) [.gone,.vec [[int 7],[int 8]] 0 1,.vec [[int 8],[int 7]] 0 1,.vec [[strD ⟨#[97]⟩,int 6,int 1,bool false,nq,.ref (.vec 1 0)],[strD ⟨#[98]⟩,int 4,int 1,bool false,nq,.ref (.vec 2 0)]] 0 6,.gone,.vec [[int 7,int 0,int 5,int 0,int 6],[int 8,int 0,int 5,int 0,int 3]] 0 5,.var [strD ⟨#[]⟩,int 1,int 1,int 0,int 0,int 1,.ref (.vec 3 0)],.gone,.gone,.gone,.gone,.gone,.gone,.gone,.gone,.gone,.gone,.gone,.gone,.gone,.gone,.gone,.gone,.gone,.gone,.gone,.gone,.gone,.gone,.gone,.gone,.gone,.gone,.gone,.gone,.gone,.gone,.gone,.gone,.gone,.gone,.gone,.gone,.gone,.gone,.gone,.gone,.gone,.gone,.gone,.gone,.gone,.gone,.gone,.gone,.gone,.gone,.gone,.gone,.gone,.gone,.gone,.gone,.gone,.gone,.gone,.gone,.gone,.gone,.gone,.gone,.gone,.gone,.gone,.gone,.gone,.gone,.gone,.gone,.gone,.gone,.gone,.gone,.gone,.gone,.gone,.gone,.gone,.gone,.gone,.gone,.gone,.gone,.gone,.gone,.gone,.gone,.gone,.gone,.gone,.gone,.gone,.gone,.gone,.gone,.gone,.gone,.gone,.gone,.gone,.gone,.gone,.gone,.gone,.gone,.gone,.gone,.gone,.gone,.gone,.gone,.gone,.vec [[bool true],[bool false],[bool false],[bool false],[bool false],[bool false]] 0 1,.gone,.gone,.gone,.gone,.gone,.gone,.gone,.gone,.gone,.gone,.gone,.gone,.gone,.gone,.gone,.gone,.gone,.gone,.vec [[int 0,int 0,int 6],[int 1,int 1,int 3]] 1 3,.gone,.gone,.gone,.gone,.gone,.gone,.gone,.gone,.gone]⟩
theorem s19m4_ok:s19m4.Ok Tryz.prog Γ0:=Memo.ok_of pok (ms:=[s19m3]) (by kernel_rfl) ⟨s19m3_ok,trivial⟩
def s19m5:Memo:=⟨16,[.agg [strD ⟨#[]⟩,int 1,int 1,int 0,int 0,int 1,.ref (.vec 3 0)],.ref (.vec 5 0)],[.gone,.vec [[int 7],[int 8]] 0 1,.vec [[int 8],[int 7]] 0 1,.vec [[strD ⟨#[97]⟩,int 6,int 1,bool false,nq,.ref (.vec 1 0)],[strD ⟨#[98]⟩,int 4,int 1,bool false,nq,.ref (.vec 2 0)]] 0 6,.gone,.vec [[int 7,int 0,int 5,int 0,int 6],[int 8,int 0,int 5,int 0,int 3]] 0 5,.var [strD ⟨#[]⟩,int 1,int 1,int 0,int 0,int 1,.ref (.vec 3 0)],.gone,.gone,.gone,.gone,.gone,.gone,.gone,.gone,.gone,.gone,.gone,.gone,.gone,.gone,.gone,.gone,.gone,.gone,.gone,.gone,.gone,.gone,.gone,.gone,.gone,.gone,.gone,.gone,.gone,.gone,.gone,.gone,.gone,.gone,.gone,.gone,.gone,.gone,.gone,.gone,.gone,.gone,.gone,.gone,.gone,.gone,.gone,.gone,.gone,.gone,.gone,.gone,.gone,.gone,.gone,.gone,.gone,.gone,.gone,.gone,.gone,.gone,.gone,.gone,.gone,.gone,.gone,.gone,.gone,.gone,.gone,.gone,.gone,.gone,.gone,.gone,.gone,.gone,.gone,.gone,.gone,.gone,.gone,.gone,.gone,.gone,.gone,.gone,.gone,.gone,.gone,.gone,.gone,.gone,.gone,.gone,.gone,.gone,.gone,.gone,.gone,.gone,.gone,.gone,.gone,.gone,.gone,.gone,.gone,.gone,.gone,.gone,.gone,.gone,.gone,.vec [[bool true],[bool false],[bool false],[bool false],[bool false],[bool false]] 0 1,.gone,.gone,.gone,.gone,.gone,.gone,.gone,.gone,.gone,.gone,.gone,.gone,.gone,.gone,.gone,.gone,.gone,.gone,.vec [[int 0,int 0,int 6],[int 1,int 1,int 3]] 1 3,.gone,.gone,.gone,.gone,.gone,.gone,.gone,.gone,.gone,.var [.ref (.vec 141 1),int 1,.ref (.vec 122 0)],.gone,.gone,.gone,.gone,.gone,.gone,.gone,.gone,.gone,.gone,.gone,.gone,.gone,.gone,.gone,.gone,.gone,.gone,.gone,.gone,.vec [[bool true],[bool false]] 0 1,.gone,.gone,.gone,.gone,.gone,.gone,.gone,.var [nq,int 0,.ref (.vec 172 0)],.var [strD ⟨#[]⟩,int 1,int 1,int 0,int 0,int 1,.ref (.vec 183 0)],.vec [[int 7]] 0 1,.vec [[strD ⟨#[]⟩,int 6,int 0,bool true,nq,.ref (.vec 182 0)]] 0 6,.gone,.gone,.gone,.gone,.gone,.gone,.gone,.gone,.gone,.gone,.gone,.gone,.gone,.vec [[int 3,int 0,int 0,int 0,int 1]] 0 5,.var [nq,int 0,nq]],.ret (.tup [int 6,.ref (.vec 205 7),int 0]) [.gone,.vec [[int 7],[int 8]] 0 1,.vec [[int 8],[int 7]] 0 1,.vec [[strD ⟨#[97]⟩,int 6,int 1,bool false,nq,.ref (.vec 1 0)],[strD ⟨#[98]⟩,int 4,int 1,bool false,nq,.ref (.vec 2 0)]] 0 6,.gone,.vec [[int 7,int 0,int 5,int 0,int 6],[int 8,int 0,int 5,int 0,int 3]] 0 5,.var [strD ⟨#[]⟩,int 1,int 1,int 0,int 0,int 1,.ref (.vec 3 0)],.gone,.gone,.gone,.gone,.gone,.gone,.gone,.gone,.gone,.gone,.gone,.gone,.gone,.gone,.gone,.gone,.gone,.gone,.gone,.gone,.gone,.gone,.gone,.gone,.gone,.gone,.gone,.gone,.gone,.gone,.gone,.gone,.gone,.gone,.gone,.gone,.gone,.gone,.gone,.gone,.gone,.gone,.gone,.gone,.gone,.gone,.gone,.gone,.gone,.gone,.gone,.gone,.gone,.gone,.gone,.gone,.gone,.gone,.gone,.gone,.gone,.gone,.gone,.gone,.gone,.gone,.gone,.gone,.gone,.gone,.gone,.gone,.gone,.gone,.gone,.gone,.gone,.gone,.gone,.gone,.gone,.gone,.gone,.gone,.gone,.gone,.gone,.gone,.gone,.gone,.gone,.gone,.gone,.gone,.gone,.gone,.gone,.gone,.gone,.gone,.gone,.gone,.gone,.gone,.gone,.gone,.gone,.gone,.gone,.gone,.gone,.gone,.gone,.gone,.gone,.vec [[bool true],[bool false],[bool false],[bool false],[bool false],[bool false]] 0 1,.gone,.gone,.gone,.gone,.gone,.gone,.gone,.gone,.gone,.gone,.gone,.gone,.gone,.gone,.gone,.gone,.gone,.gone,.vec [[int 0,int 0,int 6],[int 1,int 1,int 3]] 1 3,.gone,.gone,.gone,.gone,.gone,.gone,.gone,.gone,.gone,.var [.ref (.vec 141 1),int 1,.ref (.vec 122 0)],.gone,.gone,.gone,.gone,.gone,.gone,.gone,.gone,.gone,.gone,.gone,.gone,.gone,.gone,.gone,.gone,.gone,.gone,.gone,.gone,.vec [[bool true],[bool false]] 0 1,.gone,.gone,.gone,.gone,.gone,.gone,.gone,.var [nq,int 0,.ref (.vec 172 0)],.var [strD ⟨#[]⟩,int 1,int 1,int 0,int 0,int 1,.ref (.vec 183 0)],.vec [[int 7]] 0 1,.vec [[strD ⟨#[]⟩,int 6,int 0,bool true,nq,.ref (.vec 182 0)]] 0 6,.gone,.gone,.gone,.gone,.gone,.gone,.gone,.gone,.gone,.gone,.gone,.gone,.gone,.vec [[int 3,int 0,int 0,int 0,int 1]] 0 5,.var [nq,int 0,nq],.gone,.gone,.gone,.gone,.gone,.gone,.vec [[int 0,int 1,int 6],[int 0,int 2,int 3],[int 1,int 3,int 6],[int 1,int 4,int 6],[int 2,int 3,int 3],[int 2,int 4,int 3],[int 3,int 5,int 6],[int 4,int 5,int 4]] 7 3,.gone,.gone,.gone,.gone,.gone,.gone,.gone,.gone,.gone,.gone]⟩
theorem s19m5_ok:s19m5.Ok Tryz.prog Γ0:=Memo.ok_of pok (ms:=[]) (by kernel_rfl) trivial
def s19m6:Memo:=⟨22,[.agg [strD ⟨#[]⟩,int 1,int 1,int 0,int 0,int 1,.ref (.vec 3 0)],.ref (.vec 5 0),.ref (.vec 141 1)],[.gone,.vec [[int 7],[int 8]] 0 1,.vec [[int 8],[int 7]] 0 1,.vec [[strD ⟨#[97]⟩,int 6,int 1,bool false,nq,.ref (.vec 1 0)],[strD ⟨#[98]⟩,int 4,int 1,bool false,nq,.ref (.vec 2 0)]] 0 6,.gone,.vec [[int 7,int 0,int 5,int 0,int 6],[int 8,int 0,int 5,int 0,int 3]] 0 5,.var [strD ⟨#[]⟩,int 1,int 1,int 0,int 0,int 1,.ref (.vec 3 0)],.gone,.gone,.gone,.gone,.gone,.gone,.gone,.gone,.gone,.gone,.gone,.gone,.gone,.gone,.gone,.gone,.gone,.gone,.gone,.gone,.gone,.gone,.gone,.gone,.gone,.gone,.gone,.gone,.gone,.gone,.gone,.gone,.gone,.gone,.gone,.gone,.gone,.gone,.gone,.gone,.gone,.gone,.gone,.gone,.gone,.gone,.gone,.gone,.gone,.gone,.gone,.gone,.gone,.gone,.gone,.gone,.gone,.gone,.gone,.gone,.gone,.gone,.gone,.gone,.gone,.gone,.gone,.gone,.gone,.gone,.gone,.gone,.gone,.gone,.gone,.gone,.gone,.gone,.gone,.gone,.gone,.gone,.gone,.gone,.gone,.gone,.gone,.gone,.gone,.gone,.gone,.gone,.gone,.gone,.gone,.gone,.gone,.gone,.gone,.gone,.gone,.gone,.gone,.gone,.gone,.gone,.gone,.gone,.gone,.gone,.gone,.gone,.gone,.gone,.gone,.vec [[bool true],[bool false],[bool false],[bool false],[bool false],[bool false]] 0 1,.gone,.gone,.gone,.gone,.gone,.gone,.gone,.gone,.gone,.gone,.gone,.gone,.gone,.gone,.gone,.gone,.gone,.gone,.vec [[int 0,int 0,int 6],[int 1,int 1,int 3]] 1 3,.gone,.gone,.gone,.gone,.gone,.gone,.gone,.gone,.gone,.var [.ref (.vec 141 1),int 1,.ref (.vec 122 0)],.gone,.gone,.gone,.gone,.gone,.gone,.gone,.gone,.gone,.gone,.gone,.gone,.gone,.gone,.gone,.gone,.gone,.gone,.gone,.gone,.vec [[bool true],[bool false]] 0 1,.gone,.gone,.gone,.gone,.gone,.gone,.gone,.var [nq,int 0,.ref (.vec 172 0)],.var [strD ⟨#[]⟩,int 1,int 1,int 0,int 0,int 1,.ref (.vec 183 0)],.vec [[int 7]] 0 1,.vec [[strD ⟨#[]⟩,int 6,int 0,bool true,nq,.ref (.vec 182 0)]] 0 6,.gone,.gone,.gone,.gone,.gone,.gone,.gone,.gone,.gone,.gone,.gone,.gone,.gone,.vec [[int 3,int 0,int 0,int 0,int 1]] 0 5,.var [nq,int 0,nq],.gone,.gone,.gone,.gone,.gone,.gone,.vec [[int 0,int 1,int 6],[int 0,int 2,int 3],[int 1,int 3,int 6],[int 1,int 4,int 6],[int 2,int 3,int 3],[int 2,int 4,int 3],[int 3,int 5,int 6],[int 4,int 5,int 4]] 7 3,.gone,.gone,.gone,.gone,.gone,.gone,.gone,.gone,.gone,.gone],.ret (bool true) [.gone,.vec [[int 7],[int 8]] 0 1,.vec [[int 8],[int 7]] 0 1,.vec [[strD ⟨#[97]⟩,int 6,int 1,bool false,nq,.ref (.vec 1 0)],[strD ⟨#[98]⟩,int 4,int 1,bool false,nq,.ref (.vec 2 0)]] 0 6,.gone,.vec [[int 7,int 0,int 5,int 0,int 6],[int 8,int 0,int 5,int 0,int 3]] 0 5,.var [strD ⟨#[]⟩,int 1,int 1,int 0,int 0,int 1,.ref (.vec 3 0)],.gone,.gone,.gone,.gone,.gone,.gone,.gone,.gone,.gone,.gone,.gone,.gone,.gone,.gone,.gone,.gone,.gone,.gone,.gone,.gone,.gone,.gone,.gone,.gone,.gone,.gone,.gone,.gone,.gone,.gone,.gone,.gone,.gone,.gone,.gone,.gone,.gone,.gone,.gone,.gone,.gone,.gone,.gone,.gone,.gone,.gone,.gone,.gone,.gone,.gone,.gone,.gone,.gone,.gone,.gone,.gone,.gone,.gone,.gone,.gone,.gone,.gone,.gone,.gone,.gone,.gone,.gone,.gone,.gone,.gone,.gone,.gone,.gone,.gone,.gone,.gone,.gone,.gone,.gone,.gone,.gone,.gone,.gone,.gone,.gone,.gone,.gone,.gone,.gone,.gone,.gone,.gone,.gone,.gone,.gone,.gone,.gone,.gone,.gone,.gone,.gone,.gone,.gone,.gone,.gone,.gone,.gone,.gone,.gone,.gone,.gone,.gone,.gone,.gone,.gone,.vec [[bool true],[bool false],[bool false],[bool false],[bool false],[bool false]] 0 1,.gone,.gone,.gone,.gone,.gone,.gone,.gone,.gone,.gone,.gone,.gone,.gone,.gone,.gone,.gone,.gone,.gone,.gone,.vec [[int 0,int 0,int 6],[int 1,int 1,int 3]] 1 3,.gone,.gone,.gone,.gone,.gone,.gone,.gone,.gone,.gone,.var [.ref (.vec 141 1),int 1,.ref (.vec 122 0)],.gone,.gone,.gone,.gone,.gone,.gone,.gone,.gone,.gone,.gone,.gone,.gone,.gone,.gone,.gone,.gone,.gone,.gone,.gone,.gone,.vec [[bool true],[bool false]] 0 1,.gone,.gone,.gone,.gone,.gone,.gone,.gone,.var [nq,int 0,.ref (.vec 172 0)],.var [strD ⟨#[]⟩,int 1,int 1,int 0,int 0,int 1,.ref (.vec 183 0)],.vec [[int 7]] 0 1,.vec [[strD ⟨#[]⟩,int 6,int 0,bool true,nq,.ref (.vec 182 0)]] 0 6,.gone,.gone,.gone,.gone,.gone,.gone,.gone,.gone,.gone,.gone,.gone,.gone,.gone,.vec [[int 3,int 0,int 0,int 0,int 1]] 0 5,.var [nq,int 0,nq],.gone,.gone,.gone,.gone,.gone,.gone,.vec [[int 0,int 1,int 6],[int 0,int 2,int 3],[int 1,int 3,int 6],[int 1,int 4,int 6],[int 2,int 3,int 3],[int 2,int 4,int 3],[int 3,int 5,int 6],[int 4,int 5,int 4]] 7 3,.gone,.gone,.gone,.gone,.gone,.gone,.gone,.gone,.gone,.gone]⟩
theorem s19m6_ok:s19m6.Ok Tryz.prog Γ0:=Memo.ok_of pok (ms:=[]) (by kernel_rfl) trivial
def s19mR:Memo:=⟨9,[],[],.ret (bool true) []⟩
theorem s19mR_ok:s19mR.Ok Tryz.prog Γ0:=Memo.ok_of pok (ms:=[s19m4,s19m5,s19m6]) (by kernel_rfl) ⟨s19m4_ok,s19m5_ok,s19m6_ok,trivial⟩
theorem sane19_ev(h:List Blk):Ev Tryz.prog Γ0 9 [] h (bool true) h:=Ev.frame0 rfl (Memo.call s19mR_ok rfl) h
theorem few_le{p:ProgT}{l:List AttT}(h:(!fewB p ((l.map AttT.row).length:Int))=false):p.reqs.length≤6∧l.length≤8:=by
 unfold fewB at h
 cases hc:(Dd (((p.reqs.map ReqT.row).length:Int)>6)||Dd (((l.map AttT.row).length:Int)>8))
 ·simp only[Bool.or_eq_false_iff,decide_eq_false_iff_not,List.length_map] at hc
  omega
 ·rw[hc] at h;simp at h
theorem pErr_or(p:ProgT):pErr p=0∨pErr p=190:=by
 unfold pErr
 cases pHead p with
 | true=>exact .inr rfl
 | false =>
  simp only[cond_false]
  cases forL ckF p.reqs () with
  | inl _=>exact .inl rfl
  | inr _=>exact .inr rfl
theorem aErr_or(l:List AttT):aErr l=0∨aErr l=150:=by
 unfold aErr
 cases l.any (fun a=>!attB a) with
 | true=>exact .inr rfl
 | false=>exact .inl rfl
theorem net_err{p:ProgT}{l:List AttT}:(netR p l).2.2=0∧pErr p=0∧aErr l=0∨((netR p l).2.2=150∨(netR p l).2.2=190∨(netR p l).2.2=180):=by
 show(netX p l (sumsR l).2.2).2.2=0∧_∨((netX p l (sumsR l).2.2).2.2=150∨(netX p l (sumsR l).2.2).2.2=190∨(netX p l (sumsR l).2.2).2.2=180)
 unfold netX sumsR
 rcases pErr_or p with h|h<;>rcases aErr_or l with h2|h2<;>rw[h,h2]<;>simp
abbrev raH(p:ProgT)(cut:List Bool)(us:List UseT):List Blk:=[.var p.l,.var [nq,int 0,nq],.var [.ref (.vec 3 0),int 0,rowsD' (rowsB cut)],.vec (vecU us) 0 3]
abbrev raS(p:ProgT)(l:List AttT)(es:List EdgT)(fl:List Int)(cut:List Bool)(us:List UseT)(i:Int):AS:={t:=mkT 94 0 [(1,rowsD' (l.map AttT.row)),(2,.ref (.ptr 0 0)),(4,.ref (.ptr 1 0)),(7,rowsD' (es.map EdgT.row)),(9,rowsD' (inR1 fl)),(11,.ref (.ptr 2 0)),(12,int i)],h:=raH p cut us,m:=[]}
theorem ra_0{p:ProgT}{l:List AttT}{es:List EdgT}{fl:List Int}{cut:List Bool}{us:List UseT}{i:Nat}{x:EdgT}(hr:RowAt (i:Int) (es.map EdgT.row) x.row 3)(hlt:Dd ((i:Int)<((es.map EdgT.row).length:Int))=true)(hw:IntKind.i64.wrap ((i:Int)+1)=((i+1:Nat):Int))(h1:Dd (x.frm≥1)=false):(CW Tryz.prog Γ0 [] false (sub Tryz.f20 0) (raS p l es fl cut us i) .normal (raS p l es fl cut us ((i+1:Nat):Int))):=by
 refine CW.cast (CW.symX (s':={t:=mkT 94 0 [(1,rowsD' (List.map AttT.row l)),(2,.ref (.ptr 0 0)),(4,.ref (.ptr 1 0)),(7,rowsD' (List.map EdgT.row es)),(9,rowsD' (inR1 fl)),(11,.ref (.ptr 2 0)),(12,int (IntKind.wrap IntKind.i64 ((↑i:Int)+1)))],h:=[.var [strD p.nm,int p.number,int p.uses,int p.earn,int p.num,int p.den,rowsD' (List.map ReqT.row p.reqs)],.var [nq,int 0,nq],.var [.ref (.vec 3 0),int 0,rowsD' (rowsB cut)],.vec (vecU us) 0 3],m:=[]}) (e:=Exit.normal) pok [.st (.mask [1,2,4,7,9,11,12]),.st (.trimV 4)] [.b true,.row [vi x.frm,vi x.to,vi x.most],.g false,.g false,.g false,.g false,.g false,.ov 59 (bool false),.g false,.g false,.g false,.g false,.g false,.ov 66 (bool false),.b false] (by kernel_rfl) (.c hlt (.c hr (.c (show(Dd (x.frm≥1)==true)=false from(by rw[h1]<;>rfl)) (.c (show(Dd (x.frm≥1)==true)=false from(by rw[h1]<;>rfl)) (.c (show(Dd (x.frm≥1)==true)=false from(by rw[h1]<;>rfl)) (.c (show(Dd (x.frm≥1)==true)=false from(by rw[h1]<;>rfl)) (.c (show(Dd (x.frm≥1)==true)=false from(by rw[h1]<;>rfl)) (.c (show PickIs (bool (Dd (x.frm≥1))) (D.p (Dp.v (Value.tuple {toList:=[]}))) (bool false) (bool false) from(pickIs_f h1 rfl)) (.c (show(false==true)=false from rfl) (.c (show(false==true)=false from rfl) (.c (show(false==true)=false from rfl) (.c (show(false==true)=false from rfl) (.c (show(false==true)=false from rfl) (.c (show PickIs (bool false) (D.p (Dp.v (Value.tuple {toList:=[]}))) (bool false) (bool false) from(pickIs_f rfl rfl)) (.c (show false=false from rfl) (.c (show Blk.inn 4 (.var [strD p.nm,int p.number,int p.uses,int p.earn,int p.num,int p.den,rowsD' (List.map ReqT.row p.reqs)])=true from rfl) (.c (show Blk.inn 4 (.var [nq,int 0,nq])=true from rfl) (.c (show Blk.inn 4 (.var [.ref (.vec 3 0),int 0,rowsD' (rowsB cut)])=true from rfl) (.c (show Blk.inn 4 (.vec (vecU us) 0 3)=true from(by first|assumption|rfl|exact vecU_map _ _|exact vecU_inn _ _)) .n)))))))))))))))))))) ?_ ?_<;>(first|rfl|(rw[hw]<;>rfl))
theorem ra_1{p:ProgT}{l:List AttT}{es:List EdgT}{fl:List Int}{cut:List Bool}{us:List UseT}{i:Nat}{x:EdgT}(hr:RowAt (i:Int) (es.map EdgT.row) x.row 3)(hlt:Dd ((i:Int)<((es.map EdgT.row).length:Int))=true)(hw:IntKind.i64.wrap ((i:Int)+1)=((i+1:Nat):Int))(h1:Dd (x.frm≥1)=true)(h2:Dd (x.frm≤((l.map AttT.row).length:Int))=false):(CW Tryz.prog Γ0 [] false (sub Tryz.f20 0) (raS p l es fl cut us i) .normal (raS p l es fl cut us ((i+1:Nat):Int))):=by
 refine CW.cast (CW.symX (s':={t:=mkT 94 0 [(1,rowsD' (List.map AttT.row l)),(2,.ref (.ptr 0 0)),(4,.ref (.ptr 1 0)),(7,rowsD' (List.map EdgT.row es)),(9,rowsD' (inR1 fl)),(11,.ref (.ptr 2 0)),(12,int (IntKind.wrap IntKind.i64 ((↑i:Int)+1)))],h:=[.var [strD p.nm,int p.number,int p.uses,int p.earn,int p.num,int p.den,rowsD' (List.map ReqT.row p.reqs)],.var [nq,int 0,nq],.var [.ref (.vec 3 0),int 0,rowsD' (rowsB cut)],.vec (vecU us) 0 3],m:=[]}) (e:=Exit.normal) pok [.st (.mask [1,2,4,7,9,11,12]),.st (.trimV 4)] [.b true,.row [vi x.frm,vi x.to,vi x.most],.g true,.g true,.g true,.g true,.g true,.ov 59 (bool (Dd (x.frm≤(↑(List.length (List.map AttT.row l)):Int)))),.g false,.g false,.g false,.g false,.g false,.ov 66 (bool false),.b false] (by kernel_rfl) (.c hlt (.c hr (.c (show(Dd (x.frm≥1)==true)=true from(by rw[h1]<;>rfl)) (.c (show(Dd (x.frm≥1)==true)=true from(by rw[h1]<;>rfl)) (.c (show(Dd (x.frm≥1)==true)=true from(by rw[h1]<;>rfl)) (.c (show(Dd (x.frm≥1)==true)=true from(by rw[h1]<;>rfl)) (.c (show(Dd (x.frm≥1)==true)=true from(by rw[h1]<;>rfl)) (.c (show PickIs (bool (Dd (x.frm≥1))) (bool (Dd (x.frm≤(↑(List.length (List.map AttT.row l)):Int)))) (bool false) (bool (Dd (x.frm≤(↑(List.length (List.map AttT.row l)):Int)))) from(pickIs_t h1 rfl)) (.c (show(Dd (x.frm≤(↑(List.length (List.map AttT.row l)):Int))==true)=false from(by rw[h2]<;>rfl)) (.c (show(Dd (x.frm≤(↑(List.length (List.map AttT.row l)):Int))==true)=false from(by rw[h2]<;>rfl)) (.c (show(Dd (x.frm≤(↑(List.length (List.map AttT.row l)):Int))==true)=false from(by rw[h2]<;>rfl)) (.c (show(Dd (x.frm≤(↑(List.length (List.map AttT.row l)):Int))==true)=false from(by rw[h2]<;>rfl)) (.c (show(Dd (x.frm≤(↑(List.length (List.map AttT.row l)):Int))==true)=false from(by rw[h2]<;>rfl)) (.c (show PickIs (bool (Dd (x.frm≤(↑(List.length (List.map AttT.row l)):Int)))) (D.p (Dp.v (Value.tuple {toList:=[]}))) (bool false) (bool false) from(pickIs_f h2 rfl)) (.c (show false=false from rfl) (.c (show Blk.inn 4 (.var [strD p.nm,int p.number,int p.uses,int p.earn,int p.num,int p.den,rowsD' (List.map ReqT.row p.reqs)])=true from rfl) (.c (show Blk.inn 4 (.var [nq,int 0,nq])=true from rfl) (.c (show Blk.inn 4 (.var [.ref (.vec 3 0),int 0,rowsD' (rowsB cut)])=true from rfl) (.c (show Blk.inn 4 (.vec (vecU us) 0 3)=true from(by first|assumption|rfl|exact vecU_map _ _|exact vecU_inn _ _)) .n)))))))))))))))))))) ?_ ?_<;>(first|rfl|(rw[hw]<;>rfl))
theorem ra_2{p:ProgT}{l:List AttT}{es:List EdgT}{fl:List Int}{cut:List Bool}{us:List UseT}{i:Nat}{x:EdgT}{f:Int}(hr:RowAt (i:Int) (es.map EdgT.row) x.row 3)(hlt:Dd ((i:Int)<((es.map EdgT.row).length:Int))=true)(hw:IntKind.i64.wrap ((i:Int)+1)=((i+1:Nat):Int))(h1:Dd (x.frm≥1)=true)(h2:Dd (x.frm≤((l.map AttT.row).length:Int))=true)(hf:RowAt (i:Int) (inR1 fl) [vi f] 1)(h3:Dd (f>0)=false):(CW Tryz.prog Γ0 [] false (sub Tryz.f20 0) (raS p l es fl cut us i) .normal (raS p l es fl cut us ((i+1:Nat):Int))):=by
 refine CW.cast (CW.symX (s':={t:=mkT 94 0 [(1,rowsD' (List.map AttT.row l)),(2,.ref (.ptr 0 0)),(4,.ref (.ptr 1 0)),(7,rowsD' (List.map EdgT.row es)),(9,rowsD' (inR1 fl)),(11,.ref (.ptr 2 0)),(12,int (IntKind.wrap IntKind.i64 ((↑i:Int)+1)))],h:=[.var [strD p.nm,int p.number,int p.uses,int p.earn,int p.num,int p.den,rowsD' (List.map ReqT.row p.reqs)],.var [nq,int 0,nq],.var [.ref (.vec 3 0),int 0,rowsD' (rowsB cut)],.vec (vecU us) 0 3],m:=[]}) (e:=Exit.normal) pok [.st (.mask [1,2,4,7,9,11,12]),.st (.trimV 4)] [.b true,.row [vi x.frm,vi x.to,vi x.most],.g true,.g true,.g true,.g true,.g true,.ov 59 (bool (Dd (x.frm≤(↑(List.length (List.map AttT.row l)):Int)))),.g true,.g true,.g true,.row [vi f],.g true,.g true,.ov 66 (bool (Dd (f>0))),.b false] (by kernel_rfl) (.c hlt (.c hr (.c (show(Dd (x.frm≥1)==true)=true from(by rw[h1]<;>rfl)) (.c (show(Dd (x.frm≥1)==true)=true from(by rw[h1]<;>rfl)) (.c (show(Dd (x.frm≥1)==true)=true from(by rw[h1]<;>rfl)) (.c (show(Dd (x.frm≥1)==true)=true from(by rw[h1]<;>rfl)) (.c (show(Dd (x.frm≥1)==true)=true from(by rw[h1]<;>rfl)) (.c (show PickIs (bool (Dd (x.frm≥1))) (bool (Dd (x.frm≤(↑(List.length (List.map AttT.row l)):Int)))) (bool false) (bool (Dd (x.frm≤(↑(List.length (List.map AttT.row l)):Int)))) from(pickIs_t h1 rfl)) (.c (show(Dd (x.frm≤(↑(List.length (List.map AttT.row l)):Int))==true)=true from(by rw[h2]<;>rfl)) (.c (show(Dd (x.frm≤(↑(List.length (List.map AttT.row l)):Int))==true)=true from(by rw[h2]<;>rfl)) (.c (show(Dd (x.frm≤(↑(List.length (List.map AttT.row l)):Int))==true)=true from(by rw[h2]<;>rfl)) (.c hf (.c (show(Dd (x.frm≤(↑(List.length (List.map AttT.row l)):Int))==true)=true from(by rw[h2]<;>rfl)) (.c (show(Dd (x.frm≤(↑(List.length (List.map AttT.row l)):Int))==true)=true from(by rw[h2]<;>rfl)) (.c (show PickIs (bool (Dd (x.frm≤(↑(List.length (List.map AttT.row l)):Int)))) (bool (Dd (f>0))) (bool false) (bool (Dd (f>0))) from(pickIs_t h2 rfl)) (.c h3 (.c (show Blk.inn 4 (.var [strD p.nm,int p.number,int p.uses,int p.earn,int p.num,int p.den,rowsD' (List.map ReqT.row p.reqs)])=true from rfl) (.c (show Blk.inn 4 (.var [nq,int 0,nq])=true from rfl) (.c (show Blk.inn 4 (.var [.ref (.vec 3 0),int 0,rowsD' (rowsB cut)])=true from rfl) (.c (show Blk.inn 4 (.vec (vecU us) 0 3)=true from(by first|assumption|rfl|exact vecU_map _ _|exact vecU_inn _ _)) .n))))))))))))))))))))) ?_ ?_<;>(first|rfl|(rw[hw]<;>rfl))
theorem ra_3{p:ProgT}{l:List AttT}{es:List EdgT}{fl:List Int}{cut:List Bool}{us:List UseT}{i:Nat}{x:EdgT}{f:Int}(hr:RowAt (i:Int) (es.map EdgT.row) x.row 3)(hlt:Dd ((i:Int)<((es.map EdgT.row).length:Int))=true)(hw:IntKind.i64.wrap ((i:Int)+1)=((i+1:Nat):Int))(h1:Dd (x.frm≥1)=true)(h2:Dd (x.frm≤((l.map AttT.row).length:Int))=true)(hf:RowAt (i:Int) (inR1 fl) [vi f] 1)(h3:Dd (f>0)=true)(hl:us.length≤1000000):(CW Tryz.prog Γ0 [] false (sub Tryz.f20 0) (raS p l es fl cut us i) .normal (raS p l es fl cut (us++[⟨IntKind.i64.wrap (x.frm - 1),IntKind.i64.wrap (IntKind.i64.wrap (x.to - 1) - ((l.map AttT.row).length:Int)),f⟩]) ((i+1:Nat):Int))):=by
 refine CW.cast (CW.symX (s':={t:=mkT 94 0 [(1,rowsD' (List.map AttT.row l)),(2,.ref (.ptr 0 0)),(4,.ref (.ptr 1 0)),(7,rowsD' (List.map EdgT.row es)),(9,rowsD' (inR1 fl)),(11,.ref (.ptr 2 0)),(12,int (IntKind.wrap IntKind.i64 ((↑i:Int)+1)))],h:=[.var [strD p.nm,int p.number,int p.uses,int p.earn,int p.num,int p.den,rowsD' (List.map ReqT.row p.reqs)],.var [nq,int 0,nq],.var [.ref (.vec 3 0),int 0,rowsD' (rowsB cut)],.vec (vecU us++[[int (IntKind.wrap IntKind.i64 (x.frm - 1)),int (IntKind.wrap IntKind.i64 (IntKind.wrap IntKind.i64 (x.to - 1) - (↑(List.length (List.map AttT.row l)):Int))),int f]]) 0 3],m:=[]}) (e:=Exit.normal) pok [.st (.mask [1,2,4,7,9,11,12]),.st (.ren 3 0),.st (.trimV 4)] [.b true,.row [vi x.frm,vi x.to,vi x.most],.g true,.g true,.g true,.g true,.g true,.ov 59 (bool (Dd (x.frm≤(↑(List.length (List.map AttT.row l)):Int)))),.g true,.g true,.g true,.row [vi f],.g true,.g true,.ov 66 (bool (Dd (f>0))),.b true,.row [vi f]] (by kernel_rfl) (.c hlt (.c hr (.c (show(Dd (x.frm≥1)==true)=true from(by rw[h1]<;>rfl)) (.c (show(Dd (x.frm≥1)==true)=true from(by rw[h1]<;>rfl)) (.c (show(Dd (x.frm≥1)==true)=true from(by rw[h1]<;>rfl)) (.c (show(Dd (x.frm≥1)==true)=true from(by rw[h1]<;>rfl)) (.c (show(Dd (x.frm≥1)==true)=true from(by rw[h1]<;>rfl)) (.c (show PickIs (bool (Dd (x.frm≥1))) (bool (Dd (x.frm≤(↑(List.length (List.map AttT.row l)):Int)))) (bool false) (bool (Dd (x.frm≤(↑(List.length (List.map AttT.row l)):Int)))) from(pickIs_t h1 rfl)) (.c (show(Dd (x.frm≤(↑(List.length (List.map AttT.row l)):Int))==true)=true from(by rw[h2]<;>rfl)) (.c (show(Dd (x.frm≤(↑(List.length (List.map AttT.row l)):Int))==true)=true from(by rw[h2]<;>rfl)) (.c (show(Dd (x.frm≤(↑(List.length (List.map AttT.row l)):Int))==true)=true from(by rw[h2]<;>rfl)) (.c hf (.c (show(Dd (x.frm≤(↑(List.length (List.map AttT.row l)):Int))==true)=true from(by rw[h2]<;>rfl)) (.c (show(Dd (x.frm≤(↑(List.length (List.map AttT.row l)):Int))==true)=true from(by rw[h2]<;>rfl)) (.c (show PickIs (bool (Dd (x.frm≤(↑(List.length (List.map AttT.row l)):Int)))) (bool (Dd (f>0))) (bool false) (bool (Dd (f>0))) from(pickIs_t h2 rfl)) (.c h3 (.c hf (.c (show(List.all [[int (IntKind.wrap IntKind.i64 (x.frm - 1)),int (IntKind.wrap IntKind.i64 (IntKind.wrap IntKind.i64 (x.to - 1) - (↑(List.length (List.map AttT.row l)):Int))),int f]] (rowOk 3)&&roomOk (List.length (vecU us)+List.length [[int (IntKind.wrap IntKind.i64 (x.frm - 1)),int (IntKind.wrap IntKind.i64 (IntKind.wrap IntKind.i64 (x.to - 1) - (↑(List.length (List.map AttT.row l)):Int))),int f]]) 24)=true from ?_) (.e (.ref (.ptr 2 0)) (.e (.ref (.ptr 2 0)) (.e (.ref (.vec 3 0)) (.e (.ref (.vec 3 0)) (.e (.ref (.ptr 4 0)) (.e (int x.frm) (.e (.ref (.ptr 4 1)) (.e (int x.to) (.e (.ref (.ptr 2 0)) (.c (show List.map (D.mapRL (renR 3 1 0)) (vecU us++[[int (IntKind.wrap IntKind.i64 (x.frm - 1)),int (IntKind.wrap IntKind.i64 (IntKind.wrap IntKind.i64 (x.to - 1) - (↑(List.length (List.map AttT.row l)):Int))),int f]])=vecU us++[[int (IntKind.wrap IntKind.i64 (x.frm - 1)),int (IntKind.wrap IntKind.i64 (IntKind.wrap IntKind.i64 (x.to - 1) - (↑(List.length (List.map AttT.row l)):Int))),int f]] from ?_) (.c (show [[int (IntKind.wrap IntKind.i64 (x.frm - 1)),int (IntKind.wrap IntKind.i64 (IntKind.wrap IntKind.i64 (x.to - 1) - (↑(List.length (List.map AttT.row l)):Int))),int f]]=[[int (IntKind.wrap IntKind.i64 (x.frm - 1)),int (IntKind.wrap IntKind.i64 (IntKind.wrap IntKind.i64 (x.to - 1) - (↑(List.length (List.map AttT.row l)):Int))),int f]] from rfl) (.c (show Blk.inn 4 (match 0==3 with|true=>.vec (vecU us++[[int (IntKind.wrap IntKind.i64 (x.frm - 1)),int (IntKind.wrap IntKind.i64 (IntKind.wrap IntKind.i64 (x.to - 1) - (↑(List.length (List.map AttT.row l)):Int))),int f]]) 0 3|false=>keepX (renR 3 1 0) (.var [strD p.nm,int p.number,int p.uses,int p.earn,int p.num,int p.den,rowsD' (List.map ReqT.row p.reqs)]))=true from rfl) (.c (show Blk.inn 4 (match 0+1==3 with|true=>.vec (vecU us++[[int (IntKind.wrap IntKind.i64 (x.frm - 1)),int (IntKind.wrap IntKind.i64 (IntKind.wrap IntKind.i64 (x.to - 1) - (↑(List.length (List.map AttT.row l)):Int))),int f]]) 0 3|false=>keepX (renR 3 1 0) (.var [nq,int 0,nq]))=true from rfl) (.c (show Blk.inn 4 (match 0+1+1==3 with|true=>.vec (vecU us++[[int (IntKind.wrap IntKind.i64 (x.frm - 1)),int (IntKind.wrap IntKind.i64 (IntKind.wrap IntKind.i64 (x.to - 1) - (↑(List.length (List.map AttT.row l)):Int))),int f]]) 0 3|false=>keepX (renR 3 1 0) (.var [.ref (.vec 3 1),int 0,rowsD' (rowsB cut)]))=true from rfl) (.c (show Blk.inn 4 (match 0+1+1+1==3 with|true=>.vec (vecU us++[[int (IntKind.wrap IntKind.i64 (x.frm - 1)),int (IntKind.wrap IntKind.i64 (IntKind.wrap IntKind.i64 (x.to - 1) - (↑(List.length (List.map AttT.row l)):Int))),int f]]) 0 3|false=>keepX (renR 3 1 0) (.vec (vecU us++[[int (IntKind.wrap IntKind.i64 (x.frm - 1)),int (IntKind.wrap IntKind.i64 (IntKind.wrap IntKind.i64 (x.to - 1) - (↑(List.length (List.map AttT.row l)):Int))),int f]]) 1 3))=true from ?_) .n)))))))))))))))))))))))))))))))))) (by(simp only[vecU_app,hw];first|done|rfl)) (by(simp only[vecU_app,hw];first|done|rfl))<;>(first|assumption|rfl|exact vecU_map _ _|exact vecU_inn _ _|(rw[vecU_app];exact vecU_map _ _)|(rw[vecU_app];exact vecU_inn _ _)|(simp[rowOk,D.one,Value.oneCell',roomOk,vecU_len];omega))
abbrev raE(p:ProgT)(cut:List Bool)(us:List UseT):AS:={t:=mkT 94 0 [(2,.ref (.ptr 0 0)),(4,.ref (.ptr 1 0)),(11,.ref (.ptr 2 0))],h:=raH p cut us,m:=[]}
theorem ra_last{p:ProgT}{l:List AttT}{es:List EdgT}{fl:List Int}{cut:List Bool}{us:List UseT}{i:Nat}(hlt:Dd ((i:Int)<((es.map EdgT.row).length:Int))=false):(CW Tryz.prog Γ0 [] false (sub Tryz.f20 0) (raS p l es fl cut us i) (.exit 0) (raE p cut us)):=by
 exact CW.cast (CW.symX (s':={t:=mkT 94 0 [(2,.ref (.ptr 0 0)),(4,.ref (.ptr 1 0)),(11,.ref (.ptr 2 0))],h:=[.var [strD p.nm,int p.number,int p.uses,int p.earn,int p.num,int p.den,rowsD' (List.map ReqT.row p.reqs)],.var [nq,int 0,nq],.var [.ref (.vec 3 0),int 0,rowsD' (rowsB cut)],.vec (vecU us) 0 3],m:=[]}) (e:=Exit.exit 0) pok [.st (.mask [2,4,11])] [.b false] (by kernel_rfl) (.c hlt .n)) (by rfl) (by rfl)
def raStep(m:Int)(x:EdgT)(f:Int)(us:List UseT):List UseT:=match Dd (x.frm≥1) with
 | true=>match Dd (x.frm≤m) with
  | true=>match Dd (f>0) with
   | true=>us++[⟨IntKind.i64.wrap (x.frm - 1),IntKind.i64.wrap (IntKind.i64.wrap (x.to - 1) - m),f⟩]
   | false=>us
  | false=>us
 | false=>us
def raF(fl:List Int)(m:Int)(s:List UseT×Nat)(x:EdgT):List UseT×Nat:=(raStep m x (fl.getD s.2 0) s.1,s.2+1)
def raU(es:List EdgT)(fl:List Int)(m:Int):List UseT:=(es.foldl (raF fl m) ([],0)).1
theorem raStep_len{m:Int}{x:EdgT}{f:Int}{us:List UseT}:(raStep m x f us).length≤us.length+1:=by
 unfold raStep
 cases Dd (x.frm≥1) with
 | false=>simp
 | true =>
  cases Dd (x.frm≤m) with
  | false=>simp
  | true=>cases Dd (f>0)<;>simp
theorem ra_loop{p:ProgT}{l:List AttT}{es:List EdgT}{fl:List Int}{cut:List Bool}(hm:es.length≤1000)(hl:fl.length=es.length):
  CW Tryz.prog Γ0 [] false (.loop (sub Tryz.f20 0)) (raS p l es fl cut [] 0) (.exit 0) (raE p cut (raU es fl ((l.map AttT.row).length:Int))):=by
 have:=CW.each (P:=Tryz.prog) (Γ:=Γ0) (h0:=[]) (rd:=false) (c:=sub Tryz.f20 0) (σ:=List UseT×Nat) (ρ:=Empty) es (fun x s=>.inl (raF fl ((l.map AttT.row).length:Int) s x))
  (fun i s=>raS p l es fl cut s.1 (i:Int)) (.exit 0) (fun s=>raE p cut s.1) (fun r=>r.elim) (fun i s=>s.2=i∧s.1.length≤i) (by simp) (fun r=>r.elim) ?_ ?_ ([],0) ⟨rfl,by simp⟩
 ·rw[forL_fold] at this
  exact this
 ·rintro i x ⟨us,k⟩ hx ⟨hk,hu⟩
  simp only at hk hu
  subst hk
  have hi:=(List.getElem?_eq_some_iff.1 hx).1
  have hr:=rowAt (row:=EdgT.row) (sz:=3) hx rfl
  have hf:=rowAt (row:=fun n:Int=>[vi n]) (sz:=1) (fsE (fs:=fl) (show k<fl.length by omega)) rfl
  have hlt:=lt_len EdgT.row hi
  have hw:=wrap_succ hi (by omega)
  refine⟨fun s' h=>?_,?_⟩
  ·cases h
   exact⟨rfl,Nat.le_trans raStep_len (Nat.succ_le_succ hu)⟩
  ·show CW _ _ _ _ _ _ _ (raS p l es fl cut (raStep ((l.map AttT.row).length:Int) x (fl.getD k 0) us) ((k+1:Nat):Int))
   unfold raStep
   cases h1:Dd (x.frm≥1) with
   | false=>exact ra_0 hr hlt hw h1
   | true =>
    cases h2:Dd (x.frm≤((l.map AttT.row).length:Int)) with
    | false=>exact ra_1 hr hlt hw h1 h2
    | true =>
     cases h3:Dd (fl.getD k 0>0) with
     | false=>exact ra_2 hr hlt hw h1 h2 hf h3
     | true=>exact ra_3 hr hlt hw h1 h2 hf h3 (show us.length≤1000000 by omega)
 ·rintro s _
  exact ra_last (ge_len EdgT.row es)
noncomputable abbrev raud_bad_x0(p:ProgT):List Blk:=[.var [strD p.nm,int p.number,int p.uses,int p.earn,int p.num,int p.den,rowsD' (List.map ReqT.row p.reqs)],.var [nq,int 0,nq]]
theorem raud_bad{p:ProgT}{l:List AttT}{es:List EdgT}{n e:Int}(he:(e != 0)=true)(hnet:∀h,Ev Tryz.prog Γ0 17 [.agg p.l,rowsD' (l.map AttT.row)] h (.tup [int n,rowsD' (es.map EdgT.row),int e]) h)(h:List Blk):(Ev Tryz.prog Γ0 20 [.agg p.l,rowsD' (l.map AttT.row)] h (.tup [.agg [nq,int 0,nq],int e]) h):=by
 exact Ev.castH (Ev.sym0 (d:=D.tup [D.agg [nq,int 0,nq],int e]) pok [.val (D.tup [int n,rowsD' (List.map EdgT.row es),int e]),.b true] (by kernel_rfl) (.c (@hnet ((raud_bad_x0 p))) (.c he .n)) rfl rfl h) (by rfl) (by rfl)
noncomputable abbrev raud_a_x0(p:ProgT)(cut:List Bool)(us:List UseT):List Blk:=[.var [strD p.nm,int p.number,int p.uses,int p.earn,int p.num,int p.den,rowsD' (List.map ReqT.row p.reqs)],.var [nq,int 0,nq],.var [rowsD' (List.map UseT.row us),int 0,rowsD' (rowsB cut)],.gone]
noncomputable abbrev raud_a_x1(p:ProgT):List Blk:=[.var [strD p.nm,int p.number,int p.uses,int p.earn,int p.num,int p.den,rowsD' (List.map ReqT.row p.reqs)],.var [nq,int 0,nq]]
theorem raud_a{p:ProgT}{l:List AttT}{es:List EdgT}{n:Int}{fl:List Int}{cut:List Bool}{us:List UseT}(hn:p.reqs.length≤1000)(hu:us.length≤1000)
  (hnet:∀h,Ev Tryz.prog Γ0 17 [.agg p.l,rowsD' (l.map AttT.row)] h (.tup [int n,rowsD' (es.map EdgT.row),int 0]) h)
  (hmax:∀h,Ev Tryz.prog Γ0 43 [int n,rowsD' (es.map EdgT.row),int 0,int (IntKind.i64.wrap (n - 1))] h (.tup [rowsD' (inR1 fl),rowsD' (rowsB cut),int 0]) h)
  (hcw:CW Tryz.prog Γ0 [] false (.loop (sub Tryz.f20 0)) {t:=mkT 94 0 [(1,rowsD' (l.map AttT.row)),(2,.ref (.ptr 0 0)),(4,.ref (.ptr 1 0)),(7,rowsD' (es.map EdgT.row)),(9,rowsD' (inR1 fl)),(11,.ref (.ptr 2 0)),(12,int 0)],h:=[.var p.l,.var [nq,int 0,nq],.var [.ref (.vec 3 0),int 0,rowsD' (rowsB cut)],.vec [] 0 3],m:=[]} (.exit 0) (raE p cut us)) (h:List Blk):(Ev Tryz.prog Γ0 20 [.agg p.l,rowsD' (l.map AttT.row)] h (.tup [.agg [rowsD' (us.map UseT.row),int (IntKind.i64.wrap (totR p - asgR us)),rowsD' (rowsB cut)],int 0]) h):=by
 have hl0:=(@hcw)
 exact Ev.castH (Ev.sym0 (d:=D.tup [D.agg [rowsD' (List.map UseT.row us),int (IntKind.wrap IntKind.i64 (totR p - asgR us)),rowsD' (rowsB cut)],int 0]) pok [.val (D.tup [int n,rowsD' (List.map EdgT.row es),int 0]),.b false,.val (D.tup [rowsD' (inR1 fl),rowsD' (rowsB cut),int 0]),.b false,.nx 2,.st (.nilC 2 0 3),.sum [1,2,4,7,9,11,12] (Exit.exit 0) {t:=mkT 94 0 [(2,.ref (.ptr 0 0)),(4,.ref (.ptr 1 0)),(11,.ref (.ptr 2 0))],h:=[.var [strD p.nm,int p.number,int p.uses,int p.earn,int p.num,int p.den,rowsD' (List.map ReqT.row p.reqs)],.var [nq,int 0,nq],.var [.ref (.vec 3 0),int 0,rowsD' (rowsB cut)],.vec (vecU us) 0 3],m:=[]},.st (.frz 3 (List.map UseT.row us)),.val (int (totR p)),.val (int (asgR us))] (by kernel_rfl) (.c (@hnet ((raud_a_x1 p))) (.c (show(0 != 0)=false from rfl) (.c (@hmax ((raud_a_x1 p))) (.c (show(0 != 0)=false from rfl) (.c hl0 (.c (show vecU us=List.map (fun x=>List.map D.p x) (List.map UseT.row us) from(by first|assumption|rfl|exact vecU_frz _|exact vecU_map _ _)) (.c (@tot_ev (p) (hn) ((raud_a_x0 p cut us))) (.c (@asg_ev (us) (hu) ((raud_a_x0 p cut us))) (.e (D.agg [strD p.nm,int p.number,int p.uses,int p.earn,int p.num,int p.den,rowsD' (List.map ReqT.row p.reqs)]) (.e (.ref (.ptr 2 0)) (.e (.ref (.ptr 2 0)) (.e (rowsD' (List.map UseT.row us)) (.e (rowsD' (List.map UseT.row us)) (.e (.ref (.ptr 2 1)) .n)))))))))))))) rfl rfl h) (by rfl) (by rfl)
abbrev scS(a b:List Bool)(i:Int):AS:={t:=mkT 26 0 [(0,rowsD' (rowsB a)),(1,rowsD' (rowsB b)),(5,int i)],h:=[],m:=[]}
theorem sc_body{a b:List Bool}{i:Nat}{x:Bool}(hx:RowAt (i:Int) (rowsB a) [.v (.bool x)] 1)(hy:RowAt (i:Int) (rowsB b) [.v (.bool x)] 1)(hlt:Dd ((i:Int)<((rowsB a).length:Int))=true)(hw:IntKind.i64.wrap ((i:Int)+1)=((i+1:Nat):Int))(hb:(!(x==x))=false):(CW Tryz.prog Γ0 [] false (sub Tryz.f21 0) (scS a b i) .normal (scS a b ((i+1:Nat):Int))):=by
 refine CW.cast (CW.symX (s':={t:=mkT 26 0 [(0,rowsD' (rowsB a)),(1,rowsD' (rowsB b)),(5,int (IntKind.wrap IntKind.i64 ((↑i:Int)+1)))],h:=[],m:=[]}) (e:=Exit.normal) pok [.st (.mask [0,1,5])] [.b true,.row [Dp.v (Value.bool x)],.row [Dp.v (Value.bool x)],.b false] (by kernel_rfl) (.c hlt (.c hx (.c hy (.c hb .n))))) ?_ ?_<;>(first|rfl|(rw[hw]<;>rfl))
theorem sc_last{a b:List Bool}{i:Nat}(hlt:Dd ((i:Int)<((rowsB a).length:Int))=false):(CW Tryz.prog Γ0 [] false (sub Tryz.f21 0) (scS a b i) (.exit 0) {t:=mkT 26 0 [],h:=[],m:=[]}):=by
 exact CW.cast (CW.symX (s':={t:=mkT 26 0 [],h:=[],m:=[]}) (e:=Exit.exit 0) pok [.st (.mask [])] [.b false] (by kernel_rfl) (.c hlt .n)) (by rfl) (by rfl)
theorem sc_loop{a:List Bool}(hl:a.length≤1000):CW Tryz.prog Γ0 [] false (.loop (sub Tryz.f21 0)) (scS a a 0) (.exit 0) {t:=mkT 26 0 [],h:=[],m:=[]}:=by
 have:=CW.each (P:=Tryz.prog) (Γ:=Γ0) (h0:=[]) (rd:=false) (c:=sub Tryz.f21 0) (σ:=Unit) (ρ:=Empty) a (fun _ s=>.inl s)
  (fun i _=>scS a a (i:Int)) (.exit 0) (fun _=>{t:=mkT 26 0 [],h:=[],m:=[]}) (fun r=>r.elim) (fun _ _=>True) (by simp) (fun r=>r.elim) ?_ ?_ () trivial
 ·rw[forL_fold (g:=fun s _=>s)] at this
  exact this
 ·intro i x s hx _
  have hi:=(List.getElem?_eq_some_iff.1 hx).1
  have hr:=rowAt (row:=fun b:Bool=>[Dp.v (.bool b)]) (sz:=1) hx rfl
  exact⟨fun _ _=>trivial,sc_body hr hr (lt_len (fun b:Bool=>[Dp.v (.bool b)]) hi) (wrap_succ hi (by omega)) (by simp)⟩
 ·intro s _
  exact sc_last (ge_len (fun b:Bool=>[Dp.v (.bool b)]) a)
theorem sc_ev{a:List Bool}(hl:a.length≤1000)(hcw:CW Tryz.prog Γ0 [] false (.loop (sub Tryz.f21 0)) (scS a a 0) (.exit 0) {t:=mkT 26 0 [],h:=[],m:=[]})(hb:(((rowsB a).length:Int) != ((rowsB a).length:Int))=false)(h:List Blk):(Ev Tryz.prog Γ0 21 [rowsD' (rowsB a),rowsD' (rowsB a)] h (bool true) h):=by
 have hl0:=(@hcw)
 exact Ev.castH (Ev.sym0 (d:=bool true) pok [.b false,.sum [0,1,5] (Exit.exit 0) {t:=mkT 26 0 [],h:=[],m:=[]}] (by kernel_rfl) (.c hb (.c hl0 .n)) rfl rfl h) (by rfl) (by rfl)
end Go.Vi
