/- DegreeAuditSpec: part of the proof: contracts of the functions that the law reaches, and the law. No conditions beyond the given statement's own. -/
import Derived.Test.YthokmgafnhmlbaaGreatDoorW7
import Derived.Test.YthokmgafnhmlbaaGreatDoorCards
import Derived.Test.YthokmgafnhmlbaaGreatDoorTie
import Derived.WalkKit
import Derived.ProofKit
import Derived.OpenShut
import Derived.Deep.DeepHandedRow
import Derived.Lib.LaidTab
open Decidable renaming decide → Dd
open Go Go.Proofs
namespace Go.Vi
set_option maxRecDepth 100000
set_option maxHeartbeats 4000000
theorem raF_skip{fl:List Int}{m:Int}:∀(l:List EdgT) (s:List UseT×Nat),(∀x∈l,x.frm<1∨m<x.frm)→l.foldl (raF fl m) s=(s.1,s.2+l.length)
 | [],s,_=>rfl
 | x::l,s,h=>by
  rw[List.foldl_cons]
  have e:raF fl m s x=(s.1,s.2+1):=by
   unfold raF raStep
   rcases h x (by simp) with h1|h1
   ·have:Dd (x.frm≥1)=false:=by simp only[decide_eq_false_iff_not];omega
    rw[this]
   ·have:Dd (x.frm≤m)=false:=by simp only[decide_eq_false_iff_not];omega
    rw[this]
    cases Dd (x.frm≥1)<;>rfl
  rw[e,raF_skip l _ (fun y hy=>h y (by simp[hy]))]
  simp only[List.length_cons];congr 1;omega
theorem raF_prs{fl:List Int}{m:Int}(h0:0≤m)(hm:m≤1000):∀(ts:List (Int×Int×Int)) (us:List UseT) (c:Nat),(∀t∈ts,0≤t.1∧t.1<m∧0≤t.2.1∧t.2.1≤1000)→(ts.map (prE (1+m))).foldl (raF fl m) (us,c)=(us++useL fl ts c,c+ts.length)
 | [],us,c,_=>by simp[useL]
 | t::ts,us,c,h=>by
  obtain⟨a,b,d,e⟩:=h t (by simp)
  rw[List.map_cons,List.foldl_cons]
  have e1:IntKind.i64.wrap (1+t.1)=1+t.1:=wrap_i64 (by omega) (by omega)
  have e2:IntKind.i64.wrap (1+m+t.2.1)=1+m+t.2.1:=wrap_i64 (by omega) (by omega)
  have e3:IntKind.i64.wrap (1+t.1 - 1)=t.1:=by rw[wrap_i64 (by omega) (by omega)];omega
  have e4:IntKind.i64.wrap (IntKind.i64.wrap (1+m+t.2.1 - 1) - m)=t.2.1:=by
   rw[wrap_i64 (n:=1+m+t.2.1 - 1) (by omega) (by omega),wrap_i64 (by omega) (by omega)];omega
  have g1:Dd (1+t.1≥1)=true:=by simp only[decide_eq_true_eq];omega
  have g2:Dd (1+t.1≤m)=true:=by simp only[decide_eq_true_eq];omega
  have hs:raF fl m (us,c) (prE (1+m) t)=(us++useL fl [t] c,c+1):=by
   unfold raF raStep prE useL
   simp only[e1,e2,e3,e4,g1,g2]
   cases Dd (fl.getD c 0>0)<;>simp[useL]
  rw[hs,raF_prs h0 hm ts _ (c+1) (fun x hx=>h x (by simp[hx]))]
  have hu:useL fl (t::ts) c=useL fl [t] c++useL fl ts (c+1):=by
   simp only[useL]
   cases Dd (fl.getD c 0>0)<;>rfl
  rw[hu,List.append_assoc,List.length_cons]
  congr 1;omega
theorem n1L_frm(p:ProgT):∀(l:List AttT) (i:Int),∀x∈n1L p l i,x.frm<1
 | [],_,_,h=>by simp[n1L] at h
 | a::l,i,x,h=>by
  simp only[n1L,List.mem_cons] at h
  rcases h with rfl|h
  ·simp
  ·exact n1L_frm p l (i+1) x h
theorem n4L_frm{mid sink:Int}(h0:0≤mid)(hm:mid≤1000):∀(qs:List ReqT) (k:Nat),k+qs.length≤1000→∀x∈n4L mid sink qs k,mid≤x.frm
 | [],_,_,_,h=>by simp[n4L] at h
 | q::qs,k,hk,x,h=>by
  simp only[List.length_cons] at hk
  simp only[n4L,List.mem_cons] at h
  rcases h with rfl|h
  ·simp only
   rw[wrap_i64 (by omega) (by omega)];omega
  ·exact n4L_frm h0 hm qs (k+1) (by omega) x h
theorem raU_eq{p:ProgT}{l:List AttT}{fl:List Int}(h:NetOk p l):raU (net3 p l) fl ((l.map AttT.row).length:Int)=useL fl (prs p l 0) l.length:=by
 have hls:=h.ls
 have hrs:=h.rs
 have hm:midR l=1+(((l.map AttT.row).length:Nat):Int):=by rw[List.length_map];exact mid_eq h
 unfold raU
 rw[net3_parts,List.foldl_append,List.foldl_append,raF_skip (n1L p l 0) _ (fun x hx=>.inl (n1L_frm p l 0 x hx)),n1L_len]
 rw[hm,raF_prs (by omega) (by rw[List.length_map];omega) (prs p l 0) _ _ (fun t ht=>by have:=prs_in ht;rw[List.length_map];omega)]
 rw[raF_skip _ _ (fun x hx=>.inr ?_)]
 ·simp
 ·have:=n4L_frm (sink:=sinkR p l) (by omega) (by rw[List.length_map];omega) p.reqs 0 (by omega) x hx
  omega
noncomputable abbrev ds_out_x0(p:ProgT):List Blk:=[.var [strD p.nm,int p.number,int p.uses,int p.earn,int p.num,int p.den,rowsD' (List.map ReqT.row p.reqs)]]
theorem ds_out{p:ProgT}{l:List AttT}(hsane:∀h,Ev Tryz.prog Γ0 9 [] h (bool true) h)(hfew:∀h,Ev Tryz.prog Γ0 10 [.agg p.l,rowsD' (l.map AttT.row)] h (bool false) h)(h:List Blk):(Ev Tryz.prog Γ0 5 [.agg p.l,rowsD' (l.map AttT.row)] h (bool true) h):=by
 exact Ev.castH (Ev.sym0 (d:=bool true) pok [.val (bool true),.b false,.val (bool false),.b true] (by kernel_rfl) (.c (@hsane ((ds_out_x0 p))) (.c (show(!true)=false from rfl) (.c (@hfew ((ds_out_x0 p))) (.c (show(!false)=true from rfl) .n)))) rfl rfl h) (by rfl) (by rfl)
abbrev scN:AS:={t:=mkT 26 0 [(0,nq),(1,nq),(5,int 0)],h:=[],m:=[]}
theorem sn_last(c:Bool):(CW Tryz.prog Γ0 [] false (sub Tryz.f21 0) scN (.exit 0) {t:=mkT 26 0 [],h:=[],m:=[]}):=by
 exact CW.cast (CW.symX (s':={t:=mkT 26 0 [],h:=[],m:=[]}) (e:=Exit.exit 0) pok [.st (.mask [])] [.b false] (by kernel_rfl) (.c (show Dd (0<(↑0:Int))=false from rfl) .n)) (by rfl) (by rfl)
theorem sn_loop:CW Tryz.prog Γ0 [] false (.loop (sub Tryz.f21 0)) {t:=mkT 26 0 [(0,nq),(1,nq),(5,int 0)],h:=[],m:=[]} (.exit 0) {t:=mkT 26 0 [],h:=[],m:=[]} :=
 CW.loop (ι:=Unit) (fun _=>scN) (fun _=>(.exit 0,{t:=mkT 26 0 [],h:=[],m:=[]})) (fun _=>0) (fun _=>.inr ⟨by simp,sn_last true⟩) ()
theorem scn_a(hcw:CW Tryz.prog Γ0 [] false (.loop (sub Tryz.f21 0)) {t:=mkT 26 0 [(0,nq),(1,nq),(5,int 0)],h:=[],m:=[]} (.exit 0) {t:=mkT 26 0 [],h:=[],m:=[]})(h:List Blk):(Ev Tryz.prog Γ0 21 [nq,nq] h (bool true) h):=by
 have hl0:=(@hcw)
 exact Ev.castH (Ev.sym0 (d:=bool true) pok [.b false,.sum [0,1,5] (Exit.exit 0) {t:=mkT 26 0 [],h:=[],m:=[]}] (by kernel_rfl) (.c (show((↑0:Int) != (↑0:Int))=false from rfl) (.c hl0 .n)) rfl rfl h) (by rfl) (by rfl)
noncomputable abbrev ds_bad_x0(p:ProgT):List Blk:=[.var [strD p.nm,int p.number,int p.uses,int p.earn,int p.num,int p.den,rowsD' (List.map ReqT.row p.reqs)],.var [nq,int 0,nq],.var [nq,int 0,nq]]
noncomputable abbrev ds_bad_x1(p:ProgT):List Blk:=[.var [strD p.nm,int p.number,int p.uses,int p.earn,int p.num,int p.den,rowsD' (List.map ReqT.row p.reqs)],.var [nq,int 0,nq]]
noncomputable abbrev ds_bad_x2(p:ProgT)(l:List AttT):List D:=[D.agg [strD p.nm,int p.number,int p.uses,int p.earn,int p.num,int p.den,rowsD' (List.map ReqT.row p.reqs)],rowsD' (List.map AttT.row l)]
noncomputable abbrev ds_bad_x3(p:ProgT):List Blk:=[.var [strD p.nm,int p.number,int p.uses,int p.earn,int p.num,int p.den,rowsD' (List.map ReqT.row p.reqs)]]
theorem ds_bad{p:ProgT}{l:List AttT}{e:Int}(hsane:∀h,Ev Tryz.prog Γ0 9 [] h (bool true) h)(hfew:∀h,Ev Tryz.prog Γ0 10 [.agg p.l,rowsD' (l.map AttT.row)] h (bool true) h)
  (haud:∀h,Ev Tryz.prog Γ0 19 [.agg p.l,rowsD' (l.map AttT.row)] h (.tup [.agg [nq,int 0,nq],int e]) h) (href:∀h,Ev Tryz.prog Γ0 20 [.agg p.l,rowsD' (l.map AttT.row)] h (.tup [.agg [nq,int 0,nq],int e]) h)
  (hsc:∀h,Ev Tryz.prog Γ0 21 [nq,nq] h (bool true) h) (he:(e==e)=true) (he0:(e==0)=false) (h:List Blk):(Ev Tryz.prog Γ0 5 [.agg p.l,rowsD' (l.map AttT.row)] h (bool true) h):=by
 exact Ev.castH (Ev.sym0 (d:=bool ((↑0:Int)==0)) pok [.val (bool true),.b false,.val (bool true),.b false,.val (D.tup [D.agg [nq,int 0,nq],int e]),.val (D.tup [D.agg [nq,int 0,nq],int e]),.g true,.g true,.g true,.g true,.g true,.val (bool true),.ov 38 (bool true),.g true,.g true,.g true,.ov 43 (bool (e==e)),.g true,.g true,.g true,.g true,.g true,.g true,.g true,.g true,.ov 52 (bool ((↑0:Int)==0)),.ov 53 (bool ((↑0:Int)==0))] (by kernel_rfl) (.c (@hsane ((ds_bad_x3 p))) (.c (show(!true)=false from rfl) (.c (@hfew ((ds_bad_x3 p))) (.c (show(!true)=false from rfl) (.c (@haud ((ds_bad_x3 p))) (.c (@href ((ds_bad_x1 p))) (.c (show((0==0)==true)=true from rfl) (.c (show((0==0)==true)=true from rfl) (.c (show((0==0)==true)=true from rfl) (.c (show((0==0)==true)=true from rfl) (.c (show((0==0)==true)=true from rfl) (.c (@hsc ((ds_bad_x0 p))) (.c (show PickIs (bool (0==0)) (bool true) (bool false) (bool true) from(by first|assumption|rfl|decide|omega|simp_all)) (.c (show(true==true)=true from rfl) (.c (show(true==true)=true from rfl) (.c (show(true==true)=true from rfl) (.c (show PickIs (bool true) (bool (e==e)) (bool false) (bool (e==e)) from(pickIs_t rfl rfl)) (.c (show((e==e)==true)=true from(by rw[he]<;>rfl)) (.c (show((e==e)==true)=true from(by rw[he]<;>rfl)) (.c (show((e==e)==true)=true from(by rw[he]<;>rfl)) (.c (show((e==0)==false)=true from(by rw[he0]<;>rfl)) (.c (show((e==0)==false)=true from(by rw[he0]<;>rfl)) (.c (show((e==0)==false)=true from(by rw[he0]<;>rfl)) (.c (show((e==0)==false)=true from(by rw[he0]<;>rfl)) (.c (show((e==e)==true)=true from(by rw[he]<;>rfl)) (.c (show PickIs (bool (e==0)) (bool true) (bool ((↑0:Int)==0)) (bool ((↑0:Int)==0)) from(pickIs_f he0 rfl)) (.c (show PickIs (bool (e==e)) (bool ((↑0:Int)==0)) (bool false) (bool ((↑0:Int)==0)) from(pickIs_t he rfl)) .n))))))))))))))))))))))))))) rfl rfl h) (by rfl) (by rfl)
noncomputable abbrev ds_ok_x0(p:ProgT)(us:List UseT)(us2:List UseT)(ms:Int)(ms2:Int)(cut:List Bool):List Blk:=[.var [strD p.nm,int p.number,int p.uses,int p.earn,int p.num,int p.den,rowsD' (List.map ReqT.row p.reqs)],.var [rowsD' (List.map UseT.row us),int ms,rowsD' (rowsB cut)],.var [rowsD' (List.map UseT.row us2),int ms2,rowsD' (rowsB cut)]]
noncomputable abbrev ds_ok_x1(p:ProgT)(us:List UseT)(ms:Int)(cut:List Bool):List Blk:=[.var [strD p.nm,int p.number,int p.uses,int p.earn,int p.num,int p.den,rowsD' (List.map ReqT.row p.reqs)],.var [rowsD' (List.map UseT.row us),int ms,rowsD' (rowsB cut)]]
noncomputable abbrev ds_ok_x2(p:ProgT)(l:List AttT):List D:=[D.agg [strD p.nm,int p.number,int p.uses,int p.earn,int p.num,int p.den,rowsD' (List.map ReqT.row p.reqs)],rowsD' (List.map AttT.row l)]
noncomputable abbrev ds_ok_x3(p:ProgT):List Blk:=[.var [strD p.nm,int p.number,int p.uses,int p.earn,int p.num,int p.den,rowsD' (List.map ReqT.row p.reqs)]]
theorem ds_ok{p:ProgT}{l:List AttT}{us us2:List UseT}{ms ms2:Int}{cut:List Bool}(hsane:∀h,Ev Tryz.prog Γ0 9 [] h (bool true) h)(hfew:∀h,Ev Tryz.prog Γ0 10 [.agg p.l,rowsD' (l.map AttT.row)] h (bool true) h)
  (haud:∀h,Ev Tryz.prog Γ0 19 [.agg p.l,rowsD' (l.map AttT.row)] h (.tup [.agg [rowsD' (us.map UseT.row),int ms,rowsD' (rowsB cut)],int 0]) h)
  (href:∀h,Ev Tryz.prog Γ0 20 [.agg p.l,rowsD' (l.map AttT.row)] h (.tup [.agg [rowsD' (us2.map UseT.row),int ms2,rowsD' (rowsB cut)],int 0]) h)
  (hsc:∀h,Ev Tryz.prog Γ0 21 [rowsD' (rowsB cut),rowsD' (rowsB cut)] h (bool true) h) (hm:(ms==ms2)=true) (h:List Blk):(Ev Tryz.prog Γ0 5 [.agg p.l,rowsD' (l.map AttT.row)] h (bool true) h):=by
 refine Ev.castH (Ev.sym0 (d:=bool true) pok [.val (bool true),.b false,.val (bool true),.b false,.val (D.tup [D.agg [rowsD' (List.map UseT.row us),int ms,rowsD' (rowsB cut)],int 0]),.val (D.tup [D.agg [rowsD' (List.map UseT.row us2),int ms2,rowsD' (rowsB cut)],int 0]),.g true,.g true,.g true,.g true,.g true,.val (bool true),.ov 38 (bool true),.g true,.g true,.g true,.ov 43 (bool (0==0)),.g true,.g true,.g true,.g false,.g false,.g false,.g false,.g true,.ov 52 (bool true),.ov 53 (bool true)] (by kernel_rfl) (.c (@hsane ((ds_ok_x3 p))) (.c (show(!true)=false from rfl) (.c (@hfew ((ds_ok_x3 p))) (.c (show(!true)=false from rfl) (.c (@haud ((ds_ok_x3 p))) (.c (@href ((ds_ok_x1 p us ms cut))) (.c (show((ms==ms2)==true)=true from(by rw[hm]<;>rfl)) (.c (show((ms==ms2)==true)=true from(by rw[hm]<;>rfl)) (.c (show((ms==ms2)==true)=true from(by rw[hm]<;>rfl)) (.c (show((ms==ms2)==true)=true from(by rw[hm]<;>rfl)) (.c (show((ms==ms2)==true)=true from(by rw[hm]<;>rfl)) (.c (@hsc ((ds_ok_x0 p us us2 ms ms2 cut))) (.c (show PickIs (bool (ms==ms2)) (bool true) (bool false) (bool true) from(pickIs_t hm rfl)) (.c (show(true==true)=true from rfl) (.c (show(true==true)=true from rfl) (.c (show(true==true)=true from rfl) (.c (show PickIs (bool true) (bool (0==0)) (bool false) (bool (0==0)) from(pickIs_t rfl rfl)) (.c (show((0==0)==true)=true from rfl) (.c (show((0==0)==true)=true from rfl) (.c (show((0==0)==true)=true from rfl) (.c (show((0==0)==false)=false from rfl) (.c (show((0==0)==false)=false from rfl) (.c (show((0==0)==false)=false from rfl) (.c (show((0==0)==false)=false from rfl) (.c (show((0==0)==true)=true from rfl) (.c (show PickIs (bool (0==0)) (bool true) (D.p (Dp.v (Value.tuple {toList:=[]}))) (bool true) from ?_) (.c (show PickIs (bool (0==0)) (bool true) (bool false) (bool true) from ?_) .n))))))))))))))))))))))))))) rfl rfl h) (by rfl) (by rfl)<;>(first|assumption|rfl|decide|omega|simp_all)
theorem chk0{n a b:Int}{l:List EdgT}(h:chkE n l a b=0):chkR n l=0:=by
 unfold chkE at h
 cases hc:chkR n l != 0 with
 | true =>
  rw[hc] at h
  exact h
 | false=>simpa using hc
theorem useL_len(fl:List Int):∀(ts:List (Int×Int×Int)) (c:Nat),(useL fl ts c).length≤ts.length
 | [],c=>Nat.le_refl _
 | t::ts,c=>by
  have:=useL_len fl ts (c+1)
  simp only[useL]
  split<;>simp only[List.length_cons]<;>omega
theorem raudit_ok{p:ProgT}(hp:p.ok){l:List AttT}(h:NetOk p l){j:Nat}{g:List Int×List Int}(hR:MaxR (adjR (nN p l) (net3 p l)) (net3 p l) (nN p l) 0 ((nN p l:Int) - 1) j (List.replicate (net3 p l).length 0) g)(hg:g.1.length=(net3 p l).length)(h0:List Blk):
  Ev Tryz.prog Γ0 20 [.agg p.l,rowsD' (l.map AttT.row)] h0 (.tup [.agg [rowsD' ((auR p l g.1).us.map UseT.row),int (IntKind.i64.wrap (totR p - asgR (auR p l g.1).us)),rowsD' (rowsB (cutR g.2))],int 0]) h0:=by
 have h1:=h.ls
 have h2:=h.rs
 have h3:=h.size
 have hN:nN p l=2+l.length+p.reqs.length:=rfl
 have hw:IntKind.i64.wrap ((nN p l:Int) - 1)=(nN p l:Int) - 1:=wrap_i64 (by omega) (by omega)
 have hu:(auR p l g.1).us=raU (net3 p l) g.1 ((l.map AttT.row).length:Int):=by rw[auR_us h,raU_eq h]
 have hlen:(auR p l g.1).us.length≤1000:=by
  have h54:=pairsN_small h
  have:=useL_len g.1 (prs p l 0) l.length
  rw[prs_len] at this
  rw[auR_us h];omega
 refine raud_a (n:=(nN p l:Int)) (es:=net3 p l) (fl:=g.1) (cut:=cutR g.2) (by omega) hlen (fun h=>?_) (fun h=>?_) ?_ h0
 ·have:=rnet_ev hp (l:=l) (by omega) (by omega) h
  rw[NetOk.net ‹NetOk p l›] at this
  exact this
 ·rw[hw]
  refine rmax_ev (n:=nN p l) (by omega) (by omega) (fun x hx=>(net_good ‹NetOk p l› x hx).inn) (fun x hx=>by have:=(net_good ‹NetOk p l› x hx).ft;omega) (fun x hx=>⟨(net_good ‹NetOk p l› x hx).m0,(net_good ‹NetOk p l› x hx).m1⟩) ⟨by omega,by simp;omega⟩ ⟨by omega,by omega⟩ (fun h=>?_) hR h
  have:=rends_ev (n:=(nN p l:Int)) (a:=0) (b:=(nN p l:Int) - 1) (l:=net3 p l) (by unfold Short;omega) h
  rw[chk0 (NetOk.chk ‹NetOk p l›)] at this
  have e:((0:Int)==0&&Dd ((0:Int)≥0)&&Dd ((0:Int)<(nN p l:Int))&&Dd ((nN p l:Int) - 1≥0)&&Dd ((nN p l:Int) - 1<(nN p l:Int))&&(0:Int) != (nN p l:Int) - 1)=true:=by
   simp only[Bool.and_eq_true,decide_eq_true_eq,bne_iff_ne,beq_iff_eq]
   exact⟨⟨⟨⟨⟨trivial,by omega⟩,by omega⟩,by omega⟩,by omega⟩,by omega⟩
  rw[e] at this
  exact this
 ·rw[hu]
  exact ra_loop (by omega) hg
theorem degreeAuditSpec_ev{p:ProgT}(hp:p.ok){l:List AttT}(h:List Blk):Ev Tryz.prog Γ0 5 [.agg p.l,rowsD' (l.map AttT.row)] h (bool true) h:=by
 have hfew:∀h,Ev Tryz.prog Γ0 10 [.agg p.l,rowsD' (l.map AttT.row)] h (bool (fewB p ((l.map AttT.row).length:Int))) h:=few_ev hp.sr
 cases ho:fewB p ((l.map AttT.row).length:Int) with
 | false=>rw[ho] at hfew;exact ds_out sane19_ev hfew h
 | true =>
  obtain⟨h1,h2⟩:=few_le (p:=p) (l:=l) (by rw[ho];rfl)
  rw[ho] at hfew
  rcases net_err (p:=p) (l:=l) with ⟨_,e1,e2⟩|he
  ·have hN:NetOk p l:=⟨e1,e2,h1,by omega⟩
   obtain⟨j,g,hR,hF,k,f,ρ,hb,hT,hfg,_⟩:=max_all (es:=net3 p l) (n:=nN p l) (frm:=0) (to:=(nN p l:Int) - 1) (by have:=hN.size;omega) (fun x hx=>(net_good hN x hx).inn) (fun x hx=>⟨(net_good hN x hx).m0,(net_good hN x hx).m1⟩) ⟨by omega,by show(0:Int).toNat<2+l.length+p.reqs.length;simp;omega⟩ (by have:nN p l=2+l.length+p.reqs.length:=rfl;omega) (by have:nN p l=2+l.length+p.reqs.length:=rfl;omega)
   obtain⟨m1,m2⟩:=auR_ms hN hF
   have hl:(cutR g.2).length≤1000:=by
    rw[cutR_eq,List.length_map,←hfg,hT.len]
    show 2+l.length+p.reqs.length≤1000
    omega
   exact ds_ok sane19_ev hfew (audit_ok hp hN hR hF.ok.len) (raudit_ok hp hN hR hF.ok.len) (fun h=>sc_ev hl (sc_loop hl) (by simp) h) (by rw[m1];simp) h
  ·refine ds_bad (e:=(netR p l).2.2) sane19_ev hfew (audit_bad he (fun h=>net_ev hp (by omega) (by omega) h)) (raud_bad ?_ (fun h=>rnet_ev hp (by omega) (by omega) h)) (fun h=>scn_a sn_loop h) (by simp) ?_ h
   ·rcases he with e|e|e<;>rw[e]<;>rfl
   ·rcases he with e|e|e<;>rw[e]<;>rfl
open Go.ChangeShapes Go.WideShapes Go.ChangeAt Go.RowKit Go.Proofs.YthokmgafnhmlbaaGreatDoor
set_option maxRecDepth 100000
theorem cells3:Tryz.prog.cellsOf 3=1:=by kernel_rfl
theorem cells4:Tryz.prog.cellsOf 4=1:=by kernel_rfl
theorem cells9:Tryz.prog.cellsOf 9=1:=by kernel_rfl
theorem cells23:Tryz.prog.cellsOf 23=2:=by kernel_rfl
theorem cells24:Tryz.prog.cellsOf 24=1:=by kernel_rfl
theorem cells26:Tryz.prog.cellsOf 26=7:=by kernel_rfl
theorem cells28:Tryz.prog.cellsOf 28=5:=by kernel_rfl
theorem cells34:Tryz.prog.cellsOf 34=1:=by kernel_rfl
theorem cells57:Tryz.prog.cellsOf 57=1:=by kernel_rfl
theorem cells59:Tryz.prog.cellsOf 59=6:=by kernel_rfl
theorem bytes3:Tryz.prog.bytesOf 3=8:=by kernel_rfl
theorem bytes28:Tryz.prog.bytesOf 28=40:=by kernel_rfl
theorem bytes59:Tryz.prog.bytesOf 59=88:=by kernel_rfl
theorem plain26:plainB Tryz.prog [3,4,9,23,24,26,28,34,37,57,59]=true:=by kernel_rfl
theorem shp_int{n:Nat}{ds:List Dp}(h:Shp Tryz.prog n 3 ds):∃x,ds=[vi x]∧I64 x:=by
 cases n with
 | zero=>exact h.elim
 | succ n =>
  simp only[Shp,Tryz.underlying3] at h
  obtain⟨x,rfl,hw⟩:=h
  refine⟨x,rfl,?_⟩
  have:=bounds_i64 hw
  exact this
theorem shp_str{n:Nat}{ds:List Dp}(h:Shp Tryz.prog n 9 ds):∃s,ds=[vs s]:=by
 cases n with
 | zero=>exact h.elim
 | succ n =>
  simp only[Shp,Tryz.underlying9] at h
  obtain⟨s,rfl,_⟩:=h
  exact⟨s,rfl⟩
theorem shp_ratio{n:Nat}{ds:List Dp}(h:Shp Tryz.prog n 23 ds):∃a b,ds=[vi a,vi b]∧I64 a∧I64 b:=by
 cases n with
 | zero=>exact h.elim
 | succ n =>
  simp only[Shp,Tryz.underlying23,List.forall_mem_cons,cells3,cells23] at h
  obtain⟨hl,h1,h2,_⟩:=h
  obtain⟨a,e1,ha⟩:=shp_int h1
  obtain⟨b,e2,hb⟩:=shp_int h2
  match ds,hl with
  | [x,y],_ =>
   simp at e1 e2
   subst e1;subst e2
   exact⟨a,b,rfl,ha,hb⟩
theorem map_of{α:Type}{row:α→List Dp}{ok:α→Prop}:∀{es:List (List Dp)},(∀r∈es,∃a,r=row a∧ok a)→∃l:List α,es=l.map row∧∀a∈l,ok a
 | [],_=>⟨[],rfl,by simp⟩
 | r::es,h=>by
  obtain⟨a,rfl,ha⟩:=h r (List.mem_cons_self ..)
  obtain⟨l,rfl,hl⟩:=map_of (fun r hr=>h r (List.mem_cons_of_mem _ hr))
  exact⟨a::l,rfl,fun b hb=>(List.mem_cons.1 hb).elim (fun e=>e▸ha) (hl b)⟩
theorem short_of{n k:Nat}(h:n*k≤reachBytes)(hk:1≤k):n≤140737488355328:=by
 have:n≤n*k:=Nat.le_mul_of_pos_right n hk
 unfold reachBytes at h
 omega
theorem shp_bool{n:Nat}{ds:List Dp}(h:Shp Tryz.prog n 4 ds):∃b,ds=[.v (.bool b)]:=by
 cases n with
 | zero=>exact h.elim
 | succ n =>
  simp only[Shp,Tryz.underlying4] at h
  obtain⟨b,rfl⟩:=h
  exact⟨b,rfl⟩
theorem shp_strs{n:Nat}{ds:List Dp}(h:Shp Tryz.prog n 57 ds):∃l,ds=[.sl l]:=by
 cases n with
 | zero=>exact h.elim
 | succ n =>
  simp only[Shp,Tryz.underlying57] at h
  obtain⟨es,rfl,_⟩:=h
  exact⟨es,rfl⟩
theorem shp_ints{n:Nat}{ds:List Dp}(h:Shp Tryz.prog n 34 ds):∃l:List Int,ds=[.sl (inR1 l)]∧Short l:=by
 cases n with
 | zero=>exact h.elim
 | succ n =>
  simp only[Shp,Tryz.underlying34,bytes3] at h
  obtain⟨es,rfl,hb,he⟩:=h
  obtain⟨l,rfl,_⟩:=map_of (row:=fun n:Int=>[vi n]) (ok:=fun _=>True) (fun r hr=>by obtain⟨x,e,_⟩:=shp_int (he r hr);exact⟨x,e,trivial⟩)
  exact⟨l,rfl,by have:=short_of hb (by omega);simpa[Short] using this⟩
theorem shp_req{n:Nat}{ds:List Dp}(h:Shp Tryz.prog n 59 ds):∃q:ReqT,ds=q.row∧q.ok:=by
 cases n with
 | zero=>exact h.elim
 | succ n =>
  simp only[Shp,Tryz.underlying59,List.forall_mem_cons,cells3,cells4,cells9,cells34,cells57,cells59] at h
  obtain⟨hl,h1,h2,h3,h4,h5,h6,_⟩:=h
  obtain⟨s,e1⟩:=shp_str h1
  obtain⟨a,e2,_⟩:=shp_int h2
  obtain⟨b,e3,_⟩:=shp_int h3
  obtain⟨c,e4⟩:=shp_bool h4
  obtain⟨d,e5⟩:=shp_strs h5
  obtain⟨f,e6,hf⟩:=shp_ints h6
  match ds,hl with
  | [p1,p2,p3,p4,p5,p6],_ =>
   simp at e1 e2 e3 e4 e5 e6
   subst e1;subst e2;subst e3;subst e4;subst e5;subst e6
   exact⟨⟨s,a,b,c,d,f⟩,rfl,⟨hf⟩⟩
theorem shp_prog{n:Nat}{ds:List Dp}(h:Shp Tryz.prog n 26 ds):∃p:ProgT,ds.map .p=p.l∧p.ok:=by
 cases n with
 | zero=>exact h.elim
 | succ n =>
  rw[Shp,Tryz.underlying26] at h
  simp only[List.forall_mem_cons,cells3,cells9,cells23,cells24,cells26] at h
  obtain⟨hl,h1,h2,h3,h4,h5,h6,_⟩:=h
  obtain⟨s,e1⟩:=shp_str h1
  obtain⟨a,e2,_⟩:=shp_int h2
  obtain⟨b,e3,_⟩:=shp_int h3
  obtain⟨c,e4,_⟩:=shp_int h4
  obtain⟨x,y,e5,hx,hy⟩:=shp_ratio h5
  cases n with
  | zero=>exact h6.elim
  | succ n =>
   simp only[Shp,Tryz.underlying24,bytes59] at h6
   obtain⟨es,e6,hb,he⟩:=h6
   obtain⟨l,rfl,hk⟩:=map_of (row:=ReqT.row) (ok:=ReqT.ok) (fun r hr=>shp_req (he r hr))
   match ds,hl with
   | [p1,p2,p3,p4,p5,p6,p7],_ =>
    simp at e1 e2 e3 e4 e5 e6
    obtain⟨rfl,rfl⟩:=e5
    subst e1;subst e2;subst e3;subst e4;subst e6
    exact⟨⟨s,a,b,c,x,y,l⟩,rfl,⟨by have:=short_of hb (by omega);simpa[Short] using this,hk,hx,hy⟩⟩
theorem shp_att{n:Nat}{ds:List Dp}(h:Shp Tryz.prog n 28 ds):∃a:AttT,ds=a.row∧True:=by
 cases n with
 | zero=>exact h.elim
 | succ n =>
  simp only[Shp,Tryz.underlying28,List.forall_mem_cons,cells3,cells28] at h
  obtain⟨hl,h1,h2,h3,h4,h5,_⟩:=h
  obtain⟨a,e1,_⟩:=shp_int h1
  obtain⟨b,e2,_⟩:=shp_int h2
  obtain⟨c,e3,_⟩:=shp_int h3
  obtain⟨d,e4,_⟩:=shp_int h4
  obtain⟨e,e5,_⟩:=shp_int h5
  match ds,hl with
  | [p,q,r,t,u],_ =>
   simp at e1 e2 e3 e4 e5
   subst e1;subst e2;subst e3;subst e4;subst e5
   exact⟨⟨a,b,c,d,e⟩,rfl,trivial⟩
theorem shp_atts{n:Nat}{ds:List Dp}(h:Shp Tryz.prog n 37 ds):∃l:List AttT,ds=[.sl (l.map AttT.row)]∧Short l:=by
 cases n with
 | zero=>exact h.elim
 | succ n =>
  simp only[Shp,Tryz.underlying37,bytes28] at h
  obtain⟨es,rfl,hb,he⟩:=h
  obtain⟨l,rfl,_⟩:=map_of (row:=AttT.row) (ok:=fun _=>True) (fun r hr=>shp_att (he r hr))
  exact⟨l,rfl,by have:=short_of hb (by omega);simpa[Short] using this⟩
theorem arg_prog{H:Type}{enc:TypeId×Value→H}{W:World}{base:Nat}{v:Value}{d:DataW H}{p:List MemPlace}
  (hok:Value.okWide Tryz.prog W .any base 26 v) (h:DataW.Trod enc Tryz.prog W 0 (fun _=>true) true 26 v d p) (hw:(d.weights Tryz.prog 26).all (· ≤ reachBytes)=true) :
  ∃r:ProgT,r.ok∧Rel W (avs (fun _=>False) (fun _=>none) []) (fun _=>none) [] (.agg r.l) v:=by
 unfold Value.okWide at hok
 rw[Tryz.underlying26] at hok
 obtain⟨cs,rfl,_,_⟩:=hok
 obtain⟨fuel,hf⟩:=h
 obtain⟨ds,h1,h2⟩:=open_plain plain26 av_start fuel 26 _ d p (by decide) hf hw
 obtain⟨r,e,hr⟩:=shp_prog h1
 refine⟨r,hr,?_⟩
 rw[←e]
 simp only[Rel]
 exact⟨cs,rfl,h2.relL⟩
theorem arg_atts{H:Type}{enc:TypeId×Value→H}{W:World}{base:Nat}{v:Value}{d:DataW H}{p:List MemPlace}
  (hok:Value.okWide Tryz.prog W .any base 37 v) (h:DataW.Trod enc Tryz.prog W 0 (fun _=>true) true 37 v d p) (hw:(d.weights Tryz.prog 37).all (· ≤ reachBytes)=true) :
  ∃l:List AttT,Short l∧Rel W (avs (fun _=>False) (fun _=>none) []) (fun _=>none) [] (rowsD' (l.map AttT.row)) v:=by
 obtain⟨fuel,hf⟩:=h
 unfold Value.okWide at hok
 rw[Tryz.underlying37] at hok
 have hc:v.cells.toList=[v]:=by
  cases v<;>first|rfl|skip
  unfold Cell.okWide at hok
  rw[Tryz.underlying37] at hok
  exact hok.elim
 rw[hc] at hf
 obtain⟨ds,h1,h2⟩:=open_plain plain26 av_start fuel 37 _ d p (by decide) hf hw
 obtain⟨l,rfl,hl⟩:=shp_atts h1
 refine⟨l,hl,?_⟩
 simp only[RelPL,and_true] at h2
 simpa[rowsD',Rel] using h2
end Go.Vi
open Go Go.Proofs
namespace Go.Vi
set_option maxHeartbeats 4000000
open Go.ChangeShapes Go.WideShapes Go.ChangeAt Go.RowKit Go.Proofs.YthokmgafnhmlbaaGreatDoor
set_option maxRecDepth 100000
theorem ownK:ownKnob Tryz.prog.godebug=none:=by kernel_rfl
theorem laidOut:laidOutB Tryz.prog=true:=by kernel_rfl
def kd(a b c d:Bool)(f g:Value):List Value:=[.bool a,.bool b,.bool c,.bool d,f,g]
def kf(k:Nat):Value:=.func (.func k) #[] #[]
def kindsCells:List Value :=
 kd false false false false .nilFunc .nilFunc++kd false false false true (kf 212) (kf 213)++kd false false false true (kf 214) (kf 215)++kd false true false true (kf 216) (kf 217) ++
 kd false false false true (kf 218) (kf 219)++kd true true false false (kf 220) (kf 222)++kd true true false false (kf 224) (kf 225)++kd false true false false (kf 226) (kf 227) ++
 kd false true true false (kf 228) (kf 230)++kd true false false false (kf 221) (kf 231)
noncomputable def laidWorld(os:Os):World :=
 {World.holding Tryz.prog os ⟨#[],#[],[]⟩ with heap:=(World.holding Tryz.prog os ⟨#[],#[],[]⟩).heap.modify 0 fun
   | .cells _ t frozen=>.cells kindsCells.toArray t frozen
   | o=>o}
theorem laid_met (os:Os) (args:Array Value):laidMetH Tryz.prog [("sizar/rules.kinds",Rows.laid_sizar_rules_kinds)] ((laidWorld os).forCall (fun _ _=>0) ⟨#[],args,[]⟩).memory :=
 laidMetH_of_parts3 (fuel:=8) (laidMet_nil _ _) (by kernel_rfl) (by kernel_rfl)
end Go.Vi
