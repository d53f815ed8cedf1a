/- RecordSituateSpecUpto: part of the proof: contracts of the functions that the law reaches, and the law. No conditions beyond the given statement's own. -/
import Derived.Test.YtilebidefogaiaaGreatDoorW9
open Decidable renaming decide → Zd
open List renaming map → Hl, length_map → Ir, all → HJ, length → Hn, getElem?_eq_some_iff → Hs, foldl_cons → H7, length_cons → HY, flatMap_cons → Kt, append_assoc → J2, nil_append → Kc, mem_singleton → Lb, map_cons → Il, mem_cons → HR, mem_cons_of_mem → Iu, nodup_cons → KH, mergeSort_perm → Jl, mem_filter → J6, mem_map → HQ
open Go.Vi.CourseT renaming row → Hz
open Go.Vi.SysT renaming row → HC
open Go.Vi.FactT renaming row → Hv
open Go.Vi.AttT renaming row → Hq
open Go.Vi.SeenT renaming row → HG
open Go.Vi.D renaming p → II, agg → H6, tup → HV, mapRL → It
open Go.Proofs.Tryz renaming prog → Hm, f26 → KF
open Bool renaming true_and → Jb, and_eq_true → Hx
open Go.Value renaming oneCell' → IJ
open Go.Vi.Ev renaming castH → H4, sym0 → JE, glob0 → H5
open Go.Exit renaming exit → HT, normal → HA
open Go.Vi.WorldT renaming l → HI
open Go.Vi.Blk renaming Om → HB
open Int renaming tmod → K3, tdiv → Jw, le_refl → Nq, toNat_of_nonneg → NA
open Go.IntKind renaming i64 → Hp, wrap → Ht
open Go.Vi.RuleT renaming fl → Hr
open Go.Vi.PtT renaming row → Jo
open Option.some renaming injEq → Ho
open Go Go.Proofs
namespace Go.Vi
set_option maxRecDepth 100000
set_option maxHeartbeats 4000000
def BG(bad:Bool)(nw:Int⊕Unit)(e1 e2 e3:Int)(ok:D):D:=match bad with
 | true=>cN 150
 | false=>match nw with
  | .inr _=>cN 150
  | .inl _=>match e1 != 0 with
   | true=>cN e1
   | false=>match e2 != 0 with
    | true=>cN e2
    | false=>match e3 != 0 with
     | true=>cN e3
     | false=>ok
noncomputable abbrev np(w:WorldT)(term:Int)(known:Int)(now:List Int)(r:RecT)(qs:List ReadT)(q2:List ReadT)(ea:Int):List Blk:=[.var [ab (Hl Hz w.c),ab w.p,ab (Hl HC w.s),ab (Hl Hv w.f)],.var [nq,int 0,int 0,int 0],.vec (ae (rdR (q1R w r term known (qs++q2++[rdN])).1)) 0 5,.var [int r.st,ab (Hl Hq r.a)],.gone,.var [.ref (.vec 6 0),int (if false=true then if 10000>ea then 10000 else ea else if 10000<ea then 10000 else ea),int 0,int 0],.vec (ae (Hl HG (q2R 4096 now (q1R w r term known (qs++q2++[rdN])).2))) 0 4]
noncomputable abbrev dE(w:WorldT)(term:Int)(known:Int)(now:List Int)(r:RecT)(qs:List ReadT)(q2:List ReadT):List Blk:=[.var [ab (Hl Hz w.c),ab w.p,ab (Hl HC w.s),ab (Hl Hv w.f)],.var [nq,int 0,int 0,int 0],.vec (ae (rdR (q1R w r term known (qs++q2++[rdN])).1)) 0 5,.var [int r.st,ab (Hl Hq r.a)],.gone,.var [.ref (.vec 6 0),int 0,int 0,int 0],.vec (ae (Hl HG (q2R 4096 now (q1R w r term known (qs++q2++[rdN])).2))) 0 4]
noncomputable abbrev jg(w:WorldT)(r:RecT)(qs:List ReadT)(q2:List ReadT):List Blk:=[.var [ab (Hl Hz w.c),ab w.p,ab (Hl HC w.s),ab (Hl Hv w.f)],.var [nq,int 0,int 0,int 0],.vec (ae (rdR qs)++Hl (fun x=>Hl II x) (rdR q2)) 1 5,.var [int r.st,ab (Hl Hq r.a)],.vec [[int rdN.kind,int rdN.sub,int rdN.obj,int rdN.frm,int rdN.By]] 0 5]
noncomputable abbrev jh(w:WorldT)(r:RecT)(qs:List ReadT)(q2:List ReadT):List Blk:=[.var [ab (Hl Hz w.c),ab w.p,ab (Hl HC w.s),ab (Hl Hv w.f)],.var [nq,int 0,int 0,int 0],.vec (ae (rdR qs)++Hl (fun x=>Hl II x) (rdR q2)) 1 5,.var [int r.st,ab (Hl Hq r.a)]]
noncomputable abbrev f8(w:WorldT)(r:RecT)(qs:List ReadT):List Blk:=[.var [ab (Hl Hz w.c),ab w.p,ab (Hl HC w.s),ab (Hl Hv w.f)],.var [nq,int 0,int 0,int 0],.vec (ae (rdR qs)) 0 5,.var [int r.st,ab (Hl Hq r.a)]]
noncomputable abbrev f9(w:WorldT)(qs:List ReadT):List Blk:=[.var [ab (Hl Hz w.c),ab w.p,ab (Hl HC w.s),ab (Hl Hv w.f)],.var [nq,int 0,int 0,int 0],.vec (ae (rdR qs)) 0 5]
noncomputable abbrev sit20_a_x6(w:WorldT)(term:Int)(known:Int)(r:RecT):List D:=[H6 [ab (Hl Hz w.c),ab w.p,ab (Hl HC w.s),ab (Hl Hv w.f)],H6 [int r.st,ab (Hl Hq r.a)],int term,int known]
noncomputable abbrev ak(w:WorldT):List Blk:=[.var [ab (Hl Hz w.c),ab w.p,ab (Hl HC w.s),ab (Hl Hv w.f)],.var [nq,int 0,int 0,int 0]]
noncomputable abbrev sit20_a_x8(w:WorldT)(st:Int)(term:Int)(known:Int):List D:=[H6 [ab (Hl Hz w.c),ab w.p,ab (Hl HC w.s),ab (Hl Hv w.f)],int st,int term,int known]
noncomputable abbrev sit20_a_x9(w:WorldT)(known:Int):List D:=[H6 [ab (Hl Hz w.c),ab w.p,ab (Hl HC w.s),ab (Hl Hv w.f)],int known]
theorem EL{w:WorldT}(hw:w.ok)(hf:w.f.length≤69000){st term known:Int}{now:List Int}(hn:af now){r:RecT}(ha:af r.a){qs q2:List ReadT}{cs:List AttT}{e0 e1 e2 e3 ea n d:Int}{ns:List Int}{R:List ReadT}{S:List SeenT}
  (h26:∀h,Ev Hm Γ0 26 [.agg w.l,int st,int term,int known] h (.tup [.agg r.l,.ref (.vec h.length 0),int e0]) (h++[.vec (ae (rdR qs)) 0 5]))
  (h57:∀h,Ev Hm Γ0 57 [.agg w.l,.agg r.l,int term,int known] h (.tup [ab (cs.map Hq),ab (rdR q2),int e1]) h)
  (hN:(ad w.f known).length≤100) (hq:qs.length≤300000000) (hq2:q2.length≤300000000)
  (h72:∀h,Ev Hm Γ0 72 [ab (cs.map Hq)] h (.tup [int ea,int e2]) h)
  (h73:∀h,Ev Hm Γ0 73 [ab (cs.map Hq)] h (.tup [.agg [int n,int d],int e3]) h) (h:List Blk):(Ev Hm Γ0 20 [.agg w.l,int st,int term,int known,ab (aO now)] h (BG (!(Zd (st≥0)&&Zd (st≤19999))||!(Zd (term≥0)&&Zd (term≤1023))) (forL nwG now (-1)) e1 e2 e3
   (AD (q2R 4096 now (q1R w r term known (qs++q2++[rdN])).2) (mnI ea 10000) n d (q1R w r term known (qs++q2++[rdN])).1)) h):=by
 cases dO:!(Zd (st≥0)&&Zd (st≤19999))||!(Zd (term≥0)&&Zd (term≤1023))
 ·have Oj:=(@nw_cw (w) (st) (term) (known) (now) (hn))
  unfold GL at Oj
  revert Oj
  cases O1:forL nwG now (-1) with
  | inl o2_0_0 =>
   intro Oj
   cases N7:e1 != 0
   ·have hl4:=(@q1x_cw (w) (hw) (r) (e1) (ha) (term) (known) (hN) (aO now) (Hl Hq cs) (qs) (q2) (hq) (hq2))
    have hl5:=(@q2x_cw (w) (r) (e1) (now) (hn) (Hl Hq cs) ((q1R w r term known (qs++q2++[rdN])).1) ((q1R w r term known (qs++q2++[rdN])).2) (by first|assumption|rfl|omega|exact AW hN|exact aL _ _|exact aP|exact vH _ _ _ _ _|exact vI _ _ _|exact DI _ _ _ _ _|exact rd_ren _ _ _|(simp only[mD,roomOk,Jb,Hx,decide_eq_true_eq,Ir];omega)|(simp[aG,D.one,IJ,roomOk];omega)))
    cases Ss:e2 != 0
    ·cases hc7:e3 != 0
     ·refine H4 (JE (d:=HV [H6 [ab (Hl HG (q2R 4096 now (q1R w r term known (qs++q2++[rdN])).2)),int (if false=true then if 10000>ea then 10000 else ea else if 10000<ea then 10000 else ea),int n,int d],ab (rdR (q1R w r term known (qs++q2++[rdN])).1),int 0]) pok [.val (bool (Zd (st≥0)&&Zd (st≤19999))),.val (bool (Zd (term≥0)&&Zd (term≤1023))),.b false,.sum [1,2,3,4,5,10,11,12,13] (HT 0) {t:=mkT 204 0 [(1,int st),(2,int term),(3,int known),(4,ab (aO now)),(5,.ref (.ptr 0 0)),(10,.ref (.ptr 1 0)),(11,nq),(12,int 0)],h:=(ak w),m:=[]},.call (HV [H6 [int r.st,ab (Hl Hq r.a)],.ref (.vec 2 0),int e0]) (f9 w qs),.val (HV [ab (Hl Hq cs),ab (rdR q2),int e1]),.b false,.call (HV [ab (aO (ad w.f known)),.ref (.vec 4 0)]) (jg w r qs q2),.nx 2,.st (.mask [2,3,4,5,10,11,12,14,15,17,19,20,21]),.st (.trimV 4),.st (.ren 2 0),.st (.nilT 21 4),.sum [2,3,4,5,10,11,12,14,15,17,19,20,21,22] (HT 2) {t:=mkT 204 0 [(4,ab (aO now)),(10,.ref (.ptr 1 0)),(11,nq),(12,int 0),(15,.ref (.vec 2 0)),(17,ab (Hl Hq cs)),(19,int e1),(21,.ref (.vec 4 0))],h:=[.var (HI w),.var [nq,int 0,int 0,int 0],.vec (ae (rdR (q1R w r term known (qs++q2++[rdN])).1)) 0 5,.var [int r.st,ab (Hl Hq r.a)],.vec (ae (Hl HG (q1R w r term known (qs++q2++[rdN])).2)) 0 4],m:=[]},.nx 1,.st (.frz 4 (Hl HG (q1R w r term known (qs++q2++[rdN])).2)),.st (.nilC 5 0 4),.sum [4,10,11,12,15,17,19,21,25,26] (HT 4) {t:=mkT 204 0 [(10,.ref (.ptr 1 0)),(11,nq),(12,int 0),(15,.ref (.vec 2 0)),(17,ab (Hl Hq cs)),(19,int e1),(25,.ref (.ptr 5 0))],h:=(dE w term known now r qs q2),m:=[]},.val (HV [int ea,int e2]),.b false,.val (HV [H6 [int n,int d],int e3]),.b false,.st (.frz 6 (Hl HG (q2R 4096 now (q1R w r term known (qs++q2++[rdN])).2))),.st (.frz 2 (rdR (q1R w r term known (qs++q2++[rdN])).1))] (by kernel_rfl) (.c (@bn (st) (0) (19999) ((ak w))) (.c (show(!!(Zd (st≥0)&&Zd (st≤19999)))=true→Ev Hm Γ0 67 [int term,int 0,int 1023] (ak w) (bool (Zd (term≥0)&&Zd (term≤1023))) (ak w) from(fun hg=>(@bn (term) (0) (1023) ((ak w))))) (.c dO (.c Oj (.c (@h26 ((ak w))) (.c (@h57 ((f8 w r qs))) (.c N7 (.c (show(HJ (Hl (fun x=>Hl II x) (rdR q2)) (aG 5)&&roomOk (Hn (ae (rdR qs))+Hn (Hl (fun x=>Hl II x) (rdR q2))) 40)=true from ?_) (.c (@dj (w) (hf) (known) ((jh w r qs q2))) (.c (show(HJ [[int rdN.kind,int rdN.sub,int rdN.obj,int rdN.frm,int rdN.By]] (aG 5)&&roomOk (Hn (ae (rdR qs)++Hl (fun x=>Hl II x) (rdR q2))+Hn [[int rdN.kind,int rdN.sub,int rdN.obj,int rdN.frm,int rdN.By]]) 40)=true from ?_) (.c (show HB 4 (.var (HI w))=true from rfl) (.c (show HB 4 (.var [nq,int 0,int 0,int 0])=true from rfl) (.c (show HB 4 (.vec (ae (rdR qs)++Hl (fun x=>Hl II x) (rdR q2)++[[int rdN.kind,int rdN.sub,int rdN.obj,int rdN.frm,int rdN.By]]) 2 5)=true from ?_) (.c (show HB 4 (.var [int r.st,ab (Hl Hq r.a)])=true from rfl) (.c (show Hl (It (al 2 2 0)) (ae (rdR qs)++Hl (fun x=>Hl II x) (rdR q2)++[[int rdN.kind,int rdN.sub,int rdN.obj,int rdN.frm,int rdN.By]])=ae (rdR qs)++Hl (fun x=>Hl II x) (rdR q2)++[[int rdN.kind,int rdN.sub,int rdN.obj,int rdN.frm,int rdN.By]] from ?_) (.c hl4 (.c (show ae (Hl HG (q1R w r term known (qs++q2++[rdN])).2)=Hl (fun x=>Hl II x) (Hl HG (q1R w r term known (qs++q2++[rdN])).2) from ?_) (.c (show Hl (It (bD 4 0 (Hl HG (q1R w r term known (qs++q2++[rdN])).2))) (ae (rdR (q1R w r term known (qs++q2++[rdN])).1))=ae (rdR (q1R w r term known (qs++q2++[rdN])).1) from ?_) (.c hl5 (.c (@h72 ((dE w term known now r qs q2))) (.c Ss (.c (@h73 ((np w term known now r qs q2 ea))) (.c hc7 (.c (show ae (Hl HG (q2R 4096 now (q1R w r term known (qs++q2++[rdN])).2))=Hl (fun x=>Hl II x) (Hl HG (q2R 4096 now (q1R w r term known (qs++q2++[rdN])).2)) from ?_) (.c (show Hl (It (bD 6 0 (Hl HG (q2R 4096 now (q1R w r term known (qs++q2++[rdN])).2)))) (ae (rdR (q1R w r term known (qs++q2++[rdN])).1))=ae (rdR (q1R w r term known (qs++q2++[rdN])).1) from ?_) (.c (show ae (rdR (q1R w r term known (qs++q2++[rdN])).1)=Hl (fun x=>Hl II x) (rdR (q1R w r term known (qs++q2++[rdN])).1) from ?_) .n)))))))))))))))))))))))))) rfl rfl h) (by simp only[BG,N7,Ss,hc7,AD];rfl) (by rfl)<;>(first|rfl|exact aL _ _|exact vH _ _ _ _ _|exact vI _ _ _|(simp only[mD,roomOk,Jb,Hx,decide_eq_true_eq,Ir];omega)|(simp[aG,D.one,IJ,roomOk];omega))
     ·refine H4 (JE (d:=HV [H6 [nq,int 0,int 0,int 0],nq,int e3]) pok [.val (bool (Zd (st≥0)&&Zd (st≤19999))),.val (bool (Zd (term≥0)&&Zd (term≤1023))),.b false,.sum [1,2,3,4,5,10,11,12,13] (HT 0) {t:=mkT 204 0 [(1,int st),(2,int term),(3,int known),(4,ab (aO now)),(5,.ref (.ptr 0 0)),(10,.ref (.ptr 1 0)),(11,nq),(12,int 0)],h:=(ak w),m:=[]},.call (HV [H6 [int r.st,ab (Hl Hq r.a)],.ref (.vec 2 0),int e0]) (f9 w qs),.val (HV [ab (Hl Hq cs),ab (rdR q2),int e1]),.b false,.call (HV [ab (aO (ad w.f known)),.ref (.vec 4 0)]) (jg w r qs q2),.nx 2,.st (.mask [2,3,4,5,10,11,12,14,15,17,19,20,21]),.st (.trimV 4),.st (.ren 2 0),.st (.nilT 21 4),.sum [2,3,4,5,10,11,12,14,15,17,19,20,21,22] (HT 2) {t:=mkT 204 0 [(4,ab (aO now)),(10,.ref (.ptr 1 0)),(11,nq),(12,int 0),(15,.ref (.vec 2 0)),(17,ab (Hl Hq cs)),(19,int e1),(21,.ref (.vec 4 0))],h:=[.var (HI w),.var [nq,int 0,int 0,int 0],.vec (ae (rdR (q1R w r term known (qs++q2++[rdN])).1)) 0 5,.var [int r.st,ab (Hl Hq r.a)],.vec (ae (Hl HG (q1R w r term known (qs++q2++[rdN])).2)) 0 4],m:=[]},.nx 1,.st (.frz 4 (Hl HG (q1R w r term known (qs++q2++[rdN])).2)),.st (.nilC 5 0 4),.sum [4,10,11,12,15,17,19,21,25,26] (HT 4) {t:=mkT 204 0 [(10,.ref (.ptr 1 0)),(11,nq),(12,int 0),(15,.ref (.vec 2 0)),(17,ab (Hl Hq cs)),(19,int e1),(25,.ref (.ptr 5 0))],h:=(dE w term known now r qs q2),m:=[]},.val (HV [int ea,int e2]),.b false,.val (HV [H6 [int n,int d],int e3]),.b true] (by kernel_rfl) (.c (@bn (st) (0) (19999) ((ak w))) (.c (show(!!(Zd (st≥0)&&Zd (st≤19999)))=true→Ev Hm Γ0 67 [int term,int 0,int 1023] (ak w) (bool (Zd (term≥0)&&Zd (term≤1023))) (ak w) from(fun hg=>(@bn (term) (0) (1023) ((ak w))))) (.c dO (.c Oj (.c (@h26 ((ak w))) (.c (@h57 ((f8 w r qs))) (.c N7 (.c (show(HJ (Hl (fun x=>Hl II x) (rdR q2)) (aG 5)&&roomOk (Hn (ae (rdR qs))+Hn (Hl (fun x=>Hl II x) (rdR q2))) 40)=true from ?_) (.c (@dj (w) (hf) (known) ((jh w r qs q2))) (.c (show(HJ [[int rdN.kind,int rdN.sub,int rdN.obj,int rdN.frm,int rdN.By]] (aG 5)&&roomOk (Hn (ae (rdR qs)++Hl (fun x=>Hl II x) (rdR q2))+Hn [[int rdN.kind,int rdN.sub,int rdN.obj,int rdN.frm,int rdN.By]]) 40)=true from ?_) (.c (show HB 4 (.var (HI w))=true from rfl) (.c (show HB 4 (.var [nq,int 0,int 0,int 0])=true from rfl) (.c (show HB 4 (.vec (ae (rdR qs)++Hl (fun x=>Hl II x) (rdR q2)++[[int rdN.kind,int rdN.sub,int rdN.obj,int rdN.frm,int rdN.By]]) 2 5)=true from ?_) (.c (show HB 4 (.var [int r.st,ab (Hl Hq r.a)])=true from rfl) (.c (show Hl (It (al 2 2 0)) (ae (rdR qs)++Hl (fun x=>Hl II x) (rdR q2)++[[int rdN.kind,int rdN.sub,int rdN.obj,int rdN.frm,int rdN.By]])=ae (rdR qs)++Hl (fun x=>Hl II x) (rdR q2)++[[int rdN.kind,int rdN.sub,int rdN.obj,int rdN.frm,int rdN.By]] from ?_) (.c hl4 (.c (show ae (Hl HG (q1R w r term known (qs++q2++[rdN])).2)=Hl (fun x=>Hl II x) (Hl HG (q1R w r term known (qs++q2++[rdN])).2) from ?_) (.c (show Hl (It (bD 4 0 (Hl HG (q1R w r term known (qs++q2++[rdN])).2))) (ae (rdR (q1R w r term known (qs++q2++[rdN])).1))=ae (rdR (q1R w r term known (qs++q2++[rdN])).1) from ?_) (.c hl5 (.c (@h72 ((dE w term known now r qs q2))) (.c Ss (.c (@h73 ((np w term known now r qs q2 ea))) (.c hc7 .n))))))))))))))))))))))) rfl rfl h) (by simp only[BG,N7,Ss,hc7,cN];done) (by rfl)<;>(first|rfl|exact aL _ _|exact vH _ _ _ _ _|exact vI _ _ _|(simp only[mD,roomOk,Jb,Hx,decide_eq_true_eq,Ir];omega)|(simp[aG,D.one,IJ,roomOk];omega))
    ·refine H4 (JE (d:=HV [H6 [nq,int 0,int 0,int 0],nq,int e2]) pok [.val (bool (Zd (st≥0)&&Zd (st≤19999))),.val (bool (Zd (term≥0)&&Zd (term≤1023))),.b false,.sum [1,2,3,4,5,10,11,12,13] (HT 0) {t:=mkT 204 0 [(1,int st),(2,int term),(3,int known),(4,ab (aO now)),(5,.ref (.ptr 0 0)),(10,.ref (.ptr 1 0)),(11,nq),(12,int 0)],h:=(ak w),m:=[]},.call (HV [H6 [int r.st,ab (Hl Hq r.a)],.ref (.vec 2 0),int e0]) (f9 w qs),.val (HV [ab (Hl Hq cs),ab (rdR q2),int e1]),.b false,.call (HV [ab (aO (ad w.f known)),.ref (.vec 4 0)]) (jg w r qs q2),.nx 2,.st (.mask [2,3,4,5,10,11,12,14,15,17,19,20,21]),.st (.trimV 4),.st (.ren 2 0),.st (.nilT 21 4),.sum [2,3,4,5,10,11,12,14,15,17,19,20,21,22] (HT 2) {t:=mkT 204 0 [(4,ab (aO now)),(10,.ref (.ptr 1 0)),(11,nq),(12,int 0),(15,.ref (.vec 2 0)),(17,ab (Hl Hq cs)),(19,int e1),(21,.ref (.vec 4 0))],h:=[.var (HI w),.var [nq,int 0,int 0,int 0],.vec (ae (rdR (q1R w r term known (qs++q2++[rdN])).1)) 0 5,.var [int r.st,ab (Hl Hq r.a)],.vec (ae (Hl HG (q1R w r term known (qs++q2++[rdN])).2)) 0 4],m:=[]},.nx 1,.st (.frz 4 (Hl HG (q1R w r term known (qs++q2++[rdN])).2)),.st (.nilC 5 0 4),.sum [4,10,11,12,15,17,19,21,25,26] (HT 4) {t:=mkT 204 0 [(10,.ref (.ptr 1 0)),(11,nq),(12,int 0),(15,.ref (.vec 2 0)),(17,ab (Hl Hq cs)),(19,int e1),(25,.ref (.ptr 5 0))],h:=(dE w term known now r qs q2),m:=[]},.val (HV [int ea,int e2]),.b true] (by kernel_rfl) (.c (@bn (st) (0) (19999) ((ak w))) (.c (show(!!(Zd (st≥0)&&Zd (st≤19999)))=true→Ev Hm Γ0 67 [int term,int 0,int 1023] (ak w) (bool (Zd (term≥0)&&Zd (term≤1023))) (ak w) from(fun hg=>(@bn (term) (0) (1023) ((ak w))))) (.c dO (.c Oj (.c (@h26 ((ak w))) (.c (@h57 ((f8 w r qs))) (.c N7 (.c (show(HJ (Hl (fun x=>Hl II x) (rdR q2)) (aG 5)&&roomOk (Hn (ae (rdR qs))+Hn (Hl (fun x=>Hl II x) (rdR q2))) 40)=true from ?_) (.c (@dj (w) (hf) (known) ((jh w r qs q2))) (.c (show(HJ [[int rdN.kind,int rdN.sub,int rdN.obj,int rdN.frm,int rdN.By]] (aG 5)&&roomOk (Hn (ae (rdR qs)++Hl (fun x=>Hl II x) (rdR q2))+Hn [[int rdN.kind,int rdN.sub,int rdN.obj,int rdN.frm,int rdN.By]]) 40)=true from ?_) (.c (show HB 4 (.var (HI w))=true from rfl) (.c (show HB 4 (.var [nq,int 0,int 0,int 0])=true from rfl) (.c (show HB 4 (.vec (ae (rdR qs)++Hl (fun x=>Hl II x) (rdR q2)++[[int rdN.kind,int rdN.sub,int rdN.obj,int rdN.frm,int rdN.By]]) 2 5)=true from ?_) (.c (show HB 4 (.var [int r.st,ab (Hl Hq r.a)])=true from rfl) (.c (show Hl (It (al 2 2 0)) (ae (rdR qs)++Hl (fun x=>Hl II x) (rdR q2)++[[int rdN.kind,int rdN.sub,int rdN.obj,int rdN.frm,int rdN.By]])=ae (rdR qs)++Hl (fun x=>Hl II x) (rdR q2)++[[int rdN.kind,int rdN.sub,int rdN.obj,int rdN.frm,int rdN.By]] from ?_) (.c hl4 (.c (show ae (Hl HG (q1R w r term known (qs++q2++[rdN])).2)=Hl (fun x=>Hl II x) (Hl HG (q1R w r term known (qs++q2++[rdN])).2) from ?_) (.c (show Hl (It (bD 4 0 (Hl HG (q1R w r term known (qs++q2++[rdN])).2))) (ae (rdR (q1R w r term known (qs++q2++[rdN])).1))=ae (rdR (q1R w r term known (qs++q2++[rdN])).1) from ?_) (.c hl5 (.c (@h72 ((dE w term known now r qs q2))) (.c Ss .n))))))))))))))))))))) rfl rfl h) (by simp only[BG,N7,Ss,cN];done) (by rfl)<;>(first|rfl|exact aL _ _|exact vH _ _ _ _ _|exact vI _ _ _|(simp only[mD,roomOk,Jb,Hx,decide_eq_true_eq,Ir];omega)|(simp[aG,D.one,IJ,roomOk];omega))
   ·exact H4 (JE (d:=HV [H6 [nq,int 0,int 0,int 0],nq,int e1]) pok [.val (bool (Zd (st≥0)&&Zd (st≤19999))),.val (bool (Zd (term≥0)&&Zd (term≤1023))),.b false,.sum [1,2,3,4,5,10,11,12,13] (HT 0) {t:=mkT 204 0 [(1,int st),(2,int term),(3,int known),(4,ab (aO now)),(5,.ref (.ptr 0 0)),(10,.ref (.ptr 1 0)),(11,nq),(12,int 0)],h:=(ak w),m:=[]},.call (HV [H6 [int r.st,ab (Hl Hq r.a)],.ref (.vec 2 0),int e0]) (f9 w qs),.val (HV [ab (Hl Hq cs),ab (rdR q2),int e1]),.b true] (by kernel_rfl) (.c (@bn (st) (0) (19999) ((ak w))) (.c (show(!!(Zd (st≥0)&&Zd (st≤19999)))=true→Ev Hm Γ0 67 [int term,int 0,int 1023] (ak w) (bool (Zd (term≥0)&&Zd (term≤1023))) (ak w) from(fun hg=>(@bn (term) (0) (1023) ((ak w))))) (.c dO (.c Oj (.c (@h26 ((ak w))) (.c (@h57 ((f8 w r qs))) (.c N7 .n))))))) rfl rfl h) (by simp only[BG,N7,cN];done) (by rfl)
  | inr o2_1_0 =>
   intro Oj
   exact H4 (JE (d:=HV [H6 [nq,int 0,int 0,int 0],nq,int 150]) pok [.val (bool (Zd (st≥0)&&Zd (st≤19999))),.val (bool (Zd (term≥0)&&Zd (term≤1023))),.b false,.sum [1,2,3,4,5,10,11,12,13] (Exit.ret) {t:=mkT 204 0 [(10,.ref (.ptr 1 0)),(11,nq),(12,int 150)],h:=(ak w),m:=[]}] (by kernel_rfl) (.c (@bn (st) (0) (19999) ((ak w))) (.c (show(!!(Zd (st≥0)&&Zd (st≤19999)))=true→Ev Hm Γ0 67 [int term,int 0,int 1023] (ak w) (bool (Zd (term≥0)&&Zd (term≤1023))) (ak w) from(fun hg=>(@bn (term) (0) (1023) ((ak w))))) (.c dO (.c Oj .n)))) rfl rfl h) (by simp only[BG,cN];done) (by rfl)
 ·exact H4 (JE (d:=HV [H6 [nq,int 0,int 0,int 0],nq,int 150]) pok [.val (bool (Zd (st≥0)&&Zd (st≤19999))),.val (bool (Zd (term≥0)&&Zd (term≤1023))),.b true] (by kernel_rfl) (.c (@bn (st) (0) (19999) ((ak w))) (.c (show(!!(Zd (st≥0)&&Zd (st≤19999)))=true→Ev Hm Γ0 67 [int term,int 0,int 1023] (ak w) (bool (Zd (term≥0)&&Zd (term≤1023))) (ak w) from(fun hg=>(@bn (term) (0) (1023) ((ak w))))) (.c dO .n))) rfl rfl h) (by simp only[BG,cN];done) (by rfl)
abbrev o6H(w:WorldT)(st:Int)(as_:List AttT)(rs:List ReadT):List Blk:=[.var w.l,.var [int 0,ay],.var [int st,ab (as_.map Hq)],.vec (ae (rdR rs)) 0 5]
abbrev o6S(w:WorldT)(st term known:Int)(ns:List (List Dp))(i c:Int)(ps:List (List Dp))(as_:List AttT)(rs:List ReadT)(k:Int):AS :=
 {t:=mkT 126 0 [(1,int st),(2,int term),(3,int known),(4,.ref (.ptr 0 0)),(8,.ref (.ptr 1 0)),(11,.ref (.ptr 2 0)),(12,ab ns),(13,.ref (.vec 3 0)),(14,int i),(15,int c),(16,ab ps),(17,int k)],h:=o6H w st as_ rs,m:=[]}
abbrev o6O(w:WorldT)(st term known:Int)(ns:List (List Dp))(as_:List AttT)(rs:List ReadT)(i:Int):AS :=
 {t:=mkT 126 0 [(1,int st),(2,int term),(3,int known),(4,.ref (.ptr 0 0)),(8,.ref (.ptr 1 0)),(11,.ref (.ptr 2 0)),(12,ab ns),(13,.ref (.vec 3 0)),(14,int i)],h:=o6H w st as_ rs,m:=[]}
abbrev o6Z(w:WorldT)(st term known:Int)(ns:List (List Dp))(i c:Int)(ps:List (List Dp))(as_:List AttT)(rs:List ReadT):AS :=
 {t:=mkT 126 0 [(1,int st),(2,int term),(3,int known),(4,.ref (.ptr 0 0)),(8,.ref (.ptr 1 0)),(11,.ref (.ptr 2 0)),(12,ab ns),(13,.ref (.vec 3 0)),(14,int i)],h:=o6H w st as_ rs,m:=[]}
def o6A(p:PtT)(c cr:Int):AttT:=⟨c,p.term,K3 p.value 16,Hp.wrap (Jw p.value 16),cr⟩
noncomputable abbrev nr(w:WorldT)(st:Int)(as_:List AttT)(rs:List ReadT)(qs:List ReadT)(cc:CourseT):List Blk:=[.var [ab (Hl Hz w.c),ab w.p,ab (Hl HC w.s),ab (Hl Hv w.f)],.var [int 0,nq],.var [int st,ab (Hl Hq as_)],.vec (ae (rdR rs)++Hl (fun x=>Hl II x) (rdR qs)) 1 5,.var [au cc.name,int cc.number,int cc.bY,int cc.rep,int (Hr cc.oF).op,int (Hr cc.oF).c,au (Hr cc.oF).nm,int (Hr cc.oF).n,int (Hr cc.oF).d,ab (Hr cc.oF).ks,int (Hr cc.Bv).op,int (Hr cc.Bv).c,au (Hr cc.Bv).nm,int (Hr cc.Bv).n,int (Hr cc.Bv).d,ab (Hr cc.Bv).ks]]
noncomputable abbrev nt(w:WorldT)(st:Int)(as_:List AttT)(rs:List ReadT):List Blk:=[.var [ab (Hl Hz w.c),ab w.p,ab (Hl HC w.s),ab (Hl Hv w.f)],.var [int 0,nq],.var [int st,ab (Hl Hq as_)],.vec (ae (rdR rs)) 0 5,.var [au {data:=#[]},int 0,int 0,int 0,int 0,int 0,au {data:=#[]},int 0,int 0,nq,int 0,int 0,au {data:=#[]},int 0,int 0,nq]]
noncomputable abbrev cW(w:WorldT)(st:Int)(as_:List AttT)(rs:List ReadT):List Blk:=[.var [ab (Hl Hz w.c),ab w.p,ab (Hl HC w.s),ab (Hl Hv w.f)],.var [int 0,nq],.var [int st,ab (Hl Hq as_)],.vec (ae (rdR rs)) 0 5]
noncomputable abbrev o6_body_x3(w:WorldT)(known:Int)(c:Int)(p:PtT):List D:=[H6 [ab (Hl Hz w.c),ab w.p,ab (Hl HC w.s),ab (Hl Hv w.f)],int c,int p.term,int known]
theorem EM{w:WorldT}{st term known i c:Int}{ns ps:List (List Dp)}{as_:List AttT}{rs qs:List ReadT}{p:PtT}{k:Nat}{cc:CourseT}{b:Bool}(hr:aj (k:Int) ps p.row 2)(iF:Zd ((k:Int)<(ps.length:Int))=true)(Oy:Hp.wrap ((k:Int)+1)=((k+1:Nat):Int))(hq:rs.length+qs.length≤900000000)(hb:as_.length≤1000000)
 (Ob:∀h,Ev Hm Γ0 76 [.agg w.l,int c,int p.term,int known] h (.tup [ag cc.row,ab (rdR qs),bool b]) h) (hz:b=false→cc.bY=0):(CW Hm Γ0 [] false (sub KF 1) (o6S w st term known ns i c ps as_ rs k) .normal (o6S w st term known ns i c ps (bif attBad p then as_ else sh as_ (o6A p c cc.bY)) (bif attBad p then rs else rs++qs) ((k+1:Nat):Int))):=by
 cases dO:Zd (K3 p.value 16>12)||Zd (Ht Hp (Jw p.value 16)≥7)
 ·cases oN:b
  ·let v0:=Hl Hq (sh as_ {aT:=c,term:=p.term,oR:=K3 p.value 16,tO:=Ht Hp (Jw p.value 16),bY:=0})
   refine zX {t:=mkT 126 0 [(1,int st),(2,int term),(3,int known),(4,.ref (.ptr 0 0)),(8,.ref (.ptr 1 0)),(11,.ref (.ptr 2 0)),(12,ab ns),(13,.ref (.vec 3 0)),(14,int i),(15,int c),(16,ab ps),(17,int (Ht Hp ((↑k:Int)+1)))],h:=[.var [ab (Hl Hz w.c),ab w.p,ab (Hl HC w.s),ab (Hl Hv w.f)],.var [int 0,nq],.var [int st,ab v0],.vec (ae (rdR rs)++Hl (fun x=>Hl II x) (rdR qs)) 0 5],m:=[]} HA [.st (.mask [1,2,3,4,8,11,12,13,14,15,16,17]),.st (.ren 3 0),.st (.trimV 4)] [.b true,.row [vi p.term,vi p.value],.row [vi p.term,vi p.value],.b false,.row [vi p.term,vi p.value],.val (HV [H6 [au cc.name,int cc.number,int cc.bY,int cc.rep,int (Hr cc.oF).op,int (Hr cc.oF).c,au (Hr cc.oF).nm,int (Hr cc.oF).n,int (Hr cc.oF).d,ab (Hr cc.oF).ks,int (Hr cc.Bv).op,int (Hr cc.Bv).c,au (Hr cc.Bv).nm,int (Hr cc.Bv).n,int (Hr cc.Bv).d,ab (Hr cc.Bv).ks],ab (rdR qs),bool b]),.b false,.row [vi p.term,vi p.value],.val (ab v0)] (.c iF (.c hr (.c (show(!Zd (16=0))=true from rfl) (.c hr (.c (show(!Zd (16=0))=true from rfl) (.c dO (.c hr (.c (@Ob (cW w st as_ rs)) (.e (H6 (HI w)) (.e (H6 (HI w)) (.er (cW w st as_ rs) (.c (@Ob (cW w st as_ rs)) (.c (@Ob (nt w st as_ rs)) (.c (show(HJ (Hl (fun x=>Hl II x) (rdR qs)) (aG 5)&&roomOk (Hn (ae (rdR rs))+Hn (Hl (fun x=>Hl II x) (rdR qs))) 40)=true from ?_) (.c oN (.c hr (.c (@Dz as_ hb ({aT:=c,term:=p.term,oR:=K3 p.value 16,tO:=Ht Hp (Jw p.value 16),bY:=0}) (nr w st as_ rs qs cc)) (.e (.ref (.ptr 2 1)) (.e (ab (Hl Hq as_)) (.e (.ref (.ptr 2 1)) (.c (vMa (rdR rs) (Hl (fun x=>Hl II x) (rdR qs)) 3 1 0) (.c (show HB 4 (match 0==3 with|true=>.vec (ae (rdR rs)++Hl (fun x=>Hl II x) (rdR qs)) 0 5|false=>keepX (al 3 1 0) (.var (HI w)))=true from rfl) (.c (show HB 4 (match 0+1==3 with|true=>.vec (ae (rdR rs)++Hl (fun x=>Hl II x) (rdR qs)) 0 5|false=>keepX (al 3 1 0) (.var [int 0,nq]))=true from rfl) (.c (show HB 4 (match 0+1+1==3 with|true=>.vec (ae (rdR rs)++Hl (fun x=>Hl II x) (rdR qs)) 0 5|false=>keepX (al 3 1 0) (.var [int st,ab v0]))=true from rfl) (.c (iVa 4 (rdR rs) (Hl (fun x=>Hl II x) (rdR qs)) 0 5) .n))))))))))))))))))))))))) (by subst v0;rfl) (by subst v0;(have hh:attBad p=false:=dO;simp only[Oy,hh,cond_false,hz oN,o6S,o6H,←jU];first|done|rfl))<;>subst v0<;>(simp only[mD,roomOk,Jb,Hx,decide_eq_true_eq,Ir];omega)
  ·let v0:=Hl Hq (sh as_ {aT:=c,term:=p.term,oR:=K3 p.value 16,tO:=Ht Hp (Jw p.value 16),bY:=cc.bY})
   refine zX {t:=mkT 126 0 [(1,int st),(2,int term),(3,int known),(4,.ref (.ptr 0 0)),(8,.ref (.ptr 1 0)),(11,.ref (.ptr 2 0)),(12,ab ns),(13,.ref (.vec 3 0)),(14,int i),(15,int c),(16,ab ps),(17,int (Ht Hp ((↑k:Int)+1)))],h:=[.var [ab (Hl Hz w.c),ab w.p,ab (Hl HC w.s),ab (Hl Hv w.f)],.var [int 0,nq],.var [int st,ab v0],.vec (ae (rdR rs)++Hl (fun x=>Hl II x) (rdR qs)) 0 5],m:=[]} HA [.st (.mask [1,2,3,4,8,11,12,13,14,15,16,17]),.st (.ren 3 0),.st (.trimV 4)] [.b true,.row [vi p.term,vi p.value],.row [vi p.term,vi p.value],.b false,.row [vi p.term,vi p.value],.val (HV [H6 [au cc.name,int cc.number,int cc.bY,int cc.rep,int (Hr cc.oF).op,int (Hr cc.oF).c,au (Hr cc.oF).nm,int (Hr cc.oF).n,int (Hr cc.oF).d,ab (Hr cc.oF).ks,int (Hr cc.Bv).op,int (Hr cc.Bv).c,au (Hr cc.Bv).nm,int (Hr cc.Bv).n,int (Hr cc.Bv).d,ab (Hr cc.Bv).ks],ab (rdR qs),bool b]),.b true,.row [vi p.term,vi p.value],.val (ab v0)] (.c iF (.c hr (.c (show(!Zd (16=0))=true from rfl) (.c hr (.c (show(!Zd (16=0))=true from rfl) (.c dO (.c hr (.c (@Ob (cW w st as_ rs)) (.e (H6 (HI w)) (.e (H6 (HI w)) (.er (cW w st as_ rs) (.c (@Ob (cW w st as_ rs)) (.c (@Ob (nt w st as_ rs)) (.c (show(HJ (Hl (fun x=>Hl II x) (rdR qs)) (aG 5)&&roomOk (Hn (ae (rdR rs))+Hn (Hl (fun x=>Hl II x) (rdR qs))) 40)=true from ?_) (.c oN (.c hr (.c (@Dz as_ hb ({aT:=c,term:=p.term,oR:=K3 p.value 16,tO:=Ht Hp (Jw p.value 16),bY:=cc.bY}) (nr w st as_ rs qs cc)) (.e (.ref (.ptr 2 1)) (.e (ab (Hl Hq as_)) (.e (.ref (.ptr 2 1)) (.c (vMa (rdR rs) (Hl (fun x=>Hl II x) (rdR qs)) 3 1 0) (.c (show HB 4 (match 0==3 with|true=>.vec (ae (rdR rs)++Hl (fun x=>Hl II x) (rdR qs)) 0 5|false=>keepX (al 3 1 0) (.var (HI w)))=true from rfl) (.c (show HB 4 (match 0+1==3 with|true=>.vec (ae (rdR rs)++Hl (fun x=>Hl II x) (rdR qs)) 0 5|false=>keepX (al 3 1 0) (.var [int 0,nq]))=true from rfl) (.c (show HB 4 (match 0+1+1==3 with|true=>.vec (ae (rdR rs)++Hl (fun x=>Hl II x) (rdR qs)) 0 5|false=>keepX (al 3 1 0) (.var [int st,ab v0]))=true from rfl) (.c (iVa 4 (rdR rs) (Hl (fun x=>Hl II x) (rdR qs)) 0 5) .n))))))))))))))))))))))))) (by subst v0;rfl) (by subst v0;(have hh:attBad p=false:=dO;simp only[Oy,hh,cond_false,o6S,o6H,←jU];first|done|rfl))<;>subst v0<;>(simp only[mD,roomOk,Jb,Hx,decide_eq_true_eq,Ir];omega)
 ·refine zX {t:=mkT 126 0 [(1,int st),(2,int term),(3,int known),(4,.ref (.ptr 0 0)),(8,.ref (.ptr 1 0)),(11,.ref (.ptr 2 0)),(12,ab ns),(13,.ref (.vec 3 0)),(14,int i),(15,int c),(16,ab ps),(17,int (Ht Hp ((↑k:Int)+1)))],h:=(cW w st as_ rs),m:=[]} HA [.st (.mask [1,2,3,4,8,11,12,13,14,15,16,17]),.st (.ren 3 0),.st (.trimV 4)] [.b true,.row [vi p.term,vi p.value],.row [vi p.term,vi p.value],.b true] (.c iF (.c hr (.c (show(!Zd (16=0))=true from rfl) (.c hr (.c (show(!Zd (16=0))=true from rfl) (.c dO (.c (vM (rdR rs) 3 0 0) (.c (show HB 4 (match 0==3 with|true=>.vec (ae (rdR rs)) 0 5|false=>keepX (al 3 0 0) (.var (HI w)))=true from rfl) (.c (show HB 4 (match 0+1==3 with|true=>.vec (ae (rdR rs)) 0 5|false=>keepX (al 3 0 0) (.var [int 0,nq]))=true from rfl) (.c (show HB 4 (match 0+1+1==3 with|true=>.vec (ae (rdR rs)) 0 5|false=>keepX (al 3 0 0) (.var [int st,ab (Hl Hq as_)]))=true from rfl) (.c (iV 4 (rdR rs) 0 5) .n))))))))))) ?_ ?_<;>(first|rfl|(have hh:attBad p=true:=dO;simp only[Oy,hh,cond_true];first|done|rfl))
theorem EN{w:WorldT}{st term known i c:Int}{ns ps:List (List Dp)}{as_:List AttT}{rs:List ReadT}{k:Nat}(iF:Zd ((k:Int)<(ps.length:Int))=false):(CW Hm Γ0 [] false (sub KF 1) (o6S w st term known ns i c ps as_ rs k) (.exit 2) (o6Z w st term known ns i c ps as_ rs)):=by
 exact zx [.st (.mask [1,2,3,4,8,11,12,13,14])] [.b false] (.c iF .n)
def sZ(w:WorldT)(known c:Int)(s:List AttT×List ReadT)(p:PtT):List AttT×List ReadT:=(bif attBad p then s.1 else sh s.1 (wI w known c p),bif attBad p then s.2 else s.2++rdT 1 c 0 p.term)
theorem insA_len(out:List AttT)(a:AttT):(sh out a).length=out.length+1:=by
 have:=Dy out a
 simp[sh];omega
theorem uP{w:WorldT}{known c:Int}{s:List AttT×List ReadT}(p:PtT):(sZ w known c s p).1.length≤s.1.length+1∧(sZ w known c s p).2.length≤s.2.length+1:=by
 unfold sZ
 have:=rdT_len 1 c 0 p.term
 cases attBad p<;>simp[insA_len]<;>omega
theorem rb{w:WorldT}{n term known:Int}(h:(ac w n term known).2=false):(ac w n term known).1.bY=0:=by
 unfold ac at h ⊢
 cases ht:outB term<;>rw[ht] at h<;>simp only at h ⊢
 ·unfold j8 at h ⊢
  split at h
  ·rfl
  ·simp at h
 ·rfl
theorem EO(l:List ReadT)(a b c d e:Int):ae (rdR l)++[[int a,int b,int c,int d,int e]]=ae (rdR (l++[ReadT.mk a b c d e])):=by simp[ReadT.row]
theorem o6i_c0{w:WorldT}(hw:w.ok)(hs:∀x∈w.c,x.small){st term known i c:Int}{ns:List (List Dp)}{ps:List PtT}(hp:ps.length≤2000){as_:List AttT}{rs:List ReadT}(hb:rs.length≤800000000)(ha:as_.length≤900000):
  CW Hm Γ0 [] false (.loop (sub KF 1)) (o6S w st term known ns i c (ps.map Jo) as_ rs 0) (.exit 2) (o6Z w st term known ns i c (ps.map Jo) (ps.foldl (sZ w known c) (as_,rs)).1 (ps.foldl (sZ w known c) (as_,rs)).2):=by
 have hl:af ps:=by unfold af;omega
 have:=CW.each (P:=Hm) (Γ:=Γ0) (h0:=[]) (rd:=false) (c:=sub KF 1) (σ:=List AttT×List ReadT) (ρ:=Empty) ps (fun p s=>.inl (sZ w known c s p))
  (fun k s=>o6S w st term known ns i c (ps.map Jo) s.1 s.2 (k:Int)) (.exit 2) (fun s=>o6Z w st term known ns i c (ps.map Jo) s.1 s.2) (fun r=>r.elim)
  (fun k s=>s.1.length≤as_.length+k∧s.2.length≤rs.length+k) (by simp) (fun r=>r.elim) ?_ ?_ (as_,rs) (by simp)
 ·rw[aC] at this
  exact this
 ·intro k p s hpk Ot
  have hk:=(Hs.1 hpk).1
  refine⟨fun s' h=>by cases h;have:=uP (w:=w) (known:=known) (c:=c) (s:=s) p;omega,?_⟩
  have:=rdT_len 1 c 0 p.term
  exact EM (w:=w) (cc:=(ac w c p.term known).1) (b:=(ac w c p.term known).2) (qs:=rdT 1 c 0 p.term) (rowAt hpk rfl) (lt_len _ hk) (wrap_succ hk hl) (by omega) (by omega) (fun h=>sd hw hs (n:=c) h) rb
 ·intro s _
  exact EN (aJ _ ps)
def pc(w:WorldT)(known st term:Int)(s:List AttT×List ReadT)(n:Int):List AttT×List ReadT:=(aR 5 st n 0 term known w.f).foldl (sZ w known n) (s.1,s.2++[⟨5,st,n,0,term⟩])
theorem o6i_cw{w:WorldT}(hw:w.ok)(hs:∀x∈w.c,x.small){st term known i c:Int}{ns:List (List Dp)}{ps:List PtT}(hp:ps.length≤2000){as_:List AttT}{rs:List ReadT}(hb:rs.length≤700000000)(ha:as_.length≤900000):
  CW Hm Γ0 [] false (.loop (sub KF 1)) {t:=mkT 126 0 [(1,int st),(2,int term),(3,int known),(4,.ref (.ptr 0 0)),(8,.ref (.ptr 1 0)),(11,.ref (.ptr 2 0)),(12,ab ns),(13,.ref (.vec 3 0)),(14,int i),(15,int c),(16,ab (ps.map Jo)),(17,int 0)],h:=[.var w.l,.var [int 0,ay],.var [int st,ab (as_.map Hq)],.vec (ae (rdR rs)++[[int 5,int st,int c,int 0,int term]]) 0 5],m:=[]} (.exit 2) (o6Z w st term known ns i c (ps.map Jo) (ps.foldl (sZ w known c) (as_,rs++[⟨5,st,c,0,term⟩])).1 (ps.foldl (sZ w known c) (as_,rs++[⟨5,st,c,0,term⟩])).2):=by
 rw[EO]
 exact o6i_c0 hw hs hp (by simp;omega) ha
noncomputable abbrev gG(w:WorldT)(st:Int)(as_:List AttT)(rs:List ReadT):List Blk:=[.var [ab (Hl Hz w.c),ab w.p,ab (Hl HC w.s),ab (Hl Hv w.f)],.var [int 0,nq],.var [int st,ab (Hl Hq as_)],.vec (ae (rdR rs)) 0 5]
theorem BH{w:WorldT}(hw:w.ok)(hs:∀x∈w.c,x.small){st term known n:Int}{ns:List (List Dp)}{as_:List AttT}{rs:List ReadT}{i:Nat}(hr:aj (i:Int) ns [vi n] 1)(iF:Zd ((i:Int)<(ns.length:Int))=true)(Oy:Hp.wrap ((i:Int)+1)=((i+1:Nat):Int))(hb:rs.length≤700000000)(ha:as_.length≤900000)(hp:(aR 5 st n 0 term known w.f).length≤2000):(CW Hm Γ0 [] false (sub KF 0) (o6O w st term known ns as_ rs i) .normal (o6O w st term known ns (pc w known st term (as_,rs) n).1 (pc w known st term (as_,rs) n).2 ((i+1:Nat):Int))):=by
 have N1:=(@o6i_cw (w) (hw) (hs) (st) (term) (known) ((↑i:Int)) (n) (ns) (aR 5 st n 0 term known w.f) (hp) (as_) (rs) (hb) (ha))
 let v0:=List.foldl (sZ w known n) (as_,rs++[{kind:=5,sub:=st,obj:=n,frm:=0,By:=term}]) (aR 5 st n 0 term known w.f)
 let v1:List D:=[int 5,int st,int n,int 0,int term]
 refine zX {t:=mkT 126 0 [(1,int st),(2,int term),(3,int known),(4,.ref (.ptr 0 0)),(8,.ref (.ptr 1 0)),(11,.ref (.ptr 2 0)),(12,ab ns),(13,.ref (.vec 3 0)),(14,int (Ht Hp ((↑i:Int)+1)))],h:=[.var [ab (Hl Hz w.c),ab w.p,ab (Hl HC w.s),ab (Hl Hv w.f)],.var [int 0,nq],.var [int st,ab (Hl Hq v0.1)],.vec (ae (rdR v0.2)) 0 5],m:=[]} HA [.st (.mask [1,2,3,4,8,11,12,13,14])] [.b true,.row [vi n],.val (H6 [int 5,int st,int n]),.val (ab (Hl Jo (aR 5 st n 0 term known w.f))),.val (H6 [int 5,int st,int n]),.nx 1,.st (.mask [1,2,3,4,8,11,12,13,14,15,16,17]),.st (.ren 3 0),.st (.trimV 4),.sum [1,2,3,4,8,11,12,13,14,15,16,17] (HT 2) {t:=mkT 126 0 [(1,int st),(2,int term),(3,int known),(4,.ref (.ptr 0 0)),(8,.ref (.ptr 1 0)),(11,.ref (.ptr 2 0)),(12,ab ns),(13,.ref (.vec 3 0)),(14,int (↑i:Int))],h:=[.var (HI w),.var [int 0,nq],.var [int st,ab (Hl Hq v0.1)],.vec (ae (rdR v0.2)) 0 5],m:=[]}] (.c iF (.c hr (.c (@uN st n (gG w st as_ rs)) (.c (@xa 5 st n 0 term known (w.f) ?_ (gG w st as_ rs)) (.c (@uN st n (gG w st as_ rs)) (.c (show(HJ [v1] (aG 5)&&roomOk (Hn (ae (rdR rs))+Hn [v1]) 40)=true from ?_) (.c (vMa (rdR rs) [v1] 3 1 0) (.er [v1] (.c (show HB 4 (match 0==3 with|true=>.vec (ae (rdR rs)++[v1]) 0 5|false=>keepX (al 3 1 0) (.var (HI w)))=true from rfl) (.c (show HB 4 (match 0+1==3 with|true=>.vec (ae (rdR rs)++[v1]) 0 5|false=>keepX (al 3 1 0) (.var [int 0,nq]))=true from rfl) (.c (show HB 4 (match 0+1+1==3 with|true=>.vec (ae (rdR rs)++[v1]) 0 5|false=>keepX (al 3 1 0) (.var [int st,ab (Hl Hq as_)]))=true from rfl) (.c (iVa 4 (rdR rs) [v1] 0 5) (.c N1 .n))))))))))))) (by subst v0 v1;rfl) (by subst v0 v1;(simp only[Oy];rfl))<;>subst v0 v1<;>(first|exact hw.sf|(simp[aG,D.one,IJ,roomOk];omega))
theorem BI{w:WorldT}{st term known:Int}{ns:List (List Dp)}{as_:List AttT}{rs:List ReadT}{i:Nat}(iF:Zd ((i:Int)<(ns.length:Int))=false):(CW Hm Γ0 [] false (sub KF 0) (o6O w st term known ns as_ rs i) (.exit 0) {t:=mkT 126 0 [(8,.ref (.ptr 1 0)),(11,.ref (.ptr 2 0)),(13,.ref (.vec 3 0))],h:=o6H w st as_ rs,m:=[]}):=by
 exact zx [.st (.mask [8,11,13])] [.b false] (.c iF .n)
theorem nu{w:WorldT}{known n:Int}:∀(ps:List PtT) (s:List AttT×List ReadT),(ps.foldl (sZ w known n) s).1.length≤s.1.length+ps.length∧(ps.foldl (sZ w known n) s).2.length≤s.2.length+ps.length
 | [],s=>by simp
 | p::ps,s=>by
  have h1:=uP (w:=w) (known:=known) (c:=n) (s:=s) p
  have h2:=nu (w:=w) (known:=known) (n:=n) ps (sZ w known n s p)
  simp only[H7,HY]
  omega
theorem yK{w:WorldT}{known st term:Int}(s:List AttT×List ReadT)(n:Int):(pc w known st term s n).1.length≤s.1.length+1024∧(pc w known st term s n).2.length≤s.2.length+1025:=by
 unfold pc
 have h1:=nu (w:=w) (known:=known) (n:=n) (aR 5 st n 0 term known w.f) (s.1,s.2++[⟨5,st,n,0,term⟩])
 have h2:=bL (kk:=5) (ks:=st) (ko:=n) (frm:=0) (to:=term) (known:=known) (l:=w.f)
 simp only[List.length_append,HY,List.length_nil] at h1
 omega
abbrev o6R(w:WorldT)(known st term:Int):List AttT×List ReadT:=(ad w.f known).foldl (pc w known st term) ([],[rdN])
theorem o6_cw{w:WorldT}(hw:w.ok)(hs:∀x∈w.c,x.small){st term known:Int}(hn:(ad w.f known).length≤500):
  CW Hm Γ0 [] false (.loop (sub KF 0)) (o6O w st term known (aO (ad w.f known)) [] [rdN] 0) (.exit 0) {t:=mkT 126 0 [(8,.ref (.ptr 1 0)),(11,.ref (.ptr 2 0)),(13,.ref (.vec 3 0))],h:=o6H w st (o6R w known st term).1 (o6R w known st term).2,m:=[]}:=by
 have hl:af (ad w.f known):=by unfold af;omega
 have:=CW.each (P:=Hm) (Γ:=Γ0) (h0:=[]) (rd:=false) (c:=sub KF 0) (σ:=List AttT×List ReadT) (ρ:=Empty) (ad w.f known) (fun n s=>.inl (pc w known st term s n))
  (fun i s=>o6O w st term known (aO (ad w.f known)) s.1 s.2 (i:Int)) (.exit 0) (fun s=>{t:=mkT 126 0 [(8,.ref (.ptr 1 0)),(11,.ref (.ptr 2 0)),(13,.ref (.vec 3 0))],h:=o6H w st s.1 s.2,m:=[]}) (fun r=>r.elim)
  (fun i s=>s.1.length≤i*1024∧s.2.length≤1+i*1025) (by simp) (fun r=>r.elim) ?_ ?_ ([],[rdN]) (by simp)
 ·rw[aC] at this
  exact this
 ·intro i n s hni Ot
  have hi:=(Hs.1 hni).1
  refine⟨fun s' h=>by cases h;have:=yK (w:=w) (known:=known) (st:=st) (term:=term) s n;omega,?_⟩
  exact BH hw hs (rowAt (row:=fun n=>[vi n]) hni rfl) (lt_len (fun n=>[vi n]) hi) (wrap_succ hi hl) (by omega) (by omega) (Nat.le_trans bL (by omega))
 ·intro s _
  exact BI (aJ (fun n=>[vi n]) _)
theorem re(w:WorldT)(known n:Int):∀(ps:List PtT) (s:List AttT×List ReadT),ps.foldl (sZ w known n) s=((ps.filterMap (Di w known n)).foldl sh s.1,s.2++ps.flatMap (rdO n))
 | [],s=>by simp
 | p::ps,s=>by
  rw[H7,re w known n ps,List.filterMap_cons,Kt]
  unfold sZ Di rdO
  cases attBad p<;>simp
theorem o6R_eq{w:WorldT}{known st term:Int}:o6R w known st term=(cH w known st term,aD w known st term):=by
 have key:∀(ns:List Int) (s:List AttT×List ReadT),ns.foldl (pc w known st term) s=((ns.flatMap (eF w known st term)).foldl sh s.1,s.2++ns.flatMap (ek w known st term)):=by
  intro ns
  induction ns with
  | nil=>intro s;simp
  | cons n ns ih =>
   intro s
   rw[H7,ih]
   unfold pc
   rw[re]
   simp[ek,eF,List.foldl_append]
 unfold o6R
 rw[key]
 have:=CN (w:=w) (known:=known) (st:=st) (term:=term)
 unfold b7 at this
 rw[this]
 simp[aD]
noncomputable abbrev of26Z(w:WorldT)(known st term:Int):List Blk:=[.var w.l,.var [int st,ab ((o6R w known st term).1.map Hq)],.var [int st,ab ((o6R w known st term).1.map Hq)],.vec (ae (rdR (o6R w known st term).2)) 0 5]
noncomputable abbrev lG(w:WorldT)(st:Int):List Blk:=[.var [ab (Hl Hz w.c),ab w.p,ab (Hl HC w.s),ab (Hl Hv w.f)],.var [int 0,nq],.var [int st,nq],.vec [[int rdN.kind,int rdN.sub,int rdN.obj,int rdN.frm,int rdN.By]] 0 5]
noncomputable abbrev lH(w:WorldT):List Blk:=[.var [ab (Hl Hz w.c),ab w.p,ab (Hl HC w.s),ab (Hl Hv w.f)],.var [int 0,nq]]
theorem BJ{w:WorldT}(hw:w.ok)(hs:∀x∈w.c,x.small){st term known:Int}(hn:(ad w.f known).length≤500)(hb:(!(Zd (st≥0)&&Zd (st≤19999))||!(Zd (term≥0)&&Zd (term≤1024)))=false):(Ev Hm Γ0 26 [.agg w.l,int st,int term,int known] [] (.tup [.agg [int st,ab ((o6R w known st term).1.map Hq)],.ref (.vec 3 0),int 0]) (of26Z w known st term)):=by
 have N1:=(@o6_cw (w) (hw) (hs) (st) (term) (known) (hn))
 let v0:List D:=[int st,ab (Hl Hq (o6R w known st term).1)]
 let v1:List D:=[int rdN.kind,int rdN.sub,int rdN.obj,int rdN.frm,int rdN.By]
 let v2:List D:=[ab (aO (ad w.f known)),.ref (.vec 3 0)]
 exact H4 (Ev.of_sym (h':=[.var [ab (Hl Hz w.c),ab w.p,ab (Hl HC w.s),ab (Hl Hv w.f)],.var v0,.var v0,.vec (ae (rdR (o6R w known st term).2)) 0 5]) (d:=HV [H6 v0,.ref (.vec 3 0),int 0]) pok [.val (bool (Zd (st≥0)&&Zd (st≤19999))),.val (bool (Zd (term≥0)&&Zd (term≤1024))),.b false,.call (HV v2) (lG w st),.nx 1,.st (.mask [1,2,3,4,8,11,12,13,14]),.st (.nilC 2 1 5),.st (.frz 4 []),.st (.trimV 4),.sum [1,2,3,4,8,11,12,13,14] (HT 0) {t:=mkT 126 0 [(8,.ref (.ptr 1 0)),(11,.ref (.ptr 2 0)),(13,.ref (.vec 3 0))],h:=[.var (HI w),.var [int 0,nq],.var v0,.vec (ae (rdR (o6R w known st term).2)) 0 5],m:=[]}] (by kernel_rfl) (.c (@bn st 0 19999 (lH w)) (.c (gd (!!(Zd (st≥0)&&Zd (st≤19999))) (@bn term 0 1024 (lH w))) (.c hb (.c (@dj w (by subst v0 v1 v2;exact hw.lf) known ([.var (HI w),.var [int 0,nq],.var [int st,nq]])) (.c (show([]:List (List D))=[] from rfl) (.er [v1] (.c (show HB 4 (match 0==4 with|true=>.gone|false=>keepX (bD 4 0 []) (.var (HI w)))=true from rfl) (.c (show HB 4 (match 0+1==4 with|true=>.gone|false=>keepX (bD 4 0 []) (.var [int 0,nq]))=true from rfl) (.c (show HB 4 (match 0+1+1==4 with|true=>.gone|false=>keepX (bD 4 0 []) (.var (List.set [int st,nq] 1 (.ref (.vec (Hn (qn [1,2,3,4,8,11,12,13,14] {t:=mkT 126 0 [(0,H6 (HI w)),(1,int st),(2,int term),(3,int known),(4,.ref (.ptr 0 0)),(8,.ref (.ptr 1 0)),(9,nq),(10,int 0),(11,.ref (.ptr 2 0)),(12,ab (aO (ad w.f known))),(13,.ref (.vec 3 0)),(14,int 0),(24,int st),(25,bool (Zd (st≥0)&&Zd (st≤19999))),(26,bool !(Zd (st≥0)&&Zd (st≤19999))),(27,bool !(Zd (st≥0)&&Zd (st≤19999))),(28,D.grd (!!(Zd (st≥0)&&Zd (st≤19999))) (int term)),(29,D.grd (!!(Zd (st≥0)&&Zd (st≤19999))) (bool (Zd (term≥0)&&Zd (term≤1024)))),(30,D.grd (!!(Zd (st≥0)&&Zd (st≤19999))) (bool !(Zd (term≥0)&&Zd (term≤1024)))),(31,bool (!(Zd (st≥0)&&Zd (st≤19999))||!(Zd (term≥0)&&Zd (term≤1024)))),(33,int st),(34,H6 [int st,nq]),(35,HV v2),(36,H6 (HI w)),(37,int known),(38,HV v2),(39,ab (aO (ad w.f known))),(40,.ref (.vec 3 0))],h:=(lG w st)}).h) 0)))))=true from rfl) (.c (show HB 4 (match 0+1+1+1==4 with|true=>.gone|false=>keepX (bD 4 0 []) (.vec [v1] 0 5))=true from rfl) (.c N1 .n)))))))))))) (by rfl) (by rfl)
theorem BK{w:WorldT}(hw:w.ok)(hs:∀x∈w.c,x.small){st term known:Int}(hn:(ad w.f known).length≤500)(hb:(!(Zd (st≥0)&&Zd (st≤19999))||!(Zd (term≥0)&&Zd (term≤1024)))=false)(h:List Blk):Ev Hm Γ0 26 [.agg w.l,int st,int term,int known] h (.tup [.agg [int st,ab ((o6R w known st term).1.map Hq)],.ref (.vec h.length 0),int 0]) (h++[.vec (ae (rdR (o6R w known st term).2)) 0 5]):=by
 have h1:=BJ hw hs (st:=st) (term:=term) (known:=known) hn hb
 have h2:Ev Hm Γ0 26 [.agg w.l,int st,int term,int known] [] (.tup [.agg [int st,ab ((o6R w known st term).1.map Hq)],.ref (.vec 0 0),int 0]) [.vec (ae (rdR (o6R w known st term).2)) 0 5]:=H4 (h1.keepB [3] (by kernel_rfl) ⟨aL _ _,trivial⟩) (by kernel_rfl) (by kernel_rfl)
 exact H4 (h2.frameN (by kernel_rfl) rfl h) (by rfl) (by show h++[Blk.vec ((ae _).map (It _)) 0 5]=_;rw[aL])
noncomputable abbrev jP(w:WorldT):List Blk:=[.var [ab (Hl Hz w.c),ab w.p,ab (Hl HC w.s),ab (Hl Hv w.f)],.var [nq,int 0,int 0,int 0]]
theorem yL{w:WorldT}{st term known:Int}{now:List (List Dp)}(hb:(!(Zd (st≥0)&&Zd (st≤19999))||!(Zd (term≥0)&&Zd (term≤1023)))=true)(h:List Blk):(Ev Hm Γ0 20 [.agg w.l,int st,int term,int known,ab now] h (cN 150) h):=by
 exact z0 [.val (bool (Zd (st≥0)&&Zd (st≤19999))),.val (bool (Zd (term≥0)&&Zd (term≤1023))),.b true] (.c (@bn st 0 19999 (jP w)) (.c (gd (!!(Zd (st≥0)&&Zd (st≤19999))) (@bn term 0 1023 (jP w))) (.c hb .n))) h
def yM(w:WorldT)(st term known:Int)(now:List Int)(r:RecT)(qs:List ReadT):D :=
 BG false (forL nwG now (-1)) (gk w r term known).2.2 (bl (gk w r term known).1).2 (b8 (gk w r term known).1).2.2
  (AD (q2R 4096 now (q1R w r term known (qs++(gk w r term known).2.1++[rdN])).2) (mnI (bl (gk w r term known).1).1 10000) (b8 (gk w r term known).1).1 (b8 (gk w r term known).1).2.1 (q1R w r term known (qs++(gk w r term known).2.1++[rdN])).1)
theorem BL{w:WorldT}(hw:w.ok)(hs:∀x∈w.c,x.small)(hf:w.f.length≤69000){st term known:Int}{now:List Int}(hn:af now)(hN:(ad w.f known).length≤100)
  (hl:(cH w known st term).length≤80000000) (hq:(aD w known st term).length≤80000000)
  (hb:(!(Zd (st≥0)&&Zd (st≤19999))||!(Zd (term≥0)&&Zd (term≤1023)))=false) (h:List Blk) :
  Ev Hm Γ0 20 [.agg w.l,int st,int term,int known,ab (aO now)] h (yM w st term known now ⟨st,cH w known st term⟩ (aD w known st term)) h:=by
 have Qu:(!(Zd (st≥0)&&Zd (st≤19999))||!(Zd (term≥0)&&Zd (term≤1024)))=false:=by
  simp at hb ⊢;omega
 have h26:=fun h=>BK hw hs (st:=st) (term:=term) (known:=known) (by omega) Qu h
 rw[o6R_eq] at h26
 have h2:=zC (w:=w) (r:=⟨st,cH w known st term⟩) (term:=term) (known:=known)
 simp only at h2
 have hr:af (RecT.mk st (cH w known st term)).a:=by unfold af;simp only;omega
 have hc:af (gk w ⟨st,cH w known st term⟩ term known).1:=by unfold af;omega
 have key:=EL hw hf hn (r:=⟨st,cH w known st term⟩) hr (qs:=aD w known st term) (q2:=(gk w ⟨st,cH w known st term⟩ term known).2.1) (cs:=(gk w ⟨st,cH w known st term⟩ term known).1) (e1:=(gk w ⟨st,cH w known st term⟩ term known).2.2) (e0:=0)
  (ns:=[]) (R:=[]) (S:=[]) h26 (fun h=>cnt57_a hw hs (by simp only;omega) (fun h=>check31 hr h) (fun h=>cnt112 (by simp only;omega) (by simp[cM]) h) h)
  hN (by omega) (by omega) (fun h=>CT hc h) (fun h=>CU hc h) h
 rw[hb] at key
 exact key
noncomputable abbrev rf(w:WorldT):List Blk:=[.var [ab (Hl Hz w.c),ab w.p,ab (Hl HC w.s),ab (Hl Hv w.f)]]
theorem rs_out{w:WorldT}{st term known:Int}{now:List Int}(Td:∀h,Ev Hm Γk 17 [] h (bool true) h)(ho:(!mG w||Zd (((now.map fun n=>[vi n]).length:Int)>10))=true)(h:List Blk):(Ev Hm Γk 3 [.agg w.l,int st,int term,int known,ab (now.map fun n=>[vi n])] h (bool true) h):=by
 exact z0 [.val (bool true),.b false,.val (bool (mG w)),.b true] (.c (@Td (rf w)) (.c (show(!true)=false from rfl) (.c (H5 (Γ':=Γk) (@vF w (rf w))) (.c ho .n)))) h
noncomputable abbrev uQ(w:WorldT)(l:List SeenT)(e:Int)(n:Int)(d:Int):List Blk:=[.var [ab (Hl Hz w.c),ab w.p,ab (Hl HC w.s),ab (Hl Hv w.f)],.var [ab (Hl HG l),int e,int n,int d],.var [ab (Hl HG l),int e,int n,int d]]
noncomputable abbrev BM(w:WorldT)(l:List SeenT)(e:Int)(n:Int)(d:Int):List Blk:=[.var [ab (Hl Hz w.c),ab w.p,ab (Hl HC w.s),ab (Hl Hv w.f)],.var [ab (Hl HG l),int e,int n,int d]]
noncomputable abbrev pd(w:WorldT):List Blk:=[.var [ab (Hl Hz w.c),ab w.p,ab (Hl HC w.s),ab (Hl Hv w.f)]]
theorem rs_ok{w:WorldT}{st term known:Int}{now:List Int}(Td:∀h,Ev Hm Γk 17 [] h (bool true) h)(ho:(!mG w||Zd (((now.map fun n=>[vi n]).length:Int)>10))=false){l:List SeenT}{e n d er:Int}{q:List ReadT}(hl:af l)(hq:af q)(hn1:(((rdR q).length:Int) != ((rdR q).length:Int))=false)
  (h19:∀h,Ev Hm Γk 19 [.agg w.l,int st,int term,int known,ab (now.map fun n=>[vi n])] h (.tup [.agg [ab (l.map HG),int e,int n,int d],ab (rdR q),int er]) h)
  (h20:∀h,Ev Hm Γ0 20 [.agg w.l,int st,int term,int known,ab (now.map fun n=>[vi n])] h (.tup [.agg [ab (l.map HG),int e,int n,int d],ab (rdR q),int er]) h)
  (h:List Blk):(Ev Hm Γk 3 [.agg w.l,int st,int term,int known,ab (now.map fun n=>[vi n])] h (bool true) h):=by
 let v0:=HV [H6 [ab (Hl HG l),int e,int n,int d],ab (rdR q),int er]
 exact zD (bool (true&&true&&er==er)) [.val (bool true),.b false,.val (bool (mG w)),.b false,.val v0,.val v0,.val (bool true),.val (bool true)] (.c (@Td (pd w)) (.c (show(!true)=false from rfl) (.c (H5 (Γ':=Γk) (@vF w (pd w))) (.c ho (.c (@h19 (pd w)) (.c (H5 (Γ':=Γk) (@h20 (BM w l e n d))) (.c (H5 (Γ':=Γk) (@jx l e n d hl (uQ w l e n d))) (.c (gd true (H5 (Γ':=Γk) (@tR q hq hn1 (uQ w l e n d)))) .n)))))))) h (by subst v0;simp_all)
theorem uR{w:WorldT}{known term:Int}{m1 m2:IM}{r:RecT}:∀(ns:List Int) (s1:RSM) (s2:List ReadT×List SeenT),s1.1=s2.1→(ns.foldl (nbF w known term m1 m2) s1).1=(ns.foldl (q1F w r term known) s2).1
 | [],_,_,h=>h
 | n::ns,s1,s2,h=>by
  rw[H7,H7]
  exact uR ns _ _ (by simp only[nbF,q1F,h])
theorem s4{w:WorldT}{known term:Int}{aa:List AttT}{rs:List ReadT}{sm:SM}{r:RecT}:(iD w known term aa rs sm).1=(q1R w r term known rs).1:=uR _ _ _ rfl
theorem EP(now:List Int)(es:List SeenT)(c:Int)(l:List SeenT):q2F now es c l=l++q2F now es c []:=by
 unfold q2F
 cases Zd ((es.foldl (q3F c) (0,-1)).1>0)||now.contains c<;>simp
theorem s5(now:List Int)(es:List SeenT):∀(ns:List Nat) (l:List SeenT),ns.foldl (fun (l:List SeenT) (n:Nat)=>q2F now es (n:Int) l) l=l++ns.flatMap (fun n:Nat=>q2F now es (n:Int) [])
 | [],l=>by simp
 | n::ns,l=>by
  rw[H7,s5 now es ns,EP,Kt,J2]
theorem EQ{N:Nat}{now:List Int}{es:List SeenT}{x:SeenT}:x∈q2R N now es ↔ ∃n:Nat,n<N∧(Zd ((es.foldl (q3F n) (0,-1)).1>0)||now.contains (n:Int))=true∧x=SeenT.mk n (es.foldl (q3F n) (0,-1)).1 (es.foldl (q3F n) (0,-1)).2 (now.contains (n:Int)):=by
 unfold q2R
 rw[s5,Kc,List.mem_flatMap]
 constructor
 ·rintro⟨n,hn,hx⟩
  refine⟨n,List.mem_range.1 hn,?_⟩
  unfold q2F at hx
  cases hc:Zd ((es.foldl (q3F n) (0,-1)).1>0)||now.contains (n:Int)<;>rw[hc] at hx
  ·simp at hx
  ·exact⟨rfl,Lb.1 (by simpa only [cond_true,Kc] using hx)⟩
 ·rintro⟨n,hn,hc,hx⟩
  refine⟨n,List.mem_range.2 hn,?_⟩
  unfold q2F
  rw[hc];simp[hx]
theorem yN{now:List Int}{es:List SeenT}{c:Int}{x:SeenT}(h:x∈q2F now es c []):x.aT=c:=by
 unfold q2F at h
 cases hc:Zd ((es.foldl (q3F c) (0,-1)).1>0)||now.contains c<;>rw[hc] at h
 ·simp at h
 ·have e:x=_:=Lb.1 (by simpa only [cond_true,Kc] using h)
  rw[e]
theorem wp(N:Nat)(now:List Int)(es:List SeenT):(q2R N now es).Pairwise (fun a b=>a.aT<b.aT):=by
 unfold q2R
 rw[s5,Kc,List.pairwise_flatMap]
 refine⟨fun n _=>?_,?_⟩
 ·unfold q2F
  cases Zd ((es.foldl (q3F n) (0,-1)).1>0)||now.contains (n:Int)<;>simp
 ·refine List.pairwise_lt_range.imp ?_
  intro a b hab x hx y hy
  rw[yN hx,yN hy]
  omega
def dq(w:WorldT)(r:RecT)(term known n:Int):SeenT:=⟨n,(r.a.foldl (seF (a7 w n term known).2) (0,-1)).1,(r.a.foldl (seF (a7 w n term known).2) (0,-1)).2,false⟩
theorem C9{w:WorldT}{r:RecT}{term known:Int}:∀(ns:List Int) (s:List ReadT×List SeenT),(ns.foldl (q1F w r term known) s).2=s.2++ns.map (dq w r term known)
 | [],s=>by simp
 | n::ns,s=>by
  rw[H7,C9 ns]
  simp only[q1F,Il,J2,List.cons_append,Kc]
  rfl
theorem ER{w:WorldT}{r:RecT}{term known:Int}{rs:List ReadT}:(q1R w r term known rs).2=(ad w.f known).map (dq w r term known):=by
 unfold q1R
 rw[C9]
 rfl
theorem yO{w:WorldT}{r:RecT}{term known c:Int}:∀(ns:List Int) (s:Int×Int),(ns.map (dq w r term known)).foldl (q3F c) s=if c∈ns then ((dq w r term known c).tries,(dq w r term known c).iS) else s
 | [],s=>by simp
 | n::ns,s=>by
  rw[Il,H7,yO ns]
  by_cases h:n=c
  ·subst h
   have e:q3F n s (dq w r term known n)=((dq w r term known n).tries,(dq w r term known n).iS):=by
    unfold q3F
    rw[show((dq w r term known n).aT==n)=true from by simp[dq]]
    rfl
   rw[e]
   simp
  ·have e:q3F c s (dq w r term known n)=s:=by
    unfold q3F
    rw[show((dq w r term known n).aT==c)=false from by simp[dq,h]]
    rfl
   rw[e]
   have:(c∈n::ns) ↔ c∈ns:=by simp[Ne.symm h]
   simp only[this]
theorem rg:∀{l l':List SeenT},l.Pairwise (fun a b=>a.aT<b.aT)→l'.Pairwise (fun a b=>a.aT<b.aT)→(∀x,x∈l ↔ x∈l')→l=l'
 | [],[],_,_,_=>rfl
 | [],b::t,_,_,hm=>by have:=(hm b).2 (by simp);simp at this
 | a::l,[],_,_,hm=>by have:=(hm a).1 (by simp);simp at this
 | a::l,b::t,h1,h2,hm=>by
  rw[List.pairwise_cons] at h1 h2
  have e:a=b:=by
   rcases HR.1 ((hm a).1 (by simp)) with h|h
   ·exact h
   ·rcases HR.1 ((hm b).2 (by simp)) with k|k
    ·exact k.symm
    ·have x1:=h2.1 a h
     have x2:=h1.1 b k
     omega
  subst e
  congr 1
  refine rg h1.2 h2.2 fun x=>⟨fun hx=>?_,fun hx=>?_⟩
  ·rcases HR.1 ((hm x).1 (Iu _ hx)) with h|h
   ·subst h;have:=h1.1 x hx;omega
   ·exact h
  ·rcases HR.1 ((hm x).2 (Iu _ hx)) with h|h
   ·subst h;have:=h2.1 x hx;omega
   ·exact h
theorem wq{w:WorldT}{known term:Int}{m1 m2:IM}{sm sm':SM}{n:Int}(h:bE sm n=bE sm' n):seenOf w known term m1 m2 sm n=seenOf w known term m1 m2 sm' n:=by
 unfold seenOf;rw[h]
theorem Da{w:WorldT}{known term:Int}{m1 m2:IM}{c:Int}:∀(ns:List Int),ns.Nodup→∀(s:RSM),bE (ns.foldl (nbF w known term m1 m2) s).2 c=if c∈ns∧(seenOf w known term m1 m2 s.2 c).tries>0 then some (seenOf w known term m1 m2 s.2 c) else bE s.2 c
 | [],_,s=>by simp
 | n::ns,hd,s=>by
  rw[KH] at hd
  rw[H7,Da ns hd.2]
  have step:(nbF w known term m1 m2 s n).2=if (seenOf w known term m1 m2 s.2 n).tries>0 then bA s.2 n (seenOf w known term m1 m2 s.2 n) else s.2:=by
   unfold nbF
   by_cases h:(seenOf w known term m1 m2 s.2 n).tries>0<;>simp[h]
  by_cases hc:n=c
  ·subst hc
   rw[if_neg (fun h=>hd.1 h.1),step]
   by_cases h:(seenOf w known term m1 m2 s.2 n).tries>0
   ·rw[if_pos h,l4,if_pos rfl,if_pos ⟨by simp,h⟩]
   ·rw[if_neg h,if_neg (fun k=>h k.2)]
  ·have e:bE (nbF w known term m1 m2 s n).2 c=bE s.2 c:=by
    rw[step]
    split
    ·rw[l4,if_neg hc]
    ·rfl
   rw[wq e,e]
   have:(c∈n::ns) ↔ c∈ns:=by simp[Ne.symm hc]
   simp only[this]
theorem yP{w:WorldT}{term known a:Int}{s:RL}{n:Int}(h:s.2.Nodup):(eqN w term known a s n).2.Nodup:=by
 unfold eqN
 cases hc:s.2.contains n
 ·cases eqHit w term known a n
  ·exact h
  ·simp only[cond_false,cond_true]
   rw[List.nodup_append]
   refine⟨h,by simp,fun x hx y hy e=>?_⟩
   simp at hy
   subst hy;subst e
   simp at hc
   exact hc hx
 ·exact h
theorem jQ{w:WorldT}{term known a:Int}:∀(ms:List Int) (s:RL),s.2.Nodup→(ms.foldl (eqN w term known a) s).2.Nodup
 | [],_,h=>h
 | n::ms,s,h=>jQ ms _ (yP h)
theorem lI{w:WorldT}{term known:Int}{ns:List Int}:∀(f i:Nat) (s:RL),s.2.Nodup→(eqOut w term known ns f i s).2.Nodup
 | 0,_,_,h=>h
 | f+1,i,s,h=>by
  unfold eqOut
  split
  ·exact lI f _ _ (jQ _ _ h)
  ·exact h
theorem wr{w:WorldT}{c term known:Int}:(a7 w c term known).2.Nodup:=by
 unfold a7
 split
 ·simp
 ·simp only[xk]
  refine(Jl _ _).nodup_iff.2 ?_
  unfold cI
  exact lI _ _ _ (by simp)
def cE(aa:List AttT)(es:List Int):Nat:=(aa.filter fun a=>es.contains a.aT).length
theorem cE_nil(aa:List AttT):cE aa []=0:=by simp[cE]
theorem cE_le(aa:List AttT)(es:List Int):cE aa es≤aa.length:=List.length_filter_le ..
theorem yQ{c:Int}{es:List Int}(hc:c ∉ es):∀aa:List AttT,cE aa (c::es)=cE aa [c]+cE aa es
 | []=>by simp[cE]
 | a::aa=>by
  have ih:=yQ hc aa
  unfold cE at *
  by_cases h:a.aT=c
  ·have h2:a.aT ∉ es:=h▸hc
   simp[h,hc] at ih ⊢
   omega
  ·by_cases h2:a.aT∈es
   ·simp[h,h2] at ih ⊢
    omega
   ·simp[h,h2] at ih ⊢
    omega
theorem Db(m:IM)(k v c:Int):gI (aM m k v) c=if k=c then v else gI m c:=by
 unfold gI
 rw[eG]
 split<;>rfl
theorem tr_n{c:Int}:∀(l:List AttT) (s:IM×IM),0≤gI s.1 c→gI s.1 c+l.length<4611686018427387904→gI (l.foldl stF s).1 c=gI s.1 c+cE l [c]
 | [],s,_,_=>by simp[cE]
 | a::l,s,h0,h1=>by
  simp only[HY] at h1
  have e:gI (stF s a).1 c=gI s.1 c+if a.aT=c then 1 else 0:=by
   unfold stF
   rw[Db]
   split
   ·rename_i h;rw[h,wrap_i64 (by omega) (by omega)]
   ·omega
  rw[H7,tr_n l _ (by rw[e];split<;>omega) (by rw[e];split<;>omega),e]
  unfold cE
  by_cases h:a.aT=c
  ·simp[h];omega
  ·simp[h]
structure IsB (aa:List AttT) (es:List Int) (b m:Int):Prop where
 one:m=b∨∃a∈aa,a.aT∈es∧m=a.oR
 low:b≤m
 all:∀a∈aa,a.aT∈es→a.oR≤m
theorem IsB.uniq{aa:List AttT}{es:List Int}{b m m':Int}(h:IsB aa es b m)(h':IsB aa es b m'):m=m':=by
 have l1:=h.low
 have l2:=h'.low
 rcases h.one with h1|⟨a,ha,hc,h1⟩
 ·rcases h'.one with h2|⟨x,hx,hd,h2⟩
  ·omega
  ·have:=h.all x hx hd;omega
 ·have:=h'.all a ha hc
  rcases h'.one with h2|⟨x,hx,hd,h2⟩
  ·omega
  ·have:=h.all x hx hd;omega
theorem mx_c(a b:Int):(mxI a b=a∨mxI a b=b)∧a≤mxI a b∧b≤mxI a b:=by
 unfold mxI;split<;>omega
theorem mn_c(a b:Int):mnI a b=min a b:=by
 unfold mnI;split<;>omega
theorem IsB.trans{aa:List AttT}{c:Int}{es:List Int}{b m m':Int}(h:IsB aa [c] b m)(h':IsB aa es m m'):IsB aa (c::es) b m':=by
 refine⟨?_,Int.le_trans h.low h'.low,fun a ha hc=>?_⟩
 ·rcases h'.one with h1|⟨x,hx,hd,h1⟩
  ·subst h1
   rcases h.one with h2|⟨x,hx,hd,h2⟩
   ·exact .inl h2
   ·exact .inr ⟨x,hx,by simp at hd;simp[hd],h2⟩
  ·exact .inr ⟨x,hx,Iu _ hd,h1⟩
 ·rcases HR.1 hc with hc|hc
  ·have:=h.all a ha (by simp[hc])
   have:=h'.low
   omega
  ·exact h'.all a ha hc
theorem IsB.put{l:List AttT}{es:List Int}{a:AttT}{b b' m:Int}(hb:b'=if a.aT∈es then mxI b a.oR else b)(h:IsB l es b' m):IsB (a::l) es b m:=by
 have hm:=mx_c b a.oR
 refine⟨?_,?_,?_⟩
 ·rcases h.one with h1|⟨x,hx,hd,h1⟩
  ·split at hb
   ·rename_i hc
    rcases hm.1 with h2|h2
    ·exact .inl (by omega)
    ·exact .inr ⟨a,by simp,hc,by omega⟩
   ·exact .inl (by omega)
  ·exact .inr ⟨x,Iu _ hx,hd,h1⟩
 ·have:=h.low
  split at hb<;>omega
 ·intro x hx hc
  rcases HR.1 hx with rfl|hx
  ·have:=h.low
   rw[if_pos hc] at hb
   omega
  ·exact h.all x hx hc
theorem tr_b{c:Int}:∀(l:List AttT) (s:IM×IM),IsB l [c] (gI s.2 c) (gI (l.foldl stF s).2 c)
 | [],s=>⟨.inl rfl,by simp,by simp⟩
 | a::l,s=>by
  rw[H7]
  refine(tr_b l _).put ?_
  unfold stF
  rw[Db]
  by_cases h:a.aT=c
  ·simp[h]
  ·simp[h]
theorem se_n{eq:List Int}:∀(l:List AttT) (s:Int×Int),0≤s.1→s.1≤100→(l.foldl (seF eq) s).1=min (s.1+cE l eq) 100
 | [],s,h0,h1=>by simp[cE];omega
 | a::l,s,h0,h1=>by
  rw[H7]
  have e:(seF eq s a).1=min (s.1+if a.aT∈eq then 1 else 0) 100:=by
   unfold seF
   by_cases h:a.aT∈eq
   ·have hc:eq.contains a.aT=true:=by simpa using h
    rw[hc,if_pos h]
    simp only[cond_true]
    rw[mn_c,wrap_i64 (by omega) (by omega)]
   ·have hc:eq.contains a.aT=false:=by simpa using h
    rw[hc,if_neg h]
    simp only[cond_false]
    omega
  rw[se_n l _ (by rw[e];split<;>omega) (by rw[e];omega),e]
  unfold cE
  by_cases h:a.aT∈eq
  ·simp[h];omega
  ·simp[h];omega
theorem se_b{eq:List Int}:∀(l:List AttT) (s:Int×Int),IsB l eq s.2 (l.foldl (seF eq) s).2
 | [],s=>⟨.inl rfl,by simp,by simp⟩
 | a::l,s=>by
  rw[H7]
  refine(se_b l _).put ?_
  unfold seF
  by_cases h:a.aT∈eq
  ·have hc:eq.contains a.aT=true:=by simpa using h
   rw[hc,if_pos h];rfl
  ·have hc:eq.contains a.aT=false:=by simpa using h
   rw[hc,if_neg h];rfl
theorem Dc{l:List AttT}{es:List Int}{a:AttT}(ha:a∈l)(hc:a.aT∈es):0<cE l es:=by
 unfold cE
 exact List.length_pos_iff.2 fun h=>by
  have:a∈l.filter fun a=>es.contains a.aT:=J6.2 ⟨ha,by simpa using hc⟩
  rw[h] at this
  simp at this
theorem Dd{aa:List AttT}(hl:aa.length≤80000000)(hg:∀a∈aa,0≤a.oR):∀(es:List Int) (x:SeenT),es.Nodup→0≤x.tries→x.tries≤100 →
  (es.foldl (xF (triesR aa).1 (triesR aa).2) x).tries=min (x.tries+cE aa es) 100∧IsB aa es x.iS (es.foldl (xF (triesR aa).1 (triesR aa).2) x).iS∧(es.foldl (xF (triesR aa).1 (triesR aa).2) x).aT=x.aT∧(es.foldl (xF (triesR aa).1 (triesR aa).2) x).now=x.now
 | [],x,_,h0,h1=>⟨by rw[cE_nil,List.foldl_nil];omega,⟨.inl rfl,by simp,by simp⟩,rfl,rfl⟩
 | c::es,x,hd,h0,h1=>by
  rw[KH] at hd
  have hn:gI (triesR aa).1 c=cE aa [c]:=by
   have:=tr_n (c:=c) aa ([],[]) (by simp[gI,imGet]) (by simp[gI,imGet];omega)
   simpa[triesR,gI,imGet] using this
  have hb:IsB aa [c] 0 (gI (triesR aa).2 c):=by
   have:=tr_b (c:=c) aa ([],[])
   simpa[triesR,gI,imGet] using this
  have hle:=cE_le aa [c]
  have e1:(xF (triesR aa).1 (triesR aa).2 x c).tries=min (x.tries+cE aa [c]) 100:=by
   unfold xF
   by_cases h:gI (triesR aa).1 c>0
   ·rw[decide_eq_true h]
    simp only[cond_true]
    rw[hn,mn_c,wrap_i64 (by omega) (by omega)]
   ·rw[decide_eq_false h]
    simp only[cond_false]
    omega
  have e2:IsB aa [c] x.iS (xF (triesR aa).1 (triesR aa).2 x c).iS:=by
   unfold xF
   by_cases h:gI (triesR aa).1 c>0
   ·rw[decide_eq_true h]
    simp only[cond_true]
    have hm:=mx_c x.iS (gI (triesR aa).2 c)
    refine⟨?_,hm.2.1,fun a ha hc=>Int.le_trans (hb.all a ha hc) hm.2.2⟩
    rcases hm.1 with h2|h2
    ·exact .inl h2
    ·rcases hb.one with h3|⟨a,ha,hc,h3⟩
     ·have:0<cE aa [c]:=by omega
      obtain⟨a,ha⟩:=List.exists_mem_of_length_pos this
      obtain⟨ha,hc⟩:=J6.1 ha
      have hc:a.aT∈[c]:=by simpa using hc
      have h4:=hg a ha
      have h5:=hb.all a ha hc
      exact .inr ⟨a,ha,hc,by omega⟩
     ·exact .inr ⟨a,ha,hc,by omega⟩
   ·rw[decide_eq_false h]
    simp only[cond_false]
    refine⟨.inl rfl,Nq _,fun a ha hc=>?_⟩
    have:=Dc ha hc
    omega
  have e3:(xF (triesR aa).1 (triesR aa).2 x c).aT=x.aT∧(xF (triesR aa).1 (triesR aa).2 x c).now=x.now:=by
   unfold xF
   cases Zd (gI (triesR aa).1 c>0)<;>exact⟨rfl,rfl⟩
  have h:=Dd hl hg es (xF (triesR aa).1 (triesR aa).2 x c) hd.2 (by rw[e1];omega) (by rw[e1];omega)
  rw[H7]
  refine⟨?_,e2.trans h.2.1,h.2.2.1.trans e3.1,h.2.2.2.trans e3.2⟩
  rw[h.1,e1,yQ hd.1]
  omega
theorem De{c:Int}:∀(now:List Int) (s s':Int×SM),forL snF now s=.inl s'→bE s'.2 c=if c∈now then some ⟨c,0,-1,true⟩ else bE s.2 c
 | [],s,s',h=>by
  simp only[forL,Sum.inl.injEq] at h
  subst h
  simp
 | n::now,s,s',h=>by
  simp only[forL,snF] at h
  cases hk:snOk s.1 n<;>rw[hk] at h
  ·simp at h
  ·simp only[cond_true] at h
   rw[De now _ _ h,l4]
   by_cases h1:n=c
   ·subst h1;simp
   ·have:(c∈n::now) ↔ c∈now:=by simp[Ne.symm h1]
    simp only[this,if_neg h1]
theorem sn_in:∀(now:List Int) (s s':Int×SM),-1≤s.1→s.1≤4095→forL snF now s=.inl s'→∀c∈now,0≤c∧c≤4095
 | [],_,_,_,_,_=>by simp
 | n::now,s,s',h0,h1,h=>by
  simp only[forL,snF] at h
  cases hk:snOk s.1 n<;>rw[hk] at h
  ·simp at h
  ·simp only[cond_true] at h
   unfold snOk at hk
   rw[wrap_i64 (by omega) (by omega)] at hk
   simp only[Hx,decide_eq_true_eq] at hk
   intro c hc
   rcases HR.1 hc with rfl|hc
   ·omega
   ·exact sn_in now _ s' (show -1≤n by omega) (show n≤4095 by omega) h c hc
theorem yR{m:SM}{k:Int}{x:SeenT}(h:bE m k=some x):(k,x)∈m:=by
 induction m with
 | nil=>simp[bE] at h
 | cons e m ih =>
  obtain⟨a,v⟩:=e
  unfold bE at h
  split at h
  ·rename_i h1
   subst h1
   cases h
   simp
  ·exact Iu _ (ih h)
theorem SmOk.get{m:SM}(h:SmOk m){x:SeenT}:x∈smV m ↔ bE m x.aT=some x:=by
 constructor
 ·intro hx
  obtain⟨⟨k,v⟩,he,hv⟩:=HQ.1 hx
  simp only at hv
  subst hv
  have h1:=h.2 _ he
  simp only at h1
  rw[h1]
  have key:∀(m:SM),(m.map (·.1)).Nodup→(k,v)∈m→bE m k=some v:=by
   intro m
   induction m with
   | nil=>intro _ h;simp at h
   | cons a m ih =>
    intro hn ha
    simp only[Il,KH] at hn
    rcases HR.1 ha with rfl|ha2
    ·simp[bE]
    ·obtain⟨a,w⟩:=a
     have Ou:¬a=k:=fun e=>hn.1 (by subst e;exact HQ.2 ⟨_,ha2,rfl⟩)
     unfold bE
     rw[if_neg Ou]
     exact ih hn.2 ha2
  exact key m h.1 he
 ·intro hg
  exact HQ.2 ⟨_,yR hg,rfl⟩
theorem ws{m:SM}(h:SmOk m):((smV m).mergeSort leS).Pairwise (fun a b=>a.aT<b.aT):=by
 have h1:=List.pairwise_mergeSort me mf (smV m)
 have hn:(smV m).Pairwise (fun a b=>a.aT ≠ b.aT):=by
  unfold smV
  rw[List.pairwise_map]
  have:=h.1
  rw[List.Nodup,List.pairwise_map] at this
  refine List.Pairwise.imp_of_mem ?_ this
  intro a b ha hb Ou e
  rw[h.2 a ha,h.2 b hb] at e
  exact Ou e
 have h2:((smV m).mergeSort leS).Pairwise (fun a b=>a.aT ≠ b.aT):=((Jl _ _).pairwise_iff (fun {a b} h e=>h e.symm)).2 hn
 refine(h1.and h2).imp ?_
 intro a b ⟨ha,hb⟩
 rw[md] at ha
 omega
theorem ES{w:WorldT}{r:RecT}{known term:Int}{sm:SM}{c:Int}(hl:r.a.length≤80000000)(hg:∀a∈r.a,0≤a.oR):
  seenOf w known term (triesR r.a).1 (triesR r.a).2 sm c=⟨c,(dq w r term known c).tries,(dq w r term known c).iS,((bE sm c).getD l8).now⟩∧0≤(dq w r term known c).tries∧((dq w r term known c).tries=0→(dq w r term known c).iS = -1):=by
 have h:=Dd hl hg (a7 w c term known).2 ⟨c,0,-1,((bE sm c).getD l8).now⟩ wr (Nq _) (show(0:Int)≤100 by decide)
 have h1:=se_n (eq:=(a7 w c term known).2) r.a (0,-1) (Nq _) (by decide)
 have h2:=se_b (eq:=(a7 w c term known).2) r.a (0,-1)
 have e1:(seenOf w known term (triesR r.a).1 (triesR r.a).2 sm c).tries=(dq w r term known c).tries:=h.1.trans h1.symm
 have e2:(seenOf w known term (triesR r.a).1 (triesR r.a).2 sm c).iS=(dq w r term known c).iS:=h.2.1.uniq h2
 refine⟨?_,?_,fun h0=>?_⟩
 ·rw[←e1,←e2]
  have e3:(seenOf w known term (triesR r.a).1 (triesR r.a).2 sm c).aT=c:=h.2.2.1
  have e4:(seenOf w known term (triesR r.a).1 (triesR r.a).2 sm c).now=((bE sm c).getD l8).now:=h.2.2.2
  generalize seenOf w known term (triesR r.a).1 (triesR r.a).2 sm c=x at e3 e4 ⊢
  obtain⟨a,b,d,e⟩:=x
  simp only at e3 e4
  subst e3;subst e4
  rfl
 ·show 0≤(r.a.foldl (seF (a7 w c term known).2) (0,-1)).1
  rw[h1];simp only;omega
 ·have h0:(r.a.foldl (seF (a7 w c term known).2) (0,-1)).1=0:=h0
  rw[h1] at h0
  show(r.a.foldl (seF (a7 w c term known).2) (0,-1)).2 = -1
  rcases h2.one with h3|⟨a,ha,hc,_⟩
  ·exact h3
  ·have:=Dc ha hc
   simp only at h0
   omega
theorem yS{w:WorldT}{r:RecT}{known term:Int}{now:List Int}{s:Int×SM}{rs rs':List ReadT}(hl:r.a.length≤80000000)(hg:∀a∈r.a,0≤a.oR)(hs:snR now=.inl s):
  (smV (iD w known term r.a rs s.2).2).mergeSort leS=q2R 4096 now (q1R w r term known rs').2:=by
 have Oa:SmOk (iD w known term r.a rs s.2).2:=tN hs
 refine rg (ws Oa) (wp _ _ _) fun x=>?_
 have hn:∀c,bE s.2 c=if c∈now then some ⟨c,0,-1,true⟩ else none:=fun c=>by
  rw[De now (-1,[]) s hs]
  rfl
 have hw:∀c,((bE s.2 c).getD l8).now=now.contains c:=fun c=>by
  rw[hn]
  by_cases h:c∈now
  ·simp[h]
  ·simp[h,l8]
 have P1:=sn_in now (-1,[]) s (by decide) (by decide) hs
 rw[List.mem_mergeSort,Oa.get,EQ]
 unfold iD
 rw[Da _ gt,ER]
 obtain⟨e1,e2,e3⟩:=ES (w:=w) (known:=known) (term:=term) (sm:=s.2) (c:=x.aT) hl hg
 simp only[yO]
 rw[e1,hw,hn]
 have hni:=n7 (fs:=w.f) (known:=known) x.aT
 simp only
 constructor
 ·intro h
  by_cases hc:x.aT∈ad w.f known
  ·have hb:=hni hc
   refine⟨x.aT.toNat,by omega,?_⟩
   rw[NA hb.1,if_pos hc]
   by_cases ht:(dq w r term known x.aT).tries>0
   ·rw[if_pos ⟨hc,ht⟩] at h
    refine⟨by simp[ht],?_⟩
    simp only[Ho] at h
    exact h.symm
   ·rw[if_neg (fun k=>ht k.2)] at h
    have h0:(dq w r term known x.aT).tries=0:=by omega
    by_cases hm:x.aT∈now
    ·rw[if_pos hm] at h
     refine⟨by simp[hm],?_⟩
     simp only[Ho] at h
     rw[h0,e3 h0,←h]
     simp[hm]
    ·rw[if_neg hm] at h;cases h
  ·rw[if_neg (fun k=>hc k.1)] at h
   by_cases hm:x.aT∈now
   ·rw[if_pos hm] at h
    have hb:=P1 _ hm
    refine⟨x.aT.toNat,by omega,?_⟩
    rw[NA hb.1,if_neg hc]
    refine⟨by simp[hm],?_⟩
    simp only[Ho] at h
    rw[←h]
    simp[hm]
   ·rw[if_neg hm] at h;cases h
 ·rintro⟨n,hn4,Ow,hx⟩
  have hxc:x.aT=(n:Int):=by rw[hx]
  rw[←hxc] at Ow hx
  by_cases hc:x.aT∈ad w.f known
  ·rw[if_pos hc] at Ow hx
   by_cases ht:(dq w r term known x.aT).tries>0
   ·rw[if_pos ⟨hc,ht⟩]
    exact congrArg some hx.symm
   ·rw[if_neg (fun k=>ht k.2)]
    have h0:(dq w r term known x.aT).tries=0:=by omega
    have hm:x.aT∈now:=by simpa[h0] using Ow
    rw[if_pos hm]
    rw[h0,e3 h0] at hx
    rw[show now.contains x.aT=true by simpa using hm] at hx
    exact congrArg some hx.symm
  ·rw[if_neg hc] at Ow hx
   rw[if_neg (fun k=>hc k.1)]
   have hm:x.aT∈now:=by simpa using Ow
   rw[if_pos hm]
   rw[show now.contains x.aT=true by simpa using hm] at hx
   exact congrArg some hx.symm
end Go.Vi
