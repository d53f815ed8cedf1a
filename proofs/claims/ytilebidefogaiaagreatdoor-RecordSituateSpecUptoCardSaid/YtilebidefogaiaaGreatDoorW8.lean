/- RecordSituateSpecUpto: part of the proof: contracts of the functions that the law reaches, and the law. No conditions beyond the given statement's own. -/
import Derived.Test.YtilebidefogaiaaGreatDoorW7
open Decidable renaming decide → Zd
open Go.Vi.D renaming mapRL → It, tup → HV, agg → H6, mapR → HO
open Go.Vi.Blk renaming Om → HB
open List renaming mem_map → HQ, map → Hl, length → Hn, mergeSort → IA, mem_cons → HR, length_cons → HY, range' → KP, map_cons → Il, nodup_cons → KH, length_append → ID, pairwise_mergeSort → J8, mergeSort_perm → Jl, mem_cons_of_mem → Iu, mem_cons_self → IE, foldl_cons → H7, length_map → Ir, length_nil → Jj, foldl → HP, getElem?_eq_some_iff → Hs, getElem?_eq_getElem → HH, zip_cons_cons → Nz, range → Iy, getD → HD, replicate → HX, append_assoc → J2, pairwise_cons → Ke, takeWhile_cons → Ly, dropWhile_cons → Np, takeWhile_append_dropWhile → LN, pairwise_append → LB, singleton_append → MN
open Go.Vi.SeenT renaming row → HG
open Go.Proofs.Tryz renaming prog → Hm, f19 → IR, f24 → M5, f74 → M6
open Go.Vi.CourseT renaming row → Hz, zero → LD
open Go.Vi.SysT renaming row → HC
open Go.Vi.FactT renaming row → Hv
open Go.Exit renaming normal → HA, exit → HT, ret → IB
open Go.Vi.WorldT renaming l → HI
open Go.Value renaming oneCell' → IJ
open Go.Vi.AttT renaming row → Hq
open Go.Vi.Ev renaming glob0 → H5, castH → H4, frameX → JA
open Bool renaming or_eq_true → Ju, and_eq_true → Hx, or_eq_false_iff → I6
open List.Perm renaming eq_of_pairwise → KA
open Nat renaming zero_add → I3
open Go.IntKind renaming i64 → Hp, wrap → Ht
open Go.Vi.PtT renaming row → Jo
open List.Pairwise renaming nil → Ma
open Go Go.Proofs
namespace Go.Vi
set_option maxRecDepth 100000
set_option maxHeartbeats 4000000
def CG(e:D×D×Nat):SeenT:=match e.2.1 with
 | .agg [.p (.v (.int _ a)),.p (.v (.int _ b)),.p (.v (.int _ c)),.p (.v (.bool d))]=>⟨a,b,c,d⟩
 | _=>l8
abbrev mpH(w:WorldT)(known st:Int)(sm:SM)(rs:List ReadT)(as_:List (List Dp))(m1 m2:IM)(l:List SeenT)(bs:List Nat):List Blk :=
 [.var w.l,.var [.ref (.vec 8 0),int 0,int 0,int 0],smB sm,siK w known 0,.vec (ae (rdR rs)) 0 5,.var [int st,ab as_],imB m1,imB m2,.vec (aS l) 0 4,.mit (some 2) sm.length bs sm.length]
abbrev mpT(cs:List (List Dp)):List (Nat×D):=[(10,.ref (.ptr 1 0)),(11,ay),(17,.ref (.ptr 3 0)),(19,ab cs),(150,.ref (.it 9))]
theorem GT(l:List SeenT)(f:Ref→D):(aS l).map (It f)=aS l:=by
 rw[List.map_map];exact List.map_congr_left fun a _=>rfl
theorem GU{n:Nat}{l:List SeenT}{e sz:Nat}:HB n (.vec (aS l) e sz)=true:=by
 show(aS l).all (D.innL n)=true
 rw[List.all_eq_true]
 intro r hr
 obtain⟨x,_,rfl⟩:=HQ.1 hr
 rfl
theorem tM(l:List SeenT)(x:SeenT):aS l++[[int x.aT,int x.tries,int x.iS,bool x.now]]=aS (l++[x]):=by simp[aS,HG]
theorem Az(l:List SeenT):aS l=(l.map HG).map (Hl D.p):=by simp[aS]
def DA:Code→Code
 | .seq _ (.seq _ r)=>r
 | _=>.skip
theorem GV{w:WorldT}{known st:Int}{sm:SM}{rs:List ReadT}{cs as_:List (List Dp)}{m1 m2:IM}{l:List SeenT}{bs:List Nat}{k:Int}{x:SeenT}(hl:l.length≤1000000)(he:gn (mpH w known st sm rs as_ m1 m2 l bs) (.ref (.it 9))=some (.tup [int k,.agg [int x.aT,int x.tries,int x.iS,bool x.now]])):(CW Hm Γk [] false (DA (sub IR 4)) {t:=mkT 190 0 (mpT cs++[(151,.tup [bool true,int k,seD x]),(152,bool true)]),h:=mpH w known st sm rs as_ m1 m2 l bs,m:=[]} .normal {t:=mkT 190 0 (mpT cs),h:=mpH w known st sm rs as_ m1 m2 (l++[x]) bs,m:=[]}):=by
 let v0:List D:=[int x.aT,int x.tries,int x.iS,bool x.now]
 let v1:List D:=[.ref (.vec 4 0),ab (Hl Hz w.c),ab w.p,ab (Hl HC w.s),ab (Hl Hv w.f),int known]
 refine zX {t:=mkT 190 0 [(10,.ref (.ptr 1 0)),(11,nq),(17,.ref (.ptr 3 0)),(19,ab cs),(150,.ref (.it 9))],h:=[.var [ab (Hl Hz w.c),ab w.p,ab (Hl HC w.s),ab (Hl Hv w.f)],.var [.ref (.vec 8 0),int 0,int 0,int 0],.map (aQ 0 sm) (Hn sm),.var v1,.vec (ae (rdR rs)) 0 5,.var [int st,ab as_],.map (ar 0 m1) (Hn m1),.map (ar 0 m2) (Hn m2),.vec (aS l++[v0]) 0 4,.mit (some 2) (Hn sm) bs (Hn sm)],m:=[]} HA [.st (.mask [10,11,17,19,150]),.st (.ren 8 0),.st (.trimV 10)] [.ov 153 (HV [int k,H6 v0])] (.c (show gn [.var (HI w),.var [.ref (.vec 8 0),int 0,int 0,int 0],.map (aQ 0 sm) (Hn sm),.var v1,.vec (ae (rdR rs)) 0 5,.var [int st,ab as_],.map (ar 0 m1) (Hn m1),.map (ar 0 m2) (Hn m2),.vec (aS l) 0 4,.mit (some 2) (Hn sm) bs (Hn sm)] (.ref (.it 9))=some (HV [int k,H6 v0]) from ?_) (.c (show(List.all [v0] (aG 4)&&roomOk (Hn (aS l)+Hn [v0]) 32)=true from ?_) (.c (show Hl (It (al 8 1 0)) (aS l++[v0])=aS l++[v0] from ?_) (.c (show Hl (fun e=>(HO (al 8 1 0) e.1,HO (al 8 1 0) e.2.1,e.2.2)) (aQ 0 sm)=aQ 0 sm from ?_) (.c (vM (rdR rs) 8 1 0) (.c (show Hl (fun e=>(HO (al 8 1 0) e.1,HO (al 8 1 0) e.2.1,e.2.2)) (ar 0 m1)=ar 0 m1 from ?_) (.c (show Hl (fun e=>(HO (al 8 1 0) e.1,HO (al 8 1 0) e.2.1,e.2.2)) (ar 0 m2)=ar 0 m2 from ?_) (.er [v0] (.c (show HB 10 (match 0==8 with|true=>.vec (aS l++[v0]) 0 4|false=>keepX (al 8 1 0) (.var (HI w)))=true from rfl) (.c (show HB 10 (match 0+1==8 with|true=>.vec (aS l++[v0]) 0 4|false=>keepX (al 8 1 0) (.var [.ref (.vec 8 1),int 0,int 0,int 0]))=true from rfl) (.c (show HB 10 (match 0+1+1==8 with|true=>.vec (aS l++[v0]) 0 4|false=>keepX (al 8 1 0) (.map (aQ 0 sm) (Hn sm)))=true from ?_) (.c (show HB 10 (match 0+1+1+1==8 with|true=>.vec (aS l++[v0]) 0 4|false=>keepX (al 8 1 0) (.var v1))=true from rfl) (.c (show HB 10 (match 0+1+1+1+1==8 with|true=>.vec (aS l++[v0]) 0 4|false=>keepX (al 8 1 0) (.vec (ae (rdR rs)) 0 5))=true from ?_) (.c (show HB 10 (match 0+1+1+1+1+1==8 with|true=>.vec (aS l++[v0]) 0 4|false=>keepX (al 8 1 0) (.var [int st,ab as_]))=true from rfl) (.c (show HB 10 (match 0+1+1+1+1+1+1==8 with|true=>.vec (aS l++[v0]) 0 4|false=>keepX (al 8 1 0) (.map (ar 0 m1) (Hn m1)))=true from ?_) (.c (show HB 10 (match 0+1+1+1+1+1+1+1==8 with|true=>.vec (aS l++[v0]) 0 4|false=>keepX (al 8 1 0) (.map (ar 0 m2) (Hn m2)))=true from ?_) (.c (show HB 10 (match 0+1+1+1+1+1+1+1+1==8 with|true=>.vec (aS l++[v0]) 0 4|false=>keepX (al 8 1 0) (.vec (aS l++[v0]) 1 4))=true from ?_) (.c (show HB 10 (match 0+1+1+1+1+1+1+1+1+1==8 with|true=>.vec (aS l++[v0]) 0 4|false=>keepX (al 8 1 0) (.mit (some 2) (Hn sm) bs (Hn sm)))=true from rfl) .n)))))))))))))))))) (by subst v0 v1;rfl) (by subst v0 v1;(simp only[tM];first|done|rfl))<;>subst v0 v1<;>(first|assumption|exact eH|exact n3|exact aP|exact cb _ _ _|exact bP _ _ _|(rw[tM];exact GT _ _)|(simp only[tM];exact GU)|(simp[aG,D.one,IJ,roomOk];omega))
theorem ma{x0 x1 x2 x3 x4 x5 x6 x7 x9:Blk}{l:List SeenT}(hl:l.length<4611686018427387904)(hT:∀x∈l,∀y∈l,x.aT=y.aT→x=y):
  Ev Hm Γ0 64 [.ref (.vec 8 0),.p (.v (.func (.func 65) #[] #[]))] [x0,x1,x2,x3,x4,x5,x6,x7,.vec (aS l) 0 4,x9] (.tup []) [x0,x1,x2,x3,x4,x5,x6,x7,.vec (aS (l.mergeSort leS)) 0 4,x9] :=
 tL (h:=[x0,x1,x2,x3,x4,x5,x6,x7,.vec (aS l) 0 4,x9]) (b:=8) rfl hl hT
abbrev pwS(w:WorldT)(known st:Int)(sm:SM)(rs:List ReadT)(la:List AttT)(as_:List (List Dp))(m1 m2:IM)(l:List SeenT)(bs:List Nat):AS :=
 {t:=mkT 190 0 (mpT (la.map Hq)++[(151,.tup [bool false]),(152,bool false)]),h:=mpH w known st sm rs as_ m1 m2 l bs,m:=[]}
abbrev pwX(w:WorldT)(e:Int):AS:={t:=mkT 190 0 [(10,.ref (.ptr 1 0)),(11,ay),(12,int e)],h:=[.var w.l,xl],m:=[]}
abbrev pwE(w:WorldT)(rs:List ReadT)(la:List AttT)(l:List SeenT):AS :=
 {t:=mkT 190 0 [(10,.ref (.ptr 1 0)),(11,ab (rdR rs)),(12,int 0)],h:=[.var w.l,.var [ab ((l.mergeSort leS).map HG),int (mnI (bl la).1 10000),int (b8 la).1,int (b8 la).2.1]],m:=[]}
noncomputable abbrev GW(w:WorldT)(known:Int)(st:Int)(sm:SM)(rs:List ReadT)(as_:List (List Dp))(m1:IM)(m2:IM)(l:List SeenT)(bs:List Nat):List Blk:=[.var [ab (Hl Hz w.c),ab w.p,ab (Hl HC w.s),ab (Hl Hv w.f)],.var [ab (Hl HG (IA l leS)),int 0,int 0,int 0],.map (aQ 0 sm) (Hn sm),.var [.ref (.vec 4 0),ab (Hl Hz w.c),ab w.p,ab (Hl HC w.s),ab (Hl Hv w.f),int known],.vec (ae (rdR rs)) 0 5,.var [int st,ab as_],.map (ar 0 m1) (Hn m1),.map (ar 0 m2) (Hn m2),.gone,.mit (some 2) (Hn sm) bs (Hn sm)]
theorem pw_a{w:WorldT}{known st:Int}{sm:SM}{rs:List ReadT}{la:List AttT}(Sm:af la){as_:List (List Dp)}{m1 m2:IM}{l:List SeenT}{bs:List Nat}(hl:l.length<4611686018427387904)(hT:∀x∈l,∀y∈l,x.aT=y.aT→x=y)(h1:((bl la).2 != 0)=true):(CW Hm Γk [] false (qQ (ja IR) 4) (pwS w known st sm rs la as_ m1 m2 l bs) .ret (pwX w (bl la).2)):=by
 let v0:=Hl HG (IA l leS)
 let v1:List D:=[.ref (.vec 4 0),ab (Hl Hz w.c),ab w.p,ab (Hl HC w.s),ab (Hl Hv w.f),int known]
 refine zx [.st (.mask [10,11,12]),.st (.trim 2)] [.call (HV []) [.var (HI w),.var [.ref (.vec 8 0),int 0,int 0,int 0],.map (aQ 0 sm) (Hn sm),.var v1,.vec (ae (rdR rs)) 0 5,.var [int st,ab as_],.map (ar 0 m1) (Hn m1),.map (ar 0 m2) (Hn m2),.vec (aS (IA l leS)) 0 4,.mit (some 2) (Hn sm) bs (Hn sm)],.st (.frz 8 v0),.val (HV [int (bl la).1,int (bl la).2]),.b true] (.c (H5 (Γ':=Γk) (@ma (.var (HI w)) (.var [.ref (.vec 8 0),int 0,int 0,int 0]) (.map (aQ 0 sm) (Hn sm)) (.var v1) (.vec (ae (rdR rs)) 0 5) (.var [int st,ab as_]) (.map (ar 0 m1) (Hn m1)) (.map (ar 0 m2) (Hn m2)) (.mit (some 2) (Hn sm) bs (Hn sm)) l hl hT)) (.c (show aS (IA l leS)=Hl (fun x=>Hl D.p x) v0 from ?_) (.c (show Hl (fun e=>(HO (bD 8 0 v0) e.1,HO (bD 8 0 v0) e.2.1,e.2.2)) (aQ 0 sm)=aQ 0 sm from ?_) (.c (show Hl (It (bD 8 0 v0)) (ae (rdR rs))=ae (rdR rs) from ?_) (.c (show Hl (fun e=>(HO (bD 8 0 v0) e.1,HO (bD 8 0 v0) e.2.1,e.2.2)) (ar 0 m1)=ar 0 m1 from ?_) (.c (show Hl (fun e=>(HO (bD 8 0 v0) e.1,HO (bD 8 0 v0) e.2.1,e.2.2)) (ar 0 m2)=ar 0 m2 from ?_) (.c (H5 (Γ':=Γk) (@lW la Sm (GW w known st sm rs as_ m1 m2 l bs))) (.c h1 .n))))))))<;>subst v0 v1<;>(first|exact Az _|exact aL _ _|exact cb _ _ _|exact bP _ _ _)
noncomputable abbrev GX(w:WorldT)(known:Int)(st:Int)(sm:SM)(rs:List ReadT)(la:List AttT)(as_:List (List Dp))(m1:IM)(m2:IM)(l:List SeenT)(bs:List Nat):List Blk:=[.var [ab (Hl Hz w.c),ab w.p,ab (Hl HC w.s),ab (Hl Hv w.f)],.var [ab (Hl HG (IA l leS)),int (if false=true then if 10000>(bl la).1 then 10000 else (bl la).1 else if 10000<(bl la).1 then 10000 else (bl la).1),int 0,int 0],.map (aQ 0 sm) (Hn sm),.var [.ref (.vec 4 0),ab (Hl Hz w.c),ab w.p,ab (Hl HC w.s),ab (Hl Hv w.f),int known],.vec (ae (rdR rs)) 0 5,.var [int st,ab as_],.map (ar 0 m1) (Hn m1),.map (ar 0 m2) (Hn m2),.gone,.mit (some 2) (Hn sm) bs (Hn sm)]
noncomputable abbrev GY(w:WorldT)(known:Int)(st:Int)(sm:SM)(rs:List ReadT)(as_:List (List Dp))(m1:IM)(m2:IM)(l:List SeenT)(bs:List Nat):List Blk:=[.var [ab (Hl Hz w.c),ab w.p,ab (Hl HC w.s),ab (Hl Hv w.f)],.var [ab (Hl HG (IA l leS)),int 0,int 0,int 0],.map (aQ 0 sm) (Hn sm),.var [.ref (.vec 4 0),ab (Hl Hz w.c),ab w.p,ab (Hl HC w.s),ab (Hl Hv w.f),int known],.vec (ae (rdR rs)) 0 5,.var [int st,ab as_],.map (ar 0 m1) (Hn m1),.map (ar 0 m2) (Hn m2),.gone,.mit (some 2) (Hn sm) bs (Hn sm)]
theorem pw_b{w:WorldT}{known st:Int}{sm:SM}{rs:List ReadT}{la:List AttT}(Sm:af la){as_:List (List Dp)}{m1 m2:IM}{l:List SeenT}{bs:List Nat}(hl:l.length<4611686018427387904)(hT:∀x∈l,∀y∈l,x.aT=y.aT→x=y)(h1:((bl la).2 != 0)=false)(h2:((b8 la).2.2 != 0)=true):(CW Hm Γk [] false (qQ (ja IR) 4) (pwS w known st sm rs la as_ m1 m2 l bs) .ret (pwX w (b8 la).2.2)):=by
 let v0:=Hl HG (IA l leS)
 let v1:List D:=[.ref (.vec 4 0),ab (Hl Hz w.c),ab w.p,ab (Hl HC w.s),ab (Hl Hv w.f),int known]
 refine zx [.st (.mask [10,11,12]),.st (.trim 2)] [.call (HV []) [.var (HI w),.var [.ref (.vec 8 0),int 0,int 0,int 0],.map (aQ 0 sm) (Hn sm),.var v1,.vec (ae (rdR rs)) 0 5,.var [int st,ab as_],.map (ar 0 m1) (Hn m1),.map (ar 0 m2) (Hn m2),.vec (aS (IA l leS)) 0 4,.mit (some 2) (Hn sm) bs (Hn sm)],.st (.frz 8 v0),.val (HV [int (bl la).1,int (bl la).2]),.b false,.val (HV [H6 [int (b8 la).1,int (b8 la).2.1],int (b8 la).2.2]),.b true] (.c (H5 (Γ':=Γk) (@ma (.var (HI w)) (.var [.ref (.vec 8 0),int 0,int 0,int 0]) (.map (aQ 0 sm) (Hn sm)) (.var v1) (.vec (ae (rdR rs)) 0 5) (.var [int st,ab as_]) (.map (ar 0 m1) (Hn m1)) (.map (ar 0 m2) (Hn m2)) (.mit (some 2) (Hn sm) bs (Hn sm)) l hl hT)) (.c (show aS (IA l leS)=Hl (fun x=>Hl D.p x) v0 from ?_) (.c (show Hl (fun e=>(HO (bD 8 0 v0) e.1,HO (bD 8 0 v0) e.2.1,e.2.2)) (aQ 0 sm)=aQ 0 sm from ?_) (.c (show Hl (It (bD 8 0 v0)) (ae (rdR rs))=ae (rdR rs) from ?_) (.c (show Hl (fun e=>(HO (bD 8 0 v0) e.1,HO (bD 8 0 v0) e.2.1,e.2.2)) (ar 0 m1)=ar 0 m1 from ?_) (.c (show Hl (fun e=>(HO (bD 8 0 v0) e.1,HO (bD 8 0 v0) e.2.1,e.2.2)) (ar 0 m2)=ar 0 m2 from ?_) (.c (H5 (Γ':=Γk) (@lW la Sm (GY w known st sm rs as_ m1 m2 l bs))) (.c h1 (.c (H5 (Γ':=Γk) (@rQ la Sm (GX w known st sm rs la as_ m1 m2 l bs))) (.c h2 .n))))))))))<;>subst v0 v1<;>(first|exact Az _|exact aL _ _|exact cb _ _ _|exact bP _ _ _)
noncomputable abbrev GZ(w:WorldT)(known:Int)(st:Int)(sm:SM)(rs:List ReadT)(la:List AttT)(as_:List (List Dp))(m1:IM)(m2:IM)(l:List SeenT)(bs:List Nat):List Blk:=[.var [ab (Hl Hz w.c),ab w.p,ab (Hl HC w.s),ab (Hl Hv w.f)],.var [ab (Hl HG (IA l leS)),int (if false=true then if 10000>(bl la).1 then 10000 else (bl la).1 else if 10000<(bl la).1 then 10000 else (bl la).1),int 0,int 0],.map (aQ 0 sm) (Hn sm),.var [.ref (.vec 4 0),ab (Hl Hz w.c),ab w.p,ab (Hl HC w.s),ab (Hl Hv w.f),int known],.vec (ae (rdR rs)) 0 5,.var [int st,ab as_],.map (ar 0 m1) (Hn m1),.map (ar 0 m2) (Hn m2),.gone,.mit (some 2) (Hn sm) bs (Hn sm)]
noncomputable abbrev G0(w:WorldT)(known:Int)(st:Int)(sm:SM)(rs:List ReadT)(as_:List (List Dp))(m1:IM)(m2:IM)(l:List SeenT)(bs:List Nat):List Blk:=[.var [ab (Hl Hz w.c),ab w.p,ab (Hl HC w.s),ab (Hl Hv w.f)],.var [ab (Hl HG (IA l leS)),int 0,int 0,int 0],.map (aQ 0 sm) (Hn sm),.var [.ref (.vec 4 0),ab (Hl Hz w.c),ab w.p,ab (Hl HC w.s),ab (Hl Hv w.f),int known],.vec (ae (rdR rs)) 0 5,.var [int st,ab as_],.map (ar 0 m1) (Hn m1),.map (ar 0 m2) (Hn m2),.gone,.mit (some 2) (Hn sm) bs (Hn sm)]
theorem pw_c{w:WorldT}{known st:Int}{sm:SM}{rs:List ReadT}{la:List AttT}(Sm:af la){as_:List (List Dp)}{m1 m2:IM}{l:List SeenT}{bs:List Nat}(hl:l.length<4611686018427387904)(hT:∀x∈l,∀y∈l,x.aT=y.aT→x=y)(h1:((bl la).2 != 0)=false)(h2:((b8 la).2.2 != 0)=false):(CW Hm Γk [] false (qQ (ja IR) 4) (pwS w known st sm rs la as_ m1 m2 l bs) .ret (pwE w rs la l)):=by
 let v0:=Hl HG (IA l leS)
 let v1:List D:=[ab v0,int (if false=true then if 10000>(bl la).1 then 10000 else (bl la).1 else if 10000<(bl la).1 then 10000 else (bl la).1),int (b8 la).1,int (b8 la).2.1]
 let v2:List D:=[.ref (.vec 4 0),ab (Hl Hz w.c),ab w.p,ab (Hl HC w.s),ab (Hl Hv w.f),int known]
 refine zx [.st (.mask [10,11,12]),.st (.trim 2)] [.call (HV []) [.var (HI w),.var [.ref (.vec 8 0),int 0,int 0,int 0],.map (aQ 0 sm) (Hn sm),.var v2,.vec (ae (rdR rs)) 0 5,.var [int st,ab as_],.map (ar 0 m1) (Hn m1),.map (ar 0 m2) (Hn m2),.vec (aS (IA l leS)) 0 4,.mit (some 2) (Hn sm) bs (Hn sm)],.st (.frz 8 v0),.val (HV [int (bl la).1,int (bl la).2]),.b false,.val (HV [H6 [int (b8 la).1,int (b8 la).2.1],int (b8 la).2.2]),.b false,.st (.frz 4 (rdR rs))] (.c (H5 (Γ':=Γk) (@ma (.var (HI w)) (.var [.ref (.vec 8 0),int 0,int 0,int 0]) (.map (aQ 0 sm) (Hn sm)) (.var v2) (.vec (ae (rdR rs)) 0 5) (.var [int st,ab as_]) (.map (ar 0 m1) (Hn m1)) (.map (ar 0 m2) (Hn m2)) (.mit (some 2) (Hn sm) bs (Hn sm)) l hl hT)) (.c (show aS (IA l leS)=Hl (fun x=>Hl D.p x) v0 from ?_) (.c (show Hl (fun e=>(HO (bD 8 0 v0) e.1,HO (bD 8 0 v0) e.2.1,e.2.2)) (aQ 0 sm)=aQ 0 sm from ?_) (.c (show Hl (It (bD 8 0 v0)) (ae (rdR rs))=ae (rdR rs) from ?_) (.c (show Hl (fun e=>(HO (bD 8 0 v0) e.1,HO (bD 8 0 v0) e.2.1,e.2.2)) (ar 0 m1)=ar 0 m1 from ?_) (.c (show Hl (fun e=>(HO (bD 8 0 v0) e.1,HO (bD 8 0 v0) e.2.1,e.2.2)) (ar 0 m2)=ar 0 m2 from ?_) (.c (H5 (Γ':=Γk) (@lW la Sm (G0 w known st sm rs as_ m1 m2 l bs))) (.c h1 (.c (H5 (Γ':=Γk) (@rQ la Sm (GZ w known st sm rs la as_ m1 m2 l bs))) (.c h2 (.c (show ae (rdR rs)=Hl (fun x=>Hl D.p x) (rdR rs) from ?_) (.c (show Hl (fun e=>(HO (bD 4 0 (rdR rs)) e.1,HO (bD 4 0 (rdR rs)) e.2.1,e.2.2)) (aQ 0 sm)=aQ 0 sm from ?_) (.c (show Hl (fun e=>(HO (bD 4 0 (rdR rs)) e.1,HO (bD 4 0 (rdR rs)) e.2.1,e.2.2)) (ar 0 m1)=ar 0 m1 from ?_) (.c (show Hl (fun e=>(HO (bD 4 0 (rdR rs)) e.1,HO (bD 4 0 (rdR rs)) e.2.1,e.2.2)) (ar 0 m2)=ar 0 m2 from ?_) (.e (H6 v1) (.e (.ref (.ptr 3 0)) (.e (.ref (.ptr 3 0)) (.e (.ref (.ptr 3 0)) (.e (.ref (.ptr 3 0)) (.e (ab (rdR rs)) (.e (ab (rdR rs)) .n)))))))))))))))))))))<;>subst v0 v1 v2<;>(first|rfl|exact Az _|exact aL _ _|exact cb _ _ _|exact bP _ _ _)
def AA:Code→Code
 | .seq (.seq a _) _=>a
 | _=>.skip
theorem CH{w:WorldT}{known st:Int}{sm:SM}{rs:List ReadT}{cs as_:List (List Dp)}{m1 m2:IM}:(CW Hm Γk [] false (AA (sU (ja IR) 4)) (nbE w known st sm rs cs as_ m1 m2) .normal {t:=mkT 190 0 (mpT cs),h:=mpH w known st sm rs as_ m1 m2 [] [],m:=[]}):=by
 exact zx [.st (.mask [10,11,17,19,150])] [.st (.nilC 1 0 4)] .n
def opAt(c:Code)(i:Nat):Oper:=match c with
 | .seq (.region _ ops _) _=>ops.toList.getD i default
 | _=>default
theorem wZ:sU (ja IR) 4=.seq (.seq (AA (sU (ja IR) 4)) (.block 8 (.loop (.seq (.region 40 #[opAt (sub IR 4) 0,opAt (sub IR 4) 1] false) (.seq (.cond (.tmp 152) .skip (.exit 8)) (DA (sub IR 4))))))) (qQ (ja IR) 4):=by kernel_rfl
theorem pA:∀(n i:Nat) (l:List (Nat×D)),(mkT n i l).length=n
 | 0,_,_=>rfl
 | n+1,i,[]=>by simp[mkT,pA n]
 | n+1,i,(k,d)::l=>by
  unfold mkT
  split<;>simp[pA n]
def smV(m:SM):List SeenT:=m.map (·.2)
theorem pB:∀{m:SM} {j:Nat} {e:D×D×Nat},e∈aQ j m→∃k s,e=(int k,seD s,e.2.2)∧j≤e.2.2∧e.2.2<j+m.length
 | [],_,_,h=>by simp[aQ] at h
 | (k,s)::m,j,e,h=>by
  simp only[aQ,HR] at h
  rcases h with rfl|h
  ·exact⟨k,s,rfl,by simp,by simp⟩
  ·obtain⟨k',s',h1,h2,h3⟩:=pB h
   refine⟨k',s',h1,by omega,by simp only[HY];omega⟩
theorem gM:∀(m:SM) (j:Nat),bo (aQ j m)=KP j m.length
 | [],_=>rfl
 | (k,s)::m,j=>by
  have:=gM m (j+1)
  simp only[bo] at this
  simp only[bo,aQ,Il,HY,List.range'_succ,this]
theorem rY:∀(m:SM) (j:Nat),(aQ j m).map CG=smV m
 | [],_=>rfl
 | (k,s)::m,j=>by
  have:=rY m (j+1)
  simp only[aQ,Il,this,smV]
  rfl
theorem mc:∀{l:List (D×D×Nat)} {e:D×D×Nat},(bo l).Nodup→e∈l→l.find? (fun x=>x.2.2==e.2.2)=some e
 | a::l,e,hn,he=>by
  rw[List.find?_cons]
  simp only[bo,Il,KH] at hn
  rcases HR.1 he with rfl|he
  ·simp
  ·have:(a.2.2==e.2.2)=false:=by
    simp only[beq_eq_false_iff_ne,ne_eq]
    intro hh
    exact hn.1 (hh▸HQ.2 ⟨e,he,rfl⟩)
   rw[this]
   exact mc hn.2 he
abbrev mpS(w:WorldT)(known st:Int)(sm:SM)(rs:List ReadT)(la:List AttT)(as_:List (List Dp))(m1 m2:IM)(pre:List (D×D×Nat)):AS :=
 {t:=mkT 190 0 (mpT (la.map Hq)),h:=mpH w known st sm rs as_ m1 m2 (pre.map CG) (bo pre),m:=[]}
theorem G1{w:WorldT}{known st:Int}{sm:SM}{rs:List ReadT}{la:List AttT}{as_:List (List Dp)}{m1 m2:IM}{sF:AS}(hsm:sm.length≤1000000)
  (Sz:∀(l:List SeenT) (bs:List Nat),l.Perm (smV sm)→CW Hm Γk [] false (qQ (ja IR) 4) (pwS w known st sm rs la as_ m1 m2 l bs) .ret sF) :
  CW Hm Γk [] false (sU (ja IR) 4) (nbE w known st sm rs (la.map Hq) as_ m1 m2) .ret sF:=by
 intro X r hX hr
 rw[wZ]
 have hnd:(bo (aQ 0 sm)).Nodup:=by rw[gM];exact List.nodup_range'
 refine VW.seq (VW.seq (VW.mono (CH X r hX hr) ?_))
 rintro e0 s0 ⟨rfl,rfl⟩
 show VW Hm Γk X r _ _ (mpS w known st sm rs la as_ m1 m2 [])
 refine(VW.block (VW.mapLoop (kvs:=aQ 0 sm) (clock:=sm.length) (b:=9) (mb:=2) (x1:=151) (x2:=152) (it:=.tmp 150) (mpS w known st sm rs la as_ m1 m2) (by kernel_rfl) (by kernel_rfl) (by kernel_rfl) (by kernel_rfl) (by kernel_rfl) (by kernel_rfl) ?_ ?_ hnd ?_ ?_))
 ·intro pre
  exact⟨by simp[pA],by simp[pA],rfl,rfl,rfl,rfl,fun _=>rfl⟩
 ·intro e he
  obtain⟨_,_,_,_,h⟩:=pB he
  omega
 ·intro pre e post hp
  have hem:e∈aQ 0 sm:=hp.mem_iff.1 (by simp)
  obtain⟨k,s,h1,_,_⟩:=pB hem
  have hlen:pre.length≤1000000:=by
   have:=hp.length_eq
   have h2:(aQ 0 sm).length=sm.length:=by have:=congrArg Hn (gM sm 0);simpa[bo] using this
   simp only[ID,HY] at this
   omega
  have hen:gn (mpH w known st sm rs as_ m1 m2 (pre.map CG) (bo (pre++[e]))) (.ref (.it 9))=some (.tup [int k,.agg [int s.aT,int s.tries,int s.iS,bool s.now]]):=by
   have hl:(bo (pre++[e])).getLast? = some e.2.2:=by simp[bo]
   have hf:=mc hnd hem
   unfold gn
   simp only[mpH,List.getElem?_cons_succ,List.getElem?_cons_zero,hl,smB,if_true,hf,Option.map_some]
   rw[h1];rfl
  have hb:=GV (w:=w) (known:=known) (st:=st) (sm:=sm) (rs:=rs) (cs:=la.map Hq) (as_:=as_) (m1:=m1) (m2:=m2) (l:=pre.map CG) (bs:=bo (pre++[e])) (k:=k) (x:=s) (by simpa using hlen) hen X r hX hr
  have hse:(pre++[e]).map CG=pre.map CG++[s]:=by rw[List.map_append,h1];rfl
  have he1:e.1=int k:=by rw[h1]
  have he2:e.2.1=seD s:=by rw[h1]
  rw[he1,he2]
  refine VW.mono hb ?_
  rintro e' s' ⟨rfl,rfl⟩
  refine⟨rfl,?_⟩
  show _=({t:=_,h:=mpH w known st sm rs as_ m1 m2 ((pre++[e]).map CG) (bo (pre++[e])),m:=[]}:AS)
  rw[hse]
 ·intro pre hp
  have Q4:(pre.map CG).Perm (smV sm):=by rw[←rY sm 0];exact hp.map _
  exact Sz (pre.map CG) (bo pre) Q4 X r hX hr
theorem md(a b:SeenT):leS a b=true ↔ a.aT≤b.aT:=by
 unfold leS
 rw[Bool.not_eq_true',pz];omega
theorem me(a b c:SeenT)(h1:leS a b=true)(h2:leS b c=true):leS a c=true:=by rw[md] at *;omega
theorem mf(a b:SeenT):(leS a b||leS b a)=true:=by
 rw[Ju,md,md];omega
def G2(l:List SeenT):Prop:=∀x∈l,∀y∈l,x.aT=y.aT→x=y
theorem w5{l l':List SeenT}(hp:l.Perm l')(hd:G2 l'):l.mergeSort leS=l'.mergeSort leS:=by
 refine KA (le:=fun a b=>leS a b=true) ?_ (J8 me mf _) (J8 me mf _) ((Jl _ _).trans (hp.trans (Jl _ _).symm))
 intro a b ha hb h1 h2
 have ha':a∈l':=hp.mem_iff.1 (by simpa using ha)
 have Pr:b∈l':=by simpa using hb
 rw[md] at h1 h2
 exact hd a ha' b Pr (by omega)
def SmOk(m:SM):Prop:=(m.map (·.1)).Nodup∧∀e∈m,e.2.aT=e.1
theorem jw(m:SM)(k:Int)(v:SeenT):(bA m k v).map (·.1)=if k∈m.map (·.1) then m.map (·.1) else m.map (·.1)++[k]:=by
 induction m with
 | nil=>simp[bA]
 | cons e m ih =>
  obtain⟨a,x⟩:=e
  unfold bA
  by_cases h:a=k
  ·subst h;simp
  ·have h':¬k=a:=fun e=>h e.symm
   simp only[h,if_false,Il,ih,HR,h',false_or]
   split<;>simp
theorem smPut_mem{m:SM}{k:Int}{v:SeenT}{e:Int×SeenT}(h:e∈bA m k v):e=(k,v)∨e∈m:=by
 induction m with
 | nil=>simp[bA] at h;exact .inl h
 | cons a m ih =>
  obtain⟨a,x⟩:=a
  unfold bA at h
  split at h
  ·rcases HR.1 h with h|h
   ·exact .inl h
   ·exact .inr (Iu _ h)
  ·rcases HR.1 h with h|h
   ·exact .inr (h▸IE ..)
   ·exact(ih h).imp id (Iu _)
theorem SmOk.put{m:SM}(h:SmOk m){k:Int}{v:SeenT}(hv:v.aT=k):SmOk (bA m k v):=by
 refine⟨?_,fun e he=>?_⟩
 ·rw[jw]
  split
  ·exact h.1
  ·rename_i hk
   rw[List.nodup_append]
   refine⟨h.1,by simp,fun a ha b hb=>?_⟩
   simp at hb;subst hb
   exact fun e=>hk (e▸ha)
 ·rcases smPut_mem he with rfl|he
  ·exact hv
  ·exact h.2 e he
theorem SmOk.dist{m:SM}(h:SmOk m):G2 (smV m):=by
 intro x hx y hy hxy
 obtain⟨⟨k,s⟩,he,rfl⟩:=HQ.1 hx
 obtain⟨⟨k',s'⟩,he',rfl⟩:=HQ.1 hy
 have h1:=h.2 _ he
 have h2:=h.2 _ he'
 simp only at h1 h2 hxy
 have hk:k=k':=by rw[←h1,←h2,hxy]
 subst hk
 have key:∀(m:SM),(m.map (·.1)).Nodup→(k,s)∈m→(k,s')∈m→s=s':=by
  intro m
  induction m with
  | nil=>intro _ h;simp at h
  | cons a m ih =>
   intro hn ha hb
   simp only[Il,KH] at hn
   rcases HR.1 ha with rfl|ha2
   ·rcases HR.1 hb with hb|hb
    ·cases hb;rfl
    ·exact absurd (show k∈m.map (·.1) from HQ.2 ⟨(k,s'),hb,rfl⟩) hn.1
   ·rcases HR.1 hb with rfl|Qu
    ·exact absurd (show k∈m.map (·.1) from HQ.2 ⟨(k,s),ha2,rfl⟩) hn.1
    ·exact ih hn.2 ha2 Qu
 exact key m h.1 he he'
theorem rZ{m1 m2:IM}:∀(l:List Int) (x:SeenT),(l.foldl (xF m1 m2) x).aT=x.aT
 | [],_=>rfl
 | c::l,x=>by
  rw[H7,rZ l]
  unfold xF
  cases Zd (gI m1 c>0)<;>rfl
theorem AB{w:WorldT}{known term:Int}{m1 m2:IM}:∀(ns:List Int) (s:RSM),SmOk s.2→SmOk (ns.foldl (nbF w known term m1 m2) s).2∧(ns.foldl (nbF w known term m1 m2) s).2.length≤s.2.length+ns.length
 | [],s,h=>⟨h,by simp⟩
 | n::ns,s,h=>by
  have h1:SmOk (nbF w known term m1 m2 s n).2:=by
   unfold nbF
   cases Zd ((seenOf w known term m1 m2 s.2 n).tries>0)
   ·exact h
   ·exact h.put (rZ _ _)
  have h2:(nbF w known term m1 m2 s n).2.length≤s.2.length+1:=by
   unfold nbF
   cases Zd ((seenOf w known term m1 m2 s.2 n).tries>0)
   ·simp
   ·have:=congrArg Hn (jw s.2 n (seenOf w known term m1 m2 s.2 n))
    simp only[Ir] at this
    simp only[cond_true]
    rw[this]
    split<;>simp
  have h3:=AB (w:=w) (known:=known) (term:=term) (m1:=m1) (m2:=m2) ns _ h1
  refine⟨h3.1,?_⟩
  have:=h3.2
  simp only[H7,HY]
  omega
theorem vE:∀(now:List Int) (s:Int×SM) {s':Int×SM},SmOk s.2→forL snF now s=.inl s'→SmOk s'.2∧s'.2.length≤s.2.length+now.length
 | [],s,s',h,he=>by simp only[forL,Sum.inl.injEq] at he;subst he;exact⟨h,by simp⟩
 | c::now,s,s',h,he=>by
  simp only[forL,snF] at he
  cases hk:snOk s.1 c<;>rw[hk] at he
  ·simp at he
  ·simp only[cond_true] at he
   have h3:=vE now _ (h.put (k:=c) (v:=⟨c,0,-1,true⟩) rfl) he
   have:=congrArg Hn (jw s.2 c ⟨c,0,-1,true⟩)
   simp only[Ir] at this
   refine⟨h3.1,?_⟩
   have h4:=h3.2
   simp only[HY] at h4 ⊢
   have h5:(bA s.2 c ⟨c,0,-1,true⟩).length≤s.2.length+1:=by rw[this];split<;>simp
   omega
def sitX(la:List AttT):Unit⊕Int:=if (bl la).2 != 0 then .inr (bl la).2 else if (b8 la).2.2 != 0 then .inr (b8 la).2.2 else .inl ()
def w6(w:WorldT)(rs:List ReadT)(la:List AttT)(l:List SeenT):Exit×AS:=a8 .ret (fun _:Unit=>pwE w rs la l) (fun e:Int=>(.ret,pwX w e)) (sitX la)
theorem AC(w:WorldT)(rs:List ReadT)(la:List AttT)(l:List SeenT):(w6 w rs la l).1=.ret:=by
 unfold w6;cases sitX la<;>rfl
theorem G3{w:WorldT}{known st:Int}{sm:SM}{rs:List ReadT}{la:List AttT}{as_:List (List Dp)}{m1 m2:IM}(Sm:af la)(Oa:SmOk sm)(hsm:sm.length≤1000000):
  CW Hm Γk [] false (sU (ja IR) 4) (nbE w known st sm rs (la.map Hq) as_ m1 m2) (w6 w rs la (smV sm)).1 (w6 w rs la (smV sm)).2:=by
 rw[AC]
 refine G1 hsm fun l bs hp=>?_
 have hd:G2 l:=fun x hx y hy=>Oa.dist x (hp.mem_iff.1 hx) y (hp.mem_iff.1 hy)
 have hl:l.length<4611686018427387904:=by
  have:=hp.length_eq
  simp only[smV,Ir] at this
  omega
 have hs:=w5 hp Oa.dist
 unfold w6 sitX
 cases h1:((bl la).2 != 0)
 ·cases h2:((b8 la).2.2 != 0)
  ·have:=pw_c (w:=w) (known:=known) (st:=st) (sm:=sm) (rs:=rs) Sm (as_:=as_) (m1:=m1) (m2:=m2) (bs:=bs) hl hd h1 h2
   rw[pwE,hs] at this
   exact this
  ·exact pw_b (w:=w) (known:=known) (st:=st) (sm:=sm) (rs:=rs) Sm (as_:=as_) (m1:=m1) (m2:=m2) (bs:=bs) hl hd h1 h2
 ·exact pw_a (w:=w) (known:=known) (st:=st) (sm:=sm) (rs:=rs) Sm (as_:=as_) (m1:=m1) (m2:=m2) (bs:=bs) hl hd h1
def cN(e:Int):D:=.tup [.agg [ay,int 0,int 0,int 0],ay,int e]
def AD(seen:List SeenT)(earned n d:Int)(rs:List ReadT):D:=.tup [.agg [ab (seen.map HG),int earned,int n,int d],ab (rdR rs),int 0]
noncomputable abbrev n4(w:WorldT):List Blk:=[.var [ab (Hl Hz w.c),ab w.p,ab (Hl HC w.s),ab (Hl Hv w.f)],.var [nq,int 0,int 0,int 0]]
theorem G4{w:WorldT}{st term known:Int}{now:List Int}(hb:(!(Zd (st≥0)&&Zd (st≤19999))||!(Zd (term≥0)&&Zd (term≤1023)))=true)(h:List Blk):(Ev Hm Γk 19 [.agg w.l,int st,int term,int known,ab (now.map fun n=>[vi n])] h (cN 150) h):=by
 exact z0 [.val (bool (Zd (st≥0)&&Zd (st≤19999))),.val (bool (Zd (term≥0)&&Zd (term≤1023))),.b true] (.c (H5 (Γ':=Γk) (@bp st 0 19999 (n4 w))) (.c (gd (!!(Zd (st≥0)&&Zd (st≤19999))) (H5 (Γ':=Γk) (@bp term 0 1023 (n4 w)))) (.c hb .n))) h
def iD(w:WorldT)(known term:Int)(aa:List AttT)(rs:List ReadT)(sm:SM):RSM:=(ad w.f known).foldl (nbF w known term (triesR aa).1 (triesR aa).2) (rs,sm)
def CI(w:WorldT)(known term:Int)(now:List Int)(rr qq:List ReadT)(aa la:List AttT)(ee:Int):D:=match snR now with
 | .inr _=>cN 150
 | .inl s=>match (ee != 0) with
  | true=>cN ee
  | false=>match sitX la with
   | .inr e=>cN e
   | .inl _=>AD ((smV (iD w known term aa (rr++qq++[rdN]) s.2).2).mergeSort leS) (mnI (bl la).1 10000) (b8 la).1 (b8 la).2.1 (iD w known term aa (rr++qq++[rdN]) s.2).1
theorem tN{w:WorldT}{known term:Int}{m1 m2:IM}{ns:List Int}{rs:List ReadT}{now:List Int}{s:Int×SM}(h:snR now=.inl s):SmOk (ns.foldl (nbF w known term m1 m2) (rs,s.2)).2 :=
 (AB ns (rs,s.2) (vE now (-1,[]) ⟨by simp,by simp⟩ h).1).1
theorem tP{w:WorldT}{known term:Int}{m1 m2:IM}{ns:List Int}{rs:List ReadT}{now:List Int}{s:Int×SM}(hn:now.length≤1000)(hs:ns.length≤1000)(h:snR now=.inl s):(ns.foldl (nbF w known term m1 m2) (rs,s.2)).2.length≤1000000:=by
 have h1:=(AB (w:=w) (known:=known) (term:=term) (m1:=m1) (m2:=m2) ns (rs,s.2) (vE now (-1,[]) ⟨by simp,by simp⟩ h).1).2
 have h2:=(vE now (-1,[]) ⟨by simp,by simp⟩ h).2
 simp only[Jj,I3] at h1 h2
 omega
noncomputable abbrev c9(w:WorldT):List Blk:=[.var [ab (Hl Hz w.c),ab w.p,ab (Hl HC w.s),ab (Hl Hv w.f)],.var [nq,int 0,int 0,int 0]]
theorem sit_a{w:WorldT}(hw:w.ok){st term known:Int}{now:List Int}(hn:now.length≤1000)(hl:af now)(hN:(ad w.f known).length≤100)(hN2:(ad w.f known).length≤1000){rr qq:List ReadT}{aa la:List AttT}{ee:Int}(haa:af aa)(Sm:af la)(hrs:(rr++qq++[rdN]).length≤800000000)(hrq:(rr++qq).length≤999999000)
  (hof:Ev Hm Γk 60 [.ref (.ptr 0 0),int st,int term] (lkH w known [] 0) (.agg [int st,ab (aa.map Hq)]) (lkH w known rr 1)) (Ro:Ev Hm Γk 61 [.ref (.ptr 0 0),ab (aa.map Hq),int term] (lkH w known rr 0) (.tup [ab (la.map Hq),int ee]) (lkH w known (rr++qq) 1))
  (hb:(!(Zd (st≥0)&&Zd (st≤19999))||!(Zd (term≥0)&&Zd (term≤1023)))=false) (h:List Blk):(Ev Hm Γk 19 [.agg w.l,int st,int term,int known,ab (now.map fun n=>[vi n])] h (CI w known term now rr qq aa la ee) h):=by
 have N1:=(@sn_cw (w) (st) (term) (known) (now) (hl))
 unfold GC at N1
 revert N1
 cases O0:snR now with
 | inl o1_0_0 =>
  intro N1
  cases Is:ee != 0
  ·have hl3:=(@st_cw (w) (known) (st) (term) (o1_0_0.2) (rr++qq) (Hl Hq la) (aa) (haa))
   have hl4:=(@nb_cw (w) (hw) (known) (st) (term) (hN) (o1_0_0.2) (rr++qq++[rdN]) (hrs) (Hl Hq la) (Hl Hq aa) ((triesR aa).1) ((triesR aa).2))
   have hl5:=(@G3 (w) (known) (st) ((HP (nbF w known term (triesR aa).1 (triesR aa).2) (rr++qq++[rdN],o1_0_0.2) (ad w.f known)).2) ((HP (nbF w known term (triesR aa).1 (triesR aa).2) (rr++qq++[rdN],o1_0_0.2) (ad w.f known)).1) (la) (Hl Hq aa) ((triesR aa).1) ((triesR aa).2) (Sm) (by first|assumption|rfl|omega|exact tN (by assumption)|exact tP hn hN2 (by assumption)|exact aL _ _|exact cb _ _ _|exact bP _ _ _|exact eH|exact n3|exact aP) (by first|assumption|rfl|omega|exact tN (by assumption)|exact tP hn hN2 (by assumption)|exact aL _ _|exact cb _ _ _|exact bP _ _ _|exact eH|exact n3|exact aP))
   unfold w6 at hl5
   revert hl5
   cases ho6:sitX la with
   | inl o6_0_0 =>
    intro hl5
    let v0:List D:=[.ref (.vec 4 0),ab (Hl Hz w.c),ab w.p,ab (Hl HC w.s),ab (Hl Hv w.f),int known]
    let v1:=HP (nbF w known term (triesR aa).1 (triesR aa).2) (rr++qq++[rdN],o1_0_0.2) (ad w.f known)
    let v2:List D:=[.ref (.vec 4 1),ab (Hl Hz w.c),ab w.p,ab (Hl HC w.s),ab (Hl Hv w.f),int known]
    let v4:List D:=[int st,ab (Hl Hq aa)]
    let v3:List Blk:=[.var (HI w),.var [nq,int 0,int 0,int 0],.map (aQ 0 o1_0_0.2) (Hn o1_0_0.2),.var v0,.vec (ae (rdR (rr++qq))) 0 5,.var v4,.map (ar 0 (triesR aa).1) (Hn (triesR aa).1),.map (ar 0 (triesR aa).2) (Hn (triesR aa).2)]
    let v5:List Blk:=[.var (HI w),.var [nq,int 0,int 0,int 0],.map (aQ 0 o1_0_0.2) (Hn o1_0_0.2),.var v2,.vec (ae (rdR (rr++qq++[rdN]))) 1 5,.var v4,.map (ar 0 (triesR aa).1) (Hn (triesR aa).1),.map (ar 0 (triesR aa).2) (Hn (triesR aa).2)]
    let v6:List Blk:=[.var (HI w),.var [nq,int 0,int 0,int 0],.map (aQ 0 o1_0_0.2) (Hn o1_0_0.2),.var v2,.vec (ae (rdR (rr++qq))) 1 5,.var v4]
    let v7:List Blk:=[.var (HI w),.var [nq,int 0,int 0,int 0],.map (aQ 0 o1_0_0.2) (Hn o1_0_0.2),.var v0,.vec (ae (rdR rr)) 0 5,.var v4]
    let v8:List D:=[ab (Hl HG (IA (smV v1.2) leS)),int (mnI (bl la).1 10000),int (b8 la).1,int (b8 la).2.1]
    let v9:List Blk:=[.var (HI w),.var [nq,int 0,int 0,int 0],.map (aQ 0 o1_0_0.2) (Hn o1_0_0.2),.var v2,.vec (ae (rdR rr)) 1 5]
    let v10:List Blk:=[.var (HI w),.var [nq,int 0,int 0,int 0],.map (aQ 0 o1_0_0.2) (Hn o1_0_0.2),.var v0,.vec [] 0 5]
    refine zD (HV [H6 v8,ab (rdR v1.1),int 0]) [.val (bool (Zd (st≥0)&&Zd (st≤19999))),.val (bool (Zd (term≥0)&&Zd (term≤1023))),.b false,.sum [1,2,3,5,10,11,12,13,14,42,43,44] (HT 0) {t:=mkT 190 0 [(1,int st),(2,int term),(3,int known),(5,.ref (.ptr 0 0)),(10,.ref (.ptr 1 0)),(11,nq),(12,int 0),(13,.ref (.mp 2))],h:=[.var (HI w),.var [nq,int 0,int 0,int 0],.map (aQ 0 o1_0_0.2) (Hn o1_0_0.2)],m:=[]},.nx 1,.st (.nilC 3 0 5),.call (H6 v4) v9,.st (.ren 4 0),.call (HV [ab (Hl Hq la),int ee]) v6,.b false,.st (.ren 4 0),.sum [2,10,11,13,17,19,20,21,80,81,82] (HT 2) {t:=mkT 190 0 [(2,int term),(10,.ref (.ptr 1 0)),(11,nq),(13,.ref (.mp 2)),(17,.ref (.ptr 3 0)),(19,ab (Hl Hq la)),(20,.ref (.mp 6)),(21,.ref (.mp 7))],h:=v3,m:=[]},.call (ab (Hl (fun n=>[vi n]) (ad w.f known))) v5,.st (.ren 4 0),.sum [2,10,11,13,17,19,20,21,102,103,104] (HT 4) {t:=mkT 190 0 [(10,.ref (.ptr 1 0)),(11,nq),(13,.ref (.mp 2)),(17,.ref (.ptr 3 0)),(19,ab (Hl Hq la))],h:=[.var (HI w),.var [nq,int 0,int 0,int 0],.map (aQ 0 v1.2) (Hn v1.2),.var v0,.vec (ae (rdR v1.1)) 0 5,.var v4,.map (ar 0 (triesR aa).1) (Hn (triesR aa).1),.map (ar 0 (triesR aa).2) (Hn (triesR aa).2)],m:=[]},.ssum [10,11,13,17,19] IB {t:=mkT 190 0 [(10,.ref (.ptr 1 0)),(11,ab (rdR v1.1)),(12,int 0)],h:=[.var (HI w),.var v8]}] (.c (H5 (Γ':=Γk) (@bp st 0 19999 (c9 w))) (.c (gd (!!(Zd (st≥0)&&Zd (st≤19999))) (H5 (Γ':=Γk) (@bp term 0 1023 (c9 w)))) (.c hb (.c N1 (.c (show Ev Hm Γk 60 [.ref (.ptr 3 0),int st,int term] v10 (H6 v4) v9 from(H4 (JA (args:=[.ref (.ptr 3 0),int st,int term]) (H:=v10) [3,4] (@hof) (by kernel_rfl) (by kernel_rfl) (by kernel_rfl) ⟨(by subst v0 v1 v2 v4 v3 v5 v6 v7 v8 v9 v10;rfl),trivial⟩ ⟨(by subst v0 v1 v2 v4 v3 v5 v6 v7 v8 v9 v10;exact ai _ _),trivial⟩) (by kernel_rfl) (by kernel_rfl))) (.c (vM (rdR rr) 4 1 0) (.c (show Hl (fun e=>(HO (al 4 1 0) e.1,HO (al 4 1 0) e.2.1,e.2.2)) (aQ 0 o1_0_0.2)=aQ 0 o1_0_0.2 from ?_) (.c (show Ev Hm Γk 61 [.ref (.ptr 3 0),ab (Hl Hq aa),int term] v7 (HV [ab (Hl Hq la),int ee]) v6 from(H4 (JA (args:=[.ref (.ptr 3 0),ab (Hl Hq aa),int term]) (H:=v7) [3,4] (@Ro) (by kernel_rfl) (by kernel_rfl) (by kernel_rfl) ⟨(by subst v0 v1 v2 v4 v3 v5 v6 v7 v8 v9 v10;exact ai _ _),trivial⟩ ⟨(by subst v0 v1 v2 v4 v3 v5 v6 v7 v8 v9 v10;exact ai _ _),trivial⟩) (by kernel_rfl) (by kernel_rfl))) (.c Is (.c (vM (rdR (rr++qq)) 4 1 0) (.c (show Hl (fun e=>(HO (al 4 1 0) e.1,HO (al 4 1 0) e.2.1,e.2.2)) (aQ 0 o1_0_0.2)=aQ 0 o1_0_0.2 from ?_) (.c hl3 (.c (show Ev Hm Γk 62 [.ref (.ptr 3 0)] v3 (ab (Hl (fun n=>[vi n]) (ad w.f known))) v5 from(H4 (JA (args:=[.ref (.ptr 3 0)]) (H:=v3) [3,4] (@pn w hw known (rr++qq) hrq) (by kernel_rfl) (by kernel_rfl) (by kernel_rfl) ⟨(by subst v0 v1 v2 v4 v3 v5 v6 v7 v8 v9 v10;exact ai _ _),trivial⟩ ⟨(by subst v0 v1 v2 v4 v3 v5 v6 v7 v8 v9 v10;exact ai _ _),trivial⟩) (by kernel_rfl) (by kernel_rfl))) (.c (vM (rdR (rr++qq++[rdN])) 4 1 0) (.c (show Hl (fun e=>(HO (al 4 1 0) e.1,HO (al 4 1 0) e.2.1,e.2.2)) (aQ 0 o1_0_0.2)=aQ 0 o1_0_0.2 from ?_) (.c (show Hl (fun e=>(HO (al 4 1 0) e.1,HO (al 4 1 0) e.2.1,e.2.2)) (ar 0 (triesR aa).1)=ar 0 (triesR aa).1 from ?_) (.c (show Hl (fun e=>(HO (al 4 1 0) e.1,HO (al 4 1 0) e.2.1,e.2.2)) (ar 0 (triesR aa).2)=ar 0 (triesR aa).2 from ?_) (.c hl4 (.c hl5 .n))))))))))))))))))) h (by subst v0 v1 v2 v4 v3 v5 v6 v7 v8 v9 v10;(simp only[CI,O0,Is,ho6];first|done|rfl))<;>subst v0 v1 v2 v4 v3 v5 v6 v7 v8 v9 v10<;>(first|exact cb _ _ _|exact bP _ _ _)
   | inr o6_1_0 =>
    intro hl5
    let v0:List D:=[.ref (.vec 4 0),ab (Hl Hz w.c),ab w.p,ab (Hl HC w.s),ab (Hl Hv w.f),int known]
    let v1:List D:=[.ref (.vec 4 1),ab (Hl Hz w.c),ab w.p,ab (Hl HC w.s),ab (Hl Hv w.f),int known]
    let v3:List D:=[int st,ab (Hl Hq aa)]
    let v2:List Blk:=[.var (HI w),.var [nq,int 0,int 0,int 0],.map (aQ 0 o1_0_0.2) (Hn o1_0_0.2),.var v0,.vec (ae (rdR (rr++qq))) 0 5,.var v3,.map (ar 0 (triesR aa).1) (Hn (triesR aa).1),.map (ar 0 (triesR aa).2) (Hn (triesR aa).2)]
    let v4:List Blk:=[.var (HI w),.var [nq,int 0,int 0,int 0],.map (aQ 0 o1_0_0.2) (Hn o1_0_0.2),.var v1,.vec (ae (rdR (rr++qq++[rdN]))) 1 5,.var v3,.map (ar 0 (triesR aa).1) (Hn (triesR aa).1),.map (ar 0 (triesR aa).2) (Hn (triesR aa).2)]
    let v5:=HP (nbF w known term (triesR aa).1 (triesR aa).2) (rr++qq++[rdN],o1_0_0.2) (ad w.f known)
    let v6:List Blk:=[.var (HI w),.var [nq,int 0,int 0,int 0],.map (aQ 0 o1_0_0.2) (Hn o1_0_0.2),.var v1,.vec (ae (rdR (rr++qq))) 1 5,.var v3]
    let v7:List Blk:=[.var (HI w),.var [nq,int 0,int 0,int 0],.map (aQ 0 o1_0_0.2) (Hn o1_0_0.2),.var v0,.vec (ae (rdR rr)) 0 5,.var v3]
    let v8:List Blk:=[.var (HI w),.var [nq,int 0,int 0,int 0],.map (aQ 0 o1_0_0.2) (Hn o1_0_0.2),.var v1,.vec (ae (rdR rr)) 1 5]
    let v9:List Blk:=[.var (HI w),.var [nq,int 0,int 0,int 0],.map (aQ 0 o1_0_0.2) (Hn o1_0_0.2),.var v0,.vec [] 0 5]
    refine zD (HV [H6 [nq,int 0,int 0,int 0],nq,int o6_1_0]) [.val (bool (Zd (st≥0)&&Zd (st≤19999))),.val (bool (Zd (term≥0)&&Zd (term≤1023))),.b false,.sum [1,2,3,5,10,11,12,13,14,42,43,44] (HT 0) {t:=mkT 190 0 [(1,int st),(2,int term),(3,int known),(5,.ref (.ptr 0 0)),(10,.ref (.ptr 1 0)),(11,nq),(12,int 0),(13,.ref (.mp 2))],h:=[.var (HI w),.var [nq,int 0,int 0,int 0],.map (aQ 0 o1_0_0.2) (Hn o1_0_0.2)],m:=[]},.nx 1,.st (.nilC 3 0 5),.call (H6 v3) v8,.st (.ren 4 0),.call (HV [ab (Hl Hq la),int ee]) v6,.b false,.st (.ren 4 0),.sum [2,10,11,13,17,19,20,21,80,81,82] (HT 2) {t:=mkT 190 0 [(2,int term),(10,.ref (.ptr 1 0)),(11,nq),(13,.ref (.mp 2)),(17,.ref (.ptr 3 0)),(19,ab (Hl Hq la)),(20,.ref (.mp 6)),(21,.ref (.mp 7))],h:=v2,m:=[]},.call (ab (Hl (fun n=>[vi n]) (ad w.f known))) v4,.st (.ren 4 0),.sum [2,10,11,13,17,19,20,21,102,103,104] (HT 4) {t:=mkT 190 0 [(10,.ref (.ptr 1 0)),(11,nq),(13,.ref (.mp 2)),(17,.ref (.ptr 3 0)),(19,ab (Hl Hq la))],h:=[.var (HI w),.var [nq,int 0,int 0,int 0],.map (aQ 0 v5.2) (Hn v5.2),.var v0,.vec (ae (rdR v5.1)) 0 5,.var v3,.map (ar 0 (triesR aa).1) (Hn (triesR aa).1),.map (ar 0 (triesR aa).2) (Hn (triesR aa).2)],m:=[]},.ssum [10,11,13,17,19] IB {t:=mkT 190 0 [(10,.ref (.ptr 1 0)),(11,nq),(12,int o6_1_0)],h:=(c9 w)}] (.c (H5 (Γ':=Γk) (@bp st 0 19999 (c9 w))) (.c (gd (!!(Zd (st≥0)&&Zd (st≤19999))) (H5 (Γ':=Γk) (@bp term 0 1023 (c9 w)))) (.c hb (.c N1 (.c (show Ev Hm Γk 60 [.ref (.ptr 3 0),int st,int term] v9 (H6 v3) v8 from(H4 (JA (args:=[.ref (.ptr 3 0),int st,int term]) (H:=v9) [3,4] (@hof) (by kernel_rfl) (by kernel_rfl) (by kernel_rfl) ⟨(by subst v0 v1 v3 v2 v4 v5 v6 v7 v8 v9;rfl),trivial⟩ ⟨(by subst v0 v1 v3 v2 v4 v5 v6 v7 v8 v9;exact ai _ _),trivial⟩) (by kernel_rfl) (by kernel_rfl))) (.c (vM (rdR rr) 4 1 0) (.c (show Hl (fun e=>(HO (al 4 1 0) e.1,HO (al 4 1 0) e.2.1,e.2.2)) (aQ 0 o1_0_0.2)=aQ 0 o1_0_0.2 from ?_) (.c (show Ev Hm Γk 61 [.ref (.ptr 3 0),ab (Hl Hq aa),int term] v7 (HV [ab (Hl Hq la),int ee]) v6 from(H4 (JA (args:=[.ref (.ptr 3 0),ab (Hl Hq aa),int term]) (H:=v7) [3,4] (@Ro) (by kernel_rfl) (by kernel_rfl) (by kernel_rfl) ⟨(by subst v0 v1 v3 v2 v4 v5 v6 v7 v8 v9;exact ai _ _),trivial⟩ ⟨(by subst v0 v1 v3 v2 v4 v5 v6 v7 v8 v9;exact ai _ _),trivial⟩) (by kernel_rfl) (by kernel_rfl))) (.c Is (.c (vM (rdR (rr++qq)) 4 1 0) (.c (show Hl (fun e=>(HO (al 4 1 0) e.1,HO (al 4 1 0) e.2.1,e.2.2)) (aQ 0 o1_0_0.2)=aQ 0 o1_0_0.2 from ?_) (.c hl3 (.c (show Ev Hm Γk 62 [.ref (.ptr 3 0)] v2 (ab (Hl (fun n=>[vi n]) (ad w.f known))) v4 from(H4 (JA (args:=[.ref (.ptr 3 0)]) (H:=v2) [3,4] (@pn w hw known (rr++qq) hrq) (by kernel_rfl) (by kernel_rfl) (by kernel_rfl) ⟨(by subst v0 v1 v3 v2 v4 v5 v6 v7 v8 v9;exact ai _ _),trivial⟩ ⟨(by subst v0 v1 v3 v2 v4 v5 v6 v7 v8 v9;exact ai _ _),trivial⟩) (by kernel_rfl) (by kernel_rfl))) (.c (vM (rdR (rr++qq++[rdN])) 4 1 0) (.c (show Hl (fun e=>(HO (al 4 1 0) e.1,HO (al 4 1 0) e.2.1,e.2.2)) (aQ 0 o1_0_0.2)=aQ 0 o1_0_0.2 from ?_) (.c (show Hl (fun e=>(HO (al 4 1 0) e.1,HO (al 4 1 0) e.2.1,e.2.2)) (ar 0 (triesR aa).1)=ar 0 (triesR aa).1 from ?_) (.c (show Hl (fun e=>(HO (al 4 1 0) e.1,HO (al 4 1 0) e.2.1,e.2.2)) (ar 0 (triesR aa).2)=ar 0 (triesR aa).2 from ?_) (.c hl4 (.c hl5 .n))))))))))))))))))) h (by subst v0 v1 v3 v2 v4 v5 v6 v7 v8 v9;(simp only[CI,O0,Is,ho6];first|done|rfl))<;>subst v0 v1 v3 v2 v4 v5 v6 v7 v8 v9<;>(first|exact cb _ _ _|exact bP _ _ _)
  ·let v0:List D:=[.ref (.vec 4 1),ab (Hl Hz w.c),ab w.p,ab (Hl HC w.s),ab (Hl Hv w.f),int known]
   let v1:List D:=[.ref (.vec 4 0),ab (Hl Hz w.c),ab w.p,ab (Hl HC w.s),ab (Hl Hv w.f),int known]
   let v4:List Blk:=[.var (HI w),.var [nq,int 0,int 0,int 0],.map (aQ 0 o1_0_0.2) (Hn o1_0_0.2),.var v0,.vec (ae (rdR rr)) 1 5]
   let v5:List Blk:=[.var (HI w),.var [nq,int 0,int 0,int 0],.map (aQ 0 o1_0_0.2) (Hn o1_0_0.2),.var v1,.vec [] 0 5]
   let v6:List D:=[int st,ab (Hl Hq aa)]
   let v2:List Blk:=[.var (HI w),.var [nq,int 0,int 0,int 0],.map (aQ 0 o1_0_0.2) (Hn o1_0_0.2),.var v0,.vec (ae (rdR (rr++qq))) 1 5,.var v6]
   let v3:List Blk:=[.var (HI w),.var [nq,int 0,int 0,int 0],.map (aQ 0 o1_0_0.2) (Hn o1_0_0.2),.var v1,.vec (ae (rdR rr)) 0 5,.var v6]
   refine zD (HV [H6 [nq,int 0,int 0,int 0],nq,int ee]) [.val (bool (Zd (st≥0)&&Zd (st≤19999))),.val (bool (Zd (term≥0)&&Zd (term≤1023))),.b false,.sum [1,2,3,5,10,11,12,13,14,42,43,44] (HT 0) {t:=mkT 190 0 [(1,int st),(2,int term),(3,int known),(5,.ref (.ptr 0 0)),(10,.ref (.ptr 1 0)),(11,nq),(12,int 0),(13,.ref (.mp 2))],h:=[.var (HI w),.var [nq,int 0,int 0,int 0],.map (aQ 0 o1_0_0.2) (Hn o1_0_0.2)],m:=[]},.nx 1,.st (.nilC 3 0 5),.call (H6 v6) v4,.st (.ren 4 0),.call (HV [ab (Hl Hq la),int ee]) v2,.b true] (.c (H5 (Γ':=Γk) (@bp st 0 19999 (c9 w))) (.c (gd (!!(Zd (st≥0)&&Zd (st≤19999))) (H5 (Γ':=Γk) (@bp term 0 1023 (c9 w)))) (.c hb (.c N1 (.c (show Ev Hm Γk 60 [.ref (.ptr 3 0),int st,int term] v5 (H6 v6) v4 from(H4 (JA (args:=[.ref (.ptr 3 0),int st,int term]) (H:=v5) [3,4] (@hof) (by kernel_rfl) (by kernel_rfl) (by kernel_rfl) ⟨?_,trivial⟩ ⟨?_,trivial⟩) (by kernel_rfl) (by kernel_rfl))) (.c (vM (rdR rr) 4 1 0) (.c (show Hl (fun e=>(HO (al 4 1 0) e.1,HO (al 4 1 0) e.2.1,e.2.2)) (aQ 0 o1_0_0.2)=aQ 0 o1_0_0.2 from(by subst v0 v1 v4 v5 v6 v2 v3;exact cb _ _ _)) (.c (show Ev Hm Γk 61 [.ref (.ptr 3 0),ab (Hl Hq aa),int term] v3 (HV [ab (Hl Hq la),int ee]) v2 from(H4 (JA (args:=[.ref (.ptr 3 0),ab (Hl Hq aa),int term]) (H:=v3) [3,4] (@Ro) (by kernel_rfl) (by kernel_rfl) (by kernel_rfl) ⟨?_,trivial⟩ ⟨?_,trivial⟩) (by kernel_rfl) (by kernel_rfl))) (.c Is .n))))))))) h (by subst v0 v1 v4 v5 v6 v2 v3;(simp only[CI,O0,Is];first|done|rfl))<;>subst v0 v1 v4 v5 v6 v2 v3<;>(first|rfl|exact ai _ _)
 | inr o1_1_0 =>
  intro N1
  exact zD (HV [H6 [nq,int 0,int 0,int 0],nq,int 150]) [.val (bool (Zd (st≥0)&&Zd (st≤19999))),.val (bool (Zd (term≥0)&&Zd (term≤1023))),.b false,.sum [1,2,3,5,10,11,12,13,14,42,43,44] (IB) {t:=mkT 190 0 [(10,.ref (.ptr 1 0)),(11,nq),(12,int 150)],h:=(c9 w),m:=[]}] (.c (H5 (Γ':=Γk) (@bp st 0 19999 (c9 w))) (.c (gd (!!(Zd (st≥0)&&Zd (st≤19999))) (H5 (Γ':=Γk) (@bp term 0 1023 (c9 w)))) (.c hb (.c N1 .n)))) h (by(simp only[CI,O0];first|done|rfl))
def mG(w:WorldT):Bool:=Zd ((w.f.map Hv).length≤(30:Int))&&Zd ((w.c.map Hz).length≤(20:Int))&&Zd (w.p.length≤(8:Int))&&Zd ((w.s.map HC).length≤(6:Int))
theorem vF{w:WorldT}(h:List Blk):(Ev Hm Γ0 18 [.agg w.l] h (bool (mG w)) h):=by
 exact z0 [] .n h
def AE(a b:AttT):Bool:=!(a.aT==b.aT&&(a.term==b.term&&(a.oR==b.oR&&(a.tO==b.tO&&(a.bY==b.bY&&true)))))
abbrev smS(l l2:List (List Dp))(i:Int):AS:={t:=mkT 26 0 [(0,ab l),(1,ab l2),(4,bool false),(5,int i)],h:=[],m:=[]}
abbrev smX:Unit→Exit×AS:=fun _=>(.ret,{t:=mkT 26 0 [(4,bool false)],h:=[],m:=[]})
def smF(p:AttT×AttT)(_:Unit):Unit⊕Unit:=bif AE p.1 p.2 then .inr () else .inl ()
theorem G5{l l2:List (List Dp)}{a b:AttT}{i:Nat}(hr:aj (i:Int) l a.row 5)(Qx:aj (i:Int) l2 b.row 5)(iF:Zd ((i:Int)<(l.length:Int))=true)(hw:Hp.wrap ((i:Int)+1)=((i+1:Nat):Int)):(CW Hm Γ0 [] false (sub M5 0) (smS l l2 i) (ah (fun _=>smS l l2 ((i+1:Nat):Int)) smX (smF (a,b) ())).1 (ah (fun _=>smS l l2 ((i+1:Nat):Int)) smX (smF (a,b) ())).2):=by
 cases dO:!(a.aT==b.aT&&(a.term==b.term&&(a.oR==b.oR&&(a.tO==b.tO&&(a.bY==b.bY&&true)))))
 ·refine zX {t:=mkT 26 0 [(0,ab l),(1,ab l2),(4,bool false),(5,int (Ht Hp ((↑i:Int)+1)))],h:=[],m:=[]} HA [.st (.mask [0,1,4,5])] [.b true,.row (Hq a),.row (Hq b),.b false] (.c iF (.c hr (.c Qx (.c dO .n)))) ?_ ?_<;>(have hh:AE a b=false:=dO;simp only[smF,hh,cond_false,ah,hw];first|done|rfl)
 ·refine zX {t:=mkT 26 0 [(4,bool false)],h:=[],m:=[]} IB [.st (.mask [4])] [.b true,.row (Hq a),.row (Hq b),.b true] (.c iF (.c hr (.c Qx (.c dO .n)))) ?_ ?_<;>(have hh:AE a b=true:=dO;simp only[smF,hh,cond_true,ah];first|done|rfl)
theorem G6{l l2:List (List Dp)}{i:Nat}(iF:Zd ((i:Int)<(l.length:Int))=false):(CW Hm Γ0 [] false (sub M5 0) (smS l l2 i) (.exit 0) {t:=mkT 26 0 [],h:=[],m:=[]}):=by
 exact zx [.st (.mask [])] [.b false] (.c iF .n)
def G7(l l2:List AttT):Exit×AS:=a8 (.exit 0) (fun _:Unit=>{t:=mkT 26 0 [],h:=[],m:=[]}) smX (forL smF (l.zip l2) ())
theorem sm_cw{l l2:List AttT}(he:l.length=l2.length)(hl:af l):
  CW Hm Γ0 [] false (.loop (sub M5 0)) (smS (l.map Hq) (l2.map Hq) 0) (G7 l l2).1 (G7 l l2).2:=by
 have hlen:(l.zip l2).length=l.length:=by simp[he]
 have:=CW.each (P:=Hm) (Γ:=Γ0) (h0:=[]) (rd:=false) (c:=sub M5 0) (l.zip l2) smF (fun i _=>smS (l.map Hq) (l2.map Hq) (i:Int)) (.exit 0) (fun _:Unit=>{t:=mkT 26 0 [],h:=[],m:=[]}) smX (fun _ _=>True) (by simp) (fun _=>by simp) ?_ ?_ () trivial
 ·exact this
 ·intro i p u hp _
  obtain⟨hi,Ry⟩:=Hs.1 hp
  rw[hlen] at hi
  have h1:l[i]? = some p.1:=by subst Ry;simp[HH hi]
  have h2:l2[i]? = some p.2:=by subst Ry;simp[HH (he▸hi)]
  exact⟨fun _ _=>trivial,G5 (rowAt h1 rfl) (rowAt h2 rfl) (lt_len Hq hi) (wrap_succ hi hl)⟩
 ·intro u _
  rw[hlen]
  exact G6 (aJ Hq l)
def r8(l l2:List AttT):Bool:=match forL smF (l.zip l2) () with
 | .inl _=>true
 | .inr _=>false
theorem G8{l l2:List AttT}(he:l.length=l2.length)(hl:af l)(hn:(((l.map Hq).length:Int) != ((l2.map Hq).length:Int))=false)(h:List Blk):(Ev Hm Γ0 24 [ab (l.map Hq),ab (l2.map Hq)] h (bool (r8 l l2)) h):=by
 have N1:=(@sm_cw (l) (l2) (he) (hl))
 unfold G7 at N1
 revert N1
 cases O0:forL smF (List.zip l l2) () with
 | inl o1_0_0 =>
  intro N1
  exact zD (bool true) [.b false,.sum [0,1,4,5] (HT 0) {t:=mkT 26 0 [],h:=[],m:=[]}] (.c hn (.c N1 .n)) h (by simp only[r8,O0];done)
 | inr o1_1_0 =>
  intro N1
  exact zD (bool false) [.b false,.sum [0,1,4,5] (IB) {t:=mkT 26 0 [(4,bool false)],h:=[],m:=[]}] (.c hn (.c N1 .n)) h (by simp only[r8,O0];done)
theorem tQ(l:List AttT):r8 l l=true:=by
 have key:∀l:List AttT,forL smF (l.zip l) ()=.inl ():=by
  intro l
  induction l with
  | nil=>rfl
  | cons a l ih =>
   have:AE a a=false:=by simp[AE]
   simp only[Nz,forL,smF,this,cond_false]
   exact ih
 simp[r8,key]
theorem AF{l l2:List AttT}(he:l=l2)(hl:af l)(h:List Blk):Ev Hm Γ0 24 [ab (l.map Hq),ab (l2.map Hq)] h (bool true) h:=by
 subst he
 have:=G8 (l:=l) (l2:=l) rfl hl (by simp) h
 rwa[tQ] at this
def ptEq(a b:PtT):Bool:=a.term==b.term&&(a.value==b.value&&true)
def epF(p:PtT×PtT)(_:Unit):Unit⊕Unit:=if (!ptEq p.1 p.2)=true then .inr () else .inl ()
def epR(xs ys:List PtT):Unit⊕Unit:=forL epF (xs.zip ys) ()
def eqPts(xs ys:List PtT):Bool:=if (((xs.map Jo).length:Int) != ((ys.map Jo).length:Int))=true then false else match epR xs ys with | .inl _=>true | .inr _=>false
def ptsAt(l:List FactT)(r:ReadT)(known:Int):List PtT:=aR r.kind r.sub r.obj r.frm r.By known l
attribute [local irreducible] ptsAt eqPts
end Go.Vi
open Go Go.Proofs
namespace Go.Vi
set_option maxRecDepth 100000
set_option maxHeartbeats 4000000
abbrev srS(l:List (List Dp))(i:Int):AS:={t:=mkT 26 0 [(0,ab l),(1,ab l),(4,bool false),(5,int i)],h:=[],m:=[]}
theorem rdself(r:ReadT):(!(r.kind==r.kind&&(r.sub==r.sub&&(r.obj==r.obj&&true))&&(r.frm==r.frm&&(r.By==r.By&&true))))=false:=by simp
theorem CJ{l:List (List Dp)}{r:ReadT}{i:Nat}(hr:aj (i:Int) l r.row 5)(hz:(!(r.kind==r.kind&&(r.sub==r.sub&&(r.obj==r.obj&&true))&&(r.frm==r.frm&&(r.By==r.By&&true))))=false)(iF:Zd ((i:Int)<(l.length:Int))=true)(hw:Hp.wrap ((i:Int)+1)=((i+1:Nat):Int)):(CW Hm Γ0 [] false (sub Tryz.f22 0) (srS l i) .normal (srS l ((i+1:Nat):Int))):=by
 refine zX {t:=mkT 26 0 [(0,ab l),(1,ab l),(4,bool false),(5,int (Ht Hp ((↑i:Int)+1)))],h:=[],m:=[]} HA [.st (.mask [0,1,4,5])] [.b true,.row [vi r.kind,vi r.sub,vi r.obj,vi r.frm,vi r.By],.row [vi r.kind,vi r.sub,vi r.obj,vi r.frm,vi r.By],.b false] (.c iF (.c hr (.c hr (.c hz .n)))) ?_ ?_<;>(first|rfl|(rw[hw]))
theorem CK{l:List (List Dp)}{i:Nat}(iF:Zd ((i:Int)<(l.length:Int))=false):(CW Hm Γ0 [] false (sub Tryz.f22 0) (srS l i) (.exit 0) {t:=mkT 26 0 [],h:=[],m:=[]}):=by
 exact zx [.st (.mask [])] [.b false] (.c iF .n)
theorem srr_cw{l:List ReadT}(hl:af l):CW Hm Γ0 [] false (.loop (sub Tryz.f22 0)) (srS (rdR l) 0) (.exit 0) {t:=mkT 26 0 [],h:=[],m:=[]}:=by
 refine CW.loopN l.length (fun i=>srS (rdR l) (i:Int)) (by simp) (fun i hi=>?_) ?_
 ·exact CJ (rowAt (HH hi) rfl) (rdself _) (lt_len ReadT.row hi) (wrap_succ hi hl)
 ·exact CK (aJ ReadT.row l)
theorem tR{l:List ReadT}(hl:af l)(hn:(((rdR l).length:Int) != ((rdR l).length:Int))=false)(h:List Blk):(Ev Hm Γ0 22 [ab (rdR l),ab (rdR l)] h (bool true) h):=by
 have N1:=(@srr_cw (l) (hl))
 exact z0 [.b false,.sum [0,1,4,5] (HT 0) {t:=mkT 26 0 [],h:=[],m:=[]}] (.c hn (.c N1 .n)) h
abbrev ssS(l:List (List Dp))(e n d:Int)(i:Int):AS:={t:=mkT 45 0 [(2,.ref (.ptr 0 0)),(3,.ref (.ptr 1 0)),(4,bool false),(5,int i)],h:=[.var [ab l,int e,int n,int d],.var [ab l,int e,int n,int d]],m:=[]}
theorem seself(x:SeenT):(!(x.aT==x.aT&&(x.tries==x.tries&&(x.iS==x.iS&&(x.now==x.now&&true)))))=false:=by simp
theorem CL{l:List (List Dp)}{e n d:Int}{x:SeenT}{i:Nat}(hr:aj (i:Int) l x.row 4)(hz:(!(x.aT==x.aT&&(x.tries==x.tries&&(x.iS==x.iS&&(x.now==x.now&&true)))))=false)(iF:Zd ((i:Int)<(l.length:Int))=true)(hw:Hp.wrap ((i:Int)+1)=((i+1:Nat):Int)):(CW Hm Γ0 [] false (sub Tryz.f21 0) (ssS l e n d i) .normal (ssS l e n d ((i+1:Nat):Int))):=by
 refine zX {t:=mkT 45 0 [(2,.ref (.ptr 0 0)),(3,.ref (.ptr 1 0)),(4,bool false),(5,int (Ht Hp ((↑i:Int)+1)))],h:=[.var [ab l,int e,int n,int d],.var [ab l,int e,int n,int d]],m:=[]} HA [.st (.mask [2,3,4,5])] [.b true,.row [vi x.aT,vi x.tries,vi x.iS,Dp.v (Value.bool x.now)],.row [vi x.aT,vi x.tries,vi x.iS,Dp.v (Value.bool x.now)],.b false] (.c iF (.c hr (.c hr (.c hz .n)))) ?_ ?_<;>(first|rfl|(rw[hw]))
theorem CM{l:List (List Dp)}{e n d:Int}{i:Nat}(iF:Zd ((i:Int)<(l.length:Int))=false):(CW Hm Γ0 [] false (sub Tryz.f21 0) (ssS l e n d i) (.exit 0) {t:=mkT 45 0 [],h:=[],m:=[]}):=by
 exact zx [.st (.mask []),.st (.trim 0)] [.b false] (.c iF .n)
theorem sst_cw{l:List SeenT}{e n d:Int}(hl:af l):CW Hm Γ0 [] false (.loop (sub Tryz.f21 0)) (ssS (l.map HG) e n d 0) (.exit 0) {t:=mkT 45 0 [],h:=[],m:=[]}:=by
 refine CW.loopN l.length (fun i=>ssS (l.map HG) e n d (i:Int)) (by simp) (fun i hi=>?_) ?_
 ·exact CL (rowAt (HH hi) rfl) (seself _) (lt_len HG hi) (wrap_succ hi hl)
 ·exact CM (aJ HG l)
theorem jx{l:List SeenT}{e n d:Int}(hl:af l)(h:List Blk):(Ev Hm Γ0 21 [.agg [ab (l.map HG),int e,int n,int d],.agg [ab (l.map HG),int e,int n,int d]] h (bool true) h):=by
 cases dO:(↑(Hn (Hl HG l)):Int) != (↑(Hn (Hl HG l)):Int)||e != e||!(n==n&&(d==d&&true))
 ·have Oj:=(@sst_cw (l) (e) (n) (d) (hl))
  exact zD (bool true) [.b false,.sum [2,3,4,5] (HT 0) {t:=mkT 45 0 [],h:=[],m:=[]}] (.c dO (.c Oj .n)) h (by rfl)
 ·exact zD (bool false) [.b true] (.c dO .n) h (by(exfalso;simp at dO;done))
theorem rdne(l:List ReadT):(((rdR l).length:Int) != ((rdR l).length:Int))=false:=by simp
def G9(s:VS)(n:Nat):Int:=bif s.2.getD n false then Fb (s.1.getD n default).value else -1
def tS(kk ks ko known:Int)(l:List FactT):List Int:=(Iy 1024).map (G9 (l.foldl (vaGo kk ks ko known) vZ))
theorem w7(s:VS)(rs:List Int)(h:rs.length=1024)(n i:Nat):(vlStep s rs n).getD i 0=if i=n∧n<1024 then G9 s n else rs.getD i 0:=by
 unfold G9 vlStep
 by_cases hn:n<1024
 ·by_cases hi:i=n
  ·subst hi
   cases s.2.getD i false<;>simp[HD,h,hn]
  ·have Qo:n ≠ i:=fun e=>hi e.symm
   cases s.2.getD n false<;>simp[HD,hi,Qo]
 ·cases s.2.getD n false<;>simp[HD,hn,List.set_eq_of_length_le (show rs.length≤n by omega)]
theorem w8(s:VS)(rs:List Int)(n:Nat):(vlStep s rs n).length=rs.length:=by
 unfold vlStep;cases s.2.getD n false<;>simp
theorem jy(kk ks ko known:Int)(l:List FactT):a6 kk ks ko known l=tS kk ks ko known l:=by
 unfold a6 tS rI
 generalize l.foldl (vaGo kk ks ko known) vZ=s
 have hz:(HX 1024 (0:Int)).length=1024:=List.length_replicate ..
 have hz2:∀i,(HX 1024 (0:Int)).getD i 0=0:=fun i=>by
  rw[HD,List.getElem?_replicate];split<;>rfl
 revert hz hz2
 generalize HX 1024 (0:Int)=z
 intro hz hz2
 have key:∀m,m≤1024→((Iy m).foldl (vlStep s) z).length=1024∧∀i,((Iy m).foldl (vlStep s) z).getD i 0=if i<m then G9 s i else 0:=by
  intro m
  induction m with
  | zero=>intro _;exact⟨hz,fun i=>by rw[if_neg (Nat.not_lt_zero i)];exact hz2 i⟩
  | succ m ih =>
   intro hm
   obtain⟨h1,h2⟩:=ih (by omega)
   rw[List.range_succ,List.foldl_append]
   simp only[H7,List.foldl_nil]
   refine⟨by rw[w8];exact h1,fun i=>?_⟩
   rw[w7 s _ h1,h2]
   by_cases hi:i=m
   ·subst hi
    rw[if_pos ⟨rfl,by omega⟩,if_pos (by omega)]
   ·rw[if_neg (fun h=>hi h.1)]
    by_cases iF:i<m
    ·rw[if_pos iF,if_pos (by omega)]
    ·rw[if_neg iF,if_neg (by omega)]
 obtain⟨h1,h2⟩:=key 1024 (Nat.le_refl _)
 refine List.ext_getElem (by rw[h1];simp) fun i hi1 Sp=>?_
 have:=h2 i
 rw[HD,HH hi1] at this
 rw[h1] at hi1
 rw[if_pos hi1] at this
 simpa using this
theorem pC{α:Type}{l:List α}{n t:Nat}{x z:α}(hn:n<l.length):(l.set n x).getD t z=if t=n then x else l.getD t z:=by
 by_cases h:t=n
 ·subst h;simp[HD,hn]
 ·have:n ≠ t:=fun e=>h e.symm
  simp[HD,h,this]
theorem AG{f:FactT}{s:VS}(hs:s.ok){n t:Nat}(hn:n<1024):((fg f s n).1.getD t default,(fg f s n).2.getD t false)=if t=n∧vaHit f (s.1.getD t default) (s.2.getD t false)=true then (f,true) else (s.1.getD t default,s.2.getD t false):=by
 unfold fg
 by_cases ht:t=n
 ·subst ht
  cases h:vaHit f (s.1.getD t default) (s.2.getD t false)
  ·simp
  ·simp only[cond_true,and_self,if_true]
   rw[pC (by rw[hs.1];exact hn),pC (by rw[hs.2];exact hn)]
   simp
 ·cases h:vaHit f (s.1.getD n default) (s.2.getD n false)
  ·simp[ht]
  ·simp only[cond_true,ht,false_and,if_false]
   rw[pC (by rw[hs.1];exact hn),pC (by rw[hs.2];exact hn)]
   simp[ht]
theorem n5{f:FactT}{t:Nat}:∀(ns:List Nat) (s:VS),s.ok→ns.Nodup→(∀n∈ns,n<1024)→((ns.foldl (fg f) s).1.getD t default,(ns.foldl (fg f) s).2.getD t false)=if t∈ns∧vaHit f (s.1.getD t default) (s.2.getD t false)=true then (f,true) else (s.1.getD t default,s.2.getD t false)
 | [],s,_,_,_=>by simp
 | n::ns,s,hs,hd,hb=>by
  rw[KH] at hd
  have hn:=hb n (by simp)
  have h1:=AG (f:=f) hs (t:=t) hn
  have h2:=n5 (f:=f) (t:=t) ns (fg f s n) (vaStep_ok n hs) hd.2 (fun m hm=>hb m (by simp[hm]))
  rw[H7,h2]
  have e1:=congrArg Prod.fst h1
  have e2:=congrArg Prod.snd h1
  simp only at e1 e2
  by_cases ht:t=n
  ·subst ht
   rw[if_neg (fun h=>hd.1 h.1),h1]
   simp
  ·simp only[ht,false_and,if_false] at e1 e2
   rw[e1,e2]
   simp[ht]
theorem Ha{kk ks ko known:Int}{t:Nat}(ht:t<1024)(f:FactT){s:VS}(hs:s.ok):((vaGo kk ks ko known s f).1.getD t default,(vaGo kk ks ko known s f).2.getD t false)=ofGo kk ks ko (t:Int) known (s.1.getD t default,s.2.getD t false) f:=by
 unfold vaGo ofGo
 cases ofIs kk ks ko known f
 ·rfl
 ·simp only[cond_true]
  unfold vaF y5
  have S3:0≤E7 f∧(E7 f=f.frm∨(E7 f=0∧f.frm≤0)):=by unfold E7;simp;split<;>omega
  have hhi:wB f≤1024∧(wB f=f.By∨(wB f=1024∧1024≤f.By)):=by unfold wB;split<;>omega
  rw[n5 _ _ hs (List.nodup_range' ..) (by intro n hn;rw[List.mem_range'_1] at hn;omega)]
  unfold bS atHit
  have hm:(t∈KP (E7 f).toNat (wB f - E7 f).toNat) ↔ f.frm≤(t:Int)∧(t:Int)<f.By:=by
   rw[List.mem_range'_1];omega
  have hv:(!s.2.getD t false||Zd (orI (aU f.known (s.1.getD t default).known) (aU f.no (s.1.getD t default).no)≥0))=vaHit f (s.1.getD t default) (s.2.getD t false):=rfl
  rw[hv]
  by_cases h1:f.frm≤(t:Int)∧(t:Int)<f.By
  ·cases h2:vaHit f (s.1.getD t default) (s.2.getD t false)
   ·simp
   ·simp[hm.2 h1,h1.1,h1.2]
  ·rw[if_neg (fun h=>h1 (hm.1 h.1))]
   have:(Zd (f.frm≤(t:Int))&&Zd ((t:Int)<f.By))=false:=by
    cases hq:(Zd (f.frm≤(t:Int))&&Zd ((t:Int)<f.By))
    ·rfl
    ·simp at hq;exact absurd hq h1
   simp[this]
theorem tT{kk ks ko known:Int}{t:Nat}(ht:t<1024):∀(l:List FactT) (s:VS),s.ok→((l.foldl (vaGo kk ks ko known) s).1.getD t default,(l.foldl (vaGo kk ks ko known) s).2.getD t false)=l.foldl (ofGo kk ks ko (t:Int) known) (s.1.getD t default,s.2.getD t false)
 | [],_,_=>rfl
 | f::l,s,hs=>by
  rw[H7,H7,tT ht l _ (vaGo_ok f hs),Ha ht f hs]
theorem mg{kk ks ko known:Int}{l:List FactT}{t:Nat}(ht:t<1024):(a6 kk ks ko known l).getD t 0=G9 (l.foldl (vaGo kk ks ko known) vZ) t:=by
 rw[jy]
 unfold tS
 simp[HD,ht]
theorem pD{α:Type}{n t:Nat}{x z:α}(h:t<n):(HX n x).getD t z=x:=by simp[HD,h]
def atV(v:Int):Int×Bool:=bif Zd (v<0) then (0,false) else (v,true)
theorem AH{kk ks ko known:Int}{l:List FactT}{t:Nat}(ht:t<1024):atR kk ks ko (t:Int) known l=atV ((a6 kk ks ko known l).getD t 0):=by
 have h:=tT (kk:=kk) (ks:=ks) (ko:=ko) (known:=known) ht l vZ B0
 have hz:(vZ.1.getD t default,vZ.2.getD t false)=(fz,false):=by unfold vZ;rw[pD ht,pD ht]
 rw[hz] at h
 rw[mg ht]
 unfold atR G9
 rw[←h]
 simp only
 cases (l.foldl (vaGo kk ks ko known) vZ).2.getD t false
 ·rfl
 ·simp only[Bool.not_true,Bool.false_or,cond_true,Fb,if_true,atV]
  generalize ((l.foldl (vaGo kk ks ko known) vZ).1.getD t default).value=v
  by_cases hv:v<0
  ·simp only[hv,decide_true,cond_true]
   split
   ·rfl
   ·simp[hv]
  ·have:¬ -1>v:=by omega
   simp[hv,this]
theorem pE(a b:AttT):leA a b=true ↔ (a.term<b.term∨(a.term=b.term∧a.aT≤b.aT)):=by
 have h1:leA a b=true ↔ (ltOf wG) b a=false:=by unfold leA;simp
 rw[h1,lS]
 omega
theorem AI(a b c:AttT)(h1:leA a b=true)(h2:leA b c=true):leA a c=true:=by
 rw[pE] at *;omega
theorem AJ(a b:AttT):(leA a b||leA b a)=true:=by
 rw[Ju,pE,pE];omega
theorem tU{w:WorldT}{known st term:Int}:(cH w known st term).Pairwise fun a b=>leA a b=true:=J8 AI AJ _
theorem recA_perm{w:WorldT}{known st term:Int}:(cH w known st term).Perm (b7 w known st term):=Jl _ _
set_option maxRecDepth 1000000
theorem mh{w:WorldT}(h:mG w=true):w.f.length≤30:=by
 simp only[mG,Hx,decide_eq_true_eq,Ir] at h
 omega
theorem WorldT.ok0.few{w:WorldT}(hw:w.ok0)(h:mG w=true):w.ok:=by
 have:=mh h
 exact⟨hw.c,hw.s,by omega,hw.lc,hw.ls,hw.i⟩
theorem r9{w:WorldT}{known term:Int}{m1 m2:IM}:∀(ns:List Int) (s:RSM),(ns.foldl (nbF w known term m1 m2) s).1=s.1++ns.flatMap fun n=>(a7 w n term known).1
 | [],s=>by simp
 | n::ns,s=>by
  rw[H7,r9 ns]
  simp[nbF,J2]
abbrev cnA(w:WorldT)(known st term:Int):List AttT×Int:=iE (cH w known st term) (cM w known term (cH w known st term))
def AK(w:WorldT)(st term known:Int)(now:List Int):D:=match (!(Zd (st≥0)&&Zd (st≤19999))||!(Zd (term≥0)&&Zd (term≤1023))) with
 | true=>cN 150
 | false=>CI w known term now (aD w known st term) (cY term (cH w known st term)) (cH w known st term) (cnA w known st term).1 (cnA w known st term).2
theorem eK{w:WorldT}(hw:w.ok){st term known:Int}{now:List Int}(hn:now.length≤1000)(hN:(ad w.f known).length≤100)(h:List Blk):Ev Hm Γk 19 [.agg w.l,int st,int term,int known,ab (now.map fun n=>[vi n])] h (AK w st term known now) h:=by
 unfold AK
 cases hb:(!(Zd (st≥0)&&Zd (st≤19999))||!(Zd (term≥0)&&Zd (term≤1023)))
 ·have h1:=po hw (known:=known) (st:=st) (term:=term)
  have h2:=fO hw (known:=known) (st:=st) (term:=term)
  have h3:=ga term (cH w known st term)
  have h4:=zB (cH w known st term) (cM w known term (cH w known st term))
  exact sit_a hw hn (by unfold af;omega) hN (by omega) (by unfold af;omega) (by unfold af;omega) (by simp only[ID,HY,Jj];omega) (by simp only[ID];omega) (Dj hw) (Ca hw (by omega) (by omega)) hb h
 ·exact G4 hb h
theorem pF{w:WorldT}(h:mG w=true)(known:Int):(ad w.f known).length≤30:=Nat.le_trans dZ (mh h)
theorem AL{kk ks ko k:Int}{l:List FactT}{t:Nat}(ht:t<1024):(a6 kk ks ko k l).getD t 0=(let r:=l.foldl (ofGo kk ks ko (t:Int) k) (fz,false);bif r.2 then Fb r.1.value else -1):=by
 have h:=tT (kk:=kk) (ks:=ks) (ko:=ko) (known:=k) ht l vZ B0
 have hz:(vZ.1.getD t default,vZ.2.getD t false)=(fz,false):=by unfold vZ;rw[pD ht,pD ht]
 rw[hz] at h
 rw[mg ht]
 unfold G9
 rw[←h]
theorem AM{kk ks ko t k B:Int}:∀(l:List FactT) (s:FactT×Bool),s.1.value≤B→(∀f∈l,f.value≤B)→(l.foldl (ofGo kk ks ko t k) s).1.value≤B
 | [],s,h,_=>h
 | f::l,s,h,hl=>by
  rw[H7]
  refine AM l _ ?_ fun g hg=>hl g (Iu _ hg)
  unfold ofGo bS
  cases ofIs kk ks ko k f
  ·exact h
  ·cases atHit t s.1 s.2 f
   ·exact h
   ·exact hl f (IE ..)
theorem AN{w:WorldT}(hw:w.ok){kk ks ko k:Int}{t:Nat}(ht:t<1024):(a6 kk ks ko k w.f).getD t 0≤9223372036854775807:=by
 rw[AL ht]
 have:=AM (kk:=kk) (ks:=ks) (ko:=ko) (t:=t) (k:=k) (B:=9223372036854775807) w.f (fz,false) (by decide) fun f hf=>(hw.i f hf).2.2.2.1.2
 simp only
 cases (w.f.foldl (ofGo kk ks ko (t:Int) k) (fz,false)).2
 ·simp
 ·simp only[cond_true];unfold Fb;simp;split<;>omega
theorem Hb(to:Int):rK to≤1024∧rK to≤to:=by unfold rK;split<;>omega
theorem pts_in{w:WorldT}(hw:w.ok){known st term n:Int}{p:PtT}(hp:p∈tm w known st term n):0≤p.term∧p.term<1024∧p.term<term∧0≤p.value∧p.value≤9223372036854775807:=by
 unfold tm aR at hp
 rw[zk] at hp
 obtain⟨m,hm,he⟩:=List.mem_filterMap.1 hp
 obtain⟨i,hi,rfl⟩:=List.mem_range'.1 hm
 have h0:ptLo 0=0:=by simp[ptLo]
 have h1:=Hb term
 rw[h0] at hi he
 simp only[Int.toNat_zero,Int.sub_zero,I3,Nat.one_mul] at hi he
 unfold ptO at he
 have h2:=AN hw (kk:=5) (ks:=st) (ko:=n) (k:=known) (t:=i) (by omega)
 cases hb:Zd ((a6 5 st n known w.f).getD i 0≥0)<;>rw[hb] at he<;>simp at he
 subst he
 simp only[decide_eq_true_eq] at hb
 simp only[List.getD_eq_getElem?_getD] at h2 hb
 refine⟨by simp only;omega,by simp only;omega,by simp only;omega,?_,?_⟩<;>simp only<;>omega
theorem DB{many:Int}:∀(fs:List FactT) (l:List Int),(∀n∈l,0≤n∧n≤4095)→∀n∈nuG (forL (nuF many) fs l),0≤n∧n≤4095
 | [],l,h=>by simpa[forL,nuG] using h
 | f::fs,l,h=>by
  simp only[forL]
  cases hf:nuF many f l with
  | inl l' =>
   refine DB fs l' ?_
   unfold nuF at hf
   split at hf
   ·simp at hf
   ·simp at hf;subst hf
    cases hn:isNew f l
    ·simpa using h
    ·simp only[cond_true]
     unfold isNew at hn
     simp only[Hx,decide_eq_true_eq] at hn
     intro n hm
     rcases List.mem_append.1 hm with hm|hm
     ·exact h n hm
     ·simp at hm;subst hm;omega
  | inr l' =>
   have:l'=l:=by
    unfold nuF at hf;split at hf
    ·simp at hf;exact hf.symm
    ·simp at hf
   subst this
   exact h
theorem n7{fs:List FactT}{known:Int}:∀n∈ad fs known,0≤n∧n≤4095:=by
 intro n hn
 unfold ad cD at hn
 exact DB fs [] (by simp) n ((Jl _ _).mem_iff.1 hn)
theorem mH{w:WorldT}{n t known:Int}:0≤(ac w n t known).1.bY∧(ac w n t known).1.bY≤60:=by
 unfold ac
 cases outB t with
 | true=>simp[LD]
 | false =>
  simp only
  unfold j8
  cases hb:j7 w.c (cg n) (atR 1 n 0 t known w.f) with
  | true=>simp[LD]
  | false =>
   have h:=(yZ hb).2.1
   simp only[cg,bX,inB,Hx,decide_eq_true_eq] at h
   simp only;omega
theorem DC{w:WorldT}(hw:w.ok){known st term:Int}{a:AttT}(ha:a∈b7 w known st term):wJ a=true∧a.term<term:=by
 unfold b7 at ha
 obtain⟨n,hn,ha⟩:=List.mem_flatMap.1 ha
 obtain⟨_,p,hp,hb,rfl⟩:=cG ha
 have h1:=n7 n hn
 obtain⟨t1,t2,t3,v1,v2⟩:=pts_in hw hp
 have h3:=mH (w:=w) (n:=n) (t:=p.term) (known:=known)
 have hd:Hp.wrap (Int.tdiv p.value 16)=p.value / 16:=by
  rw[Int.tdiv_eq_ediv_of_nonneg v1,wrap_i64 (by omega) (by omega)]
 have hm:Int.tmod p.value 16=p.value % 16:=Int.tmod_eq_emod_of_nonneg v1
 unfold attBad at hb
 rw[hd,hm] at hb
 simp only[I6,decide_eq_false_iff_not] at hb
 refine⟨?_,t3⟩
 simp only[wJ,wI,inB,Hx,decide_eq_true_eq,hd,hm]
 omega
theorem AO{w:WorldT}{known st term:Int}:(b7 w known st term).Pairwise fun a b=>¬(a.term=b.term∧a.aT=b.aT):=by
 unfold b7
 rw[List.pairwise_flatMap]
 refine⟨fun n _=>?_,?_⟩
 ·unfold eF
  refine List.Pairwise.filterMap (R:=fun p q:PtT=>p.term<q.term) (Di w known n) ?_ nI
  intro p q hpq a ha b hb e
  unfold Di at ha hb
  cases h1:attBad p<;>rw[h1] at ha<;>simp at ha
  cases h2:attBad q<;>rw[h2] at hb<;>simp at hb
  subst ha;subst hb
  have:=e.1
  simp only[wI] at this
  omega
 ·refine List.Pairwise.imp ?_ gt
  intro n m Ou x hx y hy e
  rw[(cG hx).1,(cG hy).1] at e
  exact Ou e.2
theorem mi{w:WorldT}{known st term:Int}:(cH w known st term).Pairwise fun a b=>wG a b<0:=by
 have h1:=tU (w:=w) (known:=known) (st:=st) (term:=term)
 have h2:(cH w known st term).Pairwise fun a b=>¬(a.term=b.term∧a.aT=b.aT):=(recA_perm.pairwise_iff (fun {a b} h e=>h ⟨e.1.symm,e.2.symm⟩)).2 AO
 refine(h1.and h2).imp ?_
 intro a b ⟨ha,hb⟩
 rw[pE] at ha
 have:=(pm a b).2 (by omega)
 unfold ltOf at this
 simpa using this
theorem vG:∀(l:List AttT) (o:Option AttT),(∀x∈l,wJ x=true)→(l.Pairwise fun a b=>wG a b<0)→(∀b,o=some b→∀x∈l,wG b x<0)→((o::l.map some).zip l).any (fun p=>tq p.1 p.2)=false
 | [],_,_,_,_=>by simp
 | a::l,o,h,hp,ho=>by
  rw[Il,Nz,List.any_cons,I6]
  rw[Ke] at hp
  refine⟨?_,vG l (some a) (fun x hx=>h x (Iu _ hx)) hp.2 (fun b e x hx=>by cases e;exact hp.1 x hx)⟩
  unfold tq
  rw[h a (IE ..)]
  cases o with
  | none=>rfl
  | some b =>
   have:=ho b rfl a (IE ..)
   simp;omega
theorem w9{w:WorldT}(hw:w.ok){known st term:Int}(h0:0≤st)(h1:st≤19999):bF ⟨st,cH w known st term⟩=0:=by
 unfold bF
 have h3:(jl (cH w known st term)).any (fun p=>tq p.1 p.2)=false:=vG _ none (fun x hx=>(DC hw (recA_perm.mem_iff.1 hx)).1) mi (fun b e=>by cases e)
 have h2:=rk_any (jl (cH w known st term))
 rw[h3] at h2
 have hb:(!(Zd (st≥0)&&Zd (st≤19999)))=false:=by simp;omega
 simp only[hb,cond_false]
 cases h:forL rkF (jl (cH w known st term)) () with
 | inl u=>rfl
 | inr u=>rw[h] at h2;simp at h2
section
variable {α:Type} (lt:α→α→Bool)
def posG(x:α)(y:α)(n:Nat):Nat⊕Nat:=bif lt y x then .inl (n+1) else .inr n
def A0(out:List α)(x:α):List α:=out.takeWhile (fun y=>lt y x)++[x]++out.dropWhile fun y=>lt y x
theorem AP(x:α):∀(out:List α) (n:Nat),(match forL (posG lt x) out n with | .inl n=>n | .inr n=>n)=n+(out.takeWhile fun y=>lt y x).length
 | [],n=>by simp[forL]
 | y::out,n=>by
  simp only[forL,posG,Ly]
  cases h:lt y x
  ·simp
  ·have:=AP x out (n+1)
   simp only[cond_true,if_true,HY];omega
theorem jz(p:α→Bool):∀l:List α,l.take (l.takeWhile p).length=l.takeWhile p∧l.drop (l.takeWhile p).length=l.dropWhile p
 | []=>by simp
 | a::l=>by
  have:=jz p l
  simp only[Ly,Np]
  cases p a<;>simp[this]
theorem AQ(out:List α)(x:α):(A0 lt out x).Perm (out++[x]):=by
 unfold A0
 have e:out=out.takeWhile (fun y=>lt y x)++out.dropWhile fun y=>lt y x:=(LN).symm
 conv=>rhs;rw[e]
 rw[J2,J2]
 exact List.Perm.append_left _ List.perm_append_comm
theorem gh:∀(l out:List α),(l.foldl (A0 lt) out).Perm (out++l)
 | [],out=>by simp
 | x::l,out=>by
  rw[H7]
  refine(gh l _).trans ?_
  rw[show out++x::l=(out++[x])++l by simp]
  exact(AQ lt out x).append_right l
theorem n8(p:α→Bool):∀(l:List α) z0 zs,l.dropWhile p=z0::zs→p z0=false
 | [],_,_,h=>by simp at h
 | a::l,z0,zs,h=>by
  rw[Np] at h
  cases hp:p a<;>rw[hp] at h<;>simp at h
  ·rw[←h.1];exact hp
  ·exact n8 p l z0 zs h
theorem sa(p:α→Bool):∀(l:List α) a,a∈l.takeWhile p→p a=true
 | [],_,h=>by simp at h
 | b::l,a,h=>by
  rw[Ly] at h
  cases hp:p b<;>rw[hp] at h<;>simp at h
  rcases h with rfl|h
  ·exact hp
  ·exact sa p l a h
theorem tV(h1:∀a b,lt a b=true→lt b a=false)(h2:∀a b c,lt b a=false→lt c b=false→lt c a=false){out:List α}{x:α}(ho:out.Pairwise fun a b=>lt b a=false):(A0 lt out x).Pairwise fun a b=>lt b a=false:=by
 unfold A0
 have e:out=out.takeWhile (fun y=>lt y x)++out.dropWhile fun y=>lt y x:=(LN).symm
 rw[e,LB] at ho
 obtain⟨o1,o2,o3⟩:=ho
 have hx:∀z∈out.dropWhile fun y=>lt y x,lt z x=false:=by
  intro z hz
  cases hd:out.dropWhile fun y=>lt y x with
  | nil=>rw[hd] at hz;simp at hz
  | cons z0 zs =>
   rw[hd] at hz o2
   have h0:=n8 _ _ _ _ hd
   rcases HR.1 hz with rfl|hz
   ·exact h0
   ·exact h2 _ _ _ h0 ((Ke.1 o2).1 z hz)
 rw[J2,LB]
 refine⟨o1,?_,?_⟩
 ·rw[MN,Ke]
  exact⟨hx,o2⟩
 ·intro a ha b hb
  have hax:lt a x=true:=sa (fun y=>lt y x) out a ha
  rw[MN] at hb
  rcases HR.1 hb with rfl|hb
  ·exact h1 _ _ hax
  ·exact o3 a ha b hb
theorem fQ(h1:∀a b,lt a b=true→lt b a=false)(h2:∀a b c,lt b a=false→lt c b=false→lt c a=false):∀(l out:List α),(out.Pairwise fun a b=>lt b a=false)→(l.foldl (A0 lt) out).Pairwise fun a b=>lt b a=false
 | [],_,h=>h
 | x::l,out,h=>fQ h1 h2 l _ (tV lt h1 h2 h)
end
theorem insI_G:xj=A0 fun y x:Int=>Zd (y<x):=by
 funext out x
 have h1:s7P out x=(out.takeWhile fun y=>Zd (y<x)).length:=by
  have:=AP (fun y x:Int=>Zd (y<x)) x out 0
  rw[I3] at this
  exact this
 have h2:=jz (fun y=>Zd (y<x)) out
 unfold xj A0
 rw[h1,h2.1,h2.2]
theorem sb(l:List Int):fh l=l.mergeSort fun x y=>Zd (x≤y):=by
 unfold fh
 rw[insI_G]
 refine KA (le:=fun a b:Int=>a≤b) ?_ ?_ ?_ ?_
 ·intro a b _ _ h1 h2;omega
 ·have:=fQ (fun y x:Int=>Zd (y<x)) (by intro a b h;simp at h ⊢;omega) (by intro a b c h1 h2;simp at h1 h2 ⊢;omega) l [] Ma
  exact this.imp fun h=>by simpa using h
 ·have:=J8 (le:=fun x y:Int=>Zd (x≤y)) (by intro a b c h1 h2;simp at h1 h2 ⊢;omega) (by intro a b;simp;omega) l
  exact this.imp fun h=>by simpa using h
 ·exact((gh _ l []).trans (by simp)).trans (Jl _ _).symm
theorem insA_G:sh=A0 befA:=by
 funext out x
 have h1:puP out x=(out.takeWhile fun y=>befA y x).length:=by
  have:=AP befA x out 0
  rw[I3] at this
  exact this
 have h2:=jz (fun y=>befA y x) out
 unfold sh A0
 rw[h1,h2.1,h2.2]
theorem befA_iff(a b:AttT):befA a b=true ↔ a.term<b.term∨(a.term=b.term∧a.aT<b.aT):=by simp[befA]
theorem befA_fls(a b:AttT):befA a b=false ↔ ¬(a.term<b.term∨(a.term=b.term∧a.aT<b.aT)):=by rw[←Bool.not_eq_true,befA_iff]
theorem CN{w:WorldT}{known st term:Int}:(b7 w known st term).foldl sh []=cH w known st term:=by
 rw[insA_G]
 have hs:=mi (w:=w) (known:=known) (st:=st) (term:=term)
 refine KA (le:=fun a b:AttT=>befA b a=false) ?_ ?_ ?_ ?_
 ·intro a b ha hb h1 h2
  rw[befA_fls] at h1 h2
  have hm:a∈b7 w known st term:=by have:=(gh befA (b7 w known st term) []).mem_iff.1 ha;simpa using this
  have Sf:b∈b7 w known st term:=recA_perm.mem_iff.1 hb
  exact u5 a hm b Sf (by omega) (by omega)
 ·exact fQ befA (by intro a b h;rw[befA_iff] at h;rw[befA_fls];omega) (by intro a b c h1 h2;rw[befA_fls] at h1 h2 ⊢;omega) _ [] Ma
 ·refine hs.imp ?_
  intro a b h
  have:=(pm a b).1 (by unfold ltOf;simpa using h)
  rw[befA_fls];omega
 ·exact((gh _ _ []).trans (by simp)).trans recA_perm.symm
abbrev pt7S(kk ks ko to known:Int)(fs:List (List Dp))(l:List PtT)(x:Int):AS:={t:=mkT 40 0 [(0,ab fs),(3,int to),(4,int known),(6,.ref (.ptr 0 0)),(11,.ref (.vec 1 0)),(12,int x)],h:=[.var [int kk,int ks,int ko],.vec (ae (l.map Jo)) 0 2],m:=[]}
noncomputable abbrev pG(kk:Int)(ks:Int)(ko:Int)(l:List PtT):List Blk:=[.var [int kk,int ks,int ko],.vec (ae (Hl Jo l)) 0 2]
theorem pt7_b{kk ks ko to known u:Int}{b:Bool}{fs:List (List Dp)}{l:List PtT}{n:Nat}(hl:l.length≤2000)(iF:Zd ((n:Int)<if false=true then if 1024>to then 1024 else to else if 1024<to then 1024 else to)=true)(hw:Hp.wrap ((n:Int)+1)=((n+1:Nat):Int))
 (Ps:∀h,Ev Hm Γ0 124 [ab fs,.agg [int kk,int ks,int ko],int n,int known] h (.tup [int u,bool b]) h):(CW Hm Γ0 [] false (sub M6 0) (pt7S kk ks ko to known fs l (n:Int)) .normal (pt7S kk ks ko to known fs (bif b then l++[⟨(n:Int),u⟩] else l) ((n+1:Nat):Int))):=by
 cases dO:b
 ·refine zX {t:=mkT 40 0 [(0,ab fs),(3,int to),(4,int known),(6,.ref (.ptr 0 0)),(11,.ref (.vec 1 0)),(12,int (Ht Hp ((↑n:Int)+1)))],h:=(pG kk ks ko l),m:=[]} HA [.st (.mask [0,3,4,6,11,12]),.st (.ren 1 0),.st (.trimV 2)] [.b true,.val (HV [int u,bool b]),.b false] (.c iF (.c (@Ps (pG kk ks ko l)) (.c dO (.c (vM (Hl Jo l) 1 0 0) (.c (show HB 2 (match 0==1 with|true=>.vec (ae (Hl Jo l)) 0 2|false=>keepX (al 1 0 0) (.var [int kk,int ks,int ko]))=true from rfl) (.c (iV 2 (Hl Jo l) 0 2) .n)))))) (by(simp only[];done)) (by(simp only[hw,cond_false];done))
 ·refine zX {t:=mkT 40 0 [(0,ab fs),(3,int to),(4,int known),(6,.ref (.ptr 0 0)),(11,.ref (.vec 1 0)),(12,int (Ht Hp ((↑n:Int)+1)))],h:=[.var [int kk,int ks,int ko],.vec (ae (Hl Jo l)++[[int (↑n:Int),int u]]) 0 2],m:=[]} HA [.st (.mask [0,3,4,6,11,12]),.st (.ren 1 0),.st (.trimV 2)] [.b true,.val (HV [int u,bool b]),.b true] (.c iF (.c (@Ps (pG kk ks ko l)) (.c dO (.c (show(List.all [[int (↑n:Int),int u]] (aG 2)&&roomOk (Hn (ae (Hl Jo l))+Hn [[int (↑n:Int),int u]]) 16)=true from ?_) (.c (vMa (Hl Jo l) [[int (↑n:Int),int u]] 1 1 0) (.er [[int (↑n:Int),int u]] (.c (show HB 2 (match 0==1 with|true=>.vec (ae (Hl Jo l)++[[int (↑n:Int),int u]]) 0 2|false=>keepX (al 1 1 0) (.var [int kk,int ks,int ko]))=true from rfl) (.c (iVa 2 (Hl Jo l) [[int (↑n:Int),int u]] 0 2) .n)))))))) (by(simp only[];done)) (by(simp only[hw,cond_true,zd];first|done|rfl))<;>(simp[aG,D.one,IJ,roomOk];omega)
theorem CO{kk ks ko to known:Int}{fs:List (List Dp)}{l:List PtT}{x:Int}(iF:Zd (x<if false=true then if 1024>to then 1024 else to else if 1024<to then 1024 else to)=false):(CW Hm Γ0 [] false (sub M6 0) (pt7S kk ks ko to known fs l x) (.exit 0) {t:=mkT 40 0 [(11,.ref (.vec 1 0))],h:=[.var [int kk,int ks,int ko],.vec (ae (l.map Jo)) 0 2],m:=[]}):=by
 exact zx [.st (.mask [11])] [.b false] (.c iF .n)
theorem ptF_at{v:Int}{n:Nat}{l:List PtT}:(bif (atV v).2 then l++[⟨(n:Int),(atV v).1⟩] else l)=ptF v n l:=by
 unfold ptF atV
 have e:Zd (v≥0) = !Zd (v<0):=by rw[Bool.eq_iff_iff];simp
 rw[e]
 cases Zd (v<0)<;>rfl
theorem pt7_cw{kk ks ko to known:Int}{fs:List FactT}(hl:af fs){x:Int}(hx:0≤x):
  CW Hm Γ0 [] false (.loop (sub M6 0)) (pt7S kk ks ko to known (fs.map Hv) [] x) (.exit 0) {t:=mkT 40 0 [(11,.ref (.vec 1 0))],h:=[.var [int kk,int ks,int ko],.vec (ae ((ze (a6 kk ks ko known fs) x to).map Jo)) 0 2],m:=[]}:=by
 have hh:rK to≤1024:=by unfold rK;split<;>omega
 have:=CW.each (P:=Hm) (Γ:=Γ0) (h0:=[]) (rd:=false) (c:=sub M6 0) (σ:=List PtT) (ρ:=Empty) (KP x.toNat (rK to - x).toNat) (fun n l=>.inl (ptF ((a6 kk ks ko known fs).getD n 0) n l))
  (fun i l=>pt7S kk ks ko to known (fs.map Hv) l (x+(i:Int))) (.exit 0) (fun l=>{t:=mkT 40 0 [(11,.ref (.vec 1 0))],h:=[.var [int kk,int ks,int ko],.vec (ae (l.map Jo)) 0 2],m:=[]}) (fun r=>r.elim)
  (fun i l=>l.length≤i) (by simp) (fun r=>r.elim) ?_ ?_ [] (by simp)
 ·rw[aC (fun l n=>ptF ((a6 kk ks ko known fs).getD n 0) n l)] at this
  simpa[a8,ze] using this
 ·intro i n l hn hs
  obtain⟨hi,he⟩:=Hs.1 hn
  simp only[List.length_range'] at hi
  simp only[List.getElem_range',Nat.one_mul] at he
  have iF:(n:Int)<rK to:=by omega
  refine⟨fun s' h=>by cases h;have:=te ((a6 kk ks ko known fs).getD n 0) n l;omega,?_⟩
  have key:=pt7_b (kk:=kk) (ks:=ks) (ko:=ko) (to:=to) (known:=known) (fs:=fs.map Hv) (l:=l) (n:=n) (u:=(atV ((a6 kk ks ko known fs).getD n 0)).1) (b:=(atV ((a6 kk ks ko known fs).getD n 0)).2) (by omega) (by rw[pj];simpa using iF) (by rw[wrap_i64 (by omega) (by omega)];omega)
   (fun h=>by have:=vr (kk:=kk) (ks:=ks) (ko:=ko) (term:=(n:Int)) (known:=known) hl h;rw[vt,AH (by omega)] at this;exact this)
  have e1:x+(i:Int)=(n:Int):=by omega
  have e2:x+((i+1:Nat):Int)=((n+1:Nat):Int):=by omega
  rw[ptF_at] at key
  simp only[ah,e1,e2]
  exact key
 ·intro l _
  refine CO ?_
  rw[pj]
  simp
  omega
theorem xa{kk ks ko frm to known:Int}{l:List FactT}(hl:af l)(h:List Blk):(Ev Hm Γ0 74 [ab (l.map Hv),.agg [int kk,int ks,int ko],int frm,int to,int known] h (ab ((aR kk ks ko frm to known l).map Jo)) h):=by
 have N1:=(@pt7_cw (kk) (ks) (ko) (to) (known) (l) (hl) (if true=true then if frm>0 then frm else 0 else if frm<0 then frm else 0) (by first|assumption|rfl|exact pk _|(simp;done)))
 let v0:=Hl Jo (ze (a6 kk ks ko known l) (if true=true then if frm>0 then frm else 0 else if frm<0 then frm else 0) to)
 let v1:=Hl Jo (aR kk ks ko frm to known l)
 exact z0 [.sum [0,3,4,6,11,12] (HT 0) {t:=mkT 40 0 [(11,.ref (.vec 1 0))],h:=[.var [int kk,int ks,int ko],.vec (ae v0) 0 2],m:=[]},.st (.frz 1 v1)] (.c N1 (.c (show ae v0=Hl (fun x=>Hl D.p x) v1 from(by subst v0 v1;rfl)) .n)) h
end Go.Vi
