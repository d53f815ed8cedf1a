/- RecordSituateSpecUpto: part of the proof: contracts of the functions that the law reaches, and the law. No conditions beyond the given statement's own. -/
import Derived.Test.YtilebidefogaiaaGreatDoorW6
import Derived.Ground.SlsfProg
open Decidable renaming decide → Zd
open List renaming length_cons → HY, map → Hl, length → Hn, getElem?_eq_some_iff → Hs, contains → Ij, foldl → HP, drop → IC, all → HJ, take → Ih, length_map → Ir, mem_map → HQ
open Go.Vi.CourseT renaming row → Hz
open Go.Vi.SysT renaming row → HC
open Go.Vi.FactT renaming row → Hv
open Go.Proofs.Tryz renaming prog → Hm, f19 → IR, f70 → M3, f20 → JF, f127 → Lk, f77 → M4
open Go.Vi.Ev renaming castH → H4, glob0 → H5
open Go.Vi.Blk renaming Om → HB
open Go.Proofs.SlLaysF0 renaming n6 → Mk
open Option.some renaming injEq → Ho
open Go.Vi.D renaming mapR → HO, p → II, innL → Ig
open Go.IntKind renaming i64 → Hp, wrap → Ht
open Go.Exit renaming normal → HA, ret → IB, exit → HT
open Go.Vi.WorldT renaming l → HI
open Go.Vi.CW renaming each → I7
open Go.Vi.AttT renaming row → Hq
open Go.Value renaming tuple → Ii, oneCell' → IJ
open Bool renaming false_and → Ix, true_and → Jb, false_or → KM
open Int renaming toNat → Hw
open Option renaming isSome → HN
open Go.Operand renaming tmp → ML
open Go Go.Proofs
namespace Go.Vi
set_option maxRecDepth 100000
set_option maxHeartbeats 4000000
theorem rX{w:WorldT}{term known:Int}{ns:List Int}:∀(f i:Nat) (s:RL),eJ ns (eqOut w term known ns f i s).2+(eqOut w term known ns f i s).2.length≤eJ ns s.2+s.2.length∧(eqOut w term known ns f i s).1.length≤s.1.length+f*ns.length
 | 0,_,s=>by simp[eqOut]
 | f+1,i,s=>by
  cases ha:s.2[i]? with
  | none=>rw[jr ha];simp
  | some a =>
   have h1:=d7 (w:=w) (term:=term) (known:=known) (a:=a) (ns:=ns) ns (fun _ h=>h) s
   have h2:=rX (w:=w) (term:=term) (known:=known) (ns:=ns) f (i+1) (jq w term known ns a s)
   simp only[eqOut,ha]
   simp only[jq] at *
   rw[Nat.add_mul]
   omega
theorem pv{w:WorldT}{c term known:Int}:(cI w c term known).2.length≤(ad w.f known).length+1∧(cI w c term known).1.length≤1+((ad w.f known).length+1)*(ad w.f known).length:=by
 have h:=rX (w:=w) (term:=term) (known:=known) (ns:=ad w.f known) ((ad w.f known).length+1) 0 ([rdN],[c])
 have h1:=lZ (ad w.f known) c
 unfold cI
 simp only[HY,List.length_nil] at h h1 ⊢
 omega
def a7(w:WorldT)(c term known:Int):RL:=match (!(Zd (c≥0)&&Zd (c≤4095))||!(Zd (term≥0)&&Zd (term≤1023))) with
 | true=>([],[c])
 | false=>((cI w c term known).1,xk w c term known)
theorem kq{w:WorldT}{c term known:Int}(hn:(ad w.f known).length≤1000):(a7 w c term known).1.length≤1001001∧(a7 w c term known).2.length≤1001:=by
 have h:=pv (w:=w) (c:=c) (term:=term) (known:=known)
 have h2:((ad w.f known).length+1)*(ad w.f known).length≤1001*1000:=Nat.mul_le_mul (by omega) hn
 unfold a7
 split
 ·simp
 ·simp only[xk,List.length_mergeSort];omega
noncomputable abbrev nY(w:WorldT):List Blk:=[.var [ab (Hl Hz w.c),ab w.p,ab (Hl HC w.s),ab (Hl Hv w.f)]]
theorem Gz{w:WorldT}{c term known:Int}(hc:(!(Zd (c≥0)&&Zd (c≤4095))||!(Zd (term≥0)&&Zd (term≤1023)))=true)(h:List Blk):(Ev Hm Γ0 120 [.agg w.l,int c,int term,int known] h (.tup [ab ([c].map fun n=>[vi n]),ab (rdR [])]) h):=by
 exact H4 (Ev.nilW (z0 (d:=D.tup [ab [[vi c]],nq]) [.val (bool (Zd (c≥0)&&Zd (c≤4095))),.val (bool (Zd (term≥0)&&Zd (term≤1023))),.b true,.nx 1,.st (.frz 1 [[vi c]])] (.c (@eD c 0 4095 (nY w)) (.c (gd (!!(Zd (c≥0)&&Zd (c≤4095))) (@eD term 0 1023 (nY w))) (.c hc (.er [[int c]] .n)))) h)) (by rfl) (by rfl)
theorem CD{w:WorldT}(hw:w.ok){c term known:Int}(hn:(ad w.f known).length≤1000)(h:List Blk):Ev Hm Γ0 120 [.agg w.l,int c,int term,int known] h (.tup [ab ((a7 w c term known).2.map fun n=>[vi n]),ab (rdR (a7 w c term known).1)]) h:=by
 unfold a7
 cases hc:(!(Zd (c≥0)&&Zd (c≤4095))||!(Zd (term≥0)&&Zd (term≤1023)))
 ·exact Gy hw hc hn (by have:=(pv (w:=w) (c:=c) (term:=term) (known:=known)).1;omega) (fun h=>lO hw.lf hw.sf h) h
 ·exact Gz hc h
theorem As{w:WorldT}(hw:w.ok){c term known:Int}(hn:(ad w.f known).length≤1000)(h:List Blk):Ev Hm Γk 120 [.agg w.l,int c,int term,int known] h (.tup [ab ((a7 w c term known).2.map fun n=>[vi n]),ab (rdR (a7 w c term known).1)]) h:=H5 (CD hw hn h)
noncomputable abbrev fd(w:WorldT)(known:Int)(n:Int)(term:Int)(rs:List ReadT):List Blk:=[.var [.ref (.vec 1 1),ab (Hl Hz w.c),ab w.p,ab (Hl HC w.s),ab (Hl Hv w.f),int known],.vec (ae (rdR (rs++(a7 w n term known).1))) 1 5]
noncomputable abbrev pw(w:WorldT)(known:Int)(rs:List ReadT):List Blk:=[.var [.ref (.vec 1 0),ab (Hl Hz w.c),ab w.p,ab (Hl HC w.s),ab (Hl Hv w.f),int known],.vec (ae (rdR rs)) 0 5]
theorem nZ{w:WorldT}(hw:w.ok){known n term:Int}(hn:(ad w.f known).length≤1000){rs:List ReadT}(hb:rs.length≤990000000):(Ev Hm Γk 63 [.ref (.ptr 0 0),int n,int term] (lkH w known rs 0) (ab ((a7 w n term known).2.map fun n=>[vi n])) (lkH w known (rs++(a7 w n term known).1) 1)):=by
 refine H4 (Ev.post (d2:=ab (Hl (fun n=>[vi n]) (a7 w n term known).2)) (h2:=(fd w known n term rs)) (φ:=[HB 2 (.var [.ref (.vec 1 1),ab (Hl Hz w.c),ab w.p,ab (Hl HC w.s),ab (Hl Hv w.f),int known])=true,HB 2 (.vec (ae (rdR (rs++(a7 w n term known).1))) 1 5)=true]) [.st (.trimV 2)] (Ev.of_sym (h':=(fd w known n term rs)) (d:=ab (Hl (fun n=>[vi n]) (a7 w n term known).2)) pok [.val (D.tup [ab (Hl (fun n=>[vi n]) (a7 w n term known).2),ab (rdR (a7 w n term known).1)]),.call (D.tup []) (fd w known n term rs)] (by kernel_rfl) (.c (@As w hw n term known hn (pw w known rs)) (.c (@u3 w known rs ((a7 w n term known).1) ?_) .n))) (by kernel_rfl) ⟨rfl,?_,trivial⟩) (by rfl) (by rfl)<;>(first|exact cF _ _|(have:=(kq (w:=w) (c:=n) (term:=term) (known:=known) hn).1;omega))
end Go.Vi
open Go Go.Proofs Go.Shelf
namespace Go.Proofs
def Tryz.sortSeen_ren:Go.Shelf.Ren:=⟨fun|6=>64|15=>122|14=>121|28=>173|29=>174|20=>165|21=>166|22=>167|23=>168|24=>169|25=>170|26=>171|27=>172|46=>210|47=>211|48=>212|49=>213|50=>214|57=>230|n=>n,fun|22=>33|24=>115|25=>130|3=>3|39=>192|0=>0|53=>233|55=>169|4=>4|46=>227|45=>226|50=>150|5=>5|9=>9|66=>251|70=>255|76=>265|77=>266|n=>n,fun|n=>n⟩
theorem Tryz.sortSeen:Mk Hm Tryz.sortSeen_ren:={
 mixed:=by kernel_rfl
 f6:=⟨Tryz.f64.name,by decide,Tryz.func64.trans (congrArg some (by kernel_rfl))⟩
 f14:=⟨Tryz.f121.name,by decide,Tryz.func121.trans (congrArg some (by kernel_rfl))⟩
 f15:=Tryz.func122.trans (congrArg some (by kernel_rfl))
 f20:=⟨Tryz.f165.name,by decide,Tryz.func165.trans (congrArg some (by kernel_rfl))⟩
 f21:=⟨Tryz.f166.name,by decide,Tryz.func166.trans (congrArg some (by kernel_rfl))⟩
 f22:=⟨Tryz.f167.name,by decide,Tryz.func167.trans (congrArg some (by kernel_rfl))⟩
 f23:=⟨Tryz.f168.name,by decide,Tryz.func168.trans (congrArg some (by kernel_rfl))⟩
 f24:=⟨Tryz.f169.name,by decide,Tryz.func169.trans (congrArg some (by kernel_rfl))⟩
 f25:=⟨Tryz.f170.name,by decide,Tryz.func170.trans (congrArg some (by kernel_rfl))⟩
 f26:=⟨Tryz.f171.name,by decide,Tryz.func171.trans (congrArg some (by kernel_rfl))⟩
 f27:=⟨Tryz.f172.name,by decide,Tryz.func172.trans (congrArg some (by kernel_rfl))⟩
 f28:=Tryz.func173.trans (congrArg some (by kernel_rfl))
 f29:=Tryz.func174.trans (congrArg some (by kernel_rfl))
 f46:=⟨Tryz.f210.name,by decide,Tryz.func210.trans (congrArg some (by kernel_rfl))⟩
 f47:=Tryz.func211.trans (congrArg some (by kernel_rfl))
 f48:=Tryz.func212.trans (congrArg some (by kernel_rfl))
 f49:=⟨Tryz.f213.name,by decide,Tryz.func213.trans (congrArg some (by kernel_rfl))⟩
 f50:=⟨Tryz.f214.name,by decide,Tryz.func214.trans (congrArg some (by kernel_rfl))⟩
 f57:=⟨Tryz.f230.name,by decide,Tryz.func230.trans (congrArg some (by kernel_rfl))⟩
 t0:=Tryz.underlying0
 a0:=Tryz.isAgg0
 z0:=Tryz.sizeOf0
 v0:=Tryz.zeroValue0
 t3:=Tryz.underlying3
 a3:=Tryz.isAgg3
 z3:=Tryz.sizeOf3
 v3:=Tryz.zeroValue3
 t4:=Tryz.underlying4
 a4:=Tryz.isAgg4
 z4:=Tryz.sizeOf4
 v4:=Tryz.zeroValue4
 t5:=Tryz.underlying5
 a5:=Tryz.isAgg5
 z5:=Tryz.sizeOf5
 v5:=Tryz.zeroValue5
 t9:=Tryz.underlying9
 a9:=Tryz.isAgg9
 z9:=Tryz.sizeOf9
 v9:=Tryz.zeroValue9
 t22:=Tryz.underlying33
 a22:=Tryz.isAgg33
 z22:=Tryz.sizeOf33
 v22:=Tryz.zeroValue33
 t25:=Tryz.underlying130
 a25:=Tryz.isAgg130
 z25:=Tryz.sizeOf130
 v25:=Tryz.zeroValue130
 t39:=Tryz.underlying192
 a39:=Tryz.isAgg192
 z39:=Tryz.sizeOf192
 v39:=Tryz.zeroValue192
 t45:=Tryz.underlying226
 a45:=Tryz.isAgg226
 z45:=Tryz.sizeOf226
 v45:=Tryz.zeroValue226
 t46:=Tryz.underlying227
 a46:=Tryz.isAgg227
 z46:=Tryz.sizeOf227
 v46:=Tryz.zeroValue227
 t50:=Tryz.underlying150
 a50:=Tryz.isAgg150
 z50:=Tryz.sizeOf150
 v50:=Tryz.zeroValue150
 t53:=Tryz.underlying233
 a53:=Tryz.isAgg233
 z53:=Tryz.sizeOf233
 v53:=Tryz.zeroValue233
 t55:=Tryz.underlying169
 a55:=Tryz.isAgg169
 z55:=Tryz.sizeOf169
 v55:=Tryz.zeroValue169
 t66:=Tryz.underlying251
 a66:=Tryz.isAgg251
 z66:=Tryz.sizeOf251
 v66:=Tryz.zeroValue251
 t70:=Tryz.underlying255
 a70:=Tryz.isAgg255
 z70:=Tryz.sizeOf255
 v70:=Tryz.zeroValue255
 t76:=Tryz.underlying265
 a76:=Tryz.isAgg265
 z76:=Tryz.sizeOf265
 v76:=Tryz.zeroValue265
 t77:=Tryz.underlying266
 a77:=Tryz.isAgg266
 z77:=Tryz.sizeOf266
 v77:=Tryz.zeroValue266}
end Go.Proofs
namespace Go.Vi
open Go.Sort
set_option maxRecDepth 100000
set_option maxHeartbeats 4000000
structure SeenT where
 aT:Int
 tries:Int
 iS:Int
 now:Bool
 deriving Inhabited,DecidableEq
def SeenT.row(s:SeenT):List Dp:=[vi s.aT,vi s.tries,vi s.iS,.v (.bool s.now)]
noncomputable abbrev py(a:SeenT)(b:SeenT):List Blk:=[.var [int a.aT,int a.tries,int a.iS,bool a.now],.var [int b.aT,int b.tries,int b.iS,bool b.now]]
theorem wX{a b:SeenT}(h:List Blk):(Ev Hm Γ0 65 [ag a.row,ag b.row] h (int (aU a.aT b.aT)) h):=by
 exact z0 [.val (int (aU a.aT b.aT))] (.c (@cU (a.aT) (b.aT) (py a b)) .n) h
def ordS(a b:SeenT):Int:=aU a.aT b.aT
def leS(a b:SeenT):Bool:=!(ltOf ordS) b a
theorem Au(a b:SeenT):(ltOf ordS) a b=true ↔ a.aT<b.aT:=by
 unfold ltOf ordS aU
 simp only[decide_eq_true_eq]
 repeat' split
 all_goals simp_all
 all_goals omega
theorem pz(a b:SeenT):(ltOf ordS) a b=false ↔ ¬a.aT<b.aT:=by
 rw[←Au,Bool.not_eq_true]
theorem swoS:SWO (ltOf ordS) where
 irrefl x:=by rw[pz];omega
 trans x y z h1 h2:=by rw[Au] at *;omega
 ntrans x y z h1 h2:=by rw[pz] at *;omega
def encS(a:SeenT):List Value:=[.int .i64 a.aT,.int .i64 a.tries,.int .i64 a.iS,.bool a.now]
abbrev aS(l:List SeenT):List (List D):=l.map fun a=>a.row.map .p
theorem tL{h:List Blk}{b e:Nat}{l:List SeenT}(hb:h[b]? = some (.vec (aS l) e 4))(hl:l.length<4611686018427387904)(hT:∀x∈l,∀y∈l,x.aT=y.aT→x=y):
  Ev Hm Γ0 64 [.ref (.vec b e),.p (.v (.func (.func 65) #[] #[]))] h (.tup []) (h.set b (.vec (aS (l.mergeSort leS)) e 4)) :=
 jT (α:=SeenT) (enc:=encS) (k:=4) (cf:=ordS) pok Tryz.sortSeen Tryz.isAgg115 Tryz.sizeOf115 (fun _=>rfl) (fun x v hv=>by simp[encS] at hv;rcases hv with rfl|rfl|rfl|rfl<;>rfl) swoS (by kernel_rfl) (fun x y=>wX []) hb hl
  (fun x hx y hy h1 h2=>by
   rw[pz] at h1 h2
   exact hT x hx y hy (by omega))
end Go.Vi
open Go Go.Proofs
namespace Go.Vi
set_option maxRecDepth 100000
set_option maxHeartbeats 4000000
abbrev SM:=List (Int×SeenT)
def seD(s:SeenT):D:=.agg (s.row.map .p)
def aQ:Nat→SM→List (D×D×Nat)
 | _,[]=>[]
 | j,(k,v)::l=>(int k,seD v,j)::aQ (j+1) l
def smB(l:SM):Blk:=.map (aQ 0 l) l.length
def bE:SM→Int→Option SeenT
 | [],_=>none
 | (a,v)::l,k=>if a=k then some v else bE l k
def bA:SM→Int→SeenT→SM
 | [],k,v=>[(k,v)]
 | (a,x)::l,k,v=>if a=k then (k,v)::l else (a,x)::bA l k v
theorem l4(l:SM)(k:Int)(v:SeenT)(k':Int):bE (bA l k v) k'=if k=k' then some v else bE l k':=by
 induction l with
 | nil=>simp[bA,bE]
 | cons e l ih =>
  obtain⟨a,x⟩:=e
  unfold bA
  by_cases h:a=k
  ·subst h
   simp only[if_true,bE]
   by_cases h2:a=k'<;>simp[h2]
  ·simp only[h,if_false,bE,ih]
   by_cases h2:a=k'
   ·subst h2;simp[Ne.symm h]
   ·simp[h2]
def AZ:SM→Int→Nat→Option (Nat×D)
 | [],_,_=>none
 | (a,v)::l,k,i=>if a=k then some (i,seD v) else AZ l k (i+1)
theorem l5(k:Int):∀(l:SM) (j i:Nat),da (int k) (aQ j l) i=some (AZ l k i)
 | [],_,_=>rfl
 | (a,v)::l,j,i=>by
  simp only[aQ,da,AZ]
  by_cases h:a=k
  ·subst h;simp[gw]
  ·have:gw (int k) (int a)=some false:=by
    have h2:¬k=a:=fun e=>h e.symm
    simp[gw,h2]
   rw[this]
   simp only[h,if_false]
   exact l5 k l (j+1) (i+1)
theorem l6{k:Int}:∀{l:SM} {i:Nat},AZ l k i=none→bE l k=none∧∀v,bA l k v=l++[(k,v)]
 | [],_,_=>by simp[bE,bA]
 | (a,x)::l,i,h=>by
  unfold AZ at h
  split at h
  ·simp at h
  ·rename_i Ou
   obtain⟨h1,h2⟩:=l6 h
   simp only[bE,bA,Ou,if_false,h1,true_and]
   intro v;rw[h2];rfl
theorem l7{k:Int}:∀{l:SM} {i j n:Nat} {d:D},AZ l k i=some (n,d)→∃v,d=seD v∧bE l k=some v∧i≤n∧((aQ j l)[n - i]?).map (fun e=>e.2.2)=some (j+(n - i))∧∀x,aQ j (bA l k x)=(aQ j l).set (n - i) (int k,seD x,j+(n - i))∧(bA l k x).length=l.length
 | [],_,_,_,_,h=>by simp[AZ] at h
 | (a,x)::l,i,j,n,d,h=>by
  unfold AZ at h
  split at h
  ·rename_i ha
   simp only[Ho,Prod.mk.injEq] at h
   obtain⟨rfl,rfl⟩:=h
   exact⟨x,rfl,by simp[bE,ha],Nat.le_refl _,by simp[aQ],fun y=>by simp[bA,ha,aQ]⟩
  ·rename_i ha
   obtain⟨v,h1,h2,h3,h4,h5⟩:=l7 (j:=j+1) h
   have e:n - i=(n - (i+1))+1:=by omega
   refine⟨v,h1,by simp[bE,ha,h2],by omega,?_,fun y=>?_⟩
   ·rw[e];simp only[aQ,List.getElem?_cons_succ,h4];congr 1;omega
   ·obtain⟨h6,h7⟩:=h5 y
    simp only[bA,ha,if_false,aQ,h6]
    rw[e,List.set_cons_succ]
    refine⟨?_,by simp[h7]⟩
    rw[show j+1+(n - (i+1))=j+(n - (i+1)+1) by omega]
def l8:SeenT:=⟨0,0,0,false⟩
theorem wY{P:Program}{h:List Blk}{t:TypeId}{b:Nat}{l:SM}{c:Int}{kt et:TypeId}(hk:cd P kt (int c)=true)(ht:P.underlying t=some (.map kt et))(hz:gO P et=some (.agg #[.int .i64 0,.int .i64 0,.int .i64 0,.bool false]))(hb:h[b]? = some (smB l)):
  ap P h t (.ref (.mp b)) (int c) false=some (seD ((bE l c).getD l8)):=by
 unfold ap
 simp only[ht,kz,hb,smB,hk,if_true,hz,l5]
 cases hi:AZ l c 0 with
 | none =>
  rw[(l6 hi).1];rfl
 | some p =>
  obtain⟨n,d⟩:=p
  obtain⟨v,rfl,h2,_⟩:=l7 (j:=0) hi
  rw[h2];rfl
theorem vC(k:Int)(v:SeenT):∀(l:SM) (j:Nat),aQ j (l++[(k,v)])=aQ j l++[(int k,seD v,j+l.length)]
 | [],j=>by simp[aQ]
 | (a,x)::l,j=>by
  simp only[List.cons_append,aQ,vC k v l (j+1),HY]
  rw[show j+1+l.length=j+(l.length+1) by omega]
theorem Av{P:Program}{h:List Blk}{t:TypeId}{b:Nat}{l:SM}{c:Int}{v:SeenT}{kt et:TypeId}(hk:cd P kt (int c)=true)(ht:P.underlying t=some (.map kt et))(hb:h[b]? = some (smB l)):
  am P h t (.ref (.mp b)) (int c) (seD v)=some (h.set b (smB (bA l c v))):=by
 unfold am
 simp only[ht,hb,smB,hk,if_true,l5]
 cases hi:AZ l c 0 with
 | none =>
  simp only[(l6 hi).2 v,vC]
  simp
 | some p =>
  obtain⟨n,d⟩:=p
  obtain⟨x,rfl,_,_,h4,h5⟩:=l7 (j:=0) hi
  obtain⟨h6,h7⟩:=h5 v
  simp only[Nat.sub_zero,Nat.zero_add] at h4 h6
  cases hn:(aQ 0 l)[n]? with
  | none=>rw[hn] at h4;simp at h4
  | some e =>
   rw[hn] at h4
   obtain⟨e1,e2,e3⟩:=e
   simp only[Option.map_some,Ho] at h4
   subst h4
   simp only[h6,h7]
   rw[hn]
theorem cb(f:Ref→D):∀(l:SM) (j:Nat),(aQ j l).map (fun e=>(HO f e.1,HO f e.2.1,e.2.2))=aQ j l
 | [],_=>rfl
 | (a,x)::l,j=>by simp only[aQ,List.map_cons,cb f l (j+1)];rfl
theorem vD(n:Nat):∀(l:SM) (j:Nat),((aQ j l).all fun e=>D.Om n e.1&&D.Om n e.2.1)=true
 | [],_=>rfl
 | (a,x)::l,j=>by simp only[aQ,List.all_cons,vD n l (j+1)];rfl
theorem n3{n:Nat}{l:SM}:HB n (smB l)=true:=vD n l 0
abbrev xl:Blk:=.var [ay,int 0,int 0,int 0]
abbrev snS(w:WorldT)(st term known:Int)(ns:List (List Dp))(last:Int)(sm:SM)(i:Int):AS :=
 {t:=mkT 190 0 [(1,int st),(2,int term),(3,int known),(5,.ref (.ptr 0 0)),(10,.ref (.ptr 1 0)),(11,ay),(12,int 0),(13,.ref (.mp 2)),(14,int last),(42,ab ns),(43,int ns.length),(44,int i)],h:=[.var w.l,xl,smB sm],m:=[]}
abbrev snE(w:WorldT)(st term known:Int)(sm:SM):AS :=
 {t:=mkT 190 0 [(1,int st),(2,int term),(3,int known),(5,.ref (.ptr 0 0)),(10,.ref (.ptr 1 0)),(11,ay),(12,int 0),(13,.ref (.mp 2))],h:=[.var w.l,xl,smB sm],m:=[]}
abbrev snX(w:WorldT):Unit→Exit×AS:=fun _=>(.ret,{t:=mkT 190 0 [(10,.ref (.ptr 1 0)),(11,ay),(12,int 150)],h:=[.var w.l,xl],m:=[]})
def snOk(last c:Int):Bool:=Zd (c≥Hp.wrap (last+1))&&Zd (c≤4095)
def snF(c:Int)(s:Int×SM):(Int×SM)⊕Unit:=bif snOk s.1 c then .inl (c,bA s.2 c ⟨c,0,-1,true⟩) else .inr ()
theorem bn_t{b:Bool}(h:(!b)=false):b=true:=by cases b<;>simp_all
theorem bn_f{b:Bool}(h:(!b)=true):b=false:=by cases b<;>simp_all
theorem upS{h:List Blk}{m:SM}{c:Int}{v:SeenT}(hb:h[2]? = some (smB m)):am Hm h 117 (.ref (.mp 2)) (int c) (seD v)=some (h.set 2 (smB (bA m c v))):=Av (kt:=3) (et:=115) (by kernel_rfl) (by kernel_rfl) hb
theorem lkS{h:List Blk}{m:SM}{c:Int}(hb:h[2]? = some (smB m)):ap Hm h 117 (.ref (.mp 2)) (int c) false=some (seD ((bE m c).getD l8)):=wY (kt:=3) (et:=115) (by kernel_rfl) (by kernel_rfl) (by kernel_rfl) hb
noncomputable abbrev ju(w:WorldT)(sm:SM):List Blk:=[.var [ab (Hl Hz w.c),ab w.p,ab (Hl HC w.s),ab (Hl Hv w.f)],.var [nq,int 0,int 0,int 0],.map (aQ 0 sm) (Hn sm)]
theorem GA{w:WorldT}{st term known:Int}{ns:List (List Dp)}{last c:Int}{sm:SM}{i:Nat}(hr:aj (i:Int) ns [vi c] 1)(iF:Zd ((i:Int)<(ns.length:Int))=true)(hw:Hp.wrap ((i:Int)+1)=((i+1:Nat):Int)):(CW Hm Γk [] false (sub IR 0) (snS w st term known ns last sm i) (ah (fun s:Int×SM=>snS w st term known ns s.1 s.2 ((i+1:Nat):Int)) (snX w) (snF c (last,sm))).1 (ah (fun s:Int×SM=>snS w st term known ns s.1 s.2 ((i+1:Nat):Int)) (snX w) (snF c (last,sm))).2):=by
 cases dO:!(Zd (c≥Ht Hp (last+1))&&Zd (c≤4095))
 ·let v0:=Hn (bA sm c {aT:=c,tries:=0,iS := -1,now:=true})
  refine zX {t:=mkT 190 0 [(1,int st),(2,int term),(3,int known),(5,.ref (.ptr 0 0)),(10,.ref (.ptr 1 0)),(11,nq),(12,int 0),(13,.ref (.mp 2)),(14,int c),(42,ab ns),(43,int (↑(Hn ns):Int)),(44,int (Ht Hp ((↑i:Int)+1)))],h:=[.var [ab (Hl Hz w.c),ab w.p,ab (Hl HC w.s),ab (Hl Hv w.f)],.var [nq,int 0,int 0,int 0],.map (aQ 0 (bA sm c {aT:=c,tries:=0,iS := -1,now:=true})) v0],m:=[]} HA [.st (.mask [1,2,3,5,10,11,12,13,14,42,43,44])] [.b true,.row [vi c],.val (bool (Zd (c≥Ht Hp (last+1))&&Zd (c≤4095))),.b false,.oh 10055 D.any [.var (HI w),xl,smB (bA sm c {aT:=c,tries:=0,iS := -1,now:=true})]] (.c iF (.c hr (.c (H5 (Γ':=Γk) (@bp c (Ht Hp (last+1)) 4095 (ju w sm))) (.c dO (.c (show am Hm (ju w sm) 117 (.ref (.mp 2)) (int c) (D.agg [int c,int 0,int (-1),bool true])=some [.var (HI w),.var [nq,int 0,int 0,int 0],.map (aQ 0 (bA sm c {aT:=c,tries:=0,iS := -1,now:=true})) v0] from(by subst v0;exact upS (v:=⟨c,0,-1,true⟩) rfl)) .n))))) ?_ ?_<;>subst v0<;>(have hh:snOk last c=true:=bn_t dO;simp only[snF,hh,cond_true,ah,hw];first|done|rfl)
 ·refine zX {t:=mkT 190 0 [(10,.ref (.ptr 1 0)),(11,nq),(12,int 150)],h:=[.var [ab (Hl Hz w.c),ab w.p,ab (Hl HC w.s),ab (Hl Hv w.f)],.var [nq,int 0,int 0,int 0]],m:=[]} IB [.st (.mask [10,11,12]),.st (.trim 2)] [.b true,.row [vi c],.val (bool (Zd (c≥Ht Hp (last+1))&&Zd (c≤4095))),.b true] (.c iF (.c hr (.c (H5 (Γ':=Γk) (@bp c (Ht Hp (last+1)) 4095 (ju w sm))) (.c dO .n)))) ?_ ?_<;>(have hh:snOk last c=false:=bn_f dO;simp only[snF,hh,cond_false,ah];first|done|rfl)
theorem GB{w:WorldT}{st term known:Int}{ns:List (List Dp)}{last:Int}{sm:SM}{i:Nat}(iF:Zd ((i:Int)<(ns.length:Int))=false):(CW Hm Γk [] false (sub IR 0) (snS w st term known ns last sm i) (.exit 0) (snE w st term known sm)):=by
 exact zx [.st (.mask [1,2,3,5,10,11,12,13])] [.b false] (.c iF .n)
def snR(now:List Int):(Int×SM)⊕Unit:=forL snF now (-1,[])
def GC(w:WorldT)(st term known:Int)(now:List Int):Exit×AS:=a8 (.exit 0) (fun s:Int×SM=>snE w st term known s.2) (snX w) (snR now)
theorem sn_cw{w:WorldT}{st term known:Int}{now:List Int}(hl:af now):
  CW Hm Γk [] false (.loop (sub IR 0)) (snS w st term known (now.map fun n=>[vi n]) (-1) [] 0) (GC w st term known now).1 (GC w st term known now).2:=by
 refine I7 now snF (fun i s=>snS w st term known (now.map fun n=>[vi n]) s.1 s.2 (i:Int)) (.exit 0) (fun s=>snE w st term known s.2) (snX w) (fun _ _=>True) (by simp) (fun _=>by simp[]) ?_ ?_ (-1,[]) trivial
 ·intro i c s hc _
  have hi:=(Hs.1 hc).1
  exact⟨fun _ _=>trivial,GA (rowAt (row:=fun n=>[vi n]) hc rfl) (lt_len (fun n=>[vi n]) hi) (wrap_succ hi hl)⟩
 ·intro s _
  exact GB (aJ (fun n=>[vi n]) now)
abbrev siK(w:WorldT)(known:Int)(e:Nat):Blk:=.var [.ref (.vec 4 e),ab (w.c.map Hz),ab w.p,ab (w.s.map HC),ab (w.f.map Hv),int known]
abbrev siH(w:WorldT)(known st:Int)(sm:SM)(rs:List ReadT)(e:Nat)(as_:List (List Dp))(m1 m2:IM):List Blk :=
 [.var w.l,xl,smB sm,siK w known e,.vec (ae (rdR rs)) e 5,.var [int st,ab as_],imB m1,imB m2]
abbrev stS(w:WorldT)(known st term:Int)(sm:SM)(rs:List ReadT)(cs as_:List (List Dp))(m1 m2:IM)(i:Int):AS :=
 {t:=mkT 190 0 [(2,int term),(10,.ref (.ptr 1 0)),(11,ay),(13,.ref (.mp 2)),(17,.ref (.ptr 3 0)),(19,ab cs),(20,.ref (.mp 6)),(21,.ref (.mp 7)),(80,ab as_),(81,int as_.length),(82,int i)],h:=siH w known st sm rs 0 as_ m1 m2,m:=[]}
abbrev stE(w:WorldT)(known st term:Int)(sm:SM)(rs:List ReadT)(cs as_:List (List Dp))(m1 m2:IM):AS :=
 {t:=mkT 190 0 [(2,int term),(10,.ref (.ptr 1 0)),(11,ay),(13,.ref (.mp 2)),(17,.ref (.ptr 3 0)),(19,ab cs),(20,.ref (.mp 6)),(21,.ref (.mp 7))],h:=siH w known st sm rs 0 as_ m1 m2,m:=[]}
def gI(m:IM)(c:Int):Int:=(imGet m c).getD 0
def stF(s:IM×IM)(a:AttT):IM×IM:=(aM s.1 a.aT (Hp.wrap (gI s.1 a.aT+1)),aM s.2 a.aT (mxI (gI s.2 a.aT) a.oR))
theorem lk6{h:List Blk}{m:IM}{c:Int}(hb:h[6]? = some (imB m)):ap Hm h 125 (.ref (.mp 6)) (int c) false=some (int (gI m c)):=nL (kt:=3) (et:=3) (by kernel_rfl) (by kernel_rfl) (by kernel_rfl) hb
theorem lk7{h:List Blk}{m:IM}{c:Int}(hb:h[7]? = some (imB m)):ap Hm h 125 (.ref (.mp 7)) (int c) false=some (int (gI m c)):=nL (kt:=3) (et:=3) (by kernel_rfl) (by kernel_rfl) (by kernel_rfl) hb
theorem up6{h:List Blk}{m:IM}{c v:Int}(hb:h[6]? = some (imB m)):am Hm h 125 (.ref (.mp 6)) (int c) (int v)=some (h.set 6 (imB (aM m c v))):=iz (kt:=3) (et:=3) (by kernel_rfl) (by kernel_rfl) hb
theorem up7{h:List Blk}{m:IM}{c v:Int}(hb:h[7]? = some (imB m)):am Hm h 125 (.ref (.mp 7)) (int c) (int v)=some (h.set 7 (imB (aM m c v))):=iz (kt:=3) (et:=3) (by kernel_rfl) (by kernel_rfl) hb
theorem GD{w:WorldT}{known st term:Int}{sm:SM}{rs:List ReadT}{cs as_:List (List Dp)}{m1 m2:IM}{a:AttT}{i:Nat}(hr:aj (i:Int) as_ a.row 5)(iF:Zd ((i:Int)<(as_.length:Int))=true)(hw:Hp.wrap ((i:Int)+1)=((i+1:Nat):Int)):(CW Hm Γk [] false (sub IR 1) (stS w known st term sm rs cs as_ m1 m2 i) .normal (stS w known st term sm rs cs as_ (stF (m1,m2) a).1 (stF (m1,m2) a).2 ((i+1:Nat):Int))):=by
 let v0:List D:=[.ref (.vec 4 0),ab (Hl Hz w.c),ab w.p,ab (Hl HC w.s),ab (Hl Hv w.f),int known]
 let v3:List D:=[int a.aT,int a.term,int a.oR,int a.tO,int a.bY]
 let v2:List Blk:=[.var (HI w),.var [nq,int 0,int 0,int 0],.map (aQ 0 sm) (Hn sm),.var v0,.vec (ae (rdR rs)) 0 5,.var [int st,ab as_],.map (ar 0 m1) (Hn m1),.map (ar 0 m2) (Hn m2),.var v3]
 let v4:=Hn (stF (m1,m2) a).1
 let v1:List Blk:=[.var (HI w),.var [nq,int 0,int 0,int 0],.map (aQ 0 sm) (Hn sm),.var v0,.vec (ae (rdR rs)) 0 5,.var [int st,ab as_],.map (ar 0 (stF (m1,m2) a).1) v4,.map (ar 0 m2) (Hn m2),.var v3]
 let v5:=Hn (stF (m1,m2) a).2
 refine zX {t:=mkT 190 0 [(2,int term),(10,.ref (.ptr 1 0)),(11,nq),(13,.ref (.mp 2)),(17,.ref (.ptr 3 0)),(19,ab cs),(20,.ref (.mp 6)),(21,.ref (.mp 7)),(80,ab as_),(81,int (↑(Hn as_):Int)),(82,int (Ht Hp ((↑i:Int)+1)))],h:=[.var [ab (Hl Hz w.c),ab w.p,ab (Hl HC w.s),ab (Hl Hv w.f)],.var [nq,int 0,int 0,int 0],.map (aQ 0 sm) (Hn sm),.var v0,.vec (ae (rdR rs)) 0 5,.var [int st,ab as_],.map (ar 0 (stF (m1,m2) a).1) v4,.map (ar 0 (stF (m1,m2) a).2) v5],m:=[]} HA [.st (.mask [2,10,11,13,17,19,20,21,80,81,82]),.st (.trimV 8)] [.b true,.row (Hq a),.ov 89 (int (gI m1 a.aT)),.oh 10086 D.any (siH w known st sm rs 0 as_ (stF (m1,m2) a).1 m2++[.var (Hl II (Hq a))]),.ov 97 (int (gI m2 a.aT)),.oh 10091 D.any (siH w known st sm rs 0 as_ (stF (m1,m2) a).1 (stF (m1,m2) a).2++[.var (Hl II (Hq a))])] (.c iF (.c hr (.c (show ap Hm v2 125 (.ref (.mp 6)) (int a.aT) false=some (int (gI m1 a.aT)) from ?_) (.c (show am Hm v2 125 (.ref (.mp 6)) (int a.aT) (int (Ht Hp (gI m1 a.aT+1)))=some v1 from ?_) (.c (show ap Hm v1 125 (.ref (.mp 7)) (int a.aT) false=some (int (gI m2 a.aT)) from ?_) (.c (show am Hm v1 125 (.ref (.mp 7)) (int a.aT) (int (if true=true then if a.oR>gI m2 a.aT then a.oR else gI m2 a.aT else if a.oR<gI m2 a.aT then a.oR else gI m2 a.aT))=some [.var (HI w),.var [nq,int 0,int 0,int 0],.map (aQ 0 sm) (Hn sm),.var v0,.vec (ae (rdR rs)) 0 5,.var [int st,ab as_],.map (ar 0 (stF (m1,m2) a).1) v4,.map (ar 0 (stF (m1,m2) a).2) v5,.var v3] from ?_) (.c (show HB 8 (.var (HI w))=true from rfl) (.c (show HB 8 (.var [nq,int 0,int 0,int 0])=true from rfl) (.c (show HB 8 (.map (aQ 0 sm) (Hn sm))=true from ?_) (.c (show HB 8 (.var v0)=true from rfl) (.c (show HB 8 (.vec (ae (rdR rs)) 0 5)=true from ?_) (.c (show HB 8 (.var [int st,ab as_])=true from rfl) (.c (show HB 8 (.map (ar 0 (stF (m1,m2) a).1) v4)=true from ?_) (.c (show HB 8 (.map (ar 0 (stF (m1,m2) a).2) v5)=true from ?_) .n)))))))))))))) (by subst v0 v3 v2 v4 v1 v5;rfl) (by subst v0 v3 v2 v4 v1 v5;(simp only[hw];rfl))<;>subst v0 v3 v2 v4 v1 v5<;>(first|exact lk6 rfl|exact lk7 rfl|exact up6 rfl|exact up7 rfl|exact eH|exact n3|exact aP)
theorem GE{w:WorldT}{known st term:Int}{sm:SM}{rs:List ReadT}{cs as_:List (List Dp)}{m1 m2:IM}{i:Nat}(iF:Zd ((i:Int)<(as_.length:Int))=false):(CW Hm Γk [] false (sub IR 1) (stS w known st term sm rs cs as_ m1 m2 i) (.exit 2) (stE w known st term sm rs cs as_ m1 m2)):=by
 exact zx [.st (.mask [2,10,11,13,17,19,20,21])] [.b false] (.c iF .n)
def triesR(l:List AttT):IM×IM:=l.foldl stF ([],[])
theorem st_cw{w:WorldT}{known st term:Int}{sm:SM}{rs:List ReadT}{cs:List (List Dp)}{l:List AttT}(hl:af l):
  CW Hm Γk [] false (.loop (sub IR 1)) (stS w known st term sm rs cs (l.map Hq) [] [] 0) (.exit 2) (stE w known st term sm rs cs (l.map Hq) (triesR l).1 (triesR l).2):=by
 have:=I7 (P:=Hm) (Γ:=Γk) (h0:=[]) (rd:=false) (c:=sub IR 1) (σ:=IM×IM) (ρ:=Empty) l (fun a s=>.inl (stF s a))
  (fun i s=>stS w known st term sm rs cs (l.map Hq) s.1 s.2 (i:Int)) (.exit 2) (fun s=>stE w known st term sm rs cs (l.map Hq) s.1 s.2) (fun r=>r.elim) (fun _ _=>True) (by simp) (fun r=>r.elim) ?_ ?_ ([],[]) trivial
 ·rw[aC] at this
  exact this
 ·intro i a s ha _
  have hi:=(Hs.1 ha).1
  exact⟨fun _ _=>trivial,GD (rowAt ha rfl) (lt_len Hq hi) (wrap_succ hi hl)⟩
 ·intro s _
  exact GE (aJ Hq l)
abbrev hsS(l:List (List Dp))(c i:Int):AS:={t:=mkT 18 0 [(0,ab l),(1,int c),(4,bool false),(5,int i)],h:=[],m:=[]}
theorem GF{l:List (List Dp)}{x c:Int}{i:Nat}(hr:aj (i:Int) l [vi x] 1)(iF:Zd ((i:Int)<(l.length:Int))=true)(hw:Hp.wrap ((i:Int)+1)=((i+1:Nat):Int)):(CW Hm Γ0 [] false (sub Tryz.f71 0) (hsS l c i) (ah (fun _:Unit=>hsS l c ((i+1:Nat):Int)) ctX (ctF c x ())).1 (ah (fun _:Unit=>hsS l c ((i+1:Nat):Int)) ctX (ctF c x ())).2):=by
 cases dO:x==c
 ·refine zX {t:=mkT 18 0 [(0,ab l),(1,int c),(4,bool false),(5,int (Ht Hp ((↑i:Int)+1)))],h:=[],m:=[]} HA [.st (.mask [0,1,4,5])] [.b true,.row [vi x],.b false] (.c iF (.c hr (.c dO .n))) ?_ ?_<;>(simp only[ctF,dO,cond_false];first|rfl|(rw[hw];rfl))
 ·refine zX {t:=mkT 18 0 [(4,bool true)],h:=[],m:=[]} IB [.st (.mask [4])] [.b true,.row [vi x],.b true] (.c iF (.c hr (.c dO .n))) ?_ ?_<;>(simp only[ctF,dO,cond_true];rfl)
theorem GG{l:List (List Dp)}{c:Int}{i:Nat}(iF:Zd ((i:Int)<(l.length:Int))=false):(CW Hm Γ0 [] false (sub Tryz.f71 0) (hsS l c i) (.exit 0) {t:=mkT 18 0 [],h:=[],m:=[]}):=by
 exact zx [.st (.mask [])] [.b false] (.c iF .n)
theorem hs_cw{l:List Int}(hl:af l){c:Int}:CW Hm Γ0 [] false (.loop (sub Tryz.f71 0)) (hsS (aO l) c 0) (wT l c).1 (wT l c).2:=by
 refine I7 l (ctF c) (fun i _=>hsS (aO l) c (i:Int)) (.exit 0) (fun _=>{t:=mkT 18 0 [],h:=[],m:=[]}) ctX (fun _ _=>True) (by simp) (fun _=>by simp[]) ?_ ?_ () trivial
 ·intro i x _ hx _
  have hi:=(Hs.1 hx).1
  exact⟨fun _ _=>trivial,GF (rowAt (row:=fun n=>[vi n]) hx rfl) (lt_len _ hi) (wrap_succ hi hl)⟩
 ·intro _ _
  exact GG (aJ _ l)
theorem GH{l:List Int}(hl:af l){c:Int}(h:List Blk):(Ev Hm Γ0 71 [ab (aO l),int c] h (bool (match ctR l c with | .inl _=>false | .inr _=>true)) h):=by
 have N1:=(@hs_cw (l) (hl) (c))
 unfold wT at N1
 revert N1
 cases O0:ctR l c with
 | inl o1_0_0 =>
  intro N1
  exact zD (bool false) [.sum [0,1,4,5] (HT 0) {t:=mkT 18 0 [],h:=[],m:=[]}] (.c N1 .n) h (by simp only[])
 | inr o1_1_0 =>
  intro N1
  exact zD (bool true) [.sum [0,1,4,5] (IB) {t:=mkT 18 0 [(4,bool true)],h:=[],m:=[]}] (.c N1 .n) h (by simp only[])
theorem kr{l:List Int}(hl:af l){c:Int}(h:List Blk):Ev Hm Γ0 71 [ab (aO l),int c] h (bool (l.contains c)) h:=by rw[←Dv];exact GH hl h
def seF(eq:List Int)(s:Int×Int)(a:AttT):Int×Int:=bif eq.contains a.aT then (mnI (Hp.wrap (s.1+1)) 100,mxI s.2 a.oR) else s
abbrev seS(r:List D)(eq:List (List Dp))(c:Int)(s:Int×Int)(i:Int):AS:={t:=mkT 42 0 [(2,ab eq),(3,.ref (.ptr 0 0)),(6,.ref (.ptr 1 0)),(7,.ref (.ptr 2 0)),(8,int i)],h:=[.var r,.var [int 0,int 0,int 0,bool false],.var [int c,int s.1,int s.2,bool false]],m:=[]}
abbrev seE(r:List D)(c:Int)(s:Int×Int):AS:={t:=mkT 42 0 [(6,.ref (.ptr 1 0)),(7,.ref (.ptr 2 0))],h:=[.var r,.var [int 0,int 0,int 0,bool false],.var [int c,int s.1,int s.2,bool false]],m:=[]}
noncomputable abbrev jv(r:RecT)(c:Int)(s:Int×Int):List Blk:=[.var [int r.st,ab (Hl Hq r.a)],.var [int 0,int 0,int 0,bool false],.var [int c,int s.1,int s.2,bool false]]
theorem GI{r:RecT}{eq:List Int}(he:af eq){c:Int}{s:Int×Int}{a:AttT}{i:Nat}(hr:aj (i:Int) (r.a.map Hq) a.row 5)(iF:Zd ((i:Int)<((r.a.map Hq).length:Int))=true)(hw:Hp.wrap ((i:Int)+1)=((i+1:Nat):Int)):(CW Hm Γ0 [] false (sub M3 0) (seS r.l (aO eq) c s i) .normal (seS r.l (aO eq) c (seF eq s a) ((i+1:Nat):Int))):=by
 cases dO:Ij eq a.aT
 ·refine zX {t:=mkT 42 0 [(2,ab (aO eq)),(3,.ref (.ptr 0 0)),(6,.ref (.ptr 1 0)),(7,.ref (.ptr 2 0)),(8,int (Ht Hp ((↑i:Int)+1)))],h:=(jv r c s),m:=[]} HA [.st (.mask [2,3,6,7,8])] [.b true,.row (Hq a),.val (bool (Ij eq a.aT)),.b false] (.c iF (.c hr (.c (@kr eq he (a.aT) (jv r c s)) (.c dO .n)))) ?_ ?_<;>(simp only[seF,dO,cond_false];first|done|(rw[hw];rfl))
 ·refine zX {t:=mkT 42 0 [(2,ab (aO eq)),(3,.ref (.ptr 0 0)),(6,.ref (.ptr 1 0)),(7,.ref (.ptr 2 0)),(8,int (Ht Hp ((↑i:Int)+1)))],h:=[.var [int r.st,ab (Hl Hq r.a)],.var [int 0,int 0,int 0,bool false],.var [int c,int (if false=true then if 100>Ht Hp (s.1+1) then 100 else Ht Hp (s.1+1) else if 100<Ht Hp (s.1+1) then 100 else Ht Hp (s.1+1)),int (if true=true then if a.oR>s.2 then a.oR else s.2 else if a.oR<s.2 then a.oR else s.2),bool false]],m:=[]} HA [.st (.mask [2,3,6,7,8])] [.b true,.row (Hq a),.val (bool (Ij eq a.aT)),.b true,.row (Hq a)] (.c iF (.c hr (.c (@kr eq he (a.aT) (jv r c s)) (.c dO (.c hr (.e (.ref (.ptr 2 2)) (.e (int s.2) (.e (.ref (.ptr 0 1)) (.e (ab (Hl Hq r.a)) (.e (.ref (.ptr 2 2)) .n)))))))))) ?_ ?_<;>(simp only[seF,dO,cond_true];first|done|(rw[hw];rfl))
theorem GJ{r:RecT}{eq:List (List Dp)}{c:Int}{s:Int×Int}{i:Nat}(iF:Zd ((i:Int)<((r.a.map Hq).length:Int))=false):(CW Hm Γ0 [] false (sub M3 0) (seS r.l eq c s i) (.exit 0) (seE r.l c s)):=by
 exact zx [.st (.mask [6,7])] [.b false] (.c iF .n)
theorem se_cw{r:RecT}(ha:af r.a){eq:List Int}(he:af eq){c:Int}:CW Hm Γ0 [] false (.loop (sub M3 0)) (seS r.l (aO eq) c (0,-1) 0) (.exit 0) (seE r.l c (r.a.foldl (seF eq) (0,-1))):=by
 have:=I7 (P:=Hm) (Γ:=Γ0) (h0:=[]) (rd:=false) (c:=sub M3 0) (σ:=Int×Int) (ρ:=Empty) r.a (fun a s=>.inl (seF eq s a))
  (fun i s=>seS r.l (aO eq) c s (i:Int)) (.exit 0) (fun s=>seE r.l c s) (fun r=>r.elim) (fun _ _=>True) (by simp) (fun r=>r.elim) ?_ ?_ (0,-1) trivial
 ·rw[aC] at this
  exact this
 ·intro i a s ha' _
  have hi:=(Hs.1 ha').1
  exact⟨fun _ _=>trivial,GI he (rowAt ha' rfl) (lt_len Hq hi) (wrap_succ hi ha)⟩
 ·intro s _
  exact GJ (aJ Hq r.a)
theorem Aw{r:RecT}(ha:af r.a){eq:List Int}(he:af eq){c:Int}(h:List Blk):(Ev Hm Γ0 70 [.agg r.l,int c,ab (aO eq)] h (.agg [int c,int (r.a.foldl (seF eq) (0,-1)).1,int (r.a.foldl (seF eq) (0,-1)).2,bool false]) h):=by
 have N1:=(@se_cw (r) (ha) (eq) (he) (c))
 let v0:List D:=[int c,int (HP (seF eq) (0,-1) r.a).1,int (HP (seF eq) (0,-1) r.a).2,bool false]
 exact z0 [.sum [2,3,6,7,8] (HT 0) {t:=mkT 42 0 [(6,.ref (.ptr 1 0)),(7,.ref (.ptr 2 0))],h:=[.var [int r.st,ab (Hl Hq r.a)],.var [int 0,int 0,int 0,bool false],.var v0],m:=[]}] (.c N1 .n) h
abbrev nwS(w:WorldT)(st term known:Int)(ns:List (List Dp))(i:Int):AS :=
 {t:=mkT 204 0 [(1,int st),(2,int term),(3,int known),(4,ab ns),(5,.ref (.ptr 0 0)),(10,.ref (.ptr 1 0)),(11,ay),(12,int 0),(13,int i)],h:=[.var w.l,xl],m:=[]}
abbrev nwE(w:WorldT)(st term known:Int)(ns:List (List Dp)):AS :=
 {t:=mkT 204 0 [(1,int st),(2,int term),(3,int known),(4,ab ns),(5,.ref (.ptr 0 0)),(10,.ref (.ptr 1 0)),(11,ay),(12,int 0)],h:=[.var w.l,xl],m:=[]}
abbrev nwX(w:WorldT):Unit→Exit×AS:=fun _=>(.ret,{t:=mkT 204 0 [(10,.ref (.ptr 1 0)),(11,ay),(12,int 150)],h:=[.var w.l,xl],m:=[]})
def nwF(pos:Bool)(p c:Int):Unit⊕Unit:=bif (!(Zd (c≥0)&&Zd (c≤4095)))||(pos&&Zd (c≤p)) then .inr () else .inl ()
noncomputable abbrev ku(w:WorldT):List Blk:=[.var [ab (Hl Hz w.c),ab w.p,ab (Hl HC w.s),ab (Hl Hv w.f)],.var [nq,int 0,int 0,int 0]]
theorem nw_b0{w:WorldT}{st term known:Int}{ns:List (List Dp)}{c:Int}(hr:aj 0 ns [vi c] 1)(iF:Zd ((0:Int)<(ns.length:Int))=true):(CW Hm Γ0 [] false (sub JF 0) (nwS w st term known ns 0) (ah (fun _:Unit=>nwS w st term known ns 1) (nwX w) (nwF false 0 c)).1 (ah (fun _:Unit=>nwS w st term known ns 1) (nwX w) (nwF false 0 c)).2):=by
 cases dO:!(Zd (c≥0)&&Zd (c≤4095))
 ·refine zX {t:=mkT 204 0 [(1,int st),(2,int term),(3,int known),(4,ab ns),(5,.ref (.ptr 0 0)),(10,.ref (.ptr 1 0)),(11,nq),(12,int 0),(13,int (Ht Hp (0+1)))],h:=(ku w),m:=[]} HA [.st (.mask [1,2,3,4,5,10,11,12,13])] [.b true,.row [vi c],.val (bool (Zd (c≥0)&&Zd (c≤4095))),.g true,.g true,.g true,.g false,.g false,.g false,.g false,.g false,.g false,.g false,.g false,.g false,.g false,.g true,.ov 65 (bool false),.ov 66 (bool false),.b false] (.c iF (.c hr (.c (@bn c 0 4095 (ku w)) (.c (eqc dO) (.c (eqc dO) (.c (eqc dO) (.c (show(Zd (0>0)==true)=false from rfl) (.c (show(Zd (0>0)==true)=false from rfl) (.c (show(Zd (0>0)==true)=false from rfl) (.c (show(Zd (0>0)==true)=false from rfl) (.c (show(Zd (0>0)==true)=false from rfl) (.c (show(Zd (0>0)==true)=false from rfl) (.c (show(Zd (0>0)==true)=false from rfl) (.c (show(Zd (0>0)==true)=false from rfl) (.c (show(Zd (0>0)==true)=false from rfl) (.c (show(Zd (0>0)==true)=false from rfl) (.c (eqc dO) (.c (show cL (bool (Zd (0>0))) (II (Dp.v (Ii {toList:=[]}))) (bool false) (bool false) from(by rfl)) (.c (pkf (bool true) (bool false) dO) (.er false .n)))))))))))))))))))) ?_ ?_<;>(simp only[nwF,dO,Ix,Bool.or_false,cond_false];rfl)
 ·refine zX {t:=mkT 204 0 [(10,.ref (.ptr 1 0)),(11,nq),(12,int 150)],h:=(ku w),m:=[]} IB [.st (.mask [10,11,12])] [.b true,.row [vi c],.val (bool (Zd (c≥0)&&Zd (c≤4095))),.g false,.g false,.g false,.g false,.g false,.g false,.g false,.g false,.g false,.g false,.g false,.g false,.g false,.g false,.ov 66 (bool true),.b true] (.c iF (.c hr (.c (@bn c 0 4095 (ku w)) (.c (eqd dO) (.c (eqd dO) (.c (eqd dO) (.er false (.er false (.er false (.er false (.er false (.er false (.er false (.er false (.er false (.er false (.c (eqd dO) (.c (pkt (bool true) (II (Dp.v (Ii {toList:=[]}))) dO) (.er true .n))))))))))))))))))) ?_ ?_<;>(simp only[nwF,dO,Ix,Bool.or_false,cond_true];rfl)
noncomputable abbrev ge(w:WorldT):List Blk:=[.var [ab (Hl Hz w.c),ab w.p,ab (Hl HC w.s),ab (Hl Hv w.f)],.var [nq,int 0,int 0,int 0]]
theorem nw_b1{w:WorldT}{st term known:Int}{ns:List (List Dp)}{p c:Int}{i:Nat}(hr:aj (i:Int) ns [vi c] 1)(hp:aj (Hp.wrap ((i:Int) - 1)) ns [vi p] 1)(hi:Zd ((i:Int)>0)=true)(iF:Zd ((i:Int)<(ns.length:Int))=true)(hw:Hp.wrap ((i:Int)+1)=((i+1:Nat):Int)):(CW Hm Γ0 [] false (sub JF 0) (nwS w st term known ns i) (ah (fun _:Unit=>nwS w st term known ns ((i+1:Nat):Int)) (nwX w) (nwF true p c)).1 (ah (fun _:Unit=>nwS w st term known ns ((i+1:Nat):Int)) (nwX w) (nwF true p c)).2):=by
 cases dO:!(Zd (c≥0)&&Zd (c≤4095))
 ·cases oN:Zd (c≤p)
  ·refine zX {t:=mkT 204 0 [(1,int st),(2,int term),(3,int known),(4,ab ns),(5,.ref (.ptr 0 0)),(10,.ref (.ptr 1 0)),(11,nq),(12,int 0),(13,int (Ht Hp ((↑i:Int)+1)))],h:=(ge w),m:=[]} HA [.st (.mask [1,2,3,4,5,10,11,12,13])] [.b true,.row [vi c],.val (bool (Zd (c≥0)&&Zd (c≤4095))),.g true,.g true,.g true,.g true,.g true,.g true,.row [vi c],.g true,.g true,.g true,.g true,.g true,.row [vi p],.g true,.g true,.g true,.ov 65 (bool (Zd (c≤p))),.ov 66 (bool (Zd (c≤p))),.b false] (.c iF (.c hr (.c (@bn c 0 4095 (ge w)) (.c (eqc dO) (.c (eqc dO) (.c (eqc dO) (.c (eqa hi) (.c (eqa hi) (.c (eqa hi) (.c hr (.c (eqa hi) (.c (eqa hi) (.c (eqa hi) (.c (eqa hi) (.c (eqa hi) (.c hp (.c (eqa hi) (.c (eqa hi) (.c (eqc dO) (.c (pkt (bool (Zd (c≤p))) (bool false) hi) (.c (pkf (bool true) (bool (Zd (c≤p))) dO) (.c oN .n)))))))))))))))))))))) ?_ ?_<;>(simp only[nwF,dO,oN,Jb];first|rfl|(rw[hw];rfl))
  ·refine zX {t:=mkT 204 0 [(10,.ref (.ptr 1 0)),(11,nq),(12,int 150)],h:=(ge w),m:=[]} IB [.st (.mask [10,11,12])] [.b true,.row [vi c],.val (bool (Zd (c≥0)&&Zd (c≤4095))),.g true,.g true,.g true,.g true,.g true,.g true,.row [vi c],.g true,.g true,.g true,.g true,.g true,.row [vi p],.g true,.g true,.g true,.ov 65 (bool (Zd (c≤p))),.ov 66 (bool (Zd (c≤p))),.b true] (.c iF (.c hr (.c (@bn c 0 4095 (ge w)) (.c (eqc dO) (.c (eqc dO) (.c (eqc dO) (.c (eqa hi) (.c (eqa hi) (.c (eqa hi) (.c hr (.c (eqa hi) (.c (eqa hi) (.c (eqa hi) (.c (eqa hi) (.c (eqa hi) (.c hp (.c (eqa hi) (.c (eqa hi) (.c (eqc dO) (.c (pkt (bool (Zd (c≤p))) (bool false) hi) (.c (pkf (bool true) (bool (Zd (c≤p))) dO) (.c oN .n)))))))))))))))))))))) ?_ ?_<;>(simp only[nwF,dO,oN,Jb];rfl)
 ·refine zX {t:=mkT 204 0 [(10,.ref (.ptr 1 0)),(11,nq),(12,int 150)],h:=(ge w),m:=[]} IB [.st (.mask [10,11,12])] [.b true,.row [vi c],.val (bool (Zd (c≥0)&&Zd (c≤4095))),.g false,.g false,.g false,.g false,.g false,.g false,.g false,.g false,.g false,.g false,.g false,.g false,.g false,.g false,.ov 66 (bool true),.b true] (.c iF (.c hr (.c (@bn c 0 4095 (ge w)) (.c (eqd dO) (.c (eqd dO) (.c (eqd dO) (.er false (.er false (.er false (.er false (.er false (.er false (.er false (.er false (.er false (.er false (.c (eqd dO) (.c (pkt (bool true) (II (Dp.v (Ii {toList:=[]}))) dO) (.er true .n))))))))))))))))))) ?_ ?_<;>(simp only[nwF,dO,Jb];rfl)
theorem GK{w:WorldT}{st term known:Int}{ns:List (List Dp)}{i:Nat}(iF:Zd ((i:Int)<(ns.length:Int))=false):(CW Hm Γ0 [] false (sub JF 0) (nwS w st term known ns i) (.exit 0) (nwE w st term known ns)):=by
 exact zx [.st (.mask [1,2,3,4,5,10,11,12])] [.b false] (.c iF .n)
def nwG(c p:Int):Int⊕Unit:=bif snOk p c then .inl c else .inr ()
abbrev GL(w:WorldT)(st term known:Int)(now:List Int):Exit×AS:=a8 (.exit 0) (fun _:Int=>nwE w st term known (aO now)) (nwX w) (forL nwG now (-1))
theorem nwG_0(c:Int):nwF false 0 c=bif snOk (-1) c then .inl () else .inr ():=by
 have e:Hp.wrap ((-1:Int)+1)=0:=by decide
 unfold nwF snOk
 rw[e]
 cases Zd (c≥0)&&Zd (c≤4095)<;>rfl
theorem nwG_1{p:Int}(h0:0≤p)(h1:p≤4095)(c:Int):nwF true p c=bif snOk p c then .inl () else .inr ():=by
 have e:Hp.wrap (p+1)=p+1:=by rw[wrap_i64 (by omega) (by omega)]
 have k:((!(Zd (c≥0)&&Zd (c≤4095)))||(true&&Zd (c≤p))) = !snOk p c:=by
  unfold snOk
  rw[e]
  by_cases a:c≥p+1<;>by_cases b:c≤4095<;>by_cases d:c≥0<;>by_cases f:c≤p<;>simp[a,b,d,f]<;>omega
 unfold nwF
 rw[k]
 cases snOk p c<;>rfl
theorem GM{c p q:Int}(h:nwG c p=.inl q):q=c∧snOk p c=true:=by
 unfold nwG at h
 cases hk:snOk p c<;>rw[hk] at h
 ·cases h
 ·cases h;exact⟨rfl,rfl⟩
theorem nw_cw{w:WorldT}{st term known:Int}{now:List Int}(hn:af now):CW Hm Γ0 [] false (.loop (sub JF 0)) (nwS w st term known (aO now) 0) (GL w st term known now).1 (GL w st term known now).2:=by
 refine I7 now nwG (fun i _=>nwS w st term known (aO now) (i:Int)) (.exit 0) (fun _=>nwE w st term known (aO now)) (nwX w)
  (fun i p=>(i=0∧p = -1)∨(0<i∧now[i - 1]? = some p∧0≤p∧p≤4095)) (by simp) (fun _=>by simp[]) ?_ ?_ (-1) (Or.inl ⟨rfl,rfl⟩)
 ·intro i c p hc hp
  have hi:=(Hs.1 hc).1
  refine⟨fun q hq=>?_,?_⟩
  ·obtain⟨rfl,hk⟩:=GM hq
   refine Or.inr ⟨by omega,by simpa using hc,?_,?_⟩
   ·rcases hp with ⟨_,rfl⟩|⟨_,_,h0,h1⟩
    ·have e:Hp.wrap ((-1:Int)+1)=0:=by decide
     unfold snOk at hk;rw[e] at hk;simp at hk;omega
    ·have e:Hp.wrap (p+1)=p+1:=by rw[wrap_i64 (by omega) (by omega)]
     unfold snOk at hk;rw[e] at hk;simp at hk;omega
   ·unfold snOk at hk;simp at hk;omega
  ·have hw:=wrap_succ hi hn
   have iF:=lt_len (fun n=>[vi n]) hi
   rcases hp with ⟨rfl,rfl⟩|⟨Qh,hq,h0,h1⟩
   ·have:=nw_b0 (w:=w) (st:=st) (term:=term) (known:=known) (rowAt (row:=fun n=>[vi n]) hc rfl) iF
    rw[nwG_0] at this
    unfold nwG
    cases hk:snOk (-1) c<;>rw[hk] at this<;>exact this
   ·have hs:af now:=hn
    have ep:Hp.wrap ((i:Int) - 1)=((i - 1:Nat):Int):=by
     unfold af at hs
     rw[wrap_i64 (by omega) (by omega)];omega
    have:=nw_b1 (w:=w) (st:=st) (term:=term) (known:=known) (p:=p) (rowAt (row:=fun n=>[vi n]) hc rfl) (by rw[ep];exact rowAt (row:=fun n=>[vi n]) hq rfl) (by simp;omega) iF hw
    rw[nwG_1 h0 h1] at this
    unfold nwG
    cases hk:snOk p c<;>rw[hk] at this<;>exact this
 ·intro _ _
  exact GK (aJ _ now)
theorem nw_sn(l:List Int)(p:Int)(sm:SM):(∃q,forL nwG l p=.inl q∧∃sm',forL snF l (p,sm)=.inl (q,sm'))∨(forL nwG l p=.inr ()∧forL snF l (p,sm)=.inr ()):=by
 induction l generalizing p sm with
 | nil=>exact Or.inl ⟨p,rfl,sm,rfl⟩
 | cons c l ih =>
  simp only[forL,nwG,snF]
  cases snOk p c
  ·exact Or.inr ⟨rfl,rfl⟩
  ·exact ih c _
theorem CE{ls out:List Int}(hl:af out)(hb:out.length≤1000000){x:Int}{i:Nat}(hp:s7P out x≤(aO out).length)(hx:ls[i]? = some x)(hr:aj (i:Int) (aO ls) [vi x] 1)(iF:Zd ((i:Int)<((aO ls).length:Int))=true)(hw:Hp.wrap ((i:Int)+1)=((i+1:Nat):Int)):(CW Hm Γ0 [] false (sub Lk 0) (s7O (aO ls) (aO out) i) .normal (s7O (aO ls) (aO (xj out x)) ((i+1:Nat):Int))):=by
 have N1:=(@s7_cw (ls) (out) (hl) (i) (x) (hx))
 let v0:=IC (Hw 0) (aO out)
 refine zX {t:=mkT 46 0 [(0,ab (aO ls)),(3,ab (aO (xj out x))),(4,int (Ht Hp ((↑i:Int)+1)))],h:=[],m:=[]} HA [.st (.mask [0,3,4]),.st (.frz 0 (aO (xj out x))),.st (.trim 0)] [.b true,.sum [0,3,4,5] (HT 2) {t:=mkT 46 0 [(0,ab (aO ls)),(3,ab (aO out)),(4,int (↑i:Int)),(5,int (↑(s7P out x):Int))],h:=[],m:=[]},.lateO,.row [vi x]] (.c iF (.c N1 (.c (show(mq 0 (↑(s7P out x):Int) (Hn (aO out))&&true&&(true||HN (Option.map (evalD Γ0 (mkT 46 0 [(0,ab (aO ls)),(3,ab (aO out)),(4,int (↑i:Int)),(5,int (↑(s7P out x):Int)),(31,ab (aO out)),(32,int (↑(s7P out x):Int))])) (some (ML 32))))&&HJ (aO out) fun r=>Zd (Hn r=1))=true from ?_) (.c (show(HJ (Hl (fun x=>Hl II x) (Ih (Hw (↑(s7P out x):Int) - Hw 0) v0)) (aG 1)&&roomOk (Hn ([]:List (List D))+Hn (Hl (fun x=>Hl II x) (Ih (Hw (↑(s7P out x):Int) - Hw 0) v0))) 8)=true from ?_) (.c hr (.c (show(HJ [[int x]] (aG 1)&&roomOk (Hn (Hl (fun x=>Hl II x) (Ih (Hw (↑(s7P out x):Int) - Hw 0) v0))+Hn [[int x]]) 8)=true from ?_) (.c (show(mq (↑(s7P out x):Int) (↑(Hn (aO out)):Int) (Hn (aO out))&&true&&(true||false)&&HJ (aO out) fun r=>Zd (Hn r=1))=true from ?_) (.c (show(HJ (Hl (fun x=>Hl II x) (Ih (Hw (↑(Hn (aO out)):Int) - Hw (↑(s7P out x):Int)) (IC (Hw (↑(s7P out x):Int)) (aO out)))) (aG 1)&&roomOk (Hn (Hl (fun x=>Hl II x) (Ih (Hw (↑(s7P out x):Int) - Hw 0) v0)++[[int x]])+Hn (Hl (fun x=>Hl II x) (Ih (Hw (↑(Hn (aO out)):Int) - Hw (↑(s7P out x):Int)) (IC (Hw (↑(s7P out x):Int)) (aO out))))) 8)=true from ?_) (.c (show HJ [] (Ig 0)=true from rfl) (.c (show HJ [] (Ig 1)=true from rfl) (.c (show HJ [] (Ig 1)=true from rfl) (.c (show HJ (Hl (fun x=>Hl II x) (Ih (Hw (↑(s7P out x):Int) - Hw 0) v0)) (Ig 1)=true from ?_) (.c (show HJ [] (Ig 1)=true from rfl) (.c (show HJ (Hl (fun x=>Hl II x) (Ih (Hw (↑(s7P out x):Int) - Hw 0) v0)) (Ig 2)=true from ?_) (.c (show HJ [[int x]] (Ig 2)=true from rfl) (.c (show HJ [] (Ig 2)=true from rfl) (.c (show HJ (Hl (fun x=>Hl II x) (Ih (Hw (↑(s7P out x):Int) - Hw 0) v0)++[[int x]]) (Ig 2)=true from ?_) (.c (show HJ [[int x]] (Ig 2)=true from rfl) (.c (show HJ [] (Ig 2)=true from rfl) (.c (show HJ (Hl (fun x=>Hl II x) (Ih (Hw (↑(s7P out x):Int) - Hw 0) v0)++[[int x]]++Hl (fun x=>Hl II x) (Ih (Hw (↑(Hn (aO out)):Int) - Hw (↑(s7P out x):Int)) (IC (Hw (↑(s7P out x):Int)) (aO out)))) (Ig 2)=true from ?_) (.c (show HJ [[int x]] (Ig 2)=true from rfl) (.c (show HJ [] (Ig 2)=true from rfl) (.c (show HJ [[int x]] (Ig 0)=true from rfl) (.c (show HJ [] (Ig 1)=true from rfl) (.c (show HJ [[int x]] (Ig 1)=true from rfl) (.c (show HJ (Hl (fun x=>Hl II x) (Ih (Hw (↑(s7P out x):Int) - Hw 0) v0)) (Ig 1)=true from ?_) (.c (show HJ [[int x]] (Ig 1)=true from rfl) (.c (show HJ (Hl (fun x=>Hl II x) (Ih (Hw (↑(s7P out x):Int) - Hw 0) v0)) (Ig 2)=true from ?_) (.c (show HJ [[int x]] (Ig 2)=true from rfl) (.c (show HJ [[int x]] (Ig 2)=true from rfl) (.c (show HJ (Hl (fun x=>Hl II x) (Ih (Hw (↑(s7P out x):Int) - Hw 0) v0)++[[int x]]) (Ig 2)=true from ?_) (.c (show HJ [[int x]] (Ig 2)=true from rfl) (.c (show HJ [[int x]] (Ig 2)=true from rfl) (.c (show HJ (Hl (fun x=>Hl II x) (Ih (Hw (↑(s7P out x):Int) - Hw 0) v0)++[[int x]]++Hl (fun x=>Hl II x) (Ih (Hw (↑(Hn (aO out)):Int) - Hw (↑(s7P out x):Int)) (IC (Hw (↑(s7P out x):Int)) (aO out)))) (Ig 2)=true from ?_) (.c (show HJ [[int x]] (Ig 2)=true from rfl) (.c (show HJ [[int x]] (Ig 2)=true from rfl) (.c (show Hl (fun x=>Hl II x) (Ih (Hw (↑(s7P out x):Int) - Hw 0) v0)++[[int x]]++Hl (fun x=>Hl II x) (Ih (Hw (↑(Hn (aO out)):Int) - Hw (↑(s7P out x):Int)) (IC (Hw (↑(s7P out x):Int)) (aO out)))=Hl (fun x=>Hl II x) (aO (xj out x)) from ?_) (.er [[int x]] .n)))))))))))))))))))))))))))))))))))))) (by subst v0;rfl) (by subst v0;(rw[hw]))<;>subst v0<;>(first|exact cF _ _|exact tJ rfl|exact Ao rfl|exact Al hp (vw _)|exact Am hp (vw _)|(refine Dw (Gt _) ?_ ?_<;>simp<;>omega)|(rw[Ap];exact An rfl)|(simp[aG,D.one,IJ,roomOk];omega))
theorem CF{ls out:List (List Dp)}{i:Nat}(iF:Zd ((i:Int)<(ls.length:Int))=false):(CW Hm Γ0 [] false (sub Lk 0) (s7O ls out i) (.exit 0) {t:=mkT 46 0 [(3,ab out)],h:=[],m:=[]}):=by
 exact zx [.st (.mask [3])] [.b false] (.c iF .n)
def fh(l:List Int):List Int:=l.foldl xj []
theorem insI_len(out:List Int)(x:Int):(xj out x).length=out.length+1:=by
 have:=Dx out x
 simp[xj];omega
theorem s7o_cw{ls:List Int}(hl:ls.length≤100000):CW Hm Γ0 [] false (.loop (sub Lk 0)) (s7O (aO ls) [] 0) (.exit 0) {t:=mkT 46 0 [(3,ab (aO (fh ls)))],h:=[],m:=[]}:=by
 have hs:af ls:=by unfold af;omega
 have key:=I7 (P:=Hm) (Γ:=Γ0) (h0:=[]) (rd:=false) (c:=sub Lk 0) (σ:=List Int) (ρ:=Empty) ls (fun x out=>.inl (xj out x))
  (fun i out=>s7O (aO ls) (aO out) (i:Int)) (.exit 0) (fun out=>{t:=mkT 46 0 [(3,ab (aO out))],h:=[],m:=[]}) (fun r=>r.elim) (fun i out=>out.length=i) (by simp) (fun r=>r.elim) ?_ ?_ [] (by simp)
 ·rw[aC] at key
  exact key
 ·intro i x out hx ho
  have hi:=(Hs.1 hx).1
  refine⟨fun s h=>?_,?_⟩
  ·cases h;rw[insI_len,ho]
  ·exact CE (by unfold af;omega) (by omega) (by rw[Ir];exact Dx out x) hx (rowAt (row:=fun n=>[vi n]) hx rfl) (lt_len _ hi) (wrap_succ hi hs)
 ·intro out _
  exact CF (aJ _ ls)
theorem l9{ls:List Int}(hl:ls.length≤100000)(h:List Blk):(Ev Hm Γ0 127 [ab (aO ls)] h (ab (aO (fh ls))) h):=by
 have N1:=(@s7o_cw (ls) (hl))
 exact H4 (Ev.nilW (z0 (d:=ab (aO (fh ls))) [.nx 3,.st (.frz 0 []),.st (.trim 0),.sum [0,3,4] (HT 0) {t:=mkT 46 0 [(3,ab (aO (fh ls)))],h:=[],m:=[]}] (.c (show([]:List (List D))=[] from rfl) (.c N1 .n)) h)) (by rfl) (by rfl)
abbrev puS(ls:List (List Dp))(a:AttT)(n:Int):AS:={t:=mkT 54 0 [(0,ab ls),(3,.ref (.ptr 0 0)),(5,int n)],h:=[.var (a.row.map .p)],m:=[]}
def befA(y a:AttT):Bool:=Zd (y.term<a.term)||(y.term==a.term&&Zd (y.aT<a.aT))
def puF(a y:AttT)(n:Nat):Nat⊕Nat:=bif befA y a then .inl (n+1) else .inr n
theorem GN{ls:List (List Dp)}{a y:AttT}{n:Nat}(ho:aj (n:Int) ls y.row 5)(iF:Zd ((n:Int)<(ls.length:Int))=true)(hw:Hp.wrap ((n:Int)+1)=((n+1:Nat):Int)):(CW Hm Γ0 [] false (sub M4 0) (puS ls a n) (ah (fun m:Nat=>puS ls a m) (fun m:Nat=>(.exit 0,puS ls a m)) (puF a y n)).1 (ah (fun m:Nat=>puS ls a m) (fun m:Nat=>(.exit 0,puS ls a m)) (puF a y n)).2):=by
 cases dO:Zd (y.term<a.term)
 ·cases oN:y.term==a.term
  ·refine zX {t:=mkT 54 0 [(0,ab ls),(3,.ref (.ptr 0 0)),(5,int (↑n:Int))],h:=[.var [int a.aT,int a.term,int a.oR,int a.tO,int a.bY]],m:=[]} (HT 0) [.st (.mask [0,3,5])] [.g true,.g true,.g true,.row (Hq y),.g true,.g true,.g true,.g true,.g true,.g true,.g true,.g true,.g true,.row (Hq y),.g true,.g true,.g true,.g true,.g true,.g true,.g false,.g false,.g false,.g false,.g false,.g false,.g false,.g false,.g true,.ov 37 (bool false),.g true,.ov 38 (bool false),.ov 39 (bool false),.b false] (.c (show(Zd ((↑n:Int)<(↑(Hn ls):Int))==true)=true from(by rw[iF];rfl)) (.c (show(Zd ((↑n:Int)<(↑(Hn ls):Int))==true)=true from(by rw[iF];rfl)) (.c (show(Zd ((↑n:Int)<(↑(Hn ls):Int))==true)=true from(by rw[iF];rfl)) (.c ho (.c (show(Zd ((↑n:Int)<(↑(Hn ls):Int))==true)=true from(by rw[iF];rfl)) (.c (show(Zd ((↑n:Int)<(↑(Hn ls):Int))==true)=true from(by rw[iF];rfl)) (.c (show(Zd ((↑n:Int)<(↑(Hn ls):Int))==true)=true from(by rw[iF];rfl)) (.c (show(Zd ((↑n:Int)<(↑(Hn ls):Int))==true)=true from(by rw[iF];rfl)) (.c (show(Zd ((↑n:Int)<(↑(Hn ls):Int))==true)=true from(by rw[iF];rfl)) (.c (show(Zd ((↑n:Int)<(↑(Hn ls):Int))==true)=true from(by rw[iF];rfl)) (.c (eqc dO) (.c (eqc dO) (.c (eqc dO) (.c ho (.c (eqc dO) (.c (eqc dO) (.c (eqc dO) (.c (eqc dO) (.c (eqc dO) (.c (eqc dO) (.c (eqb oN) (.c (eqb oN) (.c (eqb oN) (.c (eqb oN) (.c (eqb oN) (.c (eqb oN) (.c (eqb oN) (.c (eqb oN) (.c (eqc dO) (.c (pkf (II (Dp.v (Ii {toList:=[]}))) (bool false) oN) (.c (show(Zd ((↑n:Int)<(↑(Hn ls):Int))==true)=true from(by rw[iF];rfl)) (.c (pkf (bool true) (bool false) dO) (.c (pkt (bool false) (bool false) iF) (.er false .n)))))))))))))))))))))))))))))))))) ?_ ?_<;>(simp only[puF,befA,dO,oN,KM,Ix,cond_false];rfl)
  ·cases Is:Zd (y.aT<a.aT)
   ·refine zX {t:=mkT 54 0 [(0,ab ls),(3,.ref (.ptr 0 0)),(5,int (↑n:Int))],h:=[.var [int a.aT,int a.term,int a.oR,int a.tO,int a.bY]],m:=[]} (HT 0) [.st (.mask [0,3,5])] [.g true,.g true,.g true,.row (Hq y),.g true,.g true,.g true,.g true,.g true,.g true,.g true,.g true,.g true,.row (Hq y),.g true,.g true,.g true,.g true,.g true,.g true,.g true,.g true,.g true,.row (Hq y),.g true,.g true,.g true,.g true,.g true,.g true,.ov 37 (bool (Zd (y.aT<a.aT))),.g true,.ov 38 (bool (Zd (y.aT<a.aT))),.ov 39 (bool (Zd (y.aT<a.aT))),.b false] (.c (show(Zd ((↑n:Int)<(↑(Hn ls):Int))==true)=true from(by rw[iF];rfl)) (.c (show(Zd ((↑n:Int)<(↑(Hn ls):Int))==true)=true from(by rw[iF];rfl)) (.c (show(Zd ((↑n:Int)<(↑(Hn ls):Int))==true)=true from(by rw[iF];rfl)) (.c ho (.c (show(Zd ((↑n:Int)<(↑(Hn ls):Int))==true)=true from(by rw[iF];rfl)) (.c (show(Zd ((↑n:Int)<(↑(Hn ls):Int))==true)=true from(by rw[iF];rfl)) (.c (show(Zd ((↑n:Int)<(↑(Hn ls):Int))==true)=true from(by rw[iF];rfl)) (.c (show(Zd ((↑n:Int)<(↑(Hn ls):Int))==true)=true from(by rw[iF];rfl)) (.c (show(Zd ((↑n:Int)<(↑(Hn ls):Int))==true)=true from(by rw[iF];rfl)) (.c (show(Zd ((↑n:Int)<(↑(Hn ls):Int))==true)=true from(by rw[iF];rfl)) (.c (eqc dO) (.c (eqc dO) (.c (eqc dO) (.c ho (.c (eqc dO) (.c (eqc dO) (.c (eqc dO) (.c (eqc dO) (.c (eqc dO) (.c (eqc dO) (.c (eqa oN) (.c (eqa oN) (.c (eqa oN) (.c ho (.c (eqa oN) (.c (eqa oN) (.c (eqa oN) (.c (eqa oN) (.c (eqa oN) (.c (eqc dO) (.c (pkt (bool (Zd (y.aT<a.aT))) (bool false) oN) (.c (show(Zd ((↑n:Int)<(↑(Hn ls):Int))==true)=true from(by rw[iF];rfl)) (.c (pkf (bool true) (bool (Zd (y.aT<a.aT))) dO) (.c (pkt (bool (Zd (y.aT<a.aT))) (bool false) iF) (.c Is .n))))))))))))))))))))))))))))))))))) ?_ ?_<;>(simp only[puF,befA,dO,oN,Is,KM,Bool.and_false,cond_false];rfl)
   ·refine zX {t:=mkT 54 0 [(0,ab ls),(3,.ref (.ptr 0 0)),(5,int (Ht Hp ((↑n:Int)+1)))],h:=[.var [int a.aT,int a.term,int a.oR,int a.tO,int a.bY]],m:=[]} HA [.st (.mask [0,3,5])] [.g true,.g true,.g true,.row (Hq y),.g true,.g true,.g true,.g true,.g true,.g true,.g true,.g true,.g true,.row (Hq y),.g true,.g true,.g true,.g true,.g true,.g true,.g true,.g true,.g true,.row (Hq y),.g true,.g true,.g true,.g true,.g true,.g true,.ov 37 (bool (Zd (y.aT<a.aT))),.g true,.ov 38 (bool (Zd (y.aT<a.aT))),.ov 39 (bool (Zd (y.aT<a.aT))),.b true] (.c (show(Zd ((↑n:Int)<(↑(Hn ls):Int))==true)=true from(by rw[iF];rfl)) (.c (show(Zd ((↑n:Int)<(↑(Hn ls):Int))==true)=true from(by rw[iF];rfl)) (.c (show(Zd ((↑n:Int)<(↑(Hn ls):Int))==true)=true from(by rw[iF];rfl)) (.c ho (.c (show(Zd ((↑n:Int)<(↑(Hn ls):Int))==true)=true from(by rw[iF];rfl)) (.c (show(Zd ((↑n:Int)<(↑(Hn ls):Int))==true)=true from(by rw[iF];rfl)) (.c (show(Zd ((↑n:Int)<(↑(Hn ls):Int))==true)=true from(by rw[iF];rfl)) (.c (show(Zd ((↑n:Int)<(↑(Hn ls):Int))==true)=true from(by rw[iF];rfl)) (.c (show(Zd ((↑n:Int)<(↑(Hn ls):Int))==true)=true from(by rw[iF];rfl)) (.c (show(Zd ((↑n:Int)<(↑(Hn ls):Int))==true)=true from(by rw[iF];rfl)) (.c (eqc dO) (.c (eqc dO) (.c (eqc dO) (.c ho (.c (eqc dO) (.c (eqc dO) (.c (eqc dO) (.c (eqc dO) (.c (eqc dO) (.c (eqc dO) (.c (eqa oN) (.c (eqa oN) (.c (eqa oN) (.c ho (.c (eqa oN) (.c (eqa oN) (.c (eqa oN) (.c (eqa oN) (.c (eqa oN) (.c (eqc dO) (.c (pkt (bool (Zd (y.aT<a.aT))) (bool false) oN) (.c (show(Zd ((↑n:Int)<(↑(Hn ls):Int))==true)=true from(by rw[iF];rfl)) (.c (pkf (bool true) (bool (Zd (y.aT<a.aT))) dO) (.c (pkt (bool (Zd (y.aT<a.aT))) (bool false) iF) (.c Is .n))))))))))))))))))))))))))))))))))) ?_ ?_<;>(simp only[puF,befA,dO,oN,Is,KM,Bool.and_true,cond_true];first|rfl|(rw[hw];rfl))
 ·refine zX {t:=mkT 54 0 [(0,ab ls),(3,.ref (.ptr 0 0)),(5,int (Ht Hp ((↑n:Int)+1)))],h:=[.var [int a.aT,int a.term,int a.oR,int a.tO,int a.bY]],m:=[]} HA [.st (.mask [0,3,5])] [.g true,.g true,.g true,.row (Hq y),.g true,.g true,.g true,.g true,.g true,.g true,.g false,.g false,.g false,.g false,.g false,.g false,.g false,.g false,.g false,.g false,.g false,.g false,.g false,.g false,.g false,.g false,.g false,.g false,.g true,.ov 38 (bool true),.ov 39 (bool true),.b true] (.c (show(Zd ((↑n:Int)<(↑(Hn ls):Int))==true)=true from(by rw[iF];rfl)) (.c (show(Zd ((↑n:Int)<(↑(Hn ls):Int))==true)=true from(by rw[iF];rfl)) (.c (show(Zd ((↑n:Int)<(↑(Hn ls):Int))==true)=true from(by rw[iF];rfl)) (.c ho (.c (show(Zd ((↑n:Int)<(↑(Hn ls):Int))==true)=true from(by rw[iF];rfl)) (.c (show(Zd ((↑n:Int)<(↑(Hn ls):Int))==true)=true from(by rw[iF];rfl)) (.c (show(Zd ((↑n:Int)<(↑(Hn ls):Int))==true)=true from(by rw[iF];rfl)) (.c (show(Zd ((↑n:Int)<(↑(Hn ls):Int))==true)=true from(by rw[iF];rfl)) (.c (show(Zd ((↑n:Int)<(↑(Hn ls):Int))==true)=true from(by rw[iF];rfl)) (.c (show(Zd ((↑n:Int)<(↑(Hn ls):Int))==true)=true from(by rw[iF];rfl)) (.c (eqd dO) (.c (eqd dO) (.c (eqd dO) (.c (eqd dO) (.c (eqd dO) (.c (eqd dO) (.c (eqd dO) (.c (eqd dO) (.c (eqd dO) (.er false (.er false (.er false (.er false (.er false (.er false (.er false (.er false (.c (eqd dO) (.c (show(Zd ((↑n:Int)<(↑(Hn ls):Int))==true)=true from(by rw[iF];rfl)) (.c (pkt (bool true) (II (Dp.v (Ii {toList:=[]}))) dO) (.c (pkt (bool true) (bool false) iF) (.er true .n)))))))))))))))))))))))))))))))) ?_ ?_<;>(simp only[puF,befA,dO,Bool.true_or,cond_true];first|rfl|(rw[hw];rfl))
theorem GO{ls:List (List Dp)}{a:AttT}{n:Nat}(iF:Zd ((n:Int)<(ls.length:Int))=false):(CW Hm Γ0 [] false (sub M4 0) (puS ls a n) (.exit 0) (puS ls a n)):=by
 exact zx [.st (.mask [0,3,5])] [.g false,.g false,.g false,.g false,.g false,.g false,.g false,.g false,.g false,.g false,.g false,.g false,.g false,.g false,.g false,.g false,.g false,.g false,.g false,.g false,.g false,.g false,.g false,.g false,.g false,.g false,.g false,.g false,.ov 39 (bool false),.b false] (.c (show(Zd ((↑n:Int)<(↑(Hn ls):Int))==true)=false from(by rw[iF];rfl)) (.c (show(Zd ((↑n:Int)<(↑(Hn ls):Int))==true)=false from(by rw[iF];rfl)) (.c (show(Zd ((↑n:Int)<(↑(Hn ls):Int))==true)=false from(by rw[iF];rfl)) (.c (show(Zd ((↑n:Int)<(↑(Hn ls):Int))==true)=false from(by rw[iF];rfl)) (.c (show(Zd ((↑n:Int)<(↑(Hn ls):Int))==true)=false from(by rw[iF];rfl)) (.c (show(Zd ((↑n:Int)<(↑(Hn ls):Int))==true)=false from(by rw[iF];rfl)) (.c (show(Zd ((↑n:Int)<(↑(Hn ls):Int))==true)=false from(by rw[iF];rfl)) (.c (show(Zd ((↑n:Int)<(↑(Hn ls):Int))==true)=false from(by rw[iF];rfl)) (.c (show(Zd ((↑n:Int)<(↑(Hn ls):Int))==true)=false from(by rw[iF];rfl)) (.er false (.er false (.er false (.er false (.er false (.er false (.er false (.er false (.er false (.er false (.er false (.er false (.er false (.er false (.er false (.er false (.er false (.er false (.c (show(Zd ((↑n:Int)<(↑(Hn ls):Int))==true)=false from(by rw[iF];rfl)) (.c (pkf (II (Dp.v (Ii {toList:=[]}))) (bool false) iF) (.er false .n))))))))))))))))))))))))))))))
def puP(out:List AttT)(a:AttT):Nat:=match forL (puF a) out 0 with | .inl n=>n | .inr n=>n
theorem pu_cw{out:List AttT}(hl:af out){a:AttT}:CW Hm Γ0 [] false (.loop (sub M4 0)) (puS (out.map Hq) a 0) (.exit 0) (puS (out.map Hq) a (puP out a)):=by
 have:=I7 (P:=Hm) (Γ:=Γ0) (h0:=[]) (rd:=false) (c:=sub M4 0) out (puF a) (fun _ n=>puS (out.map Hq) a (n:Int)) (.exit 0) (fun n=>puS (out.map Hq) a (n:Int)) (fun n:Nat=>(.exit 0,puS (out.map Hq) a (n:Int)))
  (fun k n=>n=k) (by simp) (by simp) ?_ ?_ 0 rfl
 ·unfold puP
  cases h:forL (puF a) out 0<;>rw[h] at this<;>exact this
 ·intro k y n hy hn
  subst hn
  have hi:=(Hs.1 hy).1
  refine⟨fun m h=>?_,GN (rowAt hy rfl) (lt_len _ hi) (wrap_succ hi hl)⟩
  unfold puF at h
  cases hc:befA y a<;>rw[hc] at h<;>simp at h
  exact h.symm
 ·intro n hn
  subst hn
  exact GO (aJ _ out)
def sh(out:List AttT)(a:AttT):List AttT:=out.take (puP out a)++[a]++out.drop (puP out a)
theorem Ax(l:List AttT):∀r∈l.map Hq,r.length=5:=by intro r hr;obtain⟨x,_,rfl⟩:=HQ.1 hr;rfl
theorem GP(l:List AttT):∀r∈l.map Hq,aG 5 (r.map II)=true:=by intro r hr;obtain⟨x,_,rfl⟩:=HQ.1 hr;rfl
theorem Ay(out:List AttT)(a:AttT):(sh out a).map Hq=(out.map Hq).take (puP out a)++[a.row]++(out.map Hq).drop (puP out a):=by simp[sh,List.map_take,List.map_drop]
theorem Dy(out:List AttT)(a:AttT):puP out a≤out.length:=by
 have key:∀(l:List AttT) (n:Nat),(match forL (puF a) l n with | .inl n=>n | .inr n=>n)≤n+l.length:=by
  intro l
  induction l with
  | nil=>intro n;simp[forL]
  | cons y l ih =>
   intro n
   simp only[forL,puF,HY]
   cases befA y a
   ·simp
   ·have:=ih (n+1);simp only[cond_true];omega
 have:=key out 0
 unfold puP
 omega
theorem put_f{out:List AttT}(hl:af out)(hb:out.length≤1000000){a:AttT}(hp:puP out a≤(out.map Hq).length):(Ev Hm Γ0 77 [ab (out.map Hq),ag a.row] [] (ab ((sh out a).map Hq)) []):=by
 have N1:=(@pu_cw (out) (hl) (a))
 let v0:List D:=[int a.aT,int a.term,int a.oR,int a.tO,int a.bY]
 let v1:=IC (Hw 0) (Hl Hq out)
 let v2:=Hn (Hl Hq out)
 let v3:=Hl Hq (sh out a)
 refine H4 (Ev.post (d2:=ab v3) (h2:=[]) (φ:=[Hl (fun x=>Hl II x) (Ih (Hw (↑(puP out a):Int) - Hw 0) v1)++[v0]++Hl (fun x=>Hl II x) (Ih (Hw (↑v2:Int) - Hw (↑(puP out a):Int)) (IC (Hw (↑(puP out a):Int)) (Hl Hq out)))=Hl (fun x=>Hl II x) v3,[v0]=[v0]]) [.st (.frz 1 v3),.st (.trim 0)] (Ev.of_sym (h':=[.var v0,.vec (Hl (fun x=>Hl II x) (Ih (Hw (↑(puP out a):Int) - Hw 0) v1)++[v0]++Hl (fun x=>Hl II x) (Ih (Hw (↑v2:Int) - Hw (↑(puP out a):Int)) (IC (Hw (↑(puP out a):Int)) (Hl Hq out)))) 3 5,.vec [v0] 0 5]) (d:=.ref (.vec 1 3)) pok [.sum [0,3,5] (HT 0) {t:=mkT 54 0 [(0,ab (Hl Hq out)),(3,.ref (.ptr 0 0)),(5,int (↑(puP out a):Int))],h:=[.var v0],m:=[]},.lateO] (by kernel_rfl) (.c N1 (.c (show(mq 0 (↑(puP out a):Int) v2&&true&&(true||HN (Option.map (evalD Γ0 (mkT 54 0 [(0,ab (Hl Hq out)),(3,.ref (.ptr 0 0)),(5,int (↑(puP out a):Int)),(43,ab (Hl Hq out)),(44,int (↑(puP out a):Int))])) (some (ML 44))))&&HJ (Hl Hq out) fun r=>Zd (Hn r=5))=true from ?_) (.c (show(HJ (Hl (fun x=>Hl II x) (Ih (Hw (↑(puP out a):Int) - Hw 0) v1)) (aG 5)&&roomOk (Hn ([]:List (List D))+Hn (Hl (fun x=>Hl II x) (Ih (Hw (↑(puP out a):Int) - Hw 0) v1))) 40)=true from ?_) (.c (show(HJ [v0] (aG 5)&&roomOk (Hn (Hl (fun x=>Hl II x) (Ih (Hw (↑(puP out a):Int) - Hw 0) v1))+Hn [v0]) 40)=true from ?_) (.c (show(mq (↑(puP out a):Int) (↑v2:Int) v2&&true&&(true||false)&&HJ (Hl Hq out) fun r=>Zd (Hn r=5))=true from ?_) (.c (show(HJ (Hl (fun x=>Hl II x) (Ih (Hw (↑v2:Int) - Hw (↑(puP out a):Int)) (IC (Hw (↑(puP out a):Int)) (Hl Hq out)))) (aG 5)&&roomOk (Hn (Hl (fun x=>Hl II x) (Ih (Hw (↑(puP out a):Int) - Hw 0) v1)++[v0])+Hn (Hl (fun x=>Hl II x) (Ih (Hw (↑v2:Int) - Hw (↑(puP out a):Int)) (IC (Hw (↑(puP out a):Int)) (Hl Hq out))))) 40)=true from ?_) (.c (show HJ [] (Ig 1)=true from rfl) (.c (show HJ [] (Ig 2)=true from rfl) (.c (show HJ [] (Ig 2)=true from rfl) (.c (show HJ (Hl (fun x=>Hl II x) (Ih (Hw (↑(puP out a):Int) - Hw 0) v1)) (Ig 2)=true from ?_) (.c (show HJ [] (Ig 2)=true from rfl) (.c (show HJ (Hl (fun x=>Hl II x) (Ih (Hw (↑(puP out a):Int) - Hw 0) v1)) (Ig 3)=true from ?_) (.c (show HJ [v0] (Ig 3)=true from rfl) (.c (show HJ [] (Ig 3)=true from rfl) (.c (show HJ (Hl (fun x=>Hl II x) (Ih (Hw (↑(puP out a):Int) - Hw 0) v1)++[v0]) (Ig 3)=true from ?_) (.c (show HJ [v0] (Ig 3)=true from rfl) (.c (show HJ [] (Ig 3)=true from rfl) (.c (show HJ (Hl (fun x=>Hl II x) (Ih (Hw (↑(puP out a):Int) - Hw 0) v1)++[v0]++Hl (fun x=>Hl II x) (Ih (Hw (↑v2:Int) - Hw (↑(puP out a):Int)) (IC (Hw (↑(puP out a):Int)) (Hl Hq out)))) (Ig 3)=true from ?_) (.c (show HJ [v0] (Ig 3)=true from rfl) (.c (show HJ [] (Ig 3)=true from rfl) (.c (show HJ [v0] (Ig 1)=true from rfl) (.c (show HJ [] (Ig 2)=true from rfl) (.c (show HJ [v0] (Ig 2)=true from rfl) (.c (show HJ (Hl (fun x=>Hl II x) (Ih (Hw (↑(puP out a):Int) - Hw 0) v1)) (Ig 2)=true from ?_) (.c (show HJ [v0] (Ig 2)=true from rfl) (.c (show HJ (Hl (fun x=>Hl II x) (Ih (Hw (↑(puP out a):Int) - Hw 0) v1)) (Ig 3)=true from ?_) (.c (show HJ [v0] (Ig 3)=true from rfl) (.c (show HJ [v0] (Ig 3)=true from rfl) (.c (show HJ (Hl (fun x=>Hl II x) (Ih (Hw (↑(puP out a):Int) - Hw 0) v1)++[v0]) (Ig 3)=true from ?_) (.c (show HJ [v0] (Ig 3)=true from rfl) (.c (show HJ [v0] (Ig 3)=true from rfl) (.c (show HJ (Hl (fun x=>Hl II x) (Ih (Hw (↑(puP out a):Int) - Hw 0) v1)++[v0]++Hl (fun x=>Hl II x) (Ih (Hw (↑v2:Int) - Hw (↑(puP out a):Int)) (IC (Hw (↑(puP out a):Int)) (Hl Hq out)))) (Ig 3)=true from ?_) (.c (show HJ [v0] (Ig 3)=true from rfl) (.c (show HJ [v0] (Ig 3)=true from rfl) (.e (ag (Hq a)) (.e (ag (Hq a)) (.e (ag (Hq a)) .n)))))))))))))))))))))))))))))))))))))) (by kernel_rfl) ⟨?_,rfl,trivial⟩) (by rfl) (by rfl)<;>subst v0 v1 v2 v3<;>(first|exact cF _ _|exact tJ rfl|exact Ao rfl|exact Al hp (Ax _)|exact Am hp (Ax _)|(refine Dw (GP _) ?_ ?_<;>simp<;>omega)|(rw[Ay];exact An rfl)|(simp[aG,D.one,IJ,roomOk];omega))
theorem Dz{out:List AttT}(hb:out.length≤1000000){a:AttT}(h:List Blk):Ev Hm Γ0 77 [ab (out.map Hq),ag a.row] h (ab ((sh out a).map Hq)) h :=
 Ev.frame0 rfl (put_f (by unfold af;omega) hb (by rw[Ir];exact Dy out a)) h
def xF(m1 m2:IM)(x:SeenT)(c:Int):SeenT:=bif Zd (gI m1 c>0) then ⟨x.aT,mnI (Hp.wrap (x.tries+gI m1 c)) 100,mxI x.iS (gI m2 c),x.now⟩ else x
abbrev sqS(w:WorldT)(known st term:Int)(sm:SM)(rs:List ReadT)(ep:Nat)(cs as_ ns es:List (List Dp))(m1 m2:IM)(n:Int)(i:Int)(x:SeenT)(k:Int):AS :=
 {t:=mkT 190 0 [(2,int term),(10,.ref (.ptr 1 0)),(11,ay),(13,.ref (.mp 2)),(17,.ref (.ptr 3 0)),(19,ab cs),(20,.ref (.mp 6)),(21,.ref (.mp 7)),(25,int n),(26,.ref (.ptr 8 0)),(102,ab ns),(103,int ns.length),(104,int i),(116,ab es),(117,int es.length),(118,int k)],h:=siH w known st sm rs ep as_ m1 m2++[.var (x.row.map .p)],m:=[]}
abbrev sqE(w:WorldT)(known st term:Int)(sm:SM)(rs:List ReadT)(ep:Nat)(cs as_ ns:List (List Dp))(m1 m2:IM)(n:Int)(i:Int)(x:SeenT):AS :=
 {t:=mkT 190 0 [(2,int term),(10,.ref (.ptr 1 0)),(11,ay),(13,.ref (.mp 2)),(17,.ref (.ptr 3 0)),(19,ab cs),(20,.ref (.mp 6)),(21,.ref (.mp 7)),(25,int n),(26,.ref (.ptr 8 0)),(102,ab ns),(103,int ns.length),(104,int i)],h:=siH w known st sm rs ep as_ m1 m2++[.var (x.row.map .p)],m:=[]}
theorem GQ{w:WorldT}{known st term:Int}{sm:SM}{rs:List ReadT}{cs as_ ns es:List (List Dp)}{m1 m2:IM}{n i c:Int}{x:SeenT}{k:Nat}(hr:aj (k:Int) es [vi c] 1)(iF:Zd ((k:Int)<(es.length:Int))=true)(hw:Hp.wrap ((k:Int)+1)=((k+1:Nat):Int)):(CW Hm Γk [] false (sub IR 3) (sqS w known st term sm rs 1 cs as_ ns es m1 m2 n i x k) .normal (sqS w known st term sm rs 1 cs as_ ns es m1 m2 n i (xF m1 m2 x c) ((k+1:Nat):Int))):=by
 cases dO:Zd (gI m1 c>0)
 ·let v0:List D:=[.ref (.vec 4 1),ab (Hl Hz w.c),ab w.p,ab (Hl HC w.s),ab (Hl Hv w.f),int known]
  refine zX {t:=mkT 190 0 [(2,int term),(10,.ref (.ptr 1 0)),(11,nq),(13,.ref (.mp 2)),(17,.ref (.ptr 3 0)),(19,ab cs),(20,.ref (.mp 6)),(21,.ref (.mp 7)),(25,int n),(26,.ref (.ptr 8 0)),(102,ab ns),(103,int (↑(Hn ns):Int)),(104,int i),(116,ab es),(117,int (↑(Hn es):Int)),(118,int (Ht Hp ((↑k:Int)+1)))],h:=[.var [ab (Hl Hz w.c),ab w.p,ab (Hl HC w.s),ab (Hl Hv w.f)],.var [nq,int 0,int 0,int 0],.map (aQ 0 sm) (Hn sm),.var v0,.vec (ae (rdR rs)) 1 5,.var [int st,ab as_],.map (ar 0 m1) (Hn m1),.map (ar 0 m2) (Hn m2),.var [int x.aT,int x.tries,int x.iS,bool x.now]],m:=[]} HA [.st (.mask [2,10,11,13,17,19,20,21,25,26,102,103,104,116,117,118])] [.b true,.row [vi c],.ov 124 (int (gI m1 c)),.b false] (.c iF (.c hr (.c (show ap Hm [.var (HI w),.var [nq,int 0,int 0,int 0],.map (aQ 0 sm) (Hn sm),.var v0,.vec (ae (rdR rs)) 1 5,.var [int st,ab as_],.map (ar 0 m1) (Hn m1),.map (ar 0 m2) (Hn m2),.var [int x.aT,int x.tries,int x.iS,bool x.now]] 125 (.ref (.mp 6)) (int c) false=some (int (gI m1 c)) from(by subst v0;exact lk6 rfl)) (.c dO .n)))) ?_ ?_<;>subst v0<;>(first|rfl|(have hh:Zd (gI m1 c>0)=false:=dO;simp only[hw,xF,hh,cond_false];first|done|rfl))
 ·let v0:List D:=[.ref (.vec 4 1),ab (Hl Hz w.c),ab w.p,ab (Hl HC w.s),ab (Hl Hv w.f),int known]
  let v1:List Blk:=[.var (HI w),.var [nq,int 0,int 0,int 0],.map (aQ 0 sm) (Hn sm),.var v0,.vec (ae (rdR rs)) 1 5,.var [int st,ab as_],.map (ar 0 m1) (Hn m1),.map (ar 0 m2) (Hn m2),.var [int x.aT,int x.tries,int x.iS,bool x.now]]
  refine zX {t:=mkT 190 0 [(2,int term),(10,.ref (.ptr 1 0)),(11,nq),(13,.ref (.mp 2)),(17,.ref (.ptr 3 0)),(19,ab cs),(20,.ref (.mp 6)),(21,.ref (.mp 7)),(25,int n),(26,.ref (.ptr 8 0)),(102,ab ns),(103,int (↑(Hn ns):Int)),(104,int i),(116,ab es),(117,int (↑(Hn es):Int)),(118,int (Ht Hp ((↑k:Int)+1)))],h:=[.var [ab (Hl Hz w.c),ab w.p,ab (Hl HC w.s),ab (Hl Hv w.f)],.var [nq,int 0,int 0,int 0],.map (aQ 0 sm) (Hn sm),.var v0,.vec (ae (rdR rs)) 1 5,.var [int st,ab as_],.map (ar 0 m1) (Hn m1),.map (ar 0 m2) (Hn m2),.var [int x.aT,int (if false=true then if 100>Ht Hp (x.tries+gI m1 c) then 100 else Ht Hp (x.tries+gI m1 c) else if 100<Ht Hp (x.tries+gI m1 c) then 100 else Ht Hp (x.tries+gI m1 c)),int (if true=true then if gI m2 c>x.iS then gI m2 c else x.iS else if gI m2 c<x.iS then gI m2 c else x.iS),bool x.now]],m:=[]} HA [.st (.mask [2,10,11,13,17,19,20,21,25,26,102,103,104,116,117,118])] [.b true,.row [vi c],.ov 124 (int (gI m1 c)),.b true,.ov 130 (int (gI m1 c)),.ov 138 (int (gI m2 c))] (.c iF (.c hr (.c (show ap Hm v1 125 (.ref (.mp 6)) (int c) false=some (int (gI m1 c)) from(by subst v0 v1;exact lk6 rfl)) (.c dO (.c (show ap Hm v1 125 (.ref (.mp 6)) (int c) false=some (int (gI m1 c)) from(by subst v0 v1;exact lk6 rfl)) (.c (show ap Hm [.var (HI w),.var [nq,int 0,int 0,int 0],.map (aQ 0 sm) (Hn sm),.var v0,.vec (ae (rdR rs)) 1 5,.var [int st,ab as_],.map (ar 0 m1) (Hn m1),.map (ar 0 m2) (Hn m2),.var [int x.aT,int (if false=true then if 100>Ht Hp (x.tries+gI m1 c) then 100 else Ht Hp (x.tries+gI m1 c) else if 100<Ht Hp (x.tries+gI m1 c) then 100 else Ht Hp (x.tries+gI m1 c)),int x.iS,bool x.now]] 125 (.ref (.mp 7)) (int c) false=some (int (gI m2 c)) from(by subst v0 v1;exact lk7 rfl)) .n)))))) ?_ ?_<;>subst v0 v1<;>(first|rfl|(have hh:Zd (gI m1 c>0)=true:=dO;simp only[hw,xF,hh,cond_true];first|done|rfl))
theorem GR{w:WorldT}{known st term:Int}{sm:SM}{rs:List ReadT}{cs as_ ns es:List (List Dp)}{m1 m2:IM}{n i:Int}{x:SeenT}{k:Nat}(iF:Zd ((k:Int)<(es.length:Int))=false):(CW Hm Γk [] false (sub IR 3) (sqS w known st term sm rs 1 cs as_ ns es m1 m2 n i x k) (.exit 6) (sqE w known st term sm rs 1 cs as_ ns m1 m2 n i x)):=by
 exact zx [.st (.mask [2,10,11,13,17,19,20,21,25,26,102,103,104])] [.b false] (.c iF .n)
theorem sq_cw{w:WorldT}{known st term:Int}{sm:SM}{rs:List ReadT}{cs as_ ns:List (List Dp)}{es:List Int}(he:af es){m1 m2:IM}{n i:Int}{x:SeenT}:
  CW Hm Γk [] false (.loop (sub IR 3)) (sqS w known st term sm rs 1 cs as_ ns (es.map fun n=>[vi n]) m1 m2 n i x 0) (.exit 6) (sqE w known st term sm rs 1 cs as_ ns m1 m2 n i (es.foldl (xF m1 m2) x)):=by
 have:=I7 (P:=Hm) (Γ:=Γk) (h0:=[]) (rd:=false) (c:=sub IR 3) (σ:=SeenT) (ρ:=Empty) es (fun c x=>.inl (xF m1 m2 x c))
  (fun k x=>sqS w known st term sm rs 1 cs as_ ns (es.map fun n=>[vi n]) m1 m2 n i x (k:Int)) (.exit 6) (fun x=>sqE w known st term sm rs 1 cs as_ ns m1 m2 n i x) (fun r=>r.elim) (fun _ _=>True) (by simp) (fun r=>r.elim) ?_ ?_ x trivial
 ·rw[aC] at this
  exact this
 ·intro k c x hc _
  have hi:=(Hs.1 hc).1
  exact⟨fun _ _=>trivial,GQ (rowAt (row:=fun n=>[vi n]) hc rfl) (lt_len (fun n=>[vi n]) hi) (wrap_succ hi he)⟩
 ·intro x _
  exact GR (aJ (fun n=>[vi n]) es)
abbrev nbS(w:WorldT)(known st term:Int)(sm:SM)(rs:List ReadT)(cs as_ ns:List (List Dp))(m1 m2:IM)(i:Int):AS :=
 {t:=mkT 190 0 [(2,int term),(10,.ref (.ptr 1 0)),(11,ay),(13,.ref (.mp 2)),(17,.ref (.ptr 3 0)),(19,ab cs),(20,.ref (.mp 6)),(21,.ref (.mp 7)),(102,ab ns),(103,int ns.length),(104,int i)],h:=siH w known st sm rs 0 as_ m1 m2,m:=[]}
abbrev nbE(w:WorldT)(known st:Int)(sm:SM)(rs:List ReadT)(cs as_:List (List Dp))(m1 m2:IM):AS :=
 {t:=mkT 190 0 [(10,.ref (.ptr 1 0)),(11,ay),(13,.ref (.mp 2)),(17,.ref (.ptr 3 0)),(19,ab cs)],h:=siH w known st sm rs 0 as_ m1 m2,m:=[]}
abbrev RSM:=List ReadT×SM
def seenOf(w:WorldT)(known term:Int)(m1 m2:IM)(sm:SM)(n:Int):SeenT:=(a7 w n term known).2.foldl (xF m1 m2) ⟨n,0,-1,((bE sm n).getD l8).now⟩
def nbF(w:WorldT)(known term:Int)(m1 m2:IM)(s:RSM)(n:Int):RSM :=
 (s.1++(a7 w n term known).1,bif Zd ((seenOf w known term m1 m2 s.2 n).tries>0) then bA s.2 n (seenOf w known term m1 m2 s.2 n) else s.2)
theorem upS2{h:List Blk}{m:SM}{c:Int}{v:SeenT}(hb:h[2]? = some (smB m)):am Hm h 117 (.ref (.mp 2)) (int c) (.agg (v.row.map .p))=some (h.set 2 (smB (bA m c v))):=upS hb
theorem lkS2{h:List Blk}{m:SM}{c:Int}{v:SeenT}(hb:h[2]? = some (smB m))(hv:(bE m c).getD l8=v):ap Hm h 117 (.ref (.mp 2)) (int c) false=some (.agg [int v.aT,int v.tries,int v.iS,bool v.now]):=by
 rw[←hv];exact lkS hb
noncomputable abbrev gf(w:WorldT)(known:Int)(st:Int)(term:Int)(sm:SM)(rs:List ReadT)(as_:List (List Dp))(m1:IM)(m2:IM)(n:Int)(v:SeenT):List Blk:=[.var [ab (Hl Hz w.c),ab w.p,ab (Hl HC w.s),ab (Hl Hv w.f)],.var [nq,int 0,int 0,int 0],.map (aQ 0 sm) (Hn sm),.var [.ref (.vec 4 1),ab (Hl Hz w.c),ab w.p,ab (Hl HC w.s),ab (Hl Hv w.f),int known],.vec (ae (rdR (rs++(a7 w n term known).1))) 1 5,.var [int st,ab as_],.map (ar 0 m1) (Hn m1),.map (ar 0 m2) (Hn m2),.var [int n,int 0,int (-1),bool v.now]]
noncomputable abbrev gg(w:WorldT)(known:Int)(st:Int)(sm:SM)(rs:List ReadT)(as_:List (List Dp))(m1:IM)(m2:IM)(n:Int)(v:SeenT):List Blk:=[.var [ab (Hl Hz w.c),ab w.p,ab (Hl HC w.s),ab (Hl Hv w.f)],.var [nq,int 0,int 0,int 0],.map (aQ 0 sm) (Hn sm),.var [.ref (.vec 4 0),ab (Hl Hz w.c),ab w.p,ab (Hl HC w.s),ab (Hl Hv w.f),int known],.vec (ae (rdR rs)) 0 5,.var [int st,ab as_],.map (ar 0 m1) (Hn m1),.map (ar 0 m2) (Hn m2),.var [int n,int 0,int (-1),bool v.now]]
theorem nb_body{w:WorldT}(hw:w.ok){known st term:Int}(hN:(ad w.f known).length≤1000){sm:SM}{rs:List ReadT}{cs as_ ns:List (List Dp)}{m1 m2:IM}{n:Int}{v:SeenT}(hv:(bE sm n).getD l8=v){i:Nat}(hr:aj (i:Int) ns [vi n] 1)(iF:Zd ((i:Int)<(ns.length:Int))=true)(Oy:Hp.wrap ((i:Int)+1)=((i+1:Nat):Int))(hb:rs.length≤900000000)(hs:af (a7 w n term known).2):(CW Hm Γk [] false (sub IR 2) (nbS w known st term sm rs cs as_ ns m1 m2 i) .normal (nbS w known st term (nbF w known term m1 m2 (rs,sm) n).2 (nbF w known term m1 m2 (rs,sm) n).1 cs as_ ns m1 m2 ((i+1:Nat):Int))):=by
 have N1:=(@sq_cw (w) (known) (st) (term) (sm) (rs++(a7 w n term known).1) (cs) (as_) (ns) ((a7 w n term known).2) (hs) (m1) (m2) (n) ((↑i:Int)) ({aT:=n,tries:=0,iS := -1,now:=v.now}))
 cases oN:Zd ((HP (xF m1 m2) {aT:=n,tries:=0,iS := -1,now:=v.now} (a7 w n term known).2).tries>0)
 ·let v0:List D:=[.ref (.vec 4 0),ab (Hl Hz w.c),ab w.p,ab (Hl HC w.s),ab (Hl Hv w.f),int known]
  let v1:List D:=[.ref (.vec 4 1),ab (Hl Hz w.c),ab w.p,ab (Hl HC w.s),ab (Hl Hv w.f),int known]
  let v2:=D.agg [int v.aT,int v.tries,int v.iS,bool v.now]
  refine zX {t:=mkT 190 0 [(2,int term),(10,.ref (.ptr 1 0)),(11,nq),(13,.ref (.mp 2)),(17,.ref (.ptr 3 0)),(19,ab cs),(20,.ref (.mp 6)),(21,.ref (.mp 7)),(102,ab ns),(103,int (↑(Hn ns):Int)),(104,int (Ht Hp ((↑i:Int)+1)))],h:=[.var [ab (Hl Hz w.c),ab w.p,ab (Hl HC w.s),ab (Hl Hv w.f)],.var [nq,int 0,int 0,int 0],.map (aQ 0 sm) (Hn sm),.var v0,.vec (ae (rdR (rs++(a7 w n term known).1))) 0 5,.var [int st,ab as_],.map (ar 0 m1) (Hn m1),.map (ar 0 m2) (Hn m2)],m:=[]} HA [.st (.mask [2,10,11,13,17,19,20,21,102,103,104]),.st (.ren 4 0),.st (.trimV 8)] [.b true,.row [vi n],.ov 111 v2,.call (ab (Hl (fun n=>[vi n]) (a7 w n term known).2)) (gf w known st term sm rs as_ m1 m2 n v),.sum [2,10,11,13,17,19,20,21,25,26,102,103,104,116,117,118] (HT 6) {t:=mkT 190 0 [(2,int term),(10,.ref (.ptr 1 0)),(11,nq),(13,.ref (.mp 2)),(17,.ref (.ptr 3 0)),(19,ab cs),(20,.ref (.mp 6)),(21,.ref (.mp 7)),(25,int n),(26,.ref (.ptr 8 0)),(102,ab ns),(103,int (↑(Hn ns):Int)),(104,int (↑i:Int))],h:=[.var (HI w),.var [nq,int 0,int 0,int 0],.map (aQ 0 sm) (Hn sm),.var v1,.vec (ae (rdR (rs++(a7 w n term known).1))) 1 5,.var [int st,ab as_],.map (ar 0 m1) (Hn m1),.map (ar 0 m2) (Hn m2),.var [int (HP (xF m1 m2) {aT:=n,tries:=0,iS := -1,now:=v.now} (a7 w n term known).2).aT,int (HP (xF m1 m2) {aT:=n,tries:=0,iS := -1,now:=v.now} (a7 w n term known).2).tries,int (HP (xF m1 m2) {aT:=n,tries:=0,iS := -1,now:=v.now} (a7 w n term known).2).iS,bool (HP (xF m1 m2) {aT:=n,tries:=0,iS := -1,now:=v.now} (a7 w n term known).2).now]],m:=[]},.b false] (.c iF (.c hr (.c (show ap Hm [.var (HI w),.var [nq,int 0,int 0,int 0],.map (aQ 0 sm) (Hn sm),.var v0,.vec (ae (rdR rs)) 0 5,.var [int st,ab as_],.map (ar 0 m1) (Hn m1),.map (ar 0 m2) (Hn m2)] 117 (.ref (.mp 2)) (int n) false=some v2 from ?_) (.c (show Ev Hm Γk 63 [.ref (.ptr 3 0),int n,int term] (gg w known st sm rs as_ m1 m2 n v) (ab (Hl (fun n=>[vi n]) (a7 w n term known).2)) (gf w known st term sm rs as_ m1 m2 n v) from(H4 (Ev.frameX (args:=[.ref (.ptr 3 0),int n,int term]) (H:=(gg w known st sm rs as_ m1 m2 n v)) [3,4] (@nZ w hw known n term hN rs ?_) (by kernel_rfl) (by kernel_rfl) (by kernel_rfl) ⟨(by subst v0 v1 v2;exact ai _ _),trivial⟩ ⟨(by subst v0 v1 v2;exact ai _ _),trivial⟩) (by kernel_rfl) (by kernel_rfl))) (.c N1 (.c oN (.c (vM (rdR (rs++(a7 w n term known).1)) 4 1 0) (.c (show Hl (fun e=>(HO (al 4 1 0) e.1,HO (al 4 1 0) e.2.1,e.2.2)) (aQ 0 sm)=aQ 0 sm from ?_) (.c (show Hl (fun e=>(HO (al 4 1 0) e.1,HO (al 4 1 0) e.2.1,e.2.2)) (ar 0 m1)=ar 0 m1 from ?_) (.c (show Hl (fun e=>(HO (al 4 1 0) e.1,HO (al 4 1 0) e.2.1,e.2.2)) (ar 0 m2)=ar 0 m2 from ?_) (.c (show HB 8 (match 0==4 with|true=>.vec (ae (rdR (rs++(a7 w n term known).1))) 0 5|false=>keepX (al 4 1 0) (.var (HI w)))=true from rfl) (.c (show HB 8 (match 0+1==4 with|true=>.vec (ae (rdR (rs++(a7 w n term known).1))) 0 5|false=>keepX (al 4 1 0) (.var [nq,int 0,int 0,int 0]))=true from rfl) (.c (show HB 8 (match 0+1+1==4 with|true=>.vec (ae (rdR (rs++(a7 w n term known).1))) 0 5|false=>keepX (al 4 1 0) (.map (aQ 0 sm) (Hn sm)))=true from ?_) (.c (show HB 8 (match 0+1+1+1==4 with|true=>.vec (ae (rdR (rs++(a7 w n term known).1))) 0 5|false=>keepX (al 4 1 0) (.var v1))=true from rfl) (.c (iV 8 (rdR (rs++(a7 w n term known).1)) 0 5) (.c (show HB 8 (match 0+1+1+1+1+1==4 with|true=>.vec (ae (rdR (rs++(a7 w n term known).1))) 0 5|false=>keepX (al 4 1 0) (.var [int st,ab as_]))=true from rfl) (.c (show HB 8 (match 0+1+1+1+1+1+1==4 with|true=>.vec (ae (rdR (rs++(a7 w n term known).1))) 0 5|false=>keepX (al 4 1 0) (.map (ar 0 m1) (Hn m1)))=true from ?_) (.c (show HB 8 (match 0+1+1+1+1+1+1+1==4 with|true=>.vec (ae (rdR (rs++(a7 w n term known).1))) 0 5|false=>keepX (al 4 1 0) (.map (ar 0 m2) (Hn m2)))=true from ?_) .n)))))))))))))))))) (by subst v0 v1 v2;rfl) (by subst v0 v1 v2;(subst hv;first|(have hh:Zd ((seenOf w known term m1 m2 sm n).tries>0)=true:=oN;simp only[Oy,nbF,hh,cond_true];first|done|rfl)|(have hh:Zd ((seenOf w known term m1 m2 sm n).tries>0)=false:=oN;simp only[Oy,nbF,hh,cond_false];first|done|rfl)))<;>subst v0 v1 v2<;>(first|omega|exact lkS2 rfl hv|exact eH|exact n3|exact cb _ _ _|exact bP _ _ _)
 ·let v0:List D:=[.ref (.vec 4 1),ab (Hl Hz w.c),ab w.p,ab (Hl HC w.s),ab (Hl Hv w.f),int known]
  let v1:List D:=[.ref (.vec 4 0),ab (Hl Hz w.c),ab w.p,ab (Hl HC w.s),ab (Hl Hv w.f),int known]
  let v2:=D.agg [int v.aT,int v.tries,int v.iS,bool v.now]
  refine zX {t:=mkT 190 0 [(2,int term),(10,.ref (.ptr 1 0)),(11,nq),(13,.ref (.mp 2)),(17,.ref (.ptr 3 0)),(19,ab cs),(20,.ref (.mp 6)),(21,.ref (.mp 7)),(102,ab ns),(103,int (↑(Hn ns):Int)),(104,int (Ht Hp ((↑i:Int)+1)))],h:=[.var [ab (Hl Hz w.c),ab w.p,ab (Hl HC w.s),ab (Hl Hv w.f)],.var [nq,int 0,int 0,int 0],.map (aQ 0 (bA sm n (HP (xF m1 m2) {aT:=n,tries:=0,iS := -1,now:=v.now} (a7 w n term known).2))) (Hn (bA sm n (HP (xF m1 m2) {aT:=n,tries:=0,iS := -1,now:=v.now} (a7 w n term known).2))),.var v1,.vec (ae (rdR (rs++(a7 w n term known).1))) 0 5,.var [int st,ab as_],.map (ar 0 m1) (Hn m1),.map (ar 0 m2) (Hn m2)],m:=[]} HA [.st (.mask [2,10,11,13,17,19,20,21,102,103,104]),.st (.ren 4 0),.st (.trimV 8)] [.b true,.row [vi n],.ov 111 v2,.call (ab (Hl (fun n=>[vi n]) (a7 w n term known).2)) (gf w known st term sm rs as_ m1 m2 n v),.sum [2,10,11,13,17,19,20,21,25,26,102,103,104,116,117,118] (HT 6) {t:=mkT 190 0 [(2,int term),(10,.ref (.ptr 1 0)),(11,nq),(13,.ref (.mp 2)),(17,.ref (.ptr 3 0)),(19,ab cs),(20,.ref (.mp 6)),(21,.ref (.mp 7)),(25,int n),(26,.ref (.ptr 8 0)),(102,ab ns),(103,int (↑(Hn ns):Int)),(104,int (↑i:Int))],h:=[.var (HI w),.var [nq,int 0,int 0,int 0],.map (aQ 0 sm) (Hn sm),.var v0,.vec (ae (rdR (rs++(a7 w n term known).1))) 1 5,.var [int st,ab as_],.map (ar 0 m1) (Hn m1),.map (ar 0 m2) (Hn m2),.var [int (HP (xF m1 m2) {aT:=n,tries:=0,iS := -1,now:=v.now} (a7 w n term known).2).aT,int (HP (xF m1 m2) {aT:=n,tries:=0,iS := -1,now:=v.now} (a7 w n term known).2).tries,int (HP (xF m1 m2) {aT:=n,tries:=0,iS := -1,now:=v.now} (a7 w n term known).2).iS,bool (HP (xF m1 m2) {aT:=n,tries:=0,iS := -1,now:=v.now} (a7 w n term known).2).now]],m:=[]},.b true,.oh 10145 D.any (siH w known st (bA sm n (HP (xF m1 m2) {aT:=n,tries:=0,iS := -1,now:=v.now} (a7 w n term known).2)) (rs++(a7 w n term known).1) 1 as_ m1 m2++[.var (Hl II (SeenT.row (HP (xF m1 m2) {aT:=n,tries:=0,iS := -1,now:=v.now} (a7 w n term known).2)))])] (.c iF (.c hr (.c (show ap Hm [.var (HI w),.var [nq,int 0,int 0,int 0],.map (aQ 0 sm) (Hn sm),.var v1,.vec (ae (rdR rs)) 0 5,.var [int st,ab as_],.map (ar 0 m1) (Hn m1),.map (ar 0 m2) (Hn m2)] 117 (.ref (.mp 2)) (int n) false=some v2 from ?_) (.c (show Ev Hm Γk 63 [.ref (.ptr 3 0),int n,int term] (gg w known st sm rs as_ m1 m2 n v) (ab (Hl (fun n=>[vi n]) (a7 w n term known).2)) (gf w known st term sm rs as_ m1 m2 n v) from(H4 (Ev.frameX (args:=[.ref (.ptr 3 0),int n,int term]) (H:=(gg w known st sm rs as_ m1 m2 n v)) [3,4] (@nZ w hw known n term hN rs ?_) (by kernel_rfl) (by kernel_rfl) (by kernel_rfl) ⟨(by subst v0 v1 v2;exact ai _ _),trivial⟩ ⟨(by subst v0 v1 v2;exact ai _ _),trivial⟩) (by kernel_rfl) (by kernel_rfl))) (.c N1 (.c oN (.c (show am Hm [.var (HI w),.var [nq,int 0,int 0,int 0],.map (aQ 0 sm) (Hn sm),.var v0,.vec (ae (rdR (rs++(a7 w n term known).1))) 1 5,.var [int st,ab as_],.map (ar 0 m1) (Hn m1),.map (ar 0 m2) (Hn m2),.var [int (HP (xF m1 m2) {aT:=n,tries:=0,iS := -1,now:=v.now} (a7 w n term known).2).aT,int (HP (xF m1 m2) {aT:=n,tries:=0,iS := -1,now:=v.now} (a7 w n term known).2).tries,int (HP (xF m1 m2) {aT:=n,tries:=0,iS := -1,now:=v.now} (a7 w n term known).2).iS,bool (HP (xF m1 m2) {aT:=n,tries:=0,iS := -1,now:=v.now} (a7 w n term known).2).now]] 117 (.ref (.mp 2)) (int n) (D.agg [int (HP (xF m1 m2) {aT:=n,tries:=0,iS := -1,now:=v.now} (a7 w n term known).2).aT,int (HP (xF m1 m2) {aT:=n,tries:=0,iS := -1,now:=v.now} (a7 w n term known).2).tries,int (HP (xF m1 m2) {aT:=n,tries:=0,iS := -1,now:=v.now} (a7 w n term known).2).iS,bool (HP (xF m1 m2) {aT:=n,tries:=0,iS := -1,now:=v.now} (a7 w n term known).2).now])=some [.var (HI w),.var [nq,int 0,int 0,int 0],.map (aQ 0 (bA sm n (HP (xF m1 m2) {aT:=n,tries:=0,iS := -1,now:=v.now} (a7 w n term known).2))) (Hn (bA sm n (HP (xF m1 m2) {aT:=n,tries:=0,iS := -1,now:=v.now} (a7 w n term known).2))),.var v0,.vec (ae (rdR (rs++(a7 w n term known).1))) 1 5,.var [int st,ab as_],.map (ar 0 m1) (Hn m1),.map (ar 0 m2) (Hn m2),.var [int (HP (xF m1 m2) {aT:=n,tries:=0,iS := -1,now:=v.now} (a7 w n term known).2).aT,int (HP (xF m1 m2) {aT:=n,tries:=0,iS := -1,now:=v.now} (a7 w n term known).2).tries,int (HP (xF m1 m2) {aT:=n,tries:=0,iS := -1,now:=v.now} (a7 w n term known).2).iS,bool (HP (xF m1 m2) {aT:=n,tries:=0,iS := -1,now:=v.now} (a7 w n term known).2).now]] from ?_) (.c (vM (rdR (rs++(a7 w n term known).1)) 4 1 0) (.c (show Hl (fun e=>(HO (al 4 1 0) e.1,HO (al 4 1 0) e.2.1,e.2.2)) (aQ 0 (bA sm n (HP (xF m1 m2) {aT:=n,tries:=0,iS := -1,now:=v.now} (a7 w n term known).2)))=aQ 0 (bA sm n (HP (xF m1 m2) {aT:=n,tries:=0,iS := -1,now:=v.now} (a7 w n term known).2)) from ?_) (.c (show Hl (fun e=>(HO (al 4 1 0) e.1,HO (al 4 1 0) e.2.1,e.2.2)) (ar 0 m1)=ar 0 m1 from ?_) (.c (show Hl (fun e=>(HO (al 4 1 0) e.1,HO (al 4 1 0) e.2.1,e.2.2)) (ar 0 m2)=ar 0 m2 from ?_) (.c (show HB 8 (match 0==4 with|true=>.vec (ae (rdR (rs++(a7 w n term known).1))) 0 5|false=>keepX (al 4 1 0) (.var (HI w)))=true from rfl) (.c (show HB 8 (match 0+1==4 with|true=>.vec (ae (rdR (rs++(a7 w n term known).1))) 0 5|false=>keepX (al 4 1 0) (.var [nq,int 0,int 0,int 0]))=true from rfl) (.c (show HB 8 (match 0+1+1==4 with|true=>.vec (ae (rdR (rs++(a7 w n term known).1))) 0 5|false=>keepX (al 4 1 0) (.map (aQ 0 (bA sm n (HP (xF m1 m2) {aT:=n,tries:=0,iS := -1,now:=v.now} (a7 w n term known).2))) (Hn (bA sm n (HP (xF m1 m2) {aT:=n,tries:=0,iS := -1,now:=v.now} (a7 w n term known).2)))))=true from ?_) (.c (show HB 8 (match 0+1+1+1==4 with|true=>.vec (ae (rdR (rs++(a7 w n term known).1))) 0 5|false=>keepX (al 4 1 0) (.var v0))=true from rfl) (.c (iV 8 (rdR (rs++(a7 w n term known).1)) 0 5) (.c (show HB 8 (match 0+1+1+1+1+1==4 with|true=>.vec (ae (rdR (rs++(a7 w n term known).1))) 0 5|false=>keepX (al 4 1 0) (.var [int st,ab as_]))=true from rfl) (.c (show HB 8 (match 0+1+1+1+1+1+1==4 with|true=>.vec (ae (rdR (rs++(a7 w n term known).1))) 0 5|false=>keepX (al 4 1 0) (.map (ar 0 m1) (Hn m1)))=true from ?_) (.c (show HB 8 (match 0+1+1+1+1+1+1+1==4 with|true=>.vec (ae (rdR (rs++(a7 w n term known).1))) 0 5|false=>keepX (al 4 1 0) (.map (ar 0 m2) (Hn m2)))=true from ?_) .n))))))))))))))))))) (by subst v0 v1 v2;rfl) (by subst v0 v1 v2;(subst hv;first|(have hh:Zd ((seenOf w known term m1 m2 sm n).tries>0)=true:=oN;simp only[Oy,nbF,hh,cond_true];first|done|rfl)|(have hh:Zd ((seenOf w known term m1 m2 sm n).tries>0)=false:=oN;simp only[Oy,nbF,hh,cond_false];first|done|rfl)))<;>subst v0 v1 v2<;>(first|omega|exact lkS2 rfl hv|exact upS2 rfl|exact eH|exact n3|exact cb _ _ _|exact bP _ _ _)
theorem GS{w:WorldT}{known st term:Int}{sm:SM}{rs:List ReadT}{cs as_ ns:List (List Dp)}{m1 m2:IM}{i:Nat}(iF:Zd ((i:Int)<(ns.length:Int))=false):(CW Hm Γk [] false (sub IR 2) (nbS w known st term sm rs cs as_ ns m1 m2 i) (.exit 4) (nbE w known st sm rs cs as_ m1 m2)):=by
 exact zx [.st (.mask [10,11,13,17,19])] [.b false] (.c iF .n)
theorem nb_cw{w:WorldT}(hw:w.ok){known st term:Int}(hN:(ad w.f known).length≤100){sm:SM}{rs:List ReadT}(hb:rs.length≤800000000){cs as_:List (List Dp)}{m1 m2:IM}:
  CW Hm Γk [] false (.loop (sub IR 2)) (nbS w known st term sm rs cs as_ ((ad w.f known).map fun n=>[vi n]) m1 m2 0) (.exit 4) (nbE w known st ((ad w.f known).foldl (nbF w known term m1 m2) (rs,sm)).2 ((ad w.f known).foldl (nbF w known term m1 m2) (rs,sm)).1 cs as_ m1 m2):=by
 have hl:af (ad w.f known):=by unfold af;omega
 have:=I7 (P:=Hm) (Γ:=Γk) (h0:=[]) (rd:=false) (c:=sub IR 2) (σ:=RSM) (ρ:=Empty) (ad w.f known) (fun n s=>.inl (nbF w known term m1 m2 s n))
  (fun i s=>nbS w known st term s.2 s.1 cs as_ ((ad w.f known).map fun n=>[vi n]) m1 m2 (i:Int)) (.exit 4) (fun s=>nbE w known st s.2 s.1 cs as_ m1 m2) (fun r=>r.elim) (fun i s=>s.1.length≤rs.length+i*1001001) (by simp) (fun r=>r.elim) ?_ ?_ (rs,sm) (by simp)
 ·rw[aC] at this
  exact this
 ·intro i n s hn hs
  have hi:=(Hs.1 hn).1
  have hq:=kq (w:=w) (c:=n) (term:=term) (known:=known) (by omega)
  refine⟨fun s' h=>by cases h;simp only[nbF,List.length_append];omega,nb_body hw (by omega) rfl (rowAt (row:=fun n=>[vi n]) hn rfl) (lt_len (fun n=>[vi n]) hi) (wrap_succ hi hl) (by omega) (by unfold af;omega)⟩
 ·intro s _
  exact GS (aJ (fun n=>[vi n]) _)
end Go.Vi
