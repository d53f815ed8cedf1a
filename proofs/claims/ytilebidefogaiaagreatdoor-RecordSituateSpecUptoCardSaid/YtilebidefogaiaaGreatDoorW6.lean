/- RecordSituateSpecUpto: part of the proof: contracts of the functions that the law reaches, and the law. No conditions beyond the given statement's own. -/
import Derived.Test.YtilebidefogaiaaGreatDoorW5
open Decidable renaming decide → Zd
open Go.Proofs.Tryz renaming prog → Hm, f31 → LG, f112 → Jy, f127 → Lk, f120 → Kz
open Go.Vi.AttT renaming row → Hq
open Go.IntKind renaming i64 → Hp, wrap → Ht
open Go.Exit renaming normal → HA, exit → HT, ret → IB
open Go.Vi.CW renaming each → I7
open List renaming getElem?_eq_some_iff → Hs, getElem?_eq_getElem → HH, map → Hl, getElem?_take_of_lt → KQ, getElem?_zip_eq_some → IZ, getElem?_zipIdx → JG, all → HJ, length → Hn, any_cons → Nm, any_eq_true → Mg, mem_iff_getElem? → Jf, foldl_cons → H7, mem_cons_of_mem → Iu, all_eq_true → HU, take → Ih, drop → IC, mem_map → HQ, all_append → Lw, length_cons → HY, drop_zero → La, contains → Ij, filter_cons → KZ, mergeSort → IA
open Bool renaming eq_iff_iff → JJ, or_eq_true → Ju, and_eq_true → Hx, not_true → Ka, false_or → KM, false_and → Ix, and_false → IG, and_self → Js, not_eq_true → Kb, true_and → Jb, false_eq_true → Ik, not_false → JU
open Go.Vi.D renaming p → II, tup → HV, mapR → HO, any → IK
open Go.Value renaming tuple → Ii, oneCell' → IJ
open Option renaming map_eq_some_iff → Hy, isSome_some → M1, getD_some → Jm
open Nat renaming zero_add → I3
open Go.Vi.Ev renaming castH → H4, nilW → Lx
open Int renaming toNat → Hw
open Go.Vi.CourseT renaming row → Hz
open Go.Vi.SysT renaming row → HC
open Go.Vi.FactT renaming row → Hv
open Go.Vi.WorldT renaming l → HI
open Go.Vi.Blk renaming Om → HB
open Go Go.Proofs
namespace Go.Vi
set_option maxRecDepth 100000
set_option maxHeartbeats 4000000
abbrev Cw(st:Int)(as_:List (List Dp))(i:Int):AS:={t:=mkT 52 0 [(1,.ref (.ptr 0 0)),(2,int 0),(3,int i)],h:=[.var [int st,ab as_]],m:=[]}
abbrev c16E:AS:={t:=mkT 52 0 [],h:=[],m:=[]}
abbrev c16R:AS:={t:=mkT 52 0 [(2,int 150)],h:=[],m:=[]}
abbrev c16X:Unit→Exit×AS:=fun _=>(.ret,c16R)
def ordW(b a:AttT):Bool:=Zd (b.term>a.term)||(b.term==a.term&&Zd (b.aT≥a.aT))
def Du(p:Option AttT×AttT)(_:Unit):Unit⊕Unit:=bif attB p.2 then (match p.1 with|none=>.inl ()|some b=>bif ordW b p.2 then .inr () else .inl ()) else .inr ()
noncomputable abbrev Ac(st:Int)(as_:List (List Dp))(a:AttT):List Blk:=[.var [int st,ab as_],.var [int a.aT,int a.term,int a.oR,int a.tO,int a.bY]]
theorem c16_b0{st:Int}{as_:List (List Dp)}{a:AttT}{v:Bool}(hr:aj 0 as_ a.row 5)(iF:Zd ((0:Int)<(as_.length:Int))=true)(hb:(!v)=false)(hv:∀h,Ev Hm Γ0 80 [ag a.row] h (bool v) h):(CW Hm Γ0 [] false (sub LG 0) (Cw st as_ 0) .normal (Cw st as_ 1)):=by
 exact zx [.st (.mask [1,2,3]),.st (.trim 1)] [.b true,.row (Hq a),.val (bool v),.b false,.b false] (.c iF (.c hr (.c (@hv (Ac st as_ a)) (.c hb (.c (show Zd (0>0)=false from rfl) .n)))))
noncomputable abbrev Ad(st:Int)(as_:List (List Dp))(a:AttT):List Blk:=[.var [int st,ab as_],.var [int a.aT,int a.term,int a.oR,int a.tO,int a.bY]]
theorem c16_bX{st:Int}{as_:List (List Dp)}{a:AttT}{v:Bool}{i:Nat}(hr:aj (i:Int) as_ a.row 5)(iF:Zd ((i:Int)<(as_.length:Int))=true)(hb:(!v)=true)(hv:∀h,Ev Hm Γ0 80 [ag a.row] h (bool v) h):(CW Hm Γ0 [] false (sub LG 0) (Cw st as_ i) .ret c16R):=by
 exact zx [.st (.mask [2]),.st (.trim 0)] [.b true,.row (Hq a),.val (bool v),.b true] (.c iF (.c hr (.c (@hv (Ad st as_ a)) (.c hb .n))))
noncomputable abbrev Ae(st:Int)(as_:List (List Dp))(a:AttT):List Blk:=[.var [int st,ab as_],.var [int a.aT,int a.term,int a.oR,int a.tO,int a.bY]]
theorem c16_b1{st:Int}{as_:List (List Dp)}{a b:AttT}{v:Bool}{i:Nat}(hr:aj ((i+1:Nat):Int) as_ a.row 5)(Qx:aj (Hp.wrap (((i+1:Nat):Int) - 1)) as_ b.row 5)(iF:Zd (((i+1:Nat):Int)<(as_.length:Int))=true)(hgt:Zd (((i+1:Nat):Int)>0)=true)(hw:Hp.wrap (((i+1:Nat):Int)+1)=((i+1+1:Nat):Int))(hb:(!v)=false)(ho:(Zd (b.term>a.term)||(b.term==a.term&&Zd (b.aT≥a.aT)))=false)(hv:∀h,Ev Hm Γ0 80 [ag a.row] h (bool v) h):(CW Hm Γ0 [] false (sub LG 0) (Cw st as_ ((i+1:Nat):Int)) .normal (Cw st as_ ((i+1+1:Nat):Int))):=by
 refine zX {t:=mkT 52 0 [(1,.ref (.ptr 0 0)),(2,int 0),(3,int (Ht Hp ((↑(i+1):Int)+1)))],h:=[.var [int st,ab as_]],m:=[]} HA [.st (.mask [1,2,3]),.st (.trim 1)] [.b true,.row (Hq a),.val (bool v),.b false,.b true,.row (Hq b),.b false] (.c iF (.c hr (.c (@hv (Ae st as_ a)) (.c hb (.c hgt (.c Qx (.c ho .n))))))) ?_ ?_<;>(first|rfl|(rw[hw]))
noncomputable abbrev wP(st:Int)(as_:List (List Dp))(a:AttT):List Blk:=[.var [int st,ab as_],.var [int a.aT,int a.term,int a.oR,int a.tO,int a.bY]]
theorem Gb{st:Int}{as_:List (List Dp)}{a b:AttT}{v:Bool}{i:Nat}(hr:aj ((i+1:Nat):Int) as_ a.row 5)(Qx:aj (Hp.wrap (((i+1:Nat):Int) - 1)) as_ b.row 5)(iF:Zd (((i+1:Nat):Int)<(as_.length:Int))=true)(hgt:Zd (((i+1:Nat):Int)>0)=true)(hb:(!v)=false)(ho:(Zd (b.term>a.term)||(b.term==a.term&&Zd (b.aT≥a.aT)))=true)(hv:∀h,Ev Hm Γ0 80 [ag a.row] h (bool v) h):(CW Hm Γ0 [] false (sub LG 0) (Cw st as_ ((i+1:Nat):Int)) .ret c16R):=by
 exact zx [.st (.mask [2]),.st (.trim 0)] [.b true,.row (Hq a),.val (bool v),.b false,.b true,.row (Hq b),.b true] (.c iF (.c hr (.c (@hv (wP st as_ a)) (.c hb (.c hgt (.c Qx (.c ho .n)))))))
theorem Cx{st:Int}{as_:List (List Dp)}{i:Nat}(iF:Zd ((i:Int)<(as_.length:Int))=false):(CW Hm Γ0 [] false (sub LG 0) (Cw st as_ i) (.exit 0) c16E):=by
 exact zx [.st (.mask []),.st (.trim 0)] [.b false] (.c iF .n)
def Af(l:List AttT):Exit×AS:=a8 (.exit 0) (fun _:Unit=>c16E) c16X (forL Du (jl l) ())
theorem c16_cw{st:Int}{l:List AttT}(hl:af l):
  CW Hm Γ0 [] false (.loop (sub LG 0)) (Cw st (l.map Hq) 0) (Af l).1 (Af l).2:=by
 have hlen:(jl l).length=l.length:=by simp[jl]
 refine I7 (jl l) Du (fun i _=>Cw st (l.map Hq) (i:Int)) (.exit 0) (fun _=>c16E) c16X (fun _ _=>True) (by simp) (fun _=>by simp[]) ?_ ?_ () trivial
 ·intro i p u hp _
  obtain⟨hi,he⟩:=Hs.1 hp
  rw[hlen] at hi
  have h2:l[i]? = some p.2:=by subst he;simp[jl,HH hi]
  refine⟨fun _ _=>trivial,?_⟩
  obtain⟨o,a⟩:=p
  have hv:=z8 a
  unfold Du
  simp only
  cases hb:attB a
  ·rw[hb] at hv
   exact c16_bX (rowAt h2 rfl) (lt_len Hq hi) rfl hv
  ·rw[hb] at hv
   cases i with
   | zero =>
    have ho:o=none:=by have:=congrArg Prod.fst he;simpa[jl] using this.symm
    subst ho
    exact c16_b0 (rowAt h2 rfl) (lt_len Hq hi) rfl hv
   | succ i =>
    have h1:l[i]? = some (l[i]'(by omega)):=HH _
    have ho:o=some (l[i]'(by omega)):=by have:=congrArg Prod.fst he;simpa[jl] using this.symm
    subst ho
    have Qx:aj (Hp.wrap (((i+1:Nat):Int) - 1)) (l.map Hq) (l[i]'(by omega)).row 5:=by
     have:Hp.wrap (((i+1:Nat):Int) - 1)=(i:Int):=by
      have:=hl;unfold af at this
      rw[wrap_i64 (by omega) (by omega)];omega
     rw[this]
     exact rowAt h1 rfl
    simp only[cond_true]
    cases hq:ordW (l[i]'(by omega)) a
    ·exact c16_b1 (rowAt h2 rfl) Qx (lt_len Hq hi) (decide_eq_true (by omega)) (wrap_succ hi hl) rfl hq hv
    ·exact Gb (rowAt h2 rfl) Qx (lt_len Hq hi) (decide_eq_true (by omega)) rfl hq hv
 ·intro u _
  rw[hlen]
  exact Cx (aJ Hq l)
def gc(r:RecT):Int:=bif !(Zd (r.st≥0)&&Zd (r.st≤19999)) then 150 else match forL Du (jl r.a) () with | .inl _=>0 | .inr _=>150
theorem wQ{r:RecT}(hl:af r.a)(h:List Blk):(Ev Hm Γ0 31 [.agg r.l] h (int (gc r)) h):=by
 cases dO:!(Zd (r.st≥0)&&Zd (r.st≤19999))
 ·have Oj:=(@c16_cw (r.st) (r.a) (hl))
  unfold Af at Oj
  revert Oj
  cases O1:forL Du (jl r.a) () with
  | inl o2_0_0 =>
   intro Oj
   exact zD (int 0) [.val (bool (Zd (r.st≥0)&&Zd (r.st≤19999))),.b false,.sum [1,2,3] (HT 0) {t:=mkT 52 0 [],h:=[],m:=[]}] (.c (@bn (r.st) 0 19999 ([.var [int r.st,ab (Hl Hq r.a)]])) (.c dO (.c Oj .n))) h (by simp only[gc,dO,O1,cond_false])
  | inr o2_1_0 =>
   intro Oj
   exact zD (int 150) [.val (bool (Zd (r.st≥0)&&Zd (r.st≤19999))),.b false,.sum [1,2,3] (IB) {t:=mkT 52 0 [(2,int 150)],h:=[],m:=[]}] (.c (@bn (r.st) 0 19999 ([.var [int r.st,ab (Hl Hq r.a)]])) (.c dO (.c Oj .n))) h (by simp only[gc,dO,O1,cond_false])
 ·exact zD (int 150) [.val (bool (Zd (r.st≥0)&&Zd (r.st≤19999))),.b true] (.c (@bn (r.st) 0 19999 ([.var [int r.st,ab (Hl Hq r.a)]])) (.c dO .n)) h (by simp only[gc,dO,cond_true])
theorem ord_W(b a:AttT):Zd (wG b a≥0)=ordW b a:=by
 have h:(ltOf wG) b a=false ↔ ¬(b.term<a.term∨(b.term=a.term∧b.aT<a.aT)):=lS b a
 unfold ltOf at h
 rw[decide_eq_false_iff_not] at h
 rw[JJ,decide_eq_true_eq]
 simp only[ordW,Ju,Hx,decide_eq_true_eq,beq_iff_eq]
 omega
theorem c16_rk(p:Option AttT×AttT):Du p ()=rkF p ():=by
 obtain⟨o,a⟩:=p
 have:wJ a=attB a:=rfl
 unfold Du rkF tq
 simp only[this]
 cases attB a
 ·rfl
 ·cases o with
  | none=>rfl
  | some b =>
   simp only[ord_W,cond_true,Ka,KM]
theorem wS(r:RecT):gc r=bF r:=by
 have e:Du=rkF:=by
  funext p u
  exact c16_rk p
 unfold gc bF
 rw[e]
 try rfl
def bet(a b:AttT)(kind k i:Int):Bool:=match kind==0 with
 | true=>match a.oR != b.oR with
  | true=>Zd (a.oR>b.oR)
  | false=>match a.term != b.term with
   | true=>Zd (a.term<b.term)
   | false=>Zd (k<i)
 | false=>match a.term != b.term with
  | true=>Zd (a.term>b.term)
  | false=>Zd (k>i)
theorem rU{as_:List (List Dp)}{a b:AttT}{kind k i:Int}(ha:aj k as_ a.row 5)(hb:aj i as_ b.row 5)(h:List Blk):(Ev Hm Γ0 160 [ab as_,int kind,int k,int i] h (bool (bet a b kind k i)) h):=by
 cases dO:kind==0
 ·cases oN:a.term != b.term
  ·exact zD (bool (Zd (k>i))) [.row (Hq a),.row (Hq b),.b false,.b false] (.c ha (.c hb (.c dO (.c oN .n)))) h (by simp only[bet,dO,oN];done)
  ·exact zD (bool (Zd (a.term>b.term))) [.row (Hq a),.row (Hq b),.b false,.b true] (.c ha (.c hb (.c dO (.c oN .n)))) h (by simp only[bet,dO,oN];done)
 ·cases oN:a.oR != b.oR
  ·cases Is:a.term != b.term
   ·exact zD (bool (Zd (k<i))) [.row (Hq a),.row (Hq b),.b true,.b false,.b false] (.c ha (.c hb (.c dO (.c oN (.c Is .n))))) h (by simp only[bet,dO,oN,Is];done)
   ·exact zD (bool (Zd (a.term<b.term))) [.row (Hq a),.row (Hq b),.b true,.b false,.b true] (.c ha (.c hb (.c dO (.c oN (.c Is .n))))) h (by simp only[bet,dO,oN,Is];done)
  ·exact zD (bool (Zd (a.oR>b.oR))) [.row (Hq a),.row (Hq b),.b true,.b true] (.c ha (.c hb (.c dO (.c oN .n)))) h (by simp only[bet,dO,oN];done)
abbrev kcS(as_ rp:List (List Dp))(i k:Int):AS:={t:=mkT 123 0 [(0,ab as_),(1,ab rp),(4,ay),(5,int 0),(7,int i),(8,int k)],h:=[],m:=[]}
abbrev kiS(as_ rp:List (List Dp))(i:Int):AS:={t:=mkT 123 0 [(0,ab as_),(1,ab rp),(4,ay),(5,int 0),(7,int i)],h:=[],m:=[]}
abbrev kiR:AS:={t:=mkT 123 0 [(4,ay),(5,int 1)],h:=[],m:=[]}
def clash(a b:AttT)(x y:Int):Bool:=a.aT==b.aT&&x != y
theorem Gc{as_ rp:List (List Dp)}{a b:AttT}{x y:Int}{i k:Nat}(ha:aj (i:Int) as_ a.row 5)(hb:aj (k:Int) as_ b.row 5)(hx:aj (i:Int) rp [vi x] 1)(hy:aj (k:Int) rp [vi y] 1)(iF:Zd ((k:Int)<(i:Int))=true)(hw:Hp.wrap ((k:Int)+1)=((k+1:Nat):Int))(hc:(a.aT==b.aT&&x != y)=false):(CW Hm Γ0 [] false (sub Jy 1) (kcS as_ rp i k) .normal (kcS as_ rp i ((k+1:Nat):Int))):=by
 cases dO:a.aT==b.aT
 ·refine zX {t:=mkT 123 0 [(0,ab as_),(1,ab rp),(4,nq),(5,int 0),(7,int (↑i:Int)),(8,int (Ht Hp ((↑k:Int)+1)))],h:=[],m:=[]} HA [.st (.mask [0,1,4,5,7,8])] [.b true,.row (Hq a),.row (Hq b),.g false,.g false,.g false,.g false,.g false,.g false,.g false,.g false,.g false,.ov 67 (bool false),.b false] (.c iF (.c ha (.c hb (.c (eqb dO) (.c (eqb dO) (.c (eqb dO) (.c (eqb dO) (.c (eqb dO) (.c (eqb dO) (.c (eqb dO) (.c (eqb dO) (.c (eqb dO) (.c (pkf (II (Dp.v (Ii {toList:=[]}))) (bool false) dO) (.er false .n)))))))))))))) ?_ ?_<;>(first|rfl|(rw[hw]))
 ·cases oN:x != y
  ·refine zX {t:=mkT 123 0 [(0,ab as_),(1,ab rp),(4,nq),(5,int 0),(7,int (↑i:Int)),(8,int (Ht Hp ((↑k:Int)+1)))],h:=[],m:=[]} HA [.st (.mask [0,1,4,5,7,8])] [.b true,.row (Hq a),.row (Hq b),.g true,.g true,.g true,.row [vi x],.g true,.g true,.g true,.g true,.row [vi y],.g true,.g true,.ov 67 (bool (x != y)),.b false] (.c iF (.c ha (.c hb (.c (eqa dO) (.c (eqa dO) (.c (eqa dO) (.c hx (.c (eqa dO) (.c (eqa dO) (.c (eqa dO) (.c (eqa dO) (.c hy (.c (eqa dO) (.c (eqa dO) (.c (pkt (bool (x != y)) (bool false) dO) (.c oN .n)))))))))))))))) ?_ ?_<;>(first|rfl|(rw[hw]))
  ·refine zX {t:=mkT 123 0 [(0,ab as_),(1,ab rp),(4,nq),(5,int 1),(7,int (↑i:Int)),(8,int (↑k:Int))],h:=[],m:=[]} IB [.st (.mask [0,1,4,5,7,8])] [.b true,.row (Hq a),.row (Hq b),.g true,.g true,.g true,.row [vi x],.g true,.g true,.g true,.g true,.row [vi y],.g true,.g true,.ov 67 (bool (x != y)),.b true] (.c iF (.c ha (.c hb (.c (eqa dO) (.c (eqa dO) (.c (eqa dO) (.c hx (.c (eqa dO) (.c (eqa dO) (.c (eqa dO) (.c (eqa dO) (.c hy (.c (eqa dO) (.c (eqa dO) (.c (pkt (bool (x != y)) (bool false) dO) (.c oN .n)))))))))))))))) ?_ ?_<;>(simp_all;done)
theorem Gd{as_ rp:List (List Dp)}{i:Nat}{k:Int}(iF:Zd (k<(i:Int))=false):(CW Hm Γ0 [] false (sub Jy 1) (kcS as_ rp i k) (.exit 2) (kiS as_ rp i)):=by
 exact zx [.st (.mask [0,1,4,5,7])] [.b false] (.c iF .n)
theorem Cy{as_ rp:List (List Dp)}{a b:AttT}{x y:Int}{i k:Nat}(ha:aj (i:Int) as_ a.row 5)(hb:aj (k:Int) as_ b.row 5)(hx:aj (i:Int) rp [vi x] 1)(hy:aj (k:Int) rp [vi y] 1)(iF:Zd ((k:Int)<(i:Int))=true)(oN:(a.aT==b.aT)=true)(Is:(x != y)=true):(CW Hm Γ0 [] false (sub Jy 1) (kcS as_ rp i k) .ret kiR):=by
 refine zX {t:=mkT 123 0 [(4,nq),(5,int 1)],h:=[],m:=[]} IB [.st (.mask [4,5])] [.b true,.row (Hq a),.row (Hq b),.g true,.g true,.g true,.row [vi x],.g true,.g true,.g true,.g true,.row [vi y],.g true,.g true,.ov 67 (bool (x != y)),.b true] (.c iF (.c ha (.c hb (.c (eqa oN) (.c (eqa oN) (.c (eqa oN) (.c hx (.c (eqa oN) (.c (eqa oN) (.c (eqa oN) (.c (eqa oN) (.c hy (.c (eqa oN) (.c (eqa oN) (.c (pkt (bool (x != y)) (bool false) oN) (.c Is .n)))))))))))))))) ?_ ?_<;>(rfl)
abbrev kcX:Unit→Exit×AS:=fun _=>(.ret,kiR)
def kcF(a:AttT)(x:Int)(p:AttT×Int)(_:Unit):Unit⊕Unit:=bif clash a p.1 x p.2 then .inr () else .inl ()
def kcR(l:List AttT)(rp:List Int)(i:Nat)(a:AttT)(x:Int):Unit⊕Unit:=forL (kcF a x) ((l.zip rp).take i) ()
def Ge(l:List AttT)(rp:List Int)(i:Nat)(a:AttT)(x:Int):Exit×AS:=a8 (.exit 2) (fun _:Unit=>kiS (l.map Hq) (rp.map fun n=>[vi n]) (i:Int)) kcX (kcR l rp i a x)
theorem kc_cw{l:List AttT}{rp:List Int}(hl:af l)(hlen:rp.length=l.length){i:Nat}{a:AttT}{x:Int}(ha:l[i]? = some a)(hx:rp[i]? = some x):
  CW Hm Γ0 [] false (.loop (sub Jy 1)) (kcS (l.map Hq) (rp.map fun n=>[vi n]) (i:Int) 0) (Ge l rp i a x).1 (Ge l rp i a x).2:=by
 have hi:=(Hs.1 ha).1
 have O6:((l.zip rp).take i).length=i:=by simp;omega
 refine I7 ((l.zip rp).take i) (kcF a x) (fun k _=>kcS (l.map Hq) (rp.map fun n=>[vi n]) (i:Int) (k:Int)) (.exit 2) (fun _=>kiS (l.map Hq) (rp.map fun n=>[vi n]) (i:Int)) kcX (fun _ _=>True) (by simp) (fun _=>by simp[]) ?_ ?_ () trivial
 ·intro k p _ hk _
  obtain⟨b,y⟩:=p
  have Pz:=(Hs.1 hk).1
  rw[O6] at Pz
  rw[KQ Pz] at hk
  obtain⟨hb,hy⟩:=IZ.1 hk
  simp only at hb hy
  refine⟨fun _ _=>trivial,?_⟩
  unfold kcF
  cases hc:clash a b x y
  ·exact Gc (rowAt ha rfl) (rowAt hb rfl) (rowAt (row:=fun n=>[vi n]) hx rfl) (rowAt (row:=fun n=>[vi n]) hy rfl) (decide_eq_true (by omega)) (wrap_succ (by omega) hl) hc
  ·have h2:=hc
   unfold clash at h2
   rw[Hx] at h2
   exact Cy (rowAt ha rfl) (rowAt hb rfl) (rowAt (row:=fun n=>[vi n]) hx rfl) (rowAt (row:=fun n=>[vi n]) hy rfl) (decide_eq_true (by omega)) h2.1 h2.2
 ·intro _ _
  rw[O6]
  exact Gd (decide_eq_false (by omega))
def koF(l:List AttT)(rp:List Int)(p:(AttT×Int)×Nat)(_:Unit):Unit⊕Unit:=bif (Zd (p.1.2<0)||Zd (p.1.2>2)) then .inr () else kcR l rp p.2 p.1.1 p.1.2
theorem Gf{l:List AttT}{rp:List Int}(hl:af l)(hlen:rp.length=l.length){i:Nat}{a:AttT}{x:Int}(ha:l[i]? = some a)(hx:rp[i]? = some x)(hr:aj (i:Int) (l.map Hq) a.row 5)(Qx:aj (i:Int) (rp.map fun n=>[vi n]) [vi x] 1)(iF:Zd ((i:Int)<((l.map Hq).length:Int))=true)(hw:Hp.wrap ((i:Int)+1)=((i+1:Nat):Int)):(CW Hm Γ0 [] false (sub Jy 0) (kiS (l.map Hq) (rp.map fun n=>[vi n]) (i:Int)) (ah (fun _:Unit=>kiS (l.map Hq) (rp.map fun n=>[vi n]) ((i+1:Nat):Int)) kcX (koF l rp ((a,x),i) ())).1 (ah (fun _:Unit=>kiS (l.map Hq) (rp.map fun n=>[vi n]) ((i+1:Nat):Int)) kcX (koF l rp ((a,x),i) ())).2):=by
 cases dO:Zd (x<0)||Zd (x>2)
 ·have Oj:=(@kc_cw (l) (rp) (hl) (hlen) (i) (a) (x) (ha) (hx))
  unfold Ge at Oj
  revert Oj
  cases O1:kcR l rp i a x with
  | inl o2_0_0 =>
   intro Oj
   refine zX {t:=mkT 123 0 [(0,ab (Hl Hq l)),(1,ab (Hl (fun n=>[vi n]) rp)),(4,nq),(5,int 0),(7,int (Ht Hp ((↑i:Int)+1)))],h:=[],m:=[]} HA [.st (.mask [0,1,4,5,7])] [.b true,.row [vi x],.row [vi x],.b false,.sum [0,1,4,5,7,8] (HT 2) {t:=mkT 123 0 [(0,ab (Hl Hq l)),(1,ab (Hl (fun n=>[vi n]) rp)),(4,nq),(5,int 0),(7,int (↑i:Int))],h:=[],m:=[]}] (.c iF (.c Qx (.c (show(!Zd (x<0))=true→aj (↑i:Int) (Hl (fun n=>[vi n]) rp) [vi x] 1 from(fun hg=>Qx)) (.c dO (.c Oj .n))))) ?_ ?_<;>(simp only[koF,dO,O1,cond_false];first|rfl|(rw[hw];rfl))
  | inr o2_1_0 =>
   intro Oj
   refine zX {t:=mkT 123 0 [(4,nq),(5,int 1)],h:=[],m:=[]} IB [.st (.mask [4,5])] [.b true,.row [vi x],.row [vi x],.b false,.sum [0,1,4,5,7,8] (IB) {t:=mkT 123 0 [(4,nq),(5,int 1)],h:=[],m:=[]}] (.c iF (.c Qx (.c (show(!Zd (x<0))=true→aj (↑i:Int) (Hl (fun n=>[vi n]) rp) [vi x] 1 from(fun hg=>Qx)) (.c dO (.c Oj .n))))) ?_ ?_<;>(simp only[koF,dO,O1,cond_false];rfl)
 ·refine zX {t:=mkT 123 0 [(4,nq),(5,int 1)],h:=[],m:=[]} IB [.st (.mask [4,5])] [.b true,.row [vi x],.row [vi x],.b true] (.c iF (.c Qx (.c (show(!Zd (x<0))=true→aj (↑i:Int) (Hl (fun n=>[vi n]) rp) [vi x] 1 from(fun hg=>Qx)) (.c dO .n)))) ?_ ?_<;>(simp only[koF,dO,cond_true];rfl)
theorem Gg{as_ rp:List (List Dp)}{i:Nat}(iF:Zd ((i:Int)<(as_.length:Int))=false):(CW Hm Γ0 [] false (sub Jy 0) (kiS as_ rp i) (.exit 0) {t:=mkT 123 0 [(0,ab as_),(1,ab rp),(4,ay),(5,int 0)],h:=[],m:=[]}):=by
 exact zx [.st (.mask [0,1,4,5])] [.b false] (.c iF .n)
def koR(l:List AttT)(rp:List Int):Unit⊕Unit:=forL (koF l rp) (l.zip rp).zipIdx ()
def Gh(l:List AttT)(rp:List Int):Exit×AS:=a8 (.exit 0) (fun _:Unit=>{t:=mkT 123 0 [(0,ab (l.map Hq)),(1,ab (rp.map fun n=>[vi n])),(4,ay),(5,int 0)],h:=[],m:=[]}) kcX (koR l rp)
theorem ko_cw{l:List AttT}{rp:List Int}(hl:af l)(hlen:rp.length=l.length):
  CW Hm Γ0 [] false (.loop (sub Jy 0)) (kiS (l.map Hq) (rp.map fun n=>[vi n]) 0) (Gh l rp).1 (Gh l rp).2:=by
 have O6:(l.zip rp).zipIdx.length=l.length:=by simp;omega
 refine I7 (l.zip rp).zipIdx (koF l rp) (fun i _=>kiS (l.map Hq) (rp.map fun n=>[vi n]) (i:Int)) (.exit 0) (fun _=>{t:=mkT 123 0 [(0,ab (l.map Hq)),(1,ab (rp.map fun n=>[vi n])),(4,ay),(5,int 0)],h:=[],m:=[]}) kcX (fun _ _=>True) (by simp) (fun _=>by simp[]) ?_ ?_ () trivial
 ·intro i p _ hp _
  have hi:=(Hs.1 hp).1
  rw[O6] at hi
  rw[JG] at hp
  obtain⟨q,hq,rfl⟩:=Hy.1 hp
  obtain⟨a,x⟩:=q
  obtain⟨ha,hx⟩:=IZ.1 hq
  simp only[I3] at ha hx ⊢
  exact⟨fun _ _=>trivial,Gf hl hlen ha hx (rowAt ha rfl) (rowAt (row:=fun n=>[vi n]) hx rfl) (lt_len Hq hi) (wrap_succ hi hl)⟩
 ·intro _ _
  rw[O6]
  exact Gg (aJ Hq l)
abbrev kdS(as_ rp:List (List Dp))(v:List (List D))(i:Int)(c:Bool)(k:Int):AS:={t:=mkT 123 0 [(0,ab as_),(1,ab rp),(4,ay),(5,int 0),(9,.ref (.vec 0 0)),(10,int i),(11,bool c),(12,int k)],h:=[.vec v 0 5],m:=[]}
abbrev kdE(as_ rp:List (List Dp))(v:List (List D))(i:Int)(c:Bool):AS:={t:=mkT 123 0 [(0,ab as_),(1,ab rp),(4,ay),(5,int 0),(9,.ref (.vec 0 0)),(10,int i),(11,bool c)],h:=[.vec v 0 5],m:=[]}
def outBy(a b:AttT)(x:Int)(k i:Int):Bool:=k != i&&x != 2&&b.aT==a.aT&&bet b a x k i
theorem Gi{as_ rp:List (List Dp)}{v:List (List D)}{a b:AttT}{x:Int}{c:Bool}{i k:Nat}(ha:aj (i:Int) as_ a.row 5)(hb:aj (k:Int) as_ b.row 5)(hx:aj (i:Int) rp [vi x] 1)(iF:Zd ((k:Int)<(as_.length:Int))=true)(hw:Hp.wrap ((k:Int)+1)=((k+1:Nat):Int)):(CW Hm Γ0 [] false (sub Jy 3) (kdS as_ rp v i c k) .normal (kdS as_ rp v i (bif outBy a b x k i then false else c) ((k+1:Nat):Int))):=by
 cases dO:(↑k:Int) != (↑i:Int)
 ·let v0:=II (Dp.v (Ii {toList:=[]}))
  refine zX {t:=mkT 123 0 [(0,ab as_),(1,ab rp),(4,nq),(5,int 0),(9,.ref (.vec 0 0)),(10,int (↑i:Int)),(11,bool c),(12,int (Ht Hp ((↑k:Int)+1)))],h:=[.vec v 0 5],m:=[]} HA [.st (.mask [0,1,4,5,9,10,11,12])] [.b true,.g false,.g false,.g false,.g false,.g false,.ov 90 (bool false),.g false,.g false,.g false,.g false,.g false,.g false,.g false,.g false,.g false,.g false,.g false,.ov 103 (bool false),.g false,.g false,.g false,.g false,.g false,.g false,.g false,.g false,.ov 113 (bool false),.b false] (.c iF (.c (eqb dO) (.c (eqb dO) (.c (eqb dO) (.c (eqb dO) (.c (eqb dO) (.c (pkf v0 (bool false) dO) (.f (.f (.f (.f (.f (.f (.f (.f (.f (.f (.f (.c (pkf v0 (bool false) rfl) (.f (.f (.f (.f (.f (.f (.f (.f (.c (pkf v0 (bool false) rfl) (.er false .n))))))))))))))))))))))))))))) ?_ ?_<;>(subst v0;simp only[outBy,hw,dO,Ix,cond_false];done)
 ·cases oN:x != 2
  ·refine zX {t:=mkT 123 0 [(0,ab as_),(1,ab rp),(4,nq),(5,int 0),(9,.ref (.vec 0 0)),(10,int (↑i:Int)),(11,bool c),(12,int (Ht Hp ((↑k:Int)+1)))],h:=[.vec v 0 5],m:=[]} HA [.st (.mask [0,1,4,5,9,10,11,12])] [.b true,.g true,.g true,.g true,.row [vi x],.g true,.g true,.ov 90 (bool (x != 2)),.g false,.g false,.g false,.g false,.g false,.g false,.g false,.g false,.g false,.g false,.g false,.ov 103 (bool false),.g false,.g false,.g false,.g false,.g false,.g false,.g false,.g false,.ov 113 (bool false),.b false] (.c iF (.c (eqa dO) (.c (eqa dO) (.c (eqa dO) (.c hx (.c (eqa dO) (.c (eqa dO) (.c (pkt (bool (x != 2)) (bool false) dO) (.c (eqb oN) (.c (eqb oN) (.c (eqb oN) (.c (eqb oN) (.c (eqb oN) (.c (eqb oN) (.c (eqb oN) (.c (eqb oN) (.c (eqb oN) (.c (eqb oN) (.c (eqb oN) (.c (pkf (II (Dp.v (Ii {toList:=[]}))) (bool false) oN) (.f (.f (.f (.f (.f (.f (.f (.f (.c (pkf (II (Dp.v (Ii {toList:=[]}))) (bool false) rfl) (.er false .n)))))))))))))))))))))))))))))) ?_ ?_<;>(simp only[outBy,hw,dO,oN,IG,Ix,cond_false];done)
  ·cases Is:b.aT==a.aT
   ·refine zX {t:=mkT 123 0 [(0,ab as_),(1,ab rp),(4,nq),(5,int 0),(9,.ref (.vec 0 0)),(10,int (↑i:Int)),(11,bool c),(12,int (Ht Hp ((↑k:Int)+1)))],h:=[.vec v 0 5],m:=[]} HA [.st (.mask [0,1,4,5,9,10,11,12])] [.b true,.g true,.g true,.g true,.row [vi x],.g true,.g true,.ov 90 (bool (x != 2)),.g true,.g true,.g true,.row (Hq b),.g true,.g true,.g true,.g true,.g true,.row (Hq a),.g true,.g true,.g true,.ov 103 (bool (b.aT==a.aT)),.g false,.g false,.g false,.g false,.g false,.g false,.g false,.g false,.ov 113 (bool false),.b false] (.c iF (.c (eqa dO) (.c (eqa dO) (.c (eqa dO) (.c hx (.c (eqa dO) (.c (eqa dO) (.c (pkt (bool (x != 2)) (bool false) dO) (.c (eqa oN) (.c (eqa oN) (.c (eqa oN) (.c hb (.c (eqa oN) (.c (eqa oN) (.c (eqa oN) (.c (eqa oN) (.c (eqa oN) (.c ha (.c (eqa oN) (.c (eqa oN) (.c (eqa oN) (.c (pkt (bool (b.aT==a.aT)) (bool false) oN) (.c (eqb Is) (.c (eqb Is) (.c (eqb Is) (.c (eqb Is) (.c (eqb Is) (.c (eqb Is) (.c (eqb Is) (.c (eqb Is) (.c (pkf (II (Dp.v (Ii {toList:=[]}))) (bool false) Is) (.er false .n)))))))))))))))))))))))))))))))) ?_ ?_<;>(simp only[outBy,hw,dO,oN,Is,IG,Ix,Js,cond_false];done)
   ·cases N7:bet b a x (↑k:Int) (↑i:Int)
    ·refine zX {t:=mkT 123 0 [(0,ab as_),(1,ab rp),(4,nq),(5,int 0),(9,.ref (.vec 0 0)),(10,int (↑i:Int)),(11,bool c),(12,int (Ht Hp ((↑k:Int)+1)))],h:=[.vec v 0 5],m:=[]} HA [.st (.mask [0,1,4,5,9,10,11,12])] [.b true,.g true,.g true,.g true,.row [vi x],.g true,.g true,.ov 90 (bool (x != 2)),.g true,.g true,.g true,.row (Hq b),.g true,.g true,.g true,.g true,.g true,.row (Hq a),.g true,.g true,.g true,.ov 103 (bool (b.aT==a.aT)),.g true,.g true,.g true,.g true,.row [vi x],.g true,.g true,.g true,.g true,.val (bool (bet b a x (↑k:Int) (↑i:Int))),.ov 113 (bool (bet b a x (↑k:Int) (↑i:Int))),.b false] (.c iF (.c (eqa dO) (.c (eqa dO) (.c (eqa dO) (.c hx (.c (eqa dO) (.c (eqa dO) (.c (pkt (bool (x != 2)) (bool false) dO) (.c (eqa oN) (.c (eqa oN) (.c (eqa oN) (.c hb (.c (eqa oN) (.c (eqa oN) (.c (eqa oN) (.c (eqa oN) (.c (eqa oN) (.c ha (.c (eqa oN) (.c (eqa oN) (.c (eqa oN) (.c (pkt (bool (b.aT==a.aT)) (bool false) oN) (.c (eqa Is) (.c (eqa Is) (.c (eqa Is) (.c (eqa Is) (.c hx (.c (eqa Is) (.c (eqa Is) (.c (eqa Is) (.c (eqa Is) (.c (@rU as_ b a x (↑k:Int) (↑i:Int) hb ha ([.vec v 0 5])) (.c (pkt (bool (bet b a x (↑k:Int) (↑i:Int))) (bool false) Is) (.c N7 .n)))))))))))))))))))))))))))))))))) ?_ ?_<;>(simp only[outBy,hw,dO,oN,Is,N7,IG,Js,cond_false];done)
    ·refine zX {t:=mkT 123 0 [(0,ab as_),(1,ab rp),(4,nq),(5,int 0),(9,.ref (.vec 0 0)),(10,int (↑i:Int)),(11,bool false),(12,int (Ht Hp ((↑k:Int)+1)))],h:=[.vec v 0 5],m:=[]} HA [.st (.mask [0,1,4,5,9,10,11,12])] [.b true,.g true,.g true,.g true,.row [vi x],.g true,.g true,.ov 90 (bool (x != 2)),.g true,.g true,.g true,.row (Hq b),.g true,.g true,.g true,.g true,.g true,.row (Hq a),.g true,.g true,.g true,.ov 103 (bool (b.aT==a.aT)),.g true,.g true,.g true,.g true,.row [vi x],.g true,.g true,.g true,.g true,.val (bool (bet b a x (↑k:Int) (↑i:Int))),.ov 113 (bool (bet b a x (↑k:Int) (↑i:Int))),.b true] (.c iF (.c (eqa dO) (.c (eqa dO) (.c (eqa dO) (.c hx (.c (eqa dO) (.c (eqa dO) (.c (pkt (bool (x != 2)) (bool false) dO) (.c (eqa oN) (.c (eqa oN) (.c (eqa oN) (.c hb (.c (eqa oN) (.c (eqa oN) (.c (eqa oN) (.c (eqa oN) (.c (eqa oN) (.c ha (.c (eqa oN) (.c (eqa oN) (.c (eqa oN) (.c (pkt (bool (b.aT==a.aT)) (bool false) oN) (.c (eqa Is) (.c (eqa Is) (.c (eqa Is) (.c (eqa Is) (.c hx (.c (eqa Is) (.c (eqa Is) (.c (eqa Is) (.c (eqa Is) (.c (@rU as_ b a x (↑k:Int) (↑i:Int) hb ha ([.vec v 0 5])) (.c (pkt (bool (bet b a x (↑k:Int) (↑i:Int))) (bool false) Is) (.c N7 .n)))))))))))))))))))))))))))))))))) ?_ ?_<;>(simp only[outBy,hw,dO,oN,Is,N7,Js,cond_true];done)
theorem Gj{as_ rp:List (List Dp)}{v:List (List D)}{c:Bool}{i k:Nat}(iF:Zd ((k:Int)<(as_.length:Int))=false):(CW Hm Γ0 [] false (sub Jy 3) (kdS as_ rp v i c k) (.exit 6) (kdE as_ rp v i c)):=by
 exact zx [.st (.mask [0,1,4,5,9,10,11])] [.b false] (.c iF .n)
def kdG(a:AttT)(x:Int)(i:Nat)(c:Bool)(p:AttT×Nat):Bool:=bif outBy a p.1 x (p.2:Int) (i:Int) then false else c
def stays(l:List AttT)(a:AttT)(x:Int)(i:Nat):Bool:=l.zipIdx.foldl (kdG a x i) true
theorem kd_cw{l:List AttT}{rp:List Int}(hl:af l){v:List (List D)}{i:Nat}{a:AttT}{x:Int}(ha:l[i]? = some a)(hx:rp[i]? = some x):
  CW Hm Γ0 [] false (.loop (sub Jy 3)) (kdS (l.map Hq) (rp.map fun n=>[vi n]) v (i:Int) true 0) (.exit 6) (kdE (l.map Hq) (rp.map fun n=>[vi n]) v (i:Int) (stays l a x i)):=by
 have O6:l.zipIdx.length=l.length:=by simp
 have key:=I7 (P:=Hm) (Γ:=Γ0) (h0:=[]) (rd:=false) (c:=sub Jy 3) (σ:=Bool) (ρ:=Empty) l.zipIdx (fun p c=>.inl (kdG a x i c p))
  (fun k c=>kdS (l.map Hq) (rp.map fun n=>[vi n]) v (i:Int) c (k:Int)) (.exit 6) (fun c=>kdE (l.map Hq) (rp.map fun n=>[vi n]) v (i:Int) c) (fun r=>r.elim) (fun _ _=>True) (by simp) (fun r=>r.elim) ?_ ?_ true trivial
 ·rw[aC] at key
  exact key
 ·intro k p c hp _
  have hk:=(Hs.1 hp).1
  rw[O6] at hk
  rw[JG] at hp
  obtain⟨b,hb,rfl⟩:=Hy.1 hp
  refine⟨fun _ _=>trivial,?_⟩
  have:=Gi (v:=v) (c:=c) (rowAt ha rfl) (rowAt hb rfl) (rowAt (row:=fun n=>[vi n]) hx rfl) (lt_len Hq hk) (wrap_succ hk hl)
  simp only[kdG,I3]
  exact this
 ·intro c _
  rw[O6]
  exact Gj (aJ Hq l)
abbrev keS(as_ rp:List (List Dp))(out:List AttT)(i:Int):AS:={t:=mkT 123 0 [(0,ab as_),(1,ab rp),(4,ay),(5,int 0),(9,.ref (.vec 0 0)),(10,int i)],h:=[.vec (ae (out.map Hq)) 0 5],m:=[]}
def keF(l:List AttT)(p:(AttT×Int)×Nat)(out:List AttT):List AttT:=bif stays l p.1.1 p.1.2 p.2 then out++[p.1.1] else out
theorem Gk{l:List AttT}{rp:List Int}(hl:af l){out:List AttT}{i:Nat}{a:AttT}{x:Int}(ha:l[i]? = some a)(hx:rp[i]? = some x)(hr:aj (i:Int) (l.map Hq) a.row 5)(iF:Zd ((i:Int)<((l.map Hq).length:Int))=true)(hw:Hp.wrap ((i:Int)+1)=((i+1:Nat):Int))(ho:out.length≤1000000000):(CW Hm Γ0 [] false (sub Jy 2) (keS (l.map Hq) (rp.map fun n=>[vi n]) out i) .normal (keS (l.map Hq) (rp.map fun n=>[vi n]) (keF l ((a,x),i) out) ((i+1:Nat):Int))):=by
 have N1:=(@kd_cw (l) (rp) (hl) (ae (Hl Hq out)) (i) (a) (x) (ha) (hx))
 cases oN:stays l a x i
 ·refine zX {t:=mkT 123 0 [(0,ab (Hl Hq l)),(1,ab (Hl (fun n=>[vi n]) rp)),(4,nq),(5,int 0),(9,.ref (.vec 0 0)),(10,int (Ht Hp ((↑i:Int)+1)))],h:=[.vec (ae (Hl Hq out)) 0 5],m:=[]} HA [.st (.mask [0,1,4,5,9,10]),.st (.ren 0 0),.st (.trimV 1)] [.b true,.sum [0,1,4,5,9,10,11,12] (HT 6) {t:=mkT 123 0 [(0,ab (Hl Hq l)),(1,ab (Hl (fun n=>[vi n]) rp)),(4,nq),(5,int 0),(9,.ref (.vec 0 0)),(10,int (↑i:Int)),(11,bool (stays l a x i))],h:=[.vec (ae (Hl Hq out)) 0 5],m:=[]},.b false] (.c iF (.c N1 (.c oN (.c (vM (Hl Hq out) 0 0 0) (.c (iV 1 (Hl Hq out) 0 5) .n))))) ?_ ?_<;>(have hh:stays l a x i=false:=oN;simp only[keF,hh,cond_false,hw];first|done|rfl)
 ·let v0:List D:=[int a.aT,int a.term,int a.oR,int a.tO,int a.bY]
  refine zX {t:=mkT 123 0 [(0,ab (Hl Hq l)),(1,ab (Hl (fun n=>[vi n]) rp)),(4,nq),(5,int 0),(9,.ref (.vec 0 0)),(10,int (Ht Hp ((↑i:Int)+1)))],h:=[.vec (ae (Hl Hq out)++[v0]) 0 5],m:=[]} HA [.st (.mask [0,1,4,5,9,10]),.st (.ren 0 0),.st (.trimV 1)] [.b true,.sum [0,1,4,5,9,10,11,12] (HT 6) {t:=mkT 123 0 [(0,ab (Hl Hq l)),(1,ab (Hl (fun n=>[vi n]) rp)),(4,nq),(5,int 0),(9,.ref (.vec 0 0)),(10,int (↑i:Int)),(11,bool (stays l a x i))],h:=[.vec (ae (Hl Hq out)) 0 5],m:=[]},.b true,.row (Hq a)] (.c iF (.c N1 (.c oN (.c hr (.c (show(HJ [v0] (aG 5)&&roomOk (Hn (ae (Hl Hq out))+Hn [v0]) 40)=true from ?_) (.c (vMa (Hl Hq out) [v0] 0 1 0) (.er [v0] (.c (iVa 1 (Hl Hq out) [v0] 0 5) .n)))))))) (by subst v0;(have hh:stays l a x i=true:=oN;simp only[];first|done|rfl)) (by subst v0;(have hh:stays l a x i=true:=oN;simp only[keF,hh,cond_true,hw,tk];first|done|rfl))<;>subst v0<;>(simp[aG,D.one,IJ,roomOk];omega)
theorem Gl{as_ rp:List (List Dp)}{out:List AttT}{i:Nat}(iF:Zd ((i:Int)<(as_.length:Int))=false):(CW Hm Γ0 [] false (sub Jy 2) (keS as_ rp out i) (.exit 4) {t:=mkT 123 0 [(4,ay),(5,int 0),(9,.ref (.vec 0 0))],h:=[.vec (ae (out.map Hq)) 0 5],m:=[]}):=by
 exact zx [.st (.mask [4,5,9])] [.b false] (.c iF .n)
def Cz(l:List AttT)(rp:List Int):List AttT:=(l.zip rp).zipIdx.foldl (fun out p=>keF l p out) []
theorem ke_cw{l:List AttT}{rp:List Int}(hl:l.length≤900000000)(hlen:rp.length=l.length):
  CW Hm Γ0 [] false (.loop (sub Jy 2)) (keS (l.map Hq) (rp.map fun n=>[vi n]) [] 0) (.exit 4) {t:=mkT 123 0 [(4,ay),(5,int 0),(9,.ref (.vec 0 0))],h:=[.vec (ae ((Cz l rp).map Hq)) 0 5],m:=[]}:=by
 have hs:af l:=by unfold af;omega
 have O6:(l.zip rp).zipIdx.length=l.length:=by simp;omega
 have key:=I7 (P:=Hm) (Γ:=Γ0) (h0:=[]) (rd:=false) (c:=sub Jy 2) (σ:=List AttT) (ρ:=Empty) (l.zip rp).zipIdx (fun p out=>.inl (keF l p out))
  (fun i out=>keS (l.map Hq) (rp.map fun n=>[vi n]) out (i:Int)) (.exit 4) (fun out=>{t:=mkT 123 0 [(4,ay),(5,int 0),(9,.ref (.vec 0 0))],h:=[.vec (ae (out.map Hq)) 0 5],m:=[]}) (fun r=>r.elim) (fun i out=>out.length≤i) (by simp) (fun r=>r.elim) ?_ ?_ [] (by simp)
 ·rw[aC] at key
  exact key
 ·intro i p out hp hout
  have hi:=(Hs.1 hp).1
  rw[O6] at hi
  rw[JG] at hp
  obtain⟨q,hq,rfl⟩:=Hy.1 hp
  obtain⟨a,x⟩:=q
  obtain⟨ha,hx⟩:=IZ.1 hq
  simp only at ha hx
  refine⟨fun s' h=>?_,?_⟩
  ·cases h
   unfold keF
   cases stays l a x (0+i)<;>simp<;>omega
  ·have:=Gk hs ha hx (rowAt ha rfl) (lt_len Hq hi) (wrap_succ hi hs) (out:=out) (by omega)
   simp only[I3]
   exact this
 ·intro out _
  rw[O6]
  exact Gl (aJ Hq l)
def jW(l:List AttT)(rp:List Int):List AttT×Int:=match bQ l != 0 with
 | true=>([],bQ l)
 | false=>match ((rp.map fun n=>[vi n]).length:Int) != ((l.map Hq).length:Int) with
  | true=>([],1)
  | false=>match koR l rp with
   | .inr _=>([],1)
   | .inl _=>(Cz l rp,0)
theorem Gm{l:List AttT}{rp:List Int}(hl:l.length≤900000000)(hs:af l)(hlen:rp.length=l.length)(R6:∀h,Ev Hm Γ0 130 [ab (l.map Hq)] h (int (bQ l)) h)(h:List Blk):(Ev Hm Γ0 112 [ab (l.map Hq),ab (rp.map fun n=>[vi n])] h (.tup [ab ((jW l rp).1.map Hq),int (jW l rp).2]) h):=by
 cases dO:bQ l != 0
 ·cases oN:(↑(Hn (Hl (fun n=>[vi n]) rp)):Int) != (↑(Hn (Hl Hq l)):Int)
  ·have Sq:=(@ko_cw (l) (rp) (hs) (hlen))
   unfold Gh at Sq
   revert Sq
   cases ho3:koR l rp with
   | inl o3_0_0 =>
    intro Sq
    have hl4:=(@ke_cw (l) (rp) (hl) (hlen))
    let v0:=Hl Hq (Cz l rp)
    exact H4 (Lx (z0 (d:=HV [ab v0,int 0]) [.val (int (bQ l)),.b false,.b false,.sum [0,1,4,5,7] (HT 0) {t:=mkT 123 0 [(0,ab (Hl Hq l)),(1,ab (Hl (fun n=>[vi n]) rp)),(4,nq),(5,int 0)],h:=[],m:=[]},.nx 2,.st (.ren 0 0),.sum [0,1,4,5,9,10] (HT 4) {t:=mkT 123 0 [(4,nq),(5,int 0),(9,.ref (.vec 0 0))],h:=[.vec (ae v0) 0 5],m:=[]},.st (.frz 0 v0)] (.c (@R6 ([])) (.c dO (.c oN (.c Sq (.c (show([]:List (List D))=[] from rfl) (.c hl4 (.c (show ae v0=Hl (fun x=>Hl II x) v0 from(by subst v0;rfl)) .n))))))) h)) (by subst v0;simp only[jW,dO,oN,ho3];rfl) (by rfl)
   | inr o3_1_0 =>
    intro Sq
    exact H4 (Lx (z0 (d:=HV [nq,int 1]) [.val (int (bQ l)),.b false,.b false,.sum [0,1,4,5,7] (IB) {t:=mkT 123 0 [(4,nq),(5,int 1)],h:=[],m:=[]}] (.c (@R6 ([])) (.c dO (.c oN (.c Sq .n)))) h)) (by simp only[jW,dO,oN,ho3];rfl) (by rfl)
  ·exact H4 (Lx (z0 (d:=HV [nq,int 1]) [.val (int (bQ l)),.b false,.b true] (.c (@R6 ([])) (.c dO (.c oN .n))) h)) (by simp only[jW,dO,oN];rfl) (by rfl)
 ·exact H4 (Lx (z0 (d:=HV [nq,int (bQ l)]) [.val (int (bQ l)),.b true] (.c (@R6 ([])) (.c dO .n)) h)) (by simp only[jW,dO];rfl) (by rfl)
theorem pt(a b:AttT)(kind i k:Int):bet a b kind i k=true ↔ (kind=0∧(a.oR>b.oR∨(a.oR=b.oR∧(a.term<b.term∨(a.term=b.term∧i<k)))))∨(kind ≠ 0∧(a.term>b.term∨(a.term=b.term∧i>k))):=by
 unfold bet
 cases h0:kind==0<;>cases h1:a.oR != b.oR<;>cases h2:a.term != b.term <;>
  simp only[beq_iff_eq,beq_eq_false_iff_ne,bne_iff_ne,bne_eq_false_iff_eq,ne_eq] at h0 h1 h2<;>simp only[decide_eq_true_eq]<;>omega
theorem Ag{a b:AttT}{kind i k:Int}(h:bet a b kind i k=true):bet b a kind k i=false:=by
 cases hb:bet b a kind k i
 ·rfl
 ·rw[pt] at h hb;omega
theorem Ah{a b c:AttT}{kind i j k:Int}(h1:bet a b kind i j=true)(h2:bet b c kind j k=true):bet a c kind i k=true:=by
 rw[pt] at h1 h2 ⊢;omega
theorem Ai{a b:AttT}{x:Int}{n j:Nat}(hx:x=0∨x=1)(hj:j<n):(Fl x a b=true→bet a b x n j=true)∧(Fl x a b=false→bet b a x j n=true):=by
 rw[pt,pt]
 rcases hx with rfl|rfl
 ·have e:Fl 0 a b=rep0 a b:=rfl
  rw[e,←Kb]
  simp only[rep0,Ju,Hx,decide_eq_true_eq,beq_iff_eq]
  refine⟨fun h=>.inl ⟨trivial,?_⟩,fun h=>.inl ⟨trivial,?_⟩⟩<;>omega
 ·have e:Fl 1 a b=rep1 a b:=rfl
  rw[e,←Kb]
  simp only[rep1,decide_eq_true_eq]
  constructor<;>intro h<;>omega
structure CInv (l:List AttT) (rp:List Int) (n:Nat) (s:IM×IM):Prop where
 a1:∀k,k<n→∀b v,l[k]? = some b→rp[k]? = some v→imGet s.1 b.aT=some v
 a2:∀c v,imGet s.1 c=some v→∃k b,k<n∧l[k]? = some b∧rp[k]? = some v∧b.aT=c
 b1:∀c j,imGet s.2 c=some j→∃(k:Nat) (b:AttT) (v:Int),j=(k:Int)∧k<n∧l[k]? = some b∧rp[k]? = some v∧b.aT=c∧v ≠ 2∧∀m,m<n→m ≠ k→∀b' v',l[m]? = some b'→rp[m]? = some v'→b'.aT=c→bet b b' v k m=true
 b2:∀c,imGet s.2 c=none→∀k,k<n→∀b v,l[k]? = some b→rp[k]? = some v→b.aT=c→v=2
theorem Gn(l:List AttT)(rp:List Int)(i:Nat)(a:AttT)(x:Int):kcR l rp i a x=bif (((l.zip rp).take i).any fun p=>clash a p.1 x p.2) then .inr () else .inl ():=by
 unfold kcR
 generalize (l.zip rp).take i=z
 induction z with
 | nil=>rfl
 | cons p z ih =>
  simp only[forL,kcF,Nm]
  cases clash a p.1 x p.2
  ·simpa using ih
  ·rfl
theorem c_step{l:List AttT}{rp:List Int}{n:Nat}{s:IM×IM}{a:AttT}{x:Int}(hi:CInv l rp n s)(ha:l[n]? = some a)(hx:rp[n]? = some x):
  (koF l rp ((a,x),n) ()=.inr ()∧caE l ((a,x),n) s=.inr ())∨(koF l rp ((a,x),n) ()=.inl ()∧∃s',caE l ((a,x),n) s=.inl s'∧CInv l rp (n+1) s'):=by
 have hbad:koF l rp ((a,x),n) ()=bif eI x (imGet s.1 a.aT) then .inr () else .inl ():=by
  unfold koF eI
  simp only
  rw[Gn]
  have e1:(Zd (x<0)||Zd (x>2)) = !(Zd (x≥0)&&Zd (x≤2)):=by
   rw[JJ];simp only[Ju,decide_eq_true_eq,Bool.not_eq_true',Bool.and_eq_false_iff,decide_eq_false_iff_not];omega
  have e2:(((l.zip rp).take n).any fun p=>clash a p.1 x p.2)=((imGet s.1 a.aT).isSome&&((imGet s.1 a.aT).getD 0 != x)):=by
   rw[JJ,Mg]
   constructor
   ·rintro⟨p,hp,hc⟩
    obtain⟨k,hk⟩:=Jf.1 hp
    have hkn:k<n:=by
     have:=(Hs.1 hk).1
     rw[List.length_take] at this;omega
    rw[KQ hkn] at hk
    obtain⟨h1,h2⟩:=IZ.1 hk
    simp only[clash,Hx,beq_iff_eq,bne_iff_ne] at hc
    rw[hc.1,hi.a1 k hkn _ _ h1 h2]
    simpa using fun h=>hc.2 h.symm
   ·intro h
    cases hg:imGet s.1 a.aT with
    | none=>rw[hg] at h;simp at h
    | some v =>
     rw[hg] at h
     obtain⟨k,b,hk,h1,h2,h3⟩:=hi.a2 _ _ hg
     refine⟨(b,v),Jf.2 ⟨k,?_⟩,?_⟩
     ·rw[KQ hk];exact IZ.2 ⟨h1,h2⟩
     ·have:v ≠ x:=by simpa using h
      simp[clash,h3,Ne.symm this]
  rw[e1,e2]
  cases !(Zd (x≥0)&&Zd (x≤2))<;>rfl
 rw[hbad]
 show _∨(_∧∃s',caF l (n:Int) x a s=_∧_)
 have hE:caE l ((a,x),n) s=caF l (n:Int) x a s:=rfl
 rw[hE]
 unfold caF
 cases hb:eI x (imGet s.1 a.aT)
 ·refine .inr ⟨rfl,_,rfl,?_⟩
  unfold eI at hb
  simp only[Bool.or_eq_false_iff,Bool.not_eq_false',Hx,decide_eq_true_eq] at hb
  obtain⟨hr,Ol⟩:=hb
  have same:∀k,k<n→∀b v,l[k]? = some b→rp[k]? = some v→b.aT=a.aT→v=x:=by
   intro k hk b v h1 h2 h3
   have:=hi.a1 k hk b v h1 h2
   rw[h3] at this
   rw[this] at Ol
   simpa using Ol
  constructor
  ·intro k hk b v h1 h2
   simp only[eG]
   split
   ·rename_i hc
    by_cases hkn:k=n
    ·subst hkn;rw[h2] at hx;rw[←hx]
    ·rw[same k (by omega) b v h1 h2 hc.symm]
   ·rename_i hc
    by_cases hkn:k=n
    ·subst hkn;rw[h1] at ha;cases ha;exact absurd rfl hc
    ·exact hi.a1 k (by omega) b v h1 h2
  ·intro c v hg
   simp only[eG] at hg
   split at hg
   ·rename_i hc
    cases hg
    exact⟨n,a,by omega,ha,hx,hc⟩
   ·obtain⟨k,b,hk,h1,h2,h3⟩:=hi.a2 c v hg
    exact⟨k,b,by omega,h1,h2,h3⟩
  ·intro c j hg
   simp only at hg
   cases hh:dW l x a (imGet s.2 a.aT)<;>rw[hh] at hg<;>simp only at hg
   ·obtain⟨k,b,v,rfl,hk,h1,h2,h3,h4,h5⟩:=hi.b1 c j hg
    refine⟨k,b,v,rfl,by omega,h1,h2,h3,h4,fun m hm hmk b' v' q1 q2 q3=>?_⟩
    by_cases hmn:m=n
    ·subst hmn
     rw[ha] at q1;cases q1
     have hvx:v=x:=same k hk b v h1 h2 (h3.trans q3.symm)
     subst hvx
     unfold dW at hh
     rw[q3,hg] at hh
     have h01:v=0∨v=1:=by omega
     have e01:(v==0||v==1)=true:=by rcases h01 with rfl|rfl<;>rfl
     have Sl:l.getD k default=b:=by rw[List.getD,h1];rfl
     simp only[e01,Jb,M1,Ka,KM,Jm,Int.toNat_natCast,Sl] at hh
     exact(Ai h01 hk).2 hh
    ·exact h5 m (by omega) hmk b' v' q1 q2 q3
   ·rw[eG] at hg
    unfold dW at hh
    simp only[Hx,Ju,beq_iff_eq] at hh
    obtain⟨h01,hh⟩:=hh
    split at hg
    ·rename_i hc
     cases hg
     refine⟨n,a,x,rfl,by omega,ha,hx,hc,by omega,fun m hm hmn b' v' q1 q2 q3=>?_⟩
     have hm':m<n:=by omega
     have hv':=same m hm' b' v' q1 q2 (q3.trans hc.symm)
     cases hg2:imGet s.2 a.aT with
     | none=>have:=hi.b2 _ hg2 m hm' b' v' q1 q2 (q3.trans hc.symm);omega
     | some j =>
      obtain⟨k,b,v,rfl,hk,h1,h2,h3,h4,h5⟩:=hi.b1 _ j hg2
      have hvx:v=x:=same k hk b v h1 h2 h3
      subst hvx
      have Sl:l.getD k default=b:=by rw[List.getD,h1];rfl
      rw[hg2] at hh
      simp only[M1,Ka,Ik,false_or,Jm,Int.toNat_natCast,Sl] at hh
      have t1:=(Ai h01 hk).1 hh
      by_cases hmk:m=k
      ·subst hmk;rw[h1] at q1;cases q1;exact t1
      ·exact Ah t1 (h5 m hm' hmk b' v' q1 q2 (q3.trans hc.symm))
    ·obtain⟨k,b,v,rfl,hk,h1,h2,h3,h4,h5⟩:=hi.b1 c j hg
     rename_i hc
     refine⟨k,b,v,rfl,by omega,h1,h2,h3,h4,fun m hm hmk b' v' q1 q2 q3=>?_⟩
     by_cases hmn:m=n
     ·subst hmn;rw[ha] at q1;cases q1;exact absurd q3 hc
     ·exact h5 m (by omega) hmk b' v' q1 q2 q3
  ·intro c hg k hk b v h1 h2 h3
   simp only at hg
   have Q0:imGet s.2 c=none∧(a.aT=c→x=2):=by
    cases hh:dW l x a (imGet s.2 a.aT)<;>rw[hh] at hg<;>simp only at hg
    ·refine⟨hg,fun hc=>?_⟩
     subst hc
     unfold dW at hh
     rw[hg] at hh
     simp at hh
     omega
    ·rw[eG] at hg
     split at hg
     ·cases hg
     ·rename_i hc;exact⟨hg,fun e=>absurd e hc⟩
   by_cases hkn:k=n
   ·subst hkn;rw[ha] at h1;rw[hx] at h2;cases h1;cases h2;exact Q0.2 h3
   ·exact hi.b2 c Q0.1 k (by omega) b v h1 h2 h3
 ·exact .inl ⟨rfl,rfl⟩
theorem c_run{l:List AttT}{rp:List Int}(hlen:rp.length=l.length):∀(z:List (AttT×Int)) (n:Nat) (s:IM×IM),(l.zip rp).drop n=z→n≤l.length→CInv l rp n s →
  (forL (koF l rp) (z.zipIdx n) ()=.inr ()∧forL (caE l) (z.zipIdx n) s=.inr ())∨(forL (koF l rp) (z.zipIdx n) ()=.inl ()∧∃s',forL (caE l) (z.zipIdx n) s=.inl s'∧CInv l rp l.length s')
 | [],n,s,hz,hn,hi=>by
  have:(l.zip rp).length≤n:=List.drop_eq_nil_iff.1 hz
  rw[List.length_zip] at this
  obtain rfl:n=l.length:=by omega
  exact .inr ⟨rfl,s,rfl,hi⟩
 | (a,x)::z,n,s,hz,hn,hi=>by
  have h1:(l.zip rp)[n]? = some (a,x):=by
   have:=congrArg List.head? hz
   rw[List.head?_drop] at this
   exact this
  obtain⟨ha,hx⟩:=IZ.1 h1
  have hn':=(Hs.1 ha).1
  have hz':(l.zip rp).drop (n+1)=z:=by rw[←List.drop_drop,hz];rfl
  rw[List.zipIdx_cons]
  simp only[forL]
  rcases c_step hi ha hx with ⟨e1,e2⟩|⟨e1,s',e2,Qo⟩
  ·rw[e1,e2];exact .inl ⟨rfl,rfl⟩
  ·rw[e1,e2];exact c_run hlen z (n+1) s' hz' hn' Qo
theorem Aj(l:List AttT)(a:AttT)(x:Int)(i:Nat):stays l a x i = !(l.zipIdx.any fun p=>outBy a p.1 x (p.2:Int) (i:Int)):=by
 have key:∀(z:List (AttT×Nat)) (c:Bool),z.foldl (kdG a x i) c=(c&&!(z.any fun p=>outBy a p.1 x (p.2:Int) (i:Int))):=by
  intro z
  induction z with
  | nil=>simp
  | cons p z ih =>
   intro c
   rw[H7,ih,Nm]
   unfold kdG
   cases outBy a p.1 x (p.2:Int) (i:Int)<;>cases c<;>simp
 unfold stays
 rw[key,Jb]
theorem Ak{l:List AttT}{rp:List Int}{s:IM×IM}(hlen:rp.length=l.length)(hi:CInv l rp l.length s){i:Nat}{a:AttT}{x:Int}(ha:l[i]? = some a)(hx:rp[i]? = some x):cgHit s.2 i a=stays l a x i:=by
 have hil:=(Hs.1 ha).1
 have get:∀{p:AttT×Nat},p∈l.zipIdx→l[p.2]? = some p.1:=by
  intro p hp
  obtain⟨k,hk⟩:=Jf.1 hp
  rw[JG] at hk
  obtain⟨b,hb,rfl⟩:=Hy.1 hk
  simpa using hb
 rw[Aj]
 unfold cgHit
 cases hg:imGet s.2 a.aT with
 | none =>
  have h2:=hi.b2 _ hg i hil a x ha hx rfl
  have:(l.zipIdx.any fun p=>outBy a p.1 x (p.2:Int) (i:Int))=false:=by
   rw[List.any_eq_false];intro p _;simp[outBy,h2]
  rw[this];rfl
 | some j =>
  obtain⟨k,b,v,rfl,hk,h1,h2,h3,h4,h5⟩:=hi.b1 _ j hg
  have hvx:v=x:=by
   have e1:=hi.a1 k hk b v h1 h2
   have e2:=hi.a1 i hil a x ha hx
   rw[h3,e2] at e1
   exact(Option.some.inj e1).symm
  subst hvx
  by_cases Pz:k=i
  ·subst Pz
   rw[ha] at h1;cases h1
   have:(l.zipIdx.any fun p=>outBy a p.1 v (p.2:Int) (k:Int))=false:=by
    rw[List.any_eq_false]
    intro p hp
    have hp':=get hp
    have Rs:=(Hs.1 hp').1
    unfold outBy
    by_cases hpk:p.2=k
    ·simp[hpk]
    ·by_cases hc:p.1.aT=a.aT
     ·have:=Ag (h5 p.2 Rs hpk p.1 _ hp' (HH (by omega)) hc)
      simp[this]
     ·simp[hc]
   rw[this];simp
  ·have:(l.zipIdx.any fun p=>outBy a p.1 v (p.2:Int) (i:Int))=true:=by
    rw[Mg]
    refine⟨(b,k),Jf.2 ⟨k,by rw[JG,h1];simp⟩,?_⟩
    have e:=h5 i hil (Ne.symm Pz) a v ha hx rfl
    have e2:((k:Int) != (i:Int))=true:=by rw[bne_iff_ne];omega
    have e3:(v != 2)=true:=by simpa using h4
    simp only[outBy,e,e2,e3,h3,beq_self_eq_true,Bool.and_true]
   rw[this]
   have:¬(k:Int)=(i:Int):=by omega
   simpa using this
theorem rV{l:List AttT}{m2:IM}:∀(z:List (AttT×Int)) (n:Nat) (out:List AttT),(∀p∈z.zipIdx n,cgHit m2 p.2 p.1.1=stays l p.1.1 p.1.2 p.2) →
  (z.zipIdx n).foldl (fun out p=>keF l p out) out=((z.map (·.1)).zipIdx n).foldl (fun out e=>cgF m2 e out) out
 | [],_,_,_=>rfl
 | (a,x)::z,n,out,h=>by
  simp only[List.zipIdx_cons,List.map_cons,H7] at h ⊢
  rw[rV z (n+1) _ fun p hp=>h p (Iu _ hp)]
  have h0:=h ((a,x),n) (List.mem_cons_self ..)
  unfold keF cgF
  simp only at h0 ⊢
  rw[h0]
theorem CA{l:List AttT}{rp:List Int}(hlen:rp.length=l.length):jW l rp=iE l rp:=by
 unfold jW
 cases hz:(bQ l != 0)
 ·simp only[zt hlen]
  have h0:CInv l rp 0 ([],[]):=⟨fun k hk=>absurd hk (Nat.not_lt_zero _),fun c v h=>by simp[imGet] at h,fun c j h=>by simp[imGet] at h,fun c _ k hk=>absurd hk (Nat.not_lt_zero _)⟩
  rcases c_run hlen (l.zip rp) 0 ([],[]) rfl (Nat.zero_le _) h0 with ⟨e1,e2⟩|⟨e1,s,e2,hi⟩
  ·have e1':koR l rp=.inr ():=e1
   have e2':caR l rp=.inr ():=e2
   rw[e1',vj hz hlen e2']
  ·have e1':koR l rp=.inl ():=e1
   have e2':caR l rp=.inl s:=e2
   rw[e1',zr hz hlen e2']
   simp only
   congr 1
   unfold Cz rP
   have hm:(l.zip rp).map (·.1)=l:=List.map_fst_zip (by omega)
   have:=rV (l:=l) (m2:=s.2) (l.zip rp) 0 [] fun p hp=>by
    obtain⟨k,hk⟩:=Jf.1 hp
    rw[JG] at hk
    obtain⟨q,hq,rfl⟩:=Hy.1 hk
    obtain⟨h1,h2⟩:=IZ.1 hq
    simp only[I3]
    exact Ak hlen hi h1 h2
   rw[hm] at this
   exact this
 ·simp only[vg hz]
abbrev aO(l:List Int):List (List Dp):=l.map fun n=>[vi n]
abbrev ctS(l:List (List Dp))(c i:Int):AS:={t:=mkT 18 0 [(0,ab l),(1,int c),(4,bool false),(5,int i)],h:=[],m:=[]}
abbrev ctX:Unit→Exit×AS:=fun _=>(.ret,{t:=mkT 18 0 [(4,bool true)],h:=[],m:=[]})
def ctF(c x:Int)(_:Unit):Unit⊕Unit:=bif x==c then .inr () else .inl ()
theorem Gp{l:List (List Dp)}{x c:Int}{i:Nat}(hr:aj (i:Int) l [vi x] 1)(iF:Zd ((i:Int)<(l.length:Int))=true)(hw:Hp.wrap ((i:Int)+1)=((i+1:Nat):Int)):(CW Hm Γ0 [] false (sub Tryz.f126 0) (ctS l c i) (ah (fun _:Unit=>ctS l c ((i+1:Nat):Int)) ctX (ctF c x ())).1 (ah (fun _:Unit=>ctS l c ((i+1:Nat):Int)) ctX (ctF c x ())).2):=by
 cases dO:x==c
 ·refine zX {t:=mkT 18 0 [(0,ab l),(1,int c),(4,bool false),(5,int (Ht Hp ((↑i:Int)+1)))],h:=[],m:=[]} HA [.st (.mask [0,1,4,5])] [.b true,.row [vi x],.b false] (.c iF (.c hr (.c dO .n))) ?_ ?_<;>(simp only[ctF,dO,cond_false];first|rfl|(rw[hw];rfl))
 ·refine zX {t:=mkT 18 0 [(4,bool true)],h:=[],m:=[]} IB [.st (.mask [4])] [.b true,.row [vi x],.b true] (.c iF (.c hr (.c dO .n))) ?_ ?_<;>(simp only[ctF,dO,cond_true];rfl)
theorem Gq{l:List (List Dp)}{c:Int}{i:Nat}(iF:Zd ((i:Int)<(l.length:Int))=false):(CW Hm Γ0 [] false (sub Tryz.f126 0) (ctS l c i) (.exit 0) {t:=mkT 18 0 [],h:=[],m:=[]}):=by
 exact zx [.st (.mask [])] [.b false] (.c iF .n)
def ctR(l:List Int)(c:Int):Unit⊕Unit:=forL (ctF c) l ()
def wT(l:List Int)(c:Int):Exit×AS:=a8 (.exit 0) (fun _:Unit=>{t:=mkT 18 0 [],h:=[],m:=[]}) ctX (ctR l c)
theorem ct_cw{l:List Int}(hl:af l){c:Int}:CW Hm Γ0 [] false (.loop (sub Tryz.f126 0)) (ctS (aO l) c 0) (wT l c).1 (wT l c).2:=by
 refine I7 l (ctF c) (fun i _=>ctS (aO l) c (i:Int)) (.exit 0) (fun _=>{t:=mkT 18 0 [],h:=[],m:=[]}) ctX (fun _ _=>True) (by simp) (fun _=>by simp[]) ?_ ?_ () trivial
 ·intro i x _ hx _
  have hi:=(Hs.1 hx).1
  exact⟨fun _ _=>trivial,Gp (rowAt (row:=fun n=>[vi n]) hx rfl) (lt_len _ hi) (wrap_succ hi hl)⟩
 ·intro _ _
  exact Gq (aJ _ l)
theorem wU{l:List Int}(hl:af l){c:Int}(h:List Blk):(Ev Hm Γ0 126 [ab (aO l),int c] h (bool (match ctR l c with | .inl _=>false | .inr _=>true)) h):=by
 have N1:=(@ct_cw (l) (hl) (c))
 unfold wT at N1
 revert N1
 cases O0:ctR l c with
 | inl o1_0_0 =>
  intro N1
  exact zD (bool false) [.sum [0,1,4,5] (HT 0) {t:=mkT 18 0 [],h:=[],m:=[]}] (.c N1 .n) h (by simp only[])
 | inr o1_1_0 =>
  intro N1
  exact zD (bool true) [.sum [0,1,4,5] (IB) {t:=mkT 18 0 [(4,bool true)],h:=[],m:=[]}] (.c N1 .n) h (by simp only[])
theorem Dv(l:List Int)(c:Int):(match ctR l c with | .inl _=>false | .inr _=>true)=l.contains c:=by
 unfold ctR
 induction l with
 | nil=>rfl
 | cons x l ih =>
  have e:(x==c)=(c==x):=by rw[JJ];simp only[beq_iff_eq];exact eq_comm
  simp only[forL,ctF,List.contains_cons,e]
  cases (c==x)
  ·simpa using ih
  ·rfl
theorem rW{l:List Int}(hl:af l){c:Int}(h:List Blk):Ev Hm Γ0 126 [ab (aO l),int c] h (bool (l.contains c)) h:=by rw[←Dv];exact wU hl h
abbrev s7S(ls out:List (List Dp))(i n:Int):AS:={t:=mkT 46 0 [(0,ab ls),(3,ab out),(4,int i),(5,int n)],h:=[],m:=[]}
abbrev s7O(ls out:List (List Dp))(i:Int):AS:={t:=mkT 46 0 [(0,ab ls),(3,ab out),(4,int i)],h:=[],m:=[]}
def s7F(x y:Int)(n:Nat):Nat⊕Nat:=bif Zd (y<x) then .inl (n+1) else .inr n
theorem Gr{ls out:List (List Dp)}{x y:Int}{i n:Nat}(hr:aj (i:Int) ls [vi x] 1)(ho:aj (n:Int) out [vi y] 1)(iF:Zd ((n:Int)<(out.length:Int))=true)(hw:Hp.wrap ((n:Int)+1)=((n+1:Nat):Int)):(CW Hm Γ0 [] false (sub Lk 1) (s7S ls out i n) (ah (fun m:Nat=>s7S ls out i m) (fun m:Nat=>(.exit 2,s7S ls out i m)) (s7F x y n)).1 (ah (fun m:Nat=>s7S ls out i m) (fun m:Nat=>(.exit 2,s7S ls out i m)) (s7F x y n)).2):=by
 cases dO:Zd (y<x)
 ·refine zX {t:=mkT 46 0 [(0,ab ls),(3,ab out),(4,int (↑i:Int)),(5,int (↑n:Int))],h:=[],m:=[]} (HT 2) [.st (.mask [0,3,4,5])] [.g true,.g true,.g true,.row [vi y],.g true,.g true,.g true,.g true,.row [vi x],.g true,.g true,.ov 27 (bool (Zd (y<x))),.b false] (.c (show(Zd ((↑n:Int)<(↑(Hn out):Int))==true)=true from(by rw[iF];rfl)) (.c (show(Zd ((↑n:Int)<(↑(Hn out):Int))==true)=true from(by rw[iF];rfl)) (.c (show(Zd ((↑n:Int)<(↑(Hn out):Int))==true)=true from(by rw[iF];rfl)) (.c ho (.c (show(Zd ((↑n:Int)<(↑(Hn out):Int))==true)=true from(by rw[iF];rfl)) (.c (show(Zd ((↑n:Int)<(↑(Hn out):Int))==true)=true from(by rw[iF];rfl)) (.c (show(Zd ((↑n:Int)<(↑(Hn out):Int))==true)=true from(by rw[iF];rfl)) (.c (show(Zd ((↑n:Int)<(↑(Hn out):Int))==true)=true from(by rw[iF];rfl)) (.c hr (.c (show(Zd ((↑n:Int)<(↑(Hn out):Int))==true)=true from(by rw[iF];rfl)) (.c (show(Zd ((↑n:Int)<(↑(Hn out):Int))==true)=true from(by rw[iF];rfl)) (.c (pkt (bool (Zd (y<x))) (bool false) iF) (.c dO .n))))))))))))) ?_ ?_<;>(simp only[s7F,dO,cond_false];rfl)
 ·refine zX {t:=mkT 46 0 [(0,ab ls),(3,ab out),(4,int (↑i:Int)),(5,int (Ht Hp ((↑n:Int)+1)))],h:=[],m:=[]} HA [.st (.mask [0,3,4,5])] [.g true,.g true,.g true,.row [vi y],.g true,.g true,.g true,.g true,.row [vi x],.g true,.g true,.ov 27 (bool (Zd (y<x))),.b true] (.c (show(Zd ((↑n:Int)<(↑(Hn out):Int))==true)=true from(by rw[iF];rfl)) (.c (show(Zd ((↑n:Int)<(↑(Hn out):Int))==true)=true from(by rw[iF];rfl)) (.c (show(Zd ((↑n:Int)<(↑(Hn out):Int))==true)=true from(by rw[iF];rfl)) (.c ho (.c (show(Zd ((↑n:Int)<(↑(Hn out):Int))==true)=true from(by rw[iF];rfl)) (.c (show(Zd ((↑n:Int)<(↑(Hn out):Int))==true)=true from(by rw[iF];rfl)) (.c (show(Zd ((↑n:Int)<(↑(Hn out):Int))==true)=true from(by rw[iF];rfl)) (.c (show(Zd ((↑n:Int)<(↑(Hn out):Int))==true)=true from(by rw[iF];rfl)) (.c hr (.c (show(Zd ((↑n:Int)<(↑(Hn out):Int))==true)=true from(by rw[iF];rfl)) (.c (show(Zd ((↑n:Int)<(↑(Hn out):Int))==true)=true from(by rw[iF];rfl)) (.c (pkt (bool (Zd (y<x))) (bool false) iF) (.c dO .n))))))))))))) ?_ ?_<;>(simp only[s7F,dO,cond_true];first|rfl|(rw[hw];rfl))
theorem Gs{ls out:List (List Dp)}{i:Int}{n:Nat}(iF:Zd ((n:Int)<(out.length:Int))=false):(CW Hm Γ0 [] false (sub Lk 1) (s7S ls out i n) (.exit 2) (s7S ls out i n)):=by
 exact zx [.st (.mask [0,3,4,5])] [.g false,.g false,.g false,.g false,.g false,.g false,.g false,.g false,.g false,.ov 27 (bool false),.b false] (.c (show(Zd ((↑n:Int)<(↑(Hn out):Int))==true)=false from(by rw[iF];rfl)) (.c (show(Zd ((↑n:Int)<(↑(Hn out):Int))==true)=false from(by rw[iF];rfl)) (.c (show(Zd ((↑n:Int)<(↑(Hn out):Int))==true)=false from(by rw[iF];rfl)) (.c (show(Zd ((↑n:Int)<(↑(Hn out):Int))==true)=false from(by rw[iF];rfl)) (.c (show(Zd ((↑n:Int)<(↑(Hn out):Int))==true)=false from(by rw[iF];rfl)) (.c (show(Zd ((↑n:Int)<(↑(Hn out):Int))==true)=false from(by rw[iF];rfl)) (.c (show(Zd ((↑n:Int)<(↑(Hn out):Int))==true)=false from(by rw[iF];rfl)) (.c (show(Zd ((↑n:Int)<(↑(Hn out):Int))==true)=false from(by rw[iF];rfl)) (.c (show(Zd ((↑n:Int)<(↑(Hn out):Int))==true)=false from(by rw[iF];rfl)) (.c (pkf (II (Dp.v (Ii {toList:=[]}))) (bool false) iF) (.er false .n)))))))))))
def s7P(out:List Int)(x:Int):Nat:=match forL (s7F x) out 0 with | .inl n=>n | .inr n=>n
theorem s7_cw{ls out:List Int}(hl:af out){i:Nat}{x:Int}(hx:ls[i]? = some x):CW Hm Γ0 [] false (.loop (sub Lk 1)) (s7S (aO ls) (aO out) i 0) (.exit 2) (s7S (aO ls) (aO out) i (s7P out x)):=by
 have:=I7 (P:=Hm) (Γ:=Γ0) (h0:=[]) (rd:=false) (c:=sub Lk 1) out (s7F x) (fun _ n=>s7S (aO ls) (aO out) i (n:Int)) (.exit 2) (fun n=>s7S (aO ls) (aO out) i (n:Int)) (fun n:Nat=>(.exit 2,s7S (aO ls) (aO out) i (n:Int)))
  (fun k n=>n=k) (by simp) (by simp) ?_ ?_ 0 rfl
 ·unfold s7P
  cases h:forL (s7F x) out 0<;>rw[h] at this<;>exact this
 ·intro k y n hy hn
  subst hn
  have hi:=(Hs.1 hy).1
  refine⟨fun m h=>?_,Gr (rowAt (row:=fun n=>[vi n]) hx rfl) (rowAt (row:=fun n=>[vi n]) hy rfl) (lt_len _ hi) (wrap_succ hi hl)⟩
  unfold s7F at h
  cases hc:Zd (y<x)<;>rw[hc] at h<;>simp at h
  exact h.symm
 ·intro n hn
  subst hn
  exact Gs (aJ _ out)
def xj(out:List Int)(x:Int):List Int:=out.take (s7P out x)++[x]++out.drop (s7P out x)
section
variable {rows:List (List Dp)} {sz p:Nat}
theorem Al{b:Bool}(hp:p≤rows.length)(hz:∀r∈rows,r.length=sz):(mq 0 (p:Int) rows.length&&true&&(true||b)&&rows.all fun r=>Zd (r.length=sz))=true:=by
 have h1:(rows.all fun r=>Zd (r.length=sz))=true:=by rw[HU];intro r hr;exact decide_eq_true (hz r hr)
 rw[h1];simp[mq];omega
theorem Am{b:Bool}(hp:p≤rows.length)(hz:∀r∈rows,r.length=sz):(mq (p:Int) (rows.length:Int) rows.length&&true&&(true||b)&&rows.all fun r=>Zd (r.length=sz))=true:=by
 have h1:(rows.all fun r=>Zd (r.length=sz))=true:=by rw[HU];intro r hr;exact decide_eq_true (hz r hr)
 rw[h1];simp[mq];omega
theorem Dw{a b n k:Nat}(hz:∀r∈rows,aG sz (r.map II)=true)(hn:n*k≤140737488355328)(h2:n≤4611686018427387904):(((Ih a (IC b rows)).map fun x=>x.map II).all (aG sz)&&roomOk n k)=true:=by
 have h1:((Ih a (IC b rows)).map fun x=>x.map II).all (aG sz)=true:=by
  rw[HU]
  intro r hr
  obtain⟨x,hx,rfl⟩:=HQ.1 hr
  exact hz x (List.mem_of_mem_drop (List.mem_of_mem_take hx))
 rw[h1];simp[roomOk];omega
theorem An{x:List Dp}{r:List D}(hr:r=x.map II):(Hl (fun x=>Hl II x) (Ih (Hw (p:Int) - Hw 0) (IC (Hw 0) rows))++[r]++Hl (fun x=>Hl II x) (Ih (Hw (rows.length:Int) - Hw (p:Int)) (IC (Hw (p:Int)) rows)))=Hl (fun x=>Hl II x) (rows.take p++[x]++rows.drop p):=by
 subst hr
 have e1:Hw (p:Int) - Hw 0=p:=by simp
 have e2:Ih (Hw (rows.length:Int) - Hw (p:Int)) (IC (Hw (p:Int)) rows)=rows.drop p:=by
  rw[List.take_of_length_le (by simp)];simp
 rw[e1,e2]
 simp
end
theorem tJ{R:List (List Dp)}{r:List D}{n:Nat}(hr:D.innL n r=true):((R.map fun x=>x.map II)++[r]).all (D.innL n)=true:=by
 have:=cF R n
 rw[Lw,Hx]
 exact⟨this,by simp[hr]⟩
theorem Ao{R S:List (List Dp)}{r:List D}{n:Nat}(hr:D.innL n r=true):((R.map fun x=>x.map II)++[r]++S.map fun x=>x.map II).all (D.innL n)=true:=by
 have:=cF S n
 rw[Lw,Hx]
 exact⟨tJ hr,this⟩
theorem vw(l:List Int):∀r∈aO l,r.length=1:=by intro r hr;obtain⟨x,_,rfl⟩:=HQ.1 hr;rfl
theorem Gt(l:List Int):∀r∈aO l,aG 1 (r.map II)=true:=by intro r hr;obtain⟨x,_,rfl⟩:=HQ.1 hr;rfl
theorem Ap(out:List Int)(x:Int):aO (xj out x)=(aO out).take (s7P out x)++[[vi x]]++(aO out).drop (s7P out x):=by simp[xj,List.map_take,List.map_drop]
theorem Dx(out:List Int)(x:Int):s7P out x≤out.length:=by
 have key:∀(l:List Int) (n:Nat),(match forL (s7F x) l n with | .inl n=>n | .inr n=>n)≤n+l.length:=by
  intro l
  induction l with
  | nil=>intro n;simp[forL]
  | cons y l ih =>
   intro n
   simp only[forL,s7F,HY]
   cases Zd (y<x)
   ·simp
   ·have:=ih (n+1);simp only[cond_true];omega
 have:=key out 0
 unfold s7P
 omega
abbrev RL:=List ReadT×List Int
abbrev eqH(w:WorldT)(rs:List ReadT)(l:List Int):List Blk:=[.var w.l,.vec (ae (rdR rs)) 0 5,.vec (nuV l) 0 1,kn l]
abbrev eiS(w:WorldT)(term known:Int)(ns:List (List Dp))(rs:List ReadT)(l:List Int)(i:Nat)(k:Int):AS :=
 {t:=mkT 100 0 [(2,int term),(3,int known),(4,.ref (.ptr 0 0)),(8,.ref (.vec 2 0)),(9,.ref (.vec 1 0)),(10,ab ns),(11,.ref (.mp 3)),(12,int i),(45,ab ns),(46,int ns.length),(47,int k)],h:=eqH w rs l,m:=[]}
abbrev eoS(w:WorldT)(term known:Int)(ns:List (List Dp))(rs:List ReadT)(l:List Int)(i:Nat):AS :=
 {t:=mkT 100 0 [(2,int term),(3,int known),(4,.ref (.ptr 0 0)),(8,.ref (.vec 2 0)),(9,.ref (.vec 1 0)),(10,ab ns),(11,.ref (.mp 3)),(12,int i)],h:=eqH w rs l,m:=[]}
abbrev eoE(w:WorldT)(rs:List ReadT)(l:List Int):AS :=
 {t:=mkT 100 0 [(8,.ref (.vec 2 0)),(9,.ref (.vec 1 0))],h:=eqH w rs l,m:=[]}
def mnI(a b:Int):Int:=if b<a then b else a
def mxI(a b:Int):Int:=if b>a then b else a
def eqHit(w:WorldT)(term known a n:Int):Bool:=(atR 2 (mnI a n) (mxI a n) term known w.f).2&&(atR 2 (mnI a n) (mxI a n) term known w.f).1==1
def eqN(w:WorldT)(term known a:Int)(s:RL)(n:Int):RL :=
 bif s.2.contains n then s else (s.1++[⟨2,mnI a n,mxI a n,term,Hp.wrap (term+1)⟩],bif eqHit w term known a n then s.2++[n] else s.2)
theorem lkE{h:List Blk}{l:List Int}{c:Int}(hb:h[3]? = some (kn l)):ap Hm h 152 (.ref (.mp 3)) (int c) false=some (bool (l.contains c)):=nB (kt:=3) (et:=4) (by kernel_rfl) (by kernel_rfl) (by kernel_rfl) hb
theorem upE{h:List Blk}{l:List Int}{c:Int}(hb:h[3]? = some (kn l))(hn:l.contains c=false):am Hm h 152 (.ref (.mp 3)) (int c) (bool true)=some (h.set 3 (kn (l++[c]))):=nC (kt:=3) (et:=4) (by kernel_rfl) (by kernel_rfl) hb (by simpa using hn)
theorem pu{h:List Blk}{l:List Int}{i e:Nat}{a:Int}(hb:h[2]? = some (.vec (nuV l) e 1))(ha:l[i]? = some a):bg Hm h 3 (.ref (.vp 2 e (Hw (i:Int)) 0))=some (int a):=by
 have e1:(nuV l)[Hw (i:Int)]? = some [int a]:=by simp[ha]
 unfold bg
 simp only[hb,e1,if_true,La]
 rfl
theorem vz{l:List Int}{i:Nat}{a:Int}(ha:l[i]? = some a):inR (i:Int) (nuV l).length=true:=by
 have:=(Hs.1 ha).1
 simp[inR];omega
theorem el(rs:List ReadT)(a b c d e:Int):ae (rdR rs)++[[int a,int b,int c,int d,int e]]=ae (rdR (rs++[⟨a,b,c,d,e⟩])):=by simp[ae,ReadT.row]
theorem CB{l:List Int}{i:Nat}{a:Int}(ha:l[i]? = some a):VpIs Hm 3 (nuV l) 0 0 (Hw (i:Int)) 0 (int a):=by
 have e1:(nuV l)[Hw (i:Int)]? = some [int a]:=by simp[ha]
 unfold VpIs
 simp only[e1,if_true,La]
 rfl
noncomputable abbrev jp(w:WorldT)(term:Int)(rs:List ReadT)(l:List Int)(a:Int)(n:Int):List Blk:=[.var [ab (Hl Hz w.c),ab w.p,ab (Hl HC w.s),ab (Hl Hv w.f)],.vec (ae (rdR rs)++[[int 2,int (if false=true then if n>a then n else a else if n<a then n else a),int (if true=true then if n>a then n else a else if n<a then n else a),int term,int (Ht Hp (term+1))]]) 1 5,.vec (nuV l) 0 1,.map (aK l) (Hn l),.var [int 2,int (if false=true then if n>a then n else a else if n<a then n else a),int (if true=true then if n>a then n else a else if n<a then n else a)],.vec [[int 2,int (if false=true then if n>a then n else a else if n<a then n else a),int (if true=true then if n>a then n else a else if n<a then n else a),int term,int (Ht Hp (term+1))]] 0 5]
theorem Gu{w:WorldT}(Qz:af w.f){term known:Int}{ns:List (List Dp)}{rs:List ReadT}{l:List Int}{i k:Nat}{a n:Int}(ha:l[i]? = some a)(hr:aj (k:Int) ns [vi n] 1)(iF:Zd ((k:Int)<(ns.length:Int))=true)(Oy:Hp.wrap ((k:Int)+1)=((k+1:Nat):Int))(hb:rs.length≤999998000)(hl:l.length≤70000):(CW Hm Γ0 [] false (sub Kz 1) (eiS w term known ns rs l i k) .normal (eiS w term known ns (eqN w term known a (rs,l) n).1 (eqN w term known a (rs,l) n).2 i ((k+1:Nat):Int))):=by
 cases dO:Ij l n
 ·cases oN:(atR 2 (if false=true then if n>a then n else a else if n<a then n else a) (if true=true then if n>a then n else a else if n<a then n else a) term known w.f).2&&(atR 2 (if false=true then if n>a then n else a else if n<a then n else a) (if true=true then if n>a then n else a else if n<a then n else a) term known w.f).1==1
  ·let v0:List D:=[int 2,int (if false=true then if n>a then n else a else if n<a then n else a),int (if true=true then if n>a then n else a else if n<a then n else a),int term,int (Ht Hp (term+1))]
   let v1:List Blk:=[.var (HI w),.vec (ae (rdR rs)) 0 5,.vec (nuV l) 0 1,.map (aK l) (Hn l)]
   refine zX {t:=mkT 100 0 [(2,int term),(3,int known),(4,.ref (.ptr 0 0)),(8,.ref (.vec 2 0)),(9,.ref (.vec 1 0)),(10,ab ns),(11,.ref (.mp 3)),(12,int (↑i:Int)),(45,ab ns),(46,int (↑(Hn ns):Int)),(47,int (Ht Hp ((↑k:Int)+1)))],h:=[.var [ab (Hl Hz w.c),ab w.p,ab (Hl HC w.s),ab (Hl Hv w.f)],.vec (ae (rdR rs)++[v0]) 0 5,.vec (nuV l) 0 1,.map (aK l) (Hn l)],m:=[]} HA [.st (.mask [2,3,4,8,9,10,11,12,45,46,47]),.st (.ren 1 0),.st (.ren 2 0),.st (.trimV 4)] [.b true,.row [vi n],.ov 53 (bool (Ij l n)),.b false,.ov 57 (int a),.ov 63 (int a),.val (HV [int (atR 2 (if false=true then if n>a then n else a else if n<a then n else a) (if true=true then if n>a then n else a else if n<a then n else a) term known w.f).1,bool (atR 2 (if false=true then if n>a then n else a else if n<a then n else a) (if true=true then if n>a then n else a else if n<a then n else a) term known w.f).2]),.b false] (.c iF (.c hr (.c (show ap Hm v1 152 (.ref (.mp 3)) (int n) false=some (bool (Ij l n)) from ?_) (.c dO (.c (show inR (↑i:Int) (Hn (nuV l))=true from ?_) (.c (show bg Hm v1 3 (.ref (.vp 2 0 (Hw (↑i:Int)) 0))=some (int a) from ?_) (.c (show inR (↑i:Int) (Hn (nuV l))=true from ?_) (.c (show bg Hm v1 3 (.ref (.vp 2 0 (Hw (↑i:Int)) 0))=some (int a) from ?_) (.c (show inR (↑i:Int) (Hn (nuV l))=true from ?_) (.e (.ref (.vp 2 0 (Hw (↑i:Int)) 0)) (.c (show inR (↑i:Int) (Hn (nuV l))=true from ?_) (.e (.ref (.vp 2 0 (Hw (↑i:Int)) 0)) (.c (show(if 0=0 then match (nuV l)[Hw (↑i:Int)]? with|some row=>bT Hm 3 (IC 0 row)|none=>none else none)=some (int a) from ?_) (.c (show(if 0=0 then match (nuV l)[Hw (↑i:Int)]? with|some row=>bT Hm 3 (IC 0 row)|none=>none else none)=some (int a) from ?_) (.c (show inR (↑i:Int) (Hn (nuV l))=true from ?_) (.e (.ref (.vp 2 0 (Hw (↑i:Int)) 0)) (.c (show inR (↑i:Int) (Hn (nuV l))=true from ?_) (.e (.ref (.vp 2 0 (Hw (↑i:Int)) 0)) (.c (show(if 0=0 then match (nuV l)[Hw (↑i:Int)]? with|some row=>bT Hm 3 (IC 0 row)|none=>none else none)=some (int a) from ?_) (.c (show(if 0=0 then match (nuV l)[Hw (↑i:Int)]? with|some row=>bT Hm 3 (IC 0 row)|none=>none else none)=some (int a) from ?_) (.c (show(HJ [v0] (aG 5)&&roomOk (Hn (ae (rdR rs))+Hn [v0]) 40)=true from ?_) (.c (@BB 2 (if false=true then if n>a then n else a else if n<a then n else a) (if true=true then if n>a then n else a else if n<a then n else a) term known (w.f) Qz (jp w term rs l a n)) (.c oN (.c (vMa (rdR rs) [v0] 1 1 0) (.c (nM l 1 1 0) (.c (show Hl (fun e=>(HO (al 1 1 0) e.1,HO (al 1 1 0) e.2.1,e.2.2)) (aK l)=aK l from ?_) (.er [v0] (.c (nM l 2 0 0) (.c (vMa (rdR rs) [v0] 2 0 0) (.c (show Hl (fun e=>(HO (al 2 0 0) e.1,HO (al 2 0 0) e.2.1,e.2.2)) (aK l)=aK l from ?_) (.er [v0] (.c (show HB 4 (match 0==2 with|true=>.vec (nuV l) 0 1|false=>keepX (al 2 0 0) (match 0==1 with|true=>.vec (ae (rdR rs)++[v0]) 0 5|false=>keepX (al 1 1 0) (.var (HI w))))=true from rfl) (.c (show HB 4 (match 0+1==2 with|true=>.vec (nuV l) 0 1|false=>keepX (al 2 0 0) (match 0+1==1 with|true=>.vec (ae (rdR rs)++[v0]) 0 5|false=>keepX (al 1 1 0) (.vec (ae (rdR rs)++[v0]) 1 5)))=true from ?_) (.c (iN 4 l 0 1) (.c (show HB 4 (match 0+1+1+1==2 with|true=>.vec (nuV l) 0 1|false=>keepX (al 2 0 0) (match 0+1+1+1==1 with|true=>.vec (ae (rdR rs)++[v0]) 0 5|false=>keepX (al 1 1 0) (.map (aK l) (Hn l))))=true from ?_) .n))))))))))))))))))))))))))))))))))) (by subst v0 v1;(simp only[];first|done|rfl)) (by subst v0 v1;(have hh:eqHit w term known a n=false:=oN;simp only[Oy,eqN,dO,hh,cond_false,el];first|done|rfl))<;>subst v0 v1<;>(first|exact lkE (l:=l) rfl|exact pu rfl ha|exact CB ha|exact vz ha|exact cC _ _|exact b6 _ _|(simp only[el];exact aP)|(simp[aG,D.one,IJ,roomOk];omega))
  ·let v0:List D:=[int 2,int (mnI a n),int (mxI a n),int term,int (Ht Hp (term+1))]
   let v1:List D:=[int (atR 2 (if false=true then if n>a then n else a else if n<a then n else a) (if true=true then if n>a then n else a else if n<a then n else a) term known w.f).1,bool (atR 2 (if false=true then if n>a then n else a else if n<a then n else a) (if true=true then if n>a then n else a else if n<a then n else a) term known w.f).2]
   let v2:List D:=[int 2,int (if false=true then if n>a then n else a else if n<a then n else a),int (if true=true then if n>a then n else a else if n<a then n else a),int term,int (Ht Hp (term+1))]
   let v3:List D:=[int 2,int (if false=true then if n>a then n else a else if n<a then n else a),int (if true=true then if n>a then n else a else if n<a then n else a)]
   let v4:List Blk:=[.var (HI w),.vec (ae (rdR rs)) 0 5,.vec (nuV l) 0 1,.map (aK l) (Hn l)]
   refine zX {t:=mkT 100 0 [(2,int term),(3,int known),(4,.ref (.ptr 0 0)),(8,.ref (.vec 2 0)),(9,.ref (.vec 1 0)),(10,ab ns),(11,.ref (.mp 3)),(12,int (↑i:Int)),(45,ab ns),(46,int (↑(Hn ns):Int)),(47,int (Ht Hp ((↑k:Int)+1)))],h:=[.var [ab (Hl Hz w.c),ab w.p,ab (Hl HC w.s),ab (Hl Hv w.f)],.vec (ae (rdR rs)++[v0]) 0 5,.vec (nuV l++[[int n]]) 0 1,.map (aK (l++[n])) (Hn (l++[n]))],m:=[]} HA [.st (.mask [2,3,4,8,9,10,11,12,45,46,47]),.st (.ren 1 0),.st (.ren 2 0),.st (.trimV 4)] [.b true,.row [vi n],.ov 53 (bool (Ij l n)),.b false,.ov 57 (int a),.ov 63 (int a),.val (HV v1),.b true,.oh 10089 IK [.var (HI w),.vec (ae (rdR rs)++[v0]) 1 5,.vec (nuV l) 0 1,kn (l++[n]),.var [int 2,int (mnI a n),int (mxI a n)],.vec [v0] 0 5]] (.c iF (.c hr (.c (show ap Hm v4 152 (.ref (.mp 3)) (int n) false=some (bool (Ij l n)) from ?_) (.c dO (.c (show inR (↑i:Int) (Hn (nuV l))=true from ?_) (.c (show bg Hm v4 3 (.ref (.vp 2 0 (Hw (↑i:Int)) 0))=some (int a) from ?_) (.c (show inR (↑i:Int) (Hn (nuV l))=true from ?_) (.c (show bg Hm v4 3 (.ref (.vp 2 0 (Hw (↑i:Int)) 0))=some (int a) from ?_) (.c (show inR (↑i:Int) (Hn (nuV l))=true from ?_) (.e (.ref (.vp 2 0 (Hw (↑i:Int)) 0)) (.c (show inR (↑i:Int) (Hn (nuV l))=true from ?_) (.e (.ref (.vp 2 0 (Hw (↑i:Int)) 0)) (.c (show(if 0=0 then match (nuV l)[Hw (↑i:Int)]? with|some row=>bT Hm 3 (IC 0 row)|none=>none else none)=some (int a) from ?_) (.c (show(if 0=0 then match (nuV l)[Hw (↑i:Int)]? with|some row=>bT Hm 3 (IC 0 row)|none=>none else none)=some (int a) from ?_) (.c (show inR (↑i:Int) (Hn (nuV l))=true from ?_) (.e (.ref (.vp 2 0 (Hw (↑i:Int)) 0)) (.c (show inR (↑i:Int) (Hn (nuV l))=true from ?_) (.e (.ref (.vp 2 0 (Hw (↑i:Int)) 0)) (.c (show(if 0=0 then match (nuV l)[Hw (↑i:Int)]? with|some row=>bT Hm 3 (IC 0 row)|none=>none else none)=some (int a) from ?_) (.c (show(if 0=0 then match (nuV l)[Hw (↑i:Int)]? with|some row=>bT Hm 3 (IC 0 row)|none=>none else none)=some (int a) from ?_) (.c (show(HJ [v2] (aG 5)&&roomOk (Hn (ae (rdR rs))+Hn [v2]) 40)=true from ?_) (.c (@BB 2 (if false=true then if n>a then n else a else if n<a then n else a) (if true=true then if n>a then n else a else if n<a then n else a) term known (w.f) Qz (jp w term rs l a n)) (.c oN (.c (show am Hm (jp w term rs l a n) 152 (.ref (.mp 3)) (int n) (evalD Γ0 (IK::IK::int term::int known::.ref (.ptr 0 0)::IK::IK::IK::.ref (.vec 2 0)::.ref (.vec 1 1)::ab ns::.ref (.mp 3)::int (↑i:Int)::IK::int n::.ref (.ptr 4 0)::int (atR 2 (if false=true then if n>a then n else a else if n<a then n else a) (if true=true then if n>a then n else a else if n<a then n else a) term known w.f).1::bool (atR 2 (if false=true then if n>a then n else a else if n<a then n else a) (if true=true then if n>a then n else a else if n<a then n else a) term known w.f).2::IK::IK::IK::IK::IK::IK::IK::IK::IK::IK::IK::IK::IK::IK::IK::IK::IK::IK::IK::IK::IK::IK::IK::IK::IK::IK::IK::ab ns::int (↑(Hn ns):Int)::int (↑k:Int)::bool (Zd ((↑k:Int)<(↑(Hn ns):Int)))::D.ep [vi n]::int n::.ref (.mp 3)::int n::bool (Ij l n)::.ref (.vec 2 0)::int (↑i:Int)::.ref (.vp 2 0 (Hw (↑i:Int)) 0)::int a::int n::int (if false=true then if n>a then n else a else if n<a then n else a)::.ref (.vec 2 0)::int (↑i:Int)::.ref (.vp 2 0 (Hw (↑i:Int)) 0)::int a::int n::int (if true=true then if n>a then n else a else if n<a then n else a)::D.agg v3::.ref (.vec 1 0)::D.agg v3::int term::int term::int (Ht Hp (term+1))::D.agg v2::.ref (.vec 5 0)::.ref (.vec 1 1)::HV v1::.ref (.ptr 0 3)::ab (Hl Hv w.f)::D.agg v3::int term::int known::HV v1::mkT 18 0 [(0,int (atR 2 (if false=true then if n>a then n else a else if n<a then n else a) (if true=true then if n>a then n else a else if n<a then n else a) term known w.f).1),(1,bool (atR 2 (if false=true then if n>a then n else a else if n<a then n else a) (if true=true then if n>a then n else a else if n<a then n else a) term known w.f).2),(2,bool (atR 2 (if false=true then if n>a then n else a else if n<a then n else a) (if true=true then if n>a then n else a else if n<a then n else a) term known w.f).2),(3,bool (atR 2 (if false=true then if n>a then n else a else if n<a then n else a) (if true=true then if n>a then n else a else if n<a then n else a) term known w.f).2),(4,D.grd (atR 2 (if false=true then if n>a then n else a else if n<a then n else a) (if true=true then if n>a then n else a else if n<a then n else a) term known w.f).2 (int (atR 2 (if false=true then if n>a then n else a else if n<a then n else a) (if true=true then if n>a then n else a else if n<a then n else a) term known w.f).1)),(5,D.grd (atR 2 (if false=true then if n>a then n else a else if n<a then n else a) (if true=true then if n>a then n else a else if n<a then n else a) term known w.f).2 (bool ((atR 2 (if false=true then if n>a then n else a else if n<a then n else a) (if true=true then if n>a then n else a else if n<a then n else a) term known w.f).1==1))),(6,bool ((atR 2 (if false=true then if n>a then n else a else if n<a then n else a) (if true=true then if n>a then n else a else if n<a then n else a) term known w.f).2&&(atR 2 (if false=true then if n>a then n else a else if n<a then n else a) (if true=true then if n>a then n else a else if n<a then n else a) term known w.f).1==1)),(7,.ref (.mp 3)),(8,int n)]) (Operand.const (Value.bool true)))=some [.var (HI w),.vec (ae (rdR rs)++[v0]) 1 5,.vec (nuV l) 0 1,.map (aK (l++[n])) (Hn (l++[n])),.var [int 2,int (mnI a n),int (mxI a n)],.vec [v0] 0 5] from ?_) (.c (show(HJ [[int n]] (aG 1)&&roomOk (Hn (nuV l)+Hn [[int n]]) 8)=true from ?_) (.c (vMa (rdR rs) [v0] 1 1 0) (.c (nMa l [[int n]] 1 1 0) (.c (show Hl (fun e=>(HO (al 1 1 0) e.1,HO (al 1 1 0) e.2.1,e.2.2)) (aK (l++[n]))=aK (l++[n]) from ?_) (.er [v0] (.er [[int n]] (.c (nMa l [[int n]] 2 1 0) (.c (vMa (rdR rs) [v0] 2 1 0) (.c (show Hl (fun e=>(HO (al 2 1 0) e.1,HO (al 2 1 0) e.2.1,e.2.2)) (aK (l++[n]))=aK (l++[n]) from ?_) (.er [v0] (.er [[int n]] (.c (show HB 4 (match 0==2 with|true=>.vec (nuV l++[[int n]]) 0 1|false=>keepX (al 2 1 0) (match 0==1 with|true=>.vec (ae (rdR rs)++[v0]) 0 5|false=>keepX (al 1 1 0) (.var (HI w))))=true from rfl) (.c (show HB 4 (match 0+1==2 with|true=>.vec (nuV l++[[int n]]) 0 1|false=>keepX (al 2 1 0) (match 0+1==1 with|true=>.vec (ae (rdR rs)++[v0]) 0 5|false=>keepX (al 1 1 0) (.vec (ae (rdR rs)++[v0]) 1 5)))=true from ?_) (.c (iNa 4 l [[int n]] 0 1) (.c (show HB 4 (match 0+1+1+1==2 with|true=>.vec (nuV l++[[int n]]) 0 1|false=>keepX (al 2 1 0) (match 0+1+1+1==1 with|true=>.vec (ae (rdR rs)++[v0]) 0 5|false=>keepX (al 1 1 0) (.map (aK (l++[n])) (Hn (l++[n])))))=true from ?_) .n))))))))))))))))))))))))))))))))))))))) (by subst v0 v1 v2 v3 v4;(simp only[];first|done|rfl)) (by subst v0 v1 v2 v3 v4;(have hh:eqHit w term known a n=true:=oN;simp only[Oy,eqN,dO,hh,cond_true,cond_false,el,gH];first|done|rfl))<;>subst v0 v1 v2 v3 v4<;>(first|exact lkE (l:=l) rfl|exact upE (l:=l) rfl (by assumption)|exact pu rfl ha|exact CB ha|exact vz ha|exact cC _ _|exact b6 _ _|(simp only[el];exact aP)|(simp[aG,D.one,IJ,roomOk];omega))
 ·refine zX {t:=mkT 100 0 [(2,int term),(3,int known),(4,.ref (.ptr 0 0)),(8,.ref (.vec 2 0)),(9,.ref (.vec 1 0)),(10,ab ns),(11,.ref (.mp 3)),(12,int (↑i:Int)),(45,ab ns),(46,int (↑(Hn ns):Int)),(47,int (Ht Hp ((↑k:Int)+1)))],h:=[.var [ab (Hl Hz w.c),ab w.p,ab (Hl HC w.s),ab (Hl Hv w.f)],.vec (ae (rdR rs)) 0 5,.vec (nuV l) 0 1,.map (aK l) (Hn l)],m:=[]} HA [.st (.mask [2,3,4,8,9,10,11,12,45,46,47]),.st (.ren 1 0),.st (.ren 2 0),.st (.trimV 4)] [.b true,.row [vi n],.ov 53 (bool (Ij l n)),.b true] (.c iF (.c hr (.c (show ap Hm [.var (HI w),.vec (ae (rdR rs)) 0 5,.vec (nuV l) 0 1,.map (aK l) (Hn l)] 152 (.ref (.mp 3)) (int n) false=some (bool (Ij l n)) from ?_) (.c dO (.c (vM (rdR rs) 1 0 0) (.c (nM l 1 0 0) (.c (show Hl (fun e=>(HO (al 1 0 0) e.1,HO (al 1 0 0) e.2.1,e.2.2)) (aK l)=aK l from ?_) (.c (nM l 2 0 0) (.c (vM (rdR rs) 2 0 0) (.c (show Hl (fun e=>(HO (al 2 0 0) e.1,HO (al 2 0 0) e.2.1,e.2.2)) (aK l)=aK l from ?_) (.c (show HB 4 (match 0==2 with|true=>.vec (nuV l) 0 1|false=>keepX (al 2 0 0) (match 0==1 with|true=>.vec (ae (rdR rs)) 0 5|false=>keepX (al 1 0 0) (.var (HI w))))=true from rfl) (.c (show HB 4 (match 0+1==2 with|true=>.vec (nuV l) 0 1|false=>keepX (al 2 0 0) (match 0+1==1 with|true=>.vec (ae (rdR rs)) 0 5|false=>keepX (al 1 0 0) (.vec (ae (rdR rs)) 0 5)))=true from ?_) (.c (iN 4 l 0 1) (.c (show HB 4 (match 0+1+1+1==2 with|true=>.vec (nuV l) 0 1|false=>keepX (al 2 0 0) (match 0+1+1+1==1 with|true=>.vec (ae (rdR rs)) 0 5|false=>keepX (al 1 0 0) (.map (aK l) (Hn l))))=true from ?_) .n)))))))))))))) (by(simp only[];first|done|rfl)) (by(simp only[Oy,eqN,dO,cond_true];first|done|rfl))<;>(first|exact lkE (l:=l) rfl|exact cC _ _|exact b6 _ _|exact aP)
theorem Gv{w:WorldT}{term known:Int}{ns:List (List Dp)}{rs:List ReadT}{l:List Int}{i k:Nat}(iF:Zd ((k:Int)<(ns.length:Int))=false):(CW Hm Γ0 [] false (sub Kz 1) (eiS w term known ns rs l i k) (.exit 2) (eoS w term known ns rs l i)):=by
 exact zx [.st (.mask [2,3,4,8,9,10,11,12])] [.b false] (.c iF .n)
theorem tK{w:WorldT}{term known a:Int}(s:RL)(n:Int):(eqN w term known a s n).1.length≤s.1.length+1∧s.2.length≤(eqN w term known a s n).2.length∧(eqN w term known a s n).2.length≤s.2.length+1:=by
 unfold eqN
 cases s.2.contains n<;>simp
 cases eqHit w term known a n<;>simp
theorem Aq{w:WorldT}{term known a b:Int}{s:RL}{n:Int}{i:Nat}(h:s.2[i]? = some b):(eqN w term known a s n).2[i]? = some b:=by
 have hi:=(Hs.1 h).1
 unfold eqN
 cases s.2.contains n<;>simp[h]
 cases eqHit w term known a n<;>simp[h,List.getElem?_append_left hi]
theorem ei_cw{w:WorldT}(Qz:af w.f){term known:Int}{ns:List Int}(hn:ns.length≤1000){rs:List ReadT}{l:List Int}{i:Nat}{a:Int}(ha:l[i]? = some a)(hb:rs.length≤999990000)(hl:l.length≤60000):
  CW Hm Γ0 [] false (.loop (sub Kz 1)) (eiS w term known (ns.map fun n=>[vi n]) rs l i 0) (.exit 2) (eoS w term known (ns.map fun n=>[vi n]) (ns.foldl (eqN w term known a) (rs,l)).1 (ns.foldl (eqN w term known a) (rs,l)).2 i):=by
 have hs:af ns:=by unfold af;omega
 have:=I7 (P:=Hm) (Γ:=Γ0) (h0:=[]) (rd:=false) (c:=sub Kz 1) (σ:=RL) (ρ:=Empty) ns (fun n s=>.inl (eqN w term known a s n))
  (fun k s=>eiS w term known (ns.map fun n=>[vi n]) s.1 s.2 i (k:Int)) (.exit 2) (fun s=>eoS w term known (ns.map fun n=>[vi n]) s.1 s.2 i) (fun r=>r.elim)
  (fun k s=>s.2[i]? = some a∧s.1.length≤rs.length+k∧s.2.length≤l.length+k) (by simp) (fun r=>r.elim) ?_ ?_ (rs,l) ⟨ha,by simp,by simp⟩
 ·rw[aC] at this
  exact this
 ·intro k n s Ta Ot
  have hi:=(Hs.1 Ta).1
  refine⟨fun s' h=>by cases h;have:=tK (w:=w) (term:=term) (known:=known) (a:=a) s n;exact⟨Aq Ot.1,by omega,by omega⟩,Gu Qz Ot.1 (rowAt (row:=fun n=>[vi n]) Ta rfl) (lt_len (fun n=>[vi n]) hi) (wrap_succ hi hs) (by omega) (by omega)⟩
 ·intro s _
  exact Gv (aJ (fun n=>[vi n]) ns)
def jq(w:WorldT)(term known:Int)(ns:List Int)(a:Int)(s:RL):RL:=ns.foldl (eqN w term known a) s
theorem Gw{w:WorldT}(Qz:af w.f){term known:Int}{ns:List Int}(hn:ns.length≤1000){rs:List ReadT}{l:List Int}{i:Nat}{a:Int}(ha:l[i]? = some a)(Oy:Hp.wrap ((i:Int)+1)=((i+1:Nat):Int))(iF:Zd ((i:Int)<((nuV l).length:Int))=true)(hb:rs.length≤999990000)(hl:l.length≤60000):(CW Hm Γ0 [] false (sub Kz 0) (eoS w term known (ns.map fun n=>[vi n]) rs l i) .normal (eoS w term known (ns.map fun n=>[vi n]) (jq w term known ns a (rs,l)).1 (jq w term known ns a (rs,l)).2 (i+1))):=by
 have N1:=(@ei_cw (w) (Qz) (term) (known) (ns) (hn) (rs) (l) (i) (a) (ha) (hb) (hl))
 let v0:=List.foldl (eqN w term known a) (rs,l) ns
 refine zX {t:=mkT 100 0 [(2,int term),(3,int known),(4,.ref (.ptr 0 0)),(8,.ref (.vec 2 0)),(9,.ref (.vec 1 0)),(10,ab (Hl (fun n=>[vi n]) ns)),(11,.ref (.mp 3)),(12,int (Ht Hp ((↑i:Int)+1)))],h:=[.var [ab (Hl Hz w.c),ab w.p,ab (Hl HC w.s),ab (Hl Hv w.f)],.vec (ae (rdR v0.1)) 0 5,.vec (nuV v0.2) 0 1,.map (aK v0.2) (Hn v0.2)],m:=[]} HA [.st (.mask [2,3,4,8,9,10,11,12])] [.b true,.sum [2,3,4,8,9,10,11,12,45,46,47] (HT 2) {t:=mkT 100 0 [(2,int term),(3,int known),(4,.ref (.ptr 0 0)),(8,.ref (.vec 2 0)),(9,.ref (.vec 1 0)),(10,ab (Hl (fun n=>[vi n]) ns)),(11,.ref (.mp 3)),(12,int (↑i:Int))],h:=[.var (HI w),.vec (ae (rdR v0.1)) 0 5,.vec (nuV v0.2) 0 1,.map (aK v0.2) (Hn v0.2)],m:=[]}] (.c iF (.c N1 .n)) ?_ ?_<;>subst v0<;>(first|rfl|(simp only[Oy];rfl))
theorem Gx{w:WorldT}{term known:Int}{ns:List (List Dp)}{rs:List ReadT}{l:List Int}{i:Nat}(iF:Zd ((i:Int)<((nuV l).length:Int))=false):(CW Hm Γ0 [] false (sub Kz 0) (eoS w term known ns rs l i) (.exit 0) (eoE w rs l)):=by
 exact zx [.st (.mask [8,9])] [.b false] (.c iF .n)
def eJ(ns l:List Int):Nat:=(ns.filter fun x=>!l.contains x).length
theorem vA(l:List Int)(n:Int):∀ns:List Int,eJ ns (l++[n])≤eJ ns l
 | []=>by simp[eJ]
 | a::ns=>by
  have ih:=vA l n ns
  unfold eJ at *
  by_cases h:l.contains a=true
  ·have h2:(l++[n]).contains a=true:=by simp at h ⊢;exact .inl h
   simp only[KZ,h,h2,Ka,Ik,if_false];exact ih
  ·have h1:l.contains a=false:=by simpa using h
   simp only[KZ,h1,JU,if_true,HY]
   split
   ·simp only[HY];omega
   ·omega
theorem vB{l:List Int}{n:Int}(hn:l.contains n=false):∀{ns:List Int},n∈ns→eJ ns (l++[n])+1≤eJ ns l
 | a::ns,h=>by
  by_cases ha:a=n
  ·subst ha
   have ih:=vA l a ns
   have h2:(l++[a]).contains a=true:=by simp
   unfold eJ at *
   simp only[KZ,h2,hn,Ka,JU,Ik,if_false,if_true,HY]
   omega
  ·have h':n∈ns:=(List.mem_cons.1 h).resolve_left fun e=>ha e.symm
   have ih:=vB hn h'
   have h2:(l++[n]).contains a=l.contains a:=by
    rw[JJ];simp[ha]
   unfold eJ at *
   simp only[KZ,h2]
   split
   ·simp only[HY];omega
   ·exact ih
theorem Ar{w:WorldT}{term known a n:Int}{ns:List Int}(hn:n∈ns)(s:RL):eJ ns (eqN w term known a s n).2+(eqN w term known a s n).2.length≤eJ ns s.2+s.2.length:=by
 unfold eqN
 cases hc:s.2.contains n
 ·cases eqHit w term known a n
  ·simp
  ·have:=vB hc hn
   simp;omega
 ·simp
theorem d7{w:WorldT}{term known a:Int}{ns:List Int}:∀(ms:List Int),(∀n∈ms,n∈ns)→∀s:RL,eJ ns (ms.foldl (eqN w term known a) s).2+(ms.foldl (eqN w term known a) s).2.length≤eJ ns s.2+s.2.length∧(ms.foldl (eqN w term known a) s).1.length≤s.1.length+ms.length
 | [],_,s=>by simp
 | n::ms,h,s=>by
  have h1:=Ar (w:=w) (term:=term) (known:=known) (a:=a) (h n (by simp)) s
  have h2:=d7 (w:=w) (term:=term) (known:=known) (a:=a) ms (fun x hx=>h x (Iu _ hx)) (eqN w term known a s n)
  have h3:=tK (w:=w) (term:=term) (known:=known) (a:=a) s n
  simp only[H7,HY]
  omega
def eqOut(w:WorldT)(term known:Int)(ns:List Int):Nat→Nat→RL→RL
 | 0,_,s=>s
 | f+1,i,s=>match s.2[i]? with
  | some a=>eqOut w term known ns f (i+1) (jq w term known ns a s)
  | none=>s
theorem jr{w:WorldT}{term known:Int}{ns:List Int}{f i:Nat}{s:RL}(h:s.2[i]? = none):eqOut w term known ns f i s=s:=by
 cases f<;>simp[eqOut,h]
theorem eo_g{w:WorldT}(Qz:af w.f){term known:Int}{ns:List Int}(hn:ns.length≤1000){rs:List ReadT}{l:List Int}(hb:rs.length≤900000000)(hl:eJ ns l+l.length≤ns.length+1):
  CW Hm Γ0 [] false (.loop (sub Kz 0)) (eoS w term known (ns.map fun n=>[vi n]) rs l 0) (.exit 0) (eoE w (eqOut w term known ns (ns.length+1) 0 (rs,l)).1 (eqOut w term known ns (ns.length+1) 0 (rs,l)).2):=by
 refine CW.loop (ι:={p:Nat×Nat×RL // p.2.1+p.1=ns.length+1∧eJ ns p.2.2.2+p.2.2.2.length≤ns.length+1∧p.2.2.1.length≤rs.length+p.2.1*1000∧eqOut w term known ns p.1 p.2.1 p.2.2=eqOut w term known ns (ns.length+1) 0 (rs,l)})
  (fun p=>eoS w term known (ns.map fun n=>[vi n]) p.1.2.2.1 p.1.2.2.2 p.1.2.1) (fun _=>(.exit 0,eoE w (eqOut w term known ns (ns.length+1) 0 (rs,l)).1 (eqOut w term known ns (ns.length+1) 0 (rs,l)).2)) (fun p=>p.1.1) ?_ ⟨(ns.length+1,0,(rs,l)),by simp,hl,by simp,rfl⟩
 rintro⟨⟨f,i,s⟩,h1,h2,h3,h4⟩
 simp only at h1 h2 h3 h4 ⊢
 cases ha:s.2[i]? with
 | none =>
  refine .inr ⟨by simp,?_⟩
  rw[jr ha] at h4
  rw[←h4]
  refine Gx ?_
  rw[e7]
  have:=List.getElem?_eq_none_iff.1 ha
  exact decide_eq_false (by omega)
 | some a =>
  have hi:=(Hs.1 ha).1
  obtain⟨g,rfl⟩:∃g,f=g+1:=⟨f - 1,by omega⟩
  have hf:=d7 (w:=w) (term:=term) (known:=known) (a:=a) (ns:=ns) ns (fun _ h=>h) s
  refine .inl ⟨⟨(g,i+1,jq w term known ns a s),by simp only;omega,by simp only[jq];omega,by simp only[jq];omega,?_⟩,by simp only;omega,trivial,?_⟩
  ·simp only[eqOut,ha] at h4
   exact h4
  ·refine Gw Qz hn ha ?_ ?_ ?_ ?_
   ·rw[wrap_i64 (by omega) (by omega)];omega
   ·rw[e7];exact decide_eq_true (by omega)
   ·omega
   ·omega
def cI(w:WorldT)(c term known:Int):RL:=eqOut w term known (ad w.f known) ((ad w.f known).length+1) 0 ([rdN],[c])
def xk(w:WorldT)(c term known:Int):List Int:=(cI w c term known).2.mergeSort fun x y=>Zd (x≤y)
theorem CC{x0 x1 x3:Blk}{l:List Int}(hl:l.length<4611686018427387904):Ev Hm Γ0 88 [.ref (.vec 2 0)] [x0,x1,.vec (nuV l) 0 1,x3] (.tup []) [x0,x1,.vec (nuV (l.mergeSort fun x y=>Zd (x≤y))) 0 1,x3] :=
 nA (h:=[x0,x1,.vec (nuV l) 0 1,x3]) (b:=2) rfl hl
theorem rd_frz(l:List ReadT):ae (rdR l)=(rdR l).map (Hl II):=rfl
theorem lZ(ns:List Int)(c:Int):eJ ns [c] + [c].length≤ns.length+1:=by
 have:=List.length_filter_le (fun x=>!([c]:List Int).contains x) ns
 unfold eJ;simp only[HY,List.length_nil];omega
theorem eo1_cw{w:WorldT}(hw:w.ok){c term known:Int}(hn:(ad w.f known).length≤1000):
  CW Hm Γ0 [] false (.loop (sub Kz 0)) {t:=mkT 100 0 [(2,int term),(3,int known),(4,.ref (.ptr 0 0)),(8,.ref (.vec 2 0)),(9,.ref (.vec 1 0)),(10,ab ((ad w.f known).map fun n=>[vi n])),(11,.ref (.mp 3)),(12,int 0)],h:=[.var w.l,.vec [[int 12,int 0,int 0,int 0,int 1]] 0 5,.vec [[int c]] 0 1,.map [(int c,bool true,0)] 1],m:=[]}
   (.exit 0) (eoE w (cI w c term known).1 (cI w c term known).2) :=
 eo_g hw.sf hn (rs:=[rdN]) (l:=[c]) (by simp) (lZ _ _)
noncomputable abbrev wV(w:WorldT)(c:Int)(term:Int)(known:Int):List Blk:=[.var [ab (Hl Hz w.c),ab w.p,ab (Hl HC w.s),ab (Hl Hv w.f)],.vec (ae (rdR (cI w c term known).1)) 0 5,.vec (nuV (cI w c term known).2) 0 1,.map (aK (cI w c term known).2) (Hn (cI w c term known).2)]
noncomputable abbrev jt(w:WorldT):List Blk:=[.var [ab (Hl Hz w.c),ab w.p,ab (Hl HC w.s),ab (Hl Hv w.f)]]
theorem Gy{w:WorldT}(hw:w.ok){c term known:Int}(hc:(!(Zd (c≥0)&&Zd (c≤4095))||!(Zd (term≥0)&&Zd (term≤1023)))=false)(hn:(ad w.f known).length≤1000)(hl:(cI w c term known).2.length<4611686018427387904)(hnum:∀h,Ev Hm Γ0 34 [.agg w.l,int known] h (.tup [ab ((ad w.f known).map fun n=>[vi n]),.ref (.vec h.length 0)]) (h++[.vec [[int 12,int 0,int 0,int 0,int 1]] 0 5]))(h:List Blk):(Ev Hm Γ0 120 [.agg w.l,int c,int term,int known] h (.tup [ab ((xk w c term known).map fun n=>[vi n]),ab (rdR (cI w c term known).1)]) h):=by
 have N1:=(@eo1_cw (w) (hw) (c) (term) (known) (hn))
 refine zD (HV [ab (Hl (fun n=>[vi n]) (xk w c term known)),ab (rdR (cI w c term known).1)]) [.val (bool (Zd (c≥0)&&Zd (c≤4095))),.val (bool (Zd (term≥0)&&Zd (term≤1023))),.b false,.call (HV [ab (Hl (fun n=>[vi n]) (ad w.f known)),.ref (.vec 1 0)]) [.var (HI w),.vec [[int 12,int 0,int 0,int 0,int 1]] 0 5],.sum [2,3,4,8,9,10,11,12] (HT 0) {t:=mkT 100 0 [(8,.ref (.vec 2 0)),(9,.ref (.vec 1 0))],h:=(wV w c term known),m:=[]},.call (HV []) [.var (HI w),.vec (ae (rdR (cI w c term known).1)) 0 5,.vec (nuV (IA (cI w c term known).2 fun x y=>Zd (x≤y))) 0 1,.map (aK (cI w c term known).2) (Hn (cI w c term known).2)],.st (.frz 2 (Hl (fun n=>[vi n]) (xk w c term known))),.st (.frz 1 (rdR (cI w c term known).1))] (.c (@eD c 0 4095 (jt w)) (.c (gd (!!(Zd (c≥0)&&Zd (c≤4095))) (@eD term 0 1023 (jt w))) (.c hc (.c (@hnum (jt w)) (.c N1 (.c (@CC (.var (HI w)) (.vec (ae (rdR (cI w c term known).1)) 0 5) (.map (aK (cI w c term known).2) (Hn (cI w c term known).2)) ((cI w c term known).2) hl) (.c (show nuV (IA (cI w c term known).2 fun x y=>Zd (x≤y))=Hl (fun x=>Hl II x) (Hl (fun n=>[vi n]) (xk w c term known)) from ?_) (.c (show Hl (D.mapRL (bD 2 0 (Hl (fun n=>[vi n]) (xk w c term known)))) (ae (rdR (cI w c term known).1))=ae (rdR (cI w c term known).1) from ?_) (.c (show Hl (fun e=>(HO (bD 2 0 (Hl (fun n=>[vi n]) (xk w c term known))) e.1,HO (bD 2 0 (Hl (fun n=>[vi n]) (xk w c term known))) e.2.1,e.2.2)) (aK (cI w c term known).2)=aK (cI w c term known).2 from ?_) (.c (show ae (rdR (cI w c term known).1)=Hl (fun x=>Hl II x) (rdR (cI w c term known).1) from ?_) (.c (show Hl (fun e=>(HO (bD 1 0 (rdR (cI w c term known).1)) e.1,HO (bD 1 0 (rdR (cI w c term known).1)) e.2.1,e.2.2)) (aK (cI w c term known).2)=aK (cI w c term known).2 from ?_) .n))))))))))) h (by rfl)<;>(first|rfl|exact uZ _|exact aL _ _|exact b6 _ _)
end Go.Vi
