/- RecordSituateSpecUpto: part of the proof: contracts of the functions that the law reaches, and the law. No conditions beyond the given statement's own. -/
import Derived.Test.YtilebidefogaiaaGreatDoorW1
import Derived.Shelf.Slices.In.SortAlone
import Derived.Shelf.Slices.In.SortNone
import Derived.Sort.EveryDepth
open Decidable renaming decide → Zd
open Go.Proofs.Tryz renaming prog → Hm, f226 → Ic, f34 → MZ, f159 → H0, f178 → Li
open Go.Vi.RuleT renaming mk → K7, fl → Hr
open Go.IntKind renaming i64 → Hp, wrap → Ht
open Go.Vi.D renaming fn → I4, tup → HV, agg → H6, mapRL → It, mapR → HO, innL → Ig, Om → Jk, any → IK, grd → LF
open Go.Fn renaming func → H2
open Go.Vi.Ev renaming castH → H4, of_sym → JP, glob0 → H5, frameX → JA
open Go.LoopState renaming ready → Ia, exhausted → Ip, busy → Ji
open Go.Vi.CW renaming rangeFunc → MY, each → I7
open Go.Exit renaming normal → HA, exit → HT
open Go.Vi.SysT renaming row → HC
open Go.Vi.FactT renaming row → Hv
open List renaming getElem?_eq_getElem → HH, getD → HD, map → Hl, length → Hn, map_cons → Il, flatten_cons → Iq, cons_append → KK, nil_append → Kc, ext_getElem? → Ki, getElem?_append_left → HK, getElem?_append_right → Ib, idxOf?_eq_none_iff → KY, all → HJ, contains → Ij, getElem?_eq_some_iff → Hs, mergeSort → IA, mem_map → HQ, map_set → ME, flatten → HL, set → J1, range' → KP, length_range → L5
open Int renaming toNat → Hw
open Go.Vi.Dp renaming sl → Jz, v → JB
open Go.Value renaming int → JS, tuple → Ii
open Array renaming getElem?_eq_some_iff → Jh, getElem?_modify → Kj
open Go.Sort renaming grow → Lj, putRow → Jc, ahead → Jq, putCells → JO, heap_grow_old → KW, mapBlock → I8
open Nat renaming le_of_not_lt → JW
open Function renaming comp_def → MK
open Go.Vi.Blk renaming Om → HB
open Bool renaming false_and → Ix, and_false → IG, and_self → Js
open Go.Operand renaming const → Lm, tmp → ML
open Option renaming some → Jv
open Go Go.Proofs
namespace Go.Vi
set_option maxRecDepth 100000
set_option maxHeartbeats 4000000
theorem uW(r0:RuF):∀(r:RuleT),r.ok→∀(dep m:Int),Ev Hm Γk 239 [.agg r.fl.l,int dep,.ref (.yl 6),.ref (.ptr 4 0)] (ckH r0 0 m .ready none) (bool (!(r.walk dep m).2)) (ckSt r0 (r.walk dep m).1 (r.walk dep m).2)
 | .mk op c nm n d ks,hr,dep,m=>by
  have Oa:=RuleT.fl_ok hr
  simp only[RuleT.ok] at hr
  have hiv:=EJ (r0:=r0) (m:=m) (dep:=dep) Oa
  have hlen:((K7 op c nm n d ks).fl.ks.length:Int)=ks.length:=by simp[Hr,eZ]
  have hf:(K7 op c nm n d ks).fl.formed=aq op c n d ks.length:=by
   show aq op c n d ((K7 op c nm n d ks).fl.ks.length:Int)=_
   rw[hlen]
  rw[hf] at hiv
  simp only[RuleT.walk]
  cases hs:j6 (Hp.wrap (m+1)) dep (aq op c n d ks.length) with
  | true =>
   rw[hs] at hiv
   exact walkA hiv
  | false =>
   rw[hs] at hiv
   have:=walkB (r0:=r0) (x:=(K7 op c nm n d ks).fl) (ks:=ks) (eZ ks) hr.1.2.2.2.2 (m:=m) (dep:=dep) hiv (fun k hk m=>uW r0 k (dU hr.2 k hk) _ m)
   rw[BF] at this
   exact this
termination_by r=>SizeOf.sizeOf r
decreasing_by
 have:=List.sizeOf_lt_of_mem hk
 simp only[K7.sizeOf_spec]
 omega
noncomputable abbrev ip(x:RuF)(m':Int):List Blk:=[.var [int x.op,int x.c,au x.nm,int x.n,int x.d,ab x.ks],.var [int 120],.var [int m'],.var [int x.op,int x.c,au x.nm,int x.n,int x.d,ab x.ks],.var [I4 (H2 239) [] [.ref (.ptr 4 0)]],.defd,.loop LoopState.done (some Code.ret) 0 (mkT 23 0 [(2,.ref (.ptr 1 0)),(3,.ref (.ptr 2 0)),(7,I4 (H2 240) [] [.ref (.ptr 4 0),.ref (.ptr 3 0)])]) {toList:=[8,9]} (aH (sub Ic 0)) (ao (sub Ic 0))]
theorem ww{x:RuF}{m':Int}(hk:Ev Hm Γk 239 [.agg x.l,int 1,.ref (.yl 6),.ref (.ptr 4 0)] (ckH x 0 0 .ready none) (bool false) (ckH x 120 m' .done (some .ret))):(Ev Hm Γk 240 [.ref (.yl 6),.ref (.ptr 4 0),.ref (.ptr 3 0)] (ckH x 0 0 .ready none) (.tup []) (ckH x 120 m' .done (some .ret))):=by
 exact H4 (JP (h':=(ip x m')) (d:=HV []) pok [.call (bool false) (ip x m')] (by kernel_rfl) (.c (@hk) .n)) (by rfl) (by rfl)
noncomputable abbrev iq(x:RuF)(m':Int):List Blk:=[.var [int x.op,int x.c,au x.nm,int x.n,int x.d,ab x.ks],.var [int 0],.var [int m'],.var [int x.op,int x.c,au x.nm,int x.n,int x.d,ab x.ks],.var [I4 (H2 239) [] [.ref (.ptr 4 0)]],.defd,.loop Ia none 0 (mkT 23 0 [(2,.ref (.ptr 1 0)),(3,.ref (.ptr 2 0)),(7,I4 (H2 240) [] [.ref (.ptr 4 0),.ref (.ptr 3 0)])]) {toList:=[8,9]} (aH (sub Ic 0)) (ao (sub Ic 0))]
theorem wx{x:RuF}{m':Int}(hk:Ev Hm Γk 239 [.agg x.l,int 1,.ref (.yl 6),.ref (.ptr 4 0)] (ckH x 0 0 .ready none) (bool true) (ckH x 0 m' .ready none)):(Ev Hm Γk 240 [.ref (.yl 6),.ref (.ptr 4 0),.ref (.ptr 3 0)] (ckH x 0 0 .ready none) (.tup []) (ckH x 0 m' .ready none)):=by
 exact H4 (JP (h':=(iq x m')) (d:=HV []) pok [.call (bool true) (iq x m')] (by kernel_rfl) (.c (@hk) .n)) (by rfl) (by rfl)
abbrev ckH0(r:RuF):List Blk:=[.var r.l,.var [int 0],.var [int 0],.var r.l,.var [.fn (.func 239) [] [.ref (.ptr 4 0)]]]
theorem ckT_rf{x:RuF}{m':Int}(hk:Ev Hm Γk 239 [.agg x.l,int 1,.ref (.yl 6),.ref (.ptr 4 0)] (ckH x 0 0 .ready none) (bool false) (ckH x 120 m' .done (some .ret))):
  CW Hm Γk [] false (sub Ic 0) {t:=ckT,h:=ckH0 x,m:=[]} .ret {t:=ckT,h:=ckH x 120 m' .exhausted (some .ret),m:=[5]} :=
 MY (f:=240) (fi:=[]) (ca:=[.ref (.ptr 4 0),.ref (.ptr 3 0)]) pok (s:={t:=ckT,h:=ckH0 x,m:=[]}) (g:=.tmp 7) (ps:=#[8,9]) (asg:=aH (sub Ic 0)) (body:=ao (sub Ic 0)) rfl (by kernel_rfl) (ww hk) rfl
theorem ckF_rf{x:RuF}{m':Int}(hk:Ev Hm Γk 239 [.agg x.l,int 1,.ref (.yl 6),.ref (.ptr 4 0)] (ckH x 0 0 .ready none) (bool true) (ckH x 0 m' .ready none)):
  CW Hm Γk [] false (sub Ic 0) {t:=ckT,h:=ckH0 x,m:=[]} .normal {t:=ckT,h:=ckH x 0 m' .exhausted none,m:=[5]} :=
 MY (f:=240) (fi:=[]) (ca:=[.ref (.ptr 4 0),.ref (.ptr 3 0)]) pok (s:={t:=ckT,h:=ckH0 x,m:=[]}) (g:=.tmp 7) (ps:=#[8,9]) (asg:=aH (sub Ic 0)) (body:=ao (sub Ic 0)) rfl (by kernel_rfl) (wx hk) rfl
def RuleT.bad(r:RuleT):Bool:=(r.walk 1 0).2
noncomputable def EX(x:RuF)(p:Int×Bool):Exit×AS:=match p.2 with
 | true=>(.ret,{t:=ckT,h:=ckH x 120 p.1 .exhausted (some .ret),m:=[5]})
 | false=>(.normal,{t:=ckT,h:=ckH x 0 p.1 .exhausted none,m:=[5]})
theorem BS{r:RuleT}(hr:r.ok){x:RuF}(hx:x=r.fl):CW Hm Γk [] false (sub Ic 0) {t:=ckT,h:=ckH0 x,m:=[]} (EX x (r.walk 1 0)).1 (EX x (r.walk 1 0)).2:=by
 subst hx
 have hk:=uW r.fl r hr 1 0
 unfold EX
 cases h:r.walk 1 0 with
 | mk m' b =>
  rw[h] at hk
  cases b with
  | true=>exact ckT_rf hk
  | false=>exact ckF_rf hk
def cA(b:Bool):Int:=match b with|true=>120|false=>0
theorem EY{r:RuleT}(hr:r.ok){x:RuF}(hx:x=r.fl)(h:List Blk):(Ev Hm Γk 226 [.agg x.l] h (int (cA r.bad)) h):=by
 have N1:=(@BS (r) (hr) (x) (hx))
 revert N1
 cases O0:RuleT.walk r 1 0 with
 | mk o1_0_0 o1_0_1 =>
  intro N1
  revert N1
  cases O1:o1_0_1 with
  | false =>
   intro N1
   exact zD (int 0) [.inl,.sum [2,3,7] (HA) {t:=mkT 23 0 [(2,.ref (.ptr 1 0)),(3,.ref (.ptr 2 0)),(7,I4 (H2 240) [] [.ref (.ptr 4 0),.ref (.ptr 3 0)])],h:=[.var [int x.op,int x.c,au x.nm,int x.n,int x.d,ab x.ks],.var [int 0],.var [int o1_0_0],.var [int x.op,int x.c,au x.nm,int x.n,int x.d,ab x.ks],.var [I4 (H2 239) [] [.ref (.ptr 4 0)]],.defd,.loop Ip none 0 (mkT 23 0 [(2,.ref (.ptr 1 0)),(3,.ref (.ptr 2 0)),(7,I4 (H2 240) [] [.ref (.ptr 4 0),.ref (.ptr 3 0)])]) {toList:=[8,9]} (aH (sub Ic 0)) (ao (sub Ic 0))],m:=[5]}] (.c N1 .n) h (by simp[RuleT.bad,cA,O0,O1])
  | true =>
   intro N1
   exact zD (int 120) [.inl,.sum [2,3,7] (Exit.ret) {t:=mkT 23 0 [(2,.ref (.ptr 1 0)),(3,.ref (.ptr 2 0)),(7,I4 (H2 240) [] [.ref (.ptr 4 0),.ref (.ptr 3 0)])],h:=[.var [int x.op,int x.c,au x.nm,int x.n,int x.d,ab x.ks],.var [int 120],.var [int o1_0_0],.var [int x.op,int x.c,au x.nm,int x.n,int x.d,ab x.ks],.var [I4 (H2 239) [] [.ref (.ptr 4 0)]],.defd,.loop Ip (some Code.ret) 0 (mkT 23 0 [(2,.ref (.ptr 1 0)),(3,.ref (.ptr 2 0)),(7,I4 (H2 240) [] [.ref (.ptr 4 0),.ref (.ptr 3 0)])]) {toList:=[8,9]} (aH (sub Ic 0)) (ao (sub Ic 0))],m:=[5]}] (.c N1 .n) h (by simp[RuleT.bad,cA,O0,O1])
theorem ir{r:RuleT}(hr:r.ok)(h:List Blk):Ev Hm Γk 226 [.agg r.fl.l] h (int (cA r.bad)) h:=by
 exact EY hr rfl h
structure CourseT where
 name:ByteArray
 number:Int
 bY:Int
 rep:Int
 oF:RuleT
 Bv:RuleT
def CourseT.row(c:CourseT):List Dp:=[vs c.name,vi c.number,vi c.bY,vi c.rep,
 vi c.oF.fl.op,vi c.oF.fl.c,vs c.oF.fl.nm,vi c.oF.fl.n,vi c.oF.fl.d,.sl c.oF.fl.ks,vi c.Bv.fl.op,vi c.Bv.fl.c,vs c.Bv.fl.nm,vi c.Bv.fl.n,vi c.Bv.fl.d,.sl c.Bv.fl.ks]
def CourseT.ok(c:CourseT):Prop:=c.oF.ok∧c.Bv.ok
def bX(c:CourseT):Bool:=inB c.number 0 4095&&inB c.bY 1 60&&inB c.rep 0 2&&(cA c.oF.bad==0)&&(cA c.Bv.bad==0)
noncomputable abbrev cB(c:CourseT):List Blk:=[.var [au c.name,int c.number,int c.bY,int c.rep,int (Hr c.oF).op,int (Hr c.oF).c,au (Hr c.oF).nm,int (Hr c.oF).n,int (Hr c.oF).d,ab (Hr c.oF).ks,int (Hr c.Bv).op,int (Hr c.Bv).c,au (Hr c.Bv).nm,int (Hr c.Bv).n,int (Hr c.Bv).d,ab (Hr c.Bv).ks]]
theorem wy{c:CourseT}(hc:c.ok)(h:List Blk):(Ev Hm Γk 198 [ag c.row] h (bool (bX c)) h):=by
 refine z0 [.val (bool (Zd (c.number≥0)&&Zd (c.number≤4095))),.val (bool (Zd (c.bY≥1)&&Zd (c.bY≤60))),.val (bool (Zd (c.rep≥0)&&Zd (c.rep≤2))),.val (int (cA (RuleT.bad c.oF))),.val (int (cA (RuleT.bad c.Bv)))] (.c (H5 (Γ':=Γk) (@eD (c.number) 0 4095 (cB c))) (.c (gd (Zd (c.number≥0)&&Zd (c.number≤4095)) (H5 (Γ':=Γk) (@eD (c.bY) 1 60 (cB c)))) (.c (gd (Zd (c.number≥0)&&Zd (c.number≤4095)&&(Zd (c.bY≥1)&&Zd (c.bY≤60))) (H5 (Γ':=Γk) (@eD (c.rep) 0 2 (cB c)))) (.c (gd (Zd (c.number≥0)&&Zd (c.number≤4095)&&(Zd (c.bY≥1)&&Zd (c.bY≤60))&&(Zd (c.rep≥0)&&Zd (c.rep≤2))) (@ir (c.oF) ?_ (cB c))) (.c (gd (Zd (c.number≥0)&&Zd (c.number≤4095)&&(Zd (c.bY≥1)&&Zd (c.bY≤60))&&(Zd (c.rep≥0)&&Zd (c.rep≤2))&&cA (RuleT.bad c.oF)==0) (@ir (c.Bv) ?_ (cB c))) .n))))) h<;>(first|exact hc.1|exact hc.2)
noncomputable abbrev s8(c:CourseT)(n:Int):List Blk:=[.var [int n],.var [au c.name,int c.number,int c.bY,int c.rep,int (Hr c.oF).op,int (Hr c.oF).c,au (Hr c.oF).nm,int (Hr c.oF).n,int (Hr c.oF).d,ab (Hr c.oF).ks,int (Hr c.Bv).op,int (Hr c.Bv).c,au (Hr c.Bv).nm,int (Hr c.Bv).n,int (Hr c.Bv).d,ab (Hr c.Bv).ks]]
theorem uX{c:CourseT}(hc:c.ok){n:Int}:(Ev Hm Γk 197 [ag c.row,.ref (.ptr 0 0)] [.var [int n]] (bool (c.number==n&&bX c)) [.var [int n]]):=by
 exact H4 (Ev.symT (h':=[.var [int n]]) (d:=bool (c.number==n&&bX c)) pok [.val (bool (bX c))] (by kernel_rfl) (.c (gd (c.number==n) (@wy c hc (s8 c n))) .n)) (by rfl) (by rfl)
structure WorldT where
 c:List CourseT
 p:List (List Dp)
 s:List SysT
 f:List FactT
def WorldT.l(w:WorldT):List D:=[ab (w.c.map CourseT.row),ab w.p,ab (w.s.map HC),ab (w.f.map Hv)]
abbrev atA(w:WorldT)(kk ks ko term known:Int):List D:=[ab (w.f.map Hv),.agg [int kk,int ks,int ko],int term,int known]
abbrev s9(kk ks ko a b:Int):List (List Dp):=[[vi kk,vi ks,vi ko,vi a,vi b]]
theorem cj{α:Type}[Inhabited α]{row:α→List Dp}{l:List α}{v:Int}{sz:Nat}(hs:∀x,(row x).length=sz)(h0:0≤v)(h1:v<(l.length:Int)):aj v (l.map row) (row (l.getD v.toNat default)) sz:=by
 obtain⟨n,rfl⟩:∃n:Nat,v=n:=⟨v.toNat,by omega⟩
 have hn:n<l.length:=by omega
 have hx:l[n]? = some l[n]:=HH hn
 have:l.getD (Hw (n:Int)) default=l[n]:=by simp[HD,hx]
 rw[this]
 exact rowAt hx (hs _)
def j7{α:Type}[Inhabited α](l:List α)(valid:α→Bool)(p:Int×Bool):Bool:=!p.2||Zd (p.1<0)||Zd (p.1≥(l.length:Int))||!valid (l.getD p.1.toNat default)
def j8{α:Type}[Inhabited α](l:List α)(valid:α→Bool)(z:α)(p:Int×Bool):α×Bool:=match j7 l valid p with
 | true=>(z,false)
 | false=>(l.getD p.1.toNat default,true)
theorem yZ{α:Type}[Inhabited α]{l:List α}{valid:α→Bool}{p:Int×Bool}(h:j7 l valid p=false):l.getD p.1.toNat default∈l∧valid (l.getD p.1.toNat default)=true∧p.2=true∧0≤p.1∧p.1<l.length:=by
 unfold j7 at h
 simp only[Bool.or_eq_false_iff,Bool.not_eq_false',decide_eq_false_iff_not] at h
 obtain⟨⟨⟨h1,h2⟩,h3⟩,h4⟩:=h
 refine⟨?_,h4,h1,by omega,by omega⟩
 have:p.1.toNat<l.length:=by omega
 rw[HD,HH this]
 exact List.getElem_mem this
structure WorldT.ok (w:WorldT):Prop where
 c:∀x∈w.c,x.ok
 s:∀x∈w.s,x.ok
 lf:w.f.length≤69000
 lc:af w.c
 ls:af w.s
 i:∀f∈w.f,f.ok
theorem WorldT.ok.sf{w:WorldT}(h:w.ok):af w.f:=by have:=h.lf;unfold af;omega
def outB(term:Int):Bool:=!(Zd (term≥0)&&Zd (term≤1023))
def jR(kk ks ko term:Int):List (List Dp):=match outB term with
 | true=>[]
 | false=>s9 kk ks ko term (Hp.wrap (term+1))
def RuleT.zero:RuleT:=.mk 0 0 ⟨#[]⟩ 0 0 []
def CourseT.zero:CourseT:=⟨⟨#[]⟩,0,0,0,RuleT.zero,RuleT.zero⟩
instance:Inhabited CourseT:=⟨CourseT.zero⟩
theorem CourseT.zero_ok:CourseT.zero.ok:=by
 have:RuleT.zero.ok:=⟨by unfold I64 af;simp,trivial⟩
 exact⟨this,this⟩
theorem ny{l:List CourseT}(h:∀x∈l,x.ok)(n:Nat):(l.getD n default).ok:=by
 rcases Nat.lt_or_ge n l.length with hn|hn
 ·rw[HD,HH hn];exact h _ (List.getElem_mem hn)
 ·rw[HD,List.getElem?_eq_none hn];exact CourseT.zero_ok
abbrev crsZ:D:=ag CourseT.zero.row
def cg(n:Int)(c:CourseT):Bool:=c.number==n&&bX c
noncomputable abbrev lc0_x0(w:WorldT)(n:Int):List Blk:=[.var [int n],.var [ab (Hl CourseT.row w.c),ab w.p,ab (Hl HC w.s),ab (Hl Hv w.f)],.var [int 1,int n,int 0],.var [au {data:=#[]},int 0,int 0,int 0,int 0,int 0,au {data:=#[]},int 0,int 0,nq,int 0,int 0,au {data:=#[]},int 0,int 0,nq]]
theorem lc0{w:WorldT}{n term known:Int}(ht:(!(Zd (term≥0)&&Zd (term≤1023)))=true):(Ev Hm Γk 199 [.agg w.l,ab (w.c.map CourseT.row),.agg [int 1,int n,int 0],int term,int known,.fn (.func 197) [] [.ref (.ptr 0 0)]] [.var [int n]] (.tup [crsZ,ab [],bool false]) [.var [int n]]):=by
 exact H4 (Ev.nilW (Ev.symT (h':=[.var [int n]]) (d:=HV [H6 [au {data:=#[]},int 0,int 0,int 0,int 0,int 0,au {data:=#[]},int 0,int 0,nq,int 0,int 0,au {data:=#[]},int 0,int 0,nq],nq,bool false]) pok [.val (bool (Zd (term≥0)&&Zd (term≤1023))),.b true] (by kernel_rfl) (.c (H5 (Γ':=Γk) (@eD term 0 1023 (lc0_x0 w n))) (.c ht .n)))) (by rfl) (by rfl)
noncomputable abbrev uY(w:WorldT)(v:Int):List D:=[H6 [au (HD w.c (Hw v) default).name,int (HD w.c (Hw v) default).number,int (HD w.c (Hw v) default).bY,int (HD w.c (Hw v) default).rep,int (Hr (HD w.c (Hw v) default).oF).op,int (Hr (HD w.c (Hw v) default).oF).c,au (Hr (HD w.c (Hw v) default).oF).nm,int (Hr (HD w.c (Hw v) default).oF).n,int (Hr (HD w.c (Hw v) default).oF).d,ab (Hr (HD w.c (Hw v) default).oF).ks,int (Hr (HD w.c (Hw v) default).Bv).op,int (Hr (HD w.c (Hw v) default).Bv).c,au (Hr (HD w.c (Hw v) default).Bv).nm,int (Hr (HD w.c (Hw v) default).Bv).n,int (Hr (HD w.c (Hw v) default).Bv).d,ab (Hr (HD w.c (Hw v) default).Bv).ks],.ref (.ptr 0 0)]
noncomputable abbrev jS(w:WorldT)(n:Int):List Blk:=[.var [int n],.var [ab (Hl CourseT.row w.c),ab w.p,ab (Hl HC w.s),ab (Hl Hv w.f)],.var [int 1,int n,int 0],.var [au {data:=#[]},int 0,int 0,int 0,int 0,int 0,au {data:=#[]},int 0,int 0,nq,int 0,int 0,au {data:=#[]},int 0,int 0,nq],.gone]
noncomputable abbrev Dg(w:WorldT)(n:Int):List Blk:=[.var [int n],.var [ab (Hl CourseT.row w.c),ab w.p,ab (Hl HC w.s),ab (Hl Hv w.f)],.var [int 1,int n,int 0],.var [au {data:=#[]},int 0,int 0,int 0,int 0,int 0,au {data:=#[]},int 0,int 0,nq,int 0,int 0,au {data:=#[]},int 0,int 0,nq]]
theorem lc1{w:WorldT}{n term known v:Int}{b:Bool}(ht:(!(Zd (term≥0)&&Zd (term≤1023)))=false)(Ps:∀h,Ev Hm Γk 86 (atA w 1 n 0 term known) h (.tup [int v,bool b]) h)(hs:∀x∈w.c,x.ok):(Ev Hm Γk 199 [.agg w.l,ab (w.c.map CourseT.row),.agg [int 1,int n,int 0],int term,int known,.fn (.func 197) [] [.ref (.ptr 0 0)]] [.var [int n]] (.tup [ag (j8 w.c (cg n) CourseT.zero (v,b)).1.row,ab (s9 1 n 0 term (Hp.wrap (term+1))),bool (j8 w.c (cg n) CourseT.zero (v,b)).2]) [.var [int n]]):=by
 cases dO:!b||Zd (v<0)||Zd (v≥(↑(Hn (Hl CourseT.row w.c)):Int))||!((HD w.c (Hw v) default).number==n&&bX (HD w.c (Hw v) default))
 ·let v0:=HD w.c (Hw v) default
  let v1:=Hl CourseT.row w.c
  let v2:List D:=[int 1,int n,int 0,int term,int (Ht Hp (term+1))]
  refine H4 (Ev.nilW (Ev.symT (h':=[.var [int n]]) (d:=HV [H6 [au v0.name,int v0.number,int v0.bY,int v0.rep,int (Hr v0.oF).op,int (Hr v0.oF).c,au (Hr v0.oF).nm,int (Hr v0.oF).n,int (Hr v0.oF).d,ab (Hr v0.oF).ks,int (Hr v0.Bv).op,int (Hr v0.Bv).c,au (Hr v0.Bv).nm,int (Hr v0.Bv).n,int (Hr v0.Bv).d,ab (Hr v0.Bv).ks],ab [[vi 1,vi n,vi 0,vi term,vi (Ht Hp (term+1))]],bool true]) pok [.val (bool (Zd (term≥0)&&Zd (term≤1023))),.b false,.nx 1,.st (.frz 4 (s9 1 n 0 term (Ht Hp (term+1)))),.val (HV [int v,bool b]),.row [vs v0.name,vi v0.number,vi v0.bY,vi v0.rep,vi (Hr v0.oF).op,vi (Hr v0.oF).c,vs (Hr v0.oF).nm,vi (Hr v0.oF).n,vi (Hr v0.oF).d,Jz (Hr v0.oF).ks,vi (Hr v0.Bv).op,vi (Hr v0.Bv).c,vs (Hr v0.Bv).nm,vi (Hr v0.Bv).n,vi (Hr v0.Bv).d,Jz (Hr v0.Bv).ks],.val (bool (v0.number==n&&bX v0)),.b false,.row [vs v0.name,vi v0.number,vi v0.bY,vi v0.rep,vi (Hr v0.oF).op,vi (Hr v0.oF).c,vs (Hr v0.oF).nm,vi (Hr v0.oF).n,vi (Hr v0.oF).d,Jz (Hr v0.oF).ks,vi (Hr v0.Bv).op,vi (Hr v0.Bv).c,vs (Hr v0.Bv).nm,vi (Hr v0.Bv).n,vi (Hr v0.Bv).d,Jz (Hr v0.Bv).ks]] (by kernel_rfl) (.c (H5 (Γ':=Γk) (@eD term 0 1023 (Dg w n))) (.c ht (.er [v2] (.c (@Ps (jS w n)) (.c (show(!(!b||Zd (v<0)||Zd (v≥(↑(Hn v1):Int))))=true→aj v v1 [vs v0.name,vi v0.number,vi v0.bY,vi v0.rep,vi (Hr v0.oF).op,vi (Hr v0.oF).c,vs (Hr v0.oF).nm,vi (Hr v0.oF).n,vi (Hr v0.oF).d,Jz (Hr v0.oF).ks,vi (Hr v0.Bv).op,vi (Hr v0.Bv).c,vs (Hr v0.Bv).nm,vi (Hr v0.Bv).n,vi (Hr v0.Bv).d,Jz (Hr v0.Bv).ks] 16 from(fun hg=>?_)) (.c (show(!(!b||Zd (v<0)||Zd (v≥(↑(Hn v1):Int))))=true→Ev Hm Γk 197 (uY w v) (jS w n) (bool (v0.number==n&&bX v0)) (jS w n) from(fun hg=>(H4 (JA (args:=(uY w v)) (H:=(jS w n)) [0] (@uX v0 ?_ n) (by kernel_rfl) (by kernel_rfl) (by kernel_rfl) trivial trivial) (by kernel_rfl) (by kernel_rfl)))) (.c dO (.c (show aj v v1 [vs v0.name,vi v0.number,vi v0.bY,vi v0.rep,vi (Hr v0.oF).op,vi (Hr v0.oF).c,vs (Hr v0.oF).nm,vi (Hr v0.oF).n,vi (Hr v0.oF).d,Jz (Hr v0.oF).ks,vi (Hr v0.Bv).op,vi (Hr v0.Bv).c,vs (Hr v0.Bv).nm,vi (Hr v0.Bv).n,vi (Hr v0.Bv).d,Jz (Hr v0.Bv).ks] 16 from ?_) .n)))))))))) (by subst v0 v1 v2;(have hb:j7 w.c (cg n) (v,b)=false:=by rw[←dO];simp[j7,cg]);simp only[j8,hb];rfl) (by subst v0 v1 v2;rfl)<;>subst v0 v1 v2<;>(first|exact ny hs _|(refine cj (fun _=>rfl) ?_ ?_<;>simp_all;done))
 ·let v0:=HD w.c (Hw v) default
  let v1:List D:=[int 1,int n,int 0,int term,int (Ht Hp (term+1))]
  refine H4 (Ev.nilW (Ev.symT (h':=[.var [int n]]) (d:=HV [H6 [au {data:=#[]},int 0,int 0,int 0,int 0,int 0,au {data:=#[]},int 0,int 0,nq,int 0,int 0,au {data:=#[]},int 0,int 0,nq],ab [[vi 1,vi n,vi 0,vi term,vi (Ht Hp (term+1))]],bool false]) pok [.val (bool (Zd (term≥0)&&Zd (term≤1023))),.b false,.nx 1,.st (.frz 4 (s9 1 n 0 term (Ht Hp (term+1)))),.val (HV [int v,bool b]),.row [vs v0.name,vi v0.number,vi v0.bY,vi v0.rep,vi (Hr v0.oF).op,vi (Hr v0.oF).c,vs (Hr v0.oF).nm,vi (Hr v0.oF).n,vi (Hr v0.oF).d,Jz (Hr v0.oF).ks,vi (Hr v0.Bv).op,vi (Hr v0.Bv).c,vs (Hr v0.Bv).nm,vi (Hr v0.Bv).n,vi (Hr v0.Bv).d,Jz (Hr v0.Bv).ks],.val (bool (v0.number==n&&bX v0)),.b true] (by kernel_rfl) (.c (H5 (Γ':=Γk) (@eD term 0 1023 (Dg w n))) (.c ht (.er [v1] (.c (@Ps (jS w n)) (.c (show(!(!b||Zd (v<0)||Zd (v≥(↑(Hn (Hl CourseT.row w.c)):Int))))=true→aj v (Hl CourseT.row w.c) [vs v0.name,vi v0.number,vi v0.bY,vi v0.rep,vi (Hr v0.oF).op,vi (Hr v0.oF).c,vs (Hr v0.oF).nm,vi (Hr v0.oF).n,vi (Hr v0.oF).d,Jz (Hr v0.oF).ks,vi (Hr v0.Bv).op,vi (Hr v0.Bv).c,vs (Hr v0.Bv).nm,vi (Hr v0.Bv).n,vi (Hr v0.Bv).d,Jz (Hr v0.Bv).ks] 16 from(fun hg=>(by subst v0 v1;(refine cj (fun _=>rfl) ?_ ?_<;>simp_all;done)))) (.c (show(!(!b||Zd (v<0)||Zd (v≥(↑(Hn (Hl CourseT.row w.c)):Int))))=true→Ev Hm Γk 197 (uY w v) (jS w n) (bool (v0.number==n&&bX v0)) (jS w n) from(fun hg=>(H4 (JA (args:=(uY w v)) (H:=(jS w n)) [0] (@uX v0 (by subst v0 v1;exact ny hs _) n) (by kernel_rfl) (by kernel_rfl) (by kernel_rfl) trivial trivial) (by kernel_rfl) (by kernel_rfl)))) (.c dO .n))))))))) ?_ ?_<;>subst v0 v1<;>(first|(have hb:j7 w.c (cg n) (v,b)=true:=by rw[←dO];simp[j7,cg]);simp only[j8,hb];rfl|rfl)
def ac(w:WorldT)(n term known:Int):CourseT×Bool:=match outB term with
 | true=>(CourseT.zero,false)
 | false=>j8 w.c (cg n) CourseT.zero (atR 1 n 0 term known w.f)
theorem wz{w:WorldT}(hw:w.ok){n term known:Int}:Ev Hm Γk 199 [.agg w.l,ab (w.c.map CourseT.row),.agg [int 1,int n,int 0],int term,int known,.fn (.func 197) [] [.ref (.ptr 0 0)]] [.var [int n]] (.tup [ag (ac w n term known).1.row,ab (jR 1 n 0 term),bool (ac w n term known).2]) [.var [int n]]:=by
 unfold ac jR
 cases ht:outB term with
 | true=>exact lc0 ht
 | false=>exact lc1 ht (fun h=>H5 (BB hw.sf h)) hw.c
noncomputable abbrev fK(w:WorldT)(n:Int):List Blk:=[.var [ab (Hl CourseT.row w.c),ab w.p,ab (Hl HC w.s),ab (Hl Hv w.f)],.var [int n],.var [au {data:=#[]},int 0,int 0,int 0,int 0,int 0,au {data:=#[]},int 0,int 0,nq,int 0,int 0,au {data:=#[]},int 0,int 0,nq]]
theorem wA{w:WorldT}(hw:w.ok){n term known:Int}(h:List Blk):(Ev Hm Γk 161 [.agg w.l,int n,int term,int known] h (.tup [ag (ac w n term known).1.row,ab (jR 1 n 0 term),bool (ac w n term known).2]) h):=by
 let v0:=HV [H6 [au (ac w n term known).1.name,int (ac w n term known).1.number,int (ac w n term known).1.bY,int (ac w n term known).1.rep,int (Hr (ac w n term known).1.oF).op,int (Hr (ac w n term known).1.oF).c,au (Hr (ac w n term known).1.oF).nm,int (Hr (ac w n term known).1.oF).n,int (Hr (ac w n term known).1.oF).d,ab (Hr (ac w n term known).1.oF).ks,int (Hr (ac w n term known).1.Bv).op,int (Hr (ac w n term known).1.Bv).c,au (Hr (ac w n term known).1.Bv).nm,int (Hr (ac w n term known).1.Bv).n,int (Hr (ac w n term known).1.Bv).d,ab (Hr (ac w n term known).1.Bv).ks],ab (jR 1 n 0 term),bool (ac w n term known).2]
 exact z0 [.val v0] (.c (show Ev Hm Γk 199 [H6 (WorldT.l w),ab (Hl CourseT.row w.c),H6 [int 1,int n,int 0],int term,int known,I4 (H2 197) [] [.ref (.ptr 1 0)]] (fK w n) v0 (fK w n) from(H4 (JA (args:=[H6 (WorldT.l w),ab (Hl CourseT.row w.c),H6 [int 1,int n,int 0],int term,int known,I4 (H2 197) [] [.ref (.ptr 1 0)]]) (H:=(fK w n)) [1] (@wz w hw n term known) (by kernel_rfl) (by kernel_rfl) (by kernel_rfl) trivial trivial) (by kernel_rfl) (by kernel_rfl))) .n) h
end Go.Vi
open Go Go.Proofs Go.Shelf
namespace Go.Vi
set_option maxRecDepth 100000
set_option maxHeartbeats 4000000
abbrev fL(l:List Int):List (List D):=l.map fun n=>[int n]
theorem rE{w:World}{av:Nat→Prop}{loc:Loc}{h:List Blk}:∀{l:List Int} {ys:List Value},RelL w av loc h (fL l).flatten ys→ys=l.map (JS .i64)
 | [],[],_=>rfl
 | [],_::_,r=>by simp[RelL] at r
 | _::_,[],r=>by simp[RelL] at r
 | n::l,y::ys,r=>by
  simp only[fL,Il,Iq,KK,Kc,RelL] at r
  have h1:y=.int .i64 n:=by simpa[Rel,RelP] using r.1
  rw[h1,rE (l:=l) r.2];rfl
theorem nz{w:World}{av:Nat→Prop}{loc:Loc}{h:List Blk}:∀{l:List Int},RelL w av loc h (fL l).flatten (l.map (JS .i64))
 | []=>trivial
 | n::l=>by
  simp only[fL,Il,Iq,KK,Kc,RelL]
  exact⟨by simp[Rel,RelP],nz (l:=l)⟩
theorem ta{P:Program}{ρ:Ren}{Γ:aw}(L:Lays.n189 P ρ){h:List Blk}{b e:Nat}{l:List Int}(hb:h[b]? = some (.vec (fL l) e 1))(hl:l.length<4611686018427387904):
  Ev P Γ (ρ.f 189) [.ref (.vec b e)] h (.tup []) (h.set b (.vec (fL (l.mergeSort fun x y=>Zd (x≤y))) e 1)):=by
 intro O w loc vs R ra
 obtain⟨y,rfl⟩:∃y,vs=[y]:=by
  match vs,ra with
  | [y],_=>exact⟨y,rfl⟩
  | [],r=>simp[RelL] at r
  | _::_::_,r=>simp[RelL] at r
 have r:=ra.1
 simp only[Rel,RefRel,hb] at r
 have hv:=r.2.2 trivial
 have B:=R.bV b _ hb
 simp only[BlkOk] at B
 have hlen:(fL l).length=l.length:=by simp[fL]
 refine callsIn_wide.2 ?_
 cases N4:loc b with
 | none =>
  rw[N4] at hv B
  obtain⟨hn,rfl⟩:=hv
  have N1:l=[]:=by simpa[fL] using hn
  subst N1
  refine Calls.mono (calls_of_every_depth fun D=>AnyS.slices_Sort_int_none_alone L D none 0 w) ?_
  rintro e' w' ⟨rfl,rfl⟩
  have Qs:h.set b (.vec (fL ([].mergeSort fun x y=>Zd (x≤y))) e 1)=h:=by
   apply Ki
   intro i
   by_cases hi:i=b
   ·subst hi;rw[bc hb,hb];simp
   ·rw[bB _ _ hi]
  refine⟨.tuple #[],.tup [],_,loc,rfl,⟨rfl,rfl⟩,?_,?_,?_⟩
  ·rw[Qs];exact R
  ·rw[Qs];exact Ext.refl _ _ _
  ·simp[Rel,RelL]
 | some p =>
  obtain⟨bV,cap⟩:=p
  rw[N4] at hv B
  obtain⟨rfl,Rw⟩:=hv
  simp only at B
  obtain⟨c,T,fr,ys,Qy,Sn,hle,hfr,Qv,Rc,rest,Ol⟩:=B
  have hys:=rE Rc
  subst hys
  have hblk:bV<w.heap.size:=(Jh.1 Qy).1
  have hH:Sort.Holds (JS .i64) w bV 0 l.toArray:=by
   intro j hj
   have Rz:j<l.length:=by simpa using hj
   have hc:c[j]? = some (JS .i64 l[j]):=by
    rw[←Array.getElem?_toList,Ol,HK (by simpa using Rz)]
    simp[Rz]
   constructor
   ·simp[World.cell?,Qy,hc,Rz]
   ·have:=hfr j (Jh.1 hc).1
    obtain⟨lo,hi⟩:=fr
    simp only[World.frozen?,Qy,Nat.zero_add]
    rw[←Bool.not_eq_true]
    simpa using this
  rw[hlen]
  refine Calls.mono (calls_of_every_depth fun D=>AnyS.slices_Sort_int_alone L D bV 0 cap l w hH hblk hl) ?_
  rintro e' w' ⟨rfl,n,os,rfl⟩
  have Qm:(l.mergeSort fun x y=>Zd (x≤y)).length=l.length:=by simp
  generalize (l.mergeSort fun x y=>Zd (x≤y))=m at Qm ⊢
  have S6:(Lj (Jc (JS .i64) (Jq w n) bV 0 m.toArray) os).heap[bV]? = some (.cells (JO (JS .i64) 0 m.toArray c) T fr):=by
   rw[KW _ _ (by simpa[Jc,I8,Jq] using hblk)]
   simp[Jc,I8,Jq,Kj,Qy,Sort.onCells]
  have Rm:(JO (JS .i64) 0 m.toArray c).toList=m.map (JS .i64)++rest:=by
   unfold JO
   rw[Array.toList_mapIdx,Ol]
   apply Ki
   intro i
   rw[List.getElem?_mapIdx]
   by_cases hi:i<l.length
   ·rw[HK (by simpa using hi),HK (by simpa[Qm] using hi)]
    have hm:i<m.length:=by omega
    simp[hi,hm]
   ·rw[Ib (by simpa using JW hi),Ib (by simpa[Qm] using JW hi)]
    simp[hi,Qm]
  have key:=R.step (w':=Lj (Jc (JS .i64) (Jq w n) bV 0 m.toArray) os) (l':=loc) (h':=h.set b (.vec (fL m) e 1)) b (.vec (fL m) e 1)
   (by simp[Lj,Jc,I8,Jq]) ⟨rfl,rfl,rfl,by simp[Lj,Jc,I8,Jq]⟩ (fun i hi=>bB _ _ hi) (bc hb) (fun _ _=>rfl)
   (fun z hz=>by rw[hb] at hz;cases hz;exact⟨⟨Nat.le_refl _,fun _=>by simp[fL,Qm],rfl⟩,fun _=>rfl⟩)
   (fun k hk O3=>by
    have hkb:k ≠ bV:=fun e=>O3 _ cap hb (by simp) (by rw[N4,e])
    rw[KW _ _ (by simpa[Jc,I8,Jq] using hk)]
    simp[Jc,I8,Jq,Kj,Ne.symm hkb])
   (fun k c hk=>.inl ⟨_,c,hb,by simp,hk⟩)
   (fun E=>by
    simp only[BlkOk,N4]
    refine⟨_,T,fr,m.map (JS .i64),S6,?_,?_,?_,?_,nz,rest,Rm⟩
    ·simpa[JO] using Sn
    ·simpa[fL,Qm] using hle
    ·simpa[JO] using hfr
    ·simp[fL])
  exact⟨.tuple #[],.tup [],_,loc,rfl,⟨rfl,rfl⟩,key.1,key.2,by simp[Rel,RelL]⟩
end Go.Vi
namespace Go.Proofs
open Go.Shelf
def Tryz.laysSort_ren:Go.Shelf.Ren:=⟨fun|189=>88|125=>122|257=>140|128=>173|129=>174|294=>179|295=>180|296=>181|297=>182|298=>183|299=>184|216=>185|300=>186|301=>187|328=>218|329=>211|330=>212|331=>219|332=>220|215=>123|343=>232|n=>n,fun|28=>30|3=>3|46=>192|0=>0|51=>233|53=>169|4=>4|183=>227|182=>226|131=>150|5=>5|9=>9|218=>251|222=>255|228=>265|229=>266|n=>n,fun|n=>n⟩
theorem Tryz.laysSort:Go.Proofs.Lays.n189 Hm Tryz.laysSort_ren:={
 mixed:=by kernel_rfl
 f125:=Tryz.func122.trans (congrArg some (by kernel_rfl))
 f128:=Tryz.func173.trans (congrArg some (by kernel_rfl))
 f129:=Tryz.func174.trans (congrArg some (by kernel_rfl))
 f189:=Tryz.func88.trans (congrArg some (by kernel_rfl))
 f215:=Tryz.func123.trans (congrArg some (by kernel_rfl))
 f216:=Tryz.func185.trans (congrArg some (by kernel_rfl))
 f257:=Tryz.func140.trans (congrArg some (by kernel_rfl))
 f294:=Tryz.func179.trans (congrArg some (by kernel_rfl))
 f295:=Tryz.func180.trans (congrArg some (by kernel_rfl))
 f296:=Tryz.func181.trans (congrArg some (by kernel_rfl))
 f297:=Tryz.func182.trans (congrArg some (by kernel_rfl))
 f298:=Tryz.func183.trans (congrArg some (by kernel_rfl))
 f299:=Tryz.func184.trans (congrArg some (by kernel_rfl))
 f300:=Tryz.func186.trans (congrArg some (by kernel_rfl))
 f301:=Tryz.func187.trans (congrArg some (by kernel_rfl))
 f328:=Tryz.func218.trans (congrArg some (by kernel_rfl))
 f329:=Tryz.func211.trans (congrArg some (by kernel_rfl))
 f330:=Tryz.func212.trans (congrArg some (by kernel_rfl))
 f331:=Tryz.func219.trans (congrArg some (by kernel_rfl))
 f332:=Tryz.func220.trans (congrArg some (by kernel_rfl))
 f343:=Tryz.func232.trans (congrArg some (by kernel_rfl))
 t0:=Tryz.underlying0
 a0:=Tryz.isAgg0
 z0:=Tryz.sizeOf0
 v0:=Tryz.zeroValue0
 t3:=Tryz.underlying3
 a3:=Tryz.isAgg3
 z3:=Tryz.sizeOf3
 v3:=Tryz.zeroValue3
 t4:=Tryz.underlying4
 a4:=Tryz.isAgg4
 z4:=Tryz.sizeOf4
 v4:=Tryz.zeroValue4
 t5:=Tryz.underlying5
 a5:=Tryz.isAgg5
 z5:=Tryz.sizeOf5
 v5:=Tryz.zeroValue5
 t9:=Tryz.underlying9
 a9:=Tryz.isAgg9
 z9:=Tryz.sizeOf9
 v9:=Tryz.zeroValue9
 t28:=Tryz.underlying30
 a28:=Tryz.isAgg30
 z28:=Tryz.sizeOf30
 v28:=Tryz.zeroValue30
 t46:=Tryz.underlying192
 a46:=Tryz.isAgg192
 z46:=Tryz.sizeOf192
 v46:=Tryz.zeroValue192
 t51:=Tryz.underlying233
 a51:=Tryz.isAgg233
 z51:=Tryz.sizeOf233
 v51:=Tryz.zeroValue233
 t53:=Tryz.underlying169
 a53:=Tryz.isAgg169
 z53:=Tryz.sizeOf169
 v53:=Tryz.zeroValue169
 t131:=Tryz.underlying150
 a131:=Tryz.isAgg150
 z131:=Tryz.sizeOf150
 v131:=Tryz.zeroValue150
 t182:=Tryz.underlying226
 a182:=Tryz.isAgg226
 z182:=Tryz.sizeOf226
 v182:=Tryz.zeroValue226
 t183:=Tryz.underlying227
 a183:=Tryz.isAgg227
 z183:=Tryz.sizeOf227
 v183:=Tryz.zeroValue227
 t218:=Tryz.underlying251
 a218:=Tryz.isAgg251
 z218:=Tryz.sizeOf251
 v218:=Tryz.zeroValue251
 t222:=Tryz.underlying255
 a222:=Tryz.isAgg255
 z222:=Tryz.sizeOf255
 v222:=Tryz.zeroValue255
 t228:=Tryz.underlying265
 a228:=Tryz.isAgg265
 z228:=Tryz.sizeOf265
 v228:=Tryz.zeroValue265
 t229:=Tryz.underlying266
 a229:=Tryz.isAgg266
 z229:=Tryz.sizeOf266
 v229:=Tryz.zeroValue266}
end Go.Proofs
namespace Go.Vi
set_option maxRecDepth 100000
set_option maxHeartbeats 4000000
open Go.Shelf
theorem nA{h:List Blk}{b e:Nat}{l:List Int}(hb:h[b]? = some (.vec (fL l) e 1))(hl:l.length<4611686018427387904):
  Ev Hm Γ0 88 [.ref (.vec b e)] h (.tup []) (h.set b (.vec (fL (l.mergeSort fun x y=>Zd (x≤y))) e 1)):=ta Tryz.laysSort hb hl
end Go.Vi
open Go
namespace Go.Vi
set_option maxRecDepth 100000
set_option maxHeartbeats 4000000
theorem Ev.post{P:Program}{Γ:aw}{f:FuncId}{args:List D}{h h1 h2:List Blk}{d d2:D}(az:List Ans){φ:List Prop}(hE:Ev P Γ f args h d h1)(hp:pre h {t:=[d],h:=h1,m:=[]} az=some ({t:=[d2],h:=h2,m:=[]},[],φ))(hφ:AllP φ):Ev P Γ f args h d2 h2:=by
 intro O w l vs R ra
 refine CallsIn.mono (hE O w l vs R ra) ?_
 rintro e w' ⟨v,d',h',l',rfl,⟨rfl,rfl⟩,R',E',r'⟩
 obtain⟨l2,R2,E2,r2, -⟩:=uz (Γ:=Γ) (X:={O:=O,w:=w,l:=l,h:=h}) _ _ _ _ _ hp hφ {tmps:=#[v],defers:=[]} w' ⟨l',R',E',⟨r',trivial⟩,rfl⟩
 exact⟨v,d2,h2,l2,rfl,⟨rfl,rfl⟩,R2,E2,r2.1⟩
abbrev ay:D:=lit (.slice none 0 0)
abbrev aK(l:List Int):List (D×D×Nat):=l.zipIdx.map fun p=>(int p.1,bool true,p.2)
abbrev kn(l:List Int):Blk:=.map (aK l) l.length
theorem ji(c:Int):∀(l:List Int) (k i:Nat),da (int c) ((l.zipIdx k).map fun p=>(int p.1,bool true,p.2)) i=some (match l.idxOf? c with|some j=>some (i+j,bool true)|none=>none)
 | [],_,_=>rfl
 | a::l,k,i=>by
  have ih:=ji c l (k+1) (i+1)
  simp only[List.zipIdx_cons,Il,da,gw,if_true,List.idxOf?_cons]
  by_cases h:a=c
  ·subst h;simp
  ·have h':(c==a)=false:=by simp;exact fun e=>h e.symm
   have h'':(a==c)=false:=by simp;exact h
   rw[h',h'',ih]
   cases l.idxOf? c<;>simp<;>omega
theorem nB{P:Program}{h:List Blk}{t:TypeId}{b:Nat}{l:List Int}{c:Int}{kt et:TypeId}(hk:cd P kt (int c)=true)(ht:P.underlying t=some (.map kt et))(hz:gO P et=some (.bool false))(hb:h[b]? = some (kn l)):
  ap P h t (.ref (.mp b)) (int c) false=some (bool (l.contains c)):=by
 unfold ap
 simp only[ht,kz,hb,hk,if_true,hz,ji c l 0 0]
 cases hi:l.idxOf? c with
 | none =>
  have:l.contains c=false:=by
   rw[KY] at hi
   simpa using hi
  simp only[this];rfl
 | some j =>
  have:l.contains c=true:=by
   have:¬l.idxOf? c=none:=by rw[hi];simp
   rw[KY] at this
   simpa using this
  simp only[this];rfl
theorem nC{P:Program}{h:List Blk}{t:TypeId}{b:Nat}{l:List Int}{c:Int}{kt et:TypeId}(hk:cd P kt (int c)=true)(ht:P.underlying t=some (.map kt et))(hb:h[b]? = some (kn l))(hn:l.contains c=false):
  am P h t (.ref (.mp b)) (int c) (bool true)=some (h.set b (kn (l++[c]))):=by
 have hi:l.idxOf? c=none:=by rw[KY];simpa using hn
 unfold am
 simp only[ht,hb,hk,if_true,ji c l 0 0,hi]
 simp[kn,aK,List.zipIdx_append]
abbrev nuV(l:List Int):List (List D):=l.map fun n=>[int n]
theorem pf(l:List Int)(f:Ref→D):(nuV l).map (It f)=nuV l:=by simp[nuV,It,HO,MK]
theorem ei(l:List Int)(k:Nat):(nuV l).all (Ig k)=true:=by simp[nuV,Ig,Jk]
theorem iN(n:Nat)(l:List Int)(e sz:Nat):HB n (.vec (nuV l) e sz)=true:=ei l n
theorem nM(l:List Int)(a b c:Nat):(nuV l).map (It (al a b c))=nuV l:=pf l (al a b c)
theorem iNa(n:Nat)(l:List Int)(b:List (List D))(e sz:Nat)(h:b.all (Ig n)=true:=by rfl):HB n (.vec (nuV l++b) e sz)=true:=(List.all_append).trans (by rw[ei l n,h];rfl)
theorem nMa(l:List Int)(q:List (List D))(a b c:Nat)(h:q.map (It (al a b c))=q:=by rfl):(nuV l++q).map (It (al a b c))=nuV l++q:=List.map_append.trans (by rw[pf l,h])
theorem gH(l:List Int)(n:Int):nuV l++[[int n]]=nuV (l++[n]):=by simp[nuV]
theorem e7(l:List Int):(nuV l).length=l.length:=by simp[nuV]
abbrev nuH(c0 c1 c2:List (List Dp))(fs:List (List Dp))(s:Blk)(v:List (List D)):List Blk:=[.var [ab c0,ab c1,ab c2,ab fs],.var [int 12,int 0,int 0],s,.vec v 0 1]
abbrev nuS(c0 c1 c2:List (List Dp))(fs:List (List Dp))(many:Int)(s:Blk)(v:List (List D))(i:Int):AS :=
 {t:=mkT 70 0 [(4,.ref (.vec 3 0)),(5,ay),(6,.ref (.ptr 1 0)),(7,int many),(9,.ref (.mp 2)),(24,ab fs),(25,int fs.length),(26,int i)],h:=nuH c0 c1 c2 fs s v,m:=[]}
abbrev nuE(c0 c1 c2:List (List Dp))(fs:List (List Dp))(many:Int)(s:Blk)(v:List (List D)):AS :=
 {t:=mkT 70 0 [(4,.ref (.vec 3 0)),(5,ay),(6,.ref (.ptr 1 0))],h:=nuH c0 c1 c2 fs s v,m:=[]}
def isNew(f:FactT)(l:List Int):Bool:=f.kind==1&&(f.obj==0&&(Zd (f.sub≥0)&&Zd (f.sub≤4095)&&!l.contains f.sub))
def nuF(many:Int)(f:FactT)(l:List Int):List Int⊕List Int:=if Zd ((l.length:Int)≥many)=true then .inr l else .inl (bif isNew f l then l++[f.sub] else l)
theorem cC(l:List Int)(k:Nat):((aK l).all fun e=>Jk k e.1&&Jk k e.2.1)=true:=by simp[aK,Jk]
theorem b6(l:List Int)(f:Ref→D):(aK l).map (fun e=>(HO f e.1,HO f e.2.1,e.2.2))=aK l:=by simp[aK,HO,MK]
theorem BT{many:Int}{f:FactT}{l:List Int}(h:Zd (((nuV l).length:Int)≥many)=true):nuF many f l=.inr l:=by
 rw[e7] at h;simp only[nuF,h,if_true]
theorem fM{many:Int}{f:FactT}{l:List Int}(h:Zd (((nuV l).length:Int)≥many)=false)(hn:isNew f l=false):nuF many f l=.inl l:=by
 rw[e7] at h;simp[nuF,h,hn]
theorem y1{many:Int}{f:FactT}{l:List Int}(h:Zd (((nuV l).length:Int)≥many)=false)(hn:isNew f l=true):nuF many f l=.inl (l++[f.sub]):=by
 rw[e7] at h;simp[nuF,h,hn]
theorem lk152{h:List Blk}{l:List Int}{c:Int}(hb:h[2]? = some (kn l)):ap Hm h 152 (.ref (.mp 2)) (int c) false=some (bool (l.contains c)):=nB (kt:=3) (et:=4) (by kernel_rfl) (by kernel_rfl) (by kernel_rfl) hb
theorem up152{h:List Blk}{l:List Int}{c:Int}(hb:h[2]? = some (kn l))(hn:(!l.contains c)=true):am Hm h 152 (.ref (.mp 2)) (int c) (bool true)=some (h.set 2 (kn (l++[c]))):=nC (kt:=3) (et:=4) (by kernel_rfl) (by kernel_rfl) hb (by simpa using hn)
noncomputable abbrev dF(c0:List (List Dp))(c1:List (List Dp))(c2:List (List Dp))(fs:List (List Dp))(l:List Int)(f:FactT):List Blk:=[.var [ab c0,ab c1,ab c2,ab fs],.var [int 12,int 0,int 0],.map (aK l) (Hn l),.vec (nuV l) 0 1,.var [int f.kind,int f.sub,int f.obj,int f.value,int f.frm,int f.By,int f.known,int f.no]]
theorem EZ{c0 c1 c2:List (List Dp)}{fs:List (List Dp)}{many:Int}{l:List Int}{i:Nat}{f:FactT}(hr:aj (i:Int) fs f.row 8)(iF:Zd ((i:Int)<(fs.length:Int))=true)(hw:Hp.wrap ((i:Int)+1)=((i+1:Nat):Int))(hl:l.length≤70000)
  (hp:∀f,(nuV l).map (It f)=nuV l) (hi:∀k,(nuV l).all (Ig k)=true):(CW Hm Γ0 [] false (sub MZ 0) (nuS c0 c1 c2 fs many (kn l) (nuV l) i) (ah (fun l'=>nuS c0 c1 c2 fs many (kn l') (nuV l') ((i+1:Nat):Int)) (fun l=>(.exit 0,nuE c0 c1 c2 fs many (kn l) (nuV l))) (nuF many f l)).1 (ah (fun l'=>nuS c0 c1 c2 fs many (kn l') (nuV l') ((i+1:Nat):Int)) (fun l=>(.exit 0,nuE c0 c1 c2 fs many (kn l) (nuV l))) (nuF many f l)).2):=by
 cases dO:Zd ((↑(Hn (nuV l)):Int)≥many)
 ·cases oN:f.kind==1
  ·let v0:=D.p (JB (Ii {toList:=[]}))
   refine zX {t:=mkT 70 0 [(4,.ref (.vec 3 0)),(5,nq),(6,.ref (.ptr 1 0)),(7,int many),(9,.ref (.mp 2)),(24,ab fs),(25,int (↑(Hn fs):Int)),(26,int (Ht Hp ((↑i:Int)+1)))],h:=[.var [ab c0,ab c1,ab c2,ab fs],.var [int 12,int 0,int 0],.map (aK l) (Hn l),.vec (nuV l) 0 1],m:=[]} HA [.st (.mask [4,5,6,7,9,24,25,26]),.st (.ren 3 0),.st (.trim 4)] [.b true,.row [vi f.kind,vi f.sub,vi f.obj,vi f.value,vi f.frm,vi f.By,vi f.known,vi f.no],.b false,.g false,.g false,.g false,.g false,.ov 46 (bool false),.g false,.g false,.ov 50 (bool false),.g false,.g false,.g false,.g false,.ov 56 (bool false),.b false] (.c iF (.c hr (.c dO (.c (eqb oN) (.c (eqb oN) (.c (eqb oN) (.c (eqb oN) (.c (pkf v0 (bool false) oN) (.f (.f (.c (pkf v0 (bool false) rfl) (.f (.f (.f (.f (.c (pkf v0 (bool false) rfl) (.er false (.c (nM l 3 0 0) (.c (show Hl (fun e=>(HO (al 3 0 0) e.1,HO (al 3 0 0) e.2.1,e.2.2)) (aK l)=aK l from ?_) (.c (show(HJ (aK l) fun e=>Jk 4 e.1&&Jk 4 e.2.1)=true from ?_) (.c (show HJ (nuV l) (Ig 4)=true from ?_) .n))))))))))))))))))))) (by subst v0;(rw[fM dO]<;>first|(simp only[isNew,oN,Ix];done)|(simp only[ah];done)|(simp only[ah,hw];rfl))) (by subst v0;(rw[fM dO]<;>first|(simp only[isNew,oN,Ix];done)|(simp only[ah,hw];done)|(simp only[ah,hw];rfl)))<;>subst v0<;>(first|exact cC _ _|exact b6 _ _|exact ei _ _)
  ·cases Is:f.obj==0
   ·refine zX {t:=mkT 70 0 [(4,.ref (.vec 3 0)),(5,nq),(6,.ref (.ptr 1 0)),(7,int many),(9,.ref (.mp 2)),(24,ab fs),(25,int (↑(Hn fs):Int)),(26,int (Ht Hp ((↑i:Int)+1)))],h:=[.var [ab c0,ab c1,ab c2,ab fs],.var [int 12,int 0,int 0],.map (aK l) (Hn l),.vec (nuV l) 0 1],m:=[]} HA [.st (.mask [4,5,6,7,9,24,25,26]),.st (.ren 3 0),.st (.trim 4)] [.b true,.row [vi f.kind,vi f.sub,vi f.obj,vi f.value,vi f.frm,vi f.By,vi f.known,vi f.no],.b false,.g true,.g true,.g true,.g true,.ov 46 (bool (f.obj==0)),.g false,.g false,.ov 50 (bool false),.g false,.g false,.g false,.g false,.ov 56 (bool false),.b false] (.c iF (.c hr (.c dO (.c (eqa oN) (.c (eqa oN) (.c (eqa oN) (.c (eqa oN) (.c (pkt (bool (f.obj==0)) (bool false) oN) (.c (eqb Is) (.c (eqb Is) (.c (pkf (D.p (JB (Ii {toList:=[]}))) (bool false) Is) (.f (.f (.f (.f (.c (pkf (D.p (JB (Ii {toList:=[]}))) (bool false) rfl) (.er false (.c (nM l 3 0 0) (.c (show Hl (fun e=>(HO (al 3 0 0) e.1,HO (al 3 0 0) e.2.1,e.2.2)) (aK l)=aK l from ?_) (.c (show(HJ (aK l) fun e=>Jk 4 e.1&&Jk 4 e.2.1)=true from ?_) (.c (show HJ (nuV l) (Ig 4)=true from ?_) .n))))))))))))))))))))) (by(rw[fM dO]<;>first|(simp only[isNew,oN,Is,IG,Ix];done)|(simp only[ah];done)|(simp only[ah,hw];rfl))) (by(rw[fM dO]<;>first|(simp only[isNew,oN,Is,IG,Ix];done)|(simp only[ah,hw];done)|(simp only[ah,hw];rfl)))<;>(first|exact cC _ _|exact b6 _ _|exact ei _ _)
   ·cases N7:Zd (f.sub≥0)&&Zd (f.sub≤4095)
    ·refine zX {t:=mkT 70 0 [(4,.ref (.vec 3 0)),(5,nq),(6,.ref (.ptr 1 0)),(7,int many),(9,.ref (.mp 2)),(24,ab fs),(25,int (↑(Hn fs):Int)),(26,int (Ht Hp ((↑i:Int)+1)))],h:=[.var [ab c0,ab c1,ab c2,ab fs],.var [int 12,int 0,int 0],.map (aK l) (Hn l),.vec (nuV l) 0 1],m:=[]} HA [.st (.mask [4,5,6,7,9,24,25,26]),.st (.ren 3 0),.st (.trim 4)] [.b true,.row [vi f.kind,vi f.sub,vi f.obj,vi f.value,vi f.frm,vi f.By,vi f.known,vi f.no],.b false,.g true,.g true,.g true,.g true,.ov 46 (bool (f.obj==0)),.g true,.g true,.val (bool (Zd (f.sub≥0)&&Zd (f.sub≤4095))),.ov 50 (bool (Zd (f.sub≥0)&&Zd (f.sub≤4095))),.g false,.g false,.g false,.g false,.ov 56 (bool false),.b false] (.c iF (.c hr (.c dO (.c (eqa oN) (.c (eqa oN) (.c (eqa oN) (.c (eqa oN) (.c (pkt (bool (f.obj==0)) (bool false) oN) (.c (eqa Is) (.c (eqa Is) (.c (@eD (f.sub) 0 4095 (dF c0 c1 c2 fs l f)) (.c (pkt (bool (Zd (f.sub≥0)&&Zd (f.sub≤4095))) (bool false) Is) (.c (eqb N7) (.c (eqb N7) (.c (eqb N7) (.c (eqb N7) (.c (pkf (D.p (JB (Ii {toList:=[]}))) (bool false) N7) (.er false (.c (nM l 3 0 0) (.c (show Hl (fun e=>(HO (al 3 0 0) e.1,HO (al 3 0 0) e.2.1,e.2.2)) (aK l)=aK l from ?_) (.c (show(HJ (aK l) fun e=>Jk 4 e.1&&Jk 4 e.2.1)=true from ?_) (.c (show HJ (nuV l) (Ig 4)=true from ?_) .n)))))))))))))))))))))) (by(rw[fM dO]<;>first|(simp only[isNew,oN,Is,N7,IG,Ix];done)|(simp only[ah];done)|(simp only[ah,hw];rfl))) (by(rw[fM dO]<;>first|(simp only[isNew,oN,Is,N7,IG,Ix];done)|(simp only[ah,hw];done)|(simp only[ah,hw];rfl)))<;>(first|exact cC _ _|exact b6 _ _|exact ei _ _)
    ·cases Ra:!Ij l f.sub
     ·refine zX {t:=mkT 70 0 [(4,.ref (.vec 3 0)),(5,nq),(6,.ref (.ptr 1 0)),(7,int many),(9,.ref (.mp 2)),(24,ab fs),(25,int (↑(Hn fs):Int)),(26,int (Ht Hp ((↑i:Int)+1)))],h:=[.var [ab c0,ab c1,ab c2,ab fs],.var [int 12,int 0,int 0],.map (aK l) (Hn l),.vec (nuV l) 0 1],m:=[]} HA [.st (.mask [4,5,6,7,9,24,25,26]),.st (.ren 3 0),.st (.trim 4)] [.b true,.row [vi f.kind,vi f.sub,vi f.obj,vi f.value,vi f.frm,vi f.By,vi f.known,vi f.no],.b false,.g true,.g true,.g true,.g true,.ov 46 (bool (f.obj==0)),.g true,.g true,.val (bool (Zd (f.sub≥0)&&Zd (f.sub≤4095))),.ov 50 (bool (Zd (f.sub≥0)&&Zd (f.sub≤4095))),.g true,.g true,.g true,.ov 54 (bool (Ij l f.sub)),.g true,.ov 56 (bool !Ij l f.sub),.b false] (.c iF (.c hr (.c dO (.c (eqa oN) (.c (eqa oN) (.c (eqa oN) (.c (eqa oN) (.c (pkt (bool (f.obj==0)) (bool false) oN) (.c (eqa Is) (.c (eqa Is) (.c (@eD (f.sub) 0 4095 (dF c0 c1 c2 fs l f)) (.c (pkt (bool (Zd (f.sub≥0)&&Zd (f.sub≤4095))) (bool false) Is) (.c (eqa N7) (.c (eqa N7) (.c (eqa N7) (.c (show ap Hm (dF c0 c1 c2 fs l f) 152 (.ref (.mp 2)) (int f.sub) false=some (bool (Ij l f.sub)) from ?_) (.c (eqa N7) (.c (pkt (bool !Ij l f.sub) (bool false) N7) (.c Ra (.c (nM l 3 0 0) (.c (show Hl (fun e=>(HO (al 3 0 0) e.1,HO (al 3 0 0) e.2.1,e.2.2)) (aK l)=aK l from ?_) (.c (show(HJ (aK l) fun e=>Jk 4 e.1&&Jk 4 e.2.1)=true from ?_) (.c (show HJ (nuV l) (Ig 4)=true from ?_) .n))))))))))))))))))))))) (by(rw[fM dO]<;>first|(simp only[isNew,oN,Is,N7,Ra,IG];done)|(simp only[ah];done)|(simp only[ah,hw];rfl))) (by(rw[fM dO]<;>first|(simp only[isNew,oN,Is,N7,Ra,IG];done)|(simp only[ah,hw];done)|(simp only[ah,hw];rfl)))<;>(first|exact lk152 (l:=l) rfl|exact cC _ _|exact b6 _ _|exact ei _ _)
     ·let v0:List D:=[int f.kind,int f.sub,int f.obj,int f.value,int f.frm,int f.By,int f.known,int f.no]
      refine zX {t:=mkT 70 0 [(4,.ref (.vec 3 0)),(5,nq),(6,.ref (.ptr 1 0)),(7,int many),(9,.ref (.mp 2)),(24,ab fs),(25,int (↑(Hn fs):Int)),(26,int (Ht Hp ((↑i:Int)+1)))],h:=[.var [ab c0,ab c1,ab c2,ab fs],.var [int 12,int 0,int 0],.map (aK (l++[f.sub])) (Hn (l++[f.sub])),.vec (nuV l++[[int f.sub]]) 0 1],m:=[]} HA [.st (.mask [4,5,6,7,9,24,25,26]),.st (.ren 3 0),.st (.trim 4)] [.b true,.row [vi f.kind,vi f.sub,vi f.obj,vi f.value,vi f.frm,vi f.By,vi f.known,vi f.no],.b false,.g true,.g true,.g true,.g true,.ov 46 (bool (f.obj==0)),.g true,.g true,.val (bool (Zd (f.sub≥0)&&Zd (f.sub≤4095))),.ov 50 (bool (Zd (f.sub≥0)&&Zd (f.sub≤4095))),.g true,.g true,.g true,.ov 54 (bool (Ij l f.sub)),.g true,.ov 56 (bool !Ij l f.sub),.b true,.oh 10057 IK (nuH c0 c1 c2 fs (kn (l++[f.sub])) (nuV l)++[.var (Hl D.p (Hv f))])] (.c iF (.c hr (.c dO (.c (eqa oN) (.c (eqa oN) (.c (eqa oN) (.c (eqa oN) (.c (pkt (bool (f.obj==0)) (bool false) oN) (.c (eqa Is) (.c (eqa Is) (.c (@eD (f.sub) 0 4095 (dF c0 c1 c2 fs l f)) (.c (pkt (bool (Zd (f.sub≥0)&&Zd (f.sub≤4095))) (bool false) Is) (.c (eqa N7) (.c (eqa N7) (.c (eqa N7) (.c (show ap Hm (dF c0 c1 c2 fs l f) 152 (.ref (.mp 2)) (int f.sub) false=some (bool (Ij l f.sub)) from ?_) (.c (eqa N7) (.c (pkt (bool !Ij l f.sub) (bool false) N7) (.c Ra (.c (show am Hm (dF c0 c1 c2 fs l f) 152 (.ref (.mp 2)) (int f.sub) (evalD Γ0 (IK::IK::IK::IK::.ref (.vec 3 0)::nq::.ref (.ptr 1 0)::int many::IK::.ref (.mp 2)::IK::.ref (.ptr 4 0)::int f.sub::IK::IK::IK::IK::IK::IK::IK::IK::IK::IK::IK::ab fs::int (↑(Hn fs):Int)::int (↑i:Int)::bool (Zd ((↑i:Int)<(↑(Hn fs):Int)))::D.ep [vi f.kind,vi f.sub,vi f.obj,vi f.value,vi f.frm,vi f.By,vi f.known,vi f.no]::H6 v0::.ref (.vec 3 0)::int (↑(Hn (nuV l)):Int)::int many::bool (Zd ((↑(Hn (nuV l)):Int)≥many))::.ref (.ptr 4 0)::.ref (.ptr 4 1)::int f.sub::.ref (.ptr 4 0)::.ref (.ptr 4 0)::int f.kind::bool (f.kind==1)::bool (f.kind==1)::.ref (.ptr 4 0)::.ref (.ptr 4 2)::int f.obj::bool (f.obj==0)::bool (f.obj==0)::bool (f.obj==0)::mkT 22 0 [(0,int f.sub),(1,bool (Zd (f.sub≥0)&&Zd (f.sub≤4095))),(2,bool (Zd (f.sub≥0)&&Zd (f.sub≤4095))),(3,bool (Zd (f.sub≥0)&&Zd (f.sub≤4095))),(4,.ref (.mp 2)),(5,int f.sub),(6,bool (Ij l f.sub)),(7,bool !Ij l f.sub),(8,bool !Ij l f.sub),(9,.ref (.mp 2)),(10,int f.sub)]) (Lm (Value.bool true)))=some [.var [ab c0,ab c1,ab c2,ab fs],.var [int 12,int 0,int 0],.map (aK (l++[f.sub])) (Hn (l++[f.sub])),.vec (nuV l) 0 1,.var v0] from ?_) (.c (show(HJ [[int f.sub]] (aG 1)&&roomOk (Hn (nuV l)+Hn [[int f.sub]]) 8)=true from ?_) (.c (nMa l [[int f.sub]] 3 1 0) (.c (show Hl (fun e=>(HO (al 3 1 0) e.1,HO (al 3 1 0) e.2.1,e.2.2)) (aK (l++[f.sub]))=aK (l++[f.sub]) from ?_) (.er [[int f.sub]] (.c (show(HJ (aK (l++[f.sub])) fun e=>Jk 4 e.1&&Jk 4 e.2.1)=true from ?_) (.c (show HJ (nuV l++[[int f.sub]]) (Ig 4)=true from ?_) .n)))))))))))))))))))))))))) (by subst v0;(rw[y1 dO]<;>first|(simp only[isNew,oN,Is,N7,Ra,Js];done)|(simp only[ah];done)|(simp only[ah,hw,gH];rfl))) (by subst v0;(rw[y1 dO]<;>first|(simp only[isNew,oN,Is,N7,Ra,Js];done)|(simp only[ah,hw,gH];done)|(simp only[ah,hw,gH];rfl)))<;>subst v0<;>(first|exact lk152 (l:=l) rfl|exact up152 (l:=l) rfl (by assumption)|exact cC _ _|exact b6 _ _|(rw[gH];exact ei _ _)|(simp[aG,D.one,Value.oneCell',roomOk];omega))
 ·refine zX {t:=mkT 70 0 [(4,.ref (.vec 3 0)),(5,nq),(6,.ref (.ptr 1 0))],h:=[.var [ab c0,ab c1,ab c2,ab fs],.var [int 12,int 0,int 0],.map (aK l) (Hn l),.vec (nuV l) 0 1],m:=[]} (HT 0) [.st (.mask [4,5,6]),.st (.trim 4)] [.b true,.row [vi f.kind,vi f.sub,vi f.obj,vi f.value,vi f.frm,vi f.By,vi f.known,vi f.no],.b true] (.c iF (.c hr (.c dO (.c (show(HJ (aK l) fun e=>Jk 4 e.1&&Jk 4 e.2.1)=true from(by exact cC _ _)) (.c (show HJ (nuV l) (Ig 4)=true from(by exact ei _ _)) .n))))) ?_ ?_<;>(rw[BT dO];rfl)
theorem E5{c0 c1 c2:List (List Dp)}{fs:List (List Dp)}{many:Int}{s:Blk}{v:List (List D)}{i:Nat}(iF:Zd ((i:Int)<(fs.length:Int))=false):(CW Hm Γ0 [] false (sub MZ 0) (nuS c0 c1 c2 fs many s v i) (.exit 0) (nuE c0 c1 c2 fs many s v)):=by
 exact zx [.st (.mask [4,5,6])] [.b false] (.c iF .n)
def nuG(r:List Int⊕List Int):List Int:=match r with | .inl l=>l | .inr l=>l
theorem tb{many:Int}{f:FactT}{l l':List Int}(h:nuF many f l=.inl l'):l'.length≤l.length+1:=by
 unfold nuF at h
 split at h
 ·simp at h
 ·simp at h;subst h
  cases isNew f l<;>simp
theorem nu_cw{c0 c1 c2:List (List Dp)}{many:Int}{fs:List FactT}(hf:fs.length≤69000):
  CW Hm Γ0 [] false (.loop (sub MZ 0)) (nuS c0 c1 c2 (fs.map Hv) many (kn []) (nuV []) 0) (.exit 0) (nuE c0 c1 c2 (fs.map Hv) many (kn (nuG (forL (nuF many) fs []))) (nuV (nuG (forL (nuF many) fs [])))):=by
 have:=I7 (P:=Hm) (Γ:=Γ0) (h0:=[]) (rd:=false) (c:=sub MZ 0) fs (nuF many) (fun i l=>nuS c0 c1 c2 (fs.map Hv) many (kn l) (nuV l) (i:Int)) (.exit 0) (fun l=>nuE c0 c1 c2 (fs.map Hv) many (kn l) (nuV l)) (fun l=>(.exit 0,nuE c0 c1 c2 (fs.map Hv) many (kn l) (nuV l)))
  (fun i l=>l.length≤i) (by simp) (by simp) ?_ ?_ [] (by simp)
 ·cases h:forL (nuF many) fs []<;>rw[h] at this<;>exact this
 ·intro i f l hfi hl
  have hi:=(Hs.1 hfi).1
  refine⟨fun l' h=>?_,EZ (rowAt hfi rfl) (lt_len _ hi) (wrap_succ hi (by omega)) (by omega) (pf l) (ei l)⟩
  have:=tb h
  omega
 ·intro l hl
  exact E5 (aJ _ fs)
theorem uZ(l:List Int):nuV l=(l.map fun n=>[vi n]).map (Hl D.p):=by simp[nuV]
theorem BU{x0 x1 x2:Blk}{l:List Int}(hl:l.length<4611686018427387904):Ev Hm Γ0 88 [.ref (.vec 3 0)] [x0,x1,x2,.vec (nuV l) 0 1] (.tup []) [x0,x1,x2,.vec (nuV (l.mergeSort fun x y=>Zd (x≤y))) 0 1] :=
 nA (h:=[x0,x1,x2,.vec (nuV l) 0 1]) (b:=3) rfl hl
theorem e8{many:Int}:∀(fs:List FactT) (l:List Int),(nuG (forL (nuF many) fs l)).length≤l.length+fs.length
 | [],l=>by simp[forL,nuG]
 | f::fs,l=>by
  simp only[forL]
  cases h:nuF many f l with
  | inl l' =>
   have:=tb h
   have:=e8 (many:=many) fs l'
   simp only[List.length_cons];omega
  | inr l' =>
   have:l'=l:=by
    unfold nuF at h;split at h
    ·simp at h;exact h.symm
    ·simp at h
   subst this
   simp only[nuG];omega
theorem BW{many:Int}{fs:List FactT}(hf:fs.length≤69000):(nuG (forL (nuF many) fs [])).length<4611686018427387904:=by
 have:=e8 (many:=many) fs []
 simp at this;omega
def cD(many:Int)(fs:List FactT):List Int:=nuG (forL (nuF many) fs [])
def u0(fs:List FactT)(known:Int):Int:=(atR 12 0 0 0 known fs).1
def ad(fs:List FactT)(known:Int):List Int:=(cD (u0 fs known) fs).mergeSort fun x y=>Zd (x≤y)
noncomputable abbrev nuB(c0 c1 c2:List (List Dp))(fs:List FactT)(known:Int)(r:Blk):List Blk:=[.var [ab c0,ab c1,ab c2,ab (fs.map Hv)],.var [int 12,int 0,int 0],kn (nuG (forL (nuF (atR 12 0 0 0 known fs).1) fs [])),.gone,r]
noncomputable abbrev rF(c0:List (List Dp))(c1:List (List Dp))(c2:List (List Dp))(fs:List FactT)(known:Int):List Blk:=[.var [ab c0,ab c1,ab c2,ab (Hl Hv fs)],.var [int 12,int 0,int 0],.map (aK (nuG (forL (nuF (atR 12 0 0 0 known fs).1) fs []))) (Hn (nuG (forL (nuF (atR 12 0 0 0 known fs).1) fs []))),.vec (nuV (nuG (forL (nuF (atR 12 0 0 0 known fs).1) fs []))) 0 1]
noncomputable abbrev rH(c0:List (List Dp))(c1:List (List Dp))(c2:List (List Dp))(fs:List FactT):List Blk:=[.var [ab c0,ab c1,ab c2,ab (Hl Hv fs)],.var [int 12,int 0,int 0]]
theorem y2{c0 c1 c2:List (List Dp)}{fs:List FactT}(hf:fs.length≤69000)(hs:af fs){known:Int}:(Ev Hm Γ0 34 [.agg [ab c0,ab c1,ab c2,ab (fs.map Hv)],int known] [] (.tup [ab ((ad fs known).map fun n=>[vi n]),.ref (.vec 4 0)]) (nuB c0 c1 c2 fs known (.vec [[int 12,int 0,int 0,int 0,int 1]] 0 5))):=by
 have N1:=(@nu_cw (c0) (c1) (c2) ((atR 12 0 0 0 known fs).1) (fs) (hf))
 let v0:=Hn (nuG (forL (nuF (atR 12 0 0 0 known fs).1) fs []))
 let v1:List D:=[ab c0,ab c1,ab c2,ab (Hl Hv fs)]
 refine H4 (JP (h':=[.var v1,.var [int 12,int 0,int 0],.map (aK (nuG (forL (nuF (atR 12 0 0 0 known fs).1) fs []))) v0,.gone,.vec [[int 12,int 0,int 0,int 0,int 1]] 0 5]) (d:=HV [ab (Hl (fun n=>[vi n]) (ad fs known)),.ref (.vec 4 0)]) pok [.val (HV [int (atR 12 0 0 0 known fs).1,bool (atR 12 0 0 0 known fs).2]),.nx 2,.st (.nilT 4 1),.sum [4,5,6,7,9,24,25,26] (HT 0) {t:=mkT 70 0 [(4,.ref (.vec 3 0)),(5,nq),(6,.ref (.ptr 1 0))],h:=(rF c0 c1 c2 fs known),m:=[]},.call (HV []) [.var v1,.var [int 12,int 0,int 0],.map (aK (nuG (forL (nuF (atR 12 0 0 0 known fs).1) fs []))) v0,.vec (nuV (IA (nuG (forL (nuF (atR 12 0 0 0 known fs).1) fs [])) fun x y=>Zd (x≤y))) 0 1],.st (.frz 3 (Hl (fun n=>[vi n]) (ad fs known)))] (by kernel_rfl) (.c (@BB 12 0 0 0 known fs hs (rH c0 c1 c2 fs)) (.c N1 (.c (@BU (.var v1) (.var [int 12,int 0,int 0]) (.map (aK (nuG (forL (nuF (atR 12 0 0 0 known fs).1) fs []))) v0) (nuG (forL (nuF (atR 12 0 0 0 known fs).1) fs [])) ?_) (.c (show nuV (IA (nuG (forL (nuF (atR 12 0 0 0 known fs).1) fs [])) fun x y=>Zd (x≤y))=Hl (fun x=>Hl D.p x) (Hl (fun n=>[vi n]) (ad fs known)) from ?_) (.c (show Hl (fun e=>(HO (bD 3 0 (Hl (fun n=>[vi n]) (ad fs known))) e.1,HO (bD 3 0 (Hl (fun n=>[vi n]) (ad fs known))) e.2.1,e.2.2)) (aK (nuG (forL (nuF (atR 12 0 0 0 known fs).1) fs [])))=aK (nuG (forL (nuF (atR 12 0 0 0 known fs).1) fs [])) from ?_) (.e (H6 [int 12,int 0,int 0]) .n))))))) (by rfl) (by rfl)<;>subst v0 v1<;>(first|exact BW hf|exact b6 _ _|exact uZ _)
theorem y3{c0 c1 c2:List (List Dp)}{fs:List FactT}(hf:fs.length≤69000)(hs:af fs){known:Int}:Ev Hm Γ0 34 [.agg [ab c0,ab c1,ab c2,ab (fs.map Hv)],int known] [] (.tup [ab ((ad fs known).map fun n=>[vi n]),.ref (.vec 0 0)]) [.vec [[int 12,int 0,int 0,int 0,int 1]] 0 5] :=
 H4 ((y2 (c0:=c0) (c1:=c1) (c2:=c2) (known:=known) hf hs).keepB [4] (by kernel_rfl) ⟨rfl,trivial⟩) (by kernel_rfl) (by kernel_rfl)
theorem lO{c0 c1 c2:List (List Dp)}{fs:List FactT}(hf:fs.length≤69000)(hs:af fs){known:Int}(h:List Blk):Ev Hm Γ0 34 [.agg [ab c0,ab c1,ab c2,ab (fs.map Hv)],int known] h (.tup [ab ((ad fs known).map fun n=>[vi n]),.ref (.vec h.length 0)]) (h++[.vec [[int 12,int 0,int 0,int 0,int 1]] 0 5]) :=
 (y3 (c0:=c0) (c1:=c1) (c2:=c2) (known:=known) hf hs).frameN (by kernel_rfl) rfl h
abbrev cJ(l:List FactT):List (List D):=l.map fun f=>f.row.map .p
abbrev dt(l:List Bool):List (List D):=l.map fun b=>[bool b]
abbrev bf(l:List Int):List (List D):=l.map fun n=>[int n]
abbrev vaT:List D:=mkT 63 0 [(6,.ref (.ptr 1 0)),(7,.ref (.ptr 2 0)),(8,.ref (.ptr 3 0)),(15,.fn (.func 178) [] [.ref (.ptr 4 0),.ref (.ptr 5 0),.ref (.ptr 6 0)])]
noncomputable abbrev vaL(st:LoopState):Blk:=.loop st none 0 vaT #[16] (aH (sub H0 0)) (ao (sub H0 0))
noncomputable abbrev vaH(kk ks ko known:Int)(fs:List (List Dp))(rs:List D)(iS:List FactT)(some:List Bool)(st:LoopState)(more:List Blk):List Blk :=
 [.var [int kk,int ks,int ko],.var rs,.var (cJ iS).flatten,.var (dt some).flatten,.var [ab fs],.var [int kk,int ks,int ko],.var [int known],.defd,vaL st]++more
abbrev vaU:List D:=mkT 63 0 [(6,.ref (.ptr 1 0)),(7,.ref (.ptr 2 0)),(8,.ref (.ptr 3 0)),(9,.ref (.ptr 10 0))]
theorem va_asg{kk ks ko known:Int}{fs:List (List Dp)}{rs:List D}{iS:List FactT}{some:List Bool}{f:FactT}:(CW Hm Γ0 (vaH kk ks ko known fs rs iS some .ready [.var (f.row.map .p)]) true (aH (sub H0 0)) {t:=ey vaT [(16,ag f.row)],h:=vaH kk ks ko known fs rs iS some .ready [.var (f.row.map .p)],m:=[]} .normal {t:=vaU,h:=vaH kk ks ko known fs rs iS some .ready [.var (f.row.map .p),.var (f.row.map .p)],m:=[]}):=by
 let v0:List D:=[int f.kind,int f.sub,int f.obj,int f.value,int f.frm,int f.By,int f.known,int f.no]
 exact zx [.st (.mask [6,7,8,9])] [] .n
theorem pg{h:List Blk}{off n:Nat}{l:List Bool}{b:Bool}(hb:h[3]? = some (.var (dt l).flatten))(hs:l[n]? = some b)(ho:off=n*1):bg Hm h 4 (.ref (.ptr 3 off))=some (bool b):=by
 subst ho
 exact lx (sz:=1) (j:=0) (row:=[bool b]) (by kernel_rfl) (by kernel_rfl) hb (fun r hr=>by obtain⟨_,_,rfl⟩:=HQ.1 hr;rfl) (by simp[hs]) rfl
theorem y4{h:List Blk}{off n:Nat}{l:List FactT}{g:FactT}(hb:h[2]? = some (.var (cJ l).flatten))(hs:l[n]? = some g)(ho:off=n*8):bg Hm h 60 (.ref (.ptr 2 off))=some (ag g.row):=by
 subst ho
 exact Bl (sz:=8) (row:=g.row.map .p) (by kernel_rfl) (by kernel_rfl) hb (by simp[Hv]) (by simp[hs])
theorem va_stB{h:List Blk}{off n:Nat}{l:List FactT}{f:FactT}(hb:h[2]? = some (.var (cJ l).flatten))(hn:n<l.length)(ho:off=n*8):bG Hm h 60 (.ref (.ptr 2 off)) (ag f.row)=some (h.set 2 (.var (cJ (l.set n f)).flatten)):=by
 subst ho
 rw[ly (sz:=8) (new:=f.row.map .p) rfl (by kernel_rfl) rfl hb (by simp[Hv]) (by simpa using hn),cJ,cJ,ME]
theorem va_stS{h:List Blk}{off n:Nat}{l:List Bool}{b:Bool}(hb:h[3]? = some (.var (dt l).flatten))(hn:n<l.length)(ho:off=n*1):bG Hm h 4 (.ref (.ptr 3 off)) (bool b)=some (h.set 3 (.var (dt (l.set n b)).flatten)):=by
 subst ho
 rw[ly (sz:=1) (new:=[bool b]) rfl (by kernel_rfl) rfl hb (fun r hr=>by obtain⟨_,_,rfl⟩:=HQ.1 hr;rfl) (by simpa using hn),dt,dt,ME]
theorem nD{α:Type}{l:List α}{n:Nat}{a:α}(h:l[n]? = some a):n<l.length:=(Hs.1 h).1
def vaHit(f g:FactT)(b:Bool):Bool:=!b||Zd (orI (aU f.known g.known) (aU f.no g.no)≥0)
noncomputable abbrev vaS(kk ks ko known:Int)(fs:List (List Dp))(rs:List D)(iS:List FactT)(some:List Bool)(f:FactT)(t:Int):AS:={t:=mkT 63 0 [(6,.ref (.ptr 1 0)),(7,.ref (.ptr 2 0)),(8,.ref (.ptr 3 0)),(9,.ref (.ptr 10 0)),(10,int t)],h:=vaH kk ks ko known fs rs iS some .busy [.var (f.row.map .p),.var (f.row.map .p)],m:=[]}
noncomputable abbrev fN(kk:Int)(ks:Int)(ko:Int)(known:Int)(fs:List (List Dp))(rs:List D)(iS:List FactT)(some:List Bool)(f:FactT):List Blk:=[.var [int kk,int ks,int ko],.var rs,.var (HL (cJ iS)),.var (HL (dt some)),.var [ab fs],.var [int kk,int ks,int ko],.var [int known],.defd,.loop Ji none 0 (mkT 63 0 [(6,.ref (.ptr 1 0)),(7,.ref (.ptr 2 0)),(8,.ref (.ptr 3 0)),(15,I4 (H2 178) [] [.ref (.ptr 4 0),.ref (.ptr 5 0),.ref (.ptr 6 0)])]) {toList:=[16]} (aH (sub H0 0)) (ao (sub H0 0)),.var [int f.kind,int f.sub,int f.obj,int f.value,int f.frm,int f.By,int f.known,int f.no],.var [int f.kind,int f.sub,int f.obj,int f.value,int f.frm,int f.By,int f.known,int f.no]]
theorem va_b{kk ks ko known:Int}{fs:List (List Dp)}{rs:List D}{iS b0:List FactT}{some s0:List Bool}{f g f0:FactT}{n:Nat}{b:Bool}(hb:iS[n]? = .some g)(hs:some[n]? = .some b)(hn:inR (n:Int) 1024=true)(iF:Zd ((n:Int)<if false=true then if 1024>f.By then 1024 else f.By else if 1024<f.By then 1024 else f.By)=true):(CW Hm Γ0 (vaH kk ks ko known fs rs b0 s0 .ready [.var (f0.row.map .p)]) true (sub H0 1) (vaS kk ks ko known fs rs iS some f (n:Int)) .normal (vaS kk ks ko known fs rs (bif vaHit f g b then iS.set n f else iS) (bif vaHit f g b then some.set n true else some) f (Hp.wrap ((n:Int)+1)))):=by
 cases dO:!b||Zd (orI (aU f.known g.known) (aU f.no g.no)≥0)
 ·refine zX {t:=mkT 63 0 [(6,.ref (.ptr 1 0)),(7,.ref (.ptr 2 0)),(8,.ref (.ptr 3 0)),(9,.ref (.ptr 10 0)),(10,int (Ht Hp ((↑n:Int)+1)))],h:=(fN kk ks ko known fs rs iS some f),m:=[]} HA [.st (.mask [6,7,8,9,10])] [.b true,.ov 31 (bool b),.ov 37 (ag (Hv g)),.val (int (orI (aU f.known g.known) (aU f.no g.no))),.b false] (.c iF (.c hn (.c (show bg Hm (fN kk ks ko known fs rs iS some f) 4 (.ref (.ptr 3 (0+Hw (↑n:Int)*1)))=Jv (bool b) from ?_) (.c (show(!!b)=true→inR (↑n:Int) 1024=true from(fun hg=>hn)) (.c (show(!!b)=true→bg Hm (fN kk ks ko known fs rs iS some f) 60 (evalD Γ0 (Hl eA (mkT 63 0 [(6,.ref (.ptr 1 0)),(7,.ref (.ptr 2 0)),(8,.ref (.ptr 3 0)),(9,.ref (.ptr 10 0)),(10,int (↑n:Int)),(21,int (↑n:Int)),(22,.ref (.ptr 10 4)),(23,.ref (.ptr 10 5)),(24,int f.By),(25,int (if false=true then if 1024>f.By then 1024 else f.By else if 1024<f.By then 1024 else f.By)),(26,bool (Zd ((↑n:Int)<if false=true then if 1024>f.By then 1024 else f.By else if 1024<f.By then 1024 else f.By))),(29,int (↑n:Int)),(30,.ref (.ptr 3 (0+Hw (↑n:Int)*1))),(31,bool b),(32,bool !b),(33,bool !b),(34,LF (!!b) (H6 [int f.kind,int f.sub,int f.obj,int f.value,int f.frm,int f.By,int f.known,int f.no])),(35,LF (!!b) (int (↑n:Int))),(36,LF (!!b) (.ref (.ptr 2 (0+Hw (↑n:Int)*8))))])) (ML 36))=Jv (H6 [int g.kind,int g.sub,int g.obj,int g.value,int g.frm,int g.By,int g.known,int g.no]) from(fun hg=>?_)) (.c (gd (!!b) (@jc f g (fN kk ks ko known fs rs iS some f))) (.c dO .n))))))) (by rfl) (by(have hh:vaHit f g b=false:=dO;simp only[hh,cond_false];first|done|rfl))<;>(first|exact pg rfl hs (by simp)|exact y4 rfl hb (by simp))
 ·let v0:List D:=[int f.kind,int f.sub,int f.obj,int f.value,int f.frm,int f.By,int f.known,int f.no]
  let v1:List Blk:=[.var [int kk,int ks,int ko],.var rs,.var (HL (cJ (J1 iS n f))),.var (HL (dt (J1 some n true))),.var [ab fs],.var [int kk,int ks,int ko],.var [int known],.defd,.loop Ji none 0 (mkT 63 0 [(6,.ref (.ptr 1 0)),(7,.ref (.ptr 2 0)),(8,.ref (.ptr 3 0)),(15,I4 (H2 178) [] [.ref (.ptr 4 0),.ref (.ptr 5 0),.ref (.ptr 6 0)])]) {toList:=[16]} (aH (sub H0 0)) (ao (sub H0 0)),.var v0,.var v0]
  let v2:List Blk:=[.var [int kk,int ks,int ko],.var rs,.var (HL (cJ (J1 iS n f))),.var (HL (dt some)),.var [ab fs],.var [int kk,int ks,int ko],.var [int known],.defd,.loop Ji none 0 (mkT 63 0 [(6,.ref (.ptr 1 0)),(7,.ref (.ptr 2 0)),(8,.ref (.ptr 3 0)),(15,I4 (H2 178) [] [.ref (.ptr 4 0),.ref (.ptr 5 0),.ref (.ptr 6 0)])]) {toList:=[16]} (aH (sub H0 0)) (ao (sub H0 0)),.var v0,.var v0]
  let v3:=H6 [int g.kind,int g.sub,int g.obj,int g.value,int g.frm,int g.By,int g.known,int g.no]
  let v4:=Hl D.p (Hv f)
  refine zX {t:=mkT 63 0 [(6,.ref (.ptr 1 0)),(7,.ref (.ptr 2 0)),(8,.ref (.ptr 3 0)),(9,.ref (.ptr 10 0)),(10,int (Ht Hp ((↑n:Int)+1)))],h:=v1,m:=[]} HA [.st (.mask [6,7,8,9,10])] [.b true,.ov 31 (bool b),.ov 37 (ag (Hv g)),.val (int (orI (aU f.known g.known) (aU f.no g.no))),.b true,.oh 10044 IK (vaH kk ks ko known fs rs (J1 iS n f) some Ji [.var v4,.var v4]),.oh 10045 IK (vaH kk ks ko known fs rs (J1 iS n f) (J1 some n true) Ji [.var v4,.var v4])] (.c iF (.c hn (.c (show bg Hm (fN kk ks ko known fs rs iS some f) 4 (.ref (.ptr 3 (0+Hw (↑n:Int)*1)))=Jv (bool b) from ?_) (.c (show(!!b)=true→inR (↑n:Int) 1024=true from(fun hg=>hn)) (.c (show(!!b)=true→bg Hm (fN kk ks ko known fs rs iS some f) 60 (evalD Γ0 (Hl eA (mkT 63 0 [(6,.ref (.ptr 1 0)),(7,.ref (.ptr 2 0)),(8,.ref (.ptr 3 0)),(9,.ref (.ptr 10 0)),(10,int (↑n:Int)),(21,int (↑n:Int)),(22,.ref (.ptr 10 4)),(23,.ref (.ptr 10 5)),(24,int f.By),(25,int (if false=true then if 1024>f.By then 1024 else f.By else if 1024<f.By then 1024 else f.By)),(26,bool (Zd ((↑n:Int)<if false=true then if 1024>f.By then 1024 else f.By else if 1024<f.By then 1024 else f.By))),(29,int (↑n:Int)),(30,.ref (.ptr 3 (0+Hw (↑n:Int)*1))),(31,bool b),(32,bool !b),(33,bool !b),(34,LF (!!b) (H6 v0)),(35,LF (!!b) (int (↑n:Int))),(36,LF (!!b) (.ref (.ptr 2 (0+Hw (↑n:Int)*8))))])) (ML 36))=Jv v3 from(fun hg=>?_)) (.c (gd (!!b) (@jc f g (fN kk ks ko known fs rs iS some f))) (.c dO (.c hn (.c (show bG Hm (fN kk ks ko known fs rs iS some f) 60 (.ref (.ptr 2 (0+Hw (↑n:Int)*8))) (H6 v0)=Jv v2 from ?_) (.c hn (.c (show bG Hm v2 4 (.ref (.ptr 3 (0+Hw (↑n:Int)*1))) (evalD Γ0 (mkT 63 0 [(6,.ref (.ptr 1 0)),(7,.ref (.ptr 2 0)),(8,.ref (.ptr 3 0)),(9,.ref (.ptr 10 0)),(10,int (↑n:Int)),(21,int (↑n:Int)),(22,.ref (.ptr 10 4)),(23,.ref (.ptr 10 5)),(24,int f.By),(25,int (if false=true then if 1024>f.By then 1024 else f.By else if 1024<f.By then 1024 else f.By)),(26,bool (Zd ((↑n:Int)<if false=true then if 1024>f.By then 1024 else f.By else if 1024<f.By then 1024 else f.By))),(29,int (↑n:Int)),(30,.ref (.ptr 3 (0+Hw (↑n:Int)*1))),(31,bool b),(32,bool !b),(33,bool !b),(34,LF (!!b) (H6 v0)),(35,LF (!!b) (int (↑n:Int))),(36,LF (!!b) (.ref (.ptr 2 (0+Hw (↑n:Int)*8)))),(37,LF (!!b) v3),(38,LF (!!b) (int (orI (aU f.known g.known) (aU f.no g.no)))),(39,LF (!!b) (bool (Zd (orI (aU f.known g.known) (aU f.no g.no)≥0)))),(40,bool (!b||Zd (orI (aU f.known g.known) (aU f.no g.no)≥0))),(41,int (↑n:Int)),(42,int (↑n:Int)),(43,H6 v0),(44,.ref (.ptr 2 (0+Hw (↑n:Int)*8))),(45,.ref (.ptr 3 (0+Hw (↑n:Int)*1)))]) (Lm (Value.bool true)))=Jv v1 from ?_) .n))))))))))) (by subst v0 v1 v2 v3 v4;rfl) (by subst v0 v1 v2 v3 v4;(have hh:vaHit f g b=true:=dO;simp only[hh,cond_true];first|done|rfl))<;>subst v0 v1 v2 v3 v4<;>(first|exact pg rfl hs (by simp)|exact y4 rfl hb (by simp)|exact va_stB rfl (nD hb) (by simp)|exact va_stS rfl (nD hs) (by simp))
theorem va_l{kk ks ko known:Int}{fs:List (List Dp)}{rs:List D}{iS b0:List FactT}{some s0:List Bool}{f f0:FactT}{x:Int}(iF:Zd (x<if false=true then if 1024>f.By then 1024 else f.By else if 1024<f.By then 1024 else f.By)=false):(CW Hm Γ0 (vaH kk ks ko known fs rs b0 s0 .ready [.var (f0.row.map .p)]) true (sub H0 1) (vaS kk ks ko known fs rs iS some f x) (.exit 2) {t:=mkT 63 0 [],h:=vaH kk ks ko known fs rs iS some .busy [.var (f.row.map .p),.var (f.row.map .p)],m:=[]}):=by
 let v0:List D:=[int f.kind,int f.sub,int f.obj,int f.value,int f.frm,int f.By,int f.known,int f.no]
 exact zx [.st (.mask [])] [.b false] (.c iF .n)
abbrev VS:=List FactT×List Bool
def VS.ok(s:VS):Prop:=s.1.length=1024∧s.2.length=1024
def wB(f:FactT):Int:=if f.By<1024 then f.By else 1024
def fg(f:FactT)(s:VS)(n:Nat):VS:=bif vaHit f (s.1.getD n default) (s.2.getD n false) then (s.1.set n f,s.2.set n true) else s
def y5(f:FactT)(x:Int)(s:VS):VS:=(KP x.toNat (wB f - x).toNat).foldl (fg f) s
theorem vaStep_ok{f:FactT}{s:VS}(n:Nat)(h:s.ok):(fg f s n).ok:=by
 unfold fg
 cases vaHit f (s.1.getD n default) (s.2.getD n false)
 ·exact h
 ·exact⟨by simpa using h.1,by simpa using h.2⟩
theorem y6(f:FactT):(if false=true then if 1024>f.By then 1024 else f.By else if 1024<f.By then 1024 else f.By)=wB f:=by
 unfold wB;simp;split<;>split<;>omega
theorem va_cw{kk ks ko known:Int}{fs:List (List Dp)}{rs:List D}{iS b0:List FactT}{some s0:List Bool}{f f0:FactT}{x:Int}(hx:0≤x)(ho:VS.ok (iS,some)):
  CW Hm Γ0 (vaH kk ks ko known fs rs b0 s0 .ready [.var (f0.row.map .p)]) true (.loop (sub H0 1)) (vaS kk ks ko known fs rs iS some f x) (.exit 2) {t:=mkT 63 0 [],h:=vaH kk ks ko known fs rs (y5 f x (iS,some)).1 (y5 f x (iS,some)).2 .busy [.var (f.row.map .p),.var (f.row.map .p)],m:=[]}:=by
 have Pc:((x.toNat:Nat):Int)=x:=by omega
 have hh:wB f≤1024:=by unfold wB;split<;>omega
 have:=I7 (P:=Hm) (Γ:=Γ0) (h0:=vaH kk ks ko known fs rs b0 s0 .ready [.var (f0.row.map .p)]) (rd:=true) (c:=sub H0 1) (σ:=VS) (ρ:=Empty) (KP x.toNat (wB f - x).toNat) (fun n s=>.inl (fg f s n))
  (fun i s=>vaS kk ks ko known fs rs s.1 s.2 f (x+(i:Int))) (.exit 2) (fun s=>{t:=mkT 63 0 [],h:=vaH kk ks ko known fs rs s.1 s.2 .busy [.var (f.row.map .p),.var (f.row.map .p)],m:=[]}) (fun r=>r.elim)
  (fun _ s=>s.ok) (by simp) (fun r=>r.elim) ?_ ?_ (iS,some) ho
 ·rw[aC (fun s n=>fg f s n)] at this
  simpa[a8,y5] using this
 ·intro i n s hn hs
  obtain⟨hi,he⟩:=Hs.1 hn
  simp only[List.length_range'] at hi
  simp only[List.getElem_range',Nat.one_mul] at he
  have iF:(n:Int)<wB f:=by omega
  have hb:s.1[n]? = .some (s.1.getD n default):=by
   rw[HD,HH (by rw[hs.1];omega)];rfl
  have hc:s.2[n]? = .some (s.2.getD n false):=by
   rw[HD,HH (by rw[hs.2];omega)];rfl
  refine⟨fun s' h=>by cases h;exact vaStep_ok n hs,?_⟩
  have key:=va_b (kk:=kk) (ks:=ks) (ko:=ko) (known:=known) (fs:=fs) (rs:=rs) (b0:=b0) (s0:=s0) (f:=f) (f0:=f0) hb hc (by simp[inR];omega) (by rw[y6];simpa using iF)
  rw[wrap_i64 (by omega) (by omega)] at key
  have e1:x+(i:Int)=(n:Int):=by omega
  have e2:x+((i+1:Nat):Int)=(n:Int)+1:=by omega
  simp only[ah,e1,e2]
  unfold fg
  cases hq:vaHit f (s.1.getD n default) (s.2.getD n false)<;>rw[hq] at key<;>exact key
 ·intro s _
  refine va_l ?_
  rw[y6]
  simp
  omega
theorem E6{kk ks ko known:Int}{fs:List (List Dp)}{rs:List D}{iS:List FactT}{some:List Bool}(ho:VS.ok (iS,some)){f:FactT}:(CW Hm Γ0 (vaH kk ks ko known fs rs iS some .ready [.var (f.row.map .p)]) true (ao (sub H0 0)) {t:=vaU,h:=vaH kk ks ko known fs rs iS some .busy [.var (f.row.map .p),.var (f.row.map .p)],m:=[]} .normal {t:=mkT 63 0 [],h:=vaH kk ks ko known fs rs (y5 f (if true=true then if f.frm>0 then f.frm else 0 else if f.frm<0 then f.frm else 0) (iS,some)).1 (y5 f (if true=true then if f.frm>0 then f.frm else 0 else if f.frm<0 then f.frm else 0) (iS,some)).2 .busy [.var (f.row.map .p),.var (f.row.map .p)],m:=[]}):=by
 have N1:=(@va_cw (kk) (ks) (ko) (known) (fs) (rs) (iS) (iS) (some) (some) (f) (f) (if true=true then if f.frm>0 then f.frm else 0 else if f.frm<0 then f.frm else 0) (by first|assumption|(simp;split<;>omega)|(simp;done)) (ho))
 let v1:List D:=[int f.kind,int f.sub,int f.obj,int f.value,int f.frm,int f.By,int f.known,int f.no]
 let v0:List Blk:=[.var [int kk,int ks,int ko],.var rs,.var (HL (cJ (y5 f (if true=true then if f.frm>0 then f.frm else 0 else if f.frm<0 then f.frm else 0) (iS,some)).1)),.var (HL (dt (y5 f (if true=true then if f.frm>0 then f.frm else 0 else if f.frm<0 then f.frm else 0) (iS,some)).2)),.var [ab fs],.var [int kk,int ks,int ko],.var [int known],.defd,.loop Ji none 0 (mkT 63 0 [(6,.ref (.ptr 1 0)),(7,.ref (.ptr 2 0)),(8,.ref (.ptr 3 0)),(15,I4 (H2 178) [] [.ref (.ptr 4 0),.ref (.ptr 5 0),.ref (.ptr 6 0)])]) {toList:=[16]} (aH (sub H0 0)) (ao (sub H0 0)),.var v1,.var v1]
 exact zx [.st (.mask [])] [.sum [6,7,8,9,10] (HT 2) {t:=mkT 63 0 [],h:=v0,m:=[]}] (.c N1 .n)
def E7(f:FactT):Int:=if true=true then if f.frm>0 then f.frm else 0 else if f.frm<0 then f.frm else 0
def vaF(f:FactT)(s:VS):VS:=y5 f (E7 f) s
theorem E8{f:FactT}{x:Int}{s:VS}(h:s.ok):(y5 f x s).ok:=by
 unfold y5
 generalize KP x.toNat (wB f - x).toNat=l
 induction l generalizing s with
 | nil=>exact h
 | cons n l ih=>exact ih (vaStep_ok n h)
theorem E9{kk ks ko known:Int}{fs:List (List Dp)}{rs:List D}{iS:List FactT}{some:List Bool}(ho:VS.ok (iS,some)){f:FactT}:Iv Hm Γ0 (.ref (.yl 8)) [ag f.row] (vaH kk ks ko known fs rs iS some .ready [.var (f.row.map .p)]) (bool true) (vaH kk ks ko known fs rs (vaF f (iS,some)).1 (vaF f (iS,some)).2 .ready [.var (f.row.map .p),.var (f.row.map .p)]) :=
 Iv.round (h1:=vaH kk ks ko known fs rs iS some .ready [.var (f.row.map .p),.var (f.row.map .p)]) rfl rfl va_asg rfl (E6 ho) rfl
def vaGo(kk ks ko known:Int)(s:VS)(f:FactT):VS:=bif ofIs kk ks ko known f then vaF f s else s
theorem iu{n:Nat}:∀{es:List (List D)},(∀r∈es,Ig n r=true)→Ig n es.flatten=true
 | [],_=>rfl
 | e::es,h=>by
  have key:∀(xs ys:List D),Ig n xs=true→Ig n ys=true→Ig n (xs++ys)=true:=by
   intro xs ys h1 h2
   induction xs with
   | nil=>exact h2
   | cons x xs ih=>simp only[Ig,Bool.and_eq_true,KK] at h1 ⊢;exact⟨h1.1,ih h1.2⟩
  rw[Iq]
  exact key _ _ (h e (by simp)) (iu fun r hr=>h r (by simp[hr]))
theorem ph{n:Nat}{l:List FactT}:HB n (.var (cJ l).flatten)=true:=iu fun r hr=>by obtain⟨_,_,rfl⟩:=HQ.1 hr;rfl
theorem pi{n:Nat}{l:List Bool}:HB n (.var (dt l).flatten)=true:=iu fun r hr=>by obtain⟨_,_,rfl⟩:=HQ.1 hr;rfl
theorem lP{n:Nat}{l:List Int}:HB n (.var (bf l).flatten)=true:=iu fun r hr=>by obtain⟨_,_,rfl⟩:=HQ.1 hr;rfl
theorem vo_body{kk ks ko known:Int}{fs:List (List Dp)}{rs:List Int}{iS b0:List FactT}{some s0:List Bool}(ho:VS.ok (iS,some)){f:FactT}{i:Nat}(hr:aj (i:Int) fs f.row 8)(iF:Zd ((i:Int)<(fs.length:Int))=true)(hw:Hp.wrap ((i:Int)+1)=((i+1:Nat):Int)):(CW Hm Γ0 (vaH kk ks ko known fs (bf rs).flatten b0 s0 .ready []) false (sub Li 0) {t:=ofT fs i,h:=vaH kk ks ko known fs (bf rs).flatten iS some .ready [],m:=[]} .normal {t:=ofT fs ((i+1:Nat):Int),h:=vaH kk ks ko known fs (bf rs).flatten (vaGo kk ks ko known (iS,some) f).1 (vaGo kk ks ko known (iS,some) f).2 .ready [],m:=[]}):=by
 cases dO:f.kind==kk&&(f.sub==ks&&(f.obj==ko&&true))
 ·refine zX {t:=mkT 30 0 [(0,.ref (.yl 8)),(1,.ref (.ptr 4 0)),(2,.ref (.ptr 5 0)),(3,.ref (.ptr 6 0)),(7,ab fs),(8,int (↑(Hn fs):Int)),(9,int (Ht Hp ((↑i:Int)+1)))],h:=[.var [int kk,int ks,int ko],.var (HL (bf rs)),.var (HL (cJ iS)),.var (HL (dt some)),.var [ab fs],.var [int kk,int ks,int ko],.var [int known],.defd,.loop Ia none 0 (mkT 63 0 [(6,.ref (.ptr 1 0)),(7,.ref (.ptr 2 0)),(8,.ref (.ptr 3 0)),(15,I4 (H2 178) [] [.ref (.ptr 4 0),.ref (.ptr 5 0),.ref (.ptr 6 0)])]) {toList:=[16]} (aH (sub H0 0)) (ao (sub H0 0))],m:=[]} HA [.st (.mask [0,1,2,3,7,8,9]),.st (.trimV 9)] [.b true,.row [vi f.kind,vi f.sub,vi f.obj,vi f.value,vi f.frm,vi f.By,vi f.known,vi f.no],.g false,.g false,.g false,.g false,.ov 22 (bool false),.g false,.g false,.g false,.g false,.ov 28 (bool false),.b false] (.c iF (.c hr (.c (eqb dO) (.c (eqb dO) (.c (eqb dO) (.c (eqb dO) (.c (pkf (D.p (JB (Ii {toList:=[]}))) (bool false) dO) (.f (.f (.f (.f (.c (pkf (D.p (JB (Ii {toList:=[]}))) (bool false) rfl) (.er false (.c (show HB 9 (.var [int kk,int ks,int ko])=true from rfl) (.c (show HB 9 (.var (HL (bf rs)))=true from ?_) (.c (show HB 9 (.var (HL (cJ iS)))=true from ?_) (.c (show HB 9 (.var (HL (dt some)))=true from ?_) (.c (show HB 9 (.var [ab fs])=true from rfl) (.c (show HB 9 (.var [int kk,int ks,int ko])=true from rfl) (.c (show HB 9 (.var [int known])=true from rfl) (.c (show HB 9 .defd=true from rfl) (.c (show HB 9 (.loop Ia none 0 (mkT 63 0 [(6,.ref (.ptr 1 0)),(7,.ref (.ptr 2 0)),(8,.ref (.ptr 3 0)),(15,I4 (H2 178) [] [.ref (.ptr 4 0),.ref (.ptr 5 0),.ref (.ptr 6 0)])]) {toList:=[16]} (aH (sub H0 0)) (ao (sub H0 0)))=true from rfl) .n)))))))))))))))))))))) (by rfl) (by(simp only[hw,vaGo,ofIs,keyIs,dO,Ix,cond_false];rfl))<;>(first|exact ph|exact pi|exact lP)
 ·cases oN:Zd (f.known≤known)
  ·refine zX {t:=mkT 30 0 [(0,.ref (.yl 8)),(1,.ref (.ptr 4 0)),(2,.ref (.ptr 5 0)),(3,.ref (.ptr 6 0)),(7,ab fs),(8,int (↑(Hn fs):Int)),(9,int (Ht Hp ((↑i:Int)+1)))],h:=[.var [int kk,int ks,int ko],.var (HL (bf rs)),.var (HL (cJ iS)),.var (HL (dt some)),.var [ab fs],.var [int kk,int ks,int ko],.var [int known],.defd,.loop Ia none 0 (mkT 63 0 [(6,.ref (.ptr 1 0)),(7,.ref (.ptr 2 0)),(8,.ref (.ptr 3 0)),(15,I4 (H2 178) [] [.ref (.ptr 4 0),.ref (.ptr 5 0),.ref (.ptr 6 0)])]) {toList:=[16]} (aH (sub H0 0)) (ao (sub H0 0))],m:=[]} HA [.st (.mask [0,1,2,3,7,8,9]),.st (.trimV 9)] [.b true,.row [vi f.kind,vi f.sub,vi f.obj,vi f.value,vi f.frm,vi f.By,vi f.known,vi f.no],.g true,.g true,.g true,.g true,.ov 22 (bool (Zd (f.known≤known))),.g false,.g false,.g false,.g false,.ov 28 (bool false),.b false] (.c iF (.c hr (.c (eqa dO) (.c (eqa dO) (.c (eqa dO) (.c (eqa dO) (.c (pkt (bool (Zd (f.known≤known))) (bool false) dO) (.c (eqb oN) (.c (eqb oN) (.c (eqb oN) (.c (eqb oN) (.c (pkf (D.p (JB (Ii {toList:=[]}))) (bool false) oN) (.er false (.c (show HB 9 (.var [int kk,int ks,int ko])=true from rfl) (.c (show HB 9 (.var (HL (bf rs)))=true from ?_) (.c (show HB 9 (.var (HL (cJ iS)))=true from ?_) (.c (show HB 9 (.var (HL (dt some)))=true from ?_) (.c (show HB 9 (.var [ab fs])=true from rfl) (.c (show HB 9 (.var [int kk,int ks,int ko])=true from rfl) (.c (show HB 9 (.var [int known])=true from rfl) (.c (show HB 9 .defd=true from rfl) (.c (show HB 9 (.loop Ia none 0 (mkT 63 0 [(6,.ref (.ptr 1 0)),(7,.ref (.ptr 2 0)),(8,.ref (.ptr 3 0)),(15,I4 (H2 178) [] [.ref (.ptr 4 0),.ref (.ptr 5 0),.ref (.ptr 6 0)])]) {toList:=[16]} (aH (sub H0 0)) (ao (sub H0 0)))=true from rfl) .n)))))))))))))))))))))) (by rfl) (by(simp only[hw,vaGo,ofIs,keyIs,dO,oN,IG,cond_false];rfl))<;>(first|exact ph|exact pi|exact lP)
  ·let v0:=HL (cJ (vaF f (iS,some)).1)
   let v1:=HL (dt (vaF f (iS,some)).2)
   let v2:List D:=[.ref (.ptr 4 0),.ref (.ptr 5 0),.ref (.ptr 6 0)]
   let v3:List D:=[int f.kind,int f.sub,int f.obj,int f.value,int f.frm,int f.By,int f.known,int f.no]
   refine zX {t:=mkT 30 0 [(0,.ref (.yl 8)),(1,.ref (.ptr 4 0)),(2,.ref (.ptr 5 0)),(3,.ref (.ptr 6 0)),(7,ab fs),(8,int (↑(Hn fs):Int)),(9,int (Ht Hp ((↑i:Int)+1)))],h:=[.var [int kk,int ks,int ko],.var (HL (bf rs)),.var v0,.var v1,.var [ab fs],.var [int kk,int ks,int ko],.var [int known],.defd,.loop Ia none 0 (mkT 63 0 [(6,.ref (.ptr 1 0)),(7,.ref (.ptr 2 0)),(8,.ref (.ptr 3 0)),(15,I4 (H2 178) [] v2)]) {toList:=[16]} (aH (sub H0 0)) (ao (sub H0 0))],m:=[]} HA [.st (.mask [0,1,2,3,7,8,9]),.st (.trimV 9)] [.b true,.row [vi f.kind,vi f.sub,vi f.obj,vi f.value,vi f.frm,vi f.By,vi f.known,vi f.no],.g true,.g true,.g true,.g true,.ov 22 (bool (Zd (f.known≤known))),.g true,.g true,.g true,.inv (bool true) [.var [int kk,int ks,int ko],.var (HL (bf rs)),.var v0,.var v1,.var [ab fs],.var [int kk,int ks,int ko],.var [int known],.defd,.loop Ia none 0 (mkT 63 0 [(6,.ref (.ptr 1 0)),(7,.ref (.ptr 2 0)),(8,.ref (.ptr 3 0)),(15,I4 (H2 178) [] v2)]) {toList:=[16]} (aH (sub H0 0)) (ao (sub H0 0)),.var v3,.var v3],.g true,.ov 28 (bool !true),.b false] (.c iF (.c hr (.c (eqa dO) (.c (eqa dO) (.c (eqa dO) (.c (eqa dO) (.c (pkt (bool (Zd (f.known≤known))) (bool false) dO) (.c (eqa oN) (.c (eqa oN) (.c (eqa oN) (.c (@E9 kk ks ko known fs (HL (bf rs)) iS some ho f) (.c (eqa oN) (.c (pkt (bool !true) (bool false) oN) (.c (show(!true)=false from rfl) (.c (show HB 9 (.var [int kk,int ks,int ko])=true from rfl) (.c (show HB 9 (.var (HL (bf rs)))=true from ?_) (.c (show HB 9 (.var v0)=true from ?_) (.c (show HB 9 (.var v1)=true from ?_) (.c (show HB 9 (.var [ab fs])=true from rfl) (.c (show HB 9 (.var [int kk,int ks,int ko])=true from rfl) (.c (show HB 9 (.var [int known])=true from rfl) (.c (show HB 9 .defd=true from rfl) (.c (show HB 9 (.loop Ia none 0 (mkT 63 0 [(6,.ref (.ptr 1 0)),(7,.ref (.ptr 2 0)),(8,.ref (.ptr 3 0)),(15,I4 (H2 178) [] v2)]) {toList:=[16]} (aH (sub H0 0)) (ao (sub H0 0)))=true from rfl) .n))))))))))))))))))))))) (by subst v0 v1 v2 v3;rfl) (by subst v0 v1 v2 v3;(simp only[hw,vaGo,ofIs,keyIs,dO,oN,Js,cond_true];rfl))<;>subst v0 v1 v2 v3<;>(first|exact ph|exact pi|exact lP)
theorem Fa{kk ks ko known:Int}{fs:List (List Dp)}{rs:List Int}{iS b0:List FactT}{some s0:List Bool}{i:Nat}(iF:Zd ((i:Int)<(fs.length:Int))=false):(CW Hm Γ0 (vaH kk ks ko known fs (bf rs).flatten b0 s0 .ready []) false (sub Li 0) {t:=ofT fs i,h:=vaH kk ks ko known fs (bf rs).flatten iS some .ready [],m:=[]} (.exit 0) {t:=mkT 30 0 [],h:=vaH kk ks ko known fs (bf rs).flatten iS some .ready [],m:=[]}):=by
 exact zx [.st (.mask [])] [.b false] (.c iF .n)
theorem vaGo_ok{kk ks ko known:Int}{s:VS}(f:FactT)(h:s.ok):(vaGo kk ks ko known s f).ok:=by
 unfold vaGo
 cases ofIs kk ks ko known f
 ·exact h
 ·exact E8 h
theorem vo_cw{kk ks ko known:Int}{l:List FactT}(hl:af l){rs:List Int}{b0:List FactT}{s0:List Bool}(ho:VS.ok (b0,s0)):
  CW Hm Γ0 (vaH kk ks ko known (l.map Hv) (bf rs).flatten b0 s0 .ready []) false (.loop (sub Li 0)) {t:=ofT (l.map Hv) 0,h:=vaH kk ks ko known (l.map Hv) (bf rs).flatten b0 s0 .ready [],m:=[]} (.exit 0)
   {t:=mkT 30 0 [],h:=vaH kk ks ko known (l.map Hv) (bf rs).flatten (l.foldl (vaGo kk ks ko known) (b0,s0)).1 (l.foldl (vaGo kk ks ko known) (b0,s0)).2 .ready [],m:=[]}:=by
 have:=I7 (P:=Hm) (Γ:=Γ0) (h0:=vaH kk ks ko known (l.map Hv) (bf rs).flatten b0 s0 .ready []) (rd:=false) (c:=sub Li 0) (σ:=VS) (ρ:=Empty) l (fun f s=>.inl (vaGo kk ks ko known s f))
  (fun i s=>{t:=ofT (l.map Hv) (i:Int),h:=vaH kk ks ko known (l.map Hv) (bf rs).flatten s.1 s.2 .ready [],m:=[]}) (.exit 0) (fun s=>{t:=mkT 30 0 [],h:=vaH kk ks ko known (l.map Hv) (bf rs).flatten s.1 s.2 .ready [],m:=[]}) (fun r=>r.elim)
  (fun _ s=>s.ok) (by simp) (fun r=>r.elim) ?_ ?_ (b0,s0) ho
 ·rw[aC] at this
  exact this
 ·intro i f s hf hs
  have hi:=(Hs.1 hf).1
  exact⟨fun s' h=>by cases h;exact vaGo_ok f hs,vo_body hs (rowAt hf rfl) (lt_len _ hi) (wrap_succ hi hl)⟩
 ·intro s _
  exact Fa (aJ _ l)
theorem y7{kk ks ko known:Int}{l:List FactT}(hl:af l){rs:List Int}{b0:List FactT}{s0:List Bool}(ho:VS.ok (b0,s0)):(Ev Hm Γ0 178 [.ref (.yl 8),.ref (.ptr 4 0),.ref (.ptr 5 0),.ref (.ptr 6 0)] (vaH kk ks ko known (l.map Hv) (bf rs).flatten b0 s0 .ready []) (.tup []) (vaH kk ks ko known (l.map Hv) (bf rs).flatten (l.foldl (vaGo kk ks ko known) (b0,s0)).1 (l.foldl (vaGo kk ks ko known) (b0,s0)).2 .ready [])):=by
 have N1:=(@vo_cw (kk) (ks) (ko) (known) (l) (hl) (rs) (b0) (s0) (ho))
 let v0:List Blk:=[.var [int kk,int ks,int ko],.var (HL (bf rs)),.var (HL (cJ (List.foldl (vaGo kk ks ko known) (b0,s0) l).1)),.var (HL (dt (List.foldl (vaGo kk ks ko known) (b0,s0) l).2)),.var [ab (Hl Hv l)],.var [int kk,int ks,int ko],.var [int known],.defd,.loop Ia none 0 (mkT 63 0 [(6,.ref (.ptr 1 0)),(7,.ref (.ptr 2 0)),(8,.ref (.ptr 3 0)),(15,I4 (H2 178) [] [.ref (.ptr 4 0),.ref (.ptr 5 0),.ref (.ptr 6 0)])]) {toList:=[16]} (aH (sub H0 0)) (ao (sub H0 0))]
 exact H4 (JP (h':=v0) (d:=HV []) pok [.sum [0,1,2,3,7,8,9] (HT 0) {t:=mkT 30 0 [],h:=v0,m:=[]}] (by kernel_rfl) (.c N1 .n)) (by rfl) (by rfl)
noncomputable abbrev vaH0(kk ks ko known:Int)(fs:List (List Dp))(rs:List Int)(iS:List FactT)(some:List Bool):List Blk :=
 [.var [int kk,int ks,int ko],.var (bf rs).flatten,.var (cJ iS).flatten,.var (dt some).flatten,.var [ab fs],.var [int kk,int ks,int ko],.var [int known]]
theorem BX{kk ks ko known:Int}{l:List FactT}(hl:af l){rs:List Int}{b0:List FactT}{s0:List Bool}(ho:VS.ok (b0,s0)):CW Hm Γ0 [] false (sub H0 0) {t:=vaT,h:=vaH0 kk ks ko known (l.map Hv) rs b0 s0,m:=[]} .normal
  {t:=vaT,h:=vaH kk ks ko known (l.map Hv) (bf rs).flatten (l.foldl (vaGo kk ks ko known) (b0,s0)).1 (l.foldl (vaGo kk ks ko known) (b0,s0)).2 .exhausted [],m:=[7]} :=
 MY (f:=178) (fi:=[]) (ca:=[.ref (.ptr 4 0),.ref (.ptr 5 0),.ref (.ptr 6 0)]) pok (s:={t:=vaT,h:=vaH0 kk ks ko known (l.map Hv) rs b0 s0,m:=[]}) (g:=.tmp 15) (ps:=#[16]) (asg:=aH (sub H0 0)) (body:=ao (sub H0 0)) rfl (by kernel_rfl) (y7 hl ho) rfl
theorem va_val{h:List Blk}{off n:Nat}{l:List FactT}{g:FactT}(hb:h[2]? = some (.var (cJ l).flatten))(hs:l[n]? = some g)(ho:off=n*8+3):bg Hm h 3 (.ref (.ptr 2 off))=some (int g.value):=by
 subst ho
 exact lx (sz:=8) (j:=3) (row:=g.row.map .p) (by kernel_rfl) (by kernel_rfl) hb (by simp[Hv]) (by simp[hs]) rfl
theorem y8{h:List Blk}{off n:Nat}{l:List Int}{x:Int}(hb:h[1]? = some (.var (bf l).flatten))(hn:n<l.length)(ho:off=n*1):bG Hm h 3 (.ref (.ptr 1 off)) (int x)=some (h.set 1 (.var (bf (l.set n x)).flatten)):=by
 subst ho
 rw[ly (sz:=1) (new:=[int x]) rfl (by kernel_rfl) rfl hb (fun r hr=>by obtain⟨_,_,rfl⟩:=HQ.1 hr;rfl) (by simpa using hn),bf,bf,ME]
abbrev Fb(v:Int):Int:=if true=true then if -1>v then -1 else v else if -1<v then -1 else v
noncomputable abbrev vlS(kk ks ko known:Int)(fs:List (List Dp))(rs:List Int)(iS:List FactT)(some:List Bool)(i:Int):AS:={t:=mkT 63 0 [(6,.ref (.ptr 1 0)),(7,.ref (.ptr 2 0)),(8,.ref (.ptr 3 0)),(46,int i)],h:=vaH kk ks ko known fs (bf rs).flatten iS some .exhausted [],m:=[7]}
theorem vl_b{kk ks ko known:Int}{fs:List (List Dp)}{rs:List Int}{iS:List FactT}{some:List Bool}{g:FactT}{n:Nat}{b:Bool}(hb:iS[n]? = .some g)(hs:some[n]? = .some b)(hn:inR (n:Int) 1024=true)(hr:n<rs.length)(iF:Zd ((n:Int)<1024)=true):(CW Hm Γ0 [] false (sub H0 2) (vlS kk ks ko known fs rs iS some (n:Int)) .normal (vlS kk ks ko known fs (bif b then (rs.set n (-1)).set n (Fb g.value) else rs.set n (-1)) iS some (Hp.wrap ((n:Int)+1)))):=by
 cases dO:b
 ·let v0:List Blk:=[.var [int kk,int ks,int ko],.var (HL (bf (J1 rs n (-1)))),.var (HL (cJ iS)),.var (HL (dt some)),.var [ab fs],.var [int kk,int ks,int ko],.var [int known],.defd,.loop Ip none 0 (mkT 63 0 [(6,.ref (.ptr 1 0)),(7,.ref (.ptr 2 0)),(8,.ref (.ptr 3 0)),(15,I4 (H2 178) [] [.ref (.ptr 4 0),.ref (.ptr 5 0),.ref (.ptr 6 0)])]) {toList:=[16]} (aH (sub H0 0)) (ao (sub H0 0))]
  refine zX {t:=mkT 63 0 [(6,.ref (.ptr 1 0)),(7,.ref (.ptr 2 0)),(8,.ref (.ptr 3 0)),(46,int (Ht Hp ((↑n:Int)+1)))],h:=v0,m:=[7]} HA [.st (.mask [6,7,8,46])] [.b true,.oh 10050 IK (vaH kk ks ko known fs (HL (bf (J1 rs n (-1)))) iS some Ip []),.ov 53 (bool b),.b false] (.c iF (.c hn (.c (show bG Hm [.var [int kk,int ks,int ko],.var (HL (bf rs)),.var (HL (cJ iS)),.var (HL (dt some)),.var [ab fs],.var [int kk,int ks,int ko],.var [int known],.defd,.loop Ip none 0 (mkT 63 0 [(6,.ref (.ptr 1 0)),(7,.ref (.ptr 2 0)),(8,.ref (.ptr 3 0)),(15,I4 (H2 178) [] [.ref (.ptr 4 0),.ref (.ptr 5 0),.ref (.ptr 6 0)])]) {toList:=[16]} (aH (sub H0 0)) (ao (sub H0 0))] 3 (.ref (.ptr 1 (0+Hw (↑n:Int)*1))) (evalD Γ0 (mkT 63 0 [(6,.ref (.ptr 1 0)),(7,.ref (.ptr 2 0)),(8,.ref (.ptr 3 0)),(11,int (↑n:Int)),(46,int (↑n:Int)),(47,bool (Zd ((↑n:Int)<1024))),(48,int (↑n:Int)),(49,int (↑n:Int)),(50,.ref (.ptr 1 (0+Hw (↑n:Int)*1)))]) (Lm (JS Hp (-1))))=Jv v0 from ?_) (.c hn (.c (show bg Hm v0 4 (.ref (.ptr 3 (0+Hw (↑n:Int)*1)))=Jv (bool b) from ?_) (.c dO .n)))))) (by subst v0;rfl) (by subst v0;rfl)<;>subst v0<;>(first|exact pg rfl hs (by simp)|exact y8 rfl hr (by simp))
 ·let v2:List D:=[.ref (.ptr 4 0),.ref (.ptr 5 0),.ref (.ptr 6 0)]
  let v3:=HL (bf (J1 (J1 rs n (-1)) n (Fb g.value)))
  let v4:=HL (cJ iS)
  let v5:=HL (dt some)
  let v0:List Blk:=[.var [int kk,int ks,int ko],.var (HL (bf (J1 rs n (-1)))),.var v4,.var v5,.var [ab fs],.var [int kk,int ks,int ko],.var [int known],.defd,.loop Ip none 0 (mkT 63 0 [(6,.ref (.ptr 1 0)),(7,.ref (.ptr 2 0)),(8,.ref (.ptr 3 0)),(15,I4 (H2 178) [] v2)]) {toList:=[16]} (aH (sub H0 0)) (ao (sub H0 0))]
  let v1:List Blk:=[.var [int kk,int ks,int ko],.var v3,.var v4,.var v5,.var [ab fs],.var [int kk,int ks,int ko],.var [int known],.defd,.loop Ip none 0 (mkT 63 0 [(6,.ref (.ptr 1 0)),(7,.ref (.ptr 2 0)),(8,.ref (.ptr 3 0)),(15,I4 (H2 178) [] v2)]) {toList:=[16]} (aH (sub H0 0)) (ao (sub H0 0))]
  refine zX {t:=mkT 63 0 [(6,.ref (.ptr 1 0)),(7,.ref (.ptr 2 0)),(8,.ref (.ptr 3 0)),(46,int (Ht Hp ((↑n:Int)+1)))],h:=v1,m:=[7]} HA [.st (.mask [6,7,8,46])] [.b true,.oh 10050 IK (vaH kk ks ko known fs (HL (bf (J1 rs n (-1)))) iS some Ip []),.ov 53 (bool b),.b true,.ov 58 (int g.value),.oh 10060 IK (vaH kk ks ko known fs v3 iS some Ip [])] (.c iF (.c hn (.c (show bG Hm [.var [int kk,int ks,int ko],.var (HL (bf rs)),.var v4,.var v5,.var [ab fs],.var [int kk,int ks,int ko],.var [int known],.defd,.loop Ip none 0 (mkT 63 0 [(6,.ref (.ptr 1 0)),(7,.ref (.ptr 2 0)),(8,.ref (.ptr 3 0)),(15,I4 (H2 178) [] v2)]) {toList:=[16]} (aH (sub H0 0)) (ao (sub H0 0))] 3 (.ref (.ptr 1 (0+Hw (↑n:Int)*1))) (evalD Γ0 (mkT 63 0 [(6,.ref (.ptr 1 0)),(7,.ref (.ptr 2 0)),(8,.ref (.ptr 3 0)),(11,int (↑n:Int)),(46,int (↑n:Int)),(47,bool (Zd ((↑n:Int)<1024))),(48,int (↑n:Int)),(49,int (↑n:Int)),(50,.ref (.ptr 1 (0+Hw (↑n:Int)*1)))]) (Lm (JS Hp (-1))))=Jv v0 from ?_) (.c hn (.c (show bg Hm v0 4 (.ref (.ptr 3 (0+Hw (↑n:Int)*1)))=Jv (bool b) from ?_) (.c dO (.c hn (.c (show bg Hm v0 3 (.ref (.ptr 2 (0+Hw (↑n:Int)*8+3)))=Jv (int g.value) from ?_) (.c hn (.c (show bG Hm v0 3 (.ref (.ptr 1 (0+Hw (↑n:Int)*1))) (int (if true=true then if -1>g.value then -1 else g.value else if -1<g.value then -1 else g.value))=Jv v1 from ?_) .n)))))))))) (by subst v2 v3 v4 v5 v0 v1;rfl) (by subst v2 v3 v4 v5 v0 v1;rfl)<;>subst v2 v3 v4 v5 v0 v1<;>(first|exact pg rfl hs (by simp)|exact va_val rfl hb (by simp)|exact y8 rfl hr (by simp)|exact y8 rfl (by simpa using hr) (by simp))
theorem Fc{kk ks ko known:Int}{fs:List (List Dp)}{rs:List Int}{iS:List FactT}{some:List Bool}:(CW Hm Γ0 [] false (sub H0 2) (vlS kk ks ko known fs rs iS some 1024) (.exit 4) {t:=mkT 63 0 [(6,.ref (.ptr 1 0))],h:=vaH kk ks ko known fs (bf rs).flatten iS some .exhausted [],m:=[7]}):=by
 exact zx [.st (.mask [6])] [.b false] (.c (show Zd (1024<1024)=false from rfl) .n)
def vlStep(s:VS)(rs:List Int)(n:Nat):List Int:=bif s.2.getD n false then (rs.set n (-1)).set n (Fb (s.1.getD n default).value) else rs.set n (-1)
def rI(s:VS)(rs:List Int):List Int:=(List.range 1024).foldl (vlStep s) rs
theorem vl_cw{kk ks ko known:Int}{fs:List (List Dp)}{rs:List Int}{iS:List FactT}{some:List Bool}(ho:VS.ok (iS,some))(hr:rs.length=1024):
  CW Hm Γ0 [] false (.loop (sub H0 2)) (vlS kk ks ko known fs rs iS some 0) (.exit 4) {t:=mkT 63 0 [(6,.ref (.ptr 1 0))],h:=vaH kk ks ko known fs (bf (rI (iS,some) rs)).flatten iS some .exhausted [],m:=[7]}:=by
 have:=I7 (P:=Hm) (Γ:=Γ0) (h0:=[]) (rd:=false) (c:=sub H0 2) (σ:=List Int) (ρ:=Empty) (List.range 1024) (fun n rs=>.inl (vlStep (iS,some) rs n))
  (fun i rs=>vlS kk ks ko known fs rs iS some (i:Int)) (.exit 4) (fun rs=>{t:=mkT 63 0 [(6,.ref (.ptr 1 0))],h:=vaH kk ks ko known fs (bf rs).flatten iS some .exhausted [],m:=[7]}) (fun r=>r.elim)
  (fun _ rs=>rs.length=1024) (by simp) (fun r=>r.elim) ?_ ?_ rs hr
 ·rw[aC (fun rs n=>vlStep (iS,some) rs n)] at this
  exact this
 ·intro i n rs hn hs
  obtain⟨hi,he⟩:=Hs.1 hn
  simp only[L5] at hi
  simp only[List.getElem_range] at he
  subst he
  have hb:iS[i]? = .some (iS.getD i default):=by
   rw[HD,HH (by rw[ho.1];omega)];rfl
  have hc:some[i]? = .some (some.getD i false):=by
   rw[HD,HH (by rw[ho.2];omega)];rfl
  refine⟨fun s' h=>by cases h;unfold vlStep;cases some.getD i false<;>simp[hs],?_⟩
  have key:=vl_b (kk:=kk) (ks:=ks) (ko:=ko) (known:=known) (fs:=fs) (rs:=rs) hb hc (by simp[inR];omega) (by omega) (by simp;omega)
  rw[wrap_i64 (by omega) (by omega)] at key
  simp only[ah]
  unfold vlStep
  cases hq:some.getD i false<;>rw[hq] at key<;>exact key
 ·intro rs _
  simp only[L5]
  exact Fc
end Go.Vi
