/- RecordSituateSpecUpto: part of the proof: contracts of the functions that the law reaches, and the law. No conditions beyond the given statement's own. -/
import Derived.Test.YtilebidefogaiaaGreatDoorW2
import Derived.Shelf.SlSortCmp.NoneTotal
import Derived.Sort.EveryDepth
import Derived.Ground.SlsfProg
open Decidable renaming decide → Zd
open Go.Proofs.Tryz renaming prog → Hm, f159 → H0, f111 → Mq, f60 → KE
open List renaming mem_map → HQ, length_map → Ir, all_eq_true → HU, mem_singleton → Lb, map → Hl, foldl → HP, flatten → HL, replicate → HX, map_cons → Il, flatten_cons → Iq, cons_append → KK, map_append → K8, all → HJ, length → Hn, range' → KP, getElem?_eq_some_iff → Hs, length_range' → Nv, getElem?_eq_getElem → HH, getElem?_append_left → HK, getElem?_append_right → Ib, length_cons → HY, ext_getElem? → Ki, length_append → ID, getElem?_eq_none → IT, mergeSort_perm → Jl, foldl_cons → H7, length_nil → Jj, mergeSort → IA, filterMap_cons → Nl, flatMap_cons → Kt, mem_cons → HR, any → L6
open Go.Vi.D renaming agg → H6, mapRL → It, tup → HV
open Go.Vi.FactT renaming row → Hv
open Go.LoopState renaming exhausted → Ip
open Go.Fn renaming func → H2
open Go.Exit renaming normal → HA, exit → HT
open Go.Vi.Blk renaming Om → HB
open Go.IntKind renaming i64 → Hp, wrap → Ht
open Int renaming toNat → Hw, tmod → K3, tdiv → Jw
open Go.Value renaming oneCell' → IJ
open Nat renaming one_mul → Ni, add_mul → J0, le_of_not_lt → JW, zero_add → I3, le_trans → J5, mul_le_mul_right → Kk
open Go.Sort renaming grow → Lj, heap_grow_old → KW, putRow → Jc, mapBlock → I8, ahead → Jq, putCells → JO
open Array renaming getElem?_toList → IH, getElem?_eq_some_iff → Jh, getElem?_modify → Kj, getElem?_eq_getElem → Iw, extract_size → Nk
open Go.World renaming cell? → MM
open Go.Calls renaming mono → Nj
open Bool renaming not_eq_true → Kb, not_eq_true' → IU, and_eq_true → Hx
open Option renaming map_some → H9
open Go.Proofs.SlLaysF0 renaming n6 → Mk
open Go.Vi.CourseT renaming row → Hz
open Go.Vi.SysT renaming row → HC
open Go.Vi.Ev renaming castH → H4, of_sym → JP, glob0 → H5, frameX → JA
open Go.Vi.WorldT renaming l → HI
open Go.Vi.RuleT renaming fl → Hr
open Go.Vi.AttT renaming row → Hq
open Option.some renaming injEq → Ho
open Go Go.Proofs
namespace Go.Vi
set_option maxRecDepth 100000
set_option maxHeartbeats 4000000
theorem y9{h:List Blk}{l:List Int}(hb:h[1]? = some (.var (bf l).flatten))(hl:l.length=1024):bg Hm h 215 (.ref (.ptr 1 0))=some (.agg (bf l).flatten) :=
 Bm (by kernel_rfl) (by rw[eX (sz:=1) (bf l) (fun r hr=>by obtain⟨_,_,rfl⟩:=HQ.1 hr;rfl)];simp only[bf,Ir,hl];kernel_rfl) hb
theorem rJ{l:List Int}:(H6 (bf l).flatten).cells=some (bf l).flatten:=by
 have:(bf l).flatten.all D.one=true:=by
  rw[HU]
  intro d hd
  obtain⟨r,hr,hd⟩:=List.mem_flatten.1 hd
  obtain⟨n,_,rfl⟩:=HQ.1 hr
  simp only[Lb] at hd
  subst hd;rfl
 simp only[D.cells,this,if_true]
theorem st_int{h:List Blk}{l:List Int}(hb:h[1]? = some (.var (bf l).flatten))(hl:l.length=1024):bG Hm h 215 (.ref (.ptr 1 0)) (.agg (bf l).flatten)=some (h.set 1 (.var (bf l).flatten)) :=
 qP rJ (by rw[eX (sz:=1) (bf l) (fun r hr=>by obtain⟨_,_,rfl⟩:=HQ.1 hr;rfl)];simp only[bf,Ir,hl];kernel_rfl) rfl hb
theorem lQ{s:VS}{rs:List Int}(h:rs.length=1024):(rI s rs).length=1024:=by
 unfold rI
 generalize List.range 1024=l
 induction l generalizing rs with
 | nil=>exact h
 | cons n l ih=>exact ih (by unfold vlStep;cases s.2.getD n false<;>simp[h])
noncomputable abbrev vaE(kk ks ko known:Int)(l:List FactT)(rs:List Int)(s:VS):List Blk:=vaH kk ks ko known (l.map Hv) (bf (rI (l.foldl (vaGo kk ks ko known) s) rs)).flatten (l.foldl (vaGo kk ks ko known) s).1 (l.foldl (vaGo kk ks ko known) s).2 .exhausted []
theorem BZ{kk ks ko known:Int}{l:List FactT}(hl:af l){rs:List Int}{b0:List FactT}{s0:List Bool}(ho:VS.ok (b0,s0))(hf:VS.ok (l.foldl (vaGo kk ks ko known) (b0,s0)))(hr:rs.length=1024)(e1:cS Hm [.var [int kk,int ks,int ko]] 215 (.ref (.ptr 1 0)) [.var [int kk,int ks,int ko],.var (bf rs).flatten])
  (e2:cS Hm [.var [int kk,int ks,int ko],.var (bf rs).flatten] 243 (.ref (.ptr 2 0)) [.var [int kk,int ks,int ko],.var (bf rs).flatten,.var (cJ b0).flatten])
  (e3:cS Hm [.var [int kk,int ks,int ko],.var (bf rs).flatten,.var (cJ b0).flatten] 244 (.ref (.ptr 3 0)) [.var [int kk,int ks,int ko],.var (bf rs).flatten,.var (cJ b0).flatten,.var (dt s0).flatten]):(CW Hm Γ0 [] false (ja H0) {t:=mkT 63 0 [(0,ab (l.map Hv)),(1,.agg [int kk,int ks,int ko]),(2,int known)],h:=[],m:=[]} .ret {t:=mkT 63 0 [(6,.ref (.ptr 1 0))],h:=vaE kk ks ko known l rs (b0,s0),m:=[7]}):=by
 have N1:=(@BX (kk) (ks) (ko) (known) (l) (hl) (rs) (b0) (s0) (ho))
 have Oj:=(@vl_cw (kk) (ks) (ko) (known) (Hl Hv l) (rs) ((HP (vaGo kk ks ko known) (b0,s0) l).1) ((HP (vaGo kk ks ko known) (b0,s0) l).2) (hf) (hr))
 let v2:=HP (vaGo kk ks ko known) (b0,s0) l
 let v3:List Blk:=[.var [int kk,int ks,int ko],.var (HL (bf rs)),.var (HL (cJ b0))]
 let v4:List D:=[.ref (.ptr 4 0),.ref (.ptr 5 0),.ref (.ptr 6 0)]
 let v5:List Blk:=[.var [int kk,int ks,int ko],.var (HL (bf rs)),.var (HL (cJ b0)),.var (HL (dt s0))]
 let v6:List Blk:=[.var [int kk,int ks,int ko],.var (HL (bf rs))]
 let v7:=HL (bf (rI v2 rs))
 let v8:=HL (cJ v2.1)
 let v9:=HL (dt v2.2)
 let v10:List D:=[ab (Hl Hv l)]
 let v0:List Blk:=[.var [int kk,int ks,int ko],.var (HL (bf (rI (v2.1,v2.2) rs))),.var v8,.var v9,.var v10,.var [int kk,int ks,int ko],.var [int known],.defd,.loop Ip none 0 (mkT 63 0 [(6,.ref (.ptr 1 0)),(7,.ref (.ptr 2 0)),(8,.ref (.ptr 3 0)),(15,D.fn (H2 178) [] v4)]) {toList:=[16]} (aH (sub H0 0)) (ao (sub H0 0))]
 let v1:List Blk:=[.var [int kk,int ks,int ko],.var v7,.var v8,.var v9,.var v10,.var [int kk,int ks,int ko],.var [int known],.defd,.loop Ip none 0 (mkT 63 0 [(6,.ref (.ptr 1 0)),(7,.ref (.ptr 2 0)),(8,.ref (.ptr 3 0)),(15,D.fn (H2 178) [] v4)]) {toList:=[16]} (aH (sub H0 0)) (ao (sub H0 0))]
 refine zx [.st (.mask [6])] [.oh 6 (.ref (.ptr 1 0)) v6,.oh 7 (.ref (.ptr 2 0)) v3,.oh 8 (.ref (.ptr 3 0)) v5,.inl,.sum [6,7,8,15] (HA) {t:=mkT 63 0 [(6,.ref (.ptr 1 0)),(7,.ref (.ptr 2 0)),(8,.ref (.ptr 3 0)),(15,D.fn (H2 178) [] v4)],h:=[.var [int kk,int ks,int ko],.var (HL (bf rs)),.var v8,.var v9,.var v10,.var [int kk,int ks,int ko],.var [int known],.defd,.loop Ip none 0 (mkT 63 0 [(6,.ref (.ptr 1 0)),(7,.ref (.ptr 2 0)),(8,.ref (.ptr 3 0)),(15,D.fn (H2 178) [] v4)]) {toList:=[16]} (aH (sub H0 0)) (ao (sub H0 0))],m:=[7]},.sum [6,7,8,46] (HT 4) {t:=mkT 63 0 [(6,.ref (.ptr 1 0))],h:=v0,m:=[7]},.ov 62 (H6 v7),.oh 10006 D.any (vaE kk ks ko known l rs (b0,s0))] (.c (show cS Hm [.var [int kk,int ks,int ko]] 215 (.ref (.ptr 1 0)) v6 from ?_) (.c (show cS Hm v6 243 (.ref (.ptr 2 0)) v3 from ?_) (.c (show cS Hm v3 244 (.ref (.ptr 3 0)) v5 from ?_) (.c N1 (.c Oj (.c (show bg Hm v0 215 (.ref (.ptr 1 0))=some (H6 v7) from ?_) (.c (show bG Hm v0 215 (.ref (.ptr 1 0)) (H6 v7)=some v1 from ?_) .n)))))))<;>subst v2 v3 v4 v5 v6 v7 v8 v9 v10 v0 v1<;>(first|assumption|exact y9 rfl (lQ hr)|exact st_int rfl (lQ hr))
theorem Fd{n:Nat}{l:List Int}:D.Om n (.agg (bf l).flatten)=true:=lP (n:=n) (l:=l)
def vZ:VS:=(HX 1024 fz,HX 1024 false)
theorem B0:vZ.ok:=⟨by simp[vZ],by simp[vZ]⟩
theorem za{kk ks ko known:Int}{l:List FactT}{s:VS}(h:s.ok):(l.foldl (vaGo kk ks ko known) s).ok:=by
 induction l generalizing s with
 | nil=>exact h
 | cons f l ih=>exact ih (vaGo_ok f h)
def a6(kk ks ko known:Int)(l:List FactT):List Int:=rI (l.foldl (vaGo kk ks ko known) vZ) (HX 1024 0)
theorem cX{kk ks ko known:Int}{l:List FactT}:(a6 kk ks ko known l).length=1024:=lQ (by simp)
theorem B1{kk ks ko known:Int}{l:List FactT}(hl:af l):Ev Hm Γ0 159 [ab (l.map Hv),.agg [int kk,int ks,int ko],int known] [] (.agg (bf (a6 kk ks ko known l)).flatten) (se [7] (vaE kk ks ko known l (HX 1024 0) vZ)):=by
 have hw:=BZ (kk:=kk) (ks:=ks) (ko:=ko) (known:=known) hl (rs:=HX 1024 0) (b0:=vZ.1) (s0:=vZ.2) B0 (za B0) (by simp) (by unfold cS;kernel_rfl) (by unfold cS vZ;kernel_rfl) (by unfold cS vZ;kernel_rfl)
 refine Ev.of_cw (fn:=H0) (by kernel_rfl) (by kernel_rfl) hw ?_
 have hc:bg Hm (se [7] (vaE kk ks ko known l (HX 1024 0) vZ)) 215 (.ref (.ptr 1 0))=some (.agg (bf (a6 kk ks ko known l)).flatten):=y9 rfl cX
 have hr:dl Hm (mkT 63 0 [(6,.ref (.ptr 1 0))]) (se [7] (vaE kk ks ko known l (HX 1024 0) vZ)) H0.results.toList=some [.agg (bf (a6 kk ks ko known l)).flatten]:=by
  show(match iO Hm (mkT 63 0 [(6,.ref (.ptr 1 0))]) (se [7] (vaE kk ks ko known l (HX 1024 0) vZ)) (.cell 6 215),some [] with
   | some d,some ds=>some (d::ds)
   | _,_=>none)=_
  have:iO Hm (mkT 63 0 [(6,.ref (.ptr 1 0))]) (se [7] (vaE kk ks ko known l (HX 1024 0) vZ)) (.cell 6 215)=some (.agg (bf (a6 kk ks ko known l)).flatten):=hc
  rw[this]
 simp only[finF,pre]
 rw[hr]
 rfl
theorem zb{kk ks ko known:Int}{l:List FactT}(hl:af l)(h:List Blk):Ev Hm Γ0 159 [ab (l.map Hv),.agg [int kk,int ks,int ko],int known] h (.agg (bf (a6 kk ks ko known l)).flatten) h :=
 Ev.frame0 rfl (by have:=Ev.trim (h:=[]) (d:=.agg (bf (a6 kk ks ko known l)).flatten) Fd rfl (B1 (kk:=kk) (ks:=ks) (ko:=ko) (known:=known) hl);simpa using this) h
abbrev ae(rs:List (List Dp)):List (List D):=rs.map (Hl D.p)
theorem aL(rs:List (List Dp))(f:Ref→D):(ae rs).map (It f)=ae rs:=ai f rs
theorem Dh(k:Nat):∀r:List Dp,D.innL k (r.map .p)=true
 | []=>rfl
 | _::r=>by simp[D.innL,D.Om,Dh k r]
theorem cF(rs:List (List Dp))(k:Nat):(ae rs).all (D.innL k)=true:=by
 rw[HU]
 intro r hr
 obtain⟨x,_,rfl⟩:=HQ.1 hr
 exact Dh k x
theorem tc{h:List Blk}{l r:List Int}(hb:h[1]? = some (.var (bf r).flatten))(hr:r.length=1024)(hl:l.length=1024):bG Hm h 215 (.ref (.ptr 1 0)) (.agg (bf l).flatten)=some (h.set 1 (.var (bf l).flatten)) :=
 qP rJ (by rw[eX (sz:=1) (bf l) (fun r hr=>by obtain⟨_,_,rfl⟩:=HQ.1 hr;rfl)];simp only[bf,Ir,hl];kernel_rfl)
  (by rw[eX (sz:=1) (bf l) (fun r hr=>by obtain⟨_,_,rfl⟩:=HQ.1 hr;rfl),eX (sz:=1) (bf r) (fun r hr=>by obtain⟨_,_,rfl⟩:=HQ.1 hr;rfl)];simp[hl,hr]) hb
structure PtT where
 term:Int
 value:Int
 deriving Inhabited,DecidableEq
def PtT.row(p:PtT):List Dp:=[vi p.term,vi p.value]
theorem zc{h:List Blk}{off n:Nat}{l:List Int}{v:Int}(hb:h[1]? = some (.var (bf l).flatten))(hs:l[n]? = some v)(ho:off=n*1):bg Hm h 3 (.ref (.ptr 1 off))=some (int v):=by
 subst ho
 exact lx (sz:=1) (j:=0) (row:=[int v]) (by kernel_rfl) (by kernel_rfl) hb (fun r hr=>by obtain⟨_,_,rfl⟩:=HQ.1 hr;rfl) (by simp[hs]) rfl
noncomputable abbrev ptH(kk ks ko:Int)(rs:List Int)(l:List PtT):List Blk:=[.var [int kk,int ks,int ko],.var (bf rs).flatten,.vec (ae (l.map PtT.row)) 0 2]
noncomputable abbrev ptS(kk ks ko to:Int)(rs:List Int)(l:List PtT)(x:Int):AS:={t:=mkT 38 0 [(3,int to),(10,.ref (.vec 2 0)),(11,.ref (.ptr 1 0)),(12,int x)],h:=ptH kk ks ko rs l,m:=[]}
theorem lR(f:Ref→D)(l:List Int):It f (bf l).flatten=(bf l).flatten:=by
 induction l with
 | nil=>rfl
 | cons n l ih=>simp only[bf,Il,Iq,KK,List.nil_append,It,D.mapR] at ih ⊢;rw[ih]
theorem u1{n:Nat}{l:List Int}{f:Ref→D}:HB n (.var (It f (bf l).flatten))=true:=by rw[lR];exact lP
theorem aP{n:Nat}{rs:List (List Dp)}{e sz:Nat}:HB n (.vec (ae rs) e sz)=true:=cF rs n
theorem iV(n:Nat)(rs:List (List Dp))(e sz:Nat):HB n (.vec (ae rs) e sz)=true:=aP
theorem vM(rs:List (List Dp))(a b c:Nat):(ae rs).map (It (al a b c))=ae rs:=ai (al a b c) rs
theorem iVa(n:Nat)(rs:List (List Dp))(b:List (List D))(e sz:Nat)(h:b.all (D.innL n)=true:=by first|rfl|exact cF _ _):HB n (.vec (ae rs++b) e sz)=true:=(List.all_append).trans (by rw[cF rs n,h];rfl)
theorem vMa(rs:List (List Dp))(q:List (List D))(a b c:Nat)(h:q.map (It (al a b c))=q:=by first|rfl|exact ai _ _):(ae rs++q).map (It (al a b c))=ae rs++q:=K8.trans (by rw[ai (al a b c) rs,h])
def ptF(v:Int)(n:Nat)(l:List PtT):List PtT:=bif Zd (v≥0) then l++[⟨(n:Int),v⟩] else l
theorem zd(l:List PtT)(n:Nat)(v:Int):ae (l.map PtT.row)++[[int (n:Int),int v]]=ae ((l++[PtT.mk (n:Int) v]).map PtT.row):=by simp[PtT.row]
theorem pt_b{kk ks ko to:Int}{rs:List Int}{l:List PtT}{n:Nat}{v:Int}(hv:rs[n]? = .some v)(hn:inR (n:Int) 1024=true)(hl:l.length≤2000)(iF:Zd ((n:Int)<if false=true then if 1024>to then 1024 else to else if 1024<to then 1024 else to)=true)(hw:Hp.wrap ((n:Int)+1)=((n+1:Nat):Int)):(CW Hm Γ0 [] false (sub Mq 0) (ptS kk ks ko to rs l (n:Int)) .normal (ptS kk ks ko to rs (ptF v n l) ((n+1:Nat):Int))):=by
 cases dO:Zd (v≥0)
 ·refine zX {t:=mkT 38 0 [(3,int to),(10,.ref (.vec 2 0)),(11,.ref (.ptr 1 0)),(12,int (Ht Hp ((↑n:Int)+1)))],h:=[.var [int kk,int ks,int ko],.var (It (al 2 0 0) (HL (bf rs))),.vec (ae (Hl PtT.row l)) 0 2],m:=[]} HA [.st (.mask [3,10,11,12]),.st (.ren 2 0),.st (.trimV 3)] [.b true,.ov 27 (int v),.b false] (.c iF (.c hn (.c (show bg Hm [.var [int kk,int ks,int ko],.var (HL (bf rs)),.vec (ae (Hl PtT.row l)) 0 2] 3 (.ref (.ptr 1 (0+Hw (↑n:Int)*1)))=some (int v) from ?_) (.c dO (.c (vM (Hl PtT.row l) 2 0 0) (.c (show HB 3 (match 0==2 with|true=>.vec (ae (Hl PtT.row l)) 0 2|false=>keepX (al 2 0 0) (.var [int kk,int ks,int ko]))=true from rfl) (.c (show HB 3 (match 0+1==2 with|true=>.vec (ae (Hl PtT.row l)) 0 2|false=>keepX (al 2 0 0) (.var (HL (bf rs))))=true from ?_) (.c (iV 3 (Hl PtT.row l) 0 2) .n)))))))) (by(simp only[];done)) (by(simp only[hw,ptF,dO,cond_false,lR];done))<;>(first|exact zc rfl hv (by simp)|exact u1)
 ·let v0:List Blk:=[.var [int kk,int ks,int ko],.var (HL (bf rs)),.vec (ae (Hl PtT.row l)) 0 2]
  refine zX {t:=mkT 38 0 [(3,int to),(10,.ref (.vec 2 0)),(11,.ref (.ptr 1 0)),(12,int (Ht Hp ((↑n:Int)+1)))],h:=[.var [int kk,int ks,int ko],.var (It (al 2 1 0) (HL (bf rs))),.vec (ae (Hl PtT.row l)++[[int (↑n:Int),int v]]) 0 2],m:=[]} HA [.st (.mask [3,10,11,12]),.st (.ren 2 0),.st (.trimV 3)] [.b true,.ov 27 (int v),.b true,.ov 33 (int v)] (.c iF (.c hn (.c (show bg Hm v0 3 (.ref (.ptr 1 (0+Hw (↑n:Int)*1)))=some (int v) from ?_) (.c dO (.c hn (.c (show bg Hm v0 3 (.ref (.ptr 1 (0+Hw (↑n:Int)*1)))=some (int v) from ?_) (.c (show(HJ [[int (↑n:Int),int v]] (aG 2)&&roomOk (Hn (ae (Hl PtT.row l))+Hn [[int (↑n:Int),int v]]) 16)=true from ?_) (.c (vMa (Hl PtT.row l) [[int (↑n:Int),int v]] 2 1 0) (.er [[int (↑n:Int),int v]] (.c (show HB 3 (match 0==2 with|true=>.vec (ae (Hl PtT.row l)++[[int (↑n:Int),int v]]) 0 2|false=>keepX (al 2 1 0) (.var [int kk,int ks,int ko]))=true from rfl) (.c (show HB 3 (match 0+1==2 with|true=>.vec (ae (Hl PtT.row l)++[[int (↑n:Int),int v]]) 0 2|false=>keepX (al 2 1 0) (.var (HL (bf rs))))=true from ?_) (.c (iVa 3 (Hl PtT.row l) [[int (↑n:Int),int v]] 0 2) .n)))))))))))) (by subst v0;(simp only[];done)) (by subst v0;(simp only[hw,ptF,dO,cond_true,zd,lR];first|done|rfl))<;>subst v0<;>(first|exact zc rfl hv (by simp)|exact u1|(simp[aG,D.one,IJ,roomOk];omega))
theorem Fe{kk ks ko to:Int}{rs:List Int}{l:List PtT}{x:Int}(iF:Zd (x<if false=true then if 1024>to then 1024 else to else if 1024<to then 1024 else to)=false):(CW Hm Γ0 [] false (sub Mq 0) (ptS kk ks ko to rs l x) (.exit 0) {t:=mkT 38 0 [(10,.ref (.vec 2 0))],h:=ptH kk ks ko rs l,m:=[]}):=by
 exact zx [.st (.mask [10])] [.b false] (.c iF .n)
def rK(to:Int):Int:=if to<1024 then to else 1024
theorem pj(to:Int):(if false=true then if 1024>to then 1024 else to else if 1024<to then 1024 else to)=rK to:=by
 unfold rK;simp;split<;>split<;>omega
def ze(rs:List Int)(x to:Int):List PtT:=(KP x.toNat (rK to - x).toNat).foldl (fun l n=>ptF (rs.getD n 0) n l) []
theorem te(v:Int)(n:Nat)(l:List PtT):(ptF v n l).length≤l.length+1:=by unfold ptF;cases Zd (v≥0)<;>simp
theorem pt_cw{kk ks ko to:Int}{rs:List Int}(hr:rs.length=1024){x:Int}(hx:0≤x):
  CW Hm Γ0 [] false (.loop (sub Mq 0)) (ptS kk ks ko to rs [] x) (.exit 0) {t:=mkT 38 0 [(10,.ref (.vec 2 0))],h:=ptH kk ks ko rs (ze rs x to),m:=[]}:=by
 have Pc:((x.toNat:Nat):Int)=x:=by omega
 have hh:rK to≤1024:=by unfold rK;split<;>omega
 have:=CW.each (P:=Hm) (Γ:=Γ0) (h0:=[]) (rd:=false) (c:=sub Mq 0) (σ:=List PtT) (ρ:=Empty) (KP x.toNat (rK to - x).toNat) (fun n l=>.inl (ptF (rs.getD n 0) n l))
  (fun i l=>ptS kk ks ko to rs l (x+(i:Int))) (.exit 0) (fun l=>{t:=mkT 38 0 [(10,.ref (.vec 2 0))],h:=ptH kk ks ko rs l,m:=[]}) (fun r=>r.elim)
  (fun i l=>l.length≤i) (by simp) (fun r=>r.elim) ?_ ?_ [] (by simp)
 ·rw[aC (fun l n=>ptF (rs.getD n 0) n l)] at this
  simpa[a8,ze] using this
 ·intro i n l hn hs
  obtain⟨hi,he⟩:=Hs.1 hn
  simp only[Nv] at hi
  simp only[List.getElem_range',Ni] at he
  have iF:(n:Int)<rK to:=by omega
  have hb:rs[n]? = some (rs.getD n 0):=by
   rw[List.getD,HH (by rw[hr];omega)];rfl
  refine⟨fun s' h=>by cases h;have:=te (rs.getD n 0) n l;omega,?_⟩
  have key:=pt_b (kk:=kk) (ks:=ks) (ko:=ko) (to:=to) (l:=l) hb (by simp[inR];omega) (by omega) (by rw[pj];simpa using iF) (by rw[wrap_i64 (by omega) (by omega)];omega)
  have e1:x+(i:Int)=(n:Int):=by omega
  have e2:x+((i+1:Nat):Int)=((n+1:Nat):Int):=by omega
  simp only[ah,e1,e2]
  exact key
 ·intro l _
  refine Fe ?_
  rw[pj]
  simp
  omega
def ptLo(frm:Int):Int:=if true=true then if frm>0 then frm else 0 else if frm<0 then frm else 0
def aR(kk ks ko frm to known:Int)(l:List FactT):List PtT:=ze (a6 kk ks ko known l) (ptLo frm) to
theorem pk(frm:Int):0≤(if true=true then if frm>0 then frm else 0 else if frm<0 then frm else 0):=by simp;split<;>omega
theorem B2{kk ks ko frm to known:Int}{l:List FactT}(hl:af l){r0:List Int}(e1:cS Hm [.var [int kk,int ks,int ko]] 215 (.ref (.ptr 1 0)) [.var [int kk,int ks,int ko],.var (bf r0).flatten])(h0:r0.length=1024)(h:List Blk):(Ev Hm Γ0 111 [ab (l.map Hv),.agg [int kk,int ks,int ko],int frm,int to,int known] h (ab ((aR kk ks ko frm to known l).map PtT.row)) h):=by
 have N1:=(@pt_cw (kk) (ks) (ko) (to) (a6 kk ks ko known l) (by first|assumption|rfl|exact cX|exact pk _|exact tc rfl h0 cX|(simp;done)) (if true=true then if frm>0 then frm else 0 else if frm<0 then frm else 0) (by first|assumption|rfl|exact cX|exact pk _|exact tc rfl h0 cX|(simp;done)))
 let v0:=HL (bf (a6 kk ks ko known l))
 let v1:=Hl PtT.row (ze (a6 kk ks ko known l) (if true=true then if frm>0 then frm else 0 else if frm<0 then frm else 0) to)
 let v2:List Blk:=[.var [int kk,int ks,int ko],.var (HL (bf r0))]
 let v3:=Hl PtT.row (aR kk ks ko frm to known l)
 refine z0 [.val (H6 v0),.oh 11 (.ref (.ptr 1 0)) v2,.oh 10011 D.any [.var [int kk,int ks,int ko],.var v0],.nx 1,.st (.nilT 10 2),.sum [3,10,11,12] (HT 0) {t:=mkT 38 0 [(10,.ref (.vec 2 0))],h:=[.var [int kk,int ks,int ko],.var v0,.vec (ae v1) 0 2],m:=[]},.st (.frz 2 v3)] (.c (@zb kk ks ko known l hl ([.var [int kk,int ks,int ko]])) (.c (show cS Hm [.var [int kk,int ks,int ko]] 215 (.ref (.ptr 1 0)) v2 from ?_) (.c (show bG Hm v2 215 (.ref (.ptr 1 0)) (H6 v0)=some [.var [int kk,int ks,int ko],.var v0] from ?_) (.c N1 (.c (show ae v1=Hl (fun x=>Hl D.p x) v3 from ?_) .n))))) h<;>subst v0 v1 v2 v3<;>(first|assumption|rfl|exact tc rfl h0 cX)
theorem zf{kk ks ko frm to known:Int}{l:List FactT}(hl:af l)(h:List Blk):Ev Hm Γ0 111 [ab (l.map Hv),.agg [int kk,int ks,int ko],int frm,int to,int known] h (ab ((aR kk ks ko frm to known l).map PtT.row)) h :=
 B2 hl (r0:=HX 1024 0) (by unfold cS;kernel_rfl) (by simp) h
end Go.Vi
open Go Go.Proofs Go.Shelf Go.RowKit Go.Sort
namespace Go.Vi
set_option maxRecDepth 100000
set_option maxHeartbeats 4000000
abbrev j9{α:Type}(enc:α→List Value)(l:List α):List (List D):=l.map fun x=>(enc x).map lit
theorem nE{w:World}{av:Nat→Prop}{loc:Loc}{h:List Blk}:∀{vs ys:List Value},RelL w av loc h (vs.map lit) ys→ys=vs
  | [],[],_=>rfl
  | [],_::_,r=>by simp[RelL] at r
  | _::_,[],r=>by simp[RelL] at r
  | v::vs,y::ys,r=>by
    simp only[Il,RelL] at r
    have h1:y=v:=by simpa[Rel,RelP] using r.1
    rw[h1,nE r.2]
theorem e9{w:World}{av:Nat→Prop}{loc:Loc}{h:List Blk}:∀{vs:List Value},RelL w av loc h (vs.map lit) vs
  | []=>trivial
  | v::vs=>by
    simp only[Il,RelL]
    exact⟨by simp[Rel,RelP],e9⟩
theorem nF{α:Type}(enc:α→List Value)(l:List α):(j9 enc l).flatten=((l.map enc).flatten).map lit:=by
  induction l with
  | nil=>rfl
  | cons a l ih=>simp only[j9,Il,Iq,K8] at ih ⊢;rw[ih]
theorem jj{α:Type}[Inhabited α](enc:α→List Value)(k:Nat)(hk:∀x,(enc x).length=k)(l:List α):(flatK enc k l.toArray).toList=(l.map enc).flatten:=by
  have key:∀(l:List α) (t:Nat),t<l.length*k→((l.map enc).flatten)[t]? = some ((enc (l.toArray[t / k]!))[t % k]!):=by
    intro l
    induction l with
    | nil=>intro t h;simp at h
    | cons a l ih =>
      intro t h
      simp only[Il,Iq]
      rcases Nat.lt_or_ge t k with iF|hge
      · rw[HK (by rw[hk];exact iF),Nat.div_eq_of_lt iF,Nat.mod_eq_of_lt iF]
        have:t<(enc a).length:=by rw[hk];exact iF
        simp[this]
      · have k0 : 0 < k := by rcases Nat.eq_zero_or_pos k with h0 | h0
                              · subst h0;simp at h
                              · exact h0
        rw[Ib (by rw[hk];exact hge),hk]
        obtain⟨u,rfl⟩:∃u,t=u+k:=⟨t - k,by omega⟩
        have hu:u<l.length*k:=by simp only[HY,J0,Ni] at h;omega
        rw[show u+k - k=u by omega,ih u hu,Nat.add_div_right _ k0,Nat.add_mod_right]
        simp
  apply Ki
  intro t
  have hlen:((l.map enc).flatten).length=l.length*k:=by
    clear key
    induction l with
    | nil=>simp
    | cons a l ih=>simp only[Il,Iq,ID,hk,ih,HY,J0,Ni];omega
  by_cases ht:t<l.length*k
  · rw[key l t ht]
    simp[flatK,ht]
  · rw[IT (by simp[flatK];omega),IT (by omega)]
theorem wD{w w':World}(h1:w.heap.size≤w'.heap.size)(h2:∀k,k<w.heap.size→w'.heap[k]? = w.heap[k]?)(h3:w'.tape=w.tape∧w'.os=w.os∧w'.output=w.output∧w.drawn≤w'.drawn):
    ∃q os',w'=Lj (w.drewN q) os':=by
  refine⟨w'.drawn - w.drawn,w'.heap.extract w.heap.size w'.heap.size,?_⟩
  obtain⟨heap,tape,drawn,os,output⟩:=w
  obtain⟨heap',tape',drawn',os',output'⟩:=w'
  obtain⟨rfl,rfl,rfl,h4⟩:=h3
  simp only[Lj,World.drewN] at h1 h2 h4 ⊢
  congr 1
  · apply Array.ext'
    rw[Array.toList_append,Array.toList_extract]
    apply Ki
    intro i
    by_cases hi:i<heap.size
    · rw[HK (by simpa using hi)]
      have:=h2 i hi
      rw[←IH,←IH] at this
      exact this
    · rw[Ib (by simpa using JW hi)]
      simp only[List.extract_eq_take_drop,Array.length_toList]
      by_cases hj:i<heap'.size
      · rw[List.getElem?_take,if_pos (by omega),List.getElem?_drop]
        congr 1;omega
      · rw[IT (by simpa using JW hj),IT (by simp;omega)]
  · omega
theorem wE{P:Program}{Γ:aw}{O:Nat→Prop}{α:Type}[Inhabited α]{enc:α→List Value}{k g:Nat}{cf:α→α→Int}{w:World}{loc:Loc}{h:List Blk}(R:Rep Γ O w loc h){bV:Nat}(hblk:avs O loc h bV)
    (hE:∀x y,Ev P Γ g [.agg ((enc x).map lit),.agg ((enc y).map lit)] [] (int (cf x y)) []) (size:Nat):CmpLays P g #[] enc k cf bV 0 size w:=by
  intro m os dk hs x y
  generalize hW:sortWorldK enc k w bV 0 m dk os=W
  have hb:bV<w.heap.size:=by
    rcases hblk with ho|ho
    · exact R.P2 bV ho
    · exact(R.Ov bV ho).1
  have P4:∀b off v,¬avs O loc h b→w.cell? ⟨b,off,none⟩=some v→W.cell? ⟨b,off,none⟩=some v∧¬avs (fun _=>False) loc [] b:=by
    intro b off v hn hc
    have Ou:b ≠ bV:=fun e=>hn (e▸hblk)
    refine⟨?_,fun ho=>ho.elim id (fun h=>absurd h cw)⟩
    subst hW
    have iF:b<w.heap.size:=by
      simp only[MM] at hc
      split at hc
      · rename_i hx;exact(Jh.1 hx).1
      · simp at hc
    have:(sortWorldK enc k w bV 0 m dk os).heap[b]? = w.heap[b]?:=by
      unfold sortWorldK
      rw[KW _ _ (by simpa[putRowK,Jc,I8,Jq] using iF)]
      simp[putRowK,Jc,I8,Jq,Kj,Ne.symm Ou]
    simp only[MM,this]
    exact hc
  have R0:Rep Γ (fun _=>False) W loc []:=by
    refine⟨fun bV ho=>absurd ho cw,fun bV ho=>ho.elim,fun b b' x x' k c c' hb=>by simp at hb,fun b x hb=>by simp at hb,fun g cs hg=>?_⟩
    exact RelCells.mono P4 g 0 cs (R.Qd g cs hg)
  have ra:RelL W (avs (fun _=>False) loc []) loc [] [.agg ((enc x).map lit),.agg ((enc y).map lit)] [.agg (enc x).toArray,.agg (enc y).toArray]:=by
    refine⟨⟨_,rfl,e9⟩,⟨_,rfl,e9⟩,trivial⟩
  refine Nj (callsIn_wide.1 (hE x y (fun _=>False) W loc _ R0 ra)) ?_
  rintro e w' ⟨v,d2,h2,l',rfl,⟨rfl,rfl⟩,R',E',rd⟩
  refine⟨?_,wD E'.size (fun b hb=>E'.same b hb cw) E'.tape⟩
  have:v=.int .i64 (cf x y):=by simpa[Rel,RelP] using rd
  rw[this]
theorem jT{P:Program}{ρ:Ren}{Γ:aw}(ok:POk P)(L:SlLaysF0.n6 P ρ){α:Type}[Inhabited α]{enc:α→List Value}{k:Nat}(aE:∀w,(isAgg (ρ.t 24)).run P w=.ok true w)(zE:∀w,(Go.sizeOf (ρ.t 24)).run P w=.ok k w)(hk:∀x,(enc x).length=k)(h1:∀x,∀v∈enc x,v.oneCell'=true)
    {cf:α→α→Int} (hO:Sort.SWO (ltOf cf)) {g:Nat} (hg:mA P g=true) (hE:∀x y,Ev P Γ g [.agg ((enc x).map lit),.agg ((enc y).map lit)] [] (int (cf x y)) [])
    {h:List Blk} {b e:Nat} {l:List α} (hb:h[b]? = some (.vec (j9 enc l) e k)) (hl:l.length<4611686018427387904) (hT:∀x∈l,∀y∈l,(ltOf cf) x y=false→(ltOf cf) y x=false→x=y) :
    Ev P Γ (ρ.f 6) [.ref (.vec b e),.p (.v (.func (.func g) #[] #[]))] h (.tup []) (h.set b (.vec (j9 enc (l.mergeSort fun x y=>!(ltOf cf) y x)) e k)):=by
  intro O w loc vs R ra
  obtain⟨y,rfl⟩:∃y,vs=[y,.func (.func g) #[] #[]]:=by
    match vs,ra with
    | [y, z], r => exact ⟨y, by have : z = .func (.func g) #[] #[] := by simpa [Rel, RelP, RelL] using r.2
                                rw[this]⟩
    | [],r=>simp[RelL] at r
    | [_],r=>simp[RelL] at r
    | _::_::_::_,r=>simp[RelL] at r
  have r:=ra.1
  simp only[Rel,RefRel,hb] at r
  have hv:=r.2.2 trivial
  have B:=R.bV b _ hb
  simp only[BlkOk] at B
  have hlen:(j9 enc l).length=l.length:=by simp[j9]
  refine callsIn_wide.2 ?_
  cases N4:loc b with
  | none =>
    rw[N4] at hv B
    obtain⟨hn,rfl⟩:=hv
    have N1:l=[]:=by simpa[j9] using hn
    subst N1
    refine Nj (AnyF.slices_SortFunc_none L none 0 _ w) ?_
    rintro e' w' ⟨rfl,rfl⟩
    have Qs:h.set b (.vec (j9 enc (([]:List α).mergeSort fun x y=>!(ltOf cf) y x)) e k)=h:=by
      apply Ki
      intro i
      by_cases hi:i=b
      · subst hi;rw[bc hb,hb];simp
      · rw[bB _ _ hi]
    refine⟨.tuple #[],.tup [],_,loc,rfl,⟨rfl,rfl⟩,?_,?_,?_⟩
    · rw[Qs];exact R
    · rw[Qs];exact Ext.refl _ _ _
    · simp[Rel,RelL]
  | some p =>
    obtain⟨bV,cap⟩:=p
    rw[N4] at hv B
    obtain⟨rfl,Rw⟩:=hv
    simp only at B
    obtain⟨c,T,fr,ys,Qy,Sn,hle,hfr,Qv,Rc,rest,Ol⟩:=B
    rw[nF] at Rc
    have hys:=nE Rc
    subst hys
    have hblk:bV<w.heap.size:=(Jh.1 Qy).1
    have Sh:avs O loc h bV:=.inr ⟨b,_,cap,hb,by simp,N4⟩
    have hH:HoldsK enc k w bV 0 l.toArray:=by
      intro j hj
      have Rz:j<l.length*k:=by simpa using hj
      have hc:c[j]? = some (flatK enc k l.toArray)[j]!:=by
        rw[←IH,Ol,←jj enc k hk l,HK (by simpa using Rz)]
        rw[IH,getElem!_pos _ j (by simpa using Rz)]
        exact Iw _
      constructor
      · simp[MM,Qy,hc]
      · have:=hfr j (Jh.1 hc).1
        obtain⟨lo,hi⟩:=fr
        simp only[World.frozen?,Qy,I3]
        rw[←Kb]
        simpa using this
    have eg:∀args w,(callFunc g args).run P w=.ok (.enter g args) w:=fun args w=>by
      unfold mA at hg
      split at hg
      · rename_i fn hfn;exact call_run ok hfn hg args w
      · simp at hg
    rw[hlen]
    refine Nj (AnyQ.slices_SortFunc L k aE zE enc hk h1 cf hO g #[] bV 0 cap l.toArray w eg (wE R Sh hE _) hH hblk hl) ?_
    rintro e' w' ⟨rfl,d',n,os,hP,hS,rfl⟩
    have Ph:d'.toList=l.mergeSort fun x y=>!(ltOf cf) y x:=by
      obtain⟨hsz',_,Q4⟩:=hP
      have e1:d'.extract 0 l.toArray.size=d':=by rw[←hsz'];exact Nk
      rw[e1,Nk] at Q4
      refine List.Perm.eq_of_pairwise (le:=fun x y=>(!(ltOf cf) y x)=true) ?_ ?_ ?_ (Q4.trans (Jl _ _).symm)
      · intro a b' ha Pr h1 h2
        simp only[IU] at h1 h2
        have ha':a∈l:=by simpa using Q4.mem_iff.1 ha
        have Qu:b'∈l:=(Jl _ _).mem_iff.1 Pr
        exact hT a ha' b' Qu h2 h1
      · rw[List.pairwise_iff_getElem]
        intro i j hi hj hij
        have Qo:i<d'.size:=by simpa using hi
        have Rz:j<d'.size:=by simpa using hj
        have:=hS i j (Nat.zero_le _) hij (by omega)
        rw[getElem!_pos d' j Rz,getElem!_pos d' i Qo] at this
        simpa using this
      · exact List.pairwise_mergeSort (fun a b c h1 h2 => by
          simp only[IU] at h1 h2 ⊢
          exact hO.ntrans _ _ _ h2 h1) (fun a b=>by
          cases hab:(ltOf cf) b a
          · simp
          · have : (ltOf cf) a b = false:=by
              cases hba:(ltOf cf) a b
              · rfl
              · have:=hO.trans _ _ _ hab hba
                rw[hO.irrefl] at this;exact absurd this (by simp)
            simp[this]) l
    have hdA:d'=(l.mergeSort fun x y=>!(ltOf cf) y x).toArray:=by rw[←Ph]
    have Qm:(l.mergeSort fun x y=>!(ltOf cf) y x).length=l.length:=by simp
    subst hdA
    clear hP hS Ph
    generalize (l.mergeSort fun x y=>!(ltOf cf) y x)=m at Qm ⊢
    have S6:(sortWorldK enc k w bV 0 n m.toArray os).heap[bV]? = some (.cells (JO id 0 (flatK enc k m.toArray) c) T fr):=by
      unfold sortWorldK
      rw[KW _ _ (by simpa[putRowK,Jc,I8,Jq] using hblk)]
      simp[putRowK,Jc,I8,Jq,Kj,Qy,Sort.onCells]
    have hfl:((l.map enc).flatten).length=l.length*k:=by rw[←jj enc k hk];simp
    have Rm:(JO id 0 (flatK enc k m.toArray) c).toList=(m.map enc).flatten++rest:=by
      unfold JO
      rw[Array.toList_mapIdx,Ol,←jj enc k hk m]
      apply Ki
      intro i
      rw[List.getElem?_mapIdx]
      by_cases hi:i<l.length*k
      · rw[HK (by rw[hfl];exact hi),HK (by simpa[Qm] using hi)]
        have Sp:i<((l.map enc).flatten).length:=by rw[hfl];exact hi
        have hi3:i<(flatK enc k m.toArray).size:=by simpa[Qm] using hi
        rw[HH Sp,IH,Iw hi3]
        simp only[H9,I3,Nat.zero_le,Nat.sub_zero,true_and,id_eq,if_pos hi3]
        rw[getElem!_pos _ i hi3]
      · rw[Ib (by rw[hfl];exact JW hi),Ib (by simpa[Qm] using JW hi)]
        simp[hi,Qm,hfl]
    have key:=R.step (w':=sortWorldK enc k w bV 0 n m.toArray os) (l':=loc) (h':=h.set b (.vec (j9 enc m) e k)) b (.vec (j9 enc m) e k)
      (by simp[sortWorldK,Lj,putRowK,Jc,I8,Jq]) ⟨rfl,rfl,rfl,by simp[sortWorldK,Lj,putRowK,Jc,I8,Jq]⟩ (fun i hi=>bB _ _ hi) (bc hb) (fun _ _=>rfl)
      (fun z hz=>by rw[hb] at hz;cases hz;exact⟨⟨Nat.le_refl _,fun _=>by simp[j9,Qm],rfl⟩,fun _=>rfl⟩)
      (fun k' Pa O3=>by
        have hkb:k' ≠ bV:=fun e=>O3 _ cap hb (by simp) (by rw[N4,e])
        unfold sortWorldK
        rw[KW _ _ (by simpa[putRowK,Jc,I8,Jq] using Pa)]
        simp[putRowK,Jc,I8,Jq,Kj,Ne.symm hkb])
      (fun k' c' Pa=>.inl ⟨_,c',hb,by simp,Pa⟩)
      (fun E=>by
        simp only[BlkOk,N4]
        refine⟨_,T,fr,(m.map enc).flatten,S6,?_,?_,?_,?_,?_,rest,Rm⟩
        · simpa[JO] using Sn
        · simpa[j9,Qm] using hle
        · simpa[JO] using hfr
        · intro r hr
          obtain⟨x,_,rfl⟩:=HQ.1 hr
          simp[hk]
        · rw[nF];exact e9)
    exact⟨.tuple #[],.tup [],_,loc,rfl,⟨rfl,rfl⟩,key.1,key.2,by simp[Rel,RelL]⟩
end Go.Vi
open Go Go.Proofs Go.Shelf
namespace Go.Proofs
def Tryz.sortAtt_ren:Go.Shelf.Ren:=⟨fun|6=>117|15=>122|14=>162|28=>173|29=>174|20=>200|21=>201|22=>202|23=>203|24=>204|25=>205|26=>206|27=>207|46=>227|47=>211|48=>212|49=>228|50=>229|57=>235|n=>n,fun|22=>45|24=>52|25=>144|3=>3|39=>192|0=>0|53=>233|55=>169|4=>4|46=>227|45=>226|50=>150|5=>5|9=>9|66=>251|70=>255|76=>265|77=>266|n=>n,fun|n=>n⟩
theorem Tryz.sortAtt:Mk Hm Tryz.sortAtt_ren:={
 mixed:=by kernel_rfl
 f6:=⟨Tryz.f117.name,by decide,Tryz.func117.trans (congrArg some (by kernel_rfl))⟩
 f14:=⟨Tryz.f162.name,by decide,Tryz.func162.trans (congrArg some (by kernel_rfl))⟩
 f15:=Tryz.func122.trans (congrArg some (by kernel_rfl))
 f20:=⟨Tryz.f200.name,by decide,Tryz.func200.trans (congrArg some (by kernel_rfl))⟩
 f21:=⟨Tryz.f201.name,by decide,Tryz.func201.trans (congrArg some (by kernel_rfl))⟩
 f22:=⟨Tryz.f202.name,by decide,Tryz.func202.trans (congrArg some (by kernel_rfl))⟩
 f23:=⟨Tryz.f203.name,by decide,Tryz.func203.trans (congrArg some (by kernel_rfl))⟩
 f24:=⟨Tryz.f204.name,by decide,Tryz.func204.trans (congrArg some (by kernel_rfl))⟩
 f25:=⟨Tryz.f205.name,by decide,Tryz.func205.trans (congrArg some (by kernel_rfl))⟩
 f26:=⟨Tryz.f206.name,by decide,Tryz.func206.trans (congrArg some (by kernel_rfl))⟩
 f27:=⟨Tryz.f207.name,by decide,Tryz.func207.trans (congrArg some (by kernel_rfl))⟩
 f28:=Tryz.func173.trans (congrArg some (by kernel_rfl))
 f29:=Tryz.func174.trans (congrArg some (by kernel_rfl))
 f46:=⟨Tryz.f227.name,by decide,Tryz.func227.trans (congrArg some (by kernel_rfl))⟩
 f47:=Tryz.func211.trans (congrArg some (by kernel_rfl))
 f48:=Tryz.func212.trans (congrArg some (by kernel_rfl))
 f49:=⟨Tryz.f228.name,by decide,Tryz.func228.trans (congrArg some (by kernel_rfl))⟩
 f50:=⟨Tryz.f229.name,by decide,Tryz.func229.trans (congrArg some (by kernel_rfl))⟩
 f57:=⟨Tryz.f235.name,by decide,Tryz.func235.trans (congrArg some (by kernel_rfl))⟩
 t0:=Tryz.underlying0
 a0:=Tryz.isAgg0
 z0:=Tryz.sizeOf0
 v0:=Tryz.zeroValue0
 t3:=Tryz.underlying3
 a3:=Tryz.isAgg3
 z3:=Tryz.sizeOf3
 v3:=Tryz.zeroValue3
 t4:=Tryz.underlying4
 a4:=Tryz.isAgg4
 z4:=Tryz.sizeOf4
 v4:=Tryz.zeroValue4
 t5:=Tryz.underlying5
 a5:=Tryz.isAgg5
 z5:=Tryz.sizeOf5
 v5:=Tryz.zeroValue5
 t9:=Tryz.underlying9
 a9:=Tryz.isAgg9
 z9:=Tryz.sizeOf9
 v9:=Tryz.zeroValue9
 t22:=Tryz.underlying45
 a22:=Tryz.isAgg45
 z22:=Tryz.sizeOf45
 v22:=Tryz.zeroValue45
 t25:=Tryz.underlying144
 a25:=Tryz.isAgg144
 z25:=Tryz.sizeOf144
 v25:=Tryz.zeroValue144
 t39:=Tryz.underlying192
 a39:=Tryz.isAgg192
 z39:=Tryz.sizeOf192
 v39:=Tryz.zeroValue192
 t45:=Tryz.underlying226
 a45:=Tryz.isAgg226
 z45:=Tryz.sizeOf226
 v45:=Tryz.zeroValue226
 t46:=Tryz.underlying227
 a46:=Tryz.isAgg227
 z46:=Tryz.sizeOf227
 v46:=Tryz.zeroValue227
 t50:=Tryz.underlying150
 a50:=Tryz.isAgg150
 z50:=Tryz.sizeOf150
 v50:=Tryz.zeroValue150
 t53:=Tryz.underlying233
 a53:=Tryz.isAgg233
 z53:=Tryz.sizeOf233
 v53:=Tryz.zeroValue233
 t55:=Tryz.underlying169
 a55:=Tryz.isAgg169
 z55:=Tryz.sizeOf169
 v55:=Tryz.zeroValue169
 t66:=Tryz.underlying251
 a66:=Tryz.isAgg251
 z66:=Tryz.sizeOf251
 v66:=Tryz.zeroValue251
 t70:=Tryz.underlying255
 a70:=Tryz.isAgg255
 z70:=Tryz.sizeOf255
 v70:=Tryz.zeroValue255
 t76:=Tryz.underlying265
 a76:=Tryz.isAgg265
 z76:=Tryz.sizeOf265
 v76:=Tryz.zeroValue265
 t77:=Tryz.underlying266
 a77:=Tryz.isAgg266
 z77:=Tryz.sizeOf266
 v77:=Tryz.zeroValue266}
end Go.Proofs
namespace Go.Vi
set_option maxRecDepth 100000
set_option maxHeartbeats 4000000
open Go.Sort
def wG(a b:AttT):Int:=orI (aU a.term b.term) (aU a.aT b.aT)
def leA(a b:AttT):Bool:=!(ltOf wG) b a
theorem pm(a b:AttT):(ltOf wG) a b=true ↔ a.term<b.term∨(a.term=b.term∧a.aT<b.aT):=by
 unfold ltOf wG orI aU
 simp only[decide_eq_true_eq]
 repeat' split
 all_goals simp_all
 all_goals omega
theorem lS(a b:AttT):(ltOf wG) a b=false ↔ ¬(a.term<b.term∨(a.term=b.term∧a.aT<b.aT)):=by
 rw[←pm,Kb]
theorem swoA:SWO (ltOf wG) where
 irrefl x:=by rw[lS];omega
 trans x y z h1 h2:=by rw[pm] at *;omega
 ntrans x y z h1 h2:=by rw[lS] at *;omega
def encA(a:AttT):List Value:=[.int .i64 a.aT,.int .i64 a.term,.int .i64 a.oR,.int .i64 a.tO,.int .i64 a.bY]
abbrev Ff(l:List AttT):List (List D):=l.map fun a=>a.row.map .p
theorem wH{h:List Blk}{b e:Nat}{l:List AttT}(hb:h[b]? = some (.vec (Ff l) e 5))(hl:l.length<4611686018427387904)(hT:∀x∈l,∀y∈l,x.term=y.term→x.aT=y.aT→x=y):
  Ev Hm Γ0 117 [.ref (.vec b e),.p (.v (.func (.func 79) #[] #[]))] h (.tup []) (h.set b (.vec (Ff (l.mergeSort leA)) e 5)) :=
 jT (α:=AttT) (enc:=encA) (k:=5) (cf:=wG) pok Tryz.sortAtt Tryz.isAgg52 Tryz.sizeOf52 (fun _=>rfl) (fun x v hv=>by simp[encA] at hv;rcases hv with rfl|rfl|rfl|rfl|rfl<;>rfl) swoA (by kernel_rfl) (fun x y=>Bw []) hb hl
  (fun x hx y hy h1 h2=>by
   rw[lS] at h1 h2
   exact hT x hx y hy (by omega) (by omega))
end Go.Vi
open Go Go.Proofs
namespace Go.Vi
set_option maxRecDepth 100000
set_option maxHeartbeats 4000000
structure ReadT where
 kind:Int
 sub:Int
 obj:Int
 frm:Int
 By:Int
 deriving Inhabited,DecidableEq
def ReadT.row(r:ReadT):List Dp:=[vi r.kind,vi r.sub,vi r.obj,vi r.frm,vi r.By]
abbrev rdR(l:List ReadT):List (List Dp):=l.map ReadT.row
theorem mD(l:List ReadT):(ae (rdR l)).all (aG 5)=true:=by
 rw[HU]
 intro r hr
 obtain⟨x,hx,rfl⟩:=HQ.1 hr
 obtain⟨y,_,rfl⟩:=HQ.1 hx
 rfl
theorem jU(l m:List ReadT):ae (rdR l)++ae (rdR m)=ae (rdR (l++m)):=by simp[ae]
abbrev lkH(w:WorldT)(known:Int)(rs:List ReadT)(e:Nat):List Blk:=[.var [.ref (.vec 1 e),ab (w.c.map Hz),ab w.p,ab (w.s.map HC),ab (w.f.map Hv),int known],.vec (ae (rdR rs)) e 5]
theorem u3{w:WorldT}{known:Int}{rs qs:List ReadT}(hb:rs.length+qs.length≤1000000000):(Ev Hm Γk 119 [.ref (.ptr 0 0),ab (rdR qs)] (lkH w known rs 0) (.tup []) (lkH w known (rs++qs) 1)):=by
 refine H4 (JP (h':=[.var [.ref (.vec 1 1),ab (Hl Hz w.c),ab w.p,ab (Hl HC w.s),ab (Hl Hv w.f),int known],.vec (ae (rdR rs)++Hl (fun x=>Hl D.p x) (rdR qs)) 1 5]) (d:=HV []) pok [] (by kernel_rfl) (.c (show(HJ (Hl (fun x=>Hl D.p x) (rdR qs)) (aG 5)&&roomOk (Hn (ae (rdR rs))+Hn (Hl (fun x=>Hl D.p x) (rdR qs))) 40)=true from(by(simp only[mD,roomOk,Bool.true_and,Hx,decide_eq_true_eq,Ir];omega))) .n)) ?_ ?_<;>(first|rfl|(simp only[lkH,rdR,ae,K8];done))
theorem rL{w:WorldT}{known:Int}{rs:List ReadT}{q:ReadT}(hb:rs.length≤999999999):(Ev Hm Γk 119 [.ref (.ptr 0 0),.ref (.vec 2 0)] (lkH w known rs 0++[.vec [[int q.kind,int q.sub,int q.obj,int q.frm,int q.By]] 0 5]) (.tup []) (lkH w known (rs++[q]) 1++[.vec [[int q.kind,int q.sub,int q.obj,int q.frm,int q.By]] 0 5])):=by
 let v0:List D:=[int q.kind,int q.sub,int q.obj,int q.frm,int q.By]
 refine H4 (JP (h':=[.var [.ref (.vec 1 1),ab (Hl Hz w.c),ab w.p,ab (Hl HC w.s),ab (Hl Hv w.f),int known],.vec (ae (rdR rs)++[v0]) 1 5,.vec [v0] 0 5]) (d:=HV []) pok [] (by kernel_rfl) (.c (show(HJ [v0] (aG 5)&&roomOk (Hn (ae (rdR rs))+Hn [v0]) 40)=true from(by subst v0;(simp[aG,D.one,IJ,roomOk];omega))) .n)) ?_ ?_<;>subst v0<;>(first|rfl|(simp only[lkH,rdR,ae,K8];rfl))
def rdN:ReadT:=⟨12,0,0,0,1⟩
theorem tf{w:WorldT}(hw:w.ok){known:Int}(h:List Blk):Ev Hm Γk 34 [.agg w.l,int known] h (.tup [ab ((ad w.f known).map fun n=>[vi n]),.ref (.vec h.length 0)]) (h++[.vec (ae (rdR [rdN])) 0 5]) :=
 H5 (lO hw.lf hw.sf h)
def rdT(kk ks ko term:Int):List ReadT:=match outB term with
 | true=>[]
 | false=>[⟨kk,ks,ko,term,Hp.wrap (term+1)⟩]
theorem zg(kk ks ko term:Int):jR kk ks ko term=rdR (rdT kk ks ko term):=by
 unfold jR rdT
 cases outB term<;>rfl
theorem rdT_len(kk ks ko term:Int):(rdT kk ks ko term).length≤1:=by unfold rdT;cases outB term<;>simp
theorem jk{w:WorldT}(hw:w.ok){n term known:Int}(h:List Blk):Ev Hm Γk 161 [.agg w.l,int n,int term,int known] h (.tup [ag (ac w n term known).1.row,ab (rdR (rdT 1 n 0 term)),bool (ac w n term known).2]) h:=by
 rw[←zg];exact wA hw h
noncomputable abbrev lT(w:WorldT)(known:Int)(rs:List ReadT):List Blk:=[.var [.ref (.vec 1 1),ab (Hl Hz w.c),ab w.p,ab (Hl HC w.s),ab (Hl Hv w.f),int known],.vec (ae (rdR (rs++[rdN]))) 1 5,.vec [[int rdN.kind,int rdN.sub,int rdN.obj,int rdN.frm,int rdN.By]] 0 5]
noncomputable abbrev tg(w:WorldT)(known:Int)(rs:List ReadT):List Blk:=[.var [.ref (.vec 1 0),ab (Hl Hz w.c),ab w.p,ab (Hl HC w.s),ab (Hl Hv w.f),int known],.vec (ae (rdR rs)) 0 5,.vec [[int rdN.kind,int rdN.sub,int rdN.obj,int rdN.frm,int rdN.By]] 0 5]
noncomputable abbrev th(w:WorldT)(known:Int)(rs:List ReadT):List Blk:=[.var [.ref (.vec 1 0),ab (Hl Hz w.c),ab w.p,ab (Hl HC w.s),ab (Hl Hv w.f),int known],.vec (ae (rdR rs)) 0 5]
theorem pn{w:WorldT}(hw:w.ok){known:Int}{rs:List ReadT}(hb:rs.length≤999999000):(Ev Hm Γk 62 [.ref (.ptr 0 0)] (lkH w known rs 0) (ab ((ad w.f known).map fun n=>[vi n])) (lkH w known (rs++[rdN]) 1)):=by
 let v0:List D:=[.ref (.vec 1 1),ab (Hl Hz w.c),ab w.p,ab (Hl HC w.s),ab (Hl Hv w.f),int known]
 refine H4 (Ev.post (d2:=ab (Hl (fun n=>[vi n]) (ad w.f known))) (h2:=[.var v0,.vec (ae (rdR (rs++[rdN]))) 1 5]) (φ:=[HB 2 (.var v0)=true,HB 2 (.vec (ae (rdR (rs++[rdN]))) 1 5)=true]) [.st (.trimV 2)] (JP (h':=(lT w known rs)) (d:=ab (Hl (fun n=>[vi n]) (ad w.f known))) pok [.call (HV [ab (Hl (fun n=>[vi n]) (ad w.f known)),.ref (.vec 2 0)]) (tg w known rs),.call (HV []) (lT w known rs)] (by kernel_rfl) (.c (@tf w hw known (th w known rs)) (.e (.ref (.ptr 0 0)) (.e (.ref (.ptr 0 1)) (.e (H6 (HI w)) (.e (.ref (.ptr 0 0)) (.e (.ref (.ptr 0 5)) (.e (int known) (.c (@rL w known rs rdN ?_) .n))))))))) (by kernel_rfl) ⟨rfl,?_,trivial⟩) (by subst v0;rfl) (by subst v0;rfl)<;>subst v0<;>(first|omega|exact cF _ _)
noncomputable abbrev mE(w:WorldT)(known:Int)(rs:List ReadT):List Blk:=[.var [.ref (.vec 1 0),ab (Hl Hz w.c),ab w.p,ab (Hl HC w.s),ab (Hl Hv w.f),int known],.vec (ae (rdR rs)) 0 5,.var [au {data:=#[]},int 0,int 0,int 0,int 0,int 0,au {data:=#[]},int 0,int 0,nq,int 0,int 0,au {data:=#[]},int 0,int 0,nq],.var [au {data:=#[]},int 0,int 0,int 0,int 0,int 0,au {data:=#[]},int 0,int 0,nq,int 0,int 0,au {data:=#[]},int 0,int 0,nq]]
noncomputable abbrev ej(w:WorldT)(known:Int)(rs:List ReadT):List Blk:=[.var [.ref (.vec 1 0),ab (Hl Hz w.c),ab w.p,ab (Hl HC w.s),ab (Hl Hv w.f),int known],.vec (ae (rdR rs)) 0 5,.var [au {data:=#[]},int 0,int 0,int 0,int 0,int 0,au {data:=#[]},int 0,int 0,nq,int 0,int 0,au {data:=#[]},int 0,int 0,nq]]
noncomputable abbrev AX(w:WorldT)(known:Int)(n:Int)(term:Int):List D:=[H6 [ab (Hl Hz w.c),ab w.p,ab (Hl HC w.s),ab (Hl Hv w.f)],int n,int term,int known]
theorem lU{w:WorldT}(hw:w.ok){known n term:Int}{rs:List ReadT}(hb:rs.length≤999999000):(Ev Hm Γk 116 [.ref (.ptr 0 0),int n,int term] (lkH w known rs 0) (ag (ac w n term known).1.row) (lkH w known (rs++rdT 1 n 0 term) 1)):=by
 let v1:List Blk:=[.var [.ref (.vec 1 0),ab (Hl Hz w.c),ab w.p,ab (Hl HC w.s),ab (Hl Hv w.f),int known],.vec (ae (rdR rs)) 0 5,.var [au {data:=#[]},int 0,int 0,int 0,int 0,int 0,au {data:=#[]},int 0,int 0,nq,int 0,int 0,au {data:=#[]},int 0,int 0,nq],.var [au (ac w n term known).1.name,int (ac w n term known).1.number,int (ac w n term known).1.bY,int (ac w n term known).1.rep,int (Hr (ac w n term known).1.oF).op,int (Hr (ac w n term known).1.oF).c,au (Hr (ac w n term known).1.oF).nm,int (Hr (ac w n term known).1.oF).n,int (Hr (ac w n term known).1.oF).d,ab (Hr (ac w n term known).1.oF).ks,int (Hr (ac w n term known).1.Bv).op,int (Hr (ac w n term known).1.Bv).c,au (Hr (ac w n term known).1.Bv).nm,int (Hr (ac w n term known).1.Bv).n,int (Hr (ac w n term known).1.Bv).d,ab (Hr (ac w n term known).1.Bv).ks]]
 let v2:List D:=[.ref (.vec 1 1),ab (Hl Hz w.c),ab w.p,ab (Hl HC w.s),ab (Hl Hv w.f),int known]
 let v0:List Blk:=[.var v2,.vec (ae (rdR (rs++rdT 1 n 0 term))) 1 5,.var [au {data:=#[]},int 0,int 0,int 0,int 0,int 0,au {data:=#[]},int 0,int 0,nq,int 0,int 0,au {data:=#[]},int 0,int 0,nq],.var [au (ac w n term known).1.name,int (ac w n term known).1.number,int (ac w n term known).1.bY,int (ac w n term known).1.rep,int (Hr (ac w n term known).1.oF).op,int (Hr (ac w n term known).1.oF).c,au (Hr (ac w n term known).1.oF).nm,int (Hr (ac w n term known).1.oF).n,int (Hr (ac w n term known).1.oF).d,ab (Hr (ac w n term known).1.oF).ks,int (Hr (ac w n term known).1.Bv).op,int (Hr (ac w n term known).1.Bv).c,au (Hr (ac w n term known).1.Bv).nm,int (Hr (ac w n term known).1.Bv).n,int (Hr (ac w n term known).1.Bv).d,ab (Hr (ac w n term known).1.Bv).ks]]
 refine H4 (Ev.post (d2:=H6 [au (ac w n term known).1.name,int (ac w n term known).1.number,int (ac w n term known).1.bY,int (ac w n term known).1.rep,int (Hr (ac w n term known).1.oF).op,int (Hr (ac w n term known).1.oF).c,au (Hr (ac w n term known).1.oF).nm,int (Hr (ac w n term known).1.oF).n,int (Hr (ac w n term known).1.oF).d,ab (Hr (ac w n term known).1.oF).ks,int (Hr (ac w n term known).1.Bv).op,int (Hr (ac w n term known).1.Bv).c,au (Hr (ac w n term known).1.Bv).nm,int (Hr (ac w n term known).1.Bv).n,int (Hr (ac w n term known).1.Bv).d,ab (Hr (ac w n term known).1.Bv).ks]) (h2:=[.var v2,.vec (ae (rdR (rs++rdT 1 n 0 term))) 1 5]) (φ:=[HB 2 (.var v2)=true,HB 2 (.vec (ae (rdR (rs++rdT 1 n 0 term))) 1 5)=true]) [.st (.trimV 2)] (JP (h':=[.var v2,.vec (ae (rdR (rs++rdT 1 n 0 term))) 1 5,.var [au (ac w n term known).1.name,int (ac w n term known).1.number,int (ac w n term known).1.bY,int (ac w n term known).1.rep,int (Hr (ac w n term known).1.oF).op,int (Hr (ac w n term known).1.oF).c,au (Hr (ac w n term known).1.oF).nm,int (Hr (ac w n term known).1.oF).n,int (Hr (ac w n term known).1.oF).d,ab (Hr (ac w n term known).1.oF).ks,int (Hr (ac w n term known).1.Bv).op,int (Hr (ac w n term known).1.Bv).c,au (Hr (ac w n term known).1.Bv).nm,int (Hr (ac w n term known).1.Bv).n,int (Hr (ac w n term known).1.Bv).d,ab (Hr (ac w n term known).1.Bv).ks],.var [au (ac w n term known).1.name,int (ac w n term known).1.number,int (ac w n term known).1.bY,int (ac w n term known).1.rep,int (Hr (ac w n term known).1.oF).op,int (Hr (ac w n term known).1.oF).c,au (Hr (ac w n term known).1.oF).nm,int (Hr (ac w n term known).1.oF).n,int (Hr (ac w n term known).1.oF).d,ab (Hr (ac w n term known).1.oF).ks,int (Hr (ac w n term known).1.Bv).op,int (Hr (ac w n term known).1.Bv).c,au (Hr (ac w n term known).1.Bv).nm,int (Hr (ac w n term known).1.Bv).n,int (Hr (ac w n term known).1.Bv).d,ab (Hr (ac w n term known).1.Bv).ks]]) (d:=H6 [au (ac w n term known).1.name,int (ac w n term known).1.number,int (ac w n term known).1.bY,int (ac w n term known).1.rep,int (Hr (ac w n term known).1.oF).op,int (Hr (ac w n term known).1.oF).c,au (Hr (ac w n term known).1.oF).nm,int (Hr (ac w n term known).1.oF).n,int (Hr (ac w n term known).1.oF).d,ab (Hr (ac w n term known).1.oF).ks,int (Hr (ac w n term known).1.Bv).op,int (Hr (ac w n term known).1.Bv).c,au (Hr (ac w n term known).1.Bv).nm,int (Hr (ac w n term known).1.Bv).n,int (Hr (ac w n term known).1.Bv).d,ab (Hr (ac w n term known).1.Bv).ks]) pok [.val (HV [H6 [au (ac w n term known).1.name,int (ac w n term known).1.number,int (ac w n term known).1.bY,int (ac w n term known).1.rep,int (Hr (ac w n term known).1.oF).op,int (Hr (ac w n term known).1.oF).c,au (Hr (ac w n term known).1.oF).nm,int (Hr (ac w n term known).1.oF).n,int (Hr (ac w n term known).1.oF).d,ab (Hr (ac w n term known).1.oF).ks,int (Hr (ac w n term known).1.Bv).op,int (Hr (ac w n term known).1.Bv).c,au (Hr (ac w n term known).1.Bv).nm,int (Hr (ac w n term known).1.Bv).n,int (Hr (ac w n term known).1.Bv).d,ab (Hr (ac w n term known).1.Bv).ks],ab (rdR (rdT 1 n 0 term)),bool (ac w n term known).2]),.call (HV []) v0] (by kernel_rfl) (.c (@jk w hw n term known (ej w known rs)) (.e (.ref (.ptr 0 0)) (.e (.ref (.ptr 0 0)) (.e (.ref (.ptr 0 1)) (.e (.ref (.ptr 0 1)) (.e (H6 (HI w)) (.e (H6 (HI w)) (.e (.ref (.ptr 0 0)) (.e (.ref (.ptr 0 0)) (.e (.ref (.ptr 0 5)) (.e (.ref (.ptr 0 5)) (.e (int known) (.e (int known) (.er (ej w known rs) (.c (@jk w hw n term known (ej w known rs)) (.c (@jk w hw n term known (mE w known rs)) (.c (show Ev Hm Γk 119 [.ref (.ptr 0 0),ab (rdR (rdT 1 n 0 term))] v1 (HV []) v0 from(H4 (JA (args:=[.ref (.ptr 0 0),ab (rdR (rdT 1 n 0 term))]) (H:=v1) [0,1] (@u3 w known rs (rdT 1 n 0 term) (by subst v1 v2 v0;(have:=rdT_len 1 n 0 term;omega))) (by kernel_rfl) (by kernel_rfl) (by kernel_rfl) ⟨?_,trivial⟩ ⟨?_,trivial⟩) (by kernel_rfl) (by kernel_rfl))) .n)))))))))))))))))) (by kernel_rfl) ⟨rfl,(by subst v1 v2 v0;exact cF _ _),trivial⟩) (by subst v1 v2 v0;rfl) (by subst v1 v2 v0;rfl)<;>subst v1 v2 v0<;>(exact ai _ _)
noncomputable abbrev c8(w:WorldT)(known:Int)(st:Int)(n:Int)(term:Int)(rs:List ReadT):List Blk:=[.var [.ref (.vec 1 1),ab (Hl Hz w.c),ab w.p,ab (Hl HC w.s),ab (Hl Hv w.f),int known],.vec (ae (rdR (rs++[{kind:=5,sub:=st,obj:=n,frm:=0,By:=term}]))) 1 5,.var [int 5,int st,int n],.vec [[int 5,int st,int n,int 0,int term]] 0 5]
theorem ti{w:WorldT}(hw:w.ok){known st n term:Int}{rs:List ReadT}(hb:rs.length≤999999000):(Ev Hm Γk 115 [.ref (.ptr 0 0),int st,int n,int term] (lkH w known rs 0) (ab ((aR 5 st n 0 term known w.f).map PtT.row)) (lkH w known (rs++[⟨5,st,n,0,term⟩]) 1)):=by
 let v0:List Blk:=[.var [.ref (.vec 1 0),ab (Hl Hz w.c),ab w.p,ab (Hl HC w.s),ab (Hl Hv w.f),int known],.vec (ae (rdR rs)) 0 5,.var [int 5,int st,int n],.vec [[int 5,int st,int n,int 0,int term]] 0 5]
 let v1:List D:=[.ref (.vec 1 1),ab (Hl Hz w.c),ab w.p,ab (Hl HC w.s),ab (Hl Hv w.f),int known]
 let v2:=Hl PtT.row (aR 5 st n 0 term known w.f)
 refine H4 (Ev.post (d2:=ab v2) (h2:=[.var v1,.vec (ae (rdR (rs++[{kind:=5,sub:=st,obj:=n,frm:=0,By:=term}]))) 1 5]) (φ:=[HB 2 (.var v1)=true,HB 2 (.vec (ae (rdR (rs++[{kind:=5,sub:=st,obj:=n,frm:=0,By:=term}]))) 1 5)=true]) [.st (.trimV 2)] (JP (h':=(c8 w known st n term rs)) (d:=ab v2) pok [.call (HV []) (c8 w known st n term rs),.val (ab v2)] (by kernel_rfl) (.c (show Ev Hm Γk 119 [.ref (.ptr 0 0),.ref (.vec 3 0)] v0 (HV []) (c8 w known st n term rs) from(H4 (JA (args:=[.ref (.ptr 0 0),.ref (.vec 3 0)]) (H:=v0) [0,1,3] (@rL w known rs ({kind:=5,sub:=st,obj:=n,frm:=0,By:=term}) (by subst v0 v1 v2;omega)) (by kernel_rfl) (by kernel_rfl) (by kernel_rfl) ⟨?_,?_,trivial⟩ ⟨?_,?_,trivial⟩) (by kernel_rfl) (by kernel_rfl))) (.e (.ref (.ptr 0 0)) (.e (.ref (.ptr 0 0)) (.e (.ref (.ptr 0 0)) (.e (.ref (.ptr 0 0)) (.e (H6 [int 5,int st,int n]) (.c (H5 (Γ':=Γk) (@zf 5 st n 0 term known (w.f) (by subst v0 v1 v2;exact hw.sf) (c8 w known st n term rs))) .n)))))))) (by kernel_rfl) ⟨rfl,(by subst v0 v1 v2;exact cF _ _),trivial⟩) (by subst v0 v1 v2;rfl) (by subst v0 v1 v2;rfl)<;>subst v0 v1 v2<;>(first|rfl|exact ai _ _)
theorem tj{h:List Blk}{b e:Nat}{l:List AttT}(hb:h[b]? = some (.vec (ae (l.map Hq)) e 5))(hl:l.length<4611686018427387904)(hT:∀x∈l,∀y∈l,x.term=y.term→x.aT=y.aT→x=y):
  Ev Hm Γ0 117 [.ref (.vec b e),.p (.v (.func (.func 79) #[] #[]))] h (.tup []) (h.set b (.vec (ae ((l.mergeSort leA).map Hq)) e 5)):=by
 have e1:∀l:List AttT,ae (l.map Hq)=Ff l:=fun l=>by simp[ae]
 rw[e1] at hb ⊢
 exact wH hb hl hT
abbrev ofH(w:WorldT)(known st:Int)(rs:List ReadT)(ats:List AttT):List Blk:=[.var [.ref (.vec 1 1),ab (w.c.map Hz),ab w.p,ab (w.s.map HC),ab (w.f.map Hv),int known],.vec (ae (rdR rs)) 1 5,.var [int st,.ref (.vec 3 0)],.vec (ae (ats.map Hq)) 0 5]
abbrev oiS(w:WorldT)(known st term:Int)(ns:List (List Dp))(ni n:Int)(ps:List (List Dp))(rs:List ReadT)(ats:List AttT)(j:Int):AS :=
 {t:=mkT 67 0 [(0,.ref (.ptr 0 0)),(1,int st),(2,int term),(6,.ref (.ptr 2 0)),(8,int n),(16,ab ns),(17,int ns.length),(18,int ni),(26,ab ps),(27,int ps.length),(28,int j)],h:=ofH w known st rs ats,m:=[]}
abbrev RA:=List ReadT×List AttT
def attBad(p:PtT):Bool:=Zd (K3 p.value 16>12)||Zd (Hp.wrap (Jw p.value 16)≥7)
def wI(w:WorldT)(known n:Int)(p:PtT):AttT:=⟨n,p.term,K3 p.value 16,Hp.wrap (Jw p.value 16),(ac w n p.term known).1.bY⟩
def rM(w:WorldT)(known n:Int)(s:RA)(p:PtT):RA:=bif attBad p then s else (s.1++rdT 1 n 0 p.term,s.2++[wI w known n p])
theorem tk(l:List AttT)(a b c d e:Int):ae (l.map Hq)++[[int a,int b,int c,int d,int e]]=ae ((l++[AttT.mk a b c d e]).map Hq):=by simp[Hq]
theorem Fg{w:WorldT}(hw:w.ok){known st term:Int}{ns:List (List Dp)}{ni n:Int}{ps:List (List Dp)}{rs0 rs:List ReadT}{ats:List AttT}{j:Nat}{p:PtT}(hr:aj (j:Int) ps p.row 2)(iF:Zd ((j:Int)<(ps.length:Int))=true)(Oy:Hp.wrap ((j:Int)+1)=((j+1:Nat):Int))(hb:rs.length≤999998000)(ha:ats.length≤999998000):(CW Hm Γk (lkH w known rs0 0) false (sub KE 1) (oiS w known st term ns ni n ps rs ats j) .normal (oiS w known st term ns ni n ps (rM w known n (rs,ats) p).1 (rM w known n (rs,ats) p).2 ((j+1:Nat):Int))):=by
 cases dO:Zd (K3 p.value 16>12)||Zd (Ht Hp (Jw p.value 16)≥7)
 ·let v0:List D:=[int n,int p.term,int (K3 p.value 16),int (Ht Hp (Jw p.value 16)),int (ac w n p.term known).1.bY]
  let v1:=H6 [au (ac w n p.term known).1.name,int (ac w n p.term known).1.number,int (ac w n p.term known).1.bY,int (ac w n p.term known).1.rep,int (Hr (ac w n p.term known).1.oF).op,int (Hr (ac w n p.term known).1.oF).c,au (Hr (ac w n p.term known).1.oF).nm,int (Hr (ac w n p.term known).1.oF).n,int (Hr (ac w n p.term known).1.oF).d,ab (Hr (ac w n p.term known).1.oF).ks,int (Hr (ac w n p.term known).1.Bv).op,int (Hr (ac w n p.term known).1.Bv).c,au (Hr (ac w n p.term known).1.Bv).nm,int (Hr (ac w n p.term known).1.Bv).n,int (Hr (ac w n p.term known).1.Bv).d,ab (Hr (ac w n p.term known).1.Bv).ks]
  let v3:List D:=[.ref (.vec 1 1),ab (Hl Hz w.c),ab w.p,ab (Hl HC w.s),ab (Hl Hv w.f),int known]
  let v4:List D:=[.ref (.vec 1 2),ab (Hl Hz w.c),ab w.p,ab (Hl HC w.s),ab (Hl Hv w.f),int known]
  let v2:List Blk:=[.var v4,.vec (ae (rdR (rs++rdT 1 n 0 p.term))) 2 5,.var [int st,.ref (.vec 3 0)],.vec (ae (Hl Hq ats)) 0 5,.var [int p.term,int p.value]]
  let v5:List Blk:=[.var v3,.vec (ae (rdR rs)) 1 5,.var [int st,.ref (.vec 3 0)],.vec (ae (Hl Hq ats)) 0 5,.var [int p.term,int p.value]]
  refine zX {t:=mkT 67 0 [(0,.ref (.ptr 0 0)),(1,int st),(2,int term),(6,.ref (.ptr 2 0)),(8,int n),(16,ab ns),(17,int (↑(Hn ns):Int)),(18,int ni),(26,ab ps),(27,int (↑(Hn ps):Int)),(28,int (Ht Hp ((↑j:Int)+1)))],h:=[.var v3,.vec (ae (rdR (rs++rdT 1 n 0 p.term))) 1 5,.var [int st,.ref (.vec 3 0)],.vec (ae (Hl Hq ats)++[v0]) 0 5],m:=[]} HA [.st (.mask [0,1,2,6,8,16,17,18,26,27,28]),.st (.ren 1 1),.st (.ren 3 0),.st (.trimV 4)] [.b true,.row [vi p.term,vi p.value],.b false,.call v1 v2] (.c iF (.c hr (.c (show(!Zd (16=0))=true from rfl) (.c (show(!Zd (16=0))=true from rfl) (.c dO (.c (show Ev Hm Γk 116 [.ref (.ptr 0 0),int n,int p.term] v5 v1 v2 from(H4 (JA (args:=[.ref (.ptr 0 0),int n,int p.term]) (H:=v5) [0,1] (Ev.upX [0,1] (@lU w hw known n (p.term) rs ?_) (by kernel_rfl) ⟨(by subst v0 v1 v3 v4 v2 v5;exact ai _ _),trivial⟩ ⟨(by subst v0 v1 v3 v4 v2 v5;exact ai _ _),trivial⟩) (by kernel_rfl) (by kernel_rfl) (by kernel_rfl) ⟨(by subst v0 v1 v3 v4 v2 v5;exact ai _ _),trivial⟩ ⟨(by subst v0 v1 v3 v4 v2 v5;exact ai _ _),trivial⟩) (by kernel_rfl) (by kernel_rfl))) (.c (show(HJ [v0] (aG 5)&&roomOk (Hn (ae (Hl Hq ats))+Hn [v0]) 40)=true from ?_) (.e (.ref (.ptr 2 1)) (.e (.ref (.ptr 2 1)) (.e (.ref (.ptr 2 1)) (.e (.ref (.vec 3 0)) (.e (.ref (.vec 3 0)) (.e (.ref (.vec 3 0)) (.e (.ref (.ptr 4 0)) (.e (.ref (.ptr 4 0)) (.e (int p.term) (.e (int p.term) (.e (.ref (.ptr 4 0)) (.e (int p.term) (.e (.ref (.ptr 2 1)) (.c (vM (rdR (rs++rdT 1 n 0 p.term)) 1 2 1) (.c (vMa (Hl Hq ats) [v0] 1 2 1) (.er [v0] (.c (vMa (Hl Hq ats) [v0] 3 1 0) (.c (vM (rdR (rs++rdT 1 n 0 p.term)) 3 1 0) (.er [v0] (.c (show HB 4 (match 0==3 with|true=>.vec (ae (Hl Hq ats)++[v0]) 0 5|false=>keepX (al 3 1 0) (match 0==1 with|true=>.vec (ae (rdR (rs++rdT 1 n 0 p.term))) 1 5|false=>keepX (al 1 2 1) (.var v4)))=true from rfl) (.c (show HB 4 (match 0+1==3 with|true=>.vec (ae (Hl Hq ats)++[v0]) 0 5|false=>keepX (al 3 1 0) (match 0+1==1 with|true=>.vec (ae (rdR (rs++rdT 1 n 0 p.term))) 1 5|false=>keepX (al 1 2 1) (.vec (ae (rdR (rs++rdT 1 n 0 p.term))) 2 5)))=true from ?_) (.c (show HB 4 (match 0+1+1==3 with|true=>.vec (ae (Hl Hq ats)++[v0]) 0 5|false=>keepX (al 3 1 0) (match 0+1+1==1 with|true=>.vec (ae (rdR (rs++rdT 1 n 0 p.term))) 1 5|false=>keepX (al 1 2 1) (.var [int st,.ref (.vec 3 1)])))=true from rfl) (.c (iVa 4 (Hl Hq ats) [v0] 0 5) .n)))))))))))))))))))))))))))))) (by subst v0 v1 v3 v4 v2 v5;rfl) (by subst v0 v1 v3 v4 v2 v5;(have hh:attBad p=false:=dO;simp only[Oy,rM,hh,cond_false,tk];first|done|rfl))<;>subst v0 v1 v3 v4 v2 v5<;>(first|omega|exact aP|(simp[aG,D.one,IJ,roomOk];omega))
 ·let v0:List D:=[.ref (.vec 1 1),ab (Hl Hz w.c),ab w.p,ab (Hl HC w.s),ab (Hl Hv w.f),int known]
  refine zX {t:=mkT 67 0 [(0,.ref (.ptr 0 0)),(1,int st),(2,int term),(6,.ref (.ptr 2 0)),(8,int n),(16,ab ns),(17,int (↑(Hn ns):Int)),(18,int ni),(26,ab ps),(27,int (↑(Hn ps):Int)),(28,int (Ht Hp ((↑j:Int)+1)))],h:=[.var v0,.vec (ae (rdR rs)) 1 5,.var [int st,.ref (.vec 3 0)],.vec (ae (Hl Hq ats)) 0 5],m:=[]} HA [.st (.mask [0,1,2,6,8,16,17,18,26,27,28]),.st (.ren 1 1),.st (.ren 3 0),.st (.trimV 4)] [.b true,.row [vi p.term,vi p.value],.b true] (.c iF (.c hr (.c (show(!Zd (16=0))=true from rfl) (.c (show(!Zd (16=0))=true from rfl) (.c dO (.c (vM (rdR rs) 1 1 1) (.c (vM (Hl Hq ats) 1 1 1) (.c (vM (Hl Hq ats) 3 0 0) (.c (vM (rdR rs) 3 0 0) (.c (show HB 4 (match 0==3 with|true=>.vec (ae (Hl Hq ats)) 0 5|false=>keepX (al 3 0 0) (match 0==1 with|true=>.vec (ae (rdR rs)) 1 5|false=>keepX (al 1 1 1) (.var v0)))=true from rfl) (.c (show HB 4 (match 0+1==3 with|true=>.vec (ae (Hl Hq ats)) 0 5|false=>keepX (al 3 0 0) (match 0+1==1 with|true=>.vec (ae (rdR rs)) 1 5|false=>keepX (al 1 1 1) (.vec (ae (rdR rs)) 1 5)))=true from ?_) (.c (show HB 4 (match 0+1+1==3 with|true=>.vec (ae (Hl Hq ats)) 0 5|false=>keepX (al 3 0 0) (match 0+1+1==1 with|true=>.vec (ae (rdR rs)) 1 5|false=>keepX (al 1 1 1) (.var [int st,.ref (.vec 3 0)])))=true from rfl) (.c (iV 4 (Hl Hq ats) 0 5) .n))))))))))))) (by subst v0;rfl) (by subst v0;(have hh:attBad p=true:=dO;simp only[Oy,rM,hh,cond_true];first|done|rfl))<;>subst v0<;>(exact aP)
theorem Fh{w:WorldT}{known st term:Int}{ns:List (List Dp)}{ni n:Int}{ps:List (List Dp)}{rs0 rs:List ReadT}{ats:List AttT}{j:Nat}(iF:Zd ((j:Int)<(ps.length:Int))=false):(CW Hm Γk (lkH w known rs0 0) false (sub KE 1) (oiS w known st term ns ni n ps rs ats j) (.exit 2) {t:=mkT 67 0 [(0,.ref (.ptr 0 0)),(1,int st),(2,int term),(6,.ref (.ptr 2 0)),(16,ab ns),(17,int ns.length),(18,int ni)],h:=ofH w known st rs ats,m:=[]}):=by
 exact zx [.st (.mask [0,1,2,6,16,17,18])] [.b false] (.c iF .n)
theorem u4{w:WorldT}{known n:Int}{s:RA}(p:PtT):(rM w known n s p).1.length≤s.1.length+1∧(rM w known n s p).2.length≤s.2.length+1:=by
 unfold rM
 cases attBad p
 ·have:=rdT_len 1 n 0 p.term
  simp;omega
 ·simp
theorem oi_cw{w:WorldT}(hw:w.ok){known st term:Int}{ns:List (List Dp)}{ni n:Int}{ps:List PtT}(hp:ps.length≤2000){rs0 rs:List ReadT}{ats:List AttT}(hb:rs.length≤999990000)(ha:ats.length≤999990000):
  CW Hm Γk (lkH w known rs0 0) false (.loop (sub KE 1)) (oiS w known st term ns ni n (ps.map PtT.row) rs ats 0) (.exit 2) {t:=mkT 67 0 [(0,.ref (.ptr 0 0)),(1,int st),(2,int term),(6,.ref (.ptr 2 0)),(16,ab ns),(17,int ns.length),(18,int ni)],h:=ofH w known st (ps.foldl (rM w known n) (rs,ats)).1 (ps.foldl (rM w known n) (rs,ats)).2,m:=[]}:=by
 have hl:af ps:=by unfold af;omega
 have:=CW.each (P:=Hm) (Γ:=Γk) (h0:=lkH w known rs0 0) (rd:=false) (c:=sub KE 1) (σ:=RA) (ρ:=Empty) ps (fun p s=>.inl (rM w known n s p))
  (fun j s=>oiS w known st term ns ni n (ps.map PtT.row) s.1 s.2 (j:Int)) (.exit 2) (fun s=>{t:=mkT 67 0 [(0,.ref (.ptr 0 0)),(1,int st),(2,int term),(6,.ref (.ptr 2 0)),(16,ab ns),(17,int ns.length),(18,int ni)],h:=ofH w known st s.1 s.2,m:=[]}) (fun r=>r.elim)
  (fun j s=>s.1.length≤rs.length+j∧s.2.length≤ats.length+j) (by simp) (fun r=>r.elim) ?_ ?_ (rs,ats) (by simp)
 ·rw[aC] at this
  exact this
 ·intro j p s hpj hs
  have hi:=(Hs.1 hpj).1
  refine⟨fun s' h=>by cases h;have:=u4 (w:=w) (known:=known) (n:=n) (s:=s) p;omega,Fg hw (rowAt hpj rfl) (lt_len _ hi) (wrap_succ hi hl) (by omega) (by omega)⟩
 ·intro s _
  exact Fh (aJ _ ps)
theorem bL{kk ks ko frm to known:Int}{l:List FactT}:(aR kk ks ko frm to known l).length≤1024:=by
 have key:∀(rs:List Int) (ns:List Nat) (l:List PtT),(ns.foldl (fun l n=>ptF (rs.getD n 0) n l) l).length≤l.length+ns.length:=by
  intro rs ns
  induction ns with
  | nil=>intro l;simp
  | cons n ns ih=>intro l;have:=ih (ptF (rs.getD n 0) n l);have h2:=te (rs.getD n 0) n l;simp only[H7,HY];omega
 unfold aR ze
 refine J5 (key _ _ _) ?_
 have:rK to≤1024:=by unfold rK;split<;>omega
 simp only[Jj,Nv]
 have:0≤ptLo frm:=pk frm
 omega
abbrev ooS(w:WorldT)(known st term:Int)(ns:List (List Dp))(rs:List ReadT)(ats:List AttT)(i:Int):AS :=
 {t:=mkT 67 0 [(0,.ref (.ptr 0 0)),(1,int st),(2,int term),(6,.ref (.ptr 2 0)),(16,ab ns),(17,int ns.length),(18,int i)],h:=ofH w known st rs ats,m:=[]}
def fj(w:WorldT)(known st term:Int)(s:RA)(n:Int):RA:=(aR 5 st n 0 term known w.f).foldl (rM w known n) (s.1++[⟨5,st,n,0,term⟩],s.2)
noncomputable abbrev nG(w:WorldT)(known:Int)(st:Int)(rs:List ReadT)(ats:List AttT):List Blk:=[.var [.ref (.vec 1 1),ab (Hl Hz w.c),ab w.p,ab (Hl HC w.s),ab (Hl Hv w.f),int known],.vec (ae (rdR rs)) 1 5,.var [int st,.ref (.vec 3 0)],.vec (ae (Hl Hq ats)) 0 5]
theorem Fi{w:WorldT}(hw:w.ok){known st term:Int}{ns:List (List Dp)}{n:Int}{rs0 rs:List ReadT}{ats:List AttT}{i:Nat}(hr:aj (i:Int) ns [vi n] 1)(iF:Zd ((i:Int)<(ns.length:Int))=true)(Oy:Hp.wrap ((i:Int)+1)=((i+1:Nat):Int))(hb:rs.length≤999980000)(ha:ats.length≤999980000):(CW Hm Γk (lkH w known rs0 0) false (sub KE 0) (ooS w known st term ns rs ats i) .normal (ooS w known st term ns (fj w known st term (rs,ats) n).1 (fj w known st term (rs,ats) n).2 ((i+1:Nat):Int))):=by
 have N1:=(@oi_cw (w) (hw) (known) (st) (term) (ns) ((↑i:Int)) (n) (aR 5 st n 0 term known w.f) (by first|assumption|rfl|omega|exact aL _ _|exact J5 bL (by omega)|(simp;omega)) (rs0) (rs++[{kind:=5,sub:=st,obj:=n,frm:=0,By:=term}]) (ats) (by first|assumption|rfl|omega|exact aL _ _|exact J5 bL (by omega)|(simp;omega)) (by first|assumption|rfl|omega|exact aL _ _|exact J5 bL (by omega)|(simp;omega)))
 let v1:List Blk:=[.var [.ref (.vec 1 2),ab (Hl Hz w.c),ab w.p,ab (Hl HC w.s),ab (Hl Hv w.f),int known],.vec (ae (rdR (rs++[{kind:=5,sub:=st,obj:=n,frm:=0,By:=term}]))) 2 5,.var [int st,.ref (.vec 3 0)],.vec (ae (Hl Hq ats)) 0 5]
 let v2:=HP (rM w known n) (rs++[{kind:=5,sub:=st,obj:=n,frm:=0,By:=term}],ats) (aR 5 st n 0 term known w.f)
 let v0:List Blk:=[.var [.ref (.vec 1 1),ab (Hl Hz w.c),ab w.p,ab (Hl HC w.s),ab (Hl Hv w.f),int known],.vec (ae (rdR v2.1)) 1 5,.var [int st,.ref (.vec 3 0)],.vec (ae (Hl Hq v2.2)) 0 5]
 let v3:=ab (Hl PtT.row (aR 5 st n 0 term known w.f))
 refine zX {t:=mkT 67 0 [(0,.ref (.ptr 0 0)),(1,int st),(2,int term),(6,.ref (.ptr 2 0)),(16,ab ns),(17,int (↑(Hn ns):Int)),(18,int (Ht Hp ((↑i:Int)+1)))],h:=v0,m:=[]} HA [.st (.mask [0,1,2,6,16,17,18])] [.b true,.row [vi n],.call v3 v1,.st (.ren 1 1),.sum [0,1,2,6,8,16,17,18,26,27,28] (HT 2) {t:=mkT 67 0 [(0,.ref (.ptr 0 0)),(1,int st),(2,int term),(6,.ref (.ptr 2 0)),(16,ab ns),(17,int (↑(Hn ns):Int)),(18,int (↑i:Int))],h:=v0,m:=[]}] (.c iF (.c hr (.c (show Ev Hm Γk 115 [.ref (.ptr 0 0),int st,int n,int term] (nG w known st rs ats) v3 v1 from(H4 (JA (args:=[.ref (.ptr 0 0),int st,int n,int term]) (H:=(nG w known st rs ats)) [0,1] (Ev.upX [0,1] (@ti w hw known st n term rs (by subst v1 v2 v0 v3;omega)) (by kernel_rfl) ⟨?_,trivial⟩ ⟨?_,trivial⟩) (by kernel_rfl) (by kernel_rfl) (by kernel_rfl) ⟨?_,trivial⟩ ⟨?_,trivial⟩) (by kernel_rfl) (by kernel_rfl))) (.c (vM (rdR (rs++[{kind:=5,sub:=st,obj:=n,frm:=0,By:=term}])) 1 2 1) (.c (vM (Hl Hq ats) 1 2 1) (.c N1 .n)))))) (by subst v1 v2 v0 v3;rfl) (by subst v1 v2 v0 v3;(simp only[Oy];rfl))<;>subst v1 v2 v0 v3<;>(exact ai _ _)
theorem Fj{w:WorldT}{known st term:Int}{ns:List (List Dp)}{rs0 rs:List ReadT}{ats:List AttT}{i:Nat}(iF:Zd ((i:Int)<(ns.length:Int))=false):(CW Hm Γk (lkH w known rs0 0) false (sub KE 0) (ooS w known st term ns rs ats i) (.exit 0) {t:=mkT 67 0 [(6,.ref (.ptr 2 0))],h:=ofH w known st rs ats,m:=[]}):=by
 exact zx [.st (.mask [6])] [.b false] (.c iF .n)
theorem nH{w:WorldT}{known n:Int}:∀(ps:List PtT) (s:RA),(ps.foldl (rM w known n) s).1.length≤s.1.length+ps.length∧(ps.foldl (rM w known n) s).2.length≤s.2.length+ps.length
 | [],s=>by simp
 | p::ps,s=>by
  have h1:=u4 (w:=w) (known:=known) (n:=n) (s:=s) p
  have h2:=nH (w:=w) (known:=known) (n:=n) ps (rM w known n s p)
  simp only[H7,HY]
  omega
theorem zh{w:WorldT}{known st term:Int}(s:RA)(n:Int):(fj w known st term s n).1.length≤s.1.length+1025∧(fj w known st term s n).2.length≤s.2.length+1024:=by
 unfold fj
 have h1:=nH (w:=w) (known:=known) (n:=n) (aR 5 st n 0 term known w.f) (s.1++[⟨5,st,n,0,term⟩],s.2)
 have h2:=bL (kk:=5) (ks:=st) (ko:=n) (frm:=0) (to:=term) (known:=known) (l:=w.f)
 simp only[ID,HY,Jj] at h1
 omega
theorem oo_g{w:WorldT}(hw:w.ok){known st term:Int}{ns:List Int}(hn:ns.length≤69000){rs0 rs:List ReadT}(hb:rs.length≤800000000){ats:List AttT}(ha:ats.length≤1000):
  CW Hm Γk (lkH w known rs0 0) false (.loop (sub KE 0)) (ooS w known st term (ns.map fun n=>[vi n]) rs ats 0) (.exit 0) {t:=mkT 67 0 [(6,.ref (.ptr 2 0))],h:=ofH w known st (ns.foldl (fj w known st term) (rs,ats)).1 (ns.foldl (fj w known st term) (rs,ats)).2,m:=[]}:=by
 have hl:af ns:=by unfold af;omega
 have:=CW.each (P:=Hm) (Γ:=Γk) (h0:=lkH w known rs0 0) (rd:=false) (c:=sub KE 0) (σ:=RA) (ρ:=Empty) ns (fun n s=>.inl (fj w known st term s n))
  (fun i s=>ooS w known st term (ns.map fun n=>[vi n]) s.1 s.2 (i:Int)) (.exit 0) (fun s=>{t:=mkT 67 0 [(6,.ref (.ptr 2 0))],h:=ofH w known st s.1 s.2,m:=[]}) (fun r=>r.elim)
  (fun i s=>s.1.length≤rs.length+i*1025∧s.2.length≤ats.length+i*1025) (by simp) (fun r=>r.elim) ?_ ?_ (rs,ats) (by simp)
 ·rw[aC] at this
  exact this
 ·intro i n s hni hs
  have hi:=(Hs.1 hni).1
  refine⟨fun s' h=>by cases h;have:=zh (w:=w) (known:=known) (st:=st) (term:=term) s n;omega,Fi hw (rowAt (row:=fun n=>[vi n]) hni rfl) (lt_len (fun n=>[vi n]) hi) (wrap_succ hi hl) (by omega) (by omega)⟩
 ·intro s _
  exact Fj (aJ (fun n=>[vi n]) ns)
theorem oo_cw{w:WorldT}(hw:w.ok){known st term:Int}{ns:List Int}(hn:ns.length≤69000){rs0 rs:List ReadT}(hb:rs.length≤800000000):
  CW Hm Γk (lkH w known rs0 0) false (.loop (sub KE 0)) (ooS w known st term (ns.map fun n=>[vi n]) rs [] 0) (.exit 0) {t:=mkT 67 0 [(6,.ref (.ptr 2 0))],h:=ofH w known st (ns.foldl (fj w known st term) (rs,[])).1 (ns.foldl (fj w known st term) (rs,[])).2,m:=[]}:=oo_g hw hn hb (by simp)
def AY(w:WorldT)(known st term:Int)(rs:List ReadT):RA:=(ad w.f known).foldl (fj w known st term) (rs++[rdN],[])
def tl(w:WorldT)(known st term:Int)(rs:List ReadT):List AttT:=(AY w known st term rs).2.mergeSort leA
theorem dZ{fs:List FactT}{known:Int}:(ad fs known).length≤fs.length:=by
 have:=e8 (many:=u0 fs known) fs []
 simp only[Jj,I3] at this
 unfold ad cD
 simpa using this
noncomputable abbrev zi(w:WorldT)(known:Int)(st:Int)(term:Int)(rs:List ReadT):List Blk:=[.var [.ref (.vec 1 1),ab (Hl Hz w.c),ab w.p,ab (Hl HC w.s),ab (Hl Hv w.f),int known],.vec (ae (rdR (HP (fj w known st term) (rs++[rdN],[]) (ad w.f known)).1)) 1 5,.var [int st,.ref (.vec 3 0)],.vec (ae (Hl Hq (HP (fj w known st term) (rs++[rdN],[]) (ad w.f known)).2)) 0 5]
noncomputable abbrev zj(w:WorldT)(known:Int)(st:Int)(term:Int)(rs:List ReadT):List Blk:=[.var [.ref (.vec 1 1),ab (Hl Hz w.c),ab w.p,ab (Hl HC w.s),ab (Hl Hv w.f),int known],.vec (ae (rdR (HP (fj w known st term) (rs++[rdN],[]) (ad w.f known)).1)) 1 5,.var [int st,.ref (.vec 3 0)],.vec (ae (Hl Hq (IA (AY w known st term rs).2 leA))) 0 5]
theorem of_a{w:WorldT}(hw:w.ok){known st term:Int}{rs:List ReadT}(hb:rs.length≤700000000)(hn:(ad w.f known).length≤69000)(hl:(AY w known st term rs).2.length<4611686018427387904)(hT:∀x∈(AY w known st term rs).2,∀y∈(AY w known st term rs).2,x.term=y.term→x.aT=y.aT→x=y):(Ev Hm Γk 60 [.ref (.ptr 0 0),int st,int term] (lkH w known rs 0) (.agg [int st,ab ((tl w known st term rs).map Hq)]) (lkH w known (AY w known st term rs).1 1)):=by
 have N1:=(@oo_cw (w) (hw) (known) (st) (term) (ad w.f known) (hn) (rs) (rs++[rdN]) (by first|assumption|rfl|omega|exact aL _ _|exact aP|(simp;omega)))
 let v0:List D:=[.ref (.vec 1 1),ab (Hl Hz w.c),ab w.p,ab (Hl HC w.s),ab (Hl Hv w.f),int known]
 let v1:=Hl Hq (tl w known st term rs)
 let v2:=HP (fj w known st term) (rs++[rdN],[]) (ad w.f known)
 let v3:List Blk:=[.var [.ref (.vec 1 0),ab (Hl Hz w.c),ab w.p,ab (Hl HC w.s),ab (Hl Hv w.f),int known],.vec (ae (rdR rs)) 0 5,.var [int st,nq]]
 let v4:List Blk:=[.var v0,.vec (ae (rdR (rs++[rdN]))) 1 5,.var [int st,nq]]
 refine H4 (Ev.post (d2:=H6 [int st,ab v1]) (h2:=[.var v0,.vec (ae (rdR v2.1)) 1 5]) (φ:=[ae (Hl Hq (IA (AY w known st term rs).2 leA))=Hl (fun x=>Hl D.p x) v1,Hl (It (bD 3 0 v1)) (ae (rdR v2.1))=ae (rdR v2.1),HB 2 (match 0==3 with|true=>.gone|false=>keepX (bD 3 0 v1) (.var v0))=true,HB 2 (match 0+1==3 with|true=>.gone|false=>keepX (bD 3 0 v1) (.vec (ae (rdR v2.1)) 1 5))=true]) [.st (.frz 3 v1),.st (.trimV 2)] (JP (h':=(zj w known st term rs)) (d:=H6 [int st,.ref (.vec 3 0)]) pok [.call (ab (Hl (fun n=>[vi n]) (ad w.f known))) v4,.st (.nilC 2 1 5),.sum [0,1,2,6,16,17,18] (HT 0) {t:=mkT 67 0 [(6,.ref (.ptr 2 0))],h:=(zi w known st term rs),m:=[]},.call (HV []) (zj w known st term rs)] (by kernel_rfl) (.c (show Ev Hm Γk 62 [.ref (.ptr 0 0)] v3 (ab (Hl (fun n=>[vi n]) (ad w.f known))) v4 from(H4 (JA (args:=[.ref (.ptr 0 0)]) (H:=v3) [0,1] (@pn w hw known rs ?_) (by kernel_rfl) (by kernel_rfl) (by kernel_rfl) ⟨(by subst v0 v1 v2 v3 v4;exact ai _ _),trivial⟩ ⟨(by subst v0 v1 v2 v3 v4;exact ai _ _),trivial⟩) (by kernel_rfl) (by kernel_rfl))) (.c N1 (.c (H5 (Γ':=Γk) (@tj (zi w known st term rs) 3 0 ((AY w known st term rs).2) ?_ hl hT)) .n)))) (by kernel_rfl) ⟨?_,?_,rfl,?_,trivial⟩) (by rfl) (by rfl)<;>subst v0 v1 v2 v3 v4<;>(first|rfl|omega|exact aL _ _|exact aP)
def ptO(rs:List Int)(n:Nat):Option PtT:=bif Zd (rs.getD n 0≥0) then some ⟨(n:Int),rs.getD n 0⟩ else none
theorem zk(rs:List Int)(x to:Int):ze rs x to=(KP x.toNat (rK to - x).toNat).filterMap (ptO rs):=by
 have key:∀(ns:List Nat) (l:List PtT),ns.foldl (fun l n=>ptF (rs.getD n 0) n l) l=l++ns.filterMap (ptO rs):=by
  intro ns
  induction ns with
  | nil=>intro l;simp
  | cons n ns ih =>
   intro l
   rw[H7,ih,Nl]
   unfold ptF ptO
   cases Zd (rs.getD n 0≥0)<;>simp
 unfold ze
 rw[key];simp
theorem Fk{rs:List Int}{x to:Int}:(ze rs x to).Pairwise fun p q=>p.term<q.term:=by
 rw[zk]
 refine List.Pairwise.filterMap (R:=fun a b=>a<b) (ptO rs) ?_ (List.pairwise_lt_range' ..)
 intro a b hab p hp q hq
 unfold ptO at hp hq
 cases h1:Zd (rs.getD a 0≥0)<;>rw[h1] at hp<;>simp at hp
 cases h2:Zd (rs.getD b 0≥0)<;>rw[h2] at hq<;>simp at hq
 subst hp;subst hq
 simp;exact hab
theorem nI{kk ks ko frm to known:Int}{l:List FactT}:(aR kk ks ko frm to known l).Pairwise fun p q=>p.term<q.term:=Fk
theorem zl{many:Int}{f:FactT}{l l':List Int}(hl:l.Nodup)(h:nuF many f l=.inl l'):l'.Nodup:=by
 unfold nuF at h
 split at h
 ·simp at h
 ·simp only[Sum.inl.injEq] at h
  subst h
  cases hn:isNew f l
  ·simpa using hl
  ·simp only[cond_true]
   unfold isNew at hn
   simp only[Hx,IU] at hn
   have:f.sub ∉ l:=by
    have:=hn.2.2.2
    intro hm
    rw[List.contains_iff_mem.2 hm] at this
    simp at this
   rw[List.nodup_append]
   refine⟨hl,by simp,?_⟩
   intro a ha b hb
   simp only[Lb] at hb
   subst hb
   exact fun e=>this (e▸ha)
theorem nJ{many:Int}:∀(fs:List FactT) (l:List Int),l.Nodup→(nuG (forL (nuF many) fs l)).Nodup
 | [],l,h=>by simpa[forL,nuG] using h
 | f::fs,l,h=>by
  simp only[forL]
  cases hf:nuF many f l with
  | inl l'=>exact nJ fs l' (zl h hf)
  | inr l' =>
   have:l'=l:=by
    unfold nuF at hf;split at hf
    ·simp at hf;exact hf.symm
    ·simp at hf
   subst this
   exact h
theorem gt{fs:List FactT}{known:Int}:(ad fs known).Nodup:=by
 unfold ad cD
 exact(Jl _ _).nodup_iff.2 (nJ fs [] List.nodup_nil)
def Di(w:WorldT)(known n:Int)(p:PtT):Option AttT:=bif attBad p then none else some (wI w known n p)
def rdO(n:Int)(p:PtT):List ReadT:=bif attBad p then [] else rdT 1 n 0 p.term
theorem rN(w:WorldT)(known n:Int):∀(ps:List PtT) (s:RA),ps.foldl (rM w known n) s=(s.1++ps.flatMap (rdO n),s.2++ps.filterMap (Di w known n))
 | [],s=>by simp
 | p::ps,s=>by
  rw[H7,rN w known n ps,Nl,Kt]
  unfold rM Di rdO
  cases attBad p<;>simp
abbrev tm(w:WorldT)(known st term n:Int):List PtT:=aR 5 st n 0 term known w.f
def ek(w:WorldT)(known st term n:Int):List ReadT:=⟨5,st,n,0,term⟩::(tm w known st term n).flatMap (rdO n)
def eF(w:WorldT)(known st term n:Int):List AttT:=(tm w known st term n).filterMap (Di w known n)
theorem ofOut_eq(w:WorldT)(known st term:Int)(s:RA)(n:Int):fj w known st term s n=(s.1++ek w known st term n,s.2++eF w known st term n):=by
 unfold fj
 rw[rN]
 simp[ek,eF]
theorem tn(w:WorldT)(known st term:Int)(rs:List ReadT):AY w known st term rs=(rs++rdN::(ad w.f known).flatMap (ek w known st term),(ad w.f known).flatMap (eF w known st term)):=by
 have key:∀(ns:List Int) (s:RA),ns.foldl (fj w known st term) s=(s.1++ns.flatMap (ek w known st term),s.2++ns.flatMap (eF w known st term)):=by
  intro ns
  induction ns with
  | nil=>intro s;simp
  | cons n ns ih=>intro s;rw[H7,ih,ofOut_eq];simp
 unfold AY
 rw[key];simp
def aD(w:WorldT)(known st term:Int):List ReadT:=rdN::(ad w.f known).flatMap (ek w known st term)
def b7(w:WorldT)(known st term:Int):List AttT:=(ad w.f known).flatMap (eF w known st term)
def cH(w:WorldT)(known st term:Int):List AttT:=(b7 w known st term).mergeSort leA
theorem cG{w:WorldT}{known st term n:Int}{a:AttT}(h:a∈eF w known st term n):a.aT=n∧∃p∈tm w known st term n,attBad p=false∧a=wI w known n p:=by
 unfold eF at h
 obtain⟨p,hp,he⟩:=List.mem_filterMap.1 h
 unfold Di at he
 cases hb:attBad p<;>rw[hb] at he<;>simp at he
 subst he
 exact⟨rfl,p,hp,hb,rfl⟩
theorem u5{w:WorldT}{known st term:Int}:∀x∈b7 w known st term,∀y∈b7 w known st term,x.term=y.term→x.aT=y.aT→x=y:=by
 intro x hx y hy ht hc
 obtain⟨n,hn,hx⟩:=List.mem_flatMap.1 hx
 obtain⟨n',hn',hy⟩:=List.mem_flatMap.1 hy
 obtain⟨e1,p,hp,_,rfl⟩:=cG hx
 obtain⟨e2,q,hq,_,rfl⟩:=cG hy
 have:n=n':=by rw[←e1,←e2,hc]
 subst this
 have hpq:p=q:=by
  have hinc:=nI (kk:=5) (ks:=st) (ko:=n) (frm:=0) (to:=term) (known:=known) (l:=w.f)
  have key:∀(l:List PtT),l.Pairwise (fun p q=>p.term<q.term)→∀p∈l,∀q∈l,p.term=q.term→p=q:=by
   intro l
   induction l with
   | nil=>intro _ p hp;simp at hp
   | cons a l ih =>
    intro hl p hp q hq e
    rw[List.pairwise_cons] at hl
    rcases HR.1 hp with hp1|hp1<;>rcases HR.1 hq with hq1|hq1
    ·rw[hp1,hq1]
    ·have:=hl.1 q hq1;rw[hp1] at e;omega
    ·have:=hl.1 p hp1;rw[hq1] at e;omega
    ·exact ih hl.2 p hp1 q hq1 e
  exact key _ hinc p hp q hq ht
 rw[hpq]
theorem fa{α β:Type}(f:α→List β)(k:Nat):∀l:List α,(∀a∈l,(f a).length≤k)→(l.flatMap f).length≤l.length*k
 | [],_=>by simp
 | a::l,h=>by
  have:=fa f k l (fun b hb=>h b (by simp[hb]))
  have h1:=h a (by simp)
  simp only[Kt,ID,HY,J0]
  omega
theorem nK{w:WorldT}(hw:w.ok){known st term:Int}:(b7 w known st term).length≤70656000:=by
 have h1:=fa (eF w known st term) 1024 (ad w.f known) (fun n _=>J5 (List.length_filterMap_le ..) bL)
 have h2:=dZ (fs:=w.f) (known:=known)
 have h3:=hw.lf
 unfold b7
 have:(ad w.f known).length*1024≤69000*1024:=Kk _ (by omega)
 omega
theorem tp{w:WorldT}{known st term n:Int}:(ek w known st term n).length≤1025:=by
 unfold ek
 have h1:=fa (rdO n) 1 (tm w known st term n) (fun p _=>by unfold rdO;cases attBad p<;>simp[rdT_len])
 have h2:=bL (kk:=5) (ks:=st) (ko:=n) (frm:=0) (to:=term) (known:=known) (l:=w.f)
 simp only[HY]
 simp only[tm] at h1 ⊢
 omega
theorem fO{w:WorldT}(hw:w.ok){known st term:Int}:(aD w known st term).length≤70725001:=by
 have h1:=fa (ek w known st term) 1025 (ad w.f known) (fun n _=>tp)
 have h2:=dZ (fs:=w.f) (known:=known)
 have h3:=hw.lf
 unfold aD
 have:(ad w.f known).length*1025≤69000*1025:=Kk _ (by omega)
 simp only[HY]
 omega
theorem B3{w:WorldT}(hw:w.ok){known st term:Int}{rs:List ReadT}(hb:rs.length≤700000000):Ev Hm Γk 60 [.ref (.ptr 0 0),int st,int term] (lkH w known rs 0) (.agg [int st,ab ((cH w known st term).map Hq)]) (lkH w known (rs++aD w known st term) 1):=by
 have h:=of_a hw (known:=known) (st:=st) (term:=term) hb (J5 dZ hw.lf) (by rw[tn];have:=nK hw (known:=known) (st:=st) (term:=term);unfold b7 at this;simp only;omega) (by rw[tn];exact u5)
 unfold tl at h
 rw[tn] at h
 exact h
theorem Dj{w:WorldT}(hw:w.ok){known st term:Int}:Ev Hm Γk 60 [.ref (.ptr 0 0),int st,int term] (lkH w known [] 0) (.agg [int st,ab ((cH w known st term).map Hq)]) (lkH w known (aD w known st term) 1):=by
 have:=B3 hw (known:=known) (st:=st) (term:=term) (rs:=[]) (by simp)
 simpa using this
def B4(st term:Int):Bool:=!(Zd (st≥0)&&Zd (st≤19999))||!(Zd (term≥0)&&Zd (term≤1024))
structure RecT where
 st:Int
 a:List AttT
def RecT.l(r:RecT):List D:=[int r.st,ab (r.a.map Hq)]
def rofR(w:WorldT)(st term known:Int):RecT×List ReadT×Int:=match B4 st term with
 | true=>(⟨0,[]⟩,[],150)
 | false=>(⟨st,cH w known st term⟩,aD w known st term,0)
def rofX(st term:Int)(rr:List ReadT)(aa:List AttT):RecT×List ReadT×Int:=match B4 st term with
 | true=>(⟨0,[]⟩,[],150)
 | false=>(⟨st,aa⟩,rr,0)
noncomputable abbrev kp(w:WorldT):List Blk:=[.var [ab (Hl Hz w.c),ab w.p,ab (Hl HC w.s),ab (Hl Hv w.f)],.var [int 0,nq]]
theorem rof_a{w:WorldT}{st term known:Int}{rr:List ReadT}{aa:List AttT}(hof:Ev Hm Γk 60 [.ref (.ptr 0 0),int st,int term] (lkH w known [] 0) (.agg [int st,ab (aa.map Hq)]) (lkH w known rr 1))(h:List Blk):(Ev Hm Γk 23 [.agg w.l,int st,int term,int known] h (.tup [.agg (rofX st term rr aa).1.l,ab (rdR (rofX st term rr aa).2.1),int (rofX st term rr aa).2.2]) h):=by
 cases dO:!(Zd (st≥0)&&Zd (st≤19999))||!(Zd (term≥0)&&Zd (term≤1024))
 ·let v0:List Blk:=[.var (HI w),.var [int 0,nq],.var [.ref (.vec 3 1),ab (Hl Hz w.c),ab w.p,ab (Hl HC w.s),ab (Hl Hv w.f),int known],.vec (ae (rdR rr)) 1 5]
  let v1:List Blk:=[.var (HI w),.var [int 0,nq],.var [.ref (.vec 3 0),ab (Hl Hz w.c),ab w.p,ab (Hl HC w.s),ab (Hl Hv w.f),int known],.vec [] 0 5]
  let v2:List D:=[int st,ab (Hl Hq aa)]
  refine H4 (Ev.nilW (z0 (d:=HV [H6 v2,ab (rdR rr),int 0]) [.val (bool (Zd (st≥0)&&Zd (st≤19999))),.val (bool (Zd (term≥0)&&Zd (term≤1024))),.b false,.nx 1,.st (.nilC 2 0 5),.call (H6 v2) v0,.st (.frz 3 (rdR rr))] (.c (H5 (Γ':=Γk) (@bp st 0 19999 (kp w))) (.c (gd (!!(Zd (st≥0)&&Zd (st≤19999))) (H5 (Γ':=Γk) (@bp term 0 1024 (kp w)))) (.c dO (.c (show Ev Hm Γk 60 [.ref (.ptr 2 0),int st,int term] v1 (H6 v2) v0 from(H4 (JA (args:=[.ref (.ptr 2 0),int st,int term]) (H:=v1) [2,3] (@hof) (by kernel_rfl) (by kernel_rfl) (by kernel_rfl) ⟨?_,trivial⟩ ⟨?_,trivial⟩) (by kernel_rfl) (by kernel_rfl))) (.c (show ae (rdR rr)=Hl (fun x=>Hl D.p x) (rdR rr) from(by subst v0 v1 v2;rfl)) (.e (H6 v2) (.e (.ref (.ptr 2 0)) (.e (.ref (.ptr 2 0)) (.e (.ref (.ptr 2 0)) (.e (.ref (.ptr 2 0)) (.e (ab (rdR rr)) (.e (ab (rdR rr)) .n)))))))))))) h)) (by subst v0 v1 v2;(have hh:B4 st term=false:=dO;simp only[rofX,hh];rfl)) (by rfl)<;>subst v0 v1 v2<;>(first|rfl|exact ai _ _)
 ·exact H4 (Ev.nilW (z0 (d:=HV [H6 [int 0,nq],nq,int 150]) [.val (bool (Zd (st≥0)&&Zd (st≤19999))),.val (bool (Zd (term≥0)&&Zd (term≤1024))),.b true] (.c (H5 (Γ':=Γk) (@bp st 0 19999 (kp w))) (.c (gd (!!(Zd (st≥0)&&Zd (st≤19999))) (H5 (Γ':=Γk) (@bp term 0 1024 (kp w)))) (.c dO .n))) h)) (by(have hh:B4 st term=true:=dO;simp only[rofX,hh];rfl)) (by rfl)
theorem u6{w:WorldT}(hw:w.ok){st term known:Int}(h:List Blk):Ev Hm Γk 23 [.agg w.l,int st,int term,int known] h (.tup [.agg (rofR w st term known).1.l,ab (rdR (rofR w st term known).2.1),int (rofR w st term known).2.2]) h :=
 rof_a (Dj hw) h
def wJ(a:AttT):Bool:=inB a.aT 0 4095&&inB a.term 0 1023&&inB a.oR 0 12&&inB a.tO 0 6&&inB a.bY 0 60
def tq(o:Option AttT)(a:AttT):Bool:=!wJ a||(match o with|none=>false|some b=>Zd (wG b a≥0))
def rkF(p:Option AttT×AttT)(_:Unit):Unit⊕Unit:=bif tq p.1 p.2 then .inr () else .inl ()
def jl(l:List AttT):List (Option AttT×AttT):=(none::l.map some).zip l
def bF(r:RecT):Int:=bif !(Zd (r.st≥0)&&Zd (r.st≤19999)) then 150 else match forL rkF (jl r.a) () with | .inl _=>0 | .inr _=>150
theorem rk_any(l:List (Option AttT×AttT)):(match forL rkF l () with | .inl _=>false | .inr _=>true)=l.any fun p=>tq p.1 p.2:=by
 induction l with
 | nil=>rfl
 | cons p l ih =>
  rw[List.any_cons]
  cases hp:tq p.1 p.2
  ·simp only[forL,rkF,hp,cond_false,Bool.false_or];exact ih
  ·simp[forL,rkF,hp]
abbrev IM:=List (Int×Int)
def ar:Nat→IM→List (D×D×Nat)
 | _,[]=>[]
 | j,(k,v)::l=>(int k,int v,j)::ar (j+1) l
def imB(l:IM):Blk:=.map (ar 0 l) l.length
def imGet:IM→Int→Option Int
 | [],_=>none
 | (a,v)::l,k=>if a=k then some v else imGet l k
def aM:IM→Int→Int→IM
 | [],k,v=>[(k,v)]
 | (a,x)::l,k,v=>if a=k then (k,v)::l else (a,x)::aM l k v
theorem eG(l:IM)(k v k':Int):imGet (aM l k v) k'=if k=k' then some v else imGet l k':=by
 induction l with
 | nil=>simp[aM,imGet]
 | cons e l ih =>
  obtain⟨a,x⟩:=e
  unfold aM
  by_cases h:a=k
  ·subst h
   simp only[if_true,imGet]
   by_cases h2:a=k'<;>simp[h2]
  ·simp only[h,if_false,imGet,ih]
   by_cases h2:a=k'
   ·subst h2;simp[Ne.symm h]
   ·simp[h2]
def zm:IM→Int→Nat→Option (Nat×D)
 | [],_,_=>none
 | (a,v)::l,k,i=>if a=k then some (i,int v) else zm l k (i+1)
theorem iv(k:Int):∀(l:IM) (j i:Nat),da (int k) (ar j l) i=some (zm l k i)
 | [],_,_=>rfl
 | (a,v)::l,j,i=>by
  simp only[ar,da,zm]
  by_cases h:a=k
  ·subst h;simp[gw]
  ·have:gw (int k) (int a)=some false:=by
    have h2:¬k=a:=fun e=>h e.symm
    simp[gw,h2]
   rw[this]
   simp only[h,if_false]
   exact iv k l (j+1) (i+1)
theorem iw{k:Int}:∀{l:IM} {i:Nat},zm l k i=none→imGet l k=none∧∀v,aM l k v=l++[(k,v)]
 | [],_,_=>by simp[imGet,aM]
 | (a,x)::l,i,h=>by
  unfold zm at h
  split at h
  ·simp at h
  ·rename_i Ou
   obtain⟨h1,h2⟩:=iw h
   simp only[imGet,aM,Ou,if_false,h1,true_and]
   intro v;rw[h2];rfl
theorem iy{k:Int}:∀{l:IM} {i j n:Nat} {d:D},zm l k i=some (n,d)→∃v,d=int v∧imGet l k=some v∧i≤n∧((ar j l)[n - i]?).map (fun e=>e.2.2)=some (j+(n - i))∧∀x,ar j (aM l k x)=(ar j l).set (n - i) (int k,int x,j+(n - i))∧(aM l k x).length=l.length
 | [],_,_,_,_,h=>by simp[zm] at h
 | (a,x)::l,i,j,n,d,h=>by
  unfold zm at h
  split at h
  ·rename_i ha
   simp only[Ho,Prod.mk.injEq] at h
   obtain⟨rfl,rfl⟩:=h
   exact⟨x,rfl,by simp[imGet,ha],Nat.le_refl _,by simp[ar],fun y=>by simp[aM,ha,ar]⟩
  ·rename_i ha
   obtain⟨v,h1,h2,h3,h4,h5⟩:=iy (j:=j+1) h
   have e:n - i=(n - (i+1))+1:=by omega
   refine⟨v,h1,by simp[imGet,ha,h2],by omega,?_,fun y=>?_⟩
   ·rw[e];simp only[ar,List.getElem?_cons_succ,h4];congr 1;omega
   ·obtain⟨h6,h7⟩:=h5 y
    simp only[aM,ha,if_false,ar,h6]
    rw[e,List.set_cons_succ]
    refine⟨?_,by simp[h7]⟩
    rw[show j+1+(n - (i+1))=j+(n - (i+1)+1) by omega]
theorem rO{P:Program}{h:List Blk}{t:TypeId}{b:Nat}{l:IM}{c:Int}{kt et:TypeId}(hk:cd P kt (int c)=true)(ht:P.underlying t=some (.map kt et))(hz:gO P et=some (.int .i64 0))(hb:h[b]? = some (imB l)):
  ap P h t (.ref (.mp b)) (int c) true=some (.tup [int ((imGet l c).getD 0),bool (imGet l c).isSome]):=by
 unfold ap
 simp only[ht,kz,hb,imB,hk,if_true,hz,iv]
 cases hi:zm l c 0 with
 | none =>
  rw[(iw hi).1];rfl
 | some p =>
  obtain⟨n,d⟩:=p
  obtain⟨v,rfl,h2,_⟩:=iy (j:=0) hi
  rw[h2];rfl
theorem nL{P:Program}{h:List Blk}{t:TypeId}{b:Nat}{l:IM}{c:Int}{kt et:TypeId}(hk:cd P kt (int c)=true)(ht:P.underlying t=some (.map kt et))(hz:gO P et=some (.int .i64 0))(hb:h[b]? = some (imB l)):
  ap P h t (.ref (.mp b)) (int c) false=some (int ((imGet l c).getD 0)):=by
 unfold ap
 simp only[ht,kz,hb,imB,hk,if_true,hz,iv]
 cases hi:zm l c 0 with
 | none =>
  rw[(iw hi).1];rfl
 | some p =>
  obtain⟨n,d⟩:=p
  obtain⟨v,rfl,h2,_⟩:=iy (j:=0) hi
  rw[h2];rfl
theorem u7(k v:Int):∀(l:IM) (j:Nat),ar j (l++[(k,v)])=ar j l++[(int k,int v,j+l.length)]
 | [],j=>by simp[ar]
 | (a,x)::l,j=>by
  simp only[KK,ar,u7 k v l (j+1),HY]
  rw[show j+1+l.length=j+(l.length+1) by omega]
theorem iz{P:Program}{h:List Blk}{t:TypeId}{b:Nat}{l:IM}{c v:Int}{kt et:TypeId}(hk:cd P kt (int c)=true)(ht:P.underlying t=some (.map kt et))(hb:h[b]? = some (imB l)):
  am P h t (.ref (.mp b)) (int c) (int v)=some (h.set b (imB (aM l c v))):=by
 unfold am
 simp only[ht,hb,imB,hk,if_true,iv]
 cases hi:zm l c 0 with
 | none =>
  simp only[(iw hi).2 v,u7]
  simp
 | some p =>
  obtain⟨n,d⟩:=p
  obtain⟨x,rfl,_,_,h4,h5⟩:=iy (j:=0) hi
  obtain⟨h6,h7⟩:=h5 v
  simp only[Nat.sub_zero,I3] at h4 h6
  cases hn:(ar 0 l)[n]? with
  | none=>rw[hn] at h4;simp at h4
  | some e =>
   rw[hn] at h4
   obtain⟨e1,e2,e3⟩:=e
   simp only[H9,Ho] at h4
   subst h4
   simp only[h6,h7]
   rw[hn]
theorem bP(f:Ref→D):∀(l:IM) (j:Nat),(ar j l).map (fun e=>(D.mapR f e.1,D.mapR f e.2.1,e.2.2))=ar j l
 | [],_=>rfl
 | (a,x)::l,j=>by simp only[ar,Il,bP f l (j+1)];rfl
theorem u9(n:Nat):∀(l:IM) (j:Nat),((ar j l).all fun e=>D.Om n e.1&&D.Om n e.2.1)=true
 | [],_=>rfl
 | (a,x)::l,j=>by simp only[ar,List.all_cons,u9 n l (j+1)];rfl
theorem eH{n:Nat}{l:IM}:HB n (imB l)=true:=u9 n l 0
theorem zn{l:List AttT}(h:List Blk):∀c∈l,Iv Hm Γ0 (.p (.v (.func (.func 156) #[] #[]))) [ag c.row] h (bool (!attB c)) h:=fun c _=>Iv.of (f:=156) (fi:=[]) (ca:=[]) pok (by kernel_rfl) (by kernel_rfl) (yw h)
def bQ(l:List AttT):Int:=bif l.any (fun a=>!attB a) then 150 else 0
theorem B5{l:List AttT}(hl:af l)(hf:∀c∈l,Iv Hm Γ0 (.p (.v (.func (.func 156) #[] #[]))) [ag c.row] [] (bool (!attB c)) [])(h:List Blk):(Ev Hm Γ0 106 [ab (l.map Hq)] h (int (bQ l)) h):=by
 cases dO:L6 l fun c=>!attB c
 ·exact zD (int 0) [.val (bool (L6 l fun c=>!attB c)),.b false] (.c (@C7 l hl (fq 156) ([]) (fun c=>!attB c) hf) (.c dO .n)) h (by simp only[bQ,dO,cond_false])
 ·exact zD (int 150) [.val (bool (L6 l fun c=>!attB c)),.b true] (.c (@C7 l hl (fq 156) ([]) (fun c=>!attB c) hf) (.c dO .n)) h (by simp only[bQ,dO,cond_true])
theorem dh{l:List AttT}(hl:af l)(h:List Blk):Ev Hm Γ0 106 [ab (l.map Hq)] h (int (bQ l)) h:=B5 hl (zn []) h
theorem zo{a b:AttT}(h:List Blk):(Ev Hm Γ0 208 [ag a.row,ag b.row] h (bool (Zd (a.oR>b.oR)||(a.oR==b.oR&&Zd (a.term<b.term)))) h):=by
 exact z0 [] .n h
theorem zp{a b:AttT}(h:List Blk):(Ev Hm Γ0 209 [ag a.row,ag b.row] h (bool (Zd (a.term≥b.term))) h):=by
 exact z0 [] .n h
abbrev zq:List D:=[bool true,fnv 208,bool true,fnv 209,bool false,lit .nilFunc]
theorem vd(h:List Blk):(Ev Hm Γ0 163 [] h (.agg zq) h):=by
 exact z0 [] .n h
end Go.Vi
