/- A part of the proof; no conditions of its own. -/
import Derived.Test.YtelhocjibmofiaaGreatDoorW9
open Decidable renaming decide -> Zd
open Go.Vi.Uj renaming row -> MQ
open Go.Proofs.Tryz renaming prog -> MJ, f7 -> NH, f63 -> Qq, f25 -> Qr, f123 -> PV
open List renaming map -> MK, length -> MO, foldl_cons -> Nn, length_mergeSort -> RZ, append_nil -> QQ, nil_append -> RS, length_append -> Nv, length_nil -> O3, map_cons -> NW, sum_cons -> SM, map_append -> NP, drop_eq_getElem_cons -> SN, length_map -> N1, take_succ_eq_append_getElem -> R9, append_assoc -> OQ, nodup_nil -> Rm, getD -> Nb
open Go.Vi.Uv renaming row -> MZ
open Go.Vi.zfx renaming row -> M9
open Go.Vi.Uh renaming row -> M3
open Go.IntKind renaming i64 -> ML, wrap -> MN
open Go.Vi.UA renaming row -> M0
open Go.Exit renaming normal -> M6, exit -> NR, ret -> Oq
open Go.Vi.D renaming UI -> NG, any -> TC, p -> QB, agg -> Oo
open Int renaming toNat -> MU
open Go.Vi.T9 renaming l -> Oi
open Go.Vi.Ev renaming zfL -> Ns, zfO -> Na, zeY -> Ov
open Go.Vi.Uc renaming inn -> MY
open Nat renaming le_refl -> M5, not_lt_zero -> Qj
open Go.Vi.CW renaming zig -> Rn, preS -> SO
open Option renaming isSome -> Nk, getD -> NQ
open Go.Vi.Dp renaming v -> Qy
open Go.Value renaming nilFunc -> NT
open Go Go.Proofs
namespace Go.Vi
set_option maxRecDepth 100000
set_option maxHeartbeats 4000000
variable {H h:aT}{L rp x1 x3:bv}{a:Uj}{b:Bool}{c e3 en ST md mn ms n st T4 v:Int}{e:Exit}{i k:Nat}{l:iF}{m m1 m2:IM}{o:If}{p:TO}{q:UA}{q1 q2 q3 rs:oF}{r:UW}{w:T9}
abbrev dzS(w:T9)(T4 ST:Int)(l:iF)(rs:oF)(p:TO)(r:UW)(L:bv)(q:UA)(n k:Int):AS :=
 {t:=Ue 167 0 [(3,SW T4),(4,SW ST),Xr,ZQ,ZR,ZS,ZT,W0,Yz,(W9 l),(21,SW k),(23,nq),W1,(83,SW n),(84,SW k),(90,ab (aW q.U3)),(91,(zcS (aW q.U3))),(92,SW 0)],
  h:=dgB w rs 0 (dgC p) r++[.T7 (ap L) 1 6,.var (zbw q)],m:=[]}
abbrev dzE(w:T9)(T4 ST:Int)(l:iF)(rs:oF)(p:TO)(r:UW)(L:bv)(q:UA)(n k:Int):AS :=
 {t:=Ue 167 0 [(3,SW T4),(4,SW ST),Xr,ZQ,ZR,ZS,ZT,W0,Yz,(W9 l),(21,SW k),(23,nq),W1,(83,SW n),(84,SW k)],
  h:=dgB w rs 0 (dgC p) r++[.T7 (ap L) 1 6,.var (zbw q)],m:=[]}
theorem Jm{k:Int}
  (U8:Zd ((0:Int)<((aW q.U3).length:Int))=false):(CW MJ Un (hA w) false (sub NH 1) (dzS w T4 ST l rs p r L q n k) (.exit 2) (dzE w T4 ST l rs p r L q n k)):=by
 exact zx zbx [.b false] (.c U8 .n)
noncomputable abbrev gF(w:T9)(rs:oF)(p:TO)(r:UW)(L:bv)(q:UA):aT:=[.var (Zi w),.var [nq,SW 0,nq],.var [T6 false],.var Yi,.var [SW 0],.T7 (ap (Us rs)) 0 5,.var (Zx p),.var (Z6 r),.T7 (ap L) 1 6,.var (ZD q)]
theorem Fa
  (hk:k<L.length) (hq:L[k]? = some q.row) (U8:Zd ((k:Int)<n)=true) (hw:ML.wrap ((k:Int)+1)=((k+1:Nat):Int))
  (UY:CW MJ Un (hA w) false (.loop (sub NH 1)) (dzS w T4 ST l rs p r L q n k) (.exit 2) (dzE w T4 ST l rs p r L q n k)):(CW MJ Un (hA w) false (sub NH 0) (doS w T4 ST l rs p r L n k) .normal (doS w T4 ST l rs p r (L.set k (Hs q []).row) n ((k+1:Nat):Int))):=by
 have UE:=(@UY)
 let v0:bY:=[SW r.st,ab (MK MQ r.a)]
 let v1:=List.set L k (M0 (Hs q []))
 refine zX {t:=Ue 167 0 [(3,SW T4),(4,SW ST),(5,.ref (.ptr 0 0)),(10,.ref (.ptr 1 0)),(11,.ref (.ptr 2 0)),(12,.ref (.ptr 3 0)),(13,.ref (.ptr 4 0)),(14,D.fn (Fn.func 22) [] [.ref (.ptr 3 0)]),(15,.ref (.ptr 6 0)),(20,ab (MK MQ l)),(82,.ref (.T7 8 1)),(83,SW n),(84,SW (MN ML ((↑k:Int)+1)))],h:=[.var [ab (MK MZ w.c),ab w.p,ab (MK M9 w.s),ab (MK M3 w.f)],.var [nq,SW 0,nq],.var [T6 false],.var [.ref (.T7 5 0)],.var [SW 0],.T7 (ap (Us rs)) 0 5,.var [ak p.nm,SW p.number,SW p.UC,SW p.UL,SW p.num,SW p.den,.ref (.T7 8 1)],.var v0,.T7 (ap v1) 1 6],m:=[]} M6 [.st (.mask [3,4,5,10,11,12,13,14,15,20,82,83,84]),.st (.UN 9)] [.b true,.ov 87 (.ref (.vp 8 1 k 0)),.ov 88 (ag (M0 q)),.sum [3,4,5,10,11,12,13,14,15,20,21,23,82,83,84,90,91,92] (NR 2) {t:=Ue 167 0 [(3,SW T4),(4,SW ST),(5,.ref (.ptr 0 0)),(10,.ref (.ptr 1 0)),(11,.ref (.ptr 2 0)),(12,.ref (.ptr 3 0)),(13,.ref (.ptr 4 0)),(14,D.fn (Fn.func 22) [] [.ref (.ptr 3 0)]),(15,.ref (.ptr 6 0)),(20,ab (MK MQ l)),(21,SW (↑k:Int)),(23,nq),(82,.ref (.T7 8 1)),(83,SW n),(84,SW (↑k:Int))],h:=(gF w rs p r L q),m:=[]},.val (NG []),.val (ab []),.ov 118 (.ref (.vp 8 1 k 0)),.ov 119 (.ref (.vp 8 1 k 5)),.oh 10119 TC (dgB w rs 0 (dgC p) r++[.T7 (ap v1) 1 6,.var (MK QB (M0 q))])] (.c U8 (.c (show @Eq (Option (Bool×D)) (some (UU (↑k:Int) (MO (ap L)),.ref (.vp 8 1 (MU (↑k:Int)) 0))) (some (true,D.ref (.vp 8 1 k 0))) from(by subst v0 v1;first|(simp only[U8,cond_true,cond_false];done)|first|assumption|rfl|exact tf rfl hk|exact tg rfl hq|exact th (R:=[]) rfl hq|exact aD _ _|exact ai|exact aB _ _|exact aj _ _|exact aw _ _|omega|(simp[UU];omega))) (.c (show @Eq (oN) (aN MJ [.var (Oi w),.var [nq,SW 0,nq],.var [T6 false],.var [.ref (.T7 5 0)],.var [SW 0],.T7 (ap (Us rs)) 0 5,.var [ak p.nm,SW p.number,SW p.UC,SW p.UL,SW p.num,SW p.den,.ref (.T7 8 1)],.var v0,.T7 (ap L) 1 6] 58 (.ref (.vp 8 1 k 0))) (some (Oo [ak q.nm,SW q.To,SW q.Uf,T6 q.home,ab q.names,ab (aW q.U3)])) from ?_) (.c UE (.c (Ns (Γ':=Un) (@AI (gF w rs p r L q))) (.c (Ns (Γ':=Un) (@AH (gF w rs p r L q))) (.c (show @Eq (Option (Bool×D)) (some (UU (↑k:Int) (MO (ap L)),.ref (.vp 8 1 (MU (↑k:Int)) 0))) (some (true,D.ref (.vp 8 1 k 0))) from(by subst v0 v1;first|(simp only[U8,cond_true,cond_false];done)|first|assumption|rfl|exact tf rfl hk|exact tg rfl hq|exact th (R:=[]) rfl hq|exact aD _ _|exact ai|exact aB _ _|exact aj _ _|exact aw _ _|omega|(simp[UU];omega))) (.c (show @Eq (oN) (some (.ref (.vp 8 1 k 5))) (some (.ref (.vp 8 1 k 5))) from rfl) (.c (show @Eq (Option (aT)) (aX MJ (gF w rs p r L q) 55 (.ref (.vp 8 1 k 5)) (ab [])) (some [.var (Oi w),.var [nq,SW 0,nq],.var [T6 false],.var [.ref (.T7 5 0)],.var [SW 0],.T7 (ap (Us rs)) 0 5,.var [ak p.nm,SW p.number,SW p.UC,SW p.UL,SW p.num,SW p.den,.ref (.T7 8 1)],.var v0,.T7 (ap v1) 1 6,.var [ak q.nm,SW q.To,SW q.Uf,T6 q.home,ab q.names,ab (aW q.U3)]]) from ?_) (.e (.ref (.ptr 6 6)) (.e (.ref (.ptr 6 6)) (.c (show @Eq (oN) (some (.ref (.T7 8 1))) (some (.ref (.T7 8 1))) from rfl) (.c (show @Eq (oN) (some (.ref (.T7 8 1))) (some (.ref (.T7 8 1))) from rfl) (.c (show UU (↑k:Int) (MO (ap L))=true from ?_) (.c (show(.ref (.vp 8 1 (MU (↑k:Int)) 0):D)=.ref (.vp 8 1 k 0) from ?_) (.e (.ref (.vp 8 1 k 5)) (.c (iqT 9 (.var (Oi w))) (.c (iqT 9 (.var [nq,SW 0,nq])) (.c (iqT 9 (.var [T6 false])) (.c (iqT 9 (.var [.ref (.T7 5 0)])) (.c (iqT 9 (.var [SW 0])) (.c (show MY 9 (.T7 (ap (Us rs)) 0 5)=true from ?_) (.c (iqT 9 (.var [ak p.nm,SW p.number,SW p.UC,SW p.UL,SW p.num,SW p.den,.ref (.T7 8 1)])) (.c (iqT 9 (.var v0)) (.c (show MY 9 (.T7 (ap v1) 1 6)=true from ?_) .n))))))))))))))))))))))))) (by subst v0 v1;first|rfl|(simp only[hw]<;>rfl)) (by subst v0 v1;first|rfl|(simp only[hw]<;>rfl))<;>subst v0 v1<;>(first|assumption|rfl|exact tf rfl hk|exact tg rfl hq|exact th (R:=[]) rfl hq|exact aD _ _|exact ai|exact aB _ _|exact aj _ _|exact aw _ _|omega|(simp[UU];omega))
theorem Jn
  (U8:Zd ((k:Int)<n)=false):(CW MJ Un (hA w) false (sub NH 0) (doS w T4 ST l rs p r L n k) (.exit 0) {t:=Ue 167 0 [ZQ,ZR,ZS,ZT,Yz,(W9 l)],h:=dgB w rs 0 (dgC p) r++[.T7 (ap L) 1 6],m:=[]}):=by
 exact zx [.st (.mask [10,11,12,13,15,20])] [.b false] (.c U8 .n)
def ME(w:T9)(T4 ST:Int)(q:UA):bV:=match q.U3 with
 | []=>[]
 | _=>Lib.compact (((q.U3.foldl (frF w T4 ST) ([],[])).2).mergeSort λx y=>Zd (x<=y))
def jB(w:T9)(T4 ST:Int)(q:UA):oF:=(q.U3.foldl (frF w T4 ST) ([],[])).1
theorem ir:∀(cs:bV) (s:oF×bV),cs.foldl (frF w T4 ST) s=(s.1++(cs.foldl (frF w T4 ST) ([],[])).1,s.2++(cs.foldl (frF w T4 ST) ([],[])).2)
 | [],s=>by simp
 | c::cs,s=>by
  rw[Nn,ir cs,Nn,ir cs (frF w T4 ST ([],[]) c)]
  simp[frF]
theorem eqN_ge{a:Int}(s:RL):s.2.length<=(eqN w T4 ST a s n).2.length:=by
 unfold eqN
 cases s.2.contains n
 ·cases zbI w T4 ST a n<;>simp
 ·simp
theorem uN{a:Int}:∀(ms:bV) (s:RL),s.2.length<=(ms.foldl (eqN w T4 ST a) s).2.length
 | [],_=>M5 _
 | _::ms,s=>Nat.le_trans (eqN_ge s) (uN ms _)
theorem yv{ns:bV}:∀(f i:Nat) (s:RL),s.2.length<=(Ε w T4 ST ns f i s).2.length
 | 0,_,_=>M5 _
 | f+1,i,s=>by
  unfold Ε
  split
  ·exact Nat.le_trans (uN ns s) (yv f (i+1) _)
  ·exact M5 _
theorem Fb:1<=(tk w c T4 ST).2.length:=by
 unfold tk
 split
 ·simp
 ·simp only[AO,RZ]
  exact yv _ _ ([rdN],[c])
theorem yw(hn:(ah w.f ST).length<=1000)(q:UA):(jB w T4 ST q).length<=q.U3.length*1001001:=by
 have:=(pQ (T4:=T4) hn q.U3 ([],[])).1
 unfold jB
 simpa using this
def nj(w:T9)(T4 ST:Int)(q:UA):UA:=Hs q (ME w T4 ST q)
abbrev doE(w:T9)(l:iF)(rs:oF)(p:TO)(r:UW)(L:bv):AS :=
 {t:=Ue 167 0 [ZQ,ZR,ZS,ZT,Yz,(W9 l)],h:=dgB w rs 0 (dgC p) r++[.T7 (ap L) 1 6],m:=[]}
theorem Jo(hw:w.ok)(hn:(ah w.f ST).length<=1000)
  (hf:q.U3.length<=1048576) (hb:rs.length+q.U3.length*1001001<=3000000000000) (hq:L[k]? = some q.row) (U8:Zd ((k:Int)<n)=true) (hw2:ML.wrap ((k:Int)+1)=((k+1:Nat):Int)) :
  CW MJ Un (hA w) false (sub NH 0) (doS w T4 ST l rs p r L n k) .normal (doS w T4 ST l (rs++jB w T4 ST q) p r (L.set k (nj w T4 ST q).row) n ((k+1:Nat):Int)):=by
 have hk:=(List.getElem?_eq_some_iff.1 hq).1
 cases hc:q.U3 with
 | nil =>
  have e1:jB w T4 ST q=[]:=by unfold jB;rw[hc];rfl
  have e2:nj w T4 ST q=Hs q []:=by unfold nj ME;rw[hc]
  have hz:Zd ((0:Int)<((aW q.U3).length:Int))=false:=by rw[hc];rfl
  rw[e1,e2,QQ]
  refine Fa hk hq U8 hw2 ?_
  exact Rn (P:=MJ) (Γ:=Un) (h0:=hA w) (rd:=false) (c:=sub NH 1) 0 (λ_=>dzS w T4 ST l rs p r L q n k) (by simp) (λi hi=>absurd hi (Qj i)) (Jm hz)
 | cons c cs =>
  have UY:=Mv hw (T4:=T4) (n:=n) (k:=(k:Int)) hn (l:=l) (rs:=rs) (p:=p) (r:=r) (L:=L) hf hb
  have e0:=ir (w:=w) (T4:=T4) (ST:=ST) q.U3 (rs,[])
  rw[e0] at UY
  have e1:(q.U3.foldl (frF w T4 ST) ([],[])).1=jB w T4 ST q:=rfl
  rw[e1] at UY
  simp only[RS] at UY
  have hlen:=(pQ (T4:=T4) hn q.U3 ([],[])).2
  have zfV:1<=(q.U3.foldl (frF w T4 ST) ([],[])).2.length:=by
   rw[hc,Nn,ir]
   simp only[Nv,frF,RS]
   have:=Fb (w:=w) (c:=c) (T4:=T4) (ST:=ST)
   omega
  have e2:nj w T4 ST q=Hs q (Lib.compact (Vk ((q.U3.foldl (frF w T4 ST) ([],[])).2))):=by unfold nj ME;rw[hc]
  rw[e2]
  generalize (q.U3.foldl (frF w T4 ST) ([],[])).2=fs at UY hlen zfV ⊢
  have hl2:fs.length<4611686018427387904:=by simp only[O3] at hlen;omega
  have hso:=Ed (h:=[.T7 (bX fs) 0 1]) (b:=0) (e:=0) (l:=fs) rfl hl2 (λh=>by rw[h] at zfV;simp at zfV)
  have hlm:(Vk fs).length=fs.length:=RZ _
  exact Mw hk hq U8 hw2 UY hso (Hr (l:=(Vk fs)) (by omega) (λh=>by rw[h] at hlm;simp at hlm;omega))
abbrev VQ(a:TO)(b:Nat)(c:T9)(d e:Int):bv:=((a.reqs.take b).map (nj c d e)++a.reqs.drop b).map M0
theorem Jp(hw:w.ok)(hn:(ah w.f ST).length<=1000)
  (hs:am p.reqs) (hf:∀q∈p.reqs,q.U3.length<=1048576) (hb:rs.length+(p.reqs.map λq=>q.U3.length).sum*1001001<=3000000000000) :
  CW MJ Un (hA w) false (.loop (sub NH 0)) (doS w T4 ST l rs p r (p.reqs.map M0) (p.reqs.length:Int) 0) (.exit 0) (doE w l (rs++(p.reqs.map (jB w T4 ST)).flatten) p r ((p.reqs.map (nj w T4 ST)).map M0)):=by
 have hQ:∀(l:NE),((l.map (jB w T4 ST)).flatten).length<=(l.map λq=>q.U3.length).sum*1001001:=by
  intro l
  induction l with
  | nil=>simp
  | cons q l ih =>
   have:=yw (T4:=T4) hn q
   simp only[NW,List.flatten_cons,Nv,SM,Nat.add_mul]
   omega
 have hT (k:Nat) (hk:k<p.reqs.length):((p.reqs.take k).map λq=>q.U3.length).sum+(p.reqs[k]).U3.length<=(p.reqs.map λq=>q.U3.length).sum:=by
  conv=>rhs;rw[<-List.take_append_drop k p.reqs,NP,List.sum_append,SN hk,NW,SM]
  omega
 have h0:=Rn (P:=MJ) (Γ:=Un) (h0:=hA w) (rd:=false) (c:=sub NH 0) p.reqs.length (λk=>doS w T4 ST l (rs++((p.reqs.take k).map (jB w T4 ST)).flatten) p r (((p.reqs.take k).map (nj w T4 ST)++p.reqs.drop k).map M0) (p.reqs.length:Int) (k:Int)) (e:=.exit 0) (by simp) (λk hk=>?_) (Jn (by simp))
 ·rw[List.take_length,List.drop_length,QQ] at h0
  have e1:((p.reqs.take 0).map (jB w T4 ST)).flatten=[]:=rfl
  have e2:(p.reqs.take 0).map (nj w T4 ST)++p.reqs.drop 0=p.reqs:=by simp
  simp only[e1,e2,QQ] at h0
  exact h0
 ·have hq:p.reqs[k]? = some p.reqs[k]:=List.getElem?_eq_getElem hk
  have hlk:((p.reqs.take k).map (nj w T4 ST)).length=k:=by rw[N1,List.length_take];omega
  have e1:((p.reqs.take (k+1)).map (jB w T4 ST)).flatten=((p.reqs.take k).map (jB w T4 ST)).flatten++jB w T4 ST p.reqs[k]:=by
   rw[R9 hk,NP,List.flatten_append];simp
  have e3:((p.reqs.take k).map (nj w T4 ST)++p.reqs.drop k).map M0=((p.reqs.take k).map (nj w T4 ST)).map M0++(p.reqs[k]).row::(p.reqs.drop (k+1)).map M0:=by
   rw[SN hk,NP,NW]
  have hLk:(((p.reqs.take k).map (nj w T4 ST)++p.reqs.drop k).map M0)[k]? = some (p.reqs[k]).row:=by
   rw[e3,List.getElem?_append_right (by rw[N1,hlk];exact M5 _),N1,hlk,Nat.sub_self];rfl
  have e2:(((p.reqs.take k).map (nj w T4 ST)++p.reqs.drop k).map M0).set k (nj w T4 ST p.reqs[k]).row=((p.reqs.take (k+1)).map (nj w T4 ST)++p.reqs.drop (k+1)).map M0:=by
   rw[e3,List.set_append_right _ _ (by rw[N1,hlk];exact M5 _),N1,hlk,Nat.sub_self,List.set_cons_zero,R9 hk]
   simp only[NP,OQ,NW,List.map_nil,List.cons_append,RS]
  have hb1:=hQ (p.reqs.take k)
  have hb2:=hT k hk
  have hb3:=Nat.mul_le_mul_right 1001001 hb2
  rw[Nat.add_mul] at hb3
  have ω:=Jo hw (T4:=T4) (n:=(p.reqs.length:Int)) hn (l:=l) (rs:=rs++((p.reqs.take k).map (jB w T4 ST)).flatten) (p:=p) (r:=r) (hf _ (List.mem_of_getElem? hq)) (by rw[Nv];omega) hLk (by simp;omega) (Uo hk hs)
  rw[e2,OQ,<-e1] at ω
  exact ω
theorem cl_ct:(CW MJ U2 [] false (cR (cL (cR (au Tryz.f27)))) (zb6 8 [(0,ab []),(2,nq),(3,ab []),(4,T6 true)] []) .ret {t:=Ue 8 0 [(2,nq)],h:=[],m:=[]}):=by
 exact zx (zaM 2) [.b true] (.er true .n)
theorem B3{qs:oF}(hb:qs.length<=3000000000000):Ev MJ U2 22 (XJ qs 0) [.var (XI 1 0),.T7 [] 0 5] (.UI []) [.var (XI 1 1),.T7 (ap (Us qs)) 1 5]:=vG (rs:=[]) (by simpa using hb)
abbrev Zz:bY:=Ue 167 0 [(zcL 10),(zcH 11),(zcj 12 3),(zcj 13 4)]
abbrev dgO:bY:=Zz
abbrev clo:D:=.fn (.func 22) [] Vg
abbrev sgA(w:T9)(st n T4 ST:Int):AS:={t:=Ue 167 0 [(1,SW st),(2,SW n),(3,SW T4),(4,SW ST),Xr,ZQ,ZR,ZS,ZT],h:=(WI w nq),m:=[]}
abbrev sgB(w:T9)(T4 ST:Int)(q1 q2:oF)(p:TO)(r:UW)(e1:Int):AS:={t:=Ue 167 0 [(3,SW T4),(4,SW ST),Xr,ZQ,ZR,ZS,ZT,(14,clo),Yz,(16,ab (Us q2)),(zcj 18 7),(19,SW e1)],h:=dgB w q1 0 p.l r,m:=[]}
abbrev zct(a b:bY)(c:List (bY))(d:Nat)(e:TO):aT:=[.var a,.var [nq,SW 0,nq],.var [T6 false],.var b,.var [SW 0],.T7 c d 5,.var (Zc e)]
noncomputable abbrev Jq(w:T9)(p:TO)(q1:oF):aT:=(zct (Zi w) Yi (ap (Us q1)) 0 p)
abbrev zdw(a:T9):aT:=[.var (Zi a),.var [nq,SW 0,nq],.var [T6 false],.var Yi,.var [SW 0],.T7 [] 0 5]
noncomputable abbrev Jr(w:T9):aT:=(zdw w)
abbrev YY(a:aT):AS:={t:=dgO,h:=a,m:=[]}
abbrev zav:bY:=[.ref (.T7 5 1)]
theorem dg_A{e1:Int}(hb:q1.length<=1000000)
  (hp:∀h,Ev MJ Un 23 (Wp w n T4 ST) h (.UI [.agg p.l,ab (Us q1),T6 true]) h)
  (hr:∀h,Ev MJ Un 24 (Wp w st T4 ST) h (.UI [.agg r.l,ab (Us q2),SW e1]) h)
  (ht:CW MJ Un (hA w) false (bg (au NH) 8) (sgB w T4 ST q1 q2 p r e1) e (YY H)):(CW MJ Un (hA w) false (cR (cR (au NH))) (sgA w st n T4 ST) e (YY H)):=by
 have UE:=(@ht)
 let v0:aT:=(zct (Oi w) zav (ap (Us q1)) 1 p)
 let v1:aT:=(zct (Oi w) Yi [] 0 p)
 refine zx [] [.st (.zhX 3 0 5),.val (NG [Oo (Zc p),ab (Us q1),T6 true]),.call (NG []) v0,.b false,.st (.ren 5 0),.val (NG [Oo (Z6 r),ab (Us q2),SW e1]),.zgg [3,4,5,10,11,12,13,14,15,16,18,19] e {t:=Zz,h:=H}] (.c (@hp (Jr w)) (.c (show Ev MJ Un 22 (XJ q1 3) v1 (NG []) v0 from(Na (Ov (args:=(XJ q1 3)) (H:=v1) [3,5] (Ns (@B3 q1 (by subst v0 v1;first|assumption|rfl|exact aD _ _|exact ai|exact aj _ _|(simp only[O3];omega)|omega))) (by kernel_rfl) (by kernel_rfl) (by kernel_rfl) ⟨?_,trivial⟩ ⟨?_,trivial⟩) (by kernel_rfl) (by kernel_rfl))) (.c (show(!true)=false from rfl) (.c (vM (Us q1) 5 1 0) (.c (@hr (Jq w p q1)) (.c UE .n))))))<;>subst v0 v1<;>(first|rfl|exact al _ _|first|assumption|rfl|exact aD _ _|exact ai|exact aj _ _|(simp only[O3];omega)|omega)
abbrev sgB9(w:T9)(T4 ST:Int)(q1 q2:oF)(p:TO)(r:UW):AS:={t:=Ue 167 0 [(3,SW T4),(4,SW ST),Xr,ZQ,ZR,ZS,ZT,(14,clo),Yz,(16,ab (Us q2)),(zcj 18 7)],h:=dgB w q1 0 p.l r,m:=[]}
abbrev sgC(w:T9)(T4 ST:Int)(rs q3:oF)(p:TO)(r:UW)(l:iF)(e2:Int):AS:={t:=Ue 167 0 [(3,SW T4),(4,SW ST),Xr,ZQ,ZR,ZS,ZT,(14,clo),Yz,(16,ab (Us q3)),(19,SW e2),(W9 l)],h:=dgB w rs 0 p.l r,m:=[]}
noncomputable abbrev Js(w:T9)(p:TO)(r:UW)(q1:oF)(q2:oF):aT:=(zcg (Zi w) Yi (zbm q1 q2) 0 (Zc p) (Z6 r))
abbrev zbZ(a:T9)(b:bY)(c:oF)(d:bY)(e:UW):aT:=[.var (Zi a),.var b,.var [T6 false],.var Yi,.var [SW 0],.T7 (ap (Us c)) 0 5,.var d,.var (Z6 e)]
noncomputable abbrev B4(w:T9)(p:TO)(r:UW)(q1:oF):aT:=(zbZ w [nq,SW 0,nq] q1 (Zc p) r)
theorem dg_B{e2:Int}(hb:q1.length+q2.length<=3000000000000)
  (hc:∀h,Ev MJ Un 26 [.agg w.l,.agg r.l,SW T4,SW ST] h (.UI [ab (l.map MQ),ab (Us q3),SW e2]) h)
  (ht:CW MJ Un (hA w) false (bg (au NH) 11) (sgC w T4 ST (q1++q2) q3 p r l e2) e (YY H)):(CW MJ Un (hA w) false (bg (au NH) 9) (sgB9 w T4 ST q1 q2 p r) e (YY H)):=by
 have UE:=(@ht)
 let v0:aT:=(zcg (Oi w) zav (zbm q1 q2) 1 (Zc p) (Z6 r))
 refine zx [] [.call (NG []) v0,.st (.ren 5 0),.val (NG [ab (MK MQ l),ab (Us q3),SW e2]),.zgg [3,4,5,10,11,12,13,14,15,16,19,20] e {t:=Zz,h:=H}] (.c (show Ev MJ Un 22 (XJ q2 3) (B4 w p r q1) (NG []) v0 from(Na (Ov (args:=(XJ q2 3)) (H:=(B4 w p r q1)) [3,5] (Ns (@vG q1 q2 hb)) (by kernel_rfl) (by kernel_rfl) (by kernel_rfl) ⟨?_,trivial⟩ ⟨?_,trivial⟩) (by kernel_rfl) (by kernel_rfl))) (.c (vM (Us (q1++q2)) 5 1 0) (.c (@hc (Js w p r q1 q2)) (.c UE .n))))<;>subst v0<;>(first|rfl|exact al _ _|first|assumption|rfl|exact aD _ _|exact ai|exact aj _ _|omega)
abbrev Jt(w:T9)(T4 ST:Int)(rs q3:oF)(p:TO)(r:UW)(l:iF):AS:={t:=Ue 167 0 [(3,SW T4),(4,SW ST),Xr,ZQ,ZR,ZS,ZT,(14,clo),Yz,(16,ab (Us q3)),(W9 l)],h:=dgB w rs 0 p.l r,m:=[]}
abbrev HN(w:T9)(rs:oF)(x1 x3:bv)(ms:Int)(p:TO)(r:UW):aT:=[.var w.l,.var (X5 x1 ms x3),.var [T6 false],.var Yi,.var [SW 0],.T7 (ap (Us rs)) 0 5,.var p.l,.var r.l]
abbrev sgD(w:T9)(rs:oF)(x1 x3:bv)(ms:Int)(p:TO)(r:UW)(l:iF)(e3:Int):AS:=(zb6 167 [ZQ,ZR,ZS,ZT,Yz,(19,SW e3),(W9 l)] (HN w rs x1 x3 ms p r))
noncomputable abbrev Ju(w:T9)(p:TO)(Q:NE)(r:UW)(rs:oF)(q3:oF)(q4:oF):aT:=(zbZ w [nq,SW 0,nq] (rs++q3++q4) (Zb p (MK M0 Q)) r)
noncomputable abbrev B5(w:T9)(p:TO)(r:UW)(rs:oF):aT:=(zbZ w [nq,SW 0,nq] rs (Zc p) r)
abbrev Y1(a:Nat)(b:NE)(c:Uc):Uc:=(zcP a 8 1 (MK M0 b) c)
theorem dg_C{Q:NE}{q4:oF}(hb:rs.length+q3.length<=3000000000000)
  (hcl:Ev MJ U2 27 [ab (XE p)] [] (.ref (.T7 0 1)) [.T7 (ap (XE p)) 1 6])
  (hl:CW MJ Un (hA w) false (.loop (sub NH 0)) (doS w T4 ST l (rs++q3) p r (XE p) ((ap (XE p)).length:Int) 0) (.exit 0) (doE w l (rs++q3++q4) p r (Q.map M0)))
  (ha:∀h,Ev MJ U2 13 [.agg (TO.l ⟨p.nm,p.number,p.UC,p.UL,p.num,p.den,Q⟩),ab (l.map MQ)] h (.UI [.agg (X5 x1 ms x3),SW e3]) h)
  (ht:CW MJ Un (hA w) false (bg (au NH) 29) (sgD w (rs++q3++q4) x1 x3 ms ⟨p.nm,p.number,p.UC,p.UL,p.num,p.den,Q⟩ r l e3) e (YY H)):(CW MJ Un (hA w) false (bg (au NH) 12) (Jt w T4 ST rs q3 p r l) e (YY H)):=by
 have UE:=(@hl)
 have hl1:=(@ht)
 let v3:bY:=(Z6 r)
 let v4:=MK M0 p.reqs
 let v0:aT:=(zb8 (Oi w) [nq,SW 0,nq] (zbm rs q3) (Zb p v4) v3 (.T7 (ap v4) 1 6))
 let v1:aT:=(zcg (Oi w) zav (zbm rs q3) 1 (Zb p v4) v3)
 let v2:aT:=(zcg (Oi w) Yi (zbm rs q3) 0 (Zb p v4) v3)
 refine zx [] [.call (NG []) v1,.st (.ren 5 0),.call zdI v0,.sum [3,4,5,10,11,12,13,14,15,20,82,83,84] (NR 0) {t:=Ue 167 0 [ZQ,ZR,ZS,ZT,Yz,(Wq 20 l)],h:=(zd0 (Oi w) (rs++q3++q4) p v3 (MK M0 Q)),m:=[]},.st (.frz 8 (MK M0 Q)),.st (.UN 8),.val (NG [Oo (X5 x1 ms x3),SW e3]),.zgg [10,11,12,13,15,19,20] e {t:=Zz,h:=H}] (.c (show Ev MJ Un 22 (XJ q3 3) (B5 w p r rs) (NG []) v1 from(Na (Ov (args:=(XJ q3 3)) (H:=(B5 w p r rs)) [3,5] (Ns (@vG rs q3 hb)) (by kernel_rfl) (by kernel_rfl) (by kernel_rfl) ⟨(by subst v3 v4 v0 v1 v2;first|rfl|exact al _ _|first|assumption|rfl|exact aD _ _|exact ai|exact aj _ _|omega),trivial⟩ ⟨(by subst v3 v4 v0 v1 v2;first|rfl|exact al _ _|first|assumption|rfl|exact aD _ _|exact ai|exact aj _ _|omega),trivial⟩) (by kernel_rfl) (by kernel_rfl))) (.c (vM (Us (rs++q3)) 5 1 0) (.c (show Ev MJ Un 27 [ab v4] v2 zdI v0 from(Na (Ov (args:=[ab v4]) (H:=v2) [] (Ns (@hcl)) (by kernel_rfl) (by kernel_rfl) (by kernel_rfl) trivial ⟨(by subst v3 v4 v0 v1 v2;first|rfl|exact al _ _|first|assumption|rfl|exact aD _ _|exact ai|exact aj _ _|omega),trivial⟩) (by kernel_rfl) (by kernel_rfl))) (.c UE (.c (show ap (MK M0 Q)=(XZ (MK M0 Q)) from ?_) (.c (show MK (D.YK (ez 8 1 (MK M0 Q))) (ap (Us (rs++q3++q4)))=ap (Us (rs++q3++q4)) from ?_) (.c (iqT 8 (Y1 0 Q (.var (Oi w)))) (.c (iqT 8 (Y1 (0+1) Q (.var [nq,SW 0,nq]))) (.c (iqT 8 (Y1 (0+1+1) Q (.var [T6 false]))) (.c (iqT 8 (zcP (0+1+1+1) 8 1 (MK M0 Q) (.var Yi))) (.c (iqT 8 (Y1 (0+1+1+1+1) Q (.var [SW 0]))) (.c (show MY 8 (Y1 (0+1+1+1+1+1) Q (.T7 (ap (Us (rs++q3++q4))) 0 5))=true from ?_) (.c (iqT 8 (zcP (0+1+1+1+1+1+1) 8 1 (MK M0 Q) (.var (Zx p)))) (.c (iqT 8 (Y1 (0+1+1+1+1+1+1+1) Q (.var v3))) (.c (Ns (Γ':=Un) (@ha (Ju w p Q r rs q3 q4))) (.c hl1 .n))))))))))))))))<;>subst v3 v4 v0 v1 v2<;>(first|assumption|rfl|exact aD _ _|exact ai|exact aj _ _|omega)
theorem kq(rs:bv):ap rs=rs.map (MK .p):=rfl
abbrev doZ(w:T9)(T4 ST:Int)(l:iF)(rs:oF)(p:bY)(r:UW):AS :=
 {t:=(zdh T4 ST (14,clo) (W9 l) (82,ab []) 0 (SW 0)),
  h:=dgB w rs 0 p r,m:=[]}
abbrev doZE(w:T9)(l:iF)(rs:oF)(p:bY)(r:UW):AS :=
 {t:=Ue 167 0 [ZQ,ZR,ZS,ZT,Yz,(W9 l)],h:=dgB w rs 0 p r,m:=[]}
theorem Fc{p:bY}:(CW MJ Un (hA w) false (sub NH 0) (doZ w T4 ST l rs p r) (.exit 0) (doZE w l rs p r)):=by
 exact zx [.st (.mask [10,11,12,13,15,20])] [.b false] (.c (show Zd (0<0)=false from rfl) .n)
theorem doZ_cw{w:T9}{T4 ST:Int}{l:iF}{rs:oF}{p:bY}{r:UW}:CW MJ Un (hA w) false (.loop (sub NH 0)) (doZ w T4 ST l rs p r) (.exit 0) (doZE w l rs p r) :=
 Rn (P:=MJ) (Γ:=Un) (h0:=hA w) (rd:=false) (c:=sub NH 0) 0 (λ_=>doZ w T4 ST l rs p r) (by simp) (λi hi=>absurd hi (Qj i)) Fc
abbrev pZ(p:TO):TO:=⟨p.nm,p.number,p.UC,p.UL,p.num,p.den,[]⟩
noncomputable abbrev sC(w:T9)(p:TO)(r:UW)(rs:oF)(q3:oF):aT:=[.var (Zi w),.var [nq,SW 0,nq],.var [T6 false],.var Yi,.var [SW 0],.T7 (zbm rs q3) 0 5,.var (Zb p []),.var (Z6 r)]
noncomputable abbrev yy(w:T9)(p:TO)(r:UW)(rs:oF):aT:=(zbZ w [nq,SW 0,nq] rs (Zb p []) r)
theorem dg_C0(hb:rs.length+q3.length<=3000000000000)
  (hcl:∀h,Ev MJ U2 27 [ab []] h (ab []) h)
  (ha:∀h,Ev MJ U2 13 [.agg (pZ p).l,ab (l.map MQ)] h (.UI [.agg (X5 x1 ms x3),SW e3]) h)
  (ht:CW MJ Un (hA w) false (bg (au NH) 29) (sgD w (rs++q3) x1 x3 ms (pZ p) r l e3) e (YY H)):(CW MJ Un (hA w) false (bg (au NH) 12) (Jt w T4 ST rs q3 (pZ p) r l) e (YY H)):=by
 have UE:=(@doZ_cw (w) (T4) (ST) (l) (rs++q3) (Zb p []) (r))
 have hl1:=(@ht)
 let v0:aT:=(zcg (Oi w) zav (zbm rs q3) 1 (Zb p []) (Z6 r))
 refine zx [] [.call (NG []) v0,.st (.ren 5 0),.val (ab []),.sum [3,4,5,10,11,12,13,14,15,20,82,83,84] (NR 0) (zb6 167 [ZQ,ZR,ZS,ZT,Yz,(Wq 20 l)] (sC w p r rs q3)),.val (NG [Oo (X5 x1 ms x3),SW e3]),.zgg [10,11,12,13,15,19,20] e {t:=Zz,h:=H}] (.c (show Ev MJ Un 22 (XJ q3 3) (yy w p r rs) (NG []) v0 from(Na (Ov (args:=(XJ q3 3)) (H:=(yy w p r rs)) [3,5] (Ns (@vG rs q3 hb)) (by kernel_rfl) (by kernel_rfl) (by kernel_rfl) ⟨?_,trivial⟩ ⟨?_,trivial⟩) (by kernel_rfl) (by kernel_rfl))) (.c (vM (Us (rs++q3)) 5 1 0) (.c (Ns (Γ':=Un) (@hcl (sC w p r rs q3))) (.c UE (.c (Ns (Γ':=Un) (@ha (sC w p r rs q3))) (.c hl1 .n))))))<;>subst v0<;>(first|rfl|exact al _ _|first|assumption|rfl|exact aD _ _|exact ai|exact aj _ _|omega)
abbrev sgD30(w:T9)(rs:oF)(x1 x3:bv)(ms:Int)(p:TO)(r:UW)(l:iF):AS:=(zb6 167 [ZQ,ZR,ZS,ZT,Yz,(W9 l)] (HN w rs x1 x3 ms p r))
abbrev sgE(w:T9)(rs:oF)(x1 x3:bv)(ms:Int)(p:TO)(r:UW)(l:iF)(en e4:Int):AS:={t:=Ue 167 0 [ZQ,ZR,ZS,ZT,Yz,(19,SW e4),(W9 l),(28,SW en)],h:=HN w rs x1 x3 ms p r,m:=[]}
noncomputable abbrev Jv(w:T9)(ms:Int)(p:TO)(r:UW)(rs:oF)(x1:bv)(x3:bv):aT:=(zbZ w (X5 x1 ms x3) rs (Zc p) r)
theorem dg_D{e4:Int}
  (he:∀h,Ev MJ U2 32 (Wr l) h (.UI [SW en,SW e4]) h)
  (ht:CW MJ Un (hA w) false (bg (au NH) 31) (sgE w rs x1 x3 ms p r l en e4) e (YY H)):(CW MJ Un (hA w) false (bg (au NH) 30) (sgD30 w rs x1 x3 ms p r l) e (YY H)):=by
 have UE:=(@ht)
 exact zx [] [.val (NG [SW en,SW e4]),.zgg [10,11,12,13,15,19,20,28] e {t:=Zz,h:=H}] (.c (Ns (Γ':=Un) (@he (Jv w ms p r rs x1 x3))) (.c UE .n))
abbrev sgE32(w:T9)(rs:oF)(x1 x3:bv)(ms:Int)(p:TO)(r:UW)(l:iF)(en:Int):AS:=(zb6 167 [ZQ,ZR,ZS,ZT,Yz,(W9 l),(28,SW en)] (HN w rs x1 x3 ms p r))
abbrev sgF(w:T9)(rs:oF)(x1 x3:bv)(ms:Int)(p:TO)(r:UW)(en mn md e5:Int):AS:={t:=Ue 167 0 [ZQ,ZR,ZS,ZT,Yz,(19,SW e5),(28,SW en),(zcj 29 8)],h:=HN w rs x1 x3 ms p r++(X8 mn md),m:=[]}
noncomputable abbrev Jw(w:T9)(ms:Int)(p:TO)(r:UW)(rs:oF)(x1:bv)(x3:bv):aT:=(zbZ w (X5 x1 ms x3) rs (Zc p) r)
theorem dg_E{e5:Int}
  (hm:∀h,Ev MJ U2 33 (Wr l) h (.UI [.agg [SW mn,SW md],SW e5]) h)
  (ht:CW MJ Un (hA w) false (bg (au NH) 33) (sgF w rs x1 x3 ms p r en mn md e5) e (YY H)):(CW MJ Un (hA w) false (bg (au NH) 32) (sgE32 w rs x1 x3 ms p r l en) e (YY H)):=by
 have UE:=(@ht)
 exact zx [] [.val (NG [Oo [SW mn,SW md],SW e5]),.zgg [10,11,12,13,15,19,28,29] e {t:=Zz,h:=H}] (.c (Ns (Γ':=Un) (@hm (Jw w ms p r rs x1 x3))) (.c UE .n))
abbrev sgF34(w:T9)(rs:oF)(x1 x3:bv)(ms:Int)(p:TO)(r:UW)(en mn md:Int):AS:={t:=Ue 167 0 [ZQ,ZR,ZS,ZT,Yz,(28,SW en),(zcj 29 8)],h:=HN w rs x1 x3 ms p r++(X8 mn md),m:=[]}
abbrev sgG(w:T9)(rs:oF)(x1 x3:bv)(ms:Int)(p:TO)(r:UW)(en mn md c e6:Int):AS:={t:=Ue 167 0 [ZQ,ZR,ZS,ZT,Yz,(19,SW e6),(28,SW en),(30,SW c)],h:=HN w rs x1 x3 ms p r++(X8 mn md),m:=[]}
noncomputable abbrev Jx(w:T9)(ms:Int)(mn:Int)(md:Int)(p:TO)(r:UW)(rs:oF)(x1:bv)(x3:bv):aT:=(zb8 (Zi w) (X5 x1 ms x3) (ap (Us rs)) (Zc p) (Z6 r) (.var [SW mn,SW md]))
theorem dg_F{e6:Int}
  (hm:∀h,Ev MJ U2 34 [.agg [SW mn,SW md],.agg [SW p.num,SW p.den]] h (.UI [SW c,SW e6]) h)
  (ht:CW MJ Un (hA w) false (bg (au NH) 35) (sgG w rs x1 x3 ms p r en mn md c e6) e (YY H)):(CW MJ Un (hA w) false (bg (au NH) 34) (sgF34 w rs x1 x3 ms p r en mn md) e (YY H)):=by
 have UE:=(@ht)
 exact zx [] [.val (NG [SW c,SW e6]),.zgg [10,11,12,13,15,19,28,30] e {t:=Zz,h:=H}] (.c (Ns (Γ':=Un) (@hm (Jx w ms mn md p r rs x1 x3))) (.c UE .n))
abbrev sgG36(w:T9)(rs:oF)(x1 x3:bv)(ms:Int)(p:TO)(r:UW)(en mn md c:Int):AS:={t:=Ue 167 0 [ZQ,ZR,ZS,ZT,Yz,(28,SW en),(30,SW c)],h:=HN w rs x1 x3 ms p r++(X8 mn md),m:=[]}
abbrev Yy(a b:Nat)(c:oF)(d:bY):Uc:=(zcP a 5 b (Us c) (.var d))
theorem dg_G:(CW MJ Un (hA w) false (bg (au NH) 36) (sgG36 w rs x1 x3 ms p r en mn md c) .ret {t:=dgO,h:=[.var w.l,.var (X5 x1 ms x3),.var [T6 (ms==0&&Zd (en>=p.UL)&&Zd (c>=0))],.var [ab (Us rs)],.var [SW 0]],m:=[]}):=by
 exact zx [.st (.mask [10,11,12,13]),.st (.frz 5 (Us rs)),.st (.UN 5)] [] (.e (Oo (X5 x1 ms x3)) (.e (zbo 1) (.c (show @Eq (oN) (Yc ms) (Yc ms) from rfl) (.c (show(ms==0)=true->(.ref (.ptr 6 3):D)=.ref (.ptr 6 3) from(λhg=>rfl)) (.c (show(ms==0)=true->some (SW p.UL)=some (SW p.UL) from(λhg=>rfl)) (.c (show @Eq (oN) (Y5 5) (Y5 5) from rfl) (.c (show @Eq (oN) (Y5 5) (Y5 5) from rfl) (.c (show @Eq (oN) (Y5 5) (Y5 5) from rfl) (.c (show ap (Us rs)=(XZ (Us rs)) from(by first|assumption|rfl|exact aD _ _|exact ai|exact aj _ _|exact kq _|omega)) (.c (iqT 5 (Yy 0 0 rs (Oi w))) (.c (iqT 5 (Yy (0+1) 0 rs [ab x1,SW ms,ab x3])) (.c (iqT 5 (Yy (0+1+1) 0 rs [T6 (ms==0&&Zd (en>=p.UL)&&Zd (c>=0))])) (.c (iqT 5 (match 0+1+1+1==5 with|true=>.U7|false=>Ux (ez 5 0 (Us rs)) (.var Yi))) (.c (iqT 5 (Yy (0+1+1+1+1) 0 rs [SW 0])) .n))))))))))))))
noncomputable abbrev Jy(w:T9):aT:=(zdw w)
theorem dg_N(hb:q1.length<=1000000)
  (hp:∀h,Ev MJ Un 23 (Wp w n T4 ST) h (.UI [.agg p.l,ab (Us q1),T6 false]) h):(CW MJ Un (hA w) false (cR (cR (au NH))) (sgA w st n T4 ST) .ret {t:=dgO,h:=(WI w (ab (Us q1))),m:=[]}):=by
 let v0:aT:=(zct (Oi w) zav (ap (Us q1)) 1 p)
 let v1:aT:=(zct (Oi w) Yi [] 0 p)
 refine zx [.st (.mask [10,11,12,13]),.st (.frz 5 (Us q1)),.st (.UN 5)] [.st (.zhX 3 0 5),.val (NG [Oo (Zc p),ab (Us q1),T6 false]),.call (NG []) v0,.b true] (.c (@hp (Jy w)) (.c (show Ev MJ Un 22 (XJ q1 3) v1 (NG []) v0 from(Na (Ov (args:=(XJ q1 3)) (H:=v1) [3,5] (Ns (@B3 q1 (by subst v0 v1;first|assumption|rfl|exact aD _ _|exact ai|exact aj _ _|exact kq _|(simp only[O3];omega)|omega))) (by kernel_rfl) (by kernel_rfl) (by kernel_rfl) ⟨?_,trivial⟩ ⟨?_,trivial⟩) (by kernel_rfl) (by kernel_rfl))) (.c (show(!false)=true from rfl) (.e (Oo [nq,SW 0,nq]) (.c (show @Eq (oN) (W2 5) (W2 5) from rfl) (.c (show @Eq (oN) (W2 5) (W2 5) from rfl) (.c (show @Eq (oN) (W2 5) (W2 5) from rfl) (.c (show ap (Us q1)=(XZ (Us q1)) from(by subst v0 v1;first|assumption|rfl|exact aD _ _|exact ai|exact aj _ _|exact kq _|(simp only[O3];omega)|omega)) (.c (iqT 5 (Yy 0 1 q1 (Oi w))) (.c (iqT 5 (Yy (0+1) 1 q1 [nq,SW 0,nq])) (.c (iqT 5 (Yy (0+1+1) 1 q1 [T6 false])) (.c (iqT 5 (Yy (0+1+1+1) 1 q1 [.ref (.T7 5 1)])) (.c (iqT 5 (Yy (0+1+1+1+1) 1 q1 [SW 0])) .n)))))))))))))<;>subst v0 v1<;>(first|rfl|exact al _ _|first|assumption|rfl|exact aD _ _|exact ai|exact aj _ _|exact kq _|(simp only[O3];omega)|omega)
def cT:Code->Code
 | .cond _ a _=>a
 | c=>c
theorem B6:au Qq=.seq (.region (DK (cL (au Qq))) (cC (cL (au Qq))) false) (.cond (.tmp 5) (.region (DK (cT (cR (au Qq)))) (cC (cT (cR (au Qq)))) false) .skip):=by kernel_rfl
noncomputable abbrev dm0T(e:Int):bY:=Ue 9 0 [(0,T6 false),(1,SW e),WS,(5,T6 true)]
noncomputable def dm1(e:Int):Option (Exit×bY×aT):=bi MJ U2 zhr [] (cC (cT (cR (au Qq)))).toList (cC (cT (cR (au Qq)))).toList (dm0T e) []
noncomputable def dmC(e:Int):List PanicEntry:=match dm1 e with
 | some (.panic c,_,_)=>c
 | _=>[]
noncomputable def dmT(e:Int):bY:=match dm1 e with
 | some (_,t,_)=>t
 | _=>[]
theorem zQ(e:Int)(h:aT):zhG MJ U2 63 [T6 false,SW e] h λc h'=>c=dmC e/\h'=h:=by
 refine zhG.zeF (fn:=Qq) (c:=au Qq) rfl rfl λX _=>?_
 rw[B6]
 refine VW.seq (VW.zdS (s:={t:=cM Qq [T6 false,SW e],h:=h,m:=[]}) (t':=dm0T e) (h':=h) (e:=.normal) kR (by kernel_rfl) ?_)
 refine VW.cond (b:=true) rfl (λ_=>?_) (λhf=>by cases hf)
 refine VW.zdS (s:={t:=dm0T e,h:=h,m:=[]}) (t':=dmT e) (h':=h) (e:=.panic (dmC e)) kR (by kernel_rfl) ?_
 exact⟨_,rfl,rfl,Rm,rfl,rfl⟩
def opFv(o:Oper):Operand:=match o.op with
 | .call {callee:=.value fv,.. }=>fv
 | _=>.tmp 0
def uO(o:Oper):Or:=match o.op with
 | .call {args,.. }=>args
 | _=>#[]
def Jz(o:Oper):ON:=match o.op with
 | .call {argTypes,.. }=>argTypes
 | _=>#[]
theorem JA{c:Bool}(h:b=c):T6 b=T6 c:=by rw[h]
theorem Fd:au Qr=.region (DK (au Qr)) (cC (au Qr)) false:=by kernel_rfl
noncomputable abbrev MF:Oper:=(cC (au Qr)).toList.getLastD default
abbrev zaf(a:Int):bY:=Ue 6 0 [(0,SW a),(2,SW a),(3,T6 (a==0)),(4,SW a)]
noncomputable abbrev zar(a:Int):Exit:=(.panic (dmC a))
theorem JB(e:Int)(he:(e==0)=false)(h:aT):zhG MJ U2 25 [SW e] h λc h'=>c=dmC e/\h'=h:=by
 refine zhG.zeF (fn:=Qr) (c:=au Qr) rfl rfl λX hX a w hs=>?_
 rw[Fd]
 have hc:CW MJ U2 h false (.region (DK (au Qr)) (cC (au Qr)) false) {t:=cM Qr [SW e],h:=h,m:=[]} (zar e) {t:=(zaf e),h:=h,m:=[]}:=by
  refine CW.zkI (os1:=(cC (au Qr)).toList.take 3) (rest:=[]) (o:=MF) (fv:=opFv MF) (args:=uO MF) (ats:=Jz MF) (h1:=h) (by kernel_rfl) (by kernel_rfl) (by kernel_rfl) (by kernel_rfl) ?_ rfl
  have e1:U0 U2 (zaf e) (opFv MF)=.p (Wl 63):=by kernel_rfl
  have e2:(uO MF).toList.map (U0 U2 (zaf e))=[T6 (e==0),SW e]:=by kernel_rfl
  rw[e1,e2,JA he]
  exact zgV.zfo UR (f:=63) (fi:=[]) (ca:=[]) rfl (by kernel_rfl) (zQ e _)
 refine wpIn_mono (hc X none hX (λ_=>rfl) a w hs) ?_
 rintro e a' w' ⟨h1,s,⟨rfl,rfl⟩,h2⟩
 exact⟨h1,_,⟨_,rfl,rfl,Rm,rfl,rfl⟩,h2⟩
noncomputable abbrev rg(k:Nat):Is:=cC (cL (bg (au NH) k))
noncomputable abbrev rgO(k:Nat):Oper:=(rg k).toList.getLastD default
abbrev paT(e:Int):bY:=Ue 167 0 [ZQ,ZR,ZS,ZT,(19,SW e)]
abbrev paH(w:T9)(A:bY)(rs:oF):aT:=[.var w.l,.var A,.var [T6 false],.var [ab (Us rs)],.var [SW 0]]
abbrev za6(a:Int)(b:Nat):bY:=UQ (paT a) (some b) (SW a)
theorem qY{A:bY}{x:Nat}{e:Int}(he:(e==0)=false)
  (hcode:bg (au NH) k=.seq (.region (DK (cL (bg (au NH) k))) (rg k) false) (cR (bg (au NH) k)))
  (h1:(rg k).toList=(rg k).toList.take 1++rgO k::[]) (h2:bi MJ Un nE [] (rg k).toList ((rg k).toList.take 1) (paT e) (paH w A rs)=some (.normal,(za6 e x),paH w A rs))
  (h3:(rgO k).op=.call {callee:=.value (opFv (rgO k)),args:=uO (rgO k),argTypes:=Jz (rgO k)}) (h4:(rgO k).guard=none)
  (e1:U0 Un (za6 e x) (opFv (rgO k))=.p (Wl 25)) (e2:(uO (rgO k)).toList.map (U0 Un (za6 e x))=[SW e]) (h5:se [10,11,12,13] 0 (za6 e x)=dgO) :
  CW MJ Un (hA w) false (bg (au NH) k) {t:=paT e,h:=paH w A rs,m:=[]} (zar e) {t:=dgO,h:=paH w A rs,m:=[]}:=by
 have h0:CW MJ Un (hA w) false (bg (au NH) k) {t:=paT e,h:=paH w A rs,m:=[]} (zar e) {t:=(za6 e x),h:=paH w A rs,m:=[]}:=by
  rw[hcode]
  refine CW.out (by simp) (CW.zkI (os1:=(rg k).toList.take 1) (rest:=[]) (o:=rgO k) (fv:=opFv (rgO k)) (args:=uO (rgO k)) (ats:=Jz (rgO k)) (h1:=paH w A rs) h1 h2 h3 h4 ?_ rfl)
  rw[e1,e2]
  exact zgV.zfo UR (f:=25) (fi:=[]) (ca:=[]) rfl (by kernel_rfl) (JB e he _).zfL
 have:=CW.maskE [10,11,12,13] h0
 unfold oz at this
 rw[h5] at this
 exact this
noncomputable abbrev B7(w:T9)(q1:oF)(p:TO)(r:UW):aT:=(zbZ w [nq,SW 0,nq] q1 (Zc p) r)
theorem HO
  (ht:CW MJ Un (hA w) false (bg (au NH) 9) (sgB9 w T4 ST q1 q2 p r) e (YY H)):(CW MJ Un (hA w) false (bg (au NH) 8) (sgB w T4 ST q1 q2 p r 0) e (YY H)):=by
 have UE:=(@ht)
 exact zx [] [.val (NG []),.zgg [3,4,5,10,11,12,13,14,15,16,18] e {t:=Zz,h:=H}] (.c (Ns (Γ':=Un) (@gN (B7 w q1 p r))) (.c UE .n))
abbrev Xh(a:oF):BY:=[.st (.mask [10,11,12,13,19]),.st (.frz 5 (Us a)),.st (.UN 5)]
abbrev zbn(a:oF):List (bY):=(Us a).map (·.map .p)
theorem JC{e:Int}(he:(e==0)=false):CW MJ Un (hA w) false (bg (au NH) 8) (sgB w T4 ST q1 q2 p r e) (zar e) {t:=dgO,h:=paH w [nq,SW 0,nq] q1,m:=[]} :=
 SO (Xh q1) (s1:={t:=paT e,h:=paH w [nq,SW 0,nq] q1,m:=[]}) (by kernel_rfl) (.c (show ap (Us q1)=(zbn q1) from rfl) (.c (iqT 5 (.var w.l)) (.c (iqT 5 Vf) (.c (iqT 5 W6) (.c (iqT 5 (.var [ab (Us q1)])) (.c (iqT 5 Vr) .n))))))
  (qY (k:=8) (x:=58) he (by kernel_rfl) (by kernel_rfl) (by kernel_rfl) (by kernel_rfl) (by kernel_rfl) (by kernel_rfl) (by kernel_rfl) (by kernel_rfl))
noncomputable abbrev zR(w:T9)(rs:oF)(p:TO)(r:UW):aT:=(zbZ w [nq,SW 0,nq] rs (Zc p) r)
theorem JD
  (ht:CW MJ Un (hA w) false (bg (au NH) 12) (Jt w T4 ST rs q3 p r l) e (YY H)):(CW MJ Un (hA w) false (bg (au NH) 11) (sgC w T4 ST rs q3 p r l 0) e (YY H)):=by
 have UE:=(@ht)
 exact zx [] [.val (NG []),.zgg [3,4,5,10,11,12,13,14,15,16,20] e {t:=Zz,h:=H}] (.c (Ns (Γ':=Un) (@gN (zR w rs p r))) (.c UE .n))
theorem Fe{e:Int}(he:(e==0)=false):CW MJ Un (hA w) false (bg (au NH) 11) (sgC w T4 ST rs q3 p r l e) (zar e) {t:=dgO,h:=paH w [nq,SW 0,nq] rs,m:=[]} :=
 SO (Xh rs) (s1:={t:=paT e,h:=paH w [nq,SW 0,nq] rs,m:=[]}) (by kernel_rfl) (.c (show ap (Us rs)=(zbn rs) from rfl) (.c (iqT 5 (.var w.l)) (.c (iqT 5 Vf) (.c (iqT 5 W6) (.c (iqT 5 (.var [ab (Us rs)])) (.c (iqT 5 Vr) .n))))))
  (qY (k:=11) (x:=72) he (by kernel_rfl) (by kernel_rfl) (by kernel_rfl) (by kernel_rfl) (by kernel_rfl) (by kernel_rfl) (by kernel_rfl) (by kernel_rfl))
noncomputable abbrev zS(w:T9)(rs:oF)(x1:bv)(x3:bv)(ms:Int)(p:TO)(r:UW):aT:=(zbZ w (X5 x1 ms x3) rs (Zc p) r)
theorem sD
  (ht:CW MJ Un (hA w) false (bg (au NH) 30) (sgD30 w rs x1 x3 ms p r l) e (YY H)):(CW MJ Un (hA w) false (bg (au NH) 29) (sgD w rs x1 x3 ms p r l 0) e (YY H)):=by
 have UE:=(@ht)
 exact zx [] [.val (NG []),.zgg [10,11,12,13,15,20] e {t:=Zz,h:=H}] (.c (Ns (Γ':=Un) (@gN (zS w rs x1 x3 ms p r))) (.c UE .n))
theorem Ff{e:Int}(he:(e==0)=false):CW MJ Un (hA w) false (bg (au NH) 29) (sgD w rs x1 x3 ms p r l e) (zar e) {t:=dgO,h:=paH w (X5 x1 ms x3) rs,m:=[]} :=
 SO (Xh rs) (s1:={t:=paT e,h:=paH w (X5 x1 ms x3) rs,m:=[]}) (by kernel_rfl) (.c (show ap (Us rs)=(zbn rs) from rfl) (.c (iqT 5 (.var w.l)) (.c (iqT 5 (.var (X5 x1 ms x3))) (.c (iqT 5 W6) (.c (iqT 5 (.var [ab (Us rs)])) (.c (iqT 5 Vr) .n))))))
  (qY (k:=29) (x:=127) he (by kernel_rfl) (by kernel_rfl) (by kernel_rfl) (by kernel_rfl) (by kernel_rfl) (by kernel_rfl) (by kernel_rfl) (by kernel_rfl))
noncomputable abbrev zT(w:T9)(rs:oF)(x1:bv)(x3:bv)(ms:Int)(p:TO)(r:UW):aT:=(zbZ w (X5 x1 ms x3) rs (Zc p) r)
theorem wA
  (ht:CW MJ Un (hA w) false (bg (au NH) 32) (sgE32 w rs x1 x3 ms p r l en) e (YY H)):(CW MJ Un (hA w) false (bg (au NH) 31) (sgE w rs x1 x3 ms p r l en 0) e (YY H)):=by
 have UE:=(@ht)
 exact zx [] [.val (NG []),.zgg [10,11,12,13,15,20,28] e {t:=Zz,h:=H}] (.c (Ns (Γ':=Un) (@gN (zT w rs x1 x3 ms p r))) (.c UE .n))
theorem Fg{e:Int}(he:(e==0)=false):CW MJ Un (hA w) false (bg (au NH) 31) (sgE w rs x1 x3 ms p r l en e) (zar e) {t:=dgO,h:=paH w (X5 x1 ms x3) rs,m:=[]} :=
 SO (Xh rs) (s1:={t:=paT e,h:=paH w (X5 x1 ms x3) rs,m:=[]}) (by kernel_rfl) (.c (show ap (Us rs)=(zbn rs) from rfl) (.c (iqT 5 (.var w.l)) (.c (iqT 5 (.var (X5 x1 ms x3))) (.c (iqT 5 W6) (.c (iqT 5 (.var [ab (Us rs)])) (.c (iqT 5 Vr) .n))))))
  (qY (k:=31) (x:=134) he (by kernel_rfl) (by kernel_rfl) (by kernel_rfl) (by kernel_rfl) (by kernel_rfl) (by kernel_rfl) (by kernel_rfl) (by kernel_rfl))
noncomputable abbrev zU(w:T9)(rs:oF)(x1:bv)(x3:bv)(ms:Int)(mn:Int)(md:Int)(p:TO)(r:UW):aT:=(zb8 (Zi w) (X5 x1 ms x3) (ap (Us rs)) (Zc p) (Z6 r) (.var [SW mn,SW md]))
theorem B8
  (ht:CW MJ Un (hA w) false (bg (au NH) 34) (sgF34 w rs x1 x3 ms p r en mn md) e (YY H)):(CW MJ Un (hA w) false (bg (au NH) 33) (sgF w rs x1 x3 ms p r en mn md 0) e (YY H)):=by
 have UE:=(@ht)
 exact zx [] [.val (NG []),.zgg [10,11,12,13,15,28,29] e {t:=Zz,h:=H}] (.c (Ns (Γ':=Un) (@gN (zU w rs x1 x3 ms mn md p r))) (.c UE .n))
theorem Fh{e:Int}(he:(e==0)=false):CW MJ Un (hA w) false (bg (au NH) 33) (sgF w rs x1 x3 ms p r en mn md e) (zar e) {t:=dgO,h:=paH w (X5 x1 ms x3) rs,m:=[]} :=
 SO (Xh rs) (s1:={t:=paT e,h:=paH w (X5 x1 ms x3) rs,m:=[]}) (by kernel_rfl) (.c (show ap (Us rs)=(zbn rs) from rfl) (.c (iqT 5 (.var w.l)) (.c (iqT 5 (.var (X5 x1 ms x3))) (.c (iqT 5 W6) (.c (iqT 5 (.var [ab (Us rs)])) (.c (iqT 5 Vr) .n))))))
  (qY (k:=33) (x:=141) he (by kernel_rfl) (by kernel_rfl) (by kernel_rfl) (by kernel_rfl) (by kernel_rfl) (by kernel_rfl) (by kernel_rfl) (by kernel_rfl))
noncomputable abbrev zV(w:T9)(rs:oF)(x1:bv)(x3:bv)(ms:Int)(mn:Int)(md:Int)(p:TO)(r:UW):aT:=(zb8 (Zi w) (X5 x1 ms x3) (ap (Us rs)) (Zc p) (Z6 r) (.var [SW mn,SW md]))
theorem JE
  (ht:CW MJ Un (hA w) false (bg (au NH) 36) (sgG36 w rs x1 x3 ms p r en mn md c) e (YY H)):(CW MJ Un (hA w) false (bg (au NH) 35) (sgG w rs x1 x3 ms p r en mn md c 0) e (YY H)):=by
 have UE:=(@ht)
 exact zx [] [.val (NG []),.zgg [10,11,12,13,15,28,30] e {t:=Zz,h:=H}] (.c (Ns (Γ':=Un) (@gN (zV w rs x1 x3 ms mn md p r))) (.c UE .n))
theorem Fi{e:Int}(he:(e==0)=false):CW MJ Un (hA w) false (bg (au NH) 35) (sgG w rs x1 x3 ms p r en mn md c e) (zar e) {t:=dgO,h:=paH w (X5 x1 ms x3) rs,m:=[]} :=
 SO (Xh rs) (s1:={t:=paT e,h:=paH w (X5 x1 ms x3) rs,m:=[]}) (by kernel_rfl) (.c (show ap (Us rs)=(zbn rs) from rfl) (.c (iqT 5 (.var w.l)) (.c (iqT 5 (.var (X5 x1 ms x3))) (.c (iqT 5 W6) (.c (iqT 5 (.var [ab (Us rs)])) (.c (iqT 5 Vr) .n))))))
  (qY (k:=35) (x:=150) he (by kernel_rfl) (by kernel_rfl) (by kernel_rfl) (by kernel_rfl) (by kernel_rfl) (by kernel_rfl) (by kernel_rfl) (by kernel_rfl))
theorem Fj:au NH=.seq (.region (DK (cL (au NH))) (cC (cL (au NH))) false) (.seq (.region (DK (cL (cR (au NH)))) (cC (cL (cR (au NH)))) false) (cR (cR (au NH)))):=by kernel_rfl
theorem qZ:zhr.Ok MJ Un:=λ_ _ _ _ h=>by simp[zhr] at h
abbrev dg0T(w:T9)(st n T4 ST:Int):bY:=Ue 167 0 [(0,.agg w.l),(1,SW st),(2,SW n),(3,SW T4),(4,SW ST),Xr,ZQ,ZR,ZS,ZT]
abbrev za4:bY:=[.ref (.ptr 1 0),.ref (.ptr 2 0),.ref (.ptr 3 0),.ref (.ptr 4 0)]
abbrev dg1T(w:T9)(st n T4 ST:Int):bY:=Ue 167 0 [(0,.agg w.l),(1,SW st),(2,SW n),(3,SW T4),(4,SW ST),Xr,ZQ,ZR,ZS,ZT,(31,.fn (.func 20) [] za4)]
abbrev dgCa:bY:=za4
theorem JF{s':AS}(ν:CW MJ Un (hA w) false (cR (cR (au NH))) (sgA w st n T4 ST) e s'):
  zeG MJ Un (au NH) {t:=cM NH (WB w st n T4 ST),h:=[],m:=[]} e s' (some (20,dgCa)):=by
 rw[Fj]
 refine zeG.seq (s1:={t:=dg0T w st n T4 ST,h:=(sgA w st n T4 ST).h,m:=[]}) (λX=>VW.zdS (t':=dg0T w st n T4 ST) (h':=(sgA w st n T4 ST).h) (e:=.normal) qZ (by kernel_rfl) ⟨rfl,rfl⟩) ?_
 exact zeG.zmO (os:=(cC (cL (cR (au NH)))).toList.dropLast) (o:=Il (cC (cL (cR (au NH)))).toList) (fv:=.tmp 31) (args:=#[]) (ats:=#[]) (t1:=dg1T w st n T4 ST) (h1:=(sgA w st n T4 ST).h) (f:=20) (fi:=[]) (ca:=dgCa) UR qZ (by kernel_rfl) (by kernel_rfl) (by kernel_rfl) (by kernel_rfl) rfl (by kernel_rfl) (by kernel_rfl) (CW.pre [1,2,3,4,5,10,11,12,13] ν)
theorem JG:DfF.Ok MJ Un (fS MJ Un noW 100):=(uj UR (W:=noW) (λ_ _ _ _ h=>by simp[noW] at h) 100).2.2.2.2
noncomputable abbrev B9(e:Exit)(H:aT):Option CR:=qC MJ NH (fS MJ Un noW 100) 0 e {t:=dgO,h:=H,m:=[]} (some (20,dgCa))
theorem JH{rs:bv}:B9 .ret [.var w.l,.var (X5 x1 ms x3),.var [T6 b],.var [ab rs],.var [SW 0]]=some (.ret (.UI [.agg (X5 x1 ms x3),T6 b,ab rs,SW 0]) []):=by kernel_rfl
theorem JI{rs:bv}:B9 .ret (WI w (ab rs))=some (.ret (.UI [.agg [nq,SW 0,nq],T6 false,ab rs,SW 0]) []):=by kernel_rfl
abbrev zaB(a:Int):D:=(.UI [.agg [nq,SW 0,nq],T6 false,nq,SW a])
theorem HP{e:Int}:B9 (zar e) (paH w [nq,SW 0,nq] rs)=some (.ret (zaB e) []):=by kernel_rfl
theorem yz{e:Int}:B9 (zar e) (paH w (X5 x1 ms x3) rs)=some (.ret (zaB e) []):=by kernel_rfl
theorem mB{d:D}(hr:CW MJ Un (hA w) false (cR (cR (au NH))) (sgA w st n T4 ST) e (YY H))(he:B9 e H=some (.ret d [])):Ev MJ Un 7 (WB w st n T4 ST) [] d [] :=
 (zfQ.zjP (f:=7) (args:=(WB w st n T4 ST)) (dfn:=fS MJ Un noW 100) (h:=[]) (r:=.ret d []) (fn:=NH) (c:=au NH) UR rfl rfl JG (JF hr) he).call
abbrev caH(m1 m2:IM):aT:=[.var Db,imB m1,imB m2]
abbrev WZ:Nat×D:=(8,.ref (.mp 2))
abbrev zaL:Nat×D:=(7,.ref (.mp 1))
abbrev zdF(a:iF)(b:bv)(c d:Int)(e:aT):AS:={t:=Ue 135 0 [(VE 0 a),(1,ab b),(4,uK),(5,SW c),VM,zaL,WZ,(32,ab (a.map MQ)),(33,SW (a.map MQ).length),(34,SW d)],h:=e,m:=[]}
abbrev caS(l:iF)(rp:bv)(m1 m2:IM)(i:Int):AS :=
 (zdF l rp 0 i (caH m1 m2))
abbrev zd3:D:=(.ref (.mp 1))
abbrev WF:D:=zd3
theorem lk1(hb:h[1]? = some (imB m)):aM MJ h 232 WF (SW c) true=some (.UI (zaX m c)):=vt (kt:=3) (et:=3) (by kernel_rfl) (by kernel_rfl) (by kernel_rfl) hb
theorem lk2(hb:h[2]? = some (imB m)):aM MJ h 232 WG (SW c) true=some (.UI (zaX m c)):=vt (kt:=3) (et:=3) (by kernel_rfl) (by kernel_rfl) (by kernel_rfl) hb
theorem up1(hb:h[1]? = some (imB m)):aO MJ h 232 WF (SW c) (SW v)=some (h.set 1 (imB (bb m c v))):=vu (kt:=3) (et:=3) (by kernel_rfl) (by kernel_rfl) hb
theorem up2(hb:h[2]? = some (imB m)):aO MJ h 232 WG (SW c) (SW v)=some (h.set 2 (imB (bb m c v))):=vu (kt:=3) (et:=3) (by kernel_rfl) (by kernel_rfl) hb
def bU(r:Int)(o:If):Bool:=!(Zd (r>=0)&&Zd (r<=2))||(o.isSome&&(o.getD 0 != r))
def rep0(a b:Uj):Bool:=Zd (a.Uf>b.Uf)||(a.Uf==b.Uf&&Zd (a.T4<b.T4))
def rep1(a b:Uj):Bool:=Zd (a.T4>=b.T4)
def repB(r:Int)(a b:Uj):Bool:=if r=0 then rep0 a b else rep1 a b
def db(l:iF)(r:Int)(a:Uj)(o:If):Bool:=(r==0||r==1)&&(!o.isSome||repB r a (l.getD (MU (o.getD 0)) default))
def caF(l:iF)(i:Int)(r:Int)(a:Uj)(s:IM×IM):(IM×IM)⊕Unit:=match bU r (U4 s.1 a.T5) with
 | true=>.inr ()
 | false=>.inl (bb s.1 a.T5 r,match db l r a (U4 s.2 a.T5) with|true=>bb s.2 a.T5 i|false=>s.2)
abbrev caX:Unit->Exit×AS:=λ_=>(.ret,{t:=Ue 135 0 [(4,uK),(5,SW 1)],h:=[],m:=[]})
theorem zfa:db l 0 a o=(true&&(!Nk o||(Zd (a.Uf>(Nb l (MU (NQ o 0)) default).Uf)||(a.Uf==(Nb l (MU (NQ o 0)) default).Uf&&Zd (a.T4<(Nb l (MU (NQ o 0)) default).T4))))):=by simp[db,repB,rep0]
theorem zeZ:db l 1 a o=(true&&(!Nk o||Zd (a.T4>=(Nb l (MU (NQ o 0)) default).T4))):=by simp[db,repB,rep1]
theorem Ca:db l 2 a o=false:=by simp[db]
abbrev Zo:bY:=[T6 true,fq 207,T6 true,fq 208,T6 false,QB (Qy NT)]
abbrev XM(b:IM)(c:Uj)(d:Int):List (D×D×Nat):=(bK 0 (bb b c.T5 d))
abbrev zdG(b:IM)(c:Uj)(d:Int)(e:Nat)(f:IM):aT:=[.var Zo,.map (XM b c d) e,.map (bK 0 f) (MO f),.var (Zf c)]
noncomputable abbrev gG(m1:IM)(m2:IM)(a:Uj):aT:=(zdG m1 a 0 (MO (bb m1 a.T5 0)) m2)
abbrev zcu(b c:IM)(d:Uc):aT:=[.var Zo,.map (bK 0 b) (MO b),.map (bK 0 c) (MO c),d]
noncomputable abbrev fw(m1:IM)(m2:IM)(a:Uj):aT:=(zcu m1 m2 (.var (Zf a)))
abbrev ZM(b:IM)(c:Uj):D:=NG [SW (NQ (U4 b c.T5) 0),T6 (Nk (U4 b c.T5))]
abbrev YH(b:Uj):D:=(SW b.T5)
abbrev Xn(b:iF)(c:bv)(d:Nat)(e:Int)(f:Uj)(g h:IM):Exit×AS:=(ad (λs=>caS b c s.1 s.2 ((d+1:Nat):Int)) caX (caF b d e f (g,h)))
abbrev X3:BY:=[.st (.mask [0,1,4,5,6,7,8,32,33,34]),.st (.UN 3)]
abbrev Wo(b:IM)(c:Uj)(d:Int)(e:IM):aT:=(caH (bb b c.T5 d) e++[.var (MK QB (MQ c))])
abbrev Ws:AS:={t:=Ue 135 0 [(4,nq),(5,SW 1)],h:=[],m:=[]}
abbrev Ww(a:Nat):D:=(T6 (Zd (a>=0)&&Zd (a<=2)))
abbrev V5(a:IM):Uc:=(.map (bK 0 a) (MO a))
abbrev V9:BY:=[.st (.mask [4,5]),.st (.UN 0)]
abbrev zbG(b c:Uj):D:=(T6 (Zd (b.Uf>c.Uf)||b.Uf==c.Uf&&Zd (b.T4<c.T4)))
abbrev zcb(b:iF)(c:bv)(d:Nat)(e:IM)(f:Uj)(g:Int)(j:Nat)(k:List (D×D×Nat))(n:Nat):AS:={t:=Ue 135 0 [(Wq 0 b),(1,ab c),(4,nq),(5,SW 0),VM,zaL,WZ,(Wq 32 b),(33,(Xk b)),(34,(Zy d))],h:=[.var Zo,.map (XM e f g) j,.map k (n)],m:=[]}
abbrev zde(b:IM)(c:Uj)(d:Int):Uc:=(.map (XM b c d) (MO (bb b c.T5 d)))
abbrev zdn(c:Uj)(d:D)(e:Int)(f:Nat)(g h:IM)(i:D)(j:Uj)(k:D):BY:=[.b true,.row (MQ c),.ov 43 d,.row [vi e],.val (Ww f),.row [vi e],.b false,.row [vi e],.oh 10063 TC (Wo g c e h),.ov 74 i,.row [vi e],.row [vi e],.row (MQ j),.val k,.b false]
abbrev zd5(b:Uj):D:=(SW b.T5)
theorem ca_b0(hm:∀v,U4 m2 a.T5=some v->0<=v/\v<(l.length:Int))(hr:ax (i:Int) (l.map MQ) a.row 5)(hq:ax (i:Int) rp [vi 0] 1)(U8:Zd ((i:Int)<((l.map MQ).length:Int))=true)(hw:ML.wrap ((i:Int)+1)=((i+1:Nat):Int)):(CW MJ U2 [] false (sub PV 0) (caS l rp m1 m2 i) (ad (λs=>caS l rp s.1 s.2 ((i+1:Nat):Int)) caX (caF l i 0 a (m1,m2))).1 (ad (λs=>caS l rp s.1 s.2 ((i+1:Nat):Int)) caX (caF l i 0 a (m1,m2))).2):=by
 cases U5:!(Zd (0>=0)&&Zd (0<=2))||Nk (U4 m1 a.T5)&&NQ (U4 m1 a.T5) 0 != 0
 ·cases Uy:true&&(!Nk (U4 m2 a.T5)||(Zd (a.Uf>(Nb l (MU (NQ (U4 m2 a.T5) 0)) default).Uf)||a.Uf==(Nb l (MU (NQ (U4 m2 a.T5) 0)) default).Uf&&Zd (a.T4<(Nb l (MU (NQ (U4 m2 a.T5) 0)) default).T4)))
  ·let v0:=Nb l (MU (NQ (U4 m2 a.T5) 0)) default
   let v1:=NG [SW (NQ (U4 m1 a.T5) 0),T6 (Nk (U4 m1 a.T5))]
   let v2:=NG [SW (NQ (U4 m2 a.T5) 0),T6 (Nk (U4 m2 a.T5))]
   refine zX {t:=Ue 135 0 [(0,ab (MK MQ l)),(1,ab rp),(4,nq),(5,SW 0),(6,.ref (.ptr 0 0)),(7,.ref (.mp 1)),(8,.ref (.mp 2)),(32,ab (MK MQ l)),(33,SW (↑(MO (MK MQ l)):Int)),(34,SW (MN ML ((↑i:Int)+1)))],h:=[.var [T6 true,fq 207,T6 true,fq 208,T6 false,QB (Qy NT)],.map (bK 0 (bb m1 a.T5 0)) (MO (bb m1 a.T5 0)),.map (bK 0 m2) (MO m2)],m:=[]} M6 [.st (.mask [0,1,4,5,6,7,8,32,33,34]),.st (.UN 3)] [.b true,.row (MQ a),.ov 43 v1,.row [vi 0],.val (T6 (Zd (0>=0)&&Zd (0<=2))),.row [vi 0],.b false,.row [vi 0],.oh 10063 TC (caH (bb m1 a.T5 0) m2++[.var (MK QB (MQ a))]),.ov 74 v2,.row [vi 0],.row [vi 0],.row (MQ v0),.val (T6 (Zd (a.Uf>v0.Uf)||a.Uf==v0.Uf&&Zd (a.T4<v0.T4))),.b false] (.c U8 (.c hr (.c (show @Eq (oN) (aM MJ (fw m1 m2 a) 232 (.ref (.mp 1)) (SW a.T5) true) (some v1) from ?_) (.c hq (.c (@dt 0 0 2 (fw m1 m2 a)) (.c (show(!!(Zd (0>=0)&&Zd (0<=2))&&Nk (U4 m1 a.T5))=true->ax (↑i:Int) rp [vi 0] 1 from(λhg=>hq)) (.c U5 (.c hq (.c (show @Eq (Option (aT)) (aO MJ (fw m1 m2 a) 232 (.ref (.mp 1)) (SW a.T5) (SW 0)) (some (gG m1 m2 a)) from ?_) (.e (.ref (.ptr 3 0)) (.c (show @Eq (oN) (some (SW a.T5)) (some (SW a.T5)) from rfl) (.c (show @Eq (oN) (aM MJ (gG m1 m2 a) 232 (.ref (.mp 2)) (SW a.T5) true) (some v2) from ?_) (.c hq (.c (show UU 0 3=true from rfl) (.c (show(true&&!!Nk (U4 m2 a.T5))=true->ax (↑i:Int) rp [vi 0] 1 from(λhg=>hq)) (.c (show(true&&!!Nk (U4 m2 a.T5))=true->UU 0 3=true from(λhg=>rfl)) (.c (show(true&&!!Nk (U4 m2 a.T5))=true->ax (NQ (U4 m2 a.T5) 0) (MK MQ l) (MQ v0) 5 from(λhg=>?_)) (.c (gd (true&&!!Nk (U4 m2 a.T5)) (@C9 a v0 (gG m1 m2 a))) (.c Uy (.c (iqT 3 (.var [T6 true,fq 207,T6 true,fq 208,T6 false,QB (Qy NT)])) (.c (show MY 3 (.map (bK 0 (bb m1 a.T5 0)) (MO (bb m1 a.T5 0)))=true from ?_) (.c (show MY 3 (.map (bK 0 m2) (MO m2))=true from ?_) .n)))))))))))))))))))))) (by subst v0 v1 v2;first|(have h1:bU 0 (U4 m1 a.T5)=true:=U5;simp only[caF,h1,ad];first|done|rfl)|(have h1:bU 0 (U4 m1 a.T5)=false:=U5;have h2:db l 0 a (U4 m2 a.T5)=true:=zfa.trans Uy;simp only[caF,h1,h2,ad,hw];first|done|rfl)|(have h1:bU 0 (U4 m1 a.T5)=false:=U5;have h2:db l 0 a (U4 m2 a.T5)=false:=zfa.trans Uy;simp only[caF,h1,h2,ad];first|done|rfl)) (by subst v0 v1 v2;first|(have h1:bU 0 (U4 m1 a.T5)=true:=U5;simp only[caF,h1,ad];first|done|rfl)|(have h1:bU 0 (U4 m1 a.T5)=false:=U5;have h2:db l 0 a (U4 m2 a.T5)=true:=zfa.trans Uy;simp only[caF,h1,h2,ad,hw];first|done|rfl)|(have h1:bU 0 (U4 m1 a.T5)=false:=U5;have h2:db l 0 a (U4 m2 a.T5)=false:=zfa.trans Uy;simp only[caF,h1,h2,ad,hw];first|done|rfl))<;>subst v0 v1 v2<;>(first|assumption|rfl|exact lk1 rfl|exact lk2 rfl|exact up1 rfl|exact up2 rfl|exact iC|(refine bj (λ_=>rfl) ?_ ?_<;>(cases hz:U4 m2 a.T5<;>simp_all;done))|(simp_all;done))
  ·let v0:=Nb l (MU (NQ (U4 m2 a.T5) 0)) default
   let v1:=NG [SW (NQ (U4 m1 a.T5) 0),T6 (Nk (U4 m1 a.T5))]
   let v2:=NG [SW (NQ (U4 m2 a.T5) 0),T6 (Nk (U4 m2 a.T5))]
   let v3:=MO (bb m1 a.T5 0)
   refine zX {t:=Ue 135 0 [(0,ab (MK MQ l)),(1,ab rp),(4,nq),(5,SW 0),(6,.ref (.ptr 0 0)),(7,.ref (.mp 1)),(8,.ref (.mp 2)),(32,ab (MK MQ l)),(33,SW (↑(MO (MK MQ l)):Int)),(34,SW (MN ML ((↑i:Int)+1)))],h:=[.var [T6 true,fq 207,T6 true,fq 208,T6 false,QB (Qy NT)],.map (bK 0 (bb m1 a.T5 0)) v3,.map (bK 0 (bb m2 a.T5 (↑i:Int))) (MO (bb m2 a.T5 (↑i:Int)))],m:=[]} M6 [.st (.mask [0,1,4,5,6,7,8,32,33,34]),.st (.UN 3)] [.b true,.row (MQ a),.ov 43 v1,.row [vi 0],.val (T6 (Zd (0>=0)&&Zd (0<=2))),.row [vi 0],.b false,.row [vi 0],.oh 10063 TC (caH (bb m1 a.T5 0) m2++[.var (MK QB (MQ a))]),.ov 74 v2,.row [vi 0],.row [vi 0],.row (MQ v0),.val (T6 (Zd (a.Uf>v0.Uf)||a.Uf==v0.Uf&&Zd (a.T4<v0.T4))),.b true,.oh 10103 TC (caH (bb m1 a.T5 0) (bb m2 a.T5 (↑i:Int))++[.var (MK QB (MQ a))])] (.c U8 (.c hr (.c (show @Eq (oN) (aM MJ (fw m1 m2 a) 232 (.ref (.mp 1)) (SW a.T5) true) (some v1) from ?_) (.c hq (.c (@dt 0 0 2 (fw m1 m2 a)) (.c (show(!!(Zd (0>=0)&&Zd (0<=2))&&Nk (U4 m1 a.T5))=true->ax (↑i:Int) rp [vi 0] 1 from(λhg=>hq)) (.c U5 (.c hq (.c (show @Eq (Option (aT)) (aO MJ (fw m1 m2 a) 232 (.ref (.mp 1)) (SW a.T5) (SW 0)) (some (gG m1 m2 a)) from ?_) (.e (.ref (.ptr 3 0)) (.c (show @Eq (oN) (some (SW a.T5)) (some (SW a.T5)) from rfl) (.c (show @Eq (oN) (aM MJ (gG m1 m2 a) 232 (.ref (.mp 2)) (SW a.T5) true) (some v2) from ?_) (.c hq (.c (show UU 0 3=true from rfl) (.c (show(true&&!!Nk (U4 m2 a.T5))=true->ax (↑i:Int) rp [vi 0] 1 from(λhg=>hq)) (.c (show(true&&!!Nk (U4 m2 a.T5))=true->UU 0 3=true from(λhg=>rfl)) (.c (show(true&&!!Nk (U4 m2 a.T5))=true->ax (NQ (U4 m2 a.T5) 0) (MK MQ l) (MQ v0) 5 from(λhg=>?_)) (.c (gd (true&&!!Nk (U4 m2 a.T5)) (@C9 a v0 (gG m1 m2 a))) (.c Uy (.c (show @Eq (Option (aT)) (aO MJ (gG m1 m2 a) 232 (.ref (.mp 2)) (SW a.T5) (SW (↑i:Int))) (some [.var [T6 true,fq 207,T6 true,fq 208,T6 false,QB (Qy NT)],.map (bK 0 (bb m1 a.T5 0)) v3,.map (bK 0 (bb m2 a.T5 (↑i:Int))) (MO (bb m2 a.T5 (↑i:Int))),.var [SW a.T5,SW a.T4,SW a.Uf,SW a.UK,SW a.To]]) from ?_) (.c (iqT 3 (.var [T6 true,fq 207,T6 true,fq 208,T6 false,QB (Qy NT)])) (.c (show MY 3 (.map (bK 0 (bb m1 a.T5 0)) v3)=true from ?_) (.c (show MY 3 (.map (bK 0 (bb m2 a.T5 (↑i:Int))) (MO (bb m2 a.T5 (↑i:Int))))=true from ?_) .n))))))))))))))))))))))) (by subst v0 v1 v2 v3;first|(have h1:bU 0 (U4 m1 a.T5)=true:=U5;simp only[caF,h1,ad];first|done|rfl)|(have h1:bU 0 (U4 m1 a.T5)=false:=U5;have h2:db l 0 a (U4 m2 a.T5)=true:=zfa.trans Uy;simp only[caF,h1,h2,ad];first|done|rfl)|(have h1:bU 0 (U4 m1 a.T5)=false:=U5;have h2:db l 0 a (U4 m2 a.T5)=false:=zfa.trans Uy;simp only[caF,h1,h2,ad,hw];first|done|rfl)) (by subst v0 v1 v2 v3;first|(have h1:bU 0 (U4 m1 a.T5)=true:=U5;simp only[caF,h1,ad];first|done|rfl)|(have h1:bU 0 (U4 m1 a.T5)=false:=U5;have h2:db l 0 a (U4 m2 a.T5)=true:=zfa.trans Uy;simp only[caF,h1,h2,ad,hw];first|done|rfl)|(have h1:bU 0 (U4 m1 a.T5)=false:=U5;have h2:db l 0 a (U4 m2 a.T5)=false:=zfa.trans Uy;simp only[caF,h1,h2,ad,hw];first|done|rfl))<;>subst v0 v1 v2 v3<;>(first|assumption|rfl|exact lk1 rfl|exact lk2 rfl|exact up1 rfl|exact up2 rfl|exact iC|(refine bj (λ_=>rfl) ?_ ?_<;>(cases hz:U4 m2 a.T5<;>simp_all;done))|(simp_all;done))
 ·let v0:=NG [SW (NQ (U4 m1 a.T5) 0),T6 (Nk (U4 m1 a.T5))]
  refine zX {t:=Ue 135 0 [(4,nq),(5,SW 1)],h:=[],m:=[]} Oq [.st (.mask [4,5]),.st (.UN 0)] [.b true,.row (MQ a),.ov 43 v0,.row [vi 0],.val (T6 (Zd (0>=0)&&Zd (0<=2))),.row [vi 0],.b true] (.c U8 (.c hr (.c (show @Eq (oN) (aM MJ (fw m1 m2 a) 232 (.ref (.mp 1)) (SW a.T5) true) (some v0) from(by subst v0;first|assumption|rfl|exact lk1 rfl|exact lk2 rfl|exact up1 rfl|exact up2 rfl|exact iC|(refine bj (λ_=>rfl) ?_ ?_<;>(cases hz:U4 m2 a.T5<;>simp_all;done))|(simp_all;done))) (.c hq (.c (@dt 0 0 2 (fw m1 m2 a)) (.c (show(!!(Zd (0>=0)&&Zd (0<=2))&&Nk (U4 m1 a.T5))=true->ax (↑i:Int) rp [vi 0] 1 from(λhg=>hq)) (.c U5 .n))))))) ?_ ?_<;>subst v0<;>(first|(have h1:bU 0 (U4 m1 a.T5)=true:=U5;simp only[caF,h1,ad];first|done|rfl)|(have h1:bU 0 (U4 m1 a.T5)=false:=U5;have h2:db l 0 a (U4 m2 a.T5)=true:=zfa.trans Uy;simp only[caF,h1,h2,ad,hw];first|done|rfl)|(have h1:bU 0 (U4 m1 a.T5)=false:=U5;have h2:db l 0 a (U4 m2 a.T5)=false:=zfa.trans Uy;simp only[caF,h1,h2,ad,hw];first|done|rfl))
noncomputable abbrev gH(m1:IM)(m2:IM)(a:Uj):aT:=(zdG m1 a 1 (MO (bb m1 a.T5 1)) m2)
noncomputable abbrev fy(m1:IM)(m2:IM)(a:Uj):aT:=(zcu m1 m2 (.var (Zf a)))
theorem ca_b1(hm:∀v,U4 m2 a.T5=some v->0<=v/\v<(l.length:Int))(hr:ax (i:Int) (l.map MQ) a.row 5)(hq:ax (i:Int) rp [vi 1] 1)(U8:Zd ((i:Int)<((l.map MQ).length:Int))=true)(hw:ML.wrap ((i:Int)+1)=((i+1:Nat):Int)):(CW MJ U2 [] false (sub PV 0) (caS l rp m1 m2 i) (ad (λs=>caS l rp s.1 s.2 ((i+1:Nat):Int)) caX (caF l i 1 a (m1,m2))).1 (ad (λs=>caS l rp s.1 s.2 ((i+1:Nat):Int)) caX (caF l i 1 a (m1,m2))).2):=by
 cases U5:!(Zd (1>=0)&&Zd (1<=2))||Nk (U4 m1 a.T5)&&NQ (U4 m1 a.T5) 0 != 1
 ·cases Uy:true&&(!Nk (U4 m2 a.T5)||Zd (a.T4>=(Nb l (MU (NQ (U4 m2 a.T5) 0)) default).T4))
  ·let v0:=Nb l (MU (NQ (U4 m2 a.T5) 0)) default
   let v1:=NG [SW (NQ (U4 m1 a.T5) 0),T6 (Nk (U4 m1 a.T5))]
   let v2:=NG [SW (NQ (U4 m2 a.T5) 0),T6 (Nk (U4 m2 a.T5))]
   refine zX {t:=Ue 135 0 [(0,ab (MK MQ l)),(1,ab rp),(4,nq),(5,SW 0),(6,.ref (.ptr 0 0)),(7,.ref (.mp 1)),(8,.ref (.mp 2)),(32,ab (MK MQ l)),(33,SW (↑(MO (MK MQ l)):Int)),(34,SW (MN ML ((↑i:Int)+1)))],h:=[.var [T6 true,fq 207,T6 true,fq 208,T6 false,QB (Qy NT)],.map (bK 0 (bb m1 a.T5 1)) (MO (bb m1 a.T5 1)),.map (bK 0 m2) (MO m2)],m:=[]} M6 [.st (.mask [0,1,4,5,6,7,8,32,33,34]),.st (.UN 3)] [.b true,.row (MQ a),.ov 43 v1,.row [vi 1],.val (T6 (Zd (1>=0)&&Zd (1<=2))),.row [vi 1],.b false,.row [vi 1],.oh 10063 TC (caH (bb m1 a.T5 1) m2++[.var (MK QB (MQ a))]),.ov 74 v2,.row [vi 1],.row [vi 1],.row (MQ v0),.val (T6 (Zd (a.T4>=v0.T4))),.b false] (.c U8 (.c hr (.c (show @Eq (oN) (aM MJ (fy m1 m2 a) 232 (.ref (.mp 1)) (SW a.T5) true) (some v1) from ?_) (.c hq (.c (@dt 1 0 2 (fy m1 m2 a)) (.c (show(!!(Zd (1>=0)&&Zd (1<=2))&&Nk (U4 m1 a.T5))=true->ax (↑i:Int) rp [vi 1] 1 from(λhg=>hq)) (.c U5 (.c hq (.c (show @Eq (Option (aT)) (aO MJ (fy m1 m2 a) 232 (.ref (.mp 1)) (SW a.T5) (SW 1)) (some (gH m1 m2 a)) from ?_) (.e (.ref (.ptr 3 0)) (.c (show @Eq (oN) (some (SW a.T5)) (some (SW a.T5)) from rfl) (.c (show @Eq (oN) (aM MJ (gH m1 m2 a) 232 (.ref (.mp 2)) (SW a.T5) true) (some v2) from ?_) (.c hq (.c (show UU 1 3=true from rfl) (.c (show(true&&!!Nk (U4 m2 a.T5))=true->ax (↑i:Int) rp [vi 1] 1 from(λhg=>hq)) (.c (show(true&&!!Nk (U4 m2 a.T5))=true->UU 1 3=true from(λhg=>rfl)) (.c (show(true&&!!Nk (U4 m2 a.T5))=true->ax (NQ (U4 m2 a.T5) 0) (MK MQ l) (MQ v0) 5 from(λhg=>?_)) (.c (gd (true&&!!Nk (U4 m2 a.T5)) (@Da a v0 (gH m1 m2 a))) (.c Uy (.c (iqT 3 (.var [T6 true,fq 207,T6 true,fq 208,T6 false,QB (Qy NT)])) (.c (show MY 3 (.map (bK 0 (bb m1 a.T5 1)) (MO (bb m1 a.T5 1)))=true from ?_) (.c (show MY 3 (.map (bK 0 m2) (MO m2))=true from ?_) .n)))))))))))))))))))))) (by subst v0 v1 v2;first|(have h1:bU 1 (U4 m1 a.T5)=true:=U5;simp only[caF,h1,ad];first|done|rfl)|(have h1:bU 1 (U4 m1 a.T5)=false:=U5;have h2:db l 1 a (U4 m2 a.T5)=true:=zeZ.trans Uy;simp only[caF,h1,h2,ad,hw];first|done|rfl)|(have h1:bU 1 (U4 m1 a.T5)=false:=U5;have h2:db l 1 a (U4 m2 a.T5)=false:=zeZ.trans Uy;simp only[caF,h1,h2,ad];first|done|rfl)) (by subst v0 v1 v2;first|(have h1:bU 1 (U4 m1 a.T5)=true:=U5;simp only[caF,h1,ad];first|done|rfl)|(have h1:bU 1 (U4 m1 a.T5)=false:=U5;have h2:db l 1 a (U4 m2 a.T5)=true:=zeZ.trans Uy;simp only[caF,h1,h2,ad,hw];first|done|rfl)|(have h1:bU 1 (U4 m1 a.T5)=false:=U5;have h2:db l 1 a (U4 m2 a.T5)=false:=zeZ.trans Uy;simp only[caF,h1,h2,ad,hw];first|done|rfl))<;>subst v0 v1 v2<;>(first|assumption|rfl|exact lk1 rfl|exact lk2 rfl|exact up1 rfl|exact up2 rfl|exact iC|(refine bj (λ_=>rfl) ?_ ?_<;>(cases hz:U4 m2 a.T5<;>simp_all;done))|(simp_all;done))
  ·let v0:=Nb l (MU (NQ (U4 m2 a.T5) 0)) default
   let v1:=NG [SW (NQ (U4 m1 a.T5) 0),T6 (Nk (U4 m1 a.T5))]
   let v2:=NG [SW (NQ (U4 m2 a.T5) 0),T6 (Nk (U4 m2 a.T5))]
   let v3:=MO (bb m1 a.T5 1)
   refine zX {t:=Ue 135 0 [(0,ab (MK MQ l)),(1,ab rp),(4,nq),(5,SW 0),(6,.ref (.ptr 0 0)),(7,.ref (.mp 1)),(8,.ref (.mp 2)),(32,ab (MK MQ l)),(33,SW (↑(MO (MK MQ l)):Int)),(34,SW (MN ML ((↑i:Int)+1)))],h:=[.var [T6 true,fq 207,T6 true,fq 208,T6 false,QB (Qy NT)],.map (bK 0 (bb m1 a.T5 1)) v3,.map (bK 0 (bb m2 a.T5 (↑i:Int))) (MO (bb m2 a.T5 (↑i:Int)))],m:=[]} M6 [.st (.mask [0,1,4,5,6,7,8,32,33,34]),.st (.UN 3)] [.b true,.row (MQ a),.ov 43 v1,.row [vi 1],.val (T6 (Zd (1>=0)&&Zd (1<=2))),.row [vi 1],.b false,.row [vi 1],.oh 10063 TC (caH (bb m1 a.T5 1) m2++[.var (MK QB (MQ a))]),.ov 74 v2,.row [vi 1],.row [vi 1],.row (MQ v0),.val (T6 (Zd (a.T4>=v0.T4))),.b true,.oh 10103 TC (caH (bb m1 a.T5 1) (bb m2 a.T5 (↑i:Int))++[.var (MK QB (MQ a))])] (.c U8 (.c hr (.c (show @Eq (oN) (aM MJ (fy m1 m2 a) 232 (.ref (.mp 1)) (SW a.T5) true) (some v1) from ?_) (.c hq (.c (@dt 1 0 2 (fy m1 m2 a)) (.c (show(!!(Zd (1>=0)&&Zd (1<=2))&&Nk (U4 m1 a.T5))=true->ax (↑i:Int) rp [vi 1] 1 from(λhg=>hq)) (.c U5 (.c hq (.c (show @Eq (Option (aT)) (aO MJ (fy m1 m2 a) 232 (.ref (.mp 1)) (SW a.T5) (SW 1)) (some (gH m1 m2 a)) from ?_) (.e (.ref (.ptr 3 0)) (.c (show @Eq (oN) (some (SW a.T5)) (some (SW a.T5)) from rfl) (.c (show @Eq (oN) (aM MJ (gH m1 m2 a) 232 (.ref (.mp 2)) (SW a.T5) true) (some v2) from ?_) (.c hq (.c (show UU 1 3=true from rfl) (.c (show(true&&!!Nk (U4 m2 a.T5))=true->ax (↑i:Int) rp [vi 1] 1 from(λhg=>hq)) (.c (show(true&&!!Nk (U4 m2 a.T5))=true->UU 1 3=true from(λhg=>rfl)) (.c (show(true&&!!Nk (U4 m2 a.T5))=true->ax (NQ (U4 m2 a.T5) 0) (MK MQ l) (MQ v0) 5 from(λhg=>?_)) (.c (gd (true&&!!Nk (U4 m2 a.T5)) (@Da a v0 (gH m1 m2 a))) (.c Uy (.c (show @Eq (Option (aT)) (aO MJ (gH m1 m2 a) 232 (.ref (.mp 2)) (SW a.T5) (SW (↑i:Int))) (some [.var [T6 true,fq 207,T6 true,fq 208,T6 false,QB (Qy NT)],.map (bK 0 (bb m1 a.T5 1)) v3,.map (bK 0 (bb m2 a.T5 (↑i:Int))) (MO (bb m2 a.T5 (↑i:Int))),.var [SW a.T5,SW a.T4,SW a.Uf,SW a.UK,SW a.To]]) from ?_) (.c (iqT 3 (.var [T6 true,fq 207,T6 true,fq 208,T6 false,QB (Qy NT)])) (.c (show MY 3 (.map (bK 0 (bb m1 a.T5 1)) v3)=true from ?_) (.c (show MY 3 (.map (bK 0 (bb m2 a.T5 (↑i:Int))) (MO (bb m2 a.T5 (↑i:Int))))=true from ?_) .n))))))))))))))))))))))) (by subst v0 v1 v2 v3;first|(have h1:bU 1 (U4 m1 a.T5)=true:=U5;simp only[caF,h1,ad];first|done|rfl)|(have h1:bU 1 (U4 m1 a.T5)=false:=U5;have h2:db l 1 a (U4 m2 a.T5)=true:=zeZ.trans Uy;simp only[caF,h1,h2,ad];first|done|rfl)|(have h1:bU 1 (U4 m1 a.T5)=false:=U5;have h2:db l 1 a (U4 m2 a.T5)=false:=zeZ.trans Uy;simp only[caF,h1,h2,ad,hw];first|done|rfl)) (by subst v0 v1 v2 v3;first|(have h1:bU 1 (U4 m1 a.T5)=true:=U5;simp only[caF,h1,ad];first|done|rfl)|(have h1:bU 1 (U4 m1 a.T5)=false:=U5;have h2:db l 1 a (U4 m2 a.T5)=true:=zeZ.trans Uy;simp only[caF,h1,h2,ad,hw];first|done|rfl)|(have h1:bU 1 (U4 m1 a.T5)=false:=U5;have h2:db l 1 a (U4 m2 a.T5)=false:=zeZ.trans Uy;simp only[caF,h1,h2,ad,hw];first|done|rfl))<;>subst v0 v1 v2 v3<;>(first|assumption|rfl|exact lk1 rfl|exact lk2 rfl|exact up1 rfl|exact up2 rfl|exact iC|(refine bj (λ_=>rfl) ?_ ?_<;>(cases hz:U4 m2 a.T5<;>simp_all;done))|(simp_all;done))
 ·let v0:=NG [SW (NQ (U4 m1 a.T5) 0),T6 (Nk (U4 m1 a.T5))]
  refine zX {t:=Ue 135 0 [(4,nq),(5,SW 1)],h:=[],m:=[]} Oq [.st (.mask [4,5]),.st (.UN 0)] [.b true,.row (MQ a),.ov 43 v0,.row [vi 1],.val (T6 (Zd (1>=0)&&Zd (1<=2))),.row [vi 1],.b true] (.c U8 (.c hr (.c (show @Eq (oN) (aM MJ (fy m1 m2 a) 232 (.ref (.mp 1)) (SW a.T5) true) (some v0) from(by subst v0;first|assumption|rfl|exact lk1 rfl|exact lk2 rfl|exact up1 rfl|exact up2 rfl|exact iC|(refine bj (λ_=>rfl) ?_ ?_<;>(cases hz:U4 m2 a.T5<;>simp_all;done))|(simp_all;done))) (.c hq (.c (@dt 1 0 2 (fy m1 m2 a)) (.c (show(!!(Zd (1>=0)&&Zd (1<=2))&&Nk (U4 m1 a.T5))=true->ax (↑i:Int) rp [vi 1] 1 from(λhg=>hq)) (.c U5 .n))))))) ?_ ?_<;>subst v0<;>(first|(have h1:bU 1 (U4 m1 a.T5)=true:=U5;simp only[caF,h1,ad];first|done|rfl)|(have h1:bU 1 (U4 m1 a.T5)=false:=U5;have h2:db l 1 a (U4 m2 a.T5)=true:=zeZ.trans Uy;simp only[caF,h1,h2,ad,hw];first|done|rfl)|(have h1:bU 1 (U4 m1 a.T5)=false:=U5;have h2:db l 1 a (U4 m2 a.T5)=false:=zeZ.trans Uy;simp only[caF,h1,h2,ad,hw];first|done|rfl))
noncomputable abbrev kr(m1:IM)(m2:IM)(a:Uj):aT:=(zcu m1 m2 (.var (Zf a)))
theorem ca_b2(hr:ax (i:Int) (l.map MQ) a.row 5)(hq:ax (i:Int) rp [vi 2] 1)(U8:Zd ((i:Int)<((l.map MQ).length:Int))=true)(hw:ML.wrap ((i:Int)+1)=((i+1:Nat):Int)):(CW MJ U2 [] false (sub PV 0) (caS l rp m1 m2 i) (ad (λs=>caS l rp s.1 s.2 ((i+1:Nat):Int)) caX (caF l i 2 a (m1,m2))).1 (ad (λs=>caS l rp s.1 s.2 ((i+1:Nat):Int)) caX (caF l i 2 a (m1,m2))).2):=by
 cases U5:!(Zd (2>=0)&&Zd (2<=2))||Nk (U4 m1 a.T5)&&NQ (U4 m1 a.T5) 0 != 2
 ·let v1:=NG [SW (NQ (U4 m1 a.T5) 0),T6 (Nk (U4 m1 a.T5))]
  let v2:=NG [SW (NQ (U4 m2 a.T5) 0),T6 (Nk (U4 m2 a.T5))]
  let v3:=MO (bb m1 a.T5 2)
  let v0:aT:=[.var [T6 true,fq 207,T6 true,fq 208,T6 false,QB (Qy NT)],.map (bK 0 (bb m1 a.T5 2)) v3,.map (bK 0 m2) (MO m2),.var [SW a.T5,SW a.T4,SW a.Uf,SW a.UK,SW a.To]]
  refine zX {t:=Ue 135 0 [(0,ab (MK MQ l)),(1,ab rp),(4,nq),(5,SW 0),(6,.ref (.ptr 0 0)),(7,.ref (.mp 1)),(8,.ref (.mp 2)),(32,ab (MK MQ l)),(33,SW (↑(MO (MK MQ l)):Int)),(34,SW (MN ML ((↑i:Int)+1)))],h:=[.var [T6 true,fq 207,T6 true,fq 208,T6 false,QB (Qy NT)],.map (bK 0 (bb m1 a.T5 2)) v3,.map (bK 0 m2) (MO m2)],m:=[]} M6 [.st (.mask [0,1,4,5,6,7,8,32,33,34]),.st (.UN 3)] [.b true,.row (MQ a),.ov 43 v1,.row [vi 2],.val (T6 (Zd (2>=0)&&Zd (2<=2))),.row [vi 2],.b false,.row [vi 2],.oh 10063 TC (caH (bb m1 a.T5 2) m2++[.var (MK QB (MQ a))]),.ov 74 v2,.row [vi 2],.g false,.g false,.g false,.g false,.g false,.g false,.g false,.g false,.g false,.g false,.g false,.g false,.g false,.g false,.g false,.g false,.g false,.ov 102 (T6 false),.b false] (.c U8 (.c hr (.c (show @Eq (oN) (aM MJ (kr m1 m2 a) 232 (.ref (.mp 1)) (SW a.T5) true) (some v1) from ?_) (.c hq (.c (@dt 2 0 2 (kr m1 m2 a)) (.c (show(!!(Zd (2>=0)&&Zd (2<=2))&&Nk (U4 m1 a.T5))=true->ax (↑i:Int) rp [vi 2] 1 from(λhg=>hq)) (.c U5 (.c hq (.c (show @Eq (Option (aT)) (aO MJ (kr m1 m2 a) 232 (.ref (.mp 1)) (SW a.T5) (SW 2)) (some v0) from ?_) (.e (.ref (.ptr 3 0)) (.c (show @Eq (oN) (some (SW a.T5)) (some (SW a.T5)) from rfl) (.c (show @Eq (oN) (aM MJ v0 232 (.ref (.mp 2)) (SW a.T5) true) (some v2) from ?_) (.c hq (.c (show UU 2 3=true from rfl) (.f (.f (.f (.er false (.er false (.er false (.er false (.er false (.er false (.er false (.er false (.er false (.er false (.er false (.er false (.er false (.f (.c (pkf (QB (Qy (Value.tuple {toList:=[]}))) (T6 false) rfl) (.er false (.c (iqT 3 (.var [T6 true,fq 207,T6 true,fq 208,T6 false,QB (Qy NT)])) (.c (show MY 3 (.map (bK 0 (bb m1 a.T5 2)) v3)=true from ?_) (.c (show MY 3 (.map (bK 0 m2) (MO m2))=true from ?_) .n)))))))))))))))))))))))))))))))))))) (by subst v1 v2 v3 v0;first|(have h1:bU 2 (U4 m1 a.T5)=true:=U5;simp only[caF,h1,ad];first|done|rfl)|(have h1:bU 2 (U4 m1 a.T5)=false:=U5;have h2:db l 2 a (U4 m2 a.T5)=false:=Ca;simp only[caF,h1,h2,ad];first|done|rfl)) (by subst v1 v2 v3 v0;first|(have h1:bU 2 (U4 m1 a.T5)=true:=U5;simp only[caF,h1,ad];first|done|rfl)|(have h1:bU 2 (U4 m1 a.T5)=false:=U5;have h2:db l 2 a (U4 m2 a.T5)=false:=Ca;simp only[caF,h1,h2,ad,hw];first|done|rfl))<;>subst v1 v2 v3 v0<;>(first|assumption|rfl|exact lk1 rfl|exact lk2 rfl|exact up1 rfl|exact up2 rfl|exact iC|(refine bj (λ_=>rfl) ?_ ?_<;>(cases hz:U4 m2 a.T5<;>simp_all;done))|(simp_all;done))
 ·let v0:=NG [SW (NQ (U4 m1 a.T5) 0),T6 (Nk (U4 m1 a.T5))]
  refine zX {t:=Ue 135 0 [(4,nq),(5,SW 1)],h:=[],m:=[]} Oq [.st (.mask [4,5]),.st (.UN 0)] [.b true,.row (MQ a),.ov 43 v0,.row [vi 2],.val (T6 (Zd (2>=0)&&Zd (2<=2))),.row [vi 2],.b true] (.c U8 (.c hr (.c (show @Eq (oN) (aM MJ (kr m1 m2 a) 232 (.ref (.mp 1)) (SW a.T5) true) (some v0) from(by subst v0;first|assumption|rfl|exact lk1 rfl|exact lk2 rfl|exact up1 rfl|exact up2 rfl|exact iC|(refine bj (λ_=>rfl) ?_ ?_<;>(cases hz:U4 m2 a.T5<;>simp_all;done))|(simp_all;done))) (.c hq (.c (@dt 2 0 2 (kr m1 m2 a)) (.c (show(!!(Zd (2>=0)&&Zd (2<=2))&&Nk (U4 m1 a.T5))=true->ax (↑i:Int) rp [vi 2] 1 from(λhg=>hq)) (.c U5 .n))))))) ?_ ?_<;>subst v0<;>(first|(have h1:bU 2 (U4 m1 a.T5)=true:=U5;simp only[caF,h1,ad];first|done|rfl)|(have h1:bU 2 (U4 m1 a.T5)=false:=U5;have h2:db l 2 a (U4 m2 a.T5)=false:=Ca;simp only[caF,h1,h2,ad,hw];first|done|rfl))
noncomputable abbrev yA(m1:IM)(m2:IM)(a:Uj):aT:=(zcu m1 m2 (.var (Zf a)))
theorem ca_bX{r:Int}(hx:(!(Zd (r>=0)&&Zd (r<=2))||Nk (U4 m1 a.T5)&&NQ (U4 m1 a.T5) 0 != r)=true)(hr:ax (i:Int) (l.map MQ) a.row 5)(hq:ax (i:Int) rp [vi r] 1)(U8:Zd ((i:Int)<((l.map MQ).length:Int))=true)(_:ML.wrap ((i:Int)+1)=((i+1:Nat):Int)):(CW MJ U2 [] false (sub PV 0) (caS l rp m1 m2 i) (ad (λs=>caS l rp s.1 s.2 ((i+1:Nat):Int)) caX (caF l i r a (m1,m2))).1 (ad (λs=>caS l rp s.1 s.2 ((i+1:Nat):Int)) caX (caF l i r a (m1,m2))).2):=by
 let v0:=NG [SW (NQ (U4 m1 a.T5) 0),T6 (Nk (U4 m1 a.T5))]
 exact zX {t:=Ue 135 0 [(4,nq),(5,SW 1)],h:=[],m:=[]} Oq [.st (.mask [4,5]),.st (.UN 0)] [.b true,.row (MQ a),.ov 43 v0,.row [vi r],.val (T6 (Zd (r>=0)&&Zd (r<=2))),.row [vi r],.b true] (.c U8 (.c hr (.c (show @Eq (oN) (aM MJ (yA m1 m2 a) 232 (.ref (.mp 1)) (SW a.T5) true) (some v0) from(by subst v0;first|assumption|rfl|exact lk1 rfl|exact lk2 rfl|exact up1 rfl|exact up2 rfl|exact iC|(refine bj (λ_=>rfl) ?_ ?_<;>(cases hz:U4 m2 a.T5<;>simp_all;done))|(simp_all;done))) (.c hq (.c (@dt r 0 2 (yA m1 m2 a)) (.c (show(!!(Zd (r>=0)&&Zd (r<=2))&&Nk (U4 m1 a.T5))=true->ax (↑i:Int) rp [vi r] 1 from(λhg=>hq)) (.c hx .n))))))) (by subst v0;(have h1:bU r (U4 m1 a.T5)=true:=hx);simp only[caF,h1,ad];first|done|rfl) (by subst v0;(have h1:bU r (U4 m1 a.T5)=true:=hx);simp only[caF,h1,ad];first|done|rfl)<;>subst v0
end Go.Vi
