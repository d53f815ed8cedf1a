/- RecordSituateSpecUpto: part of the proof: an evaluator of the model's programs on abstract values, and its soundness. No conditions beyond the given statement's own. -/
import Derived.Test.YtilebidefogaiaaGreatDoorV3
import Derived.RecoverIn
open Decidable renaming decide → Zd
open List renaming mem_map → HQ, mem_filter → J6, mk_mem_zipIdx_iff_getElem? → IY, range → Iy, any_eq_true → Mg, getD_eq_getElem?_getD → HW, getElem?_eq_none → IT, countP_cons → KX, mem_cons → HR, set_eq_of_length_le → KO, getElem?_map → IQ, getElem?_append_right → Ib, getElem?_cons_zero → HZ, getElem?_eq_some_iff → Hs, getElem?_append_left → HK, mem_append → Jg, pairwise_append → LB, mem_cons_self → IE, pairwise_cons → Ke, getElem?_eq_getElem → HH, getElem?_set_ne → J9, mem_cons_of_mem → Iu, map_cons → Il, filter_eq_nil_iff → Lp, mem_iff_getElem? → Jf, all_eq_true → HU, map_id → JC
open Bool renaming and_eq_true → Hx, not_eq_true' → IU, eq_false_iff → JY, eq_iff_iff → JJ, false_eq_true → Ik, not_true → Ka, false_or → KM
open Array renaming getD_eq_getD_getElem? → Im, toList_setIfInBounds → Kw, getElem?_eq_getElem → Iw, all_eq_true_iff_forall_mem → Kg, replicate → Mh
open Option.some renaming injEq → Ho
open Prod.mk renaming injEq → Hu
open Nat renaming le_of_not_lt → JW, le_refl → HS, sub_self → KU
open Option renaming map_eq_some_iff → Hy, getD_some → Jm, map_some → H9
open Go.Vi.Blk renaming Om → HB, defd → Mi
open Classical renaming byContradiction → IP
open Go.Vi.DefOk renaming mono → Lg
open Go.Region renaming binds → IL, wanted → I9, ready → K5
open Go.Vi.CallF renaming Ok → L4
open Go.Oper renaming semAt_eq → LQ
open Go.Deferred renaming ofValue → JK
open Go.Sem renaming run_bind → HM, run_pure → H3
open Go.Result renaming andThen_ok → HE
namespace Go.Vi
open Go
def Wk(d d':D):Prop:=∀w av l h y,Rel w av l h d y→Rel w av l h d' y
theorem Wk.refl(d:D):Wk d d:=fun _ _ _ _ _ r=>r
structure FixOk (f:D→D):Prop where
 any:f .any=.any
 pure:∀x,f (.p x)=.p x
 both:∀d,Wk d (f d)∧Wk (f d) d
 gd:∀want b v,guardV want (f (.grd b (.p (.v (.bool v)))))=guardV want (.grd b (.p (.v (.bool v))))
theorem FixOk.id:FixOk id:=⟨rfl,fun _=>rfl,fun d=>⟨Wk.refl d,Wk.refl d⟩,fun _ _ _=>rfl⟩
def fixD:D→D
 | .grd true d=>d
 | d=>d
theorem FixOk.fixD:FixOk fixD:=⟨rfl,fun _=>rfl,fun d=>by
 unfold Vi.fixD
 split
 ·exact⟨fun w av l h y r=>by simpa[Rel] using r,fun w av l h y r=>by simpa[Rel] using r⟩
 ·exact⟨Wk.refl _,Wk.refl _⟩,fun want b v=>by cases b<;>simp[Vi.fixD,guardV]⟩
def fA(L:List Oper):List Nat:=(L.zipIdx.filter fun p=>!quietOp p.1.op).map (·.2)
def sA(L:List Oper)(B:List Nat)(i k:Nat):Bool:=(fA L).all fun c=>if c<k then !(B.getD c 0).testBit i else !(B.getD i 0).testBit c
def A7(L:List Oper):List Nat:=0::(fA L).map (· + 1)
theorem vW{L:List Oper}{c:Nat}{o:Oper}(ho:L[c]? = some o)(hq:quietOp o.op=false):c∈fA L:=by
 unfold fA
 rw[HQ]
 exact⟨(o,c),by rw[J6,IY];exact⟨ho,by simp[hq]⟩,rfl⟩
theorem hC{L:List Oper}{c:Nat}(h:c∈fA L):∃o,L[c]? = some o∧quietOp o.op=false:=by
 unfold fA at h
 rw[HQ] at h
 obtain⟨⟨o,i⟩,h1,rfl⟩:=h
 rw[J6,IY] at h1
 exact⟨o,h1.1,by simpa using h1.2⟩
def xG(P:Program)(Γ:aw)(L:List Oper)(B:List Nat)(tF:List D)(hs:List (List Blk))(ts:List (List D)):Prop :=
 ∀(i:Nat) (o:Oper),L[i]? = some o→quietOp o.op=true→(∃f,FixOk f∧aV L ((ts.getD i []).map f) o.guard=some true)→∀k∈A7 L,sA L B i k=true →
  ∃f d h',FixOk f∧opSem P Γ ((ts.getD i []).map f) (hs.getD k []) o.op=some (true,d,h')∧∀x,o.dst=some x→Wk d (tF.getD x .any)
def sB(L:List Oper)(S:Array Bool)(x:Tmp):Bool:=L.zipIdx.any fun q=>q.1.dst==some x&&!S.getD q.2 false
def gq(L:List Oper)(S:Array Bool)(t0 tF:List D):List D:=(Iy tF.length).map fun x=>if sB L S x then t0.getD x .any else tF.getD x .any
theorem dy{L:List Oper}{S:Array Bool}{x:Tmp}:sB L S x=true ↔ ∃k o,L[k]? = some o∧o.dst=some x∧S.getD k false=false:=by
 unfold sB
 rw[Mg]
 constructor
 ·rintro⟨⟨o,k⟩,h1,h2⟩
  rw[IY] at h1
  simp only[Hx,beq_iff_eq,IU] at h2
  exact⟨k,o,h1,h2.1,h2.2⟩
 ·rintro⟨k,o,h1,h2,h3⟩
  exact⟨(o,k),by rw[IY];exact h1,by simp[h2,h3]⟩
theorem aI(L:List Oper)(S:Array Bool)(t0 tF:List D):(gq L S t0 tF).length=tF.length:=by simp[gq]
theorem fV{L:List Oper}{S:Array Bool}{t0 tF:List D}{x:Nat}(hx:x<tF.length):(gq L S t0 tF).getD x .any=if sB L S x then t0.getD x .any else tF.getD x .any:=by
 simp[gq,HW,hx]
theorem br{a b:List D}(hl:a.length=b.length)(h:∀x,x<a.length→a.getD x .any=b.getD x .any):a=b:=by
 apply List.ext_getElem hl
 intro i h1 h2
 have:=h i h1
 simpa[HW,h1,h2] using this
section
variable {L:List Oper} {S:Array Bool} {t0 tF:List D}
theorem df{x:Nat}(hx:∀k o,L[k]? = some o→o.dst=some x→S.getD k false=true):(gq L S t0 tF).getD x .any=tF.getD x .any:=by
 by_cases iF:x<tF.length
 ·rw[fV iF]
  have:sB L S x=false:=by
   rw[JY]
   intro hp
   obtain⟨k,o,h1,h2,h3⟩:=dy.1 hp
   rw[hx k o h1 h2] at h3
   cases h3
  simp[this]
 ·rw[HW,HW,IT (by rw[aI];omega),IT (by omega)]
theorem ui{x k:Nat}{o:Oper}(hl:tF.length=t0.length)(hk:L[k]? = some o)(hd:o.dst=some x)(hS:S.getD k false=false):(gq L S t0 tF).getD x .any=t0.getD x .any:=by
 by_cases iF:x<tF.length
 ·rw[fV iF,if_pos (dy.2 ⟨k,o,hk,hd,hS⟩)]
 ·rw[HW,HW,IT (by rw[aI];omega),IT (by omega)]
theorem oC{i:Nat}{o:Oper}{d:D}(ho:L[i]? = some o)(hi:i<S.size)(hu:∀k o',L[k]? = some o'→∀x,o.dst=some x→o'.dst=some x→k=i)
  (hd:∀x,o.dst=some x→x<tF.length→tF.getD x .any=d):putD (gq L S t0 tF) o.dst d=gq L (S.setIfInBounds i true) t0 tF:=by
 have Qs:∀k,(S.setIfInBounds i true).getD k false=if k=i then true else S.getD k false:=by
  intro k
  by_cases hk:k=i
  ·subst hk
   simp[Im,hi]
  ·simp[Im,hk,Ne.symm hk]
 refine br (by rw[bd,aI,aI]) fun x hx=>?_
 rw[bd,aI] at hx
 by_cases Qe:o.dst=some x
 ·rw[Qe,dR (by rw[aI];exact hx),df,hd x Qe hx]
  intro k o' hk Rj
  have:=hu k o' hk x Qe Rj
  rw[Qs,if_pos this]
 ·rw[cq Qe,fV hx,fV hx]
  have:sB L S x=sB L (S.setIfInBounds i true) x:=by
   rw[JJ,dy,dy]
   constructor
   ·rintro⟨k,o',h1,h2,h3⟩
    refine⟨k,o',h1,h2,?_⟩
    rw[Qs]
    split
    ·rename_i hk
     subst hk
     rw[ho] at h1
     cases h1
     exact absurd h2 Qe
    ·exact h3
   ·rintro⟨k,o',h1,h2,h3⟩
    refine⟨k,o',h1,h2,?_⟩
    rw[Qs] at h3
    split at h3
    ·cases h3
    ·exact h3
  rw[this]
end
theorem kN{α:Type}{p q:α→Bool}:∀{l:List α},(∀x,q x=true→p x=true)→∀x0∈l,p x0=true→q x0=false→l.countP q<l.countP p
 | [],_,_,hm,_,_=>by cases hm
 | a::l,h,x0,hm,hp,hq=>by
  have hle:l.countP q≤l.countP p:=by
   clear hm
   induction l with
   | nil=>simp
   | cons b l ih =>
    rw[KX,KX]
    cases hqb:q b
    ·simp;omega
    ·simp[h b hqb];omega
  rw[KX,KX]
  rcases HR.1 hm with rfl|hm
  ·simp[hp,hq];omega
  ·have:=kN h x0 hm hp hq
   cases hqa:q a
   ·simp;omega
   ·simp[h a hqa];omega
theorem c5{D0:List Deferred}{l:Loc}{h:List Blk}:∀{bs:List Nat} {ds:List Deferred},DefOk D0 l h bs ds→aA h bs=true
 | [],_,_=>rfl
 | b::bs,[],r=>by simp[DefOk] at r
 | b::bs,d::ds,r=>by
  simp only[DefOk] at r
  obtain⟨⟨bV,cp,h1,_⟩,h2⟩:=r
  have:=c5 h2
  simp only[aA,List.all_cons,Hx]
  exact⟨by rw[h1],this⟩
theorem St.marks{Γ:aw}{X:Ctx}{s:AS}{a:Act}{w:World}(hs:St Γ X s a w):aA s.h s.m=true:=by
 obtain⟨l,_,_,_,rd⟩:=hs
 exact c5 rd
section
variable {P:Program} {Γ:aw} {X:Ctx} {r:Option Nat} {call:CallF} {ops:Array Oper} {m:List Nat} {t0 tF:List D} {hs:List (List Blk)} {ts:List (List D)} {Q:Exit→AS→Prop}
def Lst(S:Array Bool)(j:Nat):Prop:=S.getD j false=true
theorem oD{S:Array Bool}{i j:Nat}(hi:i<S.size):Lst (S.setIfInBounds i true) j ↔ j=i∨Lst S j:=by
 unfold Lst
 by_cases hk:j=i
 ·subst hk
  simp[Im,hi]
 ·simp[Im,hk,Ne.symm hk]
theorem kO{t:List D}{h h':List Blk}{L:List Oper}{o:Oper}{d:D}(hq:quietOp o.op=true)(N8:dm P Γ call m L t h o=some (d,h')):h'=h:=by
 unfold dm at N8
 split at N8
 ·split at N8
  ·rename_i d1 h1 Oe
   split at N8
   ·simp only[Ho,Hu] at N8
    obtain⟨rfl,rfl⟩:=N8
    unfold fu at Oe
    split at Oe
    ·rename_i hc;rw[hc] at hq;simp[quietOp] at hq
    ·split at Oe
     ·rename_i hx
      simp only[Ho,Hu] at Oe
      obtain⟨rfl,rfl⟩:=Oe
      exact bJ hq hx
     ·simp at Oe
   ·simp at N8
  ·simp at N8
 ·simp only[Ho,Hu] at N8
  exact N8.2.symm
 ·simp at N8
theorem xH{w:World}{av:Nat→Prop}{l:Loc}{h:List Blk}:∀{t t':List D} {ys:List Value},t'.length=t.length→(∀x,Wk (t.getD x .any) (t'.getD x .any))→RelL w av l h t ys→RelL w av l h t' ys
 | [],[],ys,_,_,r=>r
 | [],_::_,_,hl,_,_=>by simp at hl
 | _::_,[],_,hl,_,_=>by simp at hl
 | a::t,b::t',ys,hl,hw,r=>by
  cases ys with
  | nil=>simp[RelL] at r
  | cons y ys =>
   simp only[RelL] at r ⊢
   exact⟨hw 0 _ _ _ _ _ r.1,xH (by simpa using hl) (fun x=>by simpa using hw (x+1)) r.2⟩
theorem St.wk{s:AS}{t':List D}(hl:t'.length=s.t.length)(hw:∀x,Wk (s.t.getD x .any) (t'.getD x .any)){a:Act}{w:World}(hs:St Γ X s a w):St Γ X {t:=t',h:=s.h,m:=s.m} a w:=by
 obtain⟨l,R,E,rt,rd⟩:=hs
 exact⟨l,R,E,xH hl hw rt,rd⟩
theorem DP{t:List D}{dst:Option Tmp}{d d':D}(hw:∀x,dst=some x→x<t.length→Wk d d')(x:Nat):Wk ((putD t dst d).getD x .any) ((putD t dst d').getD x .any):=by
 cases dst with
 | none=>exact Wk.refl _
 | some y =>
  by_cases hy:y<t.length
  ·by_cases hx:y=x
   ·subst hx
    rw[dR hy,dR hy]
    exact hw y rfl hy
   ·rw[cq (by simpa using hx),cq (by simpa using hx)]
    exact Wk.refl _
  ·have:∀e,t.set y e=t:=fun e=>KO (JW hy)
   simp only[putD,this]
   exact Wk.refl _
theorem St.put_wk{t:List D}{h:List Blk}{dst:Option Tmp}{d d':D}(hw:∀x,dst=some x→x<t.length→Wk d d'){a:Act}{w:World}(hs:St Γ X {t:=putD t dst d,h:=h,m:=m} a w):St Γ X {t:=putD t dst d',h:=h,m:=m} a w :=
 hs.wk (by simp[bd]) (DP hw)
theorem bi{f:D→D}(hf:f .any=.any)(t:List D)(x:Nat):(t.map f).getD x .any=f (t.getD x .any):=by
 simp only[HW,IQ]
 cases t[x]? with
 | none=>simp[hf]
 | some d=>rfl
theorem St.fix{s:AS}{f:D→D}(hf:FixOk f){a:Act}{w:World}(hs:St Γ X s a w):St Γ X {t:=s.t.map f,h:=s.h,m:=s.m} a w :=
 hs.wk (by simp) fun x=>by rw[bi hf.any];exact(hf.both _).1
theorem St.unfix{t:List D}{h:List Blk}{f:D→D}(hf:FixOk f){dst:Option Tmp}{d d':D}(hw:Wk d d'){a:Act}{w:World}(hs:St Γ X {t:=putD (t.map f) dst d,h:=h,m:=m} a w):St Γ X {t:=putD t dst d',h:=h,m:=m} a w:=by
 have h1:=St.put_wk (dst:=dst) (d:=d) (d':=d') (fun _ _ _=>hw) hs
 refine h1.wk (by simp[bd]) fun x=>?_
 show Wk ((putD (t.map f) dst d').getD x .any) _
 cases dst with
 | none =>
  simp only[putD]
  rw[bi hf.any]
  exact(hf.both _).2
 | some y =>
  by_cases hx:y=x
  ·subst hx
   by_cases hy:y<t.length
   ·rw[dR hy,dR (by simpa using hy)]
    exact Wk.refl _
   ·simp only[putD]
    rw[KO (by simpa using JW hy),KO (JW hy),bi hf.any]
    exact(hf.both _).2
  ·rw[cq (by simpa using hx),cq (by simpa using hx),bi hf.any]
   exact(hf.both _).2
end
def hG(x:Blk)(n:Nat):Ref:=match x with
 | .vec _ e _=>.vec n e
 | _=>.ptr n 0
def VR(x:Blk)(p:Option (Nat×Nat))(v:Value):Prop:=v.oneCell'=true∧match x with
 | .var _=>∃bV cp,p=some (bV,cp)∧v=.pointer (some ⟨bV,0,none⟩)
 | .vec es _ _=>ml p es.length v
 | _=>False
def freeOp:Op→Bool
 | .alloc _ | .buildSlice .. | .makeSlice ..=>true
 | _=>false
section
variable {P:Program} {Γ:aw} {O:Nat→Prop} {w w':World} {l l':Loc} {h h':List Blk} {x:Blk}
theorem qj{p:Option (Nat×Nat)}{v:Value}(hv:VR x p v):RefRel (l.upd h.length p) (h++[x]) (hG x h.length) v:=by
 obtain⟨h1,h2⟩:=hv
 have hs:(l.upd h.length p) h.length=p:=by simp[Loc.upd]
 refine⟨h1,?_⟩
 cases x<;>simp only at h2
 ·simp only[hG,Ib (HS _),KU,HZ,hs]
  exact h2
 ·simp only[hG,Ib (HS _),KU,HZ,hs]
  exact⟨HS _,fun _=>h2⟩
theorem qk{v:Value}(hp:x.plain=true)(hv:RefRel l (h++[x]) (hG x h.length) v):VR x (l h.length) v:=by
 obtain⟨h1,h2⟩:=hv
 refine⟨h1,?_⟩
 cases x<;>simp only[Blk.plain,Ik] at hp
 ·simpa only [hG,Ib (HS _),KU,HZ] using h2
 ·simp only[hG,Ib (HS _),KU,HZ] at h2
  simpa using h2
theorem A8{t:List D}{o:Op}{d:D}{h1:List Blk}(hf:freeOp o=true)(hd:opSem P Γ t h o=some (true,d,h1)):
  ∃x,x.plain=true∧true=true∧d=.ref (hG x h.length)∧h1=h++[x]∧∀h',opSem P Γ t h' o=some (true,.ref (hG x h'.length),h'++[x]):=by
 cases o<;>simp only[freeOp,Ik] at hf
 ·rename_i e
  simp only[opSem,Hy,mR,Hu] at hd
  obtain⟨cs,h2,_,rfl,rfl⟩:=hd
  exact⟨.var cs,rfl,rfl,rfl,rfl,fun h'=>by simp[opSem,h2,mR,hG]⟩
 ·rename_i ty n ps
  simp only[opSem,Hy,Hu] at hd
  obtain⟨⟨d',h2⟩,hb,_,rfl,rfl⟩:=hd
  unfold dK at hb
  split at hb
  ·rename_i e he
   split at hb
   ·rename_i sz z Qv hz
    split at hb
    ·rename_i hc
     split at hb
     ·rename_i cs Sn
      simp only[Ho,Hu] at hb
      obtain⟨rfl,rfl⟩:=hb
      exact⟨.vec (chunk sz n cs) 0 sz,rfl,rfl,rfl,rfl,fun h'=>by simp[opSem,dK,he,Qv,hz,hc,Sn,hG]⟩
     ·simp at hb
    ·simp at hb
   ·simp at hb
  ·simp at hb
 ·rename_i ty n c
  simp only[opSem,xq] at hd
  split at hd
  ·rename_i e k1 n1 k2 c1 he hn hc
   split at hd
   ·rename_i sz Ru z Qv hby hz
    split at hd
    ·rename_i hl
     simp only[Ho,Hu] at hd
     obtain⟨hb,rfl,rfl⟩:=hd
     exact⟨.vec (List.replicate n1.toNat z) 0 sz,rfl,rfl,rfl,rfl,fun h'=>by simp only[opSem,xq,he,hn,hc,Qv,hby,hz,hl,if_true,hb,hG]⟩
    ·simp at hd
   ·simp at hd
  ·simp at hd
theorem xI(R:Rep Γ O w l h){t:List D}{a:Act}(ht:RelL w (avs O l h) l h t a.tmps.toList){o:Oper}(hp:x.plain=true)
  (hd:opSem P Γ t h o.op=some (true,.ref (hG x h.length),h++[x])) (hi:h.all (HB h.length)=true) (hx:x.Om h.length=true) :
  ∃v w' l' p,(execOp a.eval o).run P w=.ok (.value v) w'∧Rep Γ (pI O p) w' l' h∧Ext w l h w' l' h∧Pd w' (avs (pI O p) l' h) l' h x p∧VR x p v ∧
   (∀k c,p=some (k,c)→w.heap.size≤k∧¬O k):=by
 obtain⟨nx,v,w',l',h1,h2,R',E',rd⟩:=gy R ht hd
 obtain⟨R2,hP⟩:=R'.hide hp hi hx
 have E2:=E'.take
 rw[show(h++[x]).take h.length=h by simp] at E2
 have hv:VR x (l' h.length) v:=qk hp (by simpa[Rel] using rd)
 have hnx:nx=.value v:=by
  rcases h2 with h2|⟨_,h2⟩
  ·exact h2
  ·exfalso
   obtain⟨hv1,hv2⟩:=hv
   rw[h2] at hv2
   cases x<;>simp only[Blk.plain,Ik] at hp
   ·obtain⟨_,_,_,h3⟩:=hv2
    simp[undef] at h3
   ·simp only at hv2
    unfold ml at hv2
    split at hv2<;>simp[undef] at hv2
 rw[hnx] at h1
 refine⟨v,w',l',l' h.length,h1,R2,E2,hP,hv,fun k c hk=>?_⟩
 have Sh:own l' (h++[x]) k:=gY.2 (.inr ⟨gZ hp,c,hk⟩)
 refine⟨?_,(R'.Ov k Sh).2⟩
 rcases E'.news k Sh with ⟨b,y,c',g1,g2,g3⟩|h3
 ·exfalso
  have iF:=(Hs.1 g1).1
  obtain⟨x',k1,k2,k3⟩:=E'.N0 b y g1
  rw[HK iF,g1] at k1
  cases k1
  have hs:y.stays y:=by cases y<;>simp_all[Blk.stays]
  have:=R'.inj b h.length y x k c' c (by rw[HK iF,g1]) g2 (by simp) (gZ hp) (by rw[k3 hs,g3]) hk
  omega
 ·exact h3
end
section
variable {w:World} {av:Nat→Prop} {l:Loc} {h:List Blk}
theorem iP:∀{t:List D} {ys:List Value},t.length=ys.length→(∀x y,ys[x]? = some y→Rel w av l h (t.getD x .any) y)→RelL w av l h t ys
 | [],[],_,_=>by simp[RelL]
 | [],_::_,hl,_=>by simp at hl
 | _::_,[],hl,_=>by simp at hl
 | d::t,y::ys,hl,hp=>by
  simp only[RelL]
  refine⟨by simpa using hp 0 y (by simp),iP (by simpa using hl) fun x z hz=>?_⟩
  simpa using hp (x+1) z (by simpa using hz)
theorem xJ{t:List D}{ys:List Value}(r:RelL w av l h t ys){x:Nat}{y:Value}(hy:ys[x]? = some y):Rel w av l h (t.getD x .any) y:=by
 rcases relL_get x t ys r with ⟨z,h1,h2⟩|⟨h1,_⟩
 ·rw[hy] at h1;cases h1;exact h2
 ·rw[hy] at h1;cases h1
end
def xg(L:List Oper)(pl:List Nat)(x:Tmp):Bool:=pl.any fun i=>(match L[i]? with|some o=>o.dst==some x|none=>false)
def j2(L:List Oper)(S:Array Bool)(pl:List Nat)(t0 tF:List D):List D:=(Iy tF.length).map fun x=>if xg L pl x then .any else (gq L S t0 tF).getD x .any
theorem dS{L:List Oper}{pl:List Nat}{x:Tmp}:xg L pl x=true ↔ ∃i o,i∈pl∧L[i]? = some o∧o.dst=some x:=by
 unfold xg
 rw[Mg]
 constructor
 ·rintro⟨i,h1,h2⟩
  split at h2
  ·rename_i o ho
   exact⟨i,o,h1,ho,by simpa using h2⟩
  ·simp at h2
 ·rintro⟨i,o,h1,h2,h3⟩
  exact⟨i,h1,by rw[h2];simpa using h3⟩
section
variable {L:List Oper} {S:Array Bool} {pl:List Nat} {t0 tF:List D}
theorem bk:(j2 L S pl t0 tF).length=tF.length:=by simp[j2]
theorem fW{x:Nat}(hx:x<tF.length):(j2 L S pl t0 tF).getD x .any=if xg L pl x then .any else (gq L S t0 tF).getD x .any:=by
 simp[j2,HW,hx]
theorem uj{t:List D}{x:Nat}(h:t.length≤x):t.getD x .any=.any:=by
 rw[HW,IT h];rfl
theorem ke{x:Nat}(hx:xg L pl x=false):(j2 L S pl t0 tF).getD x .any=(gq L S t0 tF).getD x .any:=by
 by_cases iF:x<tF.length
 ·rw[fW iF,hx];rfl
 ·rw[uj (by rw[bk];omega),uj (by rw[aI];omega)]
theorem ul:j2 L S [] t0 tF=gq L S t0 tF:=by
 refine br (by rw[bk,aI]) fun x hx=>ke (by simp[xg])
end
structure Pe where
 i:Nat
 p:Option (Nat×Nat)
 v:Value
 x:Blk
def hid(pl:List Pe)(O:Nat→Prop):Nat→Prop:=fun k=>O k∨∃e∈pl,∃c,e.p=some (k,c)
structure Inv5 (Γ:aw) (X:Ctx) (L:List Oper) (pos:Nat→Nat) (late:Nat→Bool) (m:List Nat) (t0 tF:List D) (hs:List (List Blk)) (k:Nat) (S:Array Bool) (pl:List Pe) (a:Act) (w:World):Prop where
 size:S.size=L.length
 closed:jG L (Lst S)
 st:∃l,Rep Γ (hid pl X.O) w l (hs.getD k [])∧Ext X.w X.l X.h w l (hs.getD k [])∧RelL w (avs (hid pl X.O) l (hs.getD k [])) l (hs.getD k []) (j2 L S (pl.map (·.i)) t0 tF) a.tmps.toList ∧
  DefOk X.D l (hs.getD k []) m a.defers∧∀e∈pl,Pd w (avs (hid pl X.O) l (hs.getD k [])) l (hs.getD k []) e.x e.p
 pe:∀e∈pl,VR e.x e.p e.v∧late e.i=true∧Lst S e.i∧k≤pos e.i∧hs.getD (pos e.i+1) []=hs.getD (pos e.i) []++[e.x] ∧
  ∃o,L[e.i]? = some o∧∀y,o.dst=some y→(∀z,a.tmps.toList[y]? = some z→z=e.v)∧(y<tF.length→tF.getD y .any=.ref (hG e.x (hs.getD (pos e.i) []).length))
 dis:pl.Pairwise fun e f=>e.i ≠ f.i∧∀k c c',e.p=some (k,c)→f.p ≠ some (k,c')
 fresh:∀e∈pl,∀k c,e.p=some (k,c)→X.w.heap.size≤k∧¬X.O k
 chain:∀c o,L[c]? = some o→quietOp o.op=false→(pos c<k ↔ Lst S c∧c ∉ pl.map (·.i))
 P9:k=0∨∃(c:Nat) (o:Oper),L[c]? = some o∧quietOp o.op=false∧k=pos c+1
theorem mU{p:Nat→Prop}(h0:p 0):∀n,∃q,q≤n∧p q∧∀q',q'≤n→p q'→q'≤q
 | 0=>⟨0,HS _,h0,fun q' h _=>h⟩
 | n+1=>by
  by_cases h:p (n+1)
  ·exact⟨n+1,HS _,h,fun q' h' _=>h'⟩
  ·obtain⟨q,h1,h2,h3⟩:=mU h0 n
   refine⟨q,by omega,h2,fun q' h' hp=>?_⟩
   by_cases hq:q'=n+1
   ·exact absurd (hq▸hp) h
   ·exact h3 q' (by omega) hp
section
variable {Γ:aw} {X:Ctx} {L:List Oper} {pos:Nat→Nat} {late:Nat→Bool} {m:List Nat} {t0 tF:List D} {hs:List (List Blk)} {S:Array Bool} {a:Act} {w:World}
theorem xK{O:Nat→Prop}{l:Loc}{h:List Blk}{x:Blk}{p:Option (Nat×Nat)}(hx:x ≠ .gone)(k:Nat):avs O (l.upd h.length p) (h++[x]) k ↔ avs (pI O p) l h k:=by
 rw[oz hx,show(l.upd h.length p) h.length=p by simp[Loc.upd]]
 unfold avs
 rw[oA]
theorem Inv5.tell{k:Nat}{Qw Q9:List Pe}{e:Pe}(I:Inv5 Γ X L pos late m t0 tF hs k S (Qw++e::Q9) a w)(hH:hs.getD (pos e.i) []=hs.getD k [])
  (Qh:∀c o,L[c]? = some o→quietOp o.op=false→c ≠ e.i→(pos c<k ↔ pos c<pos e.i+1))
  (Pv:∀(i j:Nat) (o o':Oper) (x:Tmp),L[i]? = some o→L[j]? = some o'→o.dst=some x→o'.dst=some x→i=j) (Rj:∀f∈Qw++Q9,pos e.i+1≤pos f.i) (hlq:∀(i:Nat) (o:Oper),L[i]? = some o→late i=true→quietOp o.op=false) :
  Inv5 Γ X L pos late m t0 tF hs (pos e.i+1) S (Qw++Q9) a w:=by
 obtain⟨l,R,E,rt,rd,hpd⟩:=I.st
 have P3:e∈Qw++e::Q9:=by simp
 have Qt:∀f,f∈Qw++Q9→f∈Qw++e::Q9:=by
  intro f hf
  simp only[Jg,HR] at hf ⊢
  rcases hf with h|h
  ·exact .inl h
  ·exact .inr (.inr h)
 have Rp:∀f,f∈Qw++e::Q9→f=e∨f∈Qw++Q9:=by
  intro f hf
  simp only[Jg,HR] at hf ⊢
  rcases hf with h|h|h
  ·exact .inr (.inl h)
  ·exact .inl h
  ·exact .inr (.inr h)
 have hdis:∀f∈Qw++Q9,f.i ≠ e.i∧∀k c c',e.p=some (k,c)→f.p ≠ some (k,c'):=by
  intro f hf
  have hd:=I.dis
  rw[LB] at hd
  simp only[Jg] at hf
  rcases hf with hf|hf
  ·have:=hd.2.2 f hf e (IE ..)
   exact⟨this.1,fun k c c' h1 h2=>this.2 k c' c h2 h1⟩
  ·have:=(Ke.1 hd.2.1).1 f hf
   exact⟨fun h=>this.1 h.symm,this.2⟩
 have S2:hid (Qw++e::Q9) X.O=pI (hid (Qw++Q9) X.O) e.p:=by
  funext k'
  apply propext
  constructor
  ·rintro (h|⟨f,hf,c,h⟩)
   ·exact .inl (.inl h)
   ·rcases Rp f hf with rfl|hf
    ·exact .inr ⟨c,h⟩
    ·exact .inl (.inr ⟨f,hf,c,h⟩)
  ·rintro ((h|⟨f,hf,c,h⟩)|⟨c,h⟩)
   ·exact .inl h
   ·exact .inr ⟨f,Qt f hf,c,h⟩
   ·exact .inr ⟨e,P3,c,h⟩
 rw[S2] at R rt hpd
 obtain⟨hvr,Qn,hlst,hkpos,hhs,o,ho,hod⟩:=I.pe e P3
 have hPd:=hpd e P3
 have Ou:=gZ hPd.1
 have R2:=R.merge hPd (fun k' c hk hh=>by
  rcases hh with hh|⟨f,hf,c',hh⟩
  ·exact(I.fresh e P3 k' c hk).2 hh
  ·exact(hdis f hf).2 k' c c' hk hh)
 have E2:=E.merge (x:=e.x) (p:=e.p) fun k' c hk=>(I.fresh e P3 k' c hk).1
 have hc:∀bV off y,¬avs (pI (hid (Qw++Q9) X.O) e.p) l (hs.getD k []) bV→w.cell? ⟨bV,off,none⟩=some y →
   w.cell? ⟨bV,off,none⟩=some y∧¬avs (hid (Qw++Q9) X.O) (l.upd (hs.getD k []).length e.p) (hs.getD k []++[e.x]) bV :=
  fun bV off y hn hy=>⟨hy,fun ha=>hn ((xK Ou bV).1 ha)⟩
 have hH2:hs.getD (pos e.i+1) []=hs.getD k []++[e.x]:=by rw[hhs,hH]
 have Qi:=eO _ _ rt
 rw[bk] at Qi
 have Ry:∀f∈Qw++Q9,f.i ≠ e.i:=fun f hf=>(hdis f hf).1
 refine⟨I.size,I.closed,⟨l.upd (hs.getD k []).length e.p,?_⟩,fun f hf=>?_,?_,fun f hf=>I.fresh f (Qt f hf),?_,.inr ⟨e.i,o,ho,hlq e.i o ho Qn,rfl⟩⟩
 ·rw[hH2]
  refine⟨R2,E2,iP (by rw[bk];exact Qi) fun x y hy=>?_,?_,fun f hf=>?_⟩
  ·have iF:x<tF.length:=by
    have:=(Hs.1 hy).1
    omega
   cases hb:xg L ((Qw++Q9).map (·.i)) x
   ·rw[ke hb]
    cases Qu:xg L ((Qw++e::Q9).map (·.i)) x
    ·have:=xJ rt hy
     rw[ke Qu] at this
     exact Rel.mono hc g9 _ _ this
    ·obtain⟨i',o',h1,h2,h3⟩:=dS.1 Qu
     have hie:i'=e.i:=by
      apply IP
      intro O3
      rw[HQ] at h1
      obtain⟨f,hf,rfl⟩:=h1
      rcases Rp f hf with rfl|hf
      ·exact O3 rfl
      ·rw[JY] at hb
       exact hb (dS.2 ⟨f.i,o',HQ.2 ⟨f,hf,rfl⟩,h2,h3⟩)
     subst hie
     rw[ho] at h2
     cases h2
     rw[df (fun k' o' Pa Ph=>by
      rw[Pv k' e.i o' o x Pa ho Ph h3];exact hlst)]
     rw[(hod x h3).2 iF,hH,(hod x h3).1 y hy]
     simp only[Rel]
     exact qj hvr
   ·rw[fW iF,if_pos hb]
    simp[Rel]
  ·exact Lg g9 (d9 (c5 rd)) rd
  ·exact Pd.mono hc g9 (by simp) (fun _ _ _=>rfl) (hpd f (Qt f hf))
 ·obtain⟨g1,g2,g3,_,g5,g6⟩:=I.pe f (Qt f hf)
  exact⟨g1,g2,g3,Rj f hf,g5,g6⟩
 ·exact I.dis.sublist (List.Sublist.append (List.Sublist.refl _) (List.sublist_cons_self e Q9))
 ·intro c o' Pk hq
  by_cases hce:c=e.i
  ·subst hce
   refine⟨fun _=>⟨hlst,fun hm=>?_⟩,fun _=>Nat.lt_succ_self _⟩
   rw[HQ] at hm
   obtain⟨f,hf,hfe⟩:=hm
   exact Ry f hf hfe
  ·rw[←Qh c o' Pk hq hce,I.chain c o' Pk hq]
   refine⟨fun⟨h1,h2⟩=>⟨h1,fun hm=>h2 ?_⟩,fun⟨h1,h2⟩=>⟨h1,fun hm=>h2 ?_⟩⟩
   ·rw[HQ] at hm ⊢
    obtain⟨f,hf,hfe⟩:=hm
    exact⟨f,Qt f hf,hfe⟩
   ·rw[HQ] at hm ⊢
    obtain⟨f,hf,hfe⟩:=hm
    rcases Rp f hf with rfl|hf
    ·exact absurd hfe.symm hce
    ·exact⟨f,hf,hfe⟩
end
section
variable {Γ:aw} {X:Ctx} {L:List Oper} {pos:Nat→Nat} {late:Nat→Bool} {m:List Nat} {t0 tF:List D} {hs:List (List Blk)} {S:Array Bool} {a:Act} {w:World}
theorem Inv5.upto(hconst:∀n k,(∀c o,L[c]? = some o→quietOp o.op=false→¬(k≤pos c∧pos c<k+n))→k+n≤L.length→hs.getD (k+n) []=hs.getD k [])
  (hinj:∀(i j:Nat) (o o':Oper),L[i]? = some o→L[j]? = some o'→pos i=pos j→i=j)
  (Pv:∀(i j:Nat) (o o':Oper) (x:Tmp),L[i]? = some o→L[j]? = some o'→o.dst=some x→o'.dst=some x→i=j) (hlq:∀(i:Nat) (o:Oper),L[i]? = some o→late i=true→quietOp o.op=false) :
  ∀q,q≤L.length→(∀c o,L[c]? = some o→quietOp o.op=false→pos c<q→Lst S c)→∀k pl,Inv5 Γ X L pos late m t0 tF hs k S pl a w →
   ∃k' pl',Inv5 Γ X L pos late m t0 tF hs k' S pl' a w∧∀e∈pl',e∈pl∧q≤pos e.i:=by
 intro q
 induction q with
 | zero=>exact fun _ _ k pl I=>⟨k,pl,I,fun e he=>⟨he,Nat.zero_le _⟩⟩
 | succ q ih =>
  intro hq hl k pl I
  obtain⟨k1,Qw,I1,h1⟩:=ih (by omega) (fun c o hc ho hp=>hl c o hc ho (by omega)) k pl I
  by_cases hex:∃e∈Qw,pos e.i=q
  ·obtain⟨e,he,Ry⟩:=hex
   obtain⟨a1,a2,rfl⟩:=List.append_of_mem he
   obtain⟨_,_,_,hk1,_,o,ho,_⟩:=I1.pe e he
   have Pf:∀c o',L[c]? = some o'→quietOp o'.op=false→pos c<q→pos c<k1:=by
    intro c o' hc Of hp
    rw[I1.chain c o' hc Of]
    refine⟨hl c o' hc Of (by omega),fun hm=>?_⟩
    rw[HQ] at hm
    obtain⟨f,hf,rfl⟩:=hm
    have:=(h1 f hf).2
    omega
   have Qt:∀f,f∈a1++a2→f∈a1++e::a2:=by
    intro f hf
    simp only[Jg,HR] at hf ⊢
    rcases hf with h|h
    ·exact .inl h
    ·exact .inr (.inr h)
   have hfe:∀f,f∈a1++a2→f.i ≠ e.i:=by
    intro f hf
    have hd:=I1.dis
    rw[LB] at hd
    simp only[Jg] at hf
    rcases hf with hf|hf
    ·exact(hd.2.2 f hf e (IE ..)).1
    ·exact fun h=>((Ke.1 hd.2.1).1 f hf).1 h.symm
   have hge:∀f,f∈a1++a2→q+1≤pos f.i:=by
    intro f hf
    have h2:=(h1 f (Qt f hf)).2
    obtain⟨_,_,_,_,_,o',N9,_⟩:=I1.pe f (Qt f hf)
    have:pos f.i ≠ q:=fun hh=>hfe f hf (hinj _ _ _ _ N9 ho (by rw[hh,Ry]))
    omega
   refine⟨_,_,I1.tell ?_ ?_ Pv (fun f hf=>by rw[Ry];exact hge f hf) hlq,fun f hf=>⟨(h1 f (Qt f hf)).1,hge f hf⟩⟩
   ·have:=hconst (q - k1) k1 (fun c o' hc Of hx=>by
     have:=Pf c o' hc Of (by omega)
     omega) (by omega)
    rw[Ry,←this]
    congr 1
    omega
   ·intro c o' hc Of hce
    rw[Ry]
    constructor
    ·intro h;omega
    ·intro h
     have:pos c ≠ q:=fun hh=>hce (hinj _ _ _ _ hc ho (by rw[hh,Ry]))
     exact Pf c o' hc Of (by omega)
  ·refine⟨k1,Qw,I1,fun e he=>⟨(h1 e he).1,?_⟩⟩
   have h2:=(h1 e he).2
   have:pos e.i ≠ q:=fun hh=>hex ⟨e,he,hh⟩
   omega
end
def Cand(L:List Oper)(pos:Nat→Nat)(k:Nat):Prop:=k=0∨∃(c:Nat) (o:Oper),L[c]? = some o∧quietOp o.op=false∧k=pos c+1
structure Fx (P:Program) (Γ:aw) (L:List Oper) (B:List Nat) (pos:Nat→Nat) (late:Nat→Bool) (m:List Nat) (t0 tF:List D) (hs:List (List Blk)) (ts:List (List D)):Prop where
 Qa:∀(i:Nat) (o:Oper),L[i]? = some o→∀e∈o.after.toList,IL .any e=true→e.on<i
 posB:∀(i:Nat) (o:Oper) (j:Nat),L[i]? = some o→(B.getD i 0).testBit j=true→pos j<pos i
 uniq:∀(i j:Nat) (o o':Oper) (x:Tmp),L[i]? = some o→L[j]? = some o'→o.dst=some x→o'.dst=some x→i=j
 inj:∀(i j:Nat) (o o':Oper),L[i]? = some o→L[j]? = some o'→pos i=pos j→i=j
 lt:∀(i:Nat) (o:Oper),L[i]? = some o→pos i<L.length
 oper:∀(i:Nat) (o:Oper) (x:Tmp),L[i]? = some o→x∈de L o→∀(k:Nat) (o':Oper),L[k]? = some o'→o'.dst=some x→(B.getD i 0).testBit k=true∨(B.getD k 0).testBit i=true
 chain:∀(c c':Nat) (o o':Oper),L[c]? = some o→L[c']? = some o'→quietOp o.op=false→quietOp o'.op=false→late c=false→pos c'<pos c→(B.getD c 0).testBit c'=true
 Th:∀(i:Nat) (o:Oper),L[i]? = some o→late i=true→freeOp o.op=true∧quietOp o.op=false∧o.guard=none
 seen:∀(i j:Nat) (o o':Oper) (x:Tmp),L[i]? = some o→x∈de L o→L[j]? = some o'→o'.dst=some x→late j=true→(B.getD i 0).testBit j=true →
  ∀(c:Nat) (o2:Oper),L[c]? = some o2→quietOp o2.op=false→pos c<pos j→(B.getD i 0).testBit c=true
 Ps:∀(i:Nat) (o:Oper),L[i]? = some o→∃call,L4 P Γ call∧∃d,dm P Γ call m L (ts.getD (pos i) []) (hs.getD (pos i) []) o=some (d,hs.getD (pos i+1) []) ∧
  (∀x,(∀(j:Nat) (o':Oper),L[j]? = some o'→pos i≤pos j→o'.dst ≠ some x)→tF.getD x .any=(ts.getD (pos i) []).getD x .any) ∧
  (∀x,(∀(j:Nat) (o':Oper),L[j]? = some o'→pos j<pos i→o'.dst ≠ some x)→(ts.getD (pos i) []).getD x .any=t0.getD x .any) ∧
  (∀x,o.dst=some x→x<tF.length→tF.getD x .any=d)
 len:tF.length=t0.length
 const:∀n k,(∀c o,L[c]? = some o→quietOp o.op=false→¬(k≤pos c∧pos c<k+n))→k+n≤L.length→hs.getD (k+n) []=hs.getD k []
 Om:∀(i:Nat) (o:Oper) (k:Nat) (x:Blk),L[i]? = some o→late i=true→Cand L pos k→hs.getD (pos i+1) []=hs.getD (pos i) []++[x] →
  (hs.getD k []).all (HB (hs.getD k []).length)=true∧x.Om (hs.getD k []).length=true
 quiet:∀(i:Nat) (o:Oper),L[i]? = some o→quietOp o.op=true→aV L (ts.getD (pos i) []) o.guard=some true→∀k,Cand L pos k →
  (∀(c:Nat) (o':Oper),L[c]? = some o'→quietOp o'.op=false→(pos c<k→(B.getD c 0).testBit i=false)∧(k≤pos c→(B.getD i 0).testBit c=true→late c=true)) →
  ∃d h',opSem P Γ (ts.getD (pos i) []) (hs.getD k []) o.op=some (true,d,h')∧∀x,o.dst=some x→tF.getD x .any=d
section
variable {P:Program} {Γ:aw} {X:Ctx} {r:Option Nat} {call:CallF} {ops:Array Oper} {pos:Nat→Nat} {late:Nat→Bool} {m:List Nat} {t0 tF:List D} {hs:List (List Blk)} {ts:List (List D)} {Q:Exit→AS→Prop}
theorem told(F:Fx P Γ ops.toList (dd ops.toList []) pos late m t0 tF hs ts){k:Nat}{S:Array Bool}{pl:List Pe}{a:Act}{w:World}(I:Inv5 Γ X ops.toList pos late m t0 tF hs k S pl a w):
  ∃k' pl',Inv5 Γ X ops.toList pos late m t0 tF hs k' S pl' a w ∧
   ∀e∈pl',∃c o,ops.toList[c]? = some o∧quietOp o.op=false∧pos c<pos e.i∧¬Lst S c:=by
 obtain⟨q,h1,h2,h3⟩:=mU (p:=fun q=>∀c o,ops.toList[c]? = some o→quietOp o.op=false→pos c<q→Lst S c) (fun c o _ _ h=>by omega) ops.toList.length
 obtain⟨k',pl',I',h4⟩:=Inv5.upto F.const F.inj F.uniq (fun i o hi hl=>(F.Th i o hi hl).2.1) q h1 h2 k pl I
 refine⟨k',pl',I',fun e he=>?_⟩
 obtain⟨_,h5⟩:=h4 e he
 obtain⟨_,hl,hS,_,_,o,ho,_⟩:=I'.pe e he
 apply IP
 intro O3
 have:=h3 (pos e.i+1) (F.lt _ _ ho) (fun c o' hc hq hp=>by
  by_cases hce:pos c=pos e.i
  ·rw[F.inj c e.i o' o hc ho hce];exact hS
  ·apply IP
   intro hnl
   exact O3 ⟨c,o',hc,hq,by omega,hnl⟩)
 omega
end
section
variable {P:Program} {Γ:aw} {X:Ctx} {r:Option Nat} {call:CallF} {ops:Array Oper} {pos:Nat→Nat} {late:Nat→Bool} {m:List Nat} {t0 tF:List D} {hs:List (List Blk)} {ts:List (List D)} {Q:Exit→AS→Prop}
theorem Inv5.here{k:Nat}{S:Array Bool}{pl:List Pe}{a:Act}{w:World}(I:Inv5 Γ X ops.toList pos late m t0 tF hs k S pl a w):
  ∃l,St Γ {O:=hid pl X.O,w:=w,l:=l,h:=hs.getD k [],D:=X.D} {t:=j2 ops.toList S (pl.map (·.i)) t0 tF,h:=hs.getD k [],m:=m} a w∧Ext X.w X.l X.h w l (hs.getD k []) ∧
   Rep Γ (hid pl X.O) w l (hs.getD k [])∧∀e∈pl,Pd w (avs (hid pl X.O) l (hs.getD k [])) l (hs.getD k []) e.x e.p:=by
 obtain⟨l,R,E,rt,rd,hp⟩:=I.st
 exact⟨l,⟨l,R,Ext.refl _ _ _,rt,rd⟩,E,R,hp⟩
theorem Pd.ext{O:Nat→Prop}{w w':World}{l l':Loc}{h h':List Blk}{x:Blk}{p:Option (Nat×Nat)}(E:Ext w l h w' l' h')(R:Rep Γ O w l h)(hO:∀k c,p=some (k,c)→O k)
  (hp:Pd w (avs O l h) l h x p):Pd w' (avs O l' h') l' h' x p:=by
 refine hp.mono E.hc E.N0 ?_ fun bV c hk=>?_
 ·apply IP
  intro iF
  have hb:h[h'.length]? = some h[h'.length]:=HH (by omega)
  obtain⟨x',h1,_⟩:=E.N0 _ _ hb
  simp at h1
 ·exact E.same bV (R.P2 bV (hO bV c hk)) fun ho=>(R.Ov bV ho).2 (hO bV c hk)
theorem Inv5.after{k k' i:Nat}{S:Array Bool}{pl:List Pe}{a a':Act}{w w':World}{l:Loc}{o:Oper}{d:D}{_v:Value}(F:Fx P Γ ops.toList (dd ops.toList []) pos late m t0 tF hs ts)
  (I:Inv5 Γ X ops.toList pos late m t0 tF hs k S pl a w) (ho:ops.toList[i]? = some o) (S1:¬Lst S i) (P6:∀e∈o.after.toList,IL .any e=true→Lst S e.on)
  (E:Ext X.w X.l X.h w l (hs.getD k [])) (R:Rep Γ (hid pl X.O) w l (hs.getD k [])) (hp:∀e∈pl,Pd w (avs (hid pl X.O) l (hs.getD k [])) l (hs.getD k []) e.x e.p)
  (N8:St Γ {O:=hid pl X.O,w:=w,l:=l,h:=hs.getD k [],D:=X.D} {t:=putD (j2 ops.toList S (pl.map (·.i)) t0 tF) o.dst d,h:=hs.getD k' [],m:=m} a' w') (ha:∃v,a'.tmps=(a.put o.dst v).tmps)
  (hd:∀x,o.dst=some x→x<tF.length→tF.getD x .any=d) (hk:∀e∈pl,k'≤pos e.i) (Tg:Cand ops.toList pos k')
  (Rr:∀c o',ops.toList[c]? = some o'→quietOp o'.op=false→(pos c<k' ↔ (c=i∨Lst S c)∧c ∉ pl.map (·.i))) :
  Inv5 Γ X ops.toList pos late m t0 tF hs k' (S.setIfInBounds i true) pl a' w':=by
 have hi:i<S.size:=by rw[I.size];exact(Hs.1 ho).1
 have Od:∀j,Lst (S.setIfInBounds i true) j ↔ j=i∨Lst S j:=fun j=>oD hi
 have Ou:∀e∈pl,e.i ≠ i:=fun e he hei=>S1 (hei▸(I.pe e he).2.2.1)
 have S8:putD (j2 ops.toList S (pl.map (·.i)) t0 tF) o.dst d=j2 ops.toList (S.setIfInBounds i true) (pl.map (·.i)) t0 tF:=by
  have Tf:putD (gq ops.toList S t0 tF) o.dst d=gq ops.toList (S.setIfInBounds i true) t0 tF :=
   oC ho hi (fun k o' hk x hx Pc=>F.uniq k i o' o x hk ho Pc hx) hd
  refine br (by rw[bd,bk,bk]) fun x hx=>?_
  rw[bd,bk] at hx
  rw[fW hx,←Tf]
  by_cases Qe:o.dst=some x
  ·have hh:xg ops.toList (pl.map (·.i)) x=false:=by
    rw[JY]
    intro hh
    obtain⟨j,o',h1,h2,h3⟩:=dS.1 hh
    rw[HQ] at h1
    obtain⟨e,he,rfl⟩:=h1
    exact Ou e he (F.uniq _ _ _ _ x h2 ho h3 Qe)
   rw[Qe,dR (by rw[bk];exact hx),hh,if_neg (by simp),dR (by rw[aI];exact hx)]
  ·rw[cq Qe,cq Qe,fW hx]
 obtain⟨l',R',E',rt',rd'⟩:=N8
 refine⟨by simpa using I.size,?_,⟨l',R',E.trans E',by rw[←S8];exact rt',rd',fun e he=>(hp e he).ext E' R fun k c hk=>.inr ⟨e,he,c,hk⟩⟩,fun e he=>?_,I.dis,I.fresh,?_,Tg⟩
 ·intro k2 o2 Rj O1 e he hb
  rw[Od] at Rj ⊢
  rcases Rj with rfl|Rj
  ·rw[ho] at O1
   cases O1
   exact .inr (P6 e he hb)
  ·exact .inr (I.closed k2 o2 Rj O1 e he hb)
 ·obtain⟨g1,g2,g3,_,g5,o2,g6,g7⟩:=I.pe e he
  refine⟨g1,g2,(Od _).2 (.inr g3),hk e he,g5,o2,g6,fun y hy=>⟨fun z hz=>?_,(g7 y hy).2⟩⟩
  obtain⟨v,ha⟩:=ha
  rw[ha] at hz
  have hdy:o.dst ≠ some y:=fun hdy=>Ou e he (F.uniq _ _ _ _ y g6 ho hy hdy)
  refine(g7 y hy).1 z ?_
  cases Oo:o.dst with
  | none=>rw[Oo] at hz;exact hz
  | some x =>
   rw[Oo] at hz
   have hxy:x ≠ y:=fun h=>hdy (by rw[Oo,h])
   simp only[Act.put,Kw] at hz
   rwa[J9 hxy] at hz
 ·intro c o' hc hq
  rw[Od]
  exact Rr c o' hc hq
end
section
variable {P:Program} {Γ:aw} {X:Ctx} {r:Option Nat} {s:AS}
theorem C0{o:Oper}{d:D}{h':List Blk}{K:Act→World→Prop}{Q':Exit→Act→World→Prop}{a:Act}{w:World}(Oe:opSem P Γ s.t s.h o.op=some (true,d,h'))(hm:aA h' s.m=true)
  (hK:∀v w',St Γ X {t:=putD s.t o.dst d,h:=h',m:=s.m} (a.put o.dst v) w'→K (a.put o.dst v) w') (hs:St Γ X s a w):o.wpIn (FW r) 0 P a w K Q':=by
 obtain⟨l,R,E,rt,rd⟩:=hs
 obtain⟨nx,v,w',l',h1,h2,h3,h4,h5⟩:=gy R rt Oe
 refine⟨fun _ _=>trivial,?_⟩
 rw[LQ _ _ _ (by intro c hc;rw[hc] at Oe;simp[opSem] at Oe),h1]
 have key:=St.put (Γ:=Γ) (X:=X) (s:=s) (a:=a) o.dst rt rd E h3 h4 h5 hm
 rcases h2 with rfl|⟨rfl,rfl⟩
 ·exact hK _ _ key
 ·exact hK _ _ key
theorem A9{o:Oper}{fv:Operand}{args:Array Operand}{ats:Array TypeId}{K:Act→World→Prop}{Q':Exit→Act→World→Prop}{a:Act}{w:World}
  (ho:o.op=.call {callee:=.value fv,args,argTypes:=ats})
  (Ob:VInv P Γ (evalD Γ s.t fv) (args.toList.map (evalD Γ s.t)) s.h fun d h'=>aA h' s.m=true ∧
   ∀v w',St Γ X {t:=putD s.t o.dst d,h:=h',m:=s.m} (a.put o.dst v) w'→K (a.put o.dst v) w') (hs:St Γ X s a w):o.wpIn (FW r) 0 P a w K Q':=by
 obtain⟨l,R,E,rt,rd⟩:=hs
 refine⟨fun _ _=>trivial,?_⟩
 rw[LQ _ _ _ (by intro c hc;rw[ho] at hc;simp at hc)]
 have e1:(execOp a.eval o).run P w=(do let d ←JK (a.eval fv) (args.toList.map a.eval).toArray;invoke d.target d.args:Sem Next).run P w:=by
  unfold execOp
  rw[ho]
  simp only[resolve]
  congr 3
  rw[←Array.toList_map]
 rw[e1]
 exact Ob X.O w l _ _ R (bq R rt fv) (gW R rt args.toList) r o a K Q' fun v d h' l' w' ⟨g1,g2⟩ g3 g4 g5 =>
  g2 _ _ (St.put (Γ:=Γ) (X:=X) (s:=s) (a:=a) o.dst rt rd E g3 g4 g5 g1)
theorem xL{call:CallF}(hc:call.Ok P Γ){o:Oper}{d:D}{h':List Blk}{K:Act→World→Prop}{Q':Exit→Act→World→Prop}{a:Act}{w:World}
  (Oe:fu P Γ call s.t s.h o.op=some (d,h')) (hm:aA h' s.m=true)
  (hK:∀v w',St Γ X {t:=putD s.t o.dst d,h:=h',m:=s.m} (a.put o.dst v) w'→K (a.put o.dst v) w') (hs:St Γ X s a w):o.wpIn (FW r) 0 P a w K Q':=by
 unfold fu at Oe
 split at Oe
 ·rename_i ho
  exact A9 ho ((hc _ _ _ _ _ Oe).mono fun d2 h2 ⟨e1,e2⟩=>by subst e1;subst e2;exact⟨hm,hK⟩) hs
 ·split at Oe
  ·rename_i h1
   cases Oe
   exact C0 h1 hm hK hs
  ·simp at Oe
theorem DQ{o:Oper}{x:Blk}{K:Act→World→Prop}{Q':Exit→Act→World→Prop}{a:Act}{w:World}{l:Loc}(R:Rep Γ X.O w l s.h)(rt:RelL w (avs X.O l s.h) l s.h s.t a.tmps.toList)
  (hp:x.plain=true) (Oe:opSem P Γ s.t s.h o.op=some (true,.ref (hG x s.h.length),s.h++[x])) (hi:s.h.all (HB s.h.length)=true) (hx:x.Om s.h.length=true)
  (hK:∀v w' l' p,Rep Γ (pI X.O p) w' l' s.h→Ext w l s.h w' l' s.h→Pd w' (avs (pI X.O p) l' s.h) l' s.h x p→VR x p v→(∀k c,p=some (k,c)→w.heap.size≤k∧¬X.O k)→K (a.put o.dst v) w') :
  o.wpIn (FW r) 0 P a w K Q':=by
 obtain⟨v,w',l',p,h1,h2,h3,h4,h5,h6⟩:=xI (P:=P) R rt hp Oe hi hx
 refine⟨fun _ _=>trivial,?_⟩
 rw[LQ _ _ _ (by intro c hc;rw[hc] at Oe;simp[opSem] at Oe),h1]
 exact hK v w' l' p h2 h3 h4 h5 h6
end
section
variable {P:Program} {Γ:aw} {X:Ctx} {r:Option Nat} {call:CallF} {ops:Array Oper} {pos:Nat→Nat} {late:Nat→Bool} {m:List Nat} {t0 tF:List D} {hs:List (List Blk)} {ts:List (List D)} {Q:Exit→AS→Prop}
theorem DR(F:Fx P Γ ops.toList (dd ops.toList []) pos late m t0 tF hs ts){k:Nat}(hk:Cand ops.toList pos k):k≤ops.toList.length:=by
 rcases hk with rfl|⟨c,o,ho,_,rfl⟩
 ·omega
 ·exact F.lt c o ho
theorem ql(F:Fx P Γ ops.toList (dd ops.toList []) pos late m t0 tF hs ts)(hQ:Q .normal {t:=tF,h:=hs.getD ops.size [],m:=m})
  {k:Nat} {S:Array Bool} {pl:List Pe} {a:Act} {w:World} (I0:Inv5 Γ X ops.toList pos late m t0 tF hs k S pl a w) (N6:∀j,j<ops.size→Lst S j):j1 Γ X Q .normal a w:=by
 have hn:ops.toList.length=ops.size:=by simp
 obtain⟨k,pl,I,Rs⟩:=told F I0
 have hnil:pl=[]:=by
  cases pl with
  | nil=>rfl
  | cons e pl =>
   obtain⟨c,o,hc,_,_,h⟩:=Rs e (IE ..)
   exact absurd (N6 c (by have:=(Hs.1 hc).1;omega)) h
 subst hnil
 refine⟨by simp,_,hQ,?_⟩
 have e1:j2 ops.toList S [] t0 tF=tF:=by
  rw[ul]
  refine br (aI ..) fun x hx=>?_
  exact df fun c o oN _=>N6 c (by have:=(Hs.1 oN).1;omega)
 have hk:=DR F I.P9
 have e2:hs.getD ops.size []=hs.getD k []:=by
  have:=F.const (ops.size - k) k (fun c o oN Is hx=>by
   have h1:=(I.chain c o oN Is).2 ⟨N6 c (by have:=(Hs.1 oN).1;omega),by simp⟩
   omega) (by omega)
  rwa[show k+(ops.size - k)=ops.size by omega] at this
 obtain⟨l,R,E,rt,rd,_⟩:=I.st
 have hh:hid [] X.O=X.O:=by
  funext k'
  apply propext
  simp[hid]
 rw[hh] at R rt
 simp only[List.map_nil,e1] at rt
 rw[e2]
 exact⟨l,R,E,rt,rd⟩
end
section
variable {P:Program} {Γ:aw} {X:Ctx} {r:Option Nat} {call:CallF} {ops:Array Oper} {pos:Nat→Nat} {late:Nat→Bool} {m:List Nat} {t0 tF:List D} {hs:List (List Blk)} {ts:List (List D)} {Q:Exit→AS→Prop}
theorem vX(F:Fx P Γ ops.toList (dd ops.toList []) pos late m t0 tF hs ts){k0 i:Nat}{S:Array Bool}{pl0:List Pe}{a:Act}{w:World}{o:Oper}{K:Act→World→Prop}{Q':Exit→Act→World→Prop}
  (I0:Inv5 Γ X ops.toList pos late m t0 tF hs k0 S pl0 a w) (Oz:ops.toList[i]? = some o) (Oi:¬Lst S i) (P6:∀e∈o.after.toList,IL .any e=true→Lst S e.on)
  (hK:∀k pl a' w',Inv5 Γ X ops.toList pos late m t0 tF hs k (S.setIfInBounds i true) pl a' w'→K a' w') :
  if I9 o (yielded ops a.tmps) then o.wpIn (FW r) 0 P a w K Q' else (∀f,o.about P w a.eval=some f→(FW r).fn f)∧K (a.put o.dst undef) w:=by
 obtain⟨k,pl,I,Rs⟩:=told F I0
 have S1:i<S.size:=by rw[I.size];exact(Hs.1 Oz).1
 have Od:∀j,Lst (S.setIfInBounds i true) j ↔ j=i∨Lst S j:=fun j=>oD S1
 have On:jG ops.toList (Lst (S.setIfInBounds i true)):=by
  intro k' o' Pa N9 e he hb
  rw[Od] at Pa ⊢
  rcases Pa with rfl|Pa
  ·rw[Oz] at N9
   cases N9
   exact .inr (P6 e he hb)
  ·exact .inr (I.closed k' o' Pa N9 e he hb)
 have Pp:∀j,((dd ops.toList []).getD i 0).testBit j=true→pos j<pos i∧Lst S j:=by
  intro j hj
  have h1:=F.posB i o j Oz hj
  have h2:=c4 On (k:=i) ((Od i).2 (.inl rfl)) j hj
  rw[Od] at h2
  exact⟨h1,h2.resolve_left (fun h=>by rw[h] at h1;omega)⟩
 obtain⟨call,hc,d,N8,Ri,ht0,hdF⟩:=F.Ps i o Oz
 have Ou:∀e∈pl,e.i ≠ i:=fun e he hei=>Oi (hei▸(I.pe e he).2.2.1)
 have hnm:i ∉ pl.map (·.i):=fun hm=>by
  rw[HQ] at hm
  obtain⟨e,he,hei⟩:=hm
  exact Ou e he hei
 have Pg:∀x∈de ops.toList o,(j2 ops.toList S (pl.map (·.i)) t0 tF).getD x .any=(ts.getD (pos i) []).getD x .any:=by
  intro x hx
  have hh:xg ops.toList (pl.map (·.i)) x=false:=by
   rw[JY]
   intro hh
   obtain⟨j,o',h1,h2,h3⟩:=dS.1 hh
   rw[HQ] at h1
   obtain⟨e,he,rfl⟩:=h1
   obtain⟨_,hl,hS,_⟩:=I.pe e he
   rcases F.oper i o x Oz hx e.i o' h2 h3 with hb|hb
   ·obtain⟨c,o2,g1,g2,g3,g4⟩:=Rs e he
    exact g4 (Pp c (F.seen i e.i o o' x Oz hx h2 h3 hl hb c o2 g1 g2 g3)).2
   ·exact Oi (c4 I.closed hS i hb)
  rw[ke hh]
  by_cases Oy:∃(k':Nat) (o':Oper),ops.toList[k']? = some o'∧o'.dst=some x
  ·obtain⟨k',o',Pa,Ph⟩:=Oy
   have huq:∀(j:Nat) (o2:Oper),ops.toList[j]? = some o2→o2.dst=some x→j=k':=fun j o2 hj Oo=>F.uniq j k' o2 o' x hj Pa Oo Ph
   rcases F.oper i o x Oz hx k' o' Pa Ph with hb|hb
   ·obtain⟨iF,hSk⟩:=Pp k' hb
    rw[df (fun k2 o2 Rj Oo=>by rw[huq k2 o2 Rj Oo];exact hSk)]
    exact Ri x fun j o2 hj hle Oo=>by
     have:=huq j o2 hj Oo
     subst this
     omega
   ·have iF:=F.posB k' o' i Pa hb
    have Ta:¬Lst S k':=fun hSk=>Oi (c4 I.closed hSk i hb)
    rw[ui F.len Pa Ph (by unfold Lst at Ta;simpa using Ta)]
    exact(ht0 x fun j o2 hj hle Oo=>by
     have:=huq j o2 hj Oo
     subst this
     omega).symm
  ·rw[df (fun k2 o2 Rj Oo=>absurd ⟨k2,o2,Rj,Oo⟩ Oy)]
   exact Ri x fun j o2 hj _ Oo=>Oy ⟨j,o2,hj,Oo⟩
 have N3:dm P Γ call m ops.toList (j2 ops.toList S (pl.map (·.i)) t0 tF) (hs.getD (pos i) []) o=some (d,hs.getD (pos i+1) []):=by rw[kL Pg];exact N8
 obtain⟨l,hSt,E,R,hpd⟩:=I.here
 obtain⟨l0,R0,E0,rt0,rd0⟩:=hSt
 have hSt:St Γ {O:=hid pl X.O,w:=w,l:=l,h:=hs.getD k [],D:=X.D} {t:=j2 ops.toList S (pl.map (·.i)) t0 tF,h:=hs.getD k [],m:=m} a w:=⟨l0,R0,E0,rt0,rd0⟩
 have Pz:quietOp o.op=false→k≤pos i:=fun hq=>by
  apply IP
  intro iF
  exact Oi ((I.chain i o Oz hq).1 (by omega)).1
 cases Of:quietOp o.op
 ·cases Qn:late i
  ·-- it may change the heap, and is no late one
   have N6:∀c o',ops.toList[c]? = some o'→quietOp o'.op=false→pos c<pos i→Lst S c:=fun c o' Pk Pb hp=>(Pp c (F.chain i c o o' Oz Pk Of Pb Qn hp)).2
   have hple:∀e∈pl,pos i+1≤pos e.i:=by
    intro e he
    obtain⟨c,o2,g1,g2,g3,g4⟩:=Rs e he
    obtain⟨_,_,_,_,_,o3,g5,_⟩:=I.pe e he
    have:¬pos c<pos i:=fun h=>g4 (N6 c o2 g1 g2 h)
    omega
   have hH:hs.getD (pos i) []=hs.getD k []:=by
    have hk:=Pz Of
    have:=F.const (pos i - k) k (fun c o' oN Is hx=>by
     have h1:=N6 c o' oN Is (by omega)
     have:=(I.chain c o' oN Is).2 ⟨h1,fun hm=>by
      rw[HQ] at hm
      obtain⟨e,he,rfl⟩:=hm
      have:=hple e he
      omega⟩
     omega) (by have:=F.lt i o Oz;omega)
    rwa[show k+(pos i - k)=pos i by omega] at this
   have Su:∀a' w',(∃v,a'.tmps=(a.put o.dst v).tmps)→St Γ {O:=hid pl X.O,w:=w,l:=l,h:=hs.getD k [],D:=X.D} {t:=putD (j2 ops.toList S (pl.map (·.i)) t0 tF) o.dst d,h:=hs.getD (pos i+1) [],m:=m} a' w' →
     Inv5 Γ X ops.toList pos late m t0 tF hs (pos i+1) (S.setIfInBounds i true) pl a' w':=by
    intro a' w' ha Rv
    refine I.after (_v:=undef) F Oz Oi P6 E R hpd Rv ha hdF hple (.inr ⟨i,o,Oz,Of,rfl⟩) fun c o' oN Is=>?_
    constructor
    ·intro hp
     by_cases hci:pos c=pos i
     ·have:=F.inj c i o' o oN Oz hci
      subst this
      exact⟨.inl rfl,hnm⟩
     ·have h1:=N6 c o' oN Is (by omega)
      refine⟨.inr h1,fun hm=>?_⟩
      rw[HQ] at hm
      obtain⟨e,he,rfl⟩:=hm
      have:=hple e he
      omega
    ·rintro⟨rfl|h1,h2⟩
     ·omega
     ·have:=(I.chain c o' oN Is).2 ⟨h1,h2⟩
      have:=Pz Of
      omega
   rw[hH] at N3
   unfold dm at N3
   split at N3
   ·rename_i hg
    split at N3
    ·rename_i d1 h1 Oe
     split at N3
     ·rename_i hm
      simp only[Ho,Hu] at N3
      obtain⟨rfl,rfl⟩:=N3
      rw[if_pos (aW rt0 hg)]
      exact xL (s:={t:=j2 ops.toList S (pl.map (·.i)) t0 tF,h:=hs.getD k [],m:=m}) hc Oe hm (fun v w' Ot=>hK _ _ _ _ (Su _ _ ⟨v,rfl⟩ Ot)) hSt
     ·simp at N3
    ·simp at N3
   ·rename_i hg
    simp only[Ho,Hu] at N3
    obtain⟨rfl,hh⟩:=N3
    rw[if_neg (by rw[aW rt0 hg];simp)]
    refine⟨fun _ _=>trivial,hK _ _ _ _ (Su _ w ⟨undef,rfl⟩ ?_)⟩
    rw[←hh]
    exact St.skip (s:={t:=j2 ops.toList S (pl.map (·.i)) t0 tF,h:=hs.getD k [],m:=m}) o.dst hSt
   ·simp at N3
  ·-- an allocation that is done and not told of
   obtain⟨hfo,_,hgn⟩:=F.Th i o Oz Qn
   unfold dm at N3
   rw[hgn] at N3
   simp only[aV] at N3
   split at N3
   case h_2=>simp at N3
   rename_i d1 h1 Oe
   split at N3
   case isFalse=>simp at N3
   simp only[Ho,Hu] at N3
   obtain⟨rfl,rfl⟩:=N3
   unfold fu at Oe
   split at Oe
   ·rename_i Ol;rw[Ol] at hfo;simp[freeOp] at hfo
   split at Oe
   case h_2=>simp at Oe
   rename_i d2 h2 hop2
   simp only[Ho,Hu] at Oe
   obtain⟨rfl,hh1⟩:=Oe
   obtain⟨x,hxp,_,hd,hh2,N6⟩:=A8 hfo hop2
   have hhs:hs.getD (pos i+1) []=hs.getD (pos i) []++[x]:=by rw[←hh1,hh2]
   obtain⟨hi1,Sp⟩:=F.Om i o k x Oz Qn I.P9 hhs
   have hw:I9 o (yielded ops a.tmps)=true:=aW (b:=true) rt0 (by rw[hgn];rfl)
   rw[if_pos hw]
   obtain⟨l',R',E',rt',rd',hpd'⟩:=I.st
   refine DQ (X:={O:=hid pl X.O,w:=w,l:=l',h:=hs.getD k []}) (s:={t:=j2 ops.toList S (pl.map (·.i)) t0 tF,h:=hs.getD k [],m:=m}) R' rt' hxp (N6 _) hi1 Sp ?_
   intro v w' l2 p R2 E2 hPd hVR hfr
   simp only at R2 E2 hPd hfr
   refine hK k ({i:=i,p:=p,v:=v,x:=x}::pl) _ _ ?_
   have S2:hid ({i:=i,p:=p,v:=v,x:=x}::pl) X.O=pI (hid pl X.O) p:=by
    funext k'
    apply propext
    constructor
    ·rintro (h|⟨f,hf,c,h⟩)
     ·exact .inl (.inl h)
     ·rcases HR.1 hf with rfl|hf
      ·exact .inr ⟨c,h⟩
      ·exact .inl (.inr ⟨f,hf,c,h⟩)
    ·rintro ((h|⟨f,hf,c,h⟩)|⟨c,h⟩)
     ·exact .inl h
     ·exact .inr ⟨f,Iu _ hf,c,h⟩
     ·exact .inr ⟨_,IE ..,c,h⟩
   have hc:∀bV off y,¬avs (hid pl X.O) l' (hs.getD k []) bV→w.cell? ⟨bV,off,none⟩=some y→w'.cell? ⟨bV,off,none⟩=some y∧¬avs (pI (hid pl X.O) p) l2 (hs.getD k []) bV:=by
    intro bV off y hn hy
    obtain⟨g1,g2⟩:=E2.hc (O:=hid pl X.O) bV off y hn hy
    refine⟨g1,?_⟩
    rintro ((h|⟨c,h⟩)|h)
    ·exact g2 (.inl h)
    ·have:=(hfr bV c h).1
     have:=mJ hy
     omega
    ·exact g2 (.inr h)
   have Tf:putD (gq ops.toList S t0 tF) o.dst d2=gq ops.toList (S.setIfInBounds i true) t0 tF :=
    oC Oz S1 (fun k o' hk x hx Pc=>F.uniq k i o' o x hk Oz Pc hx) hdF
   have Qi:=eO _ _ rt'
   rw[bk] at Qi
   have Ps:∀y z,(a.put o.dst v).tmps.toList[y]? = some z→(o.dst=some y∧z=v)∨(o.dst ≠ some y∧a.tmps.toList[y]? = some z):=by
    intro y z hz
    cases Oo:o.dst with
    | none=>rw[Oo] at hz;exact .inr ⟨by simp,hz⟩
    | some x0 =>
     rw[Oo] at hz
     simp only[Act.put,Kw] at hz
     by_cases hxy:x0=y
     ·subst hxy
      have iF:=(Hs.1 hz).1
      simp only[List.length_set] at iF
      rw[List.getElem?_set_self iF] at hz
      exact .inl ⟨rfl,by simpa using hz.symm⟩
     ·rw[J9 hxy] at hz
      exact .inr ⟨by simpa using hxy,hz⟩
   refine⟨by simpa using I.size,On,⟨l2,by rw[S2];exact R2,E'.trans E2,?_,?_,?_⟩,?_,?_,?_,?_,I.P9⟩
   ·rw[S2]
    refine iP ?_ fun y z hz=>?_
    ·rw[bk,Qi]
     cases o.dst<;>simp[Act.put]
    ·rcases Ps y z hz with ⟨h3,rfl⟩|⟨h3,h4⟩
     ·have iF:y<tF.length:=by
       have:=(Hs.1 hz).1
       cases Oo:o.dst<;>rw[Oo] at this<;>simp[Act.put] at this<;>simp at Qi<;>omega
      rw[fW iF,if_pos (dS.2 ⟨i,o,by simp,Oz,h3⟩)]
      simp[Rel]
     ·have base:=Rel.mono hc E2.N0 _ _ (xJ rt' h4)
      have iF:y<tF.length:=by
       have:=(Hs.1 h4).1
       omega
      rw[fW iF] at base ⊢
      have e1:xg ops.toList (({i:=i,p:=p,v:=v,x:=x}::pl).map (·.i)) y=xg ops.toList (pl.map (·.i)) y:=by
       rw[JJ,dS,dS]
       constructor
       ·rintro⟨j,o',g1,g2,g3⟩
        simp only[Il,HR] at g1
        rcases g1 with rfl|g1
        ·rw[Oz] at g2;cases g2;exact absurd g3 h3
        ·exact⟨j,o',g1,g2,g3⟩
       ·rintro⟨j,o',g1,g2,g3⟩
        exact⟨j,o',by simp only[Il,HR];exact .inr g1,g2,g3⟩
      rw[e1,←Tf,cq h3]
      exact base
   ·have:(a.put o.dst v).defers=a.defers:=by cases o.dst<;>rfl
    rw[this]
    exact Lg E2.N0 (c5 rd') rd'
   ·intro e he
    rw[S2]
    rcases HR.1 he with rfl|he
    ·exact hPd
    ·refine(hpd' e he).mono hc E2.N0 (HS _) fun bV c hk=>?_
     have hO:hid pl X.O bV:=.inr ⟨e,he,c,hk⟩
     exact E2.same bV (R'.P2 bV hO) fun ho=>(R'.Ov bV ho).2 hO
   ·intro e he
    rcases HR.1 he with rfl|he
    ·refine⟨hVR,Qn,(Od _).2 (.inl rfl),Pz Of,hhs,o,Oz,fun y hy=>⟨fun z hz=>?_,fun iF=>?_⟩⟩
     ·rcases Ps y z hz with ⟨_,h4⟩|⟨h3,_⟩
      ·exact h4
      ·exact absurd hy h3
     ·rw[hdF y hy iF,hd]
    ·obtain⟨g1,g2,g3,g4,g5,o2,g6,g7⟩:=I.pe e he
     refine⟨g1,g2,(Od _).2 (.inr g3),g4,g5,o2,g6,fun y hy=>⟨fun z hz=>?_,(g7 y hy).2⟩⟩
     rcases Ps y z hz with ⟨h3,_⟩|⟨_,h4⟩
     ·exact absurd (F.uniq _ _ _ _ y g6 Oz hy h3) (Ou e he)
     ·exact(g7 y hy).1 z h4
   ·refine Ke.2 ⟨fun e he=>⟨fun h=>Ou e he h.symm,fun k c c' h3 h4=>(hfr k c h3).2 (.inr ⟨e,he,c',h4⟩)⟩,I.dis⟩
   ·intro e he k' c hk
    rcases HR.1 he with rfl|he
    ·obtain⟨h3,h4⟩:=hfr k' c hk
     exact⟨Nat.le_trans E'.size h3,fun h=>h4 (.inl h)⟩
    ·exact I.fresh e he k' c hk
   ·intro c o' oN Is
    rw[Od,I.chain c o' oN Is]
    simp only[Il,HR,not_or]
    constructor
    ·rintro⟨h3,h4⟩
     exact⟨.inr h3,fun h=>Oi (h▸h3),h4⟩
    ·rintro⟨h3|h3,h4,h5⟩
     ·exact absurd h3 h4
     ·exact⟨h3,h5⟩
 ·-- it leaves the heap alone
  have Rr:∀c o',ops.toList[c]? = some o'→quietOp o'.op=false→(pos c<k ↔ (c=i∨Lst S c)∧c ∉ pl.map (·.i)):=by
   intro c o' oN Is
   rw[I.chain c o' oN Is]
   constructor
   ·exact fun h=>⟨.inr h.1,h.2⟩
   ·rintro⟨rfl|h1,h2⟩
    ·rw[Oz] at oN;cases oN;rw[Of] at Is;cases Is
    ·exact⟨h1,h2⟩
  have Su:∀d',(∀x,o.dst=some x→x<tF.length→tF.getD x .any=d')→∀a' w',(∃v,a'.tmps=(a.put o.dst v).tmps) →
    St Γ {O:=hid pl X.O,w:=w,l:=l,h:=hs.getD k [],D:=X.D} {t:=putD (j2 ops.toList S (pl.map (·.i)) t0 tF) o.dst d',h:=hs.getD k [],m:=m} a' w' →
    Inv5 Γ X ops.toList pos late m t0 tF hs k (S.setIfInBounds i true) pl a' w':=fun d' Ph a' w' ha Rv =>
   I.after (_v:=undef) F Oz Oi P6 E R hpd Rv ha Ph (fun e he=>(I.pe e he).2.2.2.1) I.P9 Rr
  have hgF:aV ops.toList (ts.getD (pos i) []) o.guard=aV ops.toList (j2 ops.toList S (pl.map (·.i)) t0 tF) o.guard :=
   fy fun x hx=>(Pg x (by unfold de;simp only[Jg,Option.mem_toList];exact .inr hx)).symm
  unfold dm at N3
  split at N3
  ·rename_i hg
   rw[if_pos (aW rt0 hg)]
   obtain⟨d2,h2,Oe,Oo⟩:=F.quiet i o Oz Of (by rw[hgF];exact hg) k I.P9 fun c o' oN Is=>by
    refine⟨fun hp=>?_,fun hp hb=>?_⟩
    ·rw[JY]
     exact fun hb=>Oi (c4 I.closed ((I.chain c o' oN Is).1 hp).1 i hb)
    ·have h1:=(Pp c hb).2
     apply IP
     intro hl
     have:=(I.chain c o' oN Is).2 ⟨h1,fun hm=>by
      rw[HQ] at hm
      obtain⟨e,he,rfl⟩:=hm
      exact hl (I.pe e he).2.1⟩
     omega
   have hh:=bJ Of Oe
   subst hh
   rw[dQ (t':=j2 ops.toList S (pl.map (·.i)) t0 tF) o.op (fun x hx=>gA fun j hj=>(Pg j (by
    unfold de;simp only[Jg,List.mem_filterMap];exact .inl ⟨x,by simpa using hx,hj⟩)).symm)] at Oe
   exact C0 (s:={t:=j2 ops.toList S (pl.map (·.i)) t0 tF,h:=hs.getD k [],m:=m}) Oe hSt.marks (fun v w' Ot=>hK _ _ _ _ (Su d2 (fun x hx _=>Oo x hx) _ _ ⟨v,rfl⟩ Ot)) hSt
  ·rename_i hg
   simp only[Ho,Hu] at N3
   obtain⟨rfl,_⟩:=N3
   rw[if_neg (by rw[aW rt0 hg];simp)]
   exact⟨fun _ _=>trivial,hK _ _ _ _ (Su _ hdF _ w ⟨undef,rfl⟩ (St.skip (s:={t:=j2 ops.toList S (pl.map (·.i)) t0 tF,h:=hs.getD k [],m:=m}) o.dst hSt))⟩
  ·simp at N3
end
section
variable {P:Program} {Γ:aw} {X:Ctx} {r:Option Nat} {call:CallF} {ops:Array Oper} {pos:Nat→Nat} {late:Nat→Bool} {m:List Nat} {t0 tF:List D} {hs:List (List Blk)} {ts:List (List D)} {Q:Exit→AS→Prop}
theorem sC(F:Fx P Γ ops.toList (dd ops.toList []) pos late m t0 tF hs ts)(hQ:Q .normal {t:=tF,h:=hs.getD ops.size [],m:=m}):
  ∀(fuel:Nat) (k:Nat) (S:Array Bool) (pl:List Pe) (a:Act) (w:World),Inv5 Γ X ops.toList pos late m t0 tF hs k S pl a w→(Iy ops.size).countP (fun j=>!S.getD j false)≤fuel →
   wpAnyIn (FW r) 0 P .any ops (j1 Γ X Q) fuel S a w:=by
 have hn:ops.toList.length=ops.size:=by simp
 intro fuel
 induction fuel with
 | zero =>
  intro k S pl a w I Ro
  have N6:∀j,j<ops.size→Lst S j:=by
   intro j hj
   have h0:(Iy ops.size).countP (fun j=>!S.getD j false)=0:=by omega
   rw[List.countP_eq_zero] at h0
   have:=h0 j (by simpa using hj)
   simpa[Lst] using this
  refine⟨?_,ql F hQ I N6⟩
  unfold K5
  rw[Lp]
  intro j hj
  have Rz:j<ops.size:=by simpa using hj
  have:=N6 j Rz
  have Si:j<S.size:=by rw[I.size,hn];exact Rz
  unfold Lst at this
  have h3:S.getD j true=true:=by
   simp only[Im,Iw Si,Jm] at this ⊢
   exact this
  simp[h3]
 | succ fuel ih =>
  intro k S pl a w I Ro
  refine⟨fun Pf=>?_,fun i hi=>?_⟩
  ·refine ql F hQ I ?_
   have key:∀n,∀j,j<n→j<ops.size→Lst S j:=by
    intro n
    induction n with
    | zero=>intro j hj;omega
    | succ n ihn =>
     intro j hj hjs
     by_cases hjn:j<n
     ·exact ihn j hjn hjs
     have:j=n:=by omega
     subst this
     apply IP
     intro O3
     unfold K5 at Pf
     rw[Lp] at Pf
     have h1:=Pf j (by simpa using hjs)
     apply h1
     have Si:j<S.size:=by rw[I.size,hn];exact hjs
     have ho:ops[j]? = some ops[j]:=Iw hjs
     have h3:S.getD j true=false:=by
      unfold Lst at O3
      simp only[Im,Iw Si,Jm] at O3 ⊢
      simpa using O3
     have h4:(ops[j].after.all fun e=>!IL .any e||S.getD e.on false)=true:=by
      rw[Kg]
      intro e he
      cases hb:IL .any e
      ·rfl
      ·have iF:=F.Qa j ops[j] (by simp) e (by simpa using he) hb
       have:=ihn e.on iF (by omega)
       simpa[Lst] using this
     rw[h3,ho]
     simpa using h4
   exact fun j hj=>key (j+1) j (by omega) hj
  ·unfold K5 at hi
   rw[J6] at hi
   obtain⟨hi1,Sp⟩:=hi
   have his:i<ops.size:=by simpa using hi1
   have S1:i<S.size:=by rw[I.size,hn];exact his
   have ho:ops[i]? = some ops[i]:=Iw his
   generalize ho0:ops[i]=o at ho
   have Oz:ops.toList[i]? = some o:=by simpa using ho
   simp only[ho,H9,Jm,Hx,IU] at Sp
   obtain⟨hi3,hi4⟩:=Sp
   have Oi:¬Lst S i:=by
    unfold Lst
    simp only[Im,Iw S1,Jm] at hi3 ⊢
    simp[hi3]
   have P6:∀e∈o.after.toList,IL .any e=true→Lst S e.on:=by
    intro e he hb
    rw[Kg] at hi4
    have:=hi4 e (by simpa using he)
    simpa[hb,Lst] using this
   have Od:∀j,Lst (S.setIfInBounds i true) j ↔ j=i∨Lst S j:=fun j=>oD S1
   have Qk:(Iy ops.size).countP (fun j=>!(S.setIfInBounds i true).getD j false)≤fuel:=by
    have:(Iy ops.size).countP (fun j=>!(S.setIfInBounds i true).getD j false)<(Iy ops.size).countP (fun j=>!S.getD j false):=by
     refine kN (fun x hx=>?_) i (by simpa using his) ?_ ?_
     ·have h1:¬Lst (S.setIfInBounds i true) x:=by unfold Lst;simpa using hx
      rw[Od] at h1
      have:¬Lst S x:=fun h=>h1 (.inr h)
      unfold Lst at this
      simpa using this
     ·unfold Lst at Oi;simpa using Oi
     ·have:Lst (S.setIfInBounds i true) i:=(Od i).2 (.inl rfl)
      unfold Lst at this
      simpa using this
    omega
   have:=vX (r:=r) (K:=wpAnyIn (FW r) 0 P .any ops (j1 Γ X Q) fuel (S.setIfInBounds i true)) (Q':=j1 Γ X Q) F I Oz Oi P6 (fun k' pl' a' w' I'=>ih k' _ pl' a' w' I' Qk)
   unfold wpOpIn
   simp only[ho]
   exact this
end
section
variable {P:Program} {Γ:aw} {X:Ctx} {r:Option Nat} {call:CallF} {ops:Array Oper} {pos:Nat→Nat} {late:Nat→Bool} {s:AS} {tF:List D} {hs:List (List Blk)} {ts:List (List D)} {Q:Exit→AS→Prop}
theorem VW.draw5(ok:POk P){id:Nat}(F:Fx P Γ ops.toList (dd ops.toList []) pos late s.m s.t tF hs ts)(h0:hs.getD 0 []=s.h)
  (hun:∀x,(∀o∈ops.toList,o.dst ≠ some x)→tF.getD x .any=s.t.getD x .any) (hQ:Q .normal {t:=tF,h:=hs.getD ops.size [],m:=s.m}):VW P Γ X r (.region id ops true) Q s:=by
 intro a w N8
 refine wpIn_region_any ok.mixed ?_
 have Qr:∀j,(Mh ops.size false).getD j false=false:=by
  intro j
  simp only[Im,Array.getElem?_replicate]
  split<;>rfl
 refine sC (t0:=s.t) (hs:=hs) F hQ ops.size 0 _ [] a _ ⟨by simp,fun k o hk _ _ _ _=>?_,?_,fun e he=>by simp at he,List.Pairwise.nil,fun e he=>by simp at he,fun c o _ _=>?_,.inl rfl⟩ ?_
 ·unfold Lst at hk;rw[Qr] at hk;cases hk
 ·have e1:j2 ops.toList (Mh ops.size false) [] s.t tF=s.t:=by
   rw[ul]
   refine br (by rw[aI,F.len]) fun x hx=>?_
   rw[aI] at hx
   rw[fV hx]
   split
   ·rfl
   ·rename_i hp
    refine hun x fun o ho hd=>hp ?_
    obtain⟨k,hk⟩:=Jf.1 ho
    exact dy.2 ⟨k,o,hk,hd,Qr k⟩
  have hh:hid [] X.O=X.O:=by
   funext k'
   apply propext
   simp[hid]
  obtain⟨l,R,E,rt,rd⟩:=N8
  obtain⟨R',E'⟩:=R.of_heap (w':={w with drawn:=w.drawn+1}) rfl ⟨rfl,rfl,rfl,(by first|exact HS _|exact Nat.le_succ _)⟩
  refine⟨l,?_,?_,?_,?_,fun e he=>by simp at he⟩
  ·rw[h0,hh];exact R'
  ·rw[h0];exact E.trans E'
  ·rw[h0,hh,List.map_nil,e1];exact E'.relL rt
  ·rw[h0];exact rd
 ·unfold Lst
  rw[Qr]
  simp
 ·refine Nat.le_trans List.countP_le_length (by simp)
end
def vY(B:List Nat)(i j:Nat):Bool:=!(B.getD i 0).testBit j&&!(B.getD j 0).testBit i
def qm(L:List Oper)(B:List Nat):List Nat :=
 (L.zipIdx.filter fun p=>freeOp p.1.op&&p.1.guard.isNone&&(fA L).any fun c=>c != p.2&&vY B p.2 c).map (·.2)
def DS(B:List Nat)(lt:List Nat):List Nat→List Nat→List Nat
 | [],Oc=>Oc
 | j::js,Oc =>
  if lt.contains j then DS B lt js (Oc++[j])
  else (Oc.filter fun i=>(B.getD j 0).testBit i)++j::DS B lt js (Oc.filter fun i=>!(B.getD j 0).testBit i)
def DT(L:List Oper)(B:List Nat)(lt:List Nat):List Nat:=DS B lt (Iy L.length) []
def be(ord:List Nat)(i:Nat):Nat:=ord.idxOf i
def eP(L:List Oper)(B:List Nat)(ord:List Nat)(lt:List Nat):Bool :=
 (Zd (ord.length=L.length)&&(ord.zipIdx.all fun p=>be ord p.1==p.2&&Zd (p.1<L.length))) &&
 L.zipIdx.all fun p =>
  (Zd (be ord p.2<L.length) &&
  (ord[be ord p.2]? == some p.2)) &&
  ((p.1.after.toList.all fun e=>!IL .any e||Zd (e.on<p.2)) &&
  ((Iy (p.2+1)).all fun j=>!(B.getD p.2 0).testBit j||Zd (be ord j<be ord p.2))) &&
  ((L.zipIdx.all fun q=>(p.2==q.2||p.1.dst.isNone||!(p.1.dst==q.1.dst)) &&
   (quietOp p.1.op||quietOp q.1.op||lt.contains p.2||!Zd (be ord q.2<be ord p.2)||(B.getD p.2 0).testBit q.2)) &&
  ((de L p.1).all fun x=>L.zipIdx.all fun q=>!(q.1.dst==some x) ||
   ((B.getD p.2 0).testBit q.2&&(!lt.contains q.2||L.zipIdx.all fun s=>quietOp s.1.op||!Zd (be ord s.2<be ord q.2)||(B.getD p.2 0).testBit s.2)) ||
   (!(B.getD p.2 0).testBit q.2&&(B.getD q.2 0).testBit p.2))) &&
  (!lt.contains p.2||(freeOp p.1.op&&p.1.guard.isNone&&!quietOp p.1.op))
theorem wa{f:D→D}(hf:FixOk f){L:List Oper}{t:List D}{g:Option (Nat×Bool)}{b:Bool}(h:aV L t g=some b):aV L (t.map f) g=some b:=by
 unfold aV at h ⊢
 split at h
 ·exact h
 ·split at h
  ·rename_i x hx
   simp only[HW,IQ] at h ⊢
   cases ht:t[x]? with
   | none=>simp[ht,guardV] at h
   | some d =>
    simp only[ht,Jm,H9] at h ⊢
    have h0:=h
    unfold guardV at h
    split at h
    ·rw[hf.pure];exact h0
    ·rw[hf.gd];exact h0
    ·simp at h
  ·exact h
def j3(L:List Oper)(ord:List Nat):List Oper:=ord.map fun i=>L.getD i default
def fB(L:List Oper)(ord:List Nat):List Nat:=0::(fA L).map fun c=>be ord c+1
def innB(L:List Oper)(ord lt:List Nat)(hs:List (List Blk)):Bool :=
 lt.all fun i=>(fB L ord).all fun k=>(hs.getD k []).all (HB (hs.getD k []).length) &&
  ((hs.getD (be ord i+1) []).drop (hs.getD (be ord i) []).length).all (HB (hs.getD k []).length)
def kP(L:List Oper)(B ord lt:List Nat)(i k:Nat):Bool :=
 (fA L).all fun c=>if be ord c<k then !(B.getD c 0).testBit i else (!(B.getD i 0).testBit c||lt.contains c)
section
variable {P:Program} {Γ:aw} {call:CallF} {m:List Nat} {L:List Oper} {B ord lt:List Nat} {t0 tF:List D} {hs:List (List Blk)} {ts:List (List D)}
structure Ord (L:List Oper) (ord:List Nat):Prop where
 len:ord.length=L.length
 at':∀(i:Nat) (o:Oper),L[i]? = some o→be ord i<L.length∧ord[be ord i]? = some i
 back:∀(q i:Nat),ord[q]? = some i→be ord i=q∧i<L.length
theorem xM(hO:Ord L ord){i:Nat}{o:Oper}(h:L[i]? = some o):(j3 L ord)[be ord i]? = some o:=by
 unfold j3
 rw[IQ,(hO.at' i o h).2]
 simp[HW,h]
theorem iQ(hO:Ord L ord){q:Nat}{o:Oper}(h:(j3 L ord)[q]? = some o):∃i,L[i]? = some o∧be ord i=q:=by
 unfold j3 at h
 rw[IQ,Hy] at h
 obtain⟨i,h1,h2⟩:=h
 obtain⟨h3,h4⟩:=hO.back q i h1
 refine⟨i,?_,h3⟩
 rw[←h2,HW,HH h4]
 rfl
end
section
variable {P:Program} {Γ:aw} {call:CallF} {m:List Nat} {L:List Oper} {ord lt:List Nat} {t0 tF:List D} {h0:List Blk} {hs:List (List Blk)} {ts:List (List D)}
theorem C1(h:eP L (dd L []) ord lt=true):Ord L ord:=by
 unfold eP at h
 simp only[Hx,decide_eq_true_eq] at h
 obtain⟨⟨h1,h2⟩,h3⟩:=h
 refine⟨h1,fun i o ho=>?_,fun q i hq=>?_⟩
 ·have:=aZ h3 ho
  simp only[Hx,decide_eq_true_eq,beq_iff_eq] at this
  exact this.1.1.1
 ·have:=HU.1 h2 (i,q) (by rw[IY];exact hq)
  simpa using this
theorem um(_hO:Ord L ord){k:Nat}(hk:Cand L (be ord) k):k∈fB L ord:=by
 unfold fB
 rcases hk with rfl|⟨c,o,ho,hq,rfl⟩
 ·exact IE ..
 ·exact Iu _ (HQ.2 ⟨c,vW ho hq,rfl⟩)
theorem fx_ofQ(hs0:eP L (dd L []) ord lt=true)(hr:runR P Γ m L Eq (· = id) (j3 L ord) t0 h0 tF hs ts)(hi:innB L ord lt hs=true) (hq:∀(i:Nat) (o:Oper),L[i]? = some o→quietOp o.op=true→aV L (ts.getD (be ord i) []) o.guard=some true→∀k∈fB L ord,kP L (dd L []) ord lt i k=true →
   ∃d h',opSem P Γ (ts.getD (be ord i) []) (hs.getD k []) o.op=some (true,d,h')∧∀x,o.dst=some x→tF.getD x .any=d) :
  Fx P Γ L (dd L []) (be ord) (fun i=>lt.contains i) m t0 tF hs ts∧hs.getD 0 []=h0∧∀x,(∀o∈L,o.dst ≠ some x)→tF.getD x .any=t0.getD x .any:=by
 have hO:=C1 hs0
 have N8:=hs0
 unfold eP at N8
 simp only[Hx] at N8
 have N6:=N8.2
 have fact:=fun {i:Nat} {o:Oper} (ho:L[i]? = some o)=>aZ N6 ho
 simp only[Hx] at fact
 have Qa:∀(i:Nat) (o:Oper),L[i]? = some o→∀e∈o.after.toList,IL .any e=true→e.on<i:=by
  intro i o ho e he hb
  have:=HU.1 (fact ho).1.1.2.1 e he
  simpa[hb] using this
 have uniq:∀(i j:Nat) (o o':Oper) (x:Tmp),L[i]? = some o→L[j]? = some o'→o.dst=some x→o'.dst=some x→i=j:=by
  intro i j o o' x ho N9 hd Ph
  have:=aZ (fact ho).1.2.1 N9
  simp only[Hx] at this
  have:=this.1
  simpa[hd,Ph] using this
 obtain⟨g1,g2,g3,g4,g5⟩:=kM _ _ _ _ _ _ hr
 have inj:∀(i j:Nat) (o o':Oper),L[i]? = some o→L[j]? = some o'→be ord i=be ord j→i=j:=by
  intro i j o o' Qo hj he
  have h1:=(hO.at' i o Qo).2
  have h2:=(hO.at' j o' hj).2
  rw[he,h2] at h1
  simpa using h1.symm
 have posB:∀(i:Nat) (o:Oper) (j:Nat),L[i]? = some o→((dd L []).getD i 0).testBit j=true→be ord j<be ord i:=by
  intro i o j ho hb
  have Ol:jG L (fun x=>x≤i):=fun k o' hk N9 e he hbe=>by
   have:=Qa k o' N9 e he hbe
   show e.on≤i
   omega
  have h1:j≤i:=c4 Ol (k:=i) (HS i) j hb
  have:=HU.1 (fact ho).1.1.2.2 j (by simp;omega)
  rw[hb] at this
  simpa using this
 have hlen:(j3 L ord).length=L.length:=by unfold j3;rw[List.length_map,hO.len]
 have hatP:∀(i:Nat) (o:Oper),L[i]? = some o→∃call,L4 P Γ call∧∃d,dm P Γ call m L (ts.getD (be ord i) []) (hs.getD (be ord i) []) o=some (d,hs.getD (be ord i+1) []) ∧
   (∀x,(∀(j:Nat) (o':Oper),L[j]? = some o'→be ord i≤be ord j→o'.dst ≠ some x)→tF.getD x .any=(ts.getD (be ord i) []).getD x .any) ∧
   (∀x,(∀(j:Nat) (o':Oper),L[j]? = some o'→be ord j<be ord i→o'.dst ≠ some x)→(ts.getD (be ord i) []).getD x .any=t0.getD x .any) ∧
   (∀x,o.dst=some x→x<tF.length→tF.getD x .any=d):=by
  intro i o ho
  obtain⟨call,R8,f,d',d,⟨hf,k1,rfl⟩,k2,k3,k4⟩:=g5 (be ord i) o (xM hO ho)
  rw[hf,JC] at k1
  refine⟨call,R8,d',k1,fun x hx=>k2 x fun q o' hle Pb=>?_,fun x hx=>k3 x fun q o' hle Pb=>?_,fun x hx iF=>k4 x hx (fun q o' hlt' Pb=>?_) (by rw[←g1];exact iF)⟩
  ·obtain⟨j,hj,rfl⟩:=iQ hO Pb
   exact hx j o' hj hle
  ·obtain⟨j,hj,rfl⟩:=iQ hO Pb
   exact hx j o' hj hle
  ·obtain⟨j,hj,rfl⟩:=iQ hO Pb
   intro hd
   have:=uniq j i o' o x hj ho hd hx
   subst this
   omega
 have const1:∀q o,(j3 L ord)[q]? = some o→quietOp o.op=true→hs.getD (q+1) []=hs.getD q []:=by
  intro q o ho Of
  obtain⟨call,R8,f,d',d,⟨_,k1,_⟩,_⟩:=g5 q o ho
  exact kO Of k1
 have const:∀n k,(∀c o,L[c]? = some o→quietOp o.op=false→¬(k≤be ord c∧be ord c<k+n))→k+n≤L.length→hs.getD (k+n) []=hs.getD k []:=by
  intro n
  induction n with
  | zero=>intro k _ _;rfl
  | succ n ih =>
   intro k h1 h2
   have iF:k+n<(j3 L ord).length:=by omega
   have ho:=HH iF
   obtain⟨j,hj,hpj⟩:=iQ hO ho
   have Of:quietOp ((j3 L ord)[k+n]).op=true:=by
    rw[←Bool.not_eq_false]
    exact fun hf=>h1 j _ hj hf (by omega)
   rw[←Nat.add_assoc,const1 _ _ ho Of]
   exact ih k (fun c o oN Is=>fun hx=>h1 c o oN Is (by omega)) (by omega)
 refine⟨⟨Qa,posB,uniq,inj,fun i o ho=>(hO.at' i o ho).1,?_,?_,?_,?_,hatP,g1,const,?_,?_⟩,?_,?_⟩
 ·intro i o x ho hx k o' hk hd
  have:=HU.1 (fact ho).1.2.2 x hx
  have:=aZ this hk
  simp only[hd,beq_self_eq_true,Ka,KM,Bool.or_eq_true,Hx] at this
  rcases this with h|h
  ·exact .inl h.1
  ·exact .inr h.2
 ·intro c c' o o' hc Pk hq1 hq2 hl hp
  have:=aZ (fact hc).1.2.1 Pk
  simp only[Hx] at this
  have:=this.2
  rw[hq1,hq2,hl] at this
  simpa[hp] using this
 ·intro i o ho hl
  have:=(fact ho).2
  simp only[hl,Ka,KM,Hx,IU,Option.isNone_iff_eq_none] at this
  exact⟨this.1.1,this.2,this.1.2⟩
 ·intro i j o o' x ho hx hj hd hl hb c o2 hc hq2 hp
  have:=HU.1 (fact ho).1.2.2 x hx
  have:=aZ this hj
  simp only[hd,beq_self_eq_true,Ka,KM,hb,Bool.true_and,hl,Bool.false_and,Bool.or_false] at this
  have:=aZ this hc
  simpa[hq2,hp] using this
 ·intro i o k x ho hl hk hx
  have h1:=HU.1 hi i (by simpa using hl)
  have h2:=HU.1 h1 k (um hO hk)
  simp only[Hx] at h2
  refine⟨h2.1,?_⟩
  have:=h2.2
  rw[hx] at this
  simpa using this
 ·intro i o ho Of hg k hk Px
  have hc:kP L (dd L []) ord lt i k=true:=by
   unfold kP
   rw[HU]
   intro c oN
   obtain⟨o',N9,Pb⟩:=hC oN
   obtain⟨k1,k2⟩:=Px c o' N9 Pb
   split
   ·rename_i iF
    rw[k1 iF];rfl
   ·rename_i iF
    cases hb:((dd L []).getD i 0).testBit c
    ·rfl
    ·simpa using k2 (by omega) hb
  exact hq i o ho Of hg k (um hO hk) hc
 ·simp[HW,g3]
 ·intro x hx
  refine g2 x fun o ho=>?_
  obtain⟨q,Pb⟩:=Jf.1 ho
  obtain⟨j,hj,_⟩:=iQ hO Pb
  exact hx o (List.mem_of_getElem? hj)
end
def ey(ts:List D):List (Tmp×D)→List D
 | []=>ts
 | p::ps=>ey (ts.set p.1 p.2) ps
def oE(b:Nat)(e:Exit)(s:AS):Option (D×List Blk) :=
 match s.h[b]? with
 | some (.loop _ _ _ ts ps a c)=>match e with
  | .normal=>some (lit (.bool true),s.h.set b (.loop .ready none 0 ts ps a c))
  | .ret=>some (lit (.bool false),s.h.set b (.loop .done (some .ret) 0 ts ps a c))
  | .exit i=>some (lit (.bool false),s.h.set b (.loop .done (some (.exit i)) 0 ts ps a c))
  | _=>none
 | _=>none
def sD(b:Nat)(t:List D)(m:List Nat)(h:List Blk):Option (Exit×AS) :=
 match h[b+1]? with
 | some (.loop st Oc _ ts ps a c)=>match st with
  | .busy=>none
  | _=>match aA (h.set (b+1) (.loop .exhausted Oc 0 ts ps a c)) (b::m) with
   | true=>match Oc with
    | none=>some (.normal,{t:=t,h:=h.set (b+1) (.loop .exhausted Oc 0 ts ps a c),m:=b::m})
    | some .ret=>some (.ret,{t:=t,h:=h.set (b+1) (.loop .exhausted Oc 0 ts ps a c),m:=b::m})
    | some (.exit i)=>some (.exit i,{t:=t,h:=h.set (b+1) (.loop .exhausted Oc 0 ts ps a c),m:=b::m})
    | some _=>none
   | false=>none
 | _=>none
section
variable {P:Program} {Γ:aw} {O:Nat→Prop} {w:World} {l:Loc} {h:List Blk}
theorem oG(R:Rep Γ O w l h){b bV cp:Nat}{st:LoopState}{p:Option Code}{f:FuncId}{ts:List D}{ps:Array Tmp}{a c:Code}(hb:h[b]? = some (.loop st p f ts ps a c))(hl:l b=some (bV,cp)):
  ∃rec:Loop,w.heap[bV]? = some (.loop rec)∧rec.state=st∧rec.pending=p∧rec.params=ps∧rec.assign=a∧rec.body=c∧RelL w (avs O l h) l h ts rec.tmps.toList ∧
   ∀st' p',Rep Γ O {w with heap:=w.heap.setIfInBounds bV (.loop {rec with state:=st',pending:=p' })} l (h.set b (.loop st' p' 0 ts ps a c)) ∧
    Ext w l h {w with heap:=w.heap.setIfInBounds bV (.loop {rec with state:=st',pending:=p' })} l (h.set b (.loop st' p' 0 ts ps a c)):=by
 obtain⟨Oh,Pm,tv,dr,R5,h1,h2,h3⟩:=R.bV b _ hb
 obtain⟨rfl,rfl⟩:bV=Oh∧cp=Pm:=by simpa[hl] using h1
 refine⟨_,h2,rfl,rfl,rfl,rfl,rfl,h3,fun st' p'=>?_⟩
 exact R.setAt hb (by simp) hl (x':=.loop st' p' 0 ts ps a c) trivial (fun E hg=>⟨bV,cp,tv,dr,R5,hl,hg,E.relL h3⟩)
theorem eQ{r:Nat}{x:Loop}(hr:w.heap[r]? = some (.loop x)):(Instr.getLoop r).run P w=.ok x w:=by
 simp only[Instr.getLoop,HM,bh (P:=P) hr (by simp),HE,H3]
theorem iR{w':World}{l':Loc}{h':List Blk}(E:Ext w l h w' l' h'){b:Nat}{st st':LoopState}{p p':Option Code}{f f':FuncId}{ts Qp:List D}{ps ps':Array Tmp}{a c a' c':Code}
  (hb:h[b]? = some (.loop st p f ts ps a c)) (Pr:h'[b]? = some (.loop st' p' f' Qp ps' a' c')):l' b=l b:=by
 obtain⟨x',h1,h2,h3⟩:=E.N0 b _ hb
 rw[Pr] at h1
 cases h1
 exact h3 trivial
theorem kQ{av:Nat→Prop}:∀(ps:List Tmp) (args:List D) (vs:List Value) (ts:List D) (tv:Array Value),RelL w av l h args vs→RelL w av l h ts tv.toList →
  RelL w av l h (ey ts (ps.zip args)) ((ps.zip vs).foldl (fun (t:Array Value) (p:Tmp×Value)=>t.setIfInBounds p.1 p.2) tv).toList
 | [],_,_,ts,tv,_,rt=>by simpa[ey] using rt
 | _::_,[],[],ts,tv,_,rt=>by simpa[ey] using rt
 | _::_,[],_::_,_,_,ra,_=>by simp[RelL] at ra
 | _::_,_::_,[],_,_,ra,_=>by simp[RelL] at ra
 | p::ps,d::args,v::vs,ts,tv,ra,rt=>by
  simp only[RelL] at ra
  simp only[List.zip_cons_cons,ey,List.foldl_cons]
  exact kQ ps args vs _ _ ra.2 (by rw[Kw];exact ow ra.1 _ _ _ rt)
theorem sG{b:Nat}{args:List D}{Oc:Option Code}{f:FuncId}{ts:List D}{ps:Array Tmp}{asg body:Code}{t1:List D}{h1:List Blk}{p1:Option Code}{f1:FuncId}{ts1:List D}{ps1:Array Tmp}
  {a1 b1:Code} {e2:Exit} {s2:AS} {d:D} {h':List Blk} (hb:h[b]? = some (.loop .ready Oc f ts ps asg body)) (hlen:args.length=ps.size)
  (hasg:∀X r,X.h=h→VW P Γ X r asg (fun e s=>e=.normal∧s={t:=t1,h:=h1,m:=[]}) {t:=ey ts (ps.toList.zip args),h:=h,m:=[]})
  (hb1:h1[b]? = some (.loop .ready p1 f1 ts1 ps1 a1 b1))
  (Tc:∀X r,X.h=h→VW P Γ X r body (fun e s=>e=e2∧s=s2) {t:=t1,h:=h1.set b (.loop .busy p1 0 ts1 ps1 a1 b1),m:=[]})
  (Py:oE b e2 s2=some (d,h')):VInv P Γ (.ref (.yl b)) args h fun d2 h2=>d2=d∧h2=h':=by
 intro O w l y vs R rx ra r o a next Q' hn
 simp only[Rel,RefRel,hb] at rx
 obtain⟨_,bV,cp,hl,rfl⟩:=rx
 obtain⟨rec,g1,g2,g3,g4,g5,g6,g7,_⟩:=oG R hb hl
 have hlv:=eO _ _ ra
 have e1:(do let d ←JK (.func (.yield bV) #[] #[]) vs.toArray;invoke d.target d.args:Sem Next).run P w =
   .ok (.round bV rec.fn ((rec.params.zip vs.toArray).foldl (fun tmps (p:Tmp×Value)=>tmps.setIfInBounds p.1 p.2) rec.tmps) rec.assign rec.body) w:=by
  have Qv:vs.length=rec.params.size:=by rw[g4,←hlen,hlv]
  simp only[JK,HM,H3,HE,invoke,Instr.yield,eQ (P:=P) g1,Array.empty_append]
  simp[Qv]
 rw[e1]
 refine⟨fun h=>by simp[Fence.wide] at h,?_⟩
 rw[g5,g6,g4]
 refine roundIn_of_wpIn (F:=FW r) trivial ?_
 have st0:St Γ {O:=O,w:=w,l:=l,h:=h} {t:=ey ts (ps.toList.zip args),h:=h,m:=[]}
   {tmps:=(ps.zip vs.toArray).foldl (fun tmps (p:Tmp×Value)=>tmps.setIfInBounds p.1 p.2) rec.tmps,defers:=[]} w:=by
  refine⟨l,R,Ext.refl _ _ _,?_,by simp[DefOk]⟩
  have:=kQ (w:=w) (l:=l) (h:=h) (av:=avs O l h) ps.toList args vs ts rec.tmps ra g7
  rw[←Array.foldl_toList]
  simpa using this
 refine wpIn_mono (hasg _ (some bV) rfl _ _ st0) ?_
 rintro e P0 Pl ⟨_,s1,⟨rfl,rfl⟩,l1,R1,E1,rt1,rd1⟩
 have Oj:l1 b=some (bV,cp):=by rw[iR E1 hb hb1];exact hl
 obtain⟨rec1,k1,k2,k3,k4,k5,k6,k7,k8⟩:=oG R1 hb1 Oj
 obtain⟨R2,E2⟩:=k8 .busy p1
 refine⟨{Pl with heap:=Pl.heap.setIfInBounds bV (.loop {rec1 with state:=.busy,pending:=p1})},?_,?_⟩
 ·have:({rec1 with state:=.busy}:Loop)={rec1 with state:=.busy,pending:=p1}:=by rw[←k3]
  simp only[Instr.beginRound,HM,eQ (P:=P) k1,HE,this,bN (P:=P) k1 (by simp),k2,H3]
 ·have st1:St Γ {O:=O,w:=w,l:=l,h:=h} {t:=t1,h:=h1.set b (.loop .busy p1 0 ts1 ps1 a1 b1),m:=[]} P0 {Pl with heap:=Pl.heap.setIfInBounds bV (.loop {rec1 with state:=.busy,pending:=p1})}:=by
   refine⟨l1,R2,E1.trans E2,E2.relL rt1,?_⟩
   exact rd1
  refine wpIn_mono (Tc _ (some bV) rfl _ _ st1) ?_
  rintro e a₂ S7 ⟨_,s3,⟨rfl,rfl⟩,l2,R3,E3,rt3,rd3⟩
  unfold oE at Py
  split at Py
  case h_2=>simp at Py
  rename_i st3 p3 f3 ts3 ps3 a3 b3 hb3
  have Sq:l2 b=some (bV,cp):=by rw[iR E3 hb hb3];exact hl
  obtain⟨Rn,m1,m2,m3,m4,m5,m6,m7,m8⟩:=oG R3 hb3 Sq
  have Rl:∀jump:Option Code,(Instr.endRound bV jump).run P S7=.ok (.bool jump.isNone) {S7 with heap:=S7.heap.setIfInBounds bV (.loop {Rn with state:=if jump.isNone then .ready else .done,pending:=jump})}:=by
   intro jump
   simp only[Instr.endRound,HM,eQ (P:=P) m1,HE,bN (P:=P) m1 (by simp),H3]
  cases e with
  | normal =>
   simp only[Ho,Hu] at Py
   obtain⟨rfl,rfl⟩:=Py
   obtain⟨R4,E4⟩:=m8 .ready none
   exact⟨_,_,Rl none,hn _ _ _ l2 _ ⟨rfl,rfl⟩ R4 (E3.trans E4) (by simp[Rel,RelP])⟩
  | exit i =>
   simp only[Ho,Hu] at Py
   obtain⟨rfl,rfl⟩:=Py
   obtain⟨R4,E4⟩:=m8 .done (some (.exit i))
   exact⟨_,_,Rl (some (.exit i)),hn _ _ _ l2 _ ⟨rfl,rfl⟩ R4 (E3.trans E4) (by simp[Rel,RelP])⟩
  | ret =>
   simp only[Ho,Hu] at Py
   obtain⟨rfl,rfl⟩:=Py
   obtain⟨R4,E4⟩:=m8 .done (some .ret)
   exact⟨_,_,Rl (some .ret),hn _ _ _ l2 _ ⟨rfl,rfl⟩ R4 (E3.trans E4) (by simp[Rel,RelP])⟩
  | _=>simp at Py
end
section
variable {P:Program} {Γ:aw} {X:Ctx} {s:AS}
theorem wb{w:World}(o:Obj):(newObj o).run P w=.ok w.heap.size (w.alloc o):=rfl
theorem VW.rangeFunc(ok:POk P){g:Operand}{ps:Array Tmp}{asg body:Code}{f:FuncId}{fi ca:List D}{h2:List Blk}{e:Exit}{s':AS}(hg:ft (evalD Γ s.t g)=some (f,fi,ca))(hf:mA P f=true)
  (hc:VCall P Γ f (fi++[.ref (.yl (s.h.length+1))]++ca) (s.h++[.defd]++[.loop .ready none 0 s.t ps asg body]) fun _ h'=>h'=h2)
  (he:sD s.h.length s.t s.m h2=some (e,s')):VW P Γ X none (.rangeFunc g ps asg body) (fun e' Sc=>e'=e∧Sc=s') s:=by
 intro a w hs
 have hmk:=hs.marks
 obtain⟨l,R,E,rt,rd⟩:=hs
 refine wpIn_rangeFunc fun fn _=>?_
 obtain⟨R1,E1⟩:=eo R (.deferred (some [])) .defd 0 (fun E=>⟨w.heap.size,0,by simp,heap_alloc_new w _⟩)
 generalize Qj:w.alloc (.deferred (some []))=w1 at R1 E1
 generalize Oj:l.upd s.h.length (some (w.heap.size,0))=l1 at R1 E1
 have rt1:=E1.relL rt
 have hlen:(s.h++[Mi]).length=s.h.length+1:=by simp
 obtain⟨R2,E2⟩:=eo R1 (.loop {state:=.ready,pending:=none,fn,tmps:=a.tmps,params:=ps,assign:=asg,body,defers:=w.heap.size}) (.loop .ready none 0 s.t ps asg body) 0
  (fun E=>⟨w1.heap.size,0,a.tmps,w.heap.size,fn,by simp,heap_alloc_new w1 _,E.relL rt1⟩)
 generalize hw2:w1.alloc (.loop {state:=.ready,pending:=none,fn,tmps:=a.tmps,params:=ps,assign:=asg,body,defers:=w.heap.size})=w2 at R2 E2
 generalize Sq:l1.upd (s.h++[Mi]).length (some (w1.heap.size,0))=l2 at R2 E2
 rw[hlen] at Sq
 obtain⟨a0,c0,e0,r1,r2⟩:=jD (bq R2 ((E1.trans E2).relL rt) g) hg
 unfold mA at hf
 split at hf
 case h_2=>simp at hf
 rename_i R5 hfn'
 refine⟨w1.heap.size,[{target:=.collected w.heap.size,args:=#[]}],w2,{target:=.fn (.func f) c0,args:=a0++#[.func (.yield w1.heap.size) #[] #[]]},w2,f,a0++#[.func (.yield w1.heap.size) #[] #[]]++c0,w2,?_,?_,fun _ _=>trivial,?_,fun h=>by simp[Fence.wide] at h,?_⟩
 ·simp only[Instr.enterLoop,HM,wb,HE,H3,Qj,hw2]
 ·simp only[resolve,e0,JK,H3]
  simp
  rfl
 ·exact call_run ok hfn' hf _ _
 ·have hl2n:l2 (s.h.length+1)=some (w1.heap.size,0):=by rw[←Sq];simp
  have hl2d:l2 s.h.length=some (w.heap.size,0):=by rw[←Sq,Loc.upd_ne _ _ _ (by omega),←Oj];simp
  have hHn:(s.h++[Mi]++[Blk.loop .ready none 0 s.t ps asg body])[s.h.length+1]? = some (.loop .ready none 0 s.t ps asg body):=by
   rw[Ib (by simp)];simp
  have hHd:(s.h++[Mi]++[Blk.loop .ready none 0 s.t ps asg body])[s.h.length]? = some .defd:=by
   rw[HK (by simp),Ib (by simp)];simp
  have Oo:DefOk X.D l2 (s.h++[Mi]++[Blk.loop .ready none 0 s.t ps asg body]) (s.h.length::s.m) ({target:=.collected w.heap.size,args:=#[]}::a.defers):=by
   simp only[DefOk]
   refine⟨⟨w.heap.size,0,hHd,hl2d,rfl⟩,?_⟩
   exact Lg (E1.trans E2).N0 (by rw[List.append_assoc];exact d9 hmk) rd
  have Ob:=hc X.O w2 l2 (a0++#[Value.func (Fn.yield w1.heap.size) #[] #[]]++c0).toList R2 (by
   simp only[Array.toList_append]
   refine cR (cR r1 ?_) r2
   simp only[RelL,Rel,RefRel,hHn]
   exact⟨⟨rfl,w1.heap.size,0,hl2n,rfl⟩,trivial⟩)
  refine CallsIn.mono (Ob:CallsIn (FW none) 0 P f _ w2 _) ?_
  rintro e1 w3 ⟨v,d,h',l3,rfl,rfl,R3,E3,_⟩
  unfold sD at he
  split at he
  case h_2=>simp at he
  rename_i st Oc f3 ts3 ps3 a3 c3 hb3
  have hl3:l3 (s.h.length+1)=some (w1.heap.size,0):=by rw[iR E3 hHn hb3];exact hl2n
  obtain⟨Rn,m1,m2,m3,m4,m5,m6,m7,m8⟩:=oG R3 hb3 hl3
  obtain⟨R4,E4⟩:=m8 .exhausted Oc
  split at he
  ·simp at he
  rename_i hbusy
  split at he
  case h_2=>simp at he
  rename_i hmk3
  have N8:St Γ X {t:=s.t,h:=h'.set (s.h.length+1) (.loop .exhausted Oc 0 ts3 ps3 a3 c3),m:=s.h.length::s.m} {a with defers:=[{target:=.collected w.heap.size,args:=#[]}]++a.defers}
    {w3 with heap:=w3.heap.setIfInBounds w1.heap.size (.loop {Rn with state:=.exhausted,pending:=Oc})} :=
   ⟨l3,R4,(E.trans (E1.trans E2)).trans (E3.trans E4),((E1.trans E2).trans (E3.trans E4)).relL rt,Lg (E3.trans E4).N0 hmk3 Oo⟩
  have hrun:(Instr.endLoop w1.heap.size).run P w3=.ok Oc {w3 with heap:=w3.heap.setIfInBounds w1.heap.size (.loop {Rn with state:=.exhausted,pending:=Oc})}:=by
   have e1:({Rn with state:=.exhausted}:Loop)={Rn with state:=.exhausted,pending:=Oc}:=by rw[←m3]
   have e2:(Rn.state==LoopState.busy)=false:=by
    rw[m2]
    cases st<;>first|rfl|exact absurd rfl hbusy
   simp only[Instr.endLoop,HM,eQ (P:=P) m1,HE,e2,Ik,if_false,H3,bN (P:=P) m1 (by simp),m3]
  refine⟨Oc,_,hrun,?_⟩
  cases Oc with
  | none =>
   simp only[Ho,Hu] at he
   obtain⟨rfl,rfl⟩:=he
   exact⟨by simp,_,⟨rfl,rfl⟩,N8⟩
  | some c =>
   cases c<;>simp only[Ho,Hu,reduceCtorEq] at he
   ·obtain⟨rfl,rfl⟩:=he
    exact wpIn_exit ⟨by simp,_,⟨rfl,rfl⟩,N8⟩
   ·obtain⟨rfl,rfl⟩:=he
    exact wpIn_ret ⟨by simp,_,⟨rfl,rfl⟩,N8⟩
end
section
variable {P:Program} {Γ:aw}
abbrev Det(e:Exit)(s':AS):Exit→AS→Prop:=fun e' Sc=>e'=e∧Sc=s'
end
def Ev(P:Program)(Γ:aw)(f:FuncId)(args:List D)(h:List Blk)(d:D)(h':List Blk):Prop:=VCall P Γ f args h fun d2 h2=>d2=d∧h2=h'
def Iv(P:Program)(Γ:aw)(x:D)(args:List D)(h:List Blk)(d:D)(h':List Blk):Prop:=VInv P Γ x args h fun d2 h2=>d2=d∧h2=h'
def OpW(P:Program)(Γ:aw)(t:List D)(h:List Blk)(o:Op)(K:D→List Blk→Prop):Prop :=
 match o with
 | .call {callee:=.value fv,args,.. }=>∃d h',Iv P Γ (evalD Γ t fv) (args.toList.map (evalD Γ t)) h d h'∧K d h'
 | op=>∃d h',opSem P Γ t h op=some (true,d,h')∧K d h'
theorem OpW.call{P:Program}{Γ:aw}{t:List D}{h h':List Blk}{d:D}{fv:Operand}{args:Array Operand}{ats:Array TypeId}{K:D→List Blk→Prop}(hi:Iv P Γ (evalD Γ t fv) (args.toList.map (evalD Γ t)) h d h')(hK:K d h'):
  OpW P Γ t h (.call {callee:=.value fv,args,argTypes:=ats}) K:=⟨d,h',hi,hK⟩
theorem OpW.sem{P:Program}{Γ:aw}{t:List D}{h h':List Blk}{d:D}{op:Op}{K:D→List Blk→Prop}(hi:opSem P Γ t h op=some (true,d,h'))(hK:K d h'):OpW P Γ t h op K:=by
 unfold OpW
 split
 ·simp[opSem] at hi
 ·exact⟨d,h',hi,hK⟩
theorem OpW.run{P:Program}{Γ:aw}{t:List D}{h:List Blk}{op:Op}{K:D→List Blk→Prop}(hw:OpW P Γ t h op K):∃call,L4 P Γ call∧∃d h',fu P Γ call t h op=some (d,h')∧K d h':=by
 unfold OpW at hw
 split at hw
 ·rename_i fv args ats
  obtain⟨d,h',hi,hK⟩:=hw
  classical
  refine⟨fun x as g=>if x=evalD Γ t fv∧as=args.toList.map (evalD Γ t)∧g=h then some (d,h') else none,?_,d,h',?_,hK⟩
  ·intro x as g d1 h1 hc
   simp only at hc
   split at hc
   ·rename_i he
    obtain⟨rfl,rfl,rfl⟩:=he
    simp only[Ho,Hu] at hc
    obtain⟨rfl,rfl⟩:=hc
    exact hi
   ·simp at hc
  ·simp[fu]
 ·rename_i O3
  obtain⟨d,h',hi,hK⟩:=hw
  refine⟨fun _ _ _=>none,fun _ _ _ _ _ hc=>by simp at hc,d,h',?_,hK⟩
  unfold fu
  split
  ·exact absurd rfl (O3 _ _ _)
  ·rw[hi]
def StW(P:Program)(Γ:aw)(m:List Nat)(L:List Oper)(t:List D)(h:List Blk)(o:Oper)(K:D→List Blk→Prop):Prop :=
 ∃call,L4 P Γ call∧∃f d' d h',(FixOk f∧dm P Γ call m L (t.map f) h o=some (d',h')∧Wk d' d)∧K d h'
def OpOk(P:Program)(Γ:aw)(t:List D)(h:List Blk)(o:Op)(d:D)(h':List Blk):Prop:=∃call,L4 P Γ call∧fu P Γ call t h o=some (d,h')
theorem OpOk.sem{P:Program}{Γ:aw}{t:List D}{h h':List Blk}{o:Op}{d:D}(hs:opSem P Γ t h o=some (true,d,h')):OpOk P Γ t h o d h':=by
 obtain⟨call,hc,d1,h1,h2,rfl,rfl⟩:=(OpW.sem (K:=fun d1 h1=>d1=d∧h1=h') hs ⟨rfl,rfl⟩).run
 exact⟨call,hc,h2⟩
theorem OpOk.call{P:Program}{Γ:aw}{t:List D}{h h':List Blk}{d:D}{fv:Operand}{args:Array Operand}{ats:Array TypeId}(hi:Iv P Γ (evalD Γ t fv) (args.toList.map (evalD Γ t)) h d h'):
  OpOk P Γ t h (.call {callee:=.value fv,args,argTypes:=ats}) d h':=by
 obtain⟨call,hc,d1,h1,h2,rfl,rfl⟩:=(OpW.call (ats:=ats) (K:=fun d1 h1=>d1=d∧h1=h') hi ⟨rfl,rfl⟩).run
 exact⟨call,hc,h2⟩
theorem OpOk.congr{P:Program}{Γ:aw}{t t':List D}{h h':List Blk}{o:Op}{d:D}(he:∀x∈o.operands,evalD Γ t x=evalD Γ t' x)(ho:OpOk P Γ t h o d h'):OpOk P Γ t' h o d h':=by
 obtain⟨call,hc,hr⟩:=ho
 exact⟨call,hc,by rw[←kK o he];exact hr⟩
theorem StW.on{P:Program}{Γ:aw}{m:List Nat}{L:List Oper}{t:List D}{h h':List Blk}{o:Oper}{K:D→List Blk→Prop}{d:D}(hg:aV L t o.guard=some true)(ho:OpOk P Γ t h o.op d h')(hm:aA h' m=true)(hK:K d h'):StW P Γ m L t h o K:=by
 obtain⟨call,hc,hr⟩:=ho
 exact⟨call,hc,id,d,d,h',⟨FixOk.id,by rw[JC];unfold dm;rw[hg,hr];simp[hm],Wk.refl _⟩,hK⟩
theorem StW.off{P:Program}{Γ:aw}{m:List Nat}{L:List Oper}{t:List D}{h:List Blk}{o:Oper}{K:D→List Blk→Prop}(hg:aV L t o.guard=some false)(hK:K (lit undef) h):StW P Γ m L t h o K :=
 ⟨fun _ _ _=>none,fun _ _ _ _ _ hc=>by simp at hc,id,_,_,h,⟨FixOk.id,by rw[JC];unfold dm;rw[hg],Wk.refl _⟩,hK⟩
theorem StW.spec{P:Program}{Γ:aw}{m:List Nat}{L:List Oper}{t:List D}{h:List Blk}{o:Oper}{K:D→List Blk→Prop}{d:D}{b:Bool}(hg:aV L t o.guard=some b)(ho:b=true→OpOk P Γ (t.map fixD) h o.op d h)(hm:aA h m=true)(hK:K (.grd b d) h):StW P Γ m L t h o K:=by
 cases b with
 | true =>
  obtain⟨call,hc,hr⟩:=ho rfl
  exact⟨call,hc,fixD,d,.grd true d,h,⟨FixOk.fixD,by unfold dm;rw[wa FixOk.fixD hg,hr];simp[hm],fun _ _ _ _ _ r=>by simpa[Rel] using r⟩,hK⟩
 | false =>
  exact⟨fun _ _ _=>none,fun _ _ _ _ _ hc=>by simp at hc,id,lit undef,.grd false d,h,⟨FixOk.id,by rw[JC];unfold dm;rw[hg],fun _ _ _ _ _ r=>by simpa[Rel,RelP] using r⟩,hK⟩
theorem gB(w:World){f f0:D→D}(hf:FixOk f)(hf0:FixOk f0){L:List Oper}{t:List D}{g:Option (Nat×Bool)}{b b0:Bool}(h:aV L (t.map f) g=some b)(h0:aV L (t.map f0) g=some b0):b=b0:=by
 unfold aV at h h0
 split at h
 ·simp_all
 ·split at h
  ·rename_i x hx
   simp only[hx] at h0
   rw[bi hf.any] at h
   rw[bi hf0.any] at h0
   generalize t.getD x .any=d at h h0
   obtain⟨g1,y,g2⟩:=gz h w (fun _=>False) (fun _=>none) []
   have g3:=(hf0.both d).1 w (fun _=>False) (fun _=>none) [] y ((hf.both d).2 w (fun _=>False) (fun _=>none) [] y g2)
   rw[←g1 y g2,←(gz h0 w (fun _=>False) (fun _=>none) []).1 y g3]
  ·simp_all
def RW(P:Program)(Γ:aw)(m:List Nat)(L:List Oper)(c:Bool):List Oper→List D→List Blk→(List D→List Blk→Prop)→Prop
 | [],t,h,K=>K t h
 | o::os,t,h,K=>StW P Γ m L t h o fun d h'=>(c=true→h'=h)∧RW P Γ m L c os (putD t o.dst d) h' K
theorem RW.runR{P:Program}{Γ:aw}{m:List Nat}{L:List Oper}{K:List D→List Blk→Prop}:∀(os:List Oper) (t:List D) (h:List Blk),RW P Γ m L true os t h K →
  ∃tF hs ts,Vi.runR P Γ m L Wk FixOk os t h tF hs ts∧K tF h∧(∀k,k≤os.length→hs.getD k []=h)
 | [],t,h,hw=>⟨t,[h],[],⟨rfl,rfl,rfl⟩,hw,fun k hk=>by simp at hk;subst hk;rfl⟩
 | o::os,t,h,hw=>by
  obtain⟨call,hc,f,d',d,h',h1,h2,h3⟩:=hw
  obtain rfl:=h2 rfl
  obtain⟨tF,hs,ts,g1,g2,g3⟩:=RW.runR os _ _ h3
  exact⟨tF,h'::hs,t::ts,⟨call,f,d',d,h',hs,ts,hc,h1,g1,rfl,rfl⟩,g2,fun k hk=>by
   cases k with
   | zero=>rfl
   | succ k=>simpa using g3 k (by simpa using hk)⟩
section
variable {P:Program} {Γ:aw} {X:Ctx} {r:Option Nat} {Q:Exit→AS→Prop} {t:List D} {h:List Blk} {m:List Nat}
theorem sH{L:List Oper}{ops:Array Oper}(hL:ops.toList=L){o:Oper}{K:Act→World→Prop}{Q':Exit→Act→World→Prop}{Kd:D→List Blk→Prop}(hw:StW P Γ m L t h o Kd)
  (hK:∀d h' a' w',Kd d h'→St Γ X {t:=putD t o.dst d,h:=h',m:=m} a' w'→K a' w') {a:Act} {w:World} (hs:St Γ X {t:=t,h:=h,m:=m} a w) :
  if I9 o (yielded ops a.tmps) then o.wpIn (FW r) 0 P a w K Q' else (∀f,o.about P w a.eval=some f→(FW r).fn f)∧K (a.put o.dst undef) w:=by
 subst hL
 obtain⟨call,hc,f,dw,d,h',⟨Rk,h1,hwk⟩,h2⟩:=hw
 have hsf:St Γ X {t:=t.map f,h:=h,m:=m} a w:=hs.fix Rk
 unfold dm at h1
 split at h1
 ·rename_i hg
  have hwt:I9 o (yielded ops a.tmps)=true:=by
   obtain⟨l,R,E,rt,rd⟩:=hsf
   exact aW rt hg
  rw[if_pos hwt]
  split at h1
  ·rename_i d1 h1' Oe
   split at h1
   ·rename_i hm
    simp only[Ho,Hu] at h1
    obtain⟨rfl,rfl⟩:=h1
    exact ox (s:={t:=t.map f,h:=h,m:=m}) hc Oe hm (fun a' w' Ot=>hK _ _ a' w' h2 (St.unfix Rk hwk Ot)) hsf
   ·simp at h1
  ·simp at h1
 ·rename_i hg
  simp only[Ho,Hu] at h1
  obtain⟨rfl,rfl⟩:=h1
  have hwt:I9 o (yielded ops a.tmps)=false:=by
   obtain⟨l,R,E,rt,rd⟩:=hsf
   exact aW rt hg
  rw[if_neg (by simp[hwt])]
  exact⟨fun _ _=>trivial,hK _ _ _ _ h2 (St.unfix Rk hwk (St.skip (s:={t:=t.map f,h:=h,m:=m}) o.dst hsf))⟩
 ·simp at h1
theorem RW.sound{ops:Array Oper}:∀(os:List Oper) (i:Nat) (t:List D) (h:List Blk),ops.toList.drop i=os→RW P Γ m ops.toList false os t h (fun t' h'=>Q .normal {t:=t',h:=h',m:=m}) →
  ∀(a:Act) (w:World),St Γ X {t:=t,h:=h,m:=m} a w→wpOpsIn (FW r) 0 P ops (j1 Γ X Q) (List.range' i os.length) a w:=by
 intro os
 induction os with
 | nil =>
  intro i t h hd hr a w hs
  exact⟨by simp,_,hr,hs⟩
 | cons o os ih =>
  intro i t h hd hr a w hs
  have ho:ops[i]? = some o:=by
   rw[←Array.getElem?_toList]
   have:=congrArg (·[0]?) hd
   simpa using this
  have Ph:ops.toList.drop (i+1)=os:=by
   have:=congrArg (List.drop 1) hd
   simpa[Nat.add_comm] using this
  simp only[List.length_cons,List.range'_succ,wpOpsIn,ho]
  exact sH rfl hr (fun d h' a' w' hk Ot=>ih (i+1) _ _ Ph hk.2 a' w' Ot) hs
theorem VW.regionW{id:Nat}{ops:Array Oper}(hr:RW P Γ m ops.toList false ops.toList t h (fun t' h'=>Q .normal {t:=t',h:=h',m:=m})):VW P Γ X r (.region id ops false) Q {t:=t,h:=h,m:=m}:=fun a w hs =>
 wpIn_region (by
  have:=RW.sound (r:=r) (X:=X) (Q:=Q) ops.toList 0 t h (by simp) hr a w hs
  simpa[List.range_eq_range'] using this)
end
end Go.Vi
