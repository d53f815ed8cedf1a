/- StandingOfSpecUpto: part of the proof: an evaluator of the model's programs on abstract values, and its soundness. No conditions beyond the given statement's own. -/
import Derived.Test.YtilebidefogaiaaGreatDoorV3
import Derived.RecoverIn
open List renaming mem_map → FY, mem_filter → IA, mk_mem_zipIdx_iff_getElem? → GW, range → Gy, any_eq_true → Kh, getD_eq_getElem?_getD → F3, getElem?_eq_none → GG, countP_cons → IR, mem_cons → Gd, set_eq_of_length_le → IG, getElem?_map → GO, getElem?_append_right → Ga, getElem?_cons_zero → F2, getElem?_eq_some_iff → Fy, getElem?_append_left → FQ, mem_append → He, pairwise_append → JB, mem_cons_self → GS, pairwise_cons → IL, getElem?_eq_getElem → FK, getElem?_set_ne → H6, mem_cons_of_mem → Hx, map_cons → GJ, filter_eq_nil_iff → Jn, mem_iff_getElem? → Hc, all_eq_true → FZ, map_id → Hv
open Bool renaming and_eq_true → FB, not_eq_true' → GN, eq_false_iff → HW, eq_iff_iff → HB, false_eq_true → Gi, not_true → IE, false_or → HC
open Array renaming getD_eq_getD_getElem? → Gn, toList_setIfInBounds → Ik, getElem?_eq_getElem → Gt, all_eq_true_iff_forall_mem → H8, replicate → Ki
open Option.some renaming injEq → Fq
open Prod.mk renaming injEq → Fw
open Nat renaming le_of_not_lt → HV, le_refl → FT, sub_self → IK
open Option renaming map_eq_some_iff → FD, getD_some → Hl, map_some → Gb
open Go.Vi.Blk renaming inn → FL, defd → Kj
open Classical renaming byContradiction → GI
open Go.Vi.DefOk renaming mono → Jb
open Go.Region renaming binds → GH, wanted → HI, ready → I4
open Go.Vi.CallF renaming Ok → J5
open Go.Oper renaming semAt_eq → JP
open Go.Deferred renaming ofValue → HD
open Go.Sem renaming run_bind → FR, run_pure → F5
open Go.Result renaming andThen_ok → FI
namespace Go.Vi
open Go
def Wk (d d' : D) : Prop:=∀ w av l h y,Rel w av l h d y → Rel w av l h d' y
theorem Wk.refl (d : D) : Wk d d:=fun _ _ _ _ _ r=>r
structure FixOk (f : D → D) : Prop where
 any : f .any = .any
 pure : ∀ x,f (.p x) = .p x
 both : ∀ d,Wk d (f d) ∧ Wk (f d) d
 gd : ∀ want b v,guardV want (f (.grd b (.p (.v (.bool v))))) = guardV want (.grd b (.p (.v (.bool v))))
theorem FixOk.id : FixOk id:=⟨rfl,fun _=>rfl,fun d=>⟨Wk.refl d,Wk.refl d⟩,fun _ _ _=>rfl⟩
def fixD : D → D
 | .grd true d=>d
 | d=>d
theorem FixOk.fixD : FixOk fixD:=⟨rfl,fun _=>rfl,fun d=>by
 unfold Vi.fixD
 split
 ·exact ⟨fun w av l h y r=>by simpa [Rel] using r,fun w av l h y r=>by simpa [Rel] using r⟩
 ·exact ⟨Wk.refl _,Wk.refl _⟩,fun want b v=>by cases b <;> simp [Vi.fixD,guardV]⟩
def fH (L : List Oper) : List Nat:=(L.zipIdx.filter fun p=>!quietOp p.1.op).map (·.2)
def r9 (L : List Oper) (B : List Nat) (i k : Nat) : Bool:=(fH L).all fun c=>if c < k then !(B.getD c 0).testBit i else !(B.getD i 0).testBit c
def An (L : List Oper) : List Nat:=0 :: (fH L).map (· + 1)
theorem u6 {L : List Oper} {c : Nat} {o : Oper} (ho : L[c]? = some o) (hq : quietOp o.op = false) : c ∈ fH L:=by
 unfold fH
 rw [FY]
 exact ⟨(o,c),by rw [IA,GW]; exact ⟨ho,by simp [hq]⟩,rfl⟩
theorem hR {L : List Oper} {c : Nat} (h : c ∈ fH L) : ∃ o,L[c]? = some o ∧ quietOp o.op = false:=by
 unfold fH at h
 rw [FY] at h
 obtain ⟨⟨o,i⟩,h1,rfl⟩:=h
 rw [IA,GW] at h1
 exact ⟨o,h1.1,by simpa using h1.2⟩
def wO (P : Program) (Γ : ap) (L : List Oper) (B : List Nat) (tF : List D) (hs : List (List Blk)) (ts : List (List D)) : Prop :=
 ∀ (i : Nat) (o : Oper),L[i]? = some o → quietOp o.op = true → (∃ f,FixOk f ∧ aP L ((ts.getD i []).map f) o.guard = some true) → ∀ k ∈ An L,r9 L B i k = true →
  ∃ f d h',FixOk f ∧ opSem P Γ ((ts.getD i []).map f) (hs.getD k []) o.op = some (true,d,h') ∧ ∀ x,o.dst = some x → Wk d (tF.getD x .any)
def sa (L : List Oper) (S : Array Bool) (x : Tmp) : Bool:=L.zipIdx.any fun q=>q.1.dst == some x && !S.getD q.2 false
def gx (L : List Oper) (S : Array Bool) (t0 tF : List D) : List D:=(Gy tF.length).map fun x=>if sa L S x then t0.getD x .any else tF.getD x .any
theorem di {L : List Oper} {S : Array Bool} {x : Tmp} : sa L S x = true ↔ ∃ k o,L[k]? = some o ∧ o.dst = some x ∧ S.getD k false = false:=by
 unfold sa
 rw [Kh]
 constructor
 ·rintro ⟨⟨o,k⟩,h1,h2⟩
  rw [GW] at h1
  simp only [FB,beq_iff_eq,GN] at h2
  exact ⟨k,o,h1,h2.1,h2.2⟩
 ·rintro ⟨k,o,h1,h2,h3⟩
  exact ⟨(o,k),by rw [GW]; exact h1,by simp [h2,h3]⟩
theorem ay (L : List Oper) (S : Array Bool) (t0 tF : List D) : (gx L S t0 tF).length = tF.length:=by simp [gx]
theorem gc {L : List Oper} {S : Array Bool} {t0 tF : List D} {x : Nat} (hx : x < tF.length) : (gx L S t0 tF).getD x .any = if sa L S x then t0.getD x .any else tF.getD x .any:=by
 simp [gx,F3,hx]
theorem bp {a b : List D} (hl : a.length = b.length) (h : ∀ x,x < a.length → a.getD x .any = b.getD x .any) : a = b:=by
 apply List.ext_getElem hl
 intro i h1 h2
 have:=h i h1
 simpa [F3,h1,h2] using this
section
variable {L : List Oper} {S : Array Bool} {t0 tF : List D}
theorem cZ {x : Nat} (hx : ∀ k o,L[k]? = some o → o.dst = some x → S.getD k false = true) : (gx L S t0 tF).getD x .any = tF.getD x .any:=by
 by_cases hlt : x < tF.length
 ·rw [gc hlt]
  have : sa L S x = false:=by
   rw [HW]
   intro hp
   obtain ⟨k,o,h1,h2,h3⟩:=di.1 hp
   rw [hx k o h1 h2] at h3
   cases h3
  simp [this]
 ·rw [F3,F3,GG (by rw [ay]; omega),GG (by omega)]
theorem tG {x k : Nat} {o : Oper} (hl : tF.length = t0.length) (hk : L[k]? = some o) (hd : o.dst = some x) (hS : S.getD k false = false) : (gx L S t0 tF).getD x .any = t0.getD x .any:=by
 by_cases hlt : x < tF.length
 ·rw [gc hlt,if_pos (di.2 ⟨k,o,hk,hd,hS⟩)]
 ·rw [F3,F3,GG (by rw [ay]; omega),GG (by omega)]
theorem og {i : Nat} {o : Oper} {d : D} (ho : L[i]? = some o) (hi : i < S.size) (hu : ∀ k o',L[k]? = some o' → ∀ x,o.dst = some x → o'.dst = some x → k = i)
  (hd : ∀ x,o.dst = some x → x < tF.length → tF.getD x .any = d) : putD (gx L S t0 tF) o.dst d = gx L (S.setIfInBounds i true) t0 tF:=by
 have hset : ∀ k,(S.setIfInBounds i true).getD k false = if k = i then true else S.getD k false:=by
  intro k
  by_cases hk : k = i
  ·subst hk
   simp [Gn,hi]
  ·simp [Gn,hk,Ne.symm hk]
 refine bp (by rw [a6,ay,ay]) fun x hx=>?_
 rw [a6,ay] at hx
 by_cases hdx : o.dst = some x
 ·rw [hdx,dH (by rw [ay]; exact hx),cZ,hd x hdx hx]
  intro k o' hk hk2
  have:=hu k o' hk x hdx hk2
  rw [hset,if_pos this]
 ·rw [cd hdx,gc hx,gc hx]
  have : sa L S x = sa L (S.setIfInBounds i true) x:=by
   rw [HB,di,di]
   constructor
   ·rintro ⟨k,o',h1,h2,h3⟩
    refine ⟨k,o',h1,h2,?_⟩
    rw [hset]
    split
    ·rename_i hk
     subst hk
     rw [ho] at h1
     cases h1
     exact absurd h2 hdx
    ·exact h3
   ·rintro ⟨k,o',h1,h2,h3⟩
    refine ⟨k,o',h1,h2,?_⟩
    rw [hset] at h3
    split at h3
    ·cases h3
    ·exact h3
  rw [this]
end
theorem kJ {α : Type} {p q : α → Bool} : ∀ {l : List α},(∀ x,q x = true → p x = true) → ∀ x0 ∈ l,p x0 = true → q x0 = false → l.countP q < l.countP p
 | [],_,_,hm,_,_=>by cases hm
 | a :: l,h,x0,hm,hp,hq=>by
  have hle : l.countP q ≤ l.countP p:=by
   clear hm
   induction l with
   | nil=>simp
   | cons b l ih =>
    rw [IR,IR]
    cases hqb : q b
    ·simp; omega
    ·simp [h b hqb]; omega
  rw [IR,IR]
  rcases Gd.1 hm with rfl | hm
  ·simp [hp,hq]; omega
  ·have:=kJ h x0 hm hp hq
   cases hqa : q a
   ·simp; omega
   ·simp [h a hqa]; omega
theorem cP {D0 : List Deferred} {l : Loc} {h : List Blk} : ∀ {bs : List Nat} {ds : List Deferred},DefOk D0 l h bs ds → au h bs = true
 | [],_,_=>rfl
 | b :: bs,[],r=>by simp [DefOk] at r
 | b :: bs,d :: ds,r=>by
  simp only [DefOk] at r
  obtain ⟨⟨blk,cp,h1,_⟩,h2⟩:=r
  have:=cP h2
  simp only [au,List.all_cons,FB]
  exact ⟨by rw [h1],this⟩
theorem St.marks {Γ : ap} {X : Ctx} {s : AS} {a : Act} {w : World} (hs : St Γ X s a w) : au s.h s.m = true:=by
 obtain ⟨l,_,_,_,rd⟩:=hs
 exact cP rd
section
variable {P : Program} {Γ : ap} {X : Ctx} {r : Option Nat} {call : CallF} {ops : Array Oper} {m : List Nat} {t0 tF : List D} {hs : List (List Blk)} {ts : List (List D)} {Q : Exit → AS → Prop}
def Lst (S : Array Bool) (j : Nat) : Prop:=S.getD j false = true
theorem oi {S : Array Bool} {i j : Nat} (hi : i < S.size) : Lst (S.setIfInBounds i true) j ↔ j = i ∨ Lst S j:=by
 unfold Lst
 by_cases hk : j = i
 ·subst hk
  simp [Gn,hi]
 ·simp [Gn,hk,Ne.symm hk]
theorem kK {t : List D} {h h' : List Blk} {L : List Oper} {o : Oper} {d : D} (hq : quietOp o.op = true) (hst : dd P Γ call m L t h o = some (d,h')) : h' = h:=by
 unfold dd at hst
 split at hst
 ·split at hst
  ·rename_i d1 h1 hop
   split at hst
   ·simp only [Fq,Fw] at hst
    obtain ⟨rfl,rfl⟩:=hst
    unfold fE at hop
    split at hop
    ·rename_i hc; rw [hc] at hq; simp [quietOp] at hq
    ·split at hop
     ·rename_i hx
      simp only [Fq,Fw] at hop
      obtain ⟨rfl,rfl⟩:=hop
      exact bL hq hx
     ·simp at hop
   ·simp at hst
  ·simp at hst
 ·simp only [Fq,Fw] at hst
  exact hst.2.symm
 ·simp at hst
theorem wP {w : World} {av : Nat → Prop} {l : Loc} {h : List Blk} : ∀ {t t' : List D} {ys : List Value},t'.length = t.length → (∀ x,Wk (t.getD x .any) (t'.getD x .any)) → RelL w av l h t ys → RelL w av l h t' ys
 | [],[],ys,_,_,r=>r
 | [],_ :: _,_,hl,_,_=>by simp at hl
 | _ :: _,[],_,hl,_,_=>by simp at hl
 | a :: t,b :: t',ys,hl,hw,r=>by
  cases ys with
  | nil=>simp [RelL] at r
  | cons y ys =>
   simp only [RelL] at r ⊢
   exact ⟨hw 0 _ _ _ _ _ r.1,wP (by simpa using hl) (fun x=>by simpa using hw (x + 1)) r.2⟩
theorem St.wk {s : AS} {t' : List D} (hl : t'.length = s.t.length) (hw : ∀ x,Wk (s.t.getD x .any) (t'.getD x .any)) {a : Act} {w : World} (hs : St Γ X s a w) : St Γ X { t:=t',h:=s.h,m:=s.m } a w:=by
 obtain ⟨l,R,E,rt,rd⟩:=hs
 exact ⟨l,R,E,wP hl hw rt,rd⟩
theorem CM {t : List D} {dst : Option Tmp} {d d' : D} (hw : ∀ x,dst = some x → x < t.length → Wk d d') (x : Nat) : Wk ((putD t dst d).getD x .any) ((putD t dst d').getD x .any):=by
 cases dst with
 | none=>exact Wk.refl _
 | some y =>
  by_cases hy : y < t.length
  ·by_cases hx : y = x
   ·subst hx
    rw [dH hy,dH hy]
    exact hw y rfl hy
   ·rw [cd (by simpa using hx),cd (by simpa using hx)]
    exact Wk.refl _
  ·have : ∀ e,t.set y e = t:=fun e=>IG (HV hy)
   simp only [putD,this]
   exact Wk.refl _
theorem St.put_wk {t : List D} {h : List Blk} {dst : Option Tmp} {d d' : D} (hw : ∀ x,dst = some x → x < t.length → Wk d d') {a : Act} {w : World} (hs : St Γ X { t:=putD t dst d,h:=h,m:=m } a w) : St Γ X { t:=putD t dst d',h:=h,m:=m } a w :=
 hs.wk (by simp [a6]) (CM hw)
theorem bh {f : D → D} (hf : f .any = .any) (t : List D) (x : Nat) : (t.map f).getD x .any = f (t.getD x .any):=by
 simp only [F3,GO]
 cases t[x]? with
 | none=>simp [hf]
 | some d=>rfl
theorem St.fix {s : AS} {f : D → D} (hf : FixOk f) {a : Act} {w : World} (hs : St Γ X s a w) : St Γ X { t:=s.t.map f,h:=s.h,m:=s.m } a w :=
 hs.wk (by simp) fun x=>by rw [bh hf.any]; exact (hf.both _).1
theorem St.unfix {t : List D} {h : List Blk} {f : D → D} (hf : FixOk f) {dst : Option Tmp} {d d' : D} (hw : Wk d d') {a : Act} {w : World} (hs : St Γ X { t:=putD (t.map f) dst d,h:=h,m:=m } a w) : St Γ X { t:=putD t dst d',h:=h,m:=m } a w:=by
 have h1:=St.put_wk (dst:=dst) (d:=d) (d':=d') (fun _ _ _=>hw) hs
 refine h1.wk (by simp [a6]) fun x=>?_
 show Wk ((putD (t.map f) dst d').getD x .any) _
 cases dst with
 | none =>
  simp only [putD]
  rw [bh hf.any]
  exact (hf.both _).2
 | some y =>
  by_cases hx : y = x
  ·subst hx
   by_cases hy : y < t.length
   ·rw [dH hy,dH (by simpa using hy)]
    exact Wk.refl _
   ·simp only [putD]
    rw [IG (by simpa using HV hy),IG (HV hy),bh hf.any]
    exact (hf.both _).2
  ·rw [cd (by simpa using hx),cd (by simpa using hx),bh hf.any]
   exact (hf.both _).2
end
def hY (x : Blk) (n : Nat) : Ref:=match x with
 | .vec _ e _=>.vec n e
 | _=>.ptr n 0
def VR (x : Blk) (p : Option (Nat × Nat)) (v : Value) : Prop:=v.oneCell' = true ∧ match x with
 | .var _=>∃ blk cp,p = some (blk,cp) ∧ v = .pointer (some ⟨blk,0,none⟩)
 | .vec es _ _=>l4 p es.length v
 | _=>False
def freeOp : Op → Bool
 | .alloc _ | .buildSlice .. | .makeSlice ..=>true
 | _=>false
section
variable {P : Program} {Γ : ap} {O : Nat → Prop} {w w' : World} {l l' : Loc} {h h' : List Blk} {x : Blk}
theorem pN {p : Option (Nat × Nat)} {v : Value} (hv : VR x p v) : RefRel (l.upd h.length p) (h ++ [x]) (hY x h.length) v:=by
 obtain ⟨h1,h2⟩:=hv
 have hs : (l.upd h.length p) h.length = p:=by simp [Loc.upd]
 refine ⟨h1,?_⟩
 cases x <;> simp only at h2
 ·simp only [hY,Ga (FT _),IK,F2,hs]
  exact h2
 ·simp only [hY,Ga (FT _),IK,F2,hs]
  exact ⟨FT _,fun _=>h2⟩
theorem pO {v : Value} (hp : x.plain = true) (hv : RefRel l (h ++ [x]) (hY x h.length) v) : VR x (l h.length) v:=by
 obtain ⟨h1,h2⟩:=hv
 refine ⟨h1,?_⟩
 cases x <;> simp only [Blk.plain,Gi] at hp
 ·simpa only [hY,Ga (FT _),IK,F2] using h2
 ·simp only [hY,Ga (FT _),IK,F2] at h2
  simpa using h2
theorem Ao {t : List D} {o : Op} {d : D} {h1 : List Blk} (hf : freeOp o = true) (hd : opSem P Γ t h o = some (true,d,h1)) :
  ∃ x,x.plain = true ∧ true = true ∧ d = .ref (hY x h.length) ∧ h1 = h ++ [x] ∧ ∀ h',opSem P Γ t h' o = some (true,.ref (hY x h'.length),h' ++ [x]):=by
 cases o <;> simp only [freeOp,Gi] at hf
 ·rename_i e
  simp only [opSem,FD,mE,Fw] at hd
  obtain ⟨cs,h2,_,rfl,rfl⟩:=hd
  exact ⟨.var cs,rfl,rfl,rfl,rfl,fun h'=>by simp [opSem,h2,mE,hY]⟩
 ·rename_i ty n ps
  simp only [opSem,FD,Fw] at hd
  obtain ⟨⟨d',h2⟩,hb,_,rfl,rfl⟩:=hd
  unfold dA at hb
  split at hb
  ·rename_i e he
   split at hb
   ·rename_i sz z hsz hz
    split at hb
    ·rename_i hc
     split at hb
     ·rename_i cs hcs
      simp only [Fq,Fw] at hb
      obtain ⟨rfl,rfl⟩:=hb
      exact ⟨.vec (chunk sz n cs) 0 sz,rfl,rfl,rfl,rfl,fun h'=>by simp [opSem,dA,he,hsz,hz,hc,hcs,hY]⟩
     ·simp at hb
    ·simp at hb
   ·simp at hb
  ·simp at hb
 ·rename_i ty n c
  simp only [opSem,wy] at hd
  split at hd
  ·rename_i e k1 n1 k2 c1 he hn hc
   split at hd
   ·rename_i sz by' z hsz hby hz
    split at hd
    ·rename_i hl
     simp only [Fq,Fw] at hd
     obtain ⟨hb,rfl,rfl⟩:=hd
     exact ⟨.vec (List.replicate n1.toNat z) 0 sz,rfl,rfl,rfl,rfl,fun h'=>by simp only [opSem,wy,he,hn,hc,hsz,hby,hz,hl,if_true,hb,hY]⟩
    ·simp at hd
   ·simp at hd
  ·simp at hd
theorem wQ (R : Rep Γ O w l h) {t : List D} {a : Act} (ht : RelL w (avs O l h) l h t a.tmps.toList) {o : Oper} (hp : x.plain = true)
  (hd : opSem P Γ t h o.op = some (true,.ref (hY x h.length),h ++ [x])) (hi : h.all (FL h.length) = true) (hx : x.inn h.length = true) :
  ∃ v w' l' p,(execOp a.eval o).run P w = .ok (.value v) w' ∧ Rep Γ (pj O p) w' l' h ∧ Ext w l h w' l' h ∧ Pd w' (avs (pj O p) l' h) l' h x p ∧ VR x p v ∧
   (∀ k c,p = some (k,c) → w.heap.size ≤ k ∧ ¬ O k):=by
 obtain ⟨nx,v,w',l',h1,h2,R',E',rd⟩:=gD R ht hd
 obtain ⟨R2,hP⟩:=R'.hide hp hi hx
 have E2:=E'.take
 rw [show (h ++ [x]).take h.length = h by simp] at E2
 have hv : VR x (l' h.length) v:=pO hp (by simpa [Rel] using rd)
 have hnx : nx = .value v:=by
  rcases h2 with h2 | ⟨_,h2⟩
  ·exact h2
  ·exfalso
   obtain ⟨hv1,hv2⟩:=hv
   rw [h2] at hv2
   cases x <;> simp only [Blk.plain,Gi] at hp
   ·obtain ⟨_,_,_,h3⟩:=hv2
    simp [undef] at h3
   ·simp only at hv2
    unfold l4 at hv2
    split at hv2 <;> simp [undef] at hv2
 rw [hnx] at h1
 refine ⟨v,w',l',l' h.length,h1,R2,E2,hP,hv,fun k c hk=>?_⟩
 have hown : own l' (h ++ [x]) k:=hC.2 (.inr ⟨hG hp,c,hk⟩)
 refine ⟨?_,(R'.inb k hown).2⟩
 rcases E'.news k hown with ⟨b,y,c',g1,g2,g3⟩ | h3
 ·exfalso
  have hlt:=(Fy.1 g1).1
  obtain ⟨x',k1,k2,k3⟩:=E'.keep b y g1
  rw [FQ hlt,g1] at k1
  cases k1
  have hs : y.stays y:=by cases y <;> simp_all [Blk.stays]
  have:=R'.inj b h.length y x k c' c (by rw [FQ hlt,g1]) g2 (by simp) (hG hp) (by rw [k3 hs,g3]) hk
  omega
 ·exact h3
end
section
variable {w : World} {av : Nat → Prop} {l : Loc} {h : List Blk}
theorem i4 : ∀ {t : List D} {ys : List Value},t.length = ys.length → (∀ x y,ys[x]? = some y → Rel w av l h (t.getD x .any) y) → RelL w av l h t ys
 | [],[],_,_=>by simp [RelL]
 | [],_ :: _,hl,_=>by simp at hl
 | _ :: _,[],hl,_=>by simp at hl
 | d :: t,y :: ys,hl,hp=>by
  simp only [RelL]
  refine ⟨by simpa using hp 0 y (by simp),i4 (by simpa using hl) fun x z hz=>?_⟩
  simpa using hp (x + 1) z (by simpa using hz)
theorem wR {t : List D} {ys : List Value} (r : RelL w av l h t ys) {x : Nat} {y : Value} (hy : ys[x]? = some y) : Rel w av l h (t.getD x .any) y:=by
 rcases relL_get x t ys r with ⟨z,h1,h2⟩ | ⟨h1,_⟩
 ·rw [hy] at h1; cases h1; exact h2
 ·rw [hy] at h1; cases h1
end
def wo (L : List Oper) (pl : List Nat) (x : Tmp) : Bool:=pl.any fun i=>(match L[i]? with | some o=>o.dst == some x | none=>false)
def j2 (L : List Oper) (S : Array Bool) (pl : List Nat) (t0 tF : List D) : List D:=(Gy tF.length).map fun x=>if wo L pl x then .any else (gx L S t0 tF).getD x .any
theorem dI {L : List Oper} {pl : List Nat} {x : Tmp} : wo L pl x = true ↔ ∃ i o,i ∈ pl ∧ L[i]? = some o ∧ o.dst = some x:=by
 unfold wo
 rw [Kh]
 constructor
 ·rintro ⟨i,h1,h2⟩
  split at h2
  ·rename_i o ho
   exact ⟨i,o,h1,ho,by simpa using h2⟩
  ·simp at h2
 ·rintro ⟨i,o,h1,h2,h3⟩
  exact ⟨i,h1,by rw [h2]; simpa using h3⟩
section
variable {L : List Oper} {S : Array Bool} {pl : List Nat} {t0 tF : List D}
theorem bk : (j2 L S pl t0 tF).length = tF.length:=by simp [j2]
theorem ge {x : Nat} (hx : x < tF.length) : (j2 L S pl t0 tF).getD x .any = if wo L pl x then .any else (gx L S t0 tF).getD x .any:=by
 simp [j2,F3,hx]
theorem tH {t : List D} {x : Nat} (h : t.length ≤ x) : t.getD x .any = .any:=by
 rw [F3,GG h]; rfl
theorem ke {x : Nat} (hx : wo L pl x = false) : (j2 L S pl t0 tF).getD x .any = (gx L S t0 tF).getD x .any:=by
 by_cases hlt : x < tF.length
 ·rw [ge hlt,hx]; rfl
 ·rw [tH (by rw [bk]; omega),tH (by rw [ay]; omega)]
theorem tI : j2 L S [] t0 tF = gx L S t0 tF:=by
 refine bp (by rw [bk,ay]) fun x hx=>ke (by simp [wo])
end
structure Pe where
 i : Nat
 p : Option (Nat × Nat)
 v : Value
 x : Blk
def hid (pl : List Pe) (O : Nat → Prop) : Nat → Prop:=fun k=>O k ∨ ∃ e ∈ pl,∃ c,e.p = some (k,c)
structure Inv5 (Γ : ap) (X : Ctx) (L : List Oper) (pos : Nat → Nat) (late : Nat → Bool) (m : List Nat) (t0 tF : List D) (hs : List (List Blk)) (k : Nat) (S : Array Bool) (pl : List Pe) (a : Act) (w : World) : Prop where
 size : S.size = L.length
 closed : jK L (Lst S)
 st : ∃ l,Rep Γ (hid pl X.O) w l (hs.getD k []) ∧ Ext X.w X.l X.h w l (hs.getD k []) ∧ RelL w (avs (hid pl X.O) l (hs.getD k [])) l (hs.getD k []) (j2 L S (pl.map (·.i)) t0 tF) a.tmps.toList ∧
  DefOk X.D l (hs.getD k []) m a.defers ∧ ∀ e ∈ pl,Pd w (avs (hid pl X.O) l (hs.getD k [])) l (hs.getD k []) e.x e.p
 pe : ∀ e ∈ pl,VR e.x e.p e.v ∧ late e.i = true ∧ Lst S e.i ∧ k ≤ pos e.i ∧ hs.getD (pos e.i + 1) [] = hs.getD (pos e.i) [] ++ [e.x] ∧
  ∃ o,L[e.i]? = some o ∧ ∀ y,o.dst = some y → (∀ z,a.tmps.toList[y]? = some z → z = e.v) ∧ (y < tF.length → tF.getD y .any = .ref (hY e.x (hs.getD (pos e.i) []).length))
 dis : pl.Pairwise fun e f=>e.i ≠ f.i ∧ ∀ k c c',e.p = some (k,c) → f.p ≠ some (k,c')
 fresh : ∀ e ∈ pl,∀ k c,e.p = some (k,c) → X.w.heap.size ≤ k ∧ ¬ X.O k
 chain : ∀ c o,L[c]? = some o → quietOp o.op = false → (pos c < k ↔ Lst S c ∧ c ∉ pl.map (·.i))
 cand : k = 0 ∨ ∃ (c : Nat) (o : Oper),L[c]? = some o ∧ quietOp o.op = false ∧ k = pos c + 1
theorem mH {p : Nat → Prop} (h0 : p 0) : ∀ n,∃ q,q ≤ n ∧ p q ∧ ∀ q',q' ≤ n → p q' → q' ≤ q
 | 0=>⟨0,FT _,h0,fun q' h _=>h⟩
 | n + 1=>by
  by_cases h : p (n + 1)
  ·exact ⟨n + 1,FT _,h,fun q' h' _=>h'⟩
  ·obtain ⟨q,h1,h2,h3⟩:=mH h0 n
   refine ⟨q,by omega,h2,fun q' h' hp=>?_⟩
   by_cases hq : q' = n + 1
   ·exact absurd (hq ▸ hp) h
   ·exact h3 q' (by omega) hp
section
variable {Γ : ap} {X : Ctx} {L : List Oper} {pos : Nat → Nat} {late : Nat → Bool} {m : List Nat} {t0 tF : List D} {hs : List (List Blk)} {S : Array Bool} {a : Act} {w : World}
theorem wT {O : Nat → Prop} {l : Loc} {h : List Blk} {x : Blk} {p : Option (Nat × Nat)} (hx : x ≠ .gone) (k : Nat) : avs O (l.upd h.length p) (h ++ [x]) k ↔ avs (pj O p) l h k:=by
 rw [oc hx,show (l.upd h.length p) h.length = p by simp [Loc.upd]]
 unfold avs
 rw [od]
theorem Inv5.tell {k : Nat} {pl1 pl2 : List Pe} {e : Pe} (I : Inv5 Γ X L pos late m t0 tF hs k S (pl1 ++ e :: pl2) a w) (hH : hs.getD (pos e.i) [] = hs.getD k [])
  (hpos : ∀ c o,L[c]? = some o → quietOp o.op = false → c ≠ e.i → (pos c < k ↔ pos c < pos e.i + 1))
  (hdst : ∀ (i j : Nat) (o o' : Oper) (x : Tmp),L[i]? = some o → L[j]? = some o' → o.dst = some x → o'.dst = some x → i = j) (hk2 : ∀ f ∈ pl1 ++ pl2,pos e.i + 1 ≤ pos f.i) (hlq : ∀ (i : Nat) (o : Oper),L[i]? = some o → late i = true → quietOp o.op = false) :
  Inv5 Γ X L pos late m t0 tF hs (pos e.i + 1) S (pl1 ++ pl2) a w:=by
 obtain ⟨l,R,E,rt,rd,hpd⟩:=I.st
 have hmem : e ∈ pl1 ++ e :: pl2:=by simp
 have hsub : ∀ f,f ∈ pl1 ++ pl2 → f ∈ pl1 ++ e :: pl2:=by
  intro f hf
  simp only [He,Gd] at hf ⊢
  rcases hf with h | h
  ·exact .inl h
  ·exact .inr (.inr h)
 have hsplit : ∀ f,f ∈ pl1 ++ e :: pl2 → f = e ∨ f ∈ pl1 ++ pl2:=by
  intro f hf
  simp only [He,Gd] at hf ⊢
  rcases hf with h | h | h
  ·exact .inr (.inl h)
  ·exact .inl h
  ·exact .inr (.inr h)
 have hdis : ∀ f ∈ pl1 ++ pl2,f.i ≠ e.i ∧ ∀ k c c',e.p = some (k,c) → f.p ≠ some (k,c'):=by
  intro f hf
  have hd:=I.dis
  rw [JB] at hd
  simp only [He] at hf
  rcases hf with hf | hf
  ·have:=hd.2.2 f hf e (GS ..)
   exact ⟨this.1,fun k c c' h1 h2=>this.2 k c' c h2 h1⟩
  ·have:=(IL.1 hd.2.1).1 f hf
   exact ⟨fun h=>this.1 h.symm,this.2⟩
 have hhid : hid (pl1 ++ e :: pl2) X.O = pj (hid (pl1 ++ pl2) X.O) e.p:=by
  funext k'
  apply propext
  constructor
  ·rintro (h | ⟨f,hf,c,h⟩)
   ·exact .inl (.inl h)
   ·rcases hsplit f hf with rfl | hf
    ·exact .inr ⟨c,h⟩
    ·exact .inl (.inr ⟨f,hf,c,h⟩)
  ·rintro ((h | ⟨f,hf,c,h⟩) | ⟨c,h⟩)
   ·exact .inl h
   ·exact .inr ⟨f,hsub f hf,c,h⟩
   ·exact .inr ⟨e,hmem,c,h⟩
 rw [hhid] at R rt hpd
 obtain ⟨hvr,hlate,hlst,hkpos,hhs,o,ho,hod⟩:=I.pe e hmem
 have hPd:=hpd e hmem
 have hne:=hG hPd.1
 have R2:=R.merge hPd (fun k' c hk hh=>by
  rcases hh with hh | ⟨f,hf,c',hh⟩
  ·exact (I.fresh e hmem k' c hk).2 hh
  ·exact (hdis f hf).2 k' c c' hk hh)
 have E2:=E.merge (x:=e.x) (p:=e.p) fun k' c hk=>(I.fresh e hmem k' c hk).1
 have hc : ∀ blk off y,¬ avs (pj (hid (pl1 ++ pl2) X.O) e.p) l (hs.getD k []) blk → w.cell? ⟨blk,off,none⟩ = some y →
   w.cell? ⟨blk,off,none⟩ = some y ∧ ¬ avs (hid (pl1 ++ pl2) X.O) (l.upd (hs.getD k []).length e.p) (hs.getD k [] ++ [e.x]) blk :=
  fun blk off y hn hy=>⟨hy,fun ha=>hn ((wT hne blk).1 ha)⟩
 have hH2 : hs.getD (pos e.i + 1) [] = hs.getD k [] ++ [e.x]:=by rw [hhs,hH]
 have hlenT:=eT _ _ rt
 rw [bk] at hlenT
 have hpe : ∀ f ∈ pl1 ++ pl2,f.i ≠ e.i:=fun f hf=>(hdis f hf).1
 refine ⟨I.size,I.closed,⟨l.upd (hs.getD k []).length e.p,?_⟩,fun f hf=>?_,?_,fun f hf=>I.fresh f (hsub f hf),?_,.inr ⟨e.i,o,ho,hlq e.i o ho hlate,rfl⟩⟩
 ·rw [hH2]
  refine ⟨R2,E2,i4 (by rw [bk]; exact hlenT) fun x y hy=>?_,?_,fun f hf=>?_⟩
  ·have hlt : x < tF.length:=by
    have:=(Fy.1 hy).1
    omega
   cases hb : wo L ((pl1 ++ pl2).map (·.i)) x
   ·rw [ke hb]
    cases hb2 : wo L ((pl1 ++ e :: pl2).map (·.i)) x
    ·have:=wR rt hy
     rw [ke hb2] at this
     exact Rel.mono hc hJ _ _ this
    ·obtain ⟨i',o',h1,h2,h3⟩:=dI.1 hb2
     have hie : i' = e.i:=by
      apply GI
      intro hno
      rw [FY] at h1
      obtain ⟨f,hf,rfl⟩:=h1
      rcases hsplit f hf with rfl | hf
      ·exact hno rfl
      ·rw [HW] at hb
       exact hb (dI.2 ⟨f.i,o',FY.2 ⟨f,hf,rfl⟩,h2,h3⟩)
     subst hie
     rw [ho] at h2
     cases h2
     rw [cZ (fun k' o' hk' hd'=>by
      rw [hdst k' e.i o' o x hk' ho hd' h3]; exact hlst)]
     rw [(hod x h3).2 hlt,hH,(hod x h3).1 y hy]
     simp only [Rel]
     exact pN hvr
   ·rw [ge hlt,if_pos hb]
    simp [Rel]
  ·exact Jb hJ (ed (cP rd)) rd
  ·exact Pd.mono hc hJ (by simp) (fun _ _ _=>rfl) (hpd f (hsub f hf))
 ·obtain ⟨g1,g2,g3,_,g5,g6⟩:=I.pe f (hsub f hf)
  exact ⟨g1,g2,g3,hk2 f hf,g5,g6⟩
 ·exact I.dis.sublist (List.Sublist.append (List.Sublist.refl _) (List.sublist_cons_self e pl2))
 ·intro c o' hc' hq
  by_cases hce : c = e.i
  ·subst hce
   refine ⟨fun _=>⟨hlst,fun hm=>?_⟩,fun _=>Nat.lt_succ_self _⟩
   rw [FY] at hm
   obtain ⟨f,hf,hfe⟩:=hm
   exact hpe f hf hfe
  ·rw [← hpos c o' hc' hq hce,I.chain c o' hc' hq]
   refine ⟨fun ⟨h1,h2⟩=>⟨h1,fun hm=>h2 ?_⟩,fun ⟨h1,h2⟩=>⟨h1,fun hm=>h2 ?_⟩⟩
   ·rw [FY] at hm ⊢
    obtain ⟨f,hf,hfe⟩:=hm
    exact ⟨f,hsub f hf,hfe⟩
   ·rw [FY] at hm ⊢
    obtain ⟨f,hf,hfe⟩:=hm
    rcases hsplit f hf with rfl | hf
    ·exact absurd hfe.symm hce
    ·exact ⟨f,hf,hfe⟩
end
section
variable {Γ : ap} {X : Ctx} {L : List Oper} {pos : Nat → Nat} {late : Nat → Bool} {m : List Nat} {t0 tF : List D} {hs : List (List Blk)} {S : Array Bool} {a : Act} {w : World}
theorem Inv5.upto (hconst : ∀ n k,(∀ c o,L[c]? = some o → quietOp o.op = false → ¬ (k ≤ pos c ∧ pos c < k + n)) → k + n ≤ L.length → hs.getD (k + n) [] = hs.getD k [])
  (hinj : ∀ (i j : Nat) (o o' : Oper),L[i]? = some o → L[j]? = some o' → pos i = pos j → i = j)
  (hdst : ∀ (i j : Nat) (o o' : Oper) (x : Tmp),L[i]? = some o → L[j]? = some o' → o.dst = some x → o'.dst = some x → i = j) (hlq : ∀ (i : Nat) (o : Oper),L[i]? = some o → late i = true → quietOp o.op = false) :
  ∀ q,q ≤ L.length → (∀ c o,L[c]? = some o → quietOp o.op = false → pos c < q → Lst S c) → ∀ k pl,Inv5 Γ X L pos late m t0 tF hs k S pl a w →
   ∃ k' pl',Inv5 Γ X L pos late m t0 tF hs k' S pl' a w ∧ ∀ e ∈ pl',e ∈ pl ∧ q ≤ pos e.i:=by
 intro q
 induction q with
 | zero=>exact fun _ _ k pl I=>⟨k,pl,I,fun e he=>⟨he,Nat.zero_le _⟩⟩
 | succ q ih =>
  intro hq hl k pl I
  obtain ⟨k1,pl1,I1,h1⟩:=ih (by omega) (fun c o hc ho hp=>hl c o hc ho (by omega)) k pl I
  by_cases hex : ∃ e ∈ pl1,pos e.i = q
  ·obtain ⟨e,he,hpe⟩:=hex
   obtain ⟨a1,a2,rfl⟩:=List.append_of_mem he
   obtain ⟨_,_,_,hk1,_,o,ho,_⟩:=I1.pe e he
   have hnone : ∀ c o',L[c]? = some o' → quietOp o'.op = false → pos c < q → pos c < k1:=by
    intro c o' hc hqo hp
    rw [I1.chain c o' hc hqo]
    refine ⟨hl c o' hc hqo (by omega),fun hm=>?_⟩
    rw [FY] at hm
    obtain ⟨f,hf,rfl⟩:=hm
    have:=(h1 f hf).2
    omega
   have hsub : ∀ f,f ∈ a1 ++ a2 → f ∈ a1 ++ e :: a2:=by
    intro f hf
    simp only [He,Gd] at hf ⊢
    rcases hf with h | h
    ·exact .inl h
    ·exact .inr (.inr h)
   have hfe : ∀ f,f ∈ a1 ++ a2 → f.i ≠ e.i:=by
    intro f hf
    have hd:=I1.dis
    rw [JB] at hd
    simp only [He] at hf
    rcases hf with hf | hf
    ·exact (hd.2.2 f hf e (GS ..)).1
    ·exact fun h=>((IL.1 hd.2.1).1 f hf).1 h.symm
   have hge : ∀ f,f ∈ a1 ++ a2 → q + 1 ≤ pos f.i:=by
    intro f hf
    have h2:=(h1 f (hsub f hf)).2
    obtain ⟨_,_,_,_,_,o',ho',_⟩:=I1.pe f (hsub f hf)
    have : pos f.i ≠ q:=fun hh=>hfe f hf (hinj _ _ _ _ ho' ho (by rw [hh,hpe]))
    omega
   refine ⟨_,_,I1.tell ?_ ?_ hdst (fun f hf=>by rw [hpe]; exact hge f hf) hlq,fun f hf=>⟨(h1 f (hsub f hf)).1,hge f hf⟩⟩
   ·have:=hconst (q - k1) k1 (fun c o' hc hqo hx=>by
     have:=hnone c o' hc hqo (by omega)
     omega) (by omega)
    rw [hpe,← this]
    congr 1
    omega
   ·intro c o' hc hqo hce
    rw [hpe]
    constructor
    ·intro h; omega
    ·intro h
     have : pos c ≠ q:=fun hh=>hce (hinj _ _ _ _ hc ho (by rw [hh,hpe]))
     exact hnone c o' hc hqo (by omega)
  ·refine ⟨k1,pl1,I1,fun e he=>⟨(h1 e he).1,?_⟩⟩
   have h2:=(h1 e he).2
   have : pos e.i ≠ q:=fun hh=>hex ⟨e,he,hh⟩
   omega
end
def Cand (L : List Oper) (pos : Nat → Nat) (k : Nat) : Prop:=k = 0 ∨ ∃ (c : Nat) (o : Oper),L[c]? = some o ∧ quietOp o.op = false ∧ k = pos c + 1
structure Fx (P : Program) (Γ : ap) (L : List Oper) (B : List Nat) (pos : Nat → Nat) (late : Nat → Bool) (m : List Nat) (t0 tF : List D) (hs : List (List Blk)) (ts : List (List D)) : Prop where
 edge : ∀ (i : Nat) (o : Oper),L[i]? = some o → ∀ e ∈ o.after.toList,GH .any e = true → e.on < i
 posB : ∀ (i : Nat) (o : Oper) (j : Nat),L[i]? = some o → (B.getD i 0).testBit j = true → pos j < pos i
 uniq : ∀ (i j : Nat) (o o' : Oper) (x : Tmp),L[i]? = some o → L[j]? = some o' → o.dst = some x → o'.dst = some x → i = j
 inj : ∀ (i j : Nat) (o o' : Oper),L[i]? = some o → L[j]? = some o' → pos i = pos j → i = j
 lt : ∀ (i : Nat) (o : Oper),L[i]? = some o → pos i < L.length
 oper : ∀ (i : Nat) (o : Oper) (x : Tmp),L[i]? = some o → x ∈ cY L o → ∀ (k : Nat) (o' : Oper),L[k]? = some o' → o'.dst = some x → (B.getD i 0).testBit k = true ∨ (B.getD k 0).testBit i = true
 chain : ∀ (c c' : Nat) (o o' : Oper),L[c]? = some o → L[c']? = some o' → quietOp o.op = false → quietOp o'.op = false → late c = false → pos c' < pos c → (B.getD c 0).testBit c' = true
 lateOk : ∀ (i : Nat) (o : Oper),L[i]? = some o → late i = true → freeOp o.op = true ∧ quietOp o.op = false ∧ o.guard = none
 seen : ∀ (i j : Nat) (o o' : Oper) (x : Tmp),L[i]? = some o → x ∈ cY L o → L[j]? = some o' → o'.dst = some x → late j = true → (B.getD i 0).testBit j = true →
  ∀ (c : Nat) (o2 : Oper),L[c]? = some o2 → quietOp o2.op = false → pos c < pos j → (B.getD i 0).testBit c = true
 hat : ∀ (i : Nat) (o : Oper),L[i]? = some o → ∃ call,J5 P Γ call ∧ ∃ d,dd P Γ call m L (ts.getD (pos i) []) (hs.getD (pos i) []) o = some (d,hs.getD (pos i + 1) []) ∧
  (∀ x,(∀ (j : Nat) (o' : Oper),L[j]? = some o' → pos i ≤ pos j → o'.dst ≠ some x) → tF.getD x .any = (ts.getD (pos i) []).getD x .any) ∧
  (∀ x,(∀ (j : Nat) (o' : Oper),L[j]? = some o' → pos j < pos i → o'.dst ≠ some x) → (ts.getD (pos i) []).getD x .any = t0.getD x .any) ∧
  (∀ x,o.dst = some x → x < tF.length → tF.getD x .any = d)
 len : tF.length = t0.length
 const : ∀ n k,(∀ c o,L[c]? = some o → quietOp o.op = false → ¬ (k ≤ pos c ∧ pos c < k + n)) → k + n ≤ L.length → hs.getD (k + n) [] = hs.getD k []
 inn : ∀ (i : Nat) (o : Oper) (k : Nat) (x : Blk),L[i]? = some o → late i = true → Cand L pos k → hs.getD (pos i + 1) [] = hs.getD (pos i) [] ++ [x] →
  (hs.getD k []).all (FL (hs.getD k []).length) = true ∧ x.inn (hs.getD k []).length = true
 quiet : ∀ (i : Nat) (o : Oper),L[i]? = some o → quietOp o.op = true → aP L (ts.getD (pos i) []) o.guard = some true → ∀ k,Cand L pos k →
  (∀ (c : Nat) (o' : Oper),L[c]? = some o' → quietOp o'.op = false → (pos c < k → (B.getD c 0).testBit i = false) ∧ (k ≤ pos c → (B.getD i 0).testBit c = true → late c = true)) →
  ∃ d h',opSem P Γ (ts.getD (pos i) []) (hs.getD k []) o.op = some (true,d,h') ∧ ∀ x,o.dst = some x → tF.getD x .any = d
section
variable {P : Program} {Γ : ap} {X : Ctx} {r : Option Nat} {call : CallF} {ops : Array Oper} {pos : Nat → Nat} {late : Nat → Bool} {m : List Nat} {t0 tF : List D} {hs : List (List Blk)} {ts : List (List D)} {Q : Exit → AS → Prop}
theorem told (F : Fx P Γ ops.toList (cX ops.toList []) pos late m t0 tF hs ts) {k : Nat} {S : Array Bool} {pl : List Pe} {a : Act} {w : World} (I : Inv5 Γ X ops.toList pos late m t0 tF hs k S pl a w) :
  ∃ k' pl',Inv5 Γ X ops.toList pos late m t0 tF hs k' S pl' a w ∧
   ∀ e ∈ pl',∃ c o,ops.toList[c]? = some o ∧ quietOp o.op = false ∧ pos c < pos e.i ∧ ¬ Lst S c:=by
 obtain ⟨q,h1,h2,h3⟩:=mH (p:=fun q=>∀ c o,ops.toList[c]? = some o → quietOp o.op = false → pos c < q → Lst S c) (fun c o _ _ h=>by omega) ops.toList.length
 obtain ⟨k',pl',I',h4⟩:=Inv5.upto F.const F.inj F.uniq (fun i o hi hl=>(F.lateOk i o hi hl).2.1) q h1 h2 k pl I
 refine ⟨k',pl',I',fun e he=>?_⟩
 obtain ⟨_,h5⟩:=h4 e he
 obtain ⟨_,hl,hS,_,_,o,ho,_⟩:=I'.pe e he
 apply GI
 intro hno
 have:=h3 (pos e.i + 1) (F.lt _ _ ho) (fun c o' hc hq hp=>by
  by_cases hce : pos c = pos e.i
  ·rw [F.inj c e.i o' o hc ho hce]; exact hS
  ·apply GI
   intro hnl
   exact hno ⟨c,o',hc,hq,by omega,hnl⟩)
 omega
end
section
variable {P : Program} {Γ : ap} {X : Ctx} {r : Option Nat} {call : CallF} {ops : Array Oper} {pos : Nat → Nat} {late : Nat → Bool} {m : List Nat} {t0 tF : List D} {hs : List (List Blk)} {ts : List (List D)} {Q : Exit → AS → Prop}
theorem Inv5.here {k : Nat} {S : Array Bool} {pl : List Pe} {a : Act} {w : World} (I : Inv5 Γ X ops.toList pos late m t0 tF hs k S pl a w) :
  ∃ l,St Γ { O:=hid pl X.O,w:=w,l:=l,h:=hs.getD k [],D:=X.D } { t:=j2 ops.toList S (pl.map (·.i)) t0 tF,h:=hs.getD k [],m:=m } a w ∧ Ext X.w X.l X.h w l (hs.getD k []) ∧
   Rep Γ (hid pl X.O) w l (hs.getD k []) ∧ ∀ e ∈ pl,Pd w (avs (hid pl X.O) l (hs.getD k [])) l (hs.getD k []) e.x e.p:=by
 obtain ⟨l,R,E,rt,rd,hp⟩:=I.st
 exact ⟨l,⟨l,R,Ext.refl _ _ _,rt,rd⟩,E,R,hp⟩
theorem Pd.ext {O : Nat → Prop} {w w' : World} {l l' : Loc} {h h' : List Blk} {x : Blk} {p : Option (Nat × Nat)} (E : Ext w l h w' l' h') (R : Rep Γ O w l h) (hO : ∀ k c,p = some (k,c) → O k)
  (hp : Pd w (avs O l h) l h x p) : Pd w' (avs O l' h') l' h' x p:=by
 refine hp.mono E.hc E.keep ?_ fun blk c hk=>?_
 ·apply GI
  intro hlt
  have hb : h[h'.length]? = some h[h'.length]:=FK (by omega)
  obtain ⟨x',h1,_⟩:=E.keep _ _ hb
  simp at h1
 ·exact E.same blk (R.obd blk (hO blk c hk)) fun ho=>(R.inb blk ho).2 (hO blk c hk)
theorem Inv5.after {k k' i : Nat} {S : Array Bool} {pl : List Pe} {a a' : Act} {w w' : World} {l : Loc} {o : Oper} {d : D} {_v : Value} (F : Fx P Γ ops.toList (cX ops.toList []) pos late m t0 tF hs ts)
  (I : Inv5 Γ X ops.toList pos late m t0 tF hs k S pl a w) (ho : ops.toList[i]? = some o) (hiS : ¬ Lst S i) (hpre : ∀ e ∈ o.after.toList,GH .any e = true → Lst S e.on)
  (E : Ext X.w X.l X.h w l (hs.getD k [])) (R : Rep Γ (hid pl X.O) w l (hs.getD k [])) (hp : ∀ e ∈ pl,Pd w (avs (hid pl X.O) l (hs.getD k [])) l (hs.getD k []) e.x e.p)
  (hst : St Γ { O:=hid pl X.O,w:=w,l:=l,h:=hs.getD k [],D:=X.D } { t:=putD (j2 ops.toList S (pl.map (·.i)) t0 tF) o.dst d,h:=hs.getD k' [],m:=m } a' w') (ha : ∃ v,a'.tmps = (a.put o.dst v).tmps)
  (hd : ∀ x,o.dst = some x → x < tF.length → tF.getD x .any = d) (hk : ∀ e ∈ pl,k' ≤ pos e.i) (hcand : Cand ops.toList pos k')
  (hchain : ∀ c o',ops.toList[c]? = some o' → quietOp o'.op = false → (pos c < k' ↔ (c = i ∨ Lst S c) ∧ c ∉ pl.map (·.i))) :
  Inv5 Γ X ops.toList pos late m t0 tF hs k' (S.setIfInBounds i true) pl a' w':=by
 have hi : i < S.size:=by rw [I.size]; exact (Fy.1 ho).1
 have hsetS : ∀ j,Lst (S.setIfInBounds i true) j ↔ j = i ∨ Lst S j:=fun j=>oi hi
 have hne : ∀ e ∈ pl,e.i ≠ i:=fun e he hei=>hiS (hei ▸ (I.pe e he).2.2.1)
 have hput : putD (j2 ops.toList S (pl.map (·.i)) t0 tF) o.dst d = j2 ops.toList (S.setIfInBounds i true) (pl.map (·.i)) t0 tF:=by
  have hput0 : putD (gx ops.toList S t0 tF) o.dst d = gx ops.toList (S.setIfInBounds i true) t0 tF :=
   og ho hi (fun k o' hk x hx hx'=>F.uniq k i o' o x hk ho hx' hx) hd
  refine bp (by rw [a6,bk,bk]) fun x hx=>?_
  rw [a6,bk] at hx
  rw [ge hx,← hput0]
  by_cases hdx : o.dst = some x
  ·have hh : wo ops.toList (pl.map (·.i)) x = false:=by
    rw [HW]
    intro hh
    obtain ⟨j,o',h1,h2,h3⟩:=dI.1 hh
    rw [FY] at h1
    obtain ⟨e,he,rfl⟩:=h1
    exact hne e he (F.uniq _ _ _ _ x h2 ho h3 hdx)
   rw [hdx,dH (by rw [bk]; exact hx),hh,if_neg (by simp),dH (by rw [ay]; exact hx)]
  ·rw [cd hdx,cd hdx,ge hx]
 obtain ⟨l',R',E',rt',rd'⟩:=hst
 refine ⟨by simpa using I.size,?_,⟨l',R',E.trans E',by rw [← hput]; exact rt',rd',fun e he=>(hp e he).ext E' R fun k c hk=>.inr ⟨e,he,c,hk⟩⟩,fun e he=>?_,I.dis,I.fresh,?_,hcand⟩
 ·intro k2 o2 hk2 ho2 e he hb
  rw [hsetS] at hk2 ⊢
  rcases hk2 with rfl | hk2
  ·rw [ho] at ho2
   cases ho2
   exact .inr (hpre e he hb)
  ·exact .inr (I.closed k2 o2 hk2 ho2 e he hb)
 ·obtain ⟨g1,g2,g3,_,g5,o2,g6,g7⟩:=I.pe e he
  refine ⟨g1,g2,(hsetS _).2 (.inr g3),hk e he,g5,o2,g6,fun y hy=>⟨fun z hz=>?_,(g7 y hy).2⟩⟩
  obtain ⟨v,ha⟩:=ha
  rw [ha] at hz
  have hdy : o.dst ≠ some y:=fun hdy=>hne e he (F.uniq _ _ _ _ y g6 ho hy hdy)
  refine (g7 y hy).1 z ?_
  cases hd2 : o.dst with
  | none=>rw [hd2] at hz; exact hz
  | some x =>
   rw [hd2] at hz
   have hxy : x ≠ y:=fun h=>hdy (by rw [hd2,h])
   simp only [Act.put,Ik] at hz
   rwa [H6 hxy] at hz
 ·intro c o' hc hq
  rw [hsetS]
  exact hchain c o' hc hq
end
section
variable {P : Program} {Γ : ap} {X : Ctx} {r : Option Nat} {s : AS}
theorem B7 {o : Oper} {d : D} {h' : List Blk} {K : Act → World → Prop} {Q' : Exit → Act → World → Prop} {a : Act} {w : World} (hop : opSem P Γ s.t s.h o.op = some (true,d,h')) (hm : au h' s.m = true)
  (hK : ∀ v w',St Γ X { t:=putD s.t o.dst d,h:=h',m:=s.m } (a.put o.dst v) w' → K (a.put o.dst v) w') (hs : St Γ X s a w) : o.wpIn (FW r) 0 P a w K Q':=by
 obtain ⟨l,R,E,rt,rd⟩:=hs
 obtain ⟨nx,v,w',l',h1,h2,h3,h4,h5⟩:=gD R rt hop
 refine ⟨fun _ _=>trivial,?_⟩
 rw [JP _ _ _ (by intro c hc; rw [hc] at hop; simp [opSem] at hop),h1]
 have key:=St.put (Γ:=Γ) (X:=X) (s:=s) (a:=a) o.dst rt rd E h3 h4 h5 hm
 rcases h2 with rfl | ⟨rfl,rfl⟩
 ·exact hK _ _ key
 ·exact hK _ _ key
theorem Ap {o : Oper} {fv : Operand} {args : Array Operand} {ats : Array TypeId} {K : Act → World → Prop} {Q' : Exit → Act → World → Prop} {a : Act} {w : World}
  (ho : o.op = .call { callee:=.value fv,args,argTypes:=ats })
  (hcall : VInv P Γ (evalD Γ s.t fv) (args.toList.map (evalD Γ s.t)) s.h fun d h'=>au h' s.m = true ∧
   ∀ v w',St Γ X { t:=putD s.t o.dst d,h:=h',m:=s.m } (a.put o.dst v) w' → K (a.put o.dst v) w') (hs : St Γ X s a w) : o.wpIn (FW r) 0 P a w K Q':=by
 obtain ⟨l,R,E,rt,rd⟩:=hs
 refine ⟨fun _ _=>trivial,?_⟩
 rw [JP _ _ _ (by intro c hc; rw [ho] at hc; simp at hc)]
 have e1 : (execOp a.eval o).run P w = (do let d ← HD (a.eval fv) (args.toList.map a.eval).toArray; invoke d.target d.args : Sem Next).run P w:=by
  unfold execOp
  rw [ho]
  simp only [resolve]
  congr 3
  rw [← Array.toList_map]
 rw [e1]
 exact hcall X.O w l _ _ R (bI R rt fv) (gZ R rt args.toList) r o a K Q' fun v d h' l' w' ⟨g1,g2⟩ g3 g4 g5 =>
  g2 _ _ (St.put (Γ:=Γ) (X:=X) (s:=s) (a:=a) o.dst rt rd E g3 g4 g5 g1)
theorem wU {call : CallF} (hc : call.Ok P Γ) {o : Oper} {d : D} {h' : List Blk} {K : Act → World → Prop} {Q' : Exit → Act → World → Prop} {a : Act} {w : World}
  (hop : fE P Γ call s.t s.h o.op = some (d,h')) (hm : au h' s.m = true)
  (hK : ∀ v w',St Γ X { t:=putD s.t o.dst d,h:=h',m:=s.m } (a.put o.dst v) w' → K (a.put o.dst v) w') (hs : St Γ X s a w) : o.wpIn (FW r) 0 P a w K Q':=by
 unfold fE at hop
 split at hop
 ·rename_i ho
  exact Ap ho ((hc _ _ _ _ _ hop).mono fun d2 h2 ⟨e1,e2⟩=>by subst e1; subst e2; exact ⟨hm,hK⟩) hs
 ·split at hop
  ·rename_i h1
   cases hop
   exact B7 h1 hm hK hs
  ·simp at hop
theorem CN {o : Oper} {x : Blk} {K : Act → World → Prop} {Q' : Exit → Act → World → Prop} {a : Act} {w : World} {l : Loc} (R : Rep Γ X.O w l s.h) (rt : RelL w (avs X.O l s.h) l s.h s.t a.tmps.toList)
  (hp : x.plain = true) (hop : opSem P Γ s.t s.h o.op = some (true,.ref (hY x s.h.length),s.h ++ [x])) (hi : s.h.all (FL s.h.length) = true) (hx : x.inn s.h.length = true)
  (hK : ∀ v w' l' p,Rep Γ (pj X.O p) w' l' s.h → Ext w l s.h w' l' s.h → Pd w' (avs (pj X.O p) l' s.h) l' s.h x p → VR x p v → (∀ k c,p = some (k,c) → w.heap.size ≤ k ∧ ¬ X.O k) → K (a.put o.dst v) w') :
  o.wpIn (FW r) 0 P a w K Q':=by
 obtain ⟨v,w',l',p,h1,h2,h3,h4,h5,h6⟩:=wQ (P:=P) R rt hp hop hi hx
 refine ⟨fun _ _=>trivial,?_⟩
 rw [JP _ _ _ (by intro c hc; rw [hc] at hop; simp [opSem] at hop),h1]
 exact hK v w' l' p h2 h3 h4 h5 h6
end
section
variable {P : Program} {Γ : ap} {X : Ctx} {r : Option Nat} {call : CallF} {ops : Array Oper} {pos : Nat → Nat} {late : Nat → Bool} {m : List Nat} {t0 tF : List D} {hs : List (List Blk)} {ts : List (List D)} {Q : Exit → AS → Prop}
theorem CO (F : Fx P Γ ops.toList (cX ops.toList []) pos late m t0 tF hs ts) {k : Nat} (hk : Cand ops.toList pos k) : k ≤ ops.toList.length:=by
 rcases hk with rfl | ⟨c,o,ho,_,rfl⟩
 ·omega
 ·exact F.lt c o ho
theorem pP (F : Fx P Γ ops.toList (cX ops.toList []) pos late m t0 tF hs ts) (hQ : Q .normal { t:=tF,h:=hs.getD ops.size [],m:=m })
  {k : Nat} {S : Array Bool} {pl : List Pe} {a : Act} {w : World} (I0 : Inv5 Γ X ops.toList pos late m t0 tF hs k S pl a w) (hall : ∀ j,j < ops.size → Lst S j) : n7 Γ X Q .normal a w:=by
 have hn : ops.toList.length = ops.size:=by simp
 obtain ⟨k,pl,I,hpl⟩:=told F I0
 have hnil : pl = []:=by
  cases pl with
  | nil=>rfl
  | cons e pl =>
   obtain ⟨c,o,hc,_,_,h⟩:=hpl e (GS ..)
   exact absurd (hall c (by have:=(Fy.1 hc).1; omega)) h
 subst hnil
 refine ⟨by simp,_,hQ,?_⟩
 have e1 : j2 ops.toList S [] t0 tF = tF:=by
  rw [tI]
  refine bp (ay ..) fun x hx=>?_
  exact cZ fun c o hc1 _=>hall c (by have:=(Fy.1 hc1).1; omega)
 have hk:=CO F I.cand
 have e2 : hs.getD ops.size [] = hs.getD k []:=by
  have:=F.const (ops.size - k) k (fun c o hc1 hc2 hx=>by
   have h1:=(I.chain c o hc1 hc2).2 ⟨hall c (by have:=(Fy.1 hc1).1; omega),by simp⟩
   omega) (by omega)
  rwa [show k + (ops.size - k) = ops.size by omega] at this
 obtain ⟨l,R,E,rt,rd,_⟩:=I.st
 have hh : hid [] X.O = X.O:=by
  funext k'
  apply propext
  simp [hid]
 rw [hh] at R rt
 simp only [List.map_nil,e1] at rt
 rw [e2]
 exact ⟨l,R,E,rt,rd⟩
end
section
variable {P : Program} {Γ : ap} {X : Ctx} {r : Option Nat} {call : CallF} {ops : Array Oper} {pos : Nat → Nat} {late : Nat → Bool} {m : List Nat} {t0 tF : List D} {hs : List (List Blk)} {ts : List (List D)} {Q : Exit → AS → Prop}
theorem u7 (F : Fx P Γ ops.toList (cX ops.toList []) pos late m t0 tF hs ts) {k0 i : Nat} {S : Array Bool} {pl0 : List Pe} {a : Act} {w : World} {o : Oper} {K : Act → World → Prop} {Q' : Exit → Act → World → Prop}
  (I0 : Inv5 Γ X ops.toList pos late m t0 tF hs k0 S pl0 a w) (hoL : ops.toList[i]? = some o) (hnotS : ¬ Lst S i) (hpre : ∀ e ∈ o.after.toList,GH .any e = true → Lst S e.on)
  (hK : ∀ k pl a' w',Inv5 Γ X ops.toList pos late m t0 tF hs k (S.setIfInBounds i true) pl a' w' → K a' w') :
  if HI o (yielded ops a.tmps) then o.wpIn (FW r) 0 P a w K Q' else (∀ f,o.about P w a.eval = some f → (FW r).fn f) ∧ K (a.put o.dst undef) w:=by
 obtain ⟨k,pl,I,hpl⟩:=told F I0
 have hiS : i < S.size:=by rw [I.size]; exact (Fy.1 hoL).1
 have hsetS : ∀ j,Lst (S.setIfInBounds i true) j ↔ j = i ∨ Lst S j:=fun j=>oi hiS
 have hclosed' : jK ops.toList (Lst (S.setIfInBounds i true)):=by
  intro k' o' hk' ho' e he hb
  rw [hsetS] at hk' ⊢
  rcases hk' with rfl | hk'
  ·rw [hoL] at ho'
   cases ho'
   exact .inr (hpre e he hb)
  ·exact .inr (I.closed k' o' hk' ho' e he hb)
 have hbits : ∀ j,((cX ops.toList []).getD i 0).testBit j = true → pos j < pos i ∧ Lst S j:=by
  intro j hj
  have h1:=F.posB i o j hoL hj
  have h2:=cO hclosed' (k:=i) ((hsetS i).2 (.inl rfl)) j hj
  rw [hsetS] at h2
  exact ⟨h1,h2.resolve_left (fun h=>by rw [h] at h1; omega)⟩
 obtain ⟨call,hc,d,hst,htF,ht0,hdF⟩:=F.hat i o hoL
 have hne : ∀ e ∈ pl,e.i ≠ i:=fun e he hei=>hnotS (hei ▸ (I.pe e he).2.2.1)
 have hnm : i ∉ pl.map (·.i):=fun hm=>by
  rw [FY] at hm
  obtain ⟨e,he,hei⟩:=hm
  exact hne e he hei
 have hseen : ∀ x ∈ cY ops.toList o,(j2 ops.toList S (pl.map (·.i)) t0 tF).getD x .any = (ts.getD (pos i) []).getD x .any:=by
  intro x hx
  have hh : wo ops.toList (pl.map (·.i)) x = false:=by
   rw [HW]
   intro hh
   obtain ⟨j,o',h1,h2,h3⟩:=dI.1 hh
   rw [FY] at h1
   obtain ⟨e,he,rfl⟩:=h1
   obtain ⟨_,hl,hS,_⟩:=I.pe e he
   rcases F.oper i o x hoL hx e.i o' h2 h3 with hb | hb
   ·obtain ⟨c,o2,g1,g2,g3,g4⟩:=hpl e he
    exact g4 (hbits c (F.seen i e.i o o' x hoL hx h2 h3 hl hb c o2 g1 g2 g3)).2
   ·exact hnotS (cO I.closed hS i hb)
  rw [ke hh]
  by_cases hwr : ∃ (k' : Nat) (o' : Oper),ops.toList[k']? = some o' ∧ o'.dst = some x
  ·obtain ⟨k',o',hk',hd'⟩:=hwr
   have huq : ∀ (j : Nat) (o2 : Oper),ops.toList[j]? = some o2 → o2.dst = some x → j = k':=fun j o2 hj hd2=>F.uniq j k' o2 o' x hj hk' hd2 hd'
   rcases F.oper i o x hoL hx k' o' hk' hd' with hb | hb
   ·obtain ⟨hlt,hSk⟩:=hbits k' hb
    rw [cZ (fun k2 o2 hk2 hd2=>by rw [huq k2 o2 hk2 hd2]; exact hSk)]
    exact htF x fun j o2 hj hle hd2=>by
     have:=huq j o2 hj hd2
     subst this
     omega
   ·have hlt:=F.posB k' o' i hk' hb
    have hnk : ¬ Lst S k':=fun hSk=>hnotS (cO I.closed hSk i hb)
    rw [tG F.len hk' hd' (by unfold Lst at hnk; simpa using hnk)]
    exact (ht0 x fun j o2 hj hle hd2=>by
     have:=huq j o2 hj hd2
     subst this
     omega).symm
  ·rw [cZ (fun k2 o2 hk2 hd2=>absurd ⟨k2,o2,hk2,hd2⟩ hwr)]
   exact htF x fun j o2 hj _ hd2=>hwr ⟨j,o2,hj,hd2⟩
 have hst' : dd P Γ call m ops.toList (j2 ops.toList S (pl.map (·.i)) t0 tF) (hs.getD (pos i) []) o = some (d,hs.getD (pos i + 1) []):=by rw [kH hseen]; exact hst
 obtain ⟨l,hSt,E,R,hpd⟩:=I.here
 obtain ⟨l0,R0,E0,rt0,rd0⟩:=hSt
 have hSt : St Γ { O:=hid pl X.O,w:=w,l:=l,h:=hs.getD k [],D:=X.D } { t:=j2 ops.toList S (pl.map (·.i)) t0 tF,h:=hs.getD k [],m:=m } a w:=⟨l0,R0,E0,rt0,rd0⟩
 have hki : quietOp o.op = false → k ≤ pos i:=fun hq=>by
  apply GI
  intro hlt
  exact hnotS ((I.chain i o hoL hq).1 (by omega)).1
 cases hqo : quietOp o.op
 ·cases hlate : late i
  ·-- it may change the heap, and is no late one
   have hall : ∀ c o',ops.toList[c]? = some o' → quietOp o'.op = false → pos c < pos i → Lst S c:=fun c o' hc' hq' hp=>(hbits c (F.chain i c o o' hoL hc' hqo hq' hlate hp)).2
   have hple : ∀ e ∈ pl,pos i + 1 ≤ pos e.i:=by
    intro e he
    obtain ⟨c,o2,g1,g2,g3,g4⟩:=hpl e he
    obtain ⟨_,_,_,_,_,o3,g5,_⟩:=I.pe e he
    have : ¬ pos c < pos i:=fun h=>g4 (hall c o2 g1 g2 h)
    omega
   have hH : hs.getD (pos i) [] = hs.getD k []:=by
    have hk:=hki hqo
    have:=F.const (pos i - k) k (fun c o' hc1 hc2 hx=>by
     have h1:=hall c o' hc1 hc2 (by omega)
     have:=(I.chain c o' hc1 hc2).2 ⟨h1,fun hm=>by
      rw [FY] at hm
      obtain ⟨e,he,rfl⟩:=hm
      have:=hple e he
      omega⟩
     omega) (by have:=F.lt i o hoL; omega)
    rwa [show k + (pos i - k) = pos i by omega] at this
   have hfin : ∀ a' w',(∃ v,a'.tmps = (a.put o.dst v).tmps) → St Γ { O:=hid pl X.O,w:=w,l:=l,h:=hs.getD k [],D:=X.D } { t:=putD (j2 ops.toList S (pl.map (·.i)) t0 tF) o.dst d,h:=hs.getD (pos i + 1) [],m:=m } a' w' →
     Inv5 Γ X ops.toList pos late m t0 tF hs (pos i + 1) (S.setIfInBounds i true) pl a' w':=by
    intro a' w' ha hst2
    refine I.after (_v:=undef) F hoL hnotS hpre E R hpd hst2 ha hdF hple (.inr ⟨i,o,hoL,hqo,rfl⟩) fun c o' hc1 hc2=>?_
    constructor
    ·intro hp
     by_cases hci : pos c = pos i
     ·have:=F.inj c i o' o hc1 hoL hci
      subst this
      exact ⟨.inl rfl,hnm⟩
     ·have h1:=hall c o' hc1 hc2 (by omega)
      refine ⟨.inr h1,fun hm=>?_⟩
      rw [FY] at hm
      obtain ⟨e,he,rfl⟩:=hm
      have:=hple e he
      omega
    ·rintro ⟨rfl | h1,h2⟩
     ·omega
     ·have:=(I.chain c o' hc1 hc2).2 ⟨h1,h2⟩
      have:=hki hqo
      omega
   rw [hH] at hst'
   unfold dd at hst'
   split at hst'
   ·rename_i hg
    split at hst'
    ·rename_i d1 h1 hop
     split at hst'
     ·rename_i hm
      simp only [Fq,Fw] at hst'
      obtain ⟨rfl,rfl⟩:=hst'
      rw [if_pos (aQ rt0 hg)]
      exact wU (s:={ t:=j2 ops.toList S (pl.map (·.i)) t0 tF,h:=hs.getD k [],m:=m }) hc hop hm (fun v w' hs'=>hK _ _ _ _ (hfin _ _ ⟨v,rfl⟩ hs')) hSt
     ·simp at hst'
    ·simp at hst'
   ·rename_i hg
    simp only [Fq,Fw] at hst'
    obtain ⟨rfl,hh⟩:=hst'
    rw [if_neg (by rw [aQ rt0 hg]; simp)]
    refine ⟨fun _ _=>trivial,hK _ _ _ _ (hfin _ w ⟨undef,rfl⟩ ?_)⟩
    rw [← hh]
    exact St.skip (s:={ t:=j2 ops.toList S (pl.map (·.i)) t0 tF,h:=hs.getD k [],m:=m }) o.dst hSt
   ·simp at hst'
  ·-- an allocation that is done and not told of
   obtain ⟨hfo,_,hgn⟩:=F.lateOk i o hoL hlate
   unfold dd at hst'
   rw [hgn] at hst'
   simp only [aP] at hst'
   split at hst'
   case h_2=>simp at hst'
   rename_i d1 h1 hop
   split at hst'
   case isFalse=>simp at hst'
   simp only [Fq,Fw] at hst'
   obtain ⟨rfl,rfl⟩:=hst'
   unfold fE at hop
   split at hop
   ·rename_i hcl; rw [hcl] at hfo; simp [freeOp] at hfo
   split at hop
   case h_2=>simp at hop
   rename_i d2 h2 hop2
   simp only [Fq,Fw] at hop
   obtain ⟨rfl,hh1⟩:=hop
   obtain ⟨x,hxp,_,hd,hh2,hall⟩:=Ao hfo hop2
   have hhs : hs.getD (pos i + 1) [] = hs.getD (pos i) [] ++ [x]:=by rw [← hh1,hh2]
   obtain ⟨hi1,hi2⟩:=F.inn i o k x hoL hlate I.cand hhs
   have hw : HI o (yielded ops a.tmps) = true:=aQ (b:=true) rt0 (by rw [hgn]; rfl)
   rw [if_pos hw]
   obtain ⟨l',R',E',rt',rd',hpd'⟩:=I.st
   refine CN (X:={ O:=hid pl X.O,w:=w,l:=l',h:=hs.getD k [] }) (s:={ t:=j2 ops.toList S (pl.map (·.i)) t0 tF,h:=hs.getD k [],m:=m }) R' rt' hxp (hall _) hi1 hi2 ?_
   intro v w' l2 p R2 E2 hPd hVR hfr
   simp only at R2 E2 hPd hfr
   refine hK k ({ i:=i,p:=p,v:=v,x:=x } :: pl) _ _ ?_
   have hhid : hid ({ i:=i,p:=p,v:=v,x:=x } :: pl) X.O = pj (hid pl X.O) p:=by
    funext k'
    apply propext
    constructor
    ·rintro (h | ⟨f,hf,c,h⟩)
     ·exact .inl (.inl h)
     ·rcases Gd.1 hf with rfl | hf
      ·exact .inr ⟨c,h⟩
      ·exact .inl (.inr ⟨f,hf,c,h⟩)
    ·rintro ((h | ⟨f,hf,c,h⟩) | ⟨c,h⟩)
     ·exact .inl h
     ·exact .inr ⟨f,Hx _ hf,c,h⟩
     ·exact .inr ⟨_,GS ..,c,h⟩
   have hc : ∀ blk off y,¬ avs (hid pl X.O) l' (hs.getD k []) blk → w.cell? ⟨blk,off,none⟩ = some y → w'.cell? ⟨blk,off,none⟩ = some y ∧ ¬ avs (pj (hid pl X.O) p) l2 (hs.getD k []) blk:=by
    intro blk off y hn hy
    obtain ⟨g1,g2⟩:=E2.hc (O:=hid pl X.O) blk off y hn hy
    refine ⟨g1,?_⟩
    rintro ((h | ⟨c,h⟩) | h)
    ·exact g2 (.inl h)
    ·have:=(hfr blk c h).1
     have:=mt hy
     omega
    ·exact g2 (.inr h)
   have hput0 : putD (gx ops.toList S t0 tF) o.dst d2 = gx ops.toList (S.setIfInBounds i true) t0 tF :=
    og hoL hiS (fun k o' hk x hx hx'=>F.uniq k i o' o x hk hoL hx' hx) hdF
   have hlenT:=eT _ _ rt'
   rw [bk] at hlenT
   have hat : ∀ y z,(a.put o.dst v).tmps.toList[y]? = some z → (o.dst = some y ∧ z = v) ∨ (o.dst ≠ some y ∧ a.tmps.toList[y]? = some z):=by
    intro y z hz
    cases hd2 : o.dst with
    | none=>rw [hd2] at hz; exact .inr ⟨by simp,hz⟩
    | some x0 =>
     rw [hd2] at hz
     simp only [Act.put,Ik] at hz
     by_cases hxy : x0 = y
     ·subst hxy
      have hlt:=(Fy.1 hz).1
      simp only [List.length_set] at hlt
      rw [List.getElem?_set_self hlt] at hz
      exact .inl ⟨rfl,by simpa using hz.symm⟩
     ·rw [H6 hxy] at hz
      exact .inr ⟨by simpa using hxy,hz⟩
   refine ⟨by simpa using I.size,hclosed',⟨l2,by rw [hhid]; exact R2,E'.trans E2,?_,?_,?_⟩,?_,?_,?_,?_,I.cand⟩
   ·rw [hhid]
    refine i4 ?_ fun y z hz=>?_
    ·rw [bk,hlenT]
     cases o.dst <;> simp [Act.put]
    ·rcases hat y z hz with ⟨h3,rfl⟩ | ⟨h3,h4⟩
     ·have hlt : y < tF.length:=by
       have:=(Fy.1 hz).1
       cases hd2 : o.dst <;> rw [hd2] at this <;> simp [Act.put] at this <;> simp at hlenT <;> omega
      rw [ge hlt,if_pos (dI.2 ⟨i,o,by simp,hoL,h3⟩)]
      simp [Rel]
     ·have base:=Rel.mono hc E2.keep _ _ (wR rt' h4)
      have hlt : y < tF.length:=by
       have:=(Fy.1 h4).1
       omega
      rw [ge hlt] at base ⊢
      have e1 : wo ops.toList (({ i:=i,p:=p,v:=v,x:=x } :: pl).map (·.i)) y = wo ops.toList (pl.map (·.i)) y:=by
       rw [HB,dI,dI]
       constructor
       ·rintro ⟨j,o',g1,g2,g3⟩
        simp only [GJ,Gd] at g1
        rcases g1 with rfl | g1
        ·rw [hoL] at g2; cases g2; exact absurd g3 h3
        ·exact ⟨j,o',g1,g2,g3⟩
       ·rintro ⟨j,o',g1,g2,g3⟩
        exact ⟨j,o',by simp only [GJ,Gd]; exact .inr g1,g2,g3⟩
      rw [e1,← hput0,cd h3]
      exact base
   ·have : (a.put o.dst v).defers = a.defers:=by cases o.dst <;> rfl
    rw [this]
    exact Jb E2.keep (cP rd') rd'
   ·intro e he
    rw [hhid]
    rcases Gd.1 he with rfl | he
    ·exact hPd
    ·refine (hpd' e he).mono hc E2.keep (FT _) fun blk c hk=>?_
     have hO : hid pl X.O blk:=.inr ⟨e,he,c,hk⟩
     exact E2.same blk (R'.obd blk hO) fun ho=>(R'.inb blk ho).2 hO
   ·intro e he
    rcases Gd.1 he with rfl | he
    ·refine ⟨hVR,hlate,(hsetS _).2 (.inl rfl),hki hqo,hhs,o,hoL,fun y hy=>⟨fun z hz=>?_,fun hlt=>?_⟩⟩
     ·rcases hat y z hz with ⟨_,h4⟩ | ⟨h3,_⟩
      ·exact h4
      ·exact absurd hy h3
     ·rw [hdF y hy hlt,hd]
    ·obtain ⟨g1,g2,g3,g4,g5,o2,g6,g7⟩:=I.pe e he
     refine ⟨g1,g2,(hsetS _).2 (.inr g3),g4,g5,o2,g6,fun y hy=>⟨fun z hz=>?_,(g7 y hy).2⟩⟩
     rcases hat y z hz with ⟨h3,_⟩ | ⟨_,h4⟩
     ·exact absurd (F.uniq _ _ _ _ y g6 hoL hy h3) (hne e he)
     ·exact (g7 y hy).1 z h4
   ·refine IL.2 ⟨fun e he=>⟨fun h=>hne e he h.symm,fun k c c' h3 h4=>(hfr k c h3).2 (.inr ⟨e,he,c',h4⟩)⟩,I.dis⟩
   ·intro e he k' c hk
    rcases Gd.1 he with rfl | he
    ·obtain ⟨h3,h4⟩:=hfr k' c hk
     exact ⟨Nat.le_trans E'.size h3,fun h=>h4 (.inl h)⟩
    ·exact I.fresh e he k' c hk
   ·intro c o' hc1 hc2
    rw [hsetS,I.chain c o' hc1 hc2]
    simp only [GJ,Gd,not_or]
    constructor
    ·rintro ⟨h3,h4⟩
     exact ⟨.inr h3,fun h=>hnotS (h ▸ h3),h4⟩
    ·rintro ⟨h3 | h3,h4,h5⟩
     ·exact absurd h3 h4
     ·exact ⟨h3,h5⟩
 ·-- it leaves the heap alone
  have hchain : ∀ c o',ops.toList[c]? = some o' → quietOp o'.op = false → (pos c < k ↔ (c = i ∨ Lst S c) ∧ c ∉ pl.map (·.i)):=by
   intro c o' hc1 hc2
   rw [I.chain c o' hc1 hc2]
   constructor
   ·exact fun h=>⟨.inr h.1,h.2⟩
   ·rintro ⟨rfl | h1,h2⟩
    ·rw [hoL] at hc1; cases hc1; rw [hqo] at hc2; cases hc2
    ·exact ⟨h1,h2⟩
  have hfin : ∀ d',(∀ x,o.dst = some x → x < tF.length → tF.getD x .any = d') → ∀ a' w',(∃ v,a'.tmps = (a.put o.dst v).tmps) →
    St Γ { O:=hid pl X.O,w:=w,l:=l,h:=hs.getD k [],D:=X.D } { t:=putD (j2 ops.toList S (pl.map (·.i)) t0 tF) o.dst d',h:=hs.getD k [],m:=m } a' w' →
    Inv5 Γ X ops.toList pos late m t0 tF hs k (S.setIfInBounds i true) pl a' w':=fun d' hd' a' w' ha hst2 =>
   I.after (_v:=undef) F hoL hnotS hpre E R hpd hst2 ha hd' (fun e he=>(I.pe e he).2.2.2.1) I.cand hchain
  have hgF : aP ops.toList (ts.getD (pos i) []) o.guard = aP ops.toList (j2 ops.toList S (pl.map (·.i)) t0 tF) o.guard :=
   fG fun x hx=>(hseen x (by unfold cY; simp only [He,Option.mem_toList]; exact .inr hx)).symm
  unfold dd at hst'
  split at hst'
  ·rename_i hg
   rw [if_pos (aQ rt0 hg)]
   obtain ⟨d2,h2,hop,hd2⟩:=F.quiet i o hoL hqo (by rw [hgF]; exact hg) k I.cand fun c o' hc1 hc2=>by
    refine ⟨fun hp=>?_,fun hp hb=>?_⟩
    ·rw [HW]
     exact fun hb=>hnotS (cO I.closed ((I.chain c o' hc1 hc2).1 hp).1 i hb)
    ·have h1:=(hbits c hb).2
     apply GI
     intro hl
     have:=(I.chain c o' hc1 hc2).2 ⟨h1,fun hm=>by
      rw [FY] at hm
      obtain ⟨e,he,rfl⟩:=hm
      exact hl (I.pe e he).2.1⟩
     omega
   have hh:=bL hqo hop
   subst hh
   rw [dG (t':=j2 ops.toList S (pl.map (·.i)) t0 tF) o.op (fun x hx=>gF fun j hj=>(hseen j (by
    unfold cY; simp only [He,List.mem_filterMap]; exact .inl ⟨x,by simpa using hx,hj⟩)).symm)] at hop
   exact B7 (s:={ t:=j2 ops.toList S (pl.map (·.i)) t0 tF,h:=hs.getD k [],m:=m }) hop hSt.marks (fun v w' hs'=>hK _ _ _ _ (hfin d2 (fun x hx _=>hd2 x hx) _ _ ⟨v,rfl⟩ hs')) hSt
  ·rename_i hg
   simp only [Fq,Fw] at hst'
   obtain ⟨rfl,_⟩:=hst'
   rw [if_neg (by rw [aQ rt0 hg]; simp)]
   exact ⟨fun _ _=>trivial,hK _ _ _ _ (hfin _ hdF _ w ⟨undef,rfl⟩ (St.skip (s:={ t:=j2 ops.toList S (pl.map (·.i)) t0 tF,h:=hs.getD k [],m:=m }) o.dst hSt))⟩
  ·simp at hst'
end
section
variable {P : Program} {Γ : ap} {X : Ctx} {r : Option Nat} {call : CallF} {ops : Array Oper} {pos : Nat → Nat} {late : Nat → Bool} {m : List Nat} {t0 tF : List D} {hs : List (List Blk)} {ts : List (List D)} {Q : Exit → AS → Prop}
theorem sb (F : Fx P Γ ops.toList (cX ops.toList []) pos late m t0 tF hs ts) (hQ : Q .normal { t:=tF,h:=hs.getD ops.size [],m:=m }) :
  ∀ (fuel : Nat) (k : Nat) (S : Array Bool) (pl : List Pe) (a : Act) (w : World),Inv5 Γ X ops.toList pos late m t0 tF hs k S pl a w → (Gy ops.size).countP (fun j=>!S.getD j false) ≤ fuel →
   wpAnyIn (FW r) 0 P .any ops (n7 Γ X Q) fuel S a w:=by
 have hn : ops.toList.length = ops.size:=by simp
 intro fuel
 induction fuel with
 | zero =>
  intro k S pl a w I hcnt
  have hall : ∀ j,j < ops.size → Lst S j:=by
   intro j hj
   have h0 : (Gy ops.size).countP (fun j=>!S.getD j false) = 0:=by omega
   rw [List.countP_eq_zero] at h0
   have:=h0 j (by simpa using hj)
   simpa [Lst] using this
  refine ⟨?_,pP F hQ I hall⟩
  unfold I4
  rw [Jn]
  intro j hj
  have hj' : j < ops.size:=by simpa using hj
  have:=hall j hj'
  have hs2 : j < S.size:=by rw [I.size,hn]; exact hj'
  unfold Lst at this
  have h3 : S.getD j true = true:=by
   simp only [Gn,Gt hs2,Hl] at this ⊢
   exact this
  simp [h3]
 | succ fuel ih =>
  intro k S pl a w I hcnt
  refine ⟨fun hnone=>?_,fun i hi=>?_⟩
  ·refine pP F hQ I ?_
   have key : ∀ n,∀ j,j < n → j < ops.size → Lst S j:=by
    intro n
    induction n with
    | zero=>intro j hj; omega
    | succ n ihn =>
     intro j hj hjs
     by_cases hjn : j < n
     ·exact ihn j hjn hjs
     have : j = n:=by omega
     subst this
     apply GI
     intro hno
     unfold I4 at hnone
     rw [Jn] at hnone
     have h1:=hnone j (by simpa using hjs)
     apply h1
     have hs2 : j < S.size:=by rw [I.size,hn]; exact hjs
     have ho : ops[j]? = some ops[j]:=Gt hjs
     have h3 : S.getD j true = false:=by
      unfold Lst at hno
      simp only [Gn,Gt hs2,Hl] at hno ⊢
      simpa using hno
     have h4 : (ops[j].after.all fun e=>!GH .any e || S.getD e.on false) = true:=by
      rw [H8]
      intro e he
      cases hb : GH .any e
      ·rfl
      ·have hlt:=F.edge j ops[j] (by simp) e (by simpa using he) hb
       have:=ihn e.on hlt (by omega)
       simpa [Lst] using this
     rw [h3,ho]
     simpa using h4
   exact fun j hj=>key (j + 1) j (by omega) hj
  ·unfold I4 at hi
   rw [IA] at hi
   obtain ⟨hi1,hi2⟩:=hi
   have his : i < ops.size:=by simpa using hi1
   have hiS : i < S.size:=by rw [I.size,hn]; exact his
   have ho : ops[i]? = some ops[i]:=Gt his
   generalize ho0 : ops[i] = o at ho
   have hoL : ops.toList[i]? = some o:=by simpa using ho
   simp only [ho,Gb,Hl,FB,GN] at hi2
   obtain ⟨hi3,hi4⟩:=hi2
   have hnotS : ¬ Lst S i:=by
    unfold Lst
    simp only [Gn,Gt hiS,Hl] at hi3 ⊢
    simp [hi3]
   have hpre : ∀ e ∈ o.after.toList,GH .any e = true → Lst S e.on:=by
    intro e he hb
    rw [H8] at hi4
    have:=hi4 e (by simpa using he)
    simpa [hb,Lst] using this
   have hsetS : ∀ j,Lst (S.setIfInBounds i true) j ↔ j = i ∨ Lst S j:=fun j=>oi hiS
   have hcnt' : (Gy ops.size).countP (fun j=>!(S.setIfInBounds i true).getD j false) ≤ fuel:=by
    have : (Gy ops.size).countP (fun j=>!(S.setIfInBounds i true).getD j false) < (Gy ops.size).countP (fun j=>!S.getD j false):=by
     refine kJ (fun x hx=>?_) i (by simpa using his) ?_ ?_
     ·have h1 : ¬ Lst (S.setIfInBounds i true) x:=by unfold Lst; simpa using hx
      rw [hsetS] at h1
      have : ¬ Lst S x:=fun h=>h1 (.inr h)
      unfold Lst at this
      simpa using this
     ·unfold Lst at hnotS; simpa using hnotS
     ·have : Lst (S.setIfInBounds i true) i:=(hsetS i).2 (.inl rfl)
      unfold Lst at this
      simpa using this
    omega
   have:=u7 (r:=r) (K:=wpAnyIn (FW r) 0 P .any ops (n7 Γ X Q) fuel (S.setIfInBounds i true)) (Q':=n7 Γ X Q) F I hoL hnotS hpre (fun k' pl' a' w' I'=>ih k' _ pl' a' w' I' hcnt')
   unfold wpOpIn
   simp only [ho]
   exact this
end
section
variable {P : Program} {Γ : ap} {X : Ctx} {r : Option Nat} {call : CallF} {ops : Array Oper} {pos : Nat → Nat} {late : Nat → Bool} {s : AS} {tF : List D} {hs : List (List Blk)} {ts : List (List D)} {Q : Exit → AS → Prop}
theorem VW.draw5 (ok : POk P) {id : Nat} (F : Fx P Γ ops.toList (cX ops.toList []) pos late s.m s.t tF hs ts) (h0 : hs.getD 0 [] = s.h)
  (hun : ∀ x,(∀ o ∈ ops.toList,o.dst ≠ some x) → tF.getD x .any = s.t.getD x .any) (hQ : Q .normal { t:=tF,h:=hs.getD ops.size [],m:=s.m }) : VW P Γ X r (.region id ops true) Q s:=by
 intro a w hst
 refine wpIn_region_any ok.mixed ?_
 have hrep : ∀ j,(Ki ops.size false).getD j false = false:=by
  intro j
  simp only [Gn,Array.getElem?_replicate]
  split <;> rfl
 refine sb (t0:=s.t) (hs:=hs) F hQ ops.size 0 _ [] a _ ⟨by simp,fun k o hk _ _ _ _=>?_,?_,fun e he=>by simp at he,List.Pairwise.nil,fun e he=>by simp at he,fun c o _ _=>?_,.inl rfl⟩ ?_
 ·unfold Lst at hk; rw [hrep] at hk; cases hk
 ·have e1 : j2 ops.toList (Ki ops.size false) [] s.t tF = s.t:=by
   rw [tI]
   refine bp (by rw [ay,F.len]) fun x hx=>?_
   rw [ay] at hx
   rw [gc hx]
   split
   ·rfl
   ·rename_i hp
    refine hun x fun o ho hd=>hp ?_
    obtain ⟨k,hk⟩:=Hc.1 ho
    exact di.2 ⟨k,o,hk,hd,hrep k⟩
  have hh : hid [] X.O = X.O:=by
   funext k'
   apply propext
   simp [hid]
  obtain ⟨l,R,E,rt,rd⟩:=hst
  obtain ⟨R',E'⟩:=R.of_heap (w':={ w with drawn:=w.drawn + 1 }) rfl ⟨rfl,rfl,rfl,(by first | exact FT _ | exact Nat.le_succ _)⟩
  refine ⟨l,?_,?_,?_,?_,fun e he=>by simp at he⟩
  ·rw [h0,hh]; exact R'
  ·rw [h0]; exact E.trans E'
  ·rw [h0,hh,List.map_nil,e1]; exact E'.relL rt
  ·rw [h0]; exact rd
 ·unfold Lst
  rw [hrep]
  simp
 ·refine Nat.le_trans List.countP_le_length (by simp)
end
def u9 (B : List Nat) (i j : Nat) : Bool:=!(B.getD i 0).testBit j && !(B.getD j 0).testBit i
def pQ (L : List Oper) (B : List Nat) : List Nat :=
 (L.zipIdx.filter fun p=>freeOp p.1.op && p.1.guard.isNone && (fH L).any fun c=>c != p.2 && u9 B p.2 c).map (·.2)
def CP (B : List Nat) (lt : List Nat) : List Nat → List Nat → List Nat
 | [],pend=>pend
 | j :: js,pend =>
  if lt.contains j then CP B lt js (pend ++ [j])
  else (pend.filter fun i=>(B.getD j 0).testBit i) ++ j :: CP B lt js (pend.filter fun i=>!(B.getD j 0).testBit i)
def CQ (L : List Oper) (B : List Nat) (lt : List Nat) : List Nat:=CP B lt (Gy L.length) []
def a7 (ord : List Nat) (i : Nat) : Nat:=ord.idxOf i
def eU (L : List Oper) (B : List Nat) (ord : List Nat) (lt : List Nat) : Bool :=
 (decide (ord.length = L.length) && (ord.zipIdx.all fun p=>a7 ord p.1 == p.2 && decide (p.1 < L.length))) &&
 L.zipIdx.all fun p =>
  (decide (a7 ord p.2 < L.length) &&
  (ord[a7 ord p.2]? == some p.2)) &&
  ((p.1.after.toList.all fun e=>!GH .any e || decide (e.on < p.2)) &&
  ((Gy (p.2 + 1)).all fun j=>!(B.getD p.2 0).testBit j || decide (a7 ord j < a7 ord p.2))) &&
  ((L.zipIdx.all fun q=>(p.2 == q.2 || p.1.dst.isNone || !(p.1.dst == q.1.dst)) &&
   (quietOp p.1.op || quietOp q.1.op || lt.contains p.2 || !decide (a7 ord q.2 < a7 ord p.2) || (B.getD p.2 0).testBit q.2)) &&
  ((cY L p.1).all fun x=>L.zipIdx.all fun q=>!(q.1.dst == some x) ||
   ((B.getD p.2 0).testBit q.2 && (!lt.contains q.2 || L.zipIdx.all fun s=>quietOp s.1.op || !decide (a7 ord s.2 < a7 ord q.2) || (B.getD p.2 0).testBit s.2)) ||
   (!(B.getD p.2 0).testBit q.2 && (B.getD q.2 0).testBit p.2))) &&
  (!lt.contains p.2 || (freeOp p.1.op && p.1.guard.isNone && !quietOp p.1.op))
theorem vd {f : D → D} (hf : FixOk f) {L : List Oper} {t : List D} {g : Option (Nat × Bool)} {b : Bool} (h : aP L t g = some b) : aP L (t.map f) g = some b:=by
 unfold aP at h ⊢
 split at h
 ·exact h
 ·split at h
  ·rename_i x hx
   simp only [F3,GO] at h ⊢
   cases ht : t[x]? with
   | none=>simp [ht,guardV] at h
   | some d =>
    simp only [ht,Hl,Gb] at h ⊢
    have h0:=h
    unfold guardV at h
    split at h
    ·rw [hf.pure]; exact h0
    ·rw [hf.gd]; exact h0
    ·simp at h
  ·exact h
def j3 (L : List Oper) (ord : List Nat) : List Oper:=ord.map fun i=>L.getD i default
def fI (L : List Oper) (ord : List Nat) : List Nat:=0 :: (fH L).map fun c=>a7 ord c + 1
def innB (L : List Oper) (ord lt : List Nat) (hs : List (List Blk)) : Bool :=
 lt.all fun i=>(fI L ord).all fun k=>(hs.getD k []).all (FL (hs.getD k []).length) &&
  ((hs.getD (a7 ord i + 1) []).drop (hs.getD (a7 ord i) []).length).all (FL (hs.getD k []).length)
def kL (L : List Oper) (B ord lt : List Nat) (i k : Nat) : Bool :=
 (fH L).all fun c=>if a7 ord c < k then !(B.getD c 0).testBit i else (!(B.getD i 0).testBit c || lt.contains c)
section
variable {P : Program} {Γ : ap} {call : CallF} {m : List Nat} {L : List Oper} {B ord lt : List Nat} {t0 tF : List D} {hs : List (List Blk)} {ts : List (List D)}
structure Ord (L : List Oper) (ord : List Nat) : Prop where
 len : ord.length = L.length
 at' : ∀ (i : Nat) (o : Oper),L[i]? = some o → a7 ord i < L.length ∧ ord[a7 ord i]? = some i
 back : ∀ (q i : Nat),ord[q]? = some i → a7 ord i = q ∧ i < L.length
theorem wV (hO : Ord L ord) {i : Nat} {o : Oper} (h : L[i]? = some o) : (j3 L ord)[a7 ord i]? = some o:=by
 unfold j3
 rw [GO,(hO.at' i o h).2]
 simp [F3,h]
theorem i5 (hO : Ord L ord) {q : Nat} {o : Oper} (h : (j3 L ord)[q]? = some o) : ∃ i,L[i]? = some o ∧ a7 ord i = q:=by
 unfold j3 at h
 rw [GO,FD] at h
 obtain ⟨i,h1,h2⟩:=h
 obtain ⟨h3,h4⟩:=hO.back q i h1
 refine ⟨i,?_,h3⟩
 rw [← h2,F3,FK h4]
 rfl
end
section
variable {P : Program} {Γ : ap} {call : CallF} {m : List Nat} {L : List Oper} {ord lt : List Nat} {t0 tF : List D} {h0 : List Blk} {hs : List (List Blk)} {ts : List (List D)}
theorem B8 (h : eU L (cX L []) ord lt = true) : Ord L ord:=by
 unfold eU at h
 simp only [FB,decide_eq_true_eq] at h
 obtain ⟨⟨h1,h2⟩,h3⟩:=h
 refine ⟨h1,fun i o ho=>?_,fun q i hq=>?_⟩
 ·have:=aU h3 ho
  simp only [FB,decide_eq_true_eq,beq_iff_eq] at this
  exact this.1.1.1
 ·have:=FZ.1 h2 (i,q) (by rw [GW]; exact hq)
  simpa using this
theorem tJ (_hO : Ord L ord) {k : Nat} (hk : Cand L (a7 ord) k) : k ∈ fI L ord:=by
 unfold fI
 rcases hk with rfl | ⟨c,o,ho,hq,rfl⟩
 ·exact GS ..
 ·exact Hx _ (FY.2 ⟨c,u6 ho hq,rfl⟩)
theorem fx_ofQ (hs0 : eU L (cX L []) ord lt = true) (hr : runR P Γ m L Eq (· = id) (j3 L ord) t0 h0 tF hs ts) (hi : innB L ord lt hs = true) (hq : ∀ (i : Nat) (o : Oper),L[i]? = some o → quietOp o.op = true → aP L (ts.getD (a7 ord i) []) o.guard = some true → ∀ k ∈ fI L ord,kL L (cX L []) ord lt i k = true →
   ∃ d h',opSem P Γ (ts.getD (a7 ord i) []) (hs.getD k []) o.op = some (true,d,h') ∧ ∀ x,o.dst = some x → tF.getD x .any = d) :
  Fx P Γ L (cX L []) (a7 ord) (fun i=>lt.contains i) m t0 tF hs ts ∧ hs.getD 0 [] = h0 ∧ ∀ x,(∀ o ∈ L,o.dst ≠ some x) → tF.getD x .any = t0.getD x .any:=by
 have hO:=B8 hs0
 have hst:=hs0
 unfold eU at hst
 simp only [FB] at hst
 have hall:=hst.2
 have fact:=fun {i : Nat} {o : Oper} (ho : L[i]? = some o)=>aU hall ho
 simp only [FB] at fact
 have edge : ∀ (i : Nat) (o : Oper),L[i]? = some o → ∀ e ∈ o.after.toList,GH .any e = true → e.on < i:=by
  intro i o ho e he hb
  have:=FZ.1 (fact ho).1.1.2.1 e he
  simpa [hb] using this
 have uniq : ∀ (i j : Nat) (o o' : Oper) (x : Tmp),L[i]? = some o → L[j]? = some o' → o.dst = some x → o'.dst = some x → i = j:=by
  intro i j o o' x ho ho' hd hd'
  have:=aU (fact ho).1.2.1 ho'
  simp only [FB] at this
  have:=this.1
  simpa [hd,hd'] using this
 obtain ⟨g1,g2,g3,g4,g5⟩:=kI _ _ _ _ _ _ hr
 have inj : ∀ (i j : Nat) (o o' : Oper),L[i]? = some o → L[j]? = some o' → a7 ord i = a7 ord j → i = j:=by
  intro i j o o' hi' hj he
  have h1:=(hO.at' i o hi').2
  have h2:=(hO.at' j o' hj).2
  rw [he,h2] at h1
  simpa using h1.symm
 have posB : ∀ (i : Nat) (o : Oper) (j : Nat),L[i]? = some o → ((cX L []).getD i 0).testBit j = true → a7 ord j < a7 ord i:=by
  intro i o j ho hb
  have hcl : jK L (fun x=>x ≤ i):=fun k o' hk ho' e he hbe=>by
   have:=edge k o' ho' e he hbe
   show e.on ≤ i
   omega
  have h1 : j ≤ i:=cO hcl (k:=i) (FT i) j hb
  have:=FZ.1 (fact ho).1.1.2.2 j (by simp; omega)
  rw [hb] at this
  simpa using this
 have hlen : (j3 L ord).length = L.length:=by unfold j3; rw [List.length_map,hO.len]
 have hatP : ∀ (i : Nat) (o : Oper),L[i]? = some o → ∃ call,J5 P Γ call ∧ ∃ d,dd P Γ call m L (ts.getD (a7 ord i) []) (hs.getD (a7 ord i) []) o = some (d,hs.getD (a7 ord i + 1) []) ∧
   (∀ x,(∀ (j : Nat) (o' : Oper),L[j]? = some o' → a7 ord i ≤ a7 ord j → o'.dst ≠ some x) → tF.getD x .any = (ts.getD (a7 ord i) []).getD x .any) ∧
   (∀ x,(∀ (j : Nat) (o' : Oper),L[j]? = some o' → a7 ord j < a7 ord i → o'.dst ≠ some x) → (ts.getD (a7 ord i) []).getD x .any = t0.getD x .any) ∧
   (∀ x,o.dst = some x → x < tF.length → tF.getD x .any = d):=by
  intro i o ho
  obtain ⟨call,hco,f,d',d,⟨hf,k1,rfl⟩,k2,k3,k4⟩:=g5 (a7 ord i) o (wV hO ho)
  rw [hf,Hv] at k1
  refine ⟨call,hco,d',k1,fun x hx=>k2 x fun q o' hle hq'=>?_,fun x hx=>k3 x fun q o' hle hq'=>?_,fun x hx hlt=>k4 x hx (fun q o' hlt' hq'=>?_) (by rw [← g1]; exact hlt)⟩
  ·obtain ⟨j,hj,rfl⟩:=i5 hO hq'
   exact hx j o' hj hle
  ·obtain ⟨j,hj,rfl⟩:=i5 hO hq'
   exact hx j o' hj hle
  ·obtain ⟨j,hj,rfl⟩:=i5 hO hq'
   intro hd
   have:=uniq j i o' o x hj ho hd hx
   subst this
   omega
 have const1 : ∀ q o,(j3 L ord)[q]? = some o → quietOp o.op = true → hs.getD (q + 1) [] = hs.getD q []:=by
  intro q o ho hqo
  obtain ⟨call,hco,f,d',d,⟨_,k1,_⟩,_⟩:=g5 q o ho
  exact kK hqo k1
 have const : ∀ n k,(∀ c o,L[c]? = some o → quietOp o.op = false → ¬ (k ≤ a7 ord c ∧ a7 ord c < k + n)) → k + n ≤ L.length → hs.getD (k + n) [] = hs.getD k []:=by
  intro n
  induction n with
  | zero=>intro k _ _; rfl
  | succ n ih =>
   intro k h1 h2
   have hlt : k + n < (j3 L ord).length:=by omega
   have ho:=FK hlt
   obtain ⟨j,hj,hpj⟩:=i5 hO ho
   have hqo : quietOp ((j3 L ord)[k + n]).op = true:=by
    rw [← Bool.not_eq_false]
    exact fun hf=>h1 j _ hj hf (by omega)
   rw [← Nat.add_assoc,const1 _ _ ho hqo]
   exact ih k (fun c o hc1 hc2=>fun hx=>h1 c o hc1 hc2 (by omega)) (by omega)
 refine ⟨⟨edge,posB,uniq,inj,fun i o ho=>(hO.at' i o ho).1,?_,?_,?_,?_,hatP,g1,const,?_,?_⟩,?_,?_⟩
 ·intro i o x ho hx k o' hk hd
  have:=FZ.1 (fact ho).1.2.2 x hx
  have:=aU this hk
  simp only [hd,beq_self_eq_true,IE,HC,Bool.or_eq_true,FB] at this
  rcases this with h | h
  ·exact .inl h.1
  ·exact .inr h.2
 ·intro c c' o o' hc hc' hq1 hq2 hl hp
  have:=aU (fact hc).1.2.1 hc'
  simp only [FB] at this
  have:=this.2
  rw [hq1,hq2,hl] at this
  simpa [hp] using this
 ·intro i o ho hl
  have:=(fact ho).2
  simp only [hl,IE,HC,FB,GN,Option.isNone_iff_eq_none] at this
  exact ⟨this.1.1,this.2,this.1.2⟩
 ·intro i j o o' x ho hx hj hd hl hb c o2 hc hq2 hp
  have:=FZ.1 (fact ho).1.2.2 x hx
  have:=aU this hj
  simp only [hd,beq_self_eq_true,IE,HC,hb,Bool.true_and,hl,Bool.false_and,Bool.or_false] at this
  have:=aU this hc
  simpa [hq2,hp] using this
 ·intro i o k x ho hl hk hx
  have h1:=FZ.1 hi i (by simpa using hl)
  have h2:=FZ.1 h1 k (tJ hO hk)
  simp only [FB] at h2
  refine ⟨h2.1,?_⟩
  have:=h2.2
  rw [hx] at this
  simpa using this
 ·intro i o ho hqo hg k hk hcomp
  have hc : kL L (cX L []) ord lt i k = true:=by
   unfold kL
   rw [FZ]
   intro c hc1
   obtain ⟨o',ho',hq'⟩:=hR hc1
   obtain ⟨k1,k2⟩:=hcomp c o' ho' hq'
   split
   ·rename_i hlt
    rw [k1 hlt]; rfl
   ·rename_i hlt
    cases hb : ((cX L []).getD i 0).testBit c
    ·rfl
    ·simpa using k2 (by omega) hb
  exact hq i o ho hqo hg k (tJ hO hk) hc
 ·simp [F3,g3]
 ·intro x hx
  refine g2 x fun o ho=>?_
  obtain ⟨q,hq'⟩:=Hc.1 ho
  obtain ⟨j,hj,_⟩:=i5 hO hq'
  exact hx o (List.mem_of_getElem? hj)
end
def eD (ts : List D) : List (Tmp × D) → List D
 | []=>ts
 | p :: ps=>eD (ts.set p.1 p.2) ps
def oj (b : Nat) (e : Exit) (s : AS) : Option (D × List Blk) :=
 match s.h[b]? with
 | some (.loop _ _ _ ts ps a c)=>match e with
  | .normal=>some (lit (.bool true),s.h.set b (.loop .ready none 0 ts ps a c))
  | .ret=>some (lit (.bool false),s.h.set b (.loop .done (some .ret) 0 ts ps a c))
  | .exit i=>some (lit (.bool false),s.h.set b (.loop .done (some (.exit i)) 0 ts ps a c))
  | _=>none
 | _=>none
def sc (b : Nat) (t : List D) (m : List Nat) (h : List Blk) : Option (Exit × AS) :=
 match h[b + 1]? with
 | some (.loop st pend _ ts ps a c)=>match st with
  | .busy=>none
  | _=>match au (h.set (b + 1) (.loop .exhausted pend 0 ts ps a c)) (b :: m) with
   | true=>match pend with
    | none=>some (.normal,{ t:=t,h:=h.set (b + 1) (.loop .exhausted pend 0 ts ps a c),m:=b :: m })
    | some .ret=>some (.ret,{ t:=t,h:=h.set (b + 1) (.loop .exhausted pend 0 ts ps a c),m:=b :: m })
    | some (.exit i)=>some (.exit i,{ t:=t,h:=h.set (b + 1) (.loop .exhausted pend 0 ts ps a c),m:=b :: m })
    | some _=>none
   | false=>none
 | _=>none
section
variable {P : Program} {Γ : ap} {O : Nat → Prop} {w : World} {l : Loc} {h : List Blk}
theorem ol (R : Rep Γ O w l h) {b blk cp : Nat} {st : LoopState} {p : Option Code} {f : FuncId} {ts : List D} {ps : Array Tmp} {a c : Code} (hb : h[b]? = some (.loop st p f ts ps a c)) (hl : l b = some (blk,cp)) :
  ∃ rec : Loop,w.heap[blk]? = some (.loop rec) ∧ rec.state = st ∧ rec.pending = p ∧ rec.params = ps ∧ rec.assign = a ∧ rec.body = c ∧ RelL w (avs O l h) l h ts rec.tmps.toList ∧
   ∀ st' p',Rep Γ O { w with heap:=w.heap.setIfInBounds blk (.loop { rec with state:=st',pending:=p' }) } l (h.set b (.loop st' p' 0 ts ps a c)) ∧
    Ext w l h { w with heap:=w.heap.setIfInBounds blk (.loop { rec with state:=st',pending:=p' }) } l (h.set b (.loop st' p' 0 ts ps a c)):=by
 obtain ⟨blk',cp',tv,dr,fn',h1,h2,h3⟩:=R.blk b _ hb
 obtain ⟨rfl,rfl⟩ : blk = blk' ∧ cp = cp':=by simpa [hl] using h1
 refine ⟨_,h2,rfl,rfl,rfl,rfl,rfl,h3,fun st' p'=>?_⟩
 exact R.setAt hb (by simp) hl (x':=.loop st' p' 0 ts ps a c) trivial (fun E hg=>⟨blk,cp,tv,dr,fn',hl,hg,E.relL h3⟩)
theorem eV {r : Nat} {x : Loop} (hr : w.heap[r]? = some (.loop x)) : (Instr.getLoop r).run P w = .ok x w:=by
 simp only [Instr.getLoop,FR,bC (P:=P) hr (by simp),FI,F5]
theorem i6 {w' : World} {l' : Loc} {h' : List Blk} (E : Ext w l h w' l' h') {b : Nat} {st st' : LoopState} {p p' : Option Code} {f f' : FuncId} {ts ts' : List D} {ps ps' : Array Tmp} {a c a' c' : Code}
  (hb : h[b]? = some (.loop st p f ts ps a c)) (hb' : h'[b]? = some (.loop st' p' f' ts' ps' a' c')) : l' b = l b:=by
 obtain ⟨x',h1,h2,h3⟩:=E.keep b _ hb
 rw [hb'] at h1
 cases h1
 exact h3 trivial
theorem kM {av : Nat → Prop} : ∀ (ps : List Tmp) (args : List D) (vs : List Value) (ts : List D) (tv : Array Value),RelL w av l h args vs → RelL w av l h ts tv.toList →
  RelL w av l h (eD ts (ps.zip args)) ((ps.zip vs).foldl (fun (t : Array Value) (p : Tmp × Value)=>t.setIfInBounds p.1 p.2) tv).toList
 | [],_,_,ts,tv,_,rt=>by simpa [eD] using rt
 | _ :: _,[],[],ts,tv,_,rt=>by simpa [eD] using rt
 | _ :: _,[],_ :: _,_,_,ra,_=>by simp [RelL] at ra
 | _ :: _,_ :: _,[],_,_,ra,_=>by simp [RelL] at ra
 | p :: ps,d :: args,v :: vs,ts,tv,ra,rt=>by
  simp only [RelL] at ra
  simp only [List.zip_cons_cons,eD,List.foldl_cons]
  exact kM ps args vs _ _ ra.2 (by rw [Ik]; exact n9 ra.1 _ _ _ rt)
theorem sd {b : Nat} {args : List D} {pend : Option Code} {f : FuncId} {ts : List D} {ps : Array Tmp} {asg body : Code} {t1 : List D} {h1 : List Blk} {p1 : Option Code} {f1 : FuncId} {ts1 : List D} {ps1 : Array Tmp}
  {a1 b1 : Code} {e2 : Exit} {s2 : AS} {d : D} {h' : List Blk} (hb : h[b]? = some (.loop .ready pend f ts ps asg body)) (hlen : args.length = ps.size)
  (hasg : ∀ X r,X.h = h → VW P Γ X r asg (fun e s=>e = .normal ∧ s = { t:=t1,h:=h1,m:=[] }) { t:=eD ts (ps.toList.zip args),h:=h,m:=[] })
  (hb1 : h1[b]? = some (.loop .ready p1 f1 ts1 ps1 a1 b1))
  (hbody : ∀ X r,X.h = h → VW P Γ X r body (fun e s=>e = e2 ∧ s = s2) { t:=t1,h:=h1.set b (.loop .busy p1 0 ts1 ps1 a1 b1),m:=[] })
  (hend : oj b e2 s2 = some (d,h')) : VInv P Γ (.ref (.yl b)) args h fun d2 h2=>d2 = d ∧ h2 = h':=by
 intro O w l y vs R rx ra r o a next Q' hn
 simp only [Rel,RefRel,hb] at rx
 obtain ⟨_,blk,cp,hl,rfl⟩:=rx
 obtain ⟨rec,g1,g2,g3,g4,g5,g6,g7,_⟩:=ol R hb hl
 have hlv:=eT _ _ ra
 have e1 : (do let d ← HD (.func (.yield blk) #[] #[]) vs.toArray; invoke d.target d.args : Sem Next).run P w =
   .ok (.round blk rec.fn ((rec.params.zip vs.toArray).foldl (fun tmps (p : Tmp × Value)=>tmps.setIfInBounds p.1 p.2) rec.tmps) rec.assign rec.body) w:=by
  have hsz : vs.length = rec.params.size:=by rw [g4,← hlen,hlv]
  simp only [HD,FR,F5,FI,invoke,Instr.yield,eV (P:=P) g1,Array.empty_append]
  simp [hsz]
 rw [e1]
 refine ⟨fun h=>by simp [Fence.wide] at h,?_⟩
 rw [g5,g6,g4]
 refine roundIn_of_wpIn (F:=FW r) trivial ?_
 have st0 : St Γ { O:=O,w:=w,l:=l,h:=h } { t:=eD ts (ps.toList.zip args),h:=h,m:=[] }
   { tmps:=(ps.zip vs.toArray).foldl (fun tmps (p : Tmp × Value)=>tmps.setIfInBounds p.1 p.2) rec.tmps,defers:=[] } w:=by
  refine ⟨l,R,Ext.refl _ _ _,?_,by simp [DefOk]⟩
  have:=kM (w:=w) (l:=l) (h:=h) (av:=avs O l h) ps.toList args vs ts rec.tmps ra g7
  rw [← Array.foldl_toList]
  simpa using this
 refine wpIn_mono (hasg _ (some blk) rfl _ _ st0) ?_
 rintro e a₁ w₁ ⟨_,s1,⟨rfl,rfl⟩,l1,R1,E1,rt1,rd1⟩
 have hl1 : l1 b = some (blk,cp):=by rw [i6 E1 hb hb1]; exact hl
 obtain ⟨rec1,k1,k2,k3,k4,k5,k6,k7,k8⟩:=ol R1 hb1 hl1
 obtain ⟨R2,E2⟩:=k8 .busy p1
 refine ⟨{ w₁ with heap:=w₁.heap.setIfInBounds blk (.loop { rec1 with state:=.busy,pending:=p1 }) },?_,?_⟩
 ·have : ({ rec1 with state:=.busy } : Loop) = { rec1 with state:=.busy,pending:=p1 }:=by rw [← k3]
  simp only [Instr.beginRound,FR,eV (P:=P) k1,FI,this,bZ (P:=P) k1 (by simp),k2,F5]
 ·have st1 : St Γ { O:=O,w:=w,l:=l,h:=h } { t:=t1,h:=h1.set b (.loop .busy p1 0 ts1 ps1 a1 b1),m:=[] } a₁ { w₁ with heap:=w₁.heap.setIfInBounds blk (.loop { rec1 with state:=.busy,pending:=p1 }) }:=by
   refine ⟨l1,R2,E1.trans E2,E2.relL rt1,?_⟩
   exact rd1
  refine wpIn_mono (hbody _ (some blk) rfl _ _ st1) ?_
  rintro e a₂ w₂ ⟨_,s3,⟨rfl,rfl⟩,l2,R3,E3,rt3,rd3⟩
  unfold oj at hend
  split at hend
  case h_2=>simp at hend
  rename_i st3 p3 f3 ts3 ps3 a3 b3 hb3
  have hl2 : l2 b = some (blk,cp):=by rw [i6 E3 hb hb3]; exact hl
  obtain ⟨rec3,m1,m2,m3,m4,m5,m6,m7,m8⟩:=ol R3 hb3 hl2
  have endRun : ∀ jump : Option Code,(Instr.endRound blk jump).run P w₂ = .ok (.bool jump.isNone) { w₂ with heap:=w₂.heap.setIfInBounds blk (.loop { rec3 with state:=if jump.isNone then .ready else .done,pending:=jump }) }:=by
   intro jump
   simp only [Instr.endRound,FR,eV (P:=P) m1,FI,bZ (P:=P) m1 (by simp),F5]
  cases e with
  | normal =>
   simp only [Fq,Fw] at hend
   obtain ⟨rfl,rfl⟩:=hend
   obtain ⟨R4,E4⟩:=m8 .ready none
   exact ⟨_,_,endRun none,hn _ _ _ l2 _ ⟨rfl,rfl⟩ R4 (E3.trans E4) (by simp [Rel,RelP])⟩
  | exit i =>
   simp only [Fq,Fw] at hend
   obtain ⟨rfl,rfl⟩:=hend
   obtain ⟨R4,E4⟩:=m8 .done (some (.exit i))
   exact ⟨_,_,endRun (some (.exit i)),hn _ _ _ l2 _ ⟨rfl,rfl⟩ R4 (E3.trans E4) (by simp [Rel,RelP])⟩
  | ret =>
   simp only [Fq,Fw] at hend
   obtain ⟨rfl,rfl⟩:=hend
   obtain ⟨R4,E4⟩:=m8 .done (some .ret)
   exact ⟨_,_,endRun (some .ret),hn _ _ _ l2 _ ⟨rfl,rfl⟩ R4 (E3.trans E4) (by simp [Rel,RelP])⟩
  | _=>simp at hend
end
section
variable {P : Program} {Γ : ap} {X : Ctx} {s : AS}
theorem ve {w : World} (o : Obj) : (newObj o).run P w = .ok w.heap.size (w.alloc o):=rfl
theorem VW.rangeFunc (ok : POk P) {g : Operand} {ps : Array Tmp} {asg body : Code} {f : FuncId} {fi ca : List D} {h2 : List Blk} {e : Exit} {s' : AS} (hg : fD (evalD Γ s.t g) = some (f,fi,ca)) (hf : mf P f = true)
  (hc : VCall P Γ f (fi ++ [.ref (.yl (s.h.length + 1))] ++ ca) (s.h ++ [.defd] ++ [.loop .ready none 0 s.t ps asg body]) fun _ h'=>h' = h2)
  (he : sc s.h.length s.t s.m h2 = some (e,s')) : VW P Γ X none (.rangeFunc g ps asg body) (fun e' s''=>e' = e ∧ s'' = s') s:=by
 intro a w hs
 have hmk:=hs.marks
 obtain ⟨l,R,E,rt,rd⟩:=hs
 refine wpIn_rangeFunc fun fn _=>?_
 obtain ⟨R1,E1⟩:=ez R (.deferred (some [])) .defd 0 (fun E=>⟨w.heap.size,0,by simp,heap_alloc_new w _⟩)
 generalize hw1 : w.alloc (.deferred (some [])) = w1 at R1 E1
 generalize hl1 : l.upd s.h.length (some (w.heap.size,0)) = l1 at R1 E1
 have rt1:=E1.relL rt
 have hlen : (s.h ++ [Kj]).length = s.h.length + 1:=by simp
 obtain ⟨R2,E2⟩:=ez R1 (.loop { state:=.ready,pending:=none,fn,tmps:=a.tmps,params:=ps,assign:=asg,body,defers:=w.heap.size }) (.loop .ready none 0 s.t ps asg body) 0
  (fun E=>⟨w1.heap.size,0,a.tmps,w.heap.size,fn,by simp,heap_alloc_new w1 _,E.relL rt1⟩)
 generalize hw2 : w1.alloc (.loop { state:=.ready,pending:=none,fn,tmps:=a.tmps,params:=ps,assign:=asg,body,defers:=w.heap.size }) = w2 at R2 E2
 generalize hl2 : l1.upd (s.h ++ [Kj]).length (some (w1.heap.size,0)) = l2 at R2 E2
 rw [hlen] at hl2
 obtain ⟨a0,c0,e0,r1,r2⟩:=jH (bI R2 ((E1.trans E2).relL rt) g) hg
 unfold mf at hf
 split at hf
 case h_2=>simp at hf
 rename_i fn' hfn'
 refine ⟨w1.heap.size,[{ target:=.collected w.heap.size,args:=#[] }],w2,{ target:=.fn (.func f) c0,args:=a0 ++ #[.func (.yield w1.heap.size) #[] #[]] },w2,f,a0 ++ #[.func (.yield w1.heap.size) #[] #[]] ++ c0,w2,?_,?_,fun _ _=>trivial,?_,fun h=>by simp [Fence.wide] at h,?_⟩
 ·simp only [Instr.enterLoop,FR,ve,FI,F5,hw1,hw2]
 ·simp only [resolve,e0,HD,F5]
  simp
  rfl
 ·exact call_run ok hfn' hf _ _
 ·have hl2n : l2 (s.h.length + 1) = some (w1.heap.size,0):=by rw [← hl2]; simp
  have hl2d : l2 s.h.length = some (w.heap.size,0):=by rw [← hl2,Loc.upd_ne _ _ _ (by omega),← hl1]; simp
  have hHn : (s.h ++ [Kj] ++ [Blk.loop .ready none 0 s.t ps asg body])[s.h.length + 1]? = some (.loop .ready none 0 s.t ps asg body):=by
   rw [Ga (by simp)]; simp
  have hHd : (s.h ++ [Kj] ++ [Blk.loop .ready none 0 s.t ps asg body])[s.h.length]? = some .defd:=by
   rw [FQ (by simp),Ga (by simp)]; simp
  have hd2 : DefOk X.D l2 (s.h ++ [Kj] ++ [Blk.loop .ready none 0 s.t ps asg body]) (s.h.length :: s.m) ({ target:=.collected w.heap.size,args:=#[] } :: a.defers):=by
   simp only [DefOk]
   refine ⟨⟨w.heap.size,0,hHd,hl2d,rfl⟩,?_⟩
   exact Jb (E1.trans E2).keep (by rw [List.append_assoc]; exact ed hmk) rd
  have hcall:=hc X.O w2 l2 (a0 ++ #[Value.func (Fn.yield w1.heap.size) #[] #[]] ++ c0).toList R2 (by
   simp only [Array.toList_append]
   refine cC (cC r1 ?_) r2
   simp only [RelL,Rel,RefRel,hHn]
   exact ⟨⟨rfl,w1.heap.size,0,hl2n,rfl⟩,trivial⟩)
  refine CallsIn.mono (hcall : CallsIn (FW none) 0 P f _ w2 _) ?_
  rintro e1 w3 ⟨v,d,h',l3,rfl,rfl,R3,E3,_⟩
  unfold sc at he
  split at he
  case h_2=>simp at he
  rename_i st pend f3 ts3 ps3 a3 c3 hb3
  have hl3 : l3 (s.h.length + 1) = some (w1.heap.size,0):=by rw [i6 E3 hHn hb3]; exact hl2n
  obtain ⟨rec3,m1,m2,m3,m4,m5,m6,m7,m8⟩:=ol R3 hb3 hl3
  obtain ⟨R4,E4⟩:=m8 .exhausted pend
  split at he
  ·simp at he
  rename_i hbusy
  split at he
  case h_2=>simp at he
  rename_i hmk3
  have hst : St Γ X { t:=s.t,h:=h'.set (s.h.length + 1) (.loop .exhausted pend 0 ts3 ps3 a3 c3),m:=s.h.length :: s.m } { a with defers:=[{ target:=.collected w.heap.size,args:=#[] }] ++ a.defers }
    { w3 with heap:=w3.heap.setIfInBounds w1.heap.size (.loop { rec3 with state:=.exhausted,pending:=pend }) } :=
   ⟨l3,R4,(E.trans (E1.trans E2)).trans (E3.trans E4),((E1.trans E2).trans (E3.trans E4)).relL rt,Jb (E3.trans E4).keep hmk3 hd2⟩
  have hrun : (Instr.endLoop w1.heap.size).run P w3 = .ok pend { w3 with heap:=w3.heap.setIfInBounds w1.heap.size (.loop { rec3 with state:=.exhausted,pending:=pend }) }:=by
   have e1 : ({ rec3 with state:=.exhausted } : Loop) = { rec3 with state:=.exhausted,pending:=pend }:=by rw [← m3]
   have e2 : (rec3.state == LoopState.busy) = false:=by
    rw [m2]
    cases st <;> first | rfl | exact absurd rfl hbusy
   simp only [Instr.endLoop,FR,eV (P:=P) m1,FI,e2,Gi,if_false,F5,bZ (P:=P) m1 (by simp),m3]
  refine ⟨pend,_,hrun,?_⟩
  cases pend with
  | none =>
   simp only [Fq,Fw] at he
   obtain ⟨rfl,rfl⟩:=he
   exact ⟨by simp,_,⟨rfl,rfl⟩,hst⟩
  | some c =>
   cases c <;> simp only [Fq,Fw,reduceCtorEq] at he
   ·obtain ⟨rfl,rfl⟩:=he
    exact wpIn_exit ⟨by simp,_,⟨rfl,rfl⟩,hst⟩
   ·obtain ⟨rfl,rfl⟩:=he
    exact wpIn_ret ⟨by simp,_,⟨rfl,rfl⟩,hst⟩
end
section
variable {P : Program} {Γ : ap}
abbrev Det (e : Exit) (s' : AS) : Exit → AS → Prop:=fun e' s''=>e' = e ∧ s'' = s'
end
def Ev (P : Program) (Γ : ap) (f : FuncId) (args : List D) (h : List Blk) (d : D) (h' : List Blk) : Prop:=VCall P Γ f args h fun d2 h2=>d2 = d ∧ h2 = h'
def Iv (P : Program) (Γ : ap) (x : D) (args : List D) (h : List Blk) (d : D) (h' : List Blk) : Prop:=VInv P Γ x args h fun d2 h2=>d2 = d ∧ h2 = h'
def OpW (P : Program) (Γ : ap) (t : List D) (h : List Blk) (o : Op) (K : D → List Blk → Prop) : Prop :=
 match o with
 | .call { callee:=.value fv,args,.. }=>∃ d h',Iv P Γ (evalD Γ t fv) (args.toList.map (evalD Γ t)) h d h' ∧ K d h'
 | op=>∃ d h',opSem P Γ t h op = some (true,d,h') ∧ K d h'
theorem OpW.call {P : Program} {Γ : ap} {t : List D} {h h' : List Blk} {d : D} {fv : Operand} {args : Array Operand} {ats : Array TypeId} {K : D → List Blk → Prop} (hi : Iv P Γ (evalD Γ t fv) (args.toList.map (evalD Γ t)) h d h') (hK : K d h') :
  OpW P Γ t h (.call { callee:=.value fv,args,argTypes:=ats }) K:=⟨d,h',hi,hK⟩
theorem OpW.sem {P : Program} {Γ : ap} {t : List D} {h h' : List Blk} {d : D} {op : Op} {K : D → List Blk → Prop} (hi : opSem P Γ t h op = some (true,d,h')) (hK : K d h') : OpW P Γ t h op K:=by
 unfold OpW
 split
 ·simp [opSem] at hi
 ·exact ⟨d,h',hi,hK⟩
theorem OpW.run {P : Program} {Γ : ap} {t : List D} {h : List Blk} {op : Op} {K : D → List Blk → Prop} (hw : OpW P Γ t h op K) : ∃ call,J5 P Γ call ∧ ∃ d h',fE P Γ call t h op = some (d,h') ∧ K d h':=by
 unfold OpW at hw
 split at hw
 ·rename_i fv args ats
  obtain ⟨d,h',hi,hK⟩:=hw
  classical
  refine ⟨fun x as g=>if x = evalD Γ t fv ∧ as = args.toList.map (evalD Γ t) ∧ g = h then some (d,h') else none,?_,d,h',?_,hK⟩
  ·intro x as g d1 h1 hc
   simp only at hc
   split at hc
   ·rename_i he
    obtain ⟨rfl,rfl,rfl⟩:=he
    simp only [Fq,Fw] at hc
    obtain ⟨rfl,rfl⟩:=hc
    exact hi
   ·simp at hc
  ·simp [fE]
 ·rename_i hno
  obtain ⟨d,h',hi,hK⟩:=hw
  refine ⟨fun _ _ _=>none,fun _ _ _ _ _ hc=>by simp at hc,d,h',?_,hK⟩
  unfold fE
  split
  ·exact absurd rfl (hno _ _ _)
  ·rw [hi]
def StW (P : Program) (Γ : ap) (m : List Nat) (L : List Oper) (t : List D) (h : List Blk) (o : Oper) (K : D → List Blk → Prop) : Prop :=
 ∃ call,J5 P Γ call ∧ ∃ f d' d h',(FixOk f ∧ dd P Γ call m L (t.map f) h o = some (d',h') ∧ Wk d' d) ∧ K d h'
def OpOk (P : Program) (Γ : ap) (t : List D) (h : List Blk) (o : Op) (d : D) (h' : List Blk) : Prop:=∃ call,J5 P Γ call ∧ fE P Γ call t h o = some (d,h')
theorem OpOk.sem {P : Program} {Γ : ap} {t : List D} {h h' : List Blk} {o : Op} {d : D} (hs : opSem P Γ t h o = some (true,d,h')) : OpOk P Γ t h o d h':=by
 obtain ⟨call,hc,d1,h1,h2,rfl,rfl⟩:=(OpW.sem (K:=fun d1 h1=>d1 = d ∧ h1 = h') hs ⟨rfl,rfl⟩).run
 exact ⟨call,hc,h2⟩
theorem OpOk.call {P : Program} {Γ : ap} {t : List D} {h h' : List Blk} {d : D} {fv : Operand} {args : Array Operand} {ats : Array TypeId} (hi : Iv P Γ (evalD Γ t fv) (args.toList.map (evalD Γ t)) h d h') :
  OpOk P Γ t h (.call { callee:=.value fv,args,argTypes:=ats }) d h':=by
 obtain ⟨call,hc,d1,h1,h2,rfl,rfl⟩:=(OpW.call (ats:=ats) (K:=fun d1 h1=>d1 = d ∧ h1 = h') hi ⟨rfl,rfl⟩).run
 exact ⟨call,hc,h2⟩
theorem OpOk.congr {P : Program} {Γ : ap} {t t' : List D} {h h' : List Blk} {o : Op} {d : D} (he : ∀ x ∈ o.operands,evalD Γ t x = evalD Γ t' x) (ho : OpOk P Γ t h o d h') : OpOk P Γ t' h o d h':=by
 obtain ⟨call,hc,hr⟩:=ho
 exact ⟨call,hc,by rw [← kG o he]; exact hr⟩
theorem StW.on {P : Program} {Γ : ap} {m : List Nat} {L : List Oper} {t : List D} {h h' : List Blk} {o : Oper} {K : D → List Blk → Prop} {d : D} (hg : aP L t o.guard = some true) (ho : OpOk P Γ t h o.op d h') (hm : au h' m = true) (hK : K d h') : StW P Γ m L t h o K:=by
 obtain ⟨call,hc,hr⟩:=ho
 exact ⟨call,hc,id,d,d,h',⟨FixOk.id,by rw [Hv]; unfold dd; rw [hg,hr]; simp [hm],Wk.refl _⟩,hK⟩
theorem StW.off {P : Program} {Γ : ap} {m : List Nat} {L : List Oper} {t : List D} {h : List Blk} {o : Oper} {K : D → List Blk → Prop} (hg : aP L t o.guard = some false) (hK : K (lit undef) h) : StW P Γ m L t h o K :=
 ⟨fun _ _ _=>none,fun _ _ _ _ _ hc=>by simp at hc,id,_,_,h,⟨FixOk.id,by rw [Hv]; unfold dd; rw [hg],Wk.refl _⟩,hK⟩
theorem StW.spec {P : Program} {Γ : ap} {m : List Nat} {L : List Oper} {t : List D} {h : List Blk} {o : Oper} {K : D → List Blk → Prop} {d : D} {b : Bool} (hg : aP L t o.guard = some b) (ho : b = true → OpOk P Γ (t.map fixD) h o.op d h) (hm : au h m = true) (hK : K (.grd b d) h) : StW P Γ m L t h o K:=by
 cases b with
 | true =>
  obtain ⟨call,hc,hr⟩:=ho rfl
  exact ⟨call,hc,fixD,d,.grd true d,h,⟨FixOk.fixD,by unfold dd; rw [vd FixOk.fixD hg,hr]; simp [hm],fun _ _ _ _ _ r=>by simpa [Rel] using r⟩,hK⟩
 | false =>
  exact ⟨fun _ _ _=>none,fun _ _ _ _ _ hc=>by simp at hc,id,lit undef,.grd false d,h,⟨FixOk.id,by rw [Hv]; unfold dd; rw [hg],fun _ _ _ _ _ r=>by simpa [Rel,RelP] using r⟩,hK⟩
theorem gG (w : World) {f f0 : D → D} (hf : FixOk f) (hf0 : FixOk f0) {L : List Oper} {t : List D} {g : Option (Nat × Bool)} {b b0 : Bool} (h : aP L (t.map f) g = some b) (h0 : aP L (t.map f0) g = some b0) : b = b0:=by
 unfold aP at h h0
 split at h
 ·simp_all
 ·split at h
  ·rename_i x hx
   simp only [hx] at h0
   rw [bh hf.any] at h
   rw [bh hf0.any] at h0
   generalize t.getD x .any = d at h h0
   obtain ⟨g1,y,g2⟩:=gE h w (fun _=>False) (fun _=>none) []
   have g3:=(hf0.both d).1 w (fun _=>False) (fun _=>none) [] y ((hf.both d).2 w (fun _=>False) (fun _=>none) [] y g2)
   rw [← g1 y g2,← (gE h0 w (fun _=>False) (fun _=>none) []).1 y g3]
  ·simp_all
def RW (P : Program) (Γ : ap) (m : List Nat) (L : List Oper) (c : Bool) : List Oper → List D → List Blk → (List D → List Blk → Prop) → Prop
 | [],t,h,K=>K t h
 | o :: os,t,h,K=>StW P Γ m L t h o fun d h'=>(c = true → h' = h) ∧ RW P Γ m L c os (putD t o.dst d) h' K
theorem RW.runR {P : Program} {Γ : ap} {m : List Nat} {L : List Oper} {K : List D → List Blk → Prop} : ∀ (os : List Oper) (t : List D) (h : List Blk),RW P Γ m L true os t h K →
  ∃ tF hs ts,Vi.runR P Γ m L Wk FixOk os t h tF hs ts ∧ K tF h ∧ (∀ k,k ≤ os.length → hs.getD k [] = h)
 | [],t,h,hw=>⟨t,[h],[],⟨rfl,rfl,rfl⟩,hw,fun k hk=>by simp at hk; subst hk; rfl⟩
 | o :: os,t,h,hw=>by
  obtain ⟨call,hc,f,d',d,h',h1,h2,h3⟩:=hw
  obtain rfl:=h2 rfl
  obtain ⟨tF,hs,ts,g1,g2,g3⟩:=RW.runR os _ _ h3
  exact ⟨tF,h' :: hs,t :: ts,⟨call,f,d',d,h',hs,ts,hc,h1,g1,rfl,rfl⟩,g2,fun k hk=>by
   cases k with
   | zero=>rfl
   | succ k=>simpa using g3 k (by simpa using hk)⟩
section
variable {P : Program} {Γ : ap} {X : Ctx} {r : Option Nat} {Q : Exit → AS → Prop} {t : List D} {h : List Blk} {m : List Nat}
theorem se {L : List Oper} {ops : Array Oper} (hL : ops.toList = L) {o : Oper} {K : Act → World → Prop} {Q' : Exit → Act → World → Prop} {Kd : D → List Blk → Prop} (hw : StW P Γ m L t h o Kd)
  (hK : ∀ d h' a' w',Kd d h' → St Γ X { t:=putD t o.dst d,h:=h',m:=m } a' w' → K a' w') {a : Act} {w : World} (hs : St Γ X { t:=t,h:=h,m:=m } a w) :
  if HI o (yielded ops a.tmps) then o.wpIn (FW r) 0 P a w K Q' else (∀ f,o.about P w a.eval = some f → (FW r).fn f) ∧ K (a.put o.dst undef) w:=by
 subst hL
 obtain ⟨call,hc,f,dw,d,h',⟨hfx,h1,hwk⟩,h2⟩:=hw
 have hsf : St Γ X { t:=t.map f,h:=h,m:=m } a w:=hs.fix hfx
 unfold dd at h1
 split at h1
 ·rename_i hg
  have hwt : HI o (yielded ops a.tmps) = true:=by
   obtain ⟨l,R,E,rt,rd⟩:=hsf
   exact aQ rt hg
  rw [if_pos hwt]
  split at h1
  ·rename_i d1 h1' hop
   split at h1
   ·rename_i hm
    simp only [Fq,Fw] at h1
    obtain ⟨rfl,rfl⟩:=h1
    exact oa (s:={ t:=t.map f,h:=h,m:=m }) hc hop hm (fun a' w' hs'=>hK _ _ a' w' h2 (St.unfix hfx hwk hs')) hsf
   ·simp at h1
  ·simp at h1
 ·rename_i hg
  simp only [Fq,Fw] at h1
  obtain ⟨rfl,rfl⟩:=h1
  have hwt : HI o (yielded ops a.tmps) = false:=by
   obtain ⟨l,R,E,rt,rd⟩:=hsf
   exact aQ rt hg
  rw [if_neg (by simp [hwt])]
  exact ⟨fun _ _=>trivial,hK _ _ _ _ h2 (St.unfix hfx hwk (St.skip (s:={ t:=t.map f,h:=h,m:=m }) o.dst hsf))⟩
 ·simp at h1
theorem RW.sound {ops : Array Oper} : ∀ (os : List Oper) (i : Nat) (t : List D) (h : List Blk),ops.toList.drop i = os → RW P Γ m ops.toList false os t h (fun t' h'=>Q .normal { t:=t',h:=h',m:=m }) →
  ∀ (a : Act) (w : World),St Γ X { t:=t,h:=h,m:=m } a w → wpOpsIn (FW r) 0 P ops (n7 Γ X Q) (List.range' i os.length) a w:=by
 intro os
 induction os with
 | nil =>
  intro i t h hd hr a w hs
  exact ⟨by simp,_,hr,hs⟩
 | cons o os ih =>
  intro i t h hd hr a w hs
  have ho : ops[i]? = some o:=by
   rw [← Array.getElem?_toList]
   have:=congrArg (·[0]?) hd
   simpa using this
  have hd' : ops.toList.drop (i + 1) = os:=by
   have:=congrArg (List.drop 1) hd
   simpa [Nat.add_comm] using this
  simp only [List.length_cons,List.range'_succ,wpOpsIn,ho]
  exact se rfl hr (fun d h' a' w' hk hs'=>ih (i + 1) _ _ hd' hk.2 a' w' hs') hs
theorem VW.regionW {id : Nat} {ops : Array Oper} (hr : RW P Γ m ops.toList false ops.toList t h (fun t' h'=>Q .normal { t:=t',h:=h',m:=m })) : VW P Γ X r (.region id ops false) Q { t:=t,h:=h,m:=m }:=fun a w hs =>
 wpIn_region (by
  have:=RW.sound (r:=r) (X:=X) (Q:=Q) ops.toList 0 t h (by simp) hr a w hs
  simpa [List.range_eq_range'] using this)
end
end Go.Vi
