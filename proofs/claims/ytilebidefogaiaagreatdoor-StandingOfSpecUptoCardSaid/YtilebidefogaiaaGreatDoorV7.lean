/- StandingOfSpecUpto: part of the proof: an evaluator of the model's programs on abstract values, and its soundness. No conditions beyond the given statement's own. -/
import Derived.Test.YtilebidefogaiaaGreatDoorV6
import Derived.Laws.BitsLemmas
import Derived.ChangeArms
import Derived.OpenShut
import Derived.Below
import Derived.Carry
open Go.Vi.D renaming innL → F6, inn → Hg, mapR → Gl, mapRL → GA
open Go.CallsIn renaming mono → HN
open Nat renaming lt_of_lt_of_le → Hz, sub_zero → II, add_mul → H9
open Go.Vi.RelCells renaming mono → Jc
open Option.some renaming injEq → Fq, inj → KG
open Prod.mk renaming injEq → Fw
open Bool renaming and_eq_true → FB
open List renaming append_nil → I5, getElem?_eq_getElem → FK, getElem?_cons_succ → Hd, mem_of_getElem? → FV, getElem?_eq_some_iff → Fy, map_cons → GJ, mem_map → FY, getElem?_map → GO, getD → FG, all_eq_true → FZ, getElem?_append_left → FQ, range → Gy, flatten_cons → Gs, drop_append → Kb, drop_eq_nil_of_le → Jl, mem_cons → Gd, all_append → JK
open Go.Vi.Blk renaming mapR → Hn, le → JI, stays → JG
open Go.Vi.Ref renaming blk → JJ
open Go.Vi.AllP renaming append → Jf
open Option renaming map_some → Gb
open Go.DataW renaming weightsEach → Ly
namespace Go.Vi
open Go
section
variable {P : Program} {Γ : ap}
theorem ci {l : Loc} {blk : Nat} : ¬ own l [] blk:=by
 rintro ⟨b,x,cp,h,_⟩
 simp at h
theorem Ev.frame0 {f : FuncId} {args : List D} {d : D} (ha : F6 0 args = true) (he : Ev P Γ f args [] d []) (h : List Blk) : Ev P Γ f args h d h:=by
 intro O w l vs R ra
 have hav : ∀ l' k,avs (avs O l h) l' [] k ↔ avs O l h k:=fun l' k=>⟨fun ho=>ho.elim id (fun h=>absurd h ci),fun ho=>.inl ho⟩
 have R0 : Rep Γ (avs O l h) w l []:=by
  refine ⟨fun blk ho=>absurd ho ci,fun blk ho=>?_,fun b b' x x' k c c' hb=>by simp at hb,fun b x hb=>by simp at hb,fun g cs hg=>?_⟩
  ·rcases ho with ho | ho
   ·exact R.obd blk ho
   ·exact (R.inb blk ho).1
  ·exact aw (fun k hk=>(hav l k).1 hk) (R.glo g cs hg)
 have ra0 : RelL w (avs (avs O l h) l []) l [] args vs:=bK (h:=h) (n:=0) (fun k hk=>(hav l k).1 hk) ha ra
 refine HN (he (avs O l h) w l vs R0 ra0) ?_
 rintro e w' ⟨v,d2,h2,l',rfl,⟨rfl,rfl⟩,R',E',rd⟩
 have E : Ext w l h w' l h:=⟨E'.size,fun blk hb _=>E'.same blk hb ci,fun blk ho=>.inl ho,fun b x hx=>⟨x,hx,x.le_refl,fun _=>rfl⟩,E'.tape⟩
 refine ⟨v,d2,h,l,rfl,⟨rfl,rfl⟩,⟨fun blk ho=>⟨Hz (R.inb blk ho).1 E'.size,(R.inb blk ho).2⟩,fun blk ho=>Hz (R.obd blk ho) E'.size,R.inj,fun b x hx=>?_,fun g cs hg=>?_⟩,E,?_⟩
 ·by_cases hg : x = .gone
  ·subst hg; trivial
  exact BlkOk.ext E rfl (fun blk cp hl=>E'.same blk (R.inb blk ⟨b,x,cp,hx,hg,hl⟩).1 ci) (R.blk b x hx)
 ·exact Jc E.hc g 0 cs (R.glo g cs hg)
 ·exact Rel.mono (fun blk off y hn hc=>⟨hc,fun ho=>hn ((hav l' blk).2 ho)⟩) (fun b x hb=>by simp at hb) d2 v rd
def out0 (r : Option (D × List Blk × List Prop)) : Option (D × List Prop):=match r with
 | some (d,_,φ)=>some (d,φ)
 | none=>none
def outF (r : Option (D × List Blk × List Prop)) : Option (D × List Blk × List Prop):=match r with
 | some (d,h,φ)=>some (d,h,φ)
 | none=>none
theorem Ev.of_sym' (ok : POk P) {f : FuncId} {args : List D} {h h' : List Blk} {d : D} {φ : List Prop} (as : List Ans) (hs : Ca P Γ f args h as = some (d,h',φ)) (hp : AllP φ) : Ev P Γ f args h d h' :=
 Ev.sym ok as (by rw [hs]; exact ⟨rfl,rfl,hp⟩)
theorem Ev.of_sym (ok : POk P) {f : FuncId} {args : List D} {h h' : List Blk} {d : D} {φ : List Prop} (as : List Ans) (hs : outF (Ca P Γ f args h as) = some (d,h',φ)) (hp : AllP φ) : Ev P Γ f args h d h':=by
 refine Ev.of_sym' ok as ?_ hp
 unfold outF at hs
 split at hs
 ·rename_i h1
  rw [h1]
  exact hs
 ·simp at hs
theorem Ev.sym0 (ok : POk P) {f : FuncId} {args : List D} {d : D} {φ : List Prop} (as : List Ans) (hs : out0 (Ca P Γ f args [] as) = some (d,φ)) (hp : AllP φ) (ha : F6 0 args = true) (hd : Hg 0 d = true) (h : List Blk) : Ev P Γ f args h d h:=by
 refine Ev.frame0 ha ?_ h
 unfold out0 at hs
 split at hs
 case h_2=>simp at hs
 rename_i d1 h1 φ1 hr
 simp only [Fq,Fw] at hs
 obtain ⟨rfl,rfl⟩:=hs
 have:=Ev.trim (h:=[]) hd rfl (Ev.of_sym' ok as hr hp)
 simpa using this
def outT (n : Nat) (r : Option (D × List Blk × List Prop)) : Option (D × List Blk × List Prop):=match r with
 | some (d,h,φ)=>match Hg n d && (h.take n).all (Blk.inn n) with
  | true=>some (d,h.take n,φ)
  | false=>none
 | none=>none
theorem Ev.symT (ok : POk P) {f : FuncId} {args : List D} {h h' : List Blk} {d : D} {φ : List Prop} (as : List Ans) (hs : outT h.length (Ca P Γ f args h as) = some (d,h',φ)) (hp : AllP φ) : Ev P Γ f args h d h':=by
 unfold outT at hs
 split at hs
 case h_2=>simp at hs
 rename_i d1 h1 φ1 hr
 split at hs
 case h_2=>simp at hs
 rename_i hb
 simp only [FB] at hb
 simp only [Fq,Fw] at hs
 obtain ⟨rfl,rfl,rfl⟩:=hs
 exact Ev.trim hb.1 hb.2 (Ev.of_sym' ok as hr hp)
theorem Iv.of (ok : POk P) {x : D} {args : List D} {h h' : List Blk} {d : D} {f : FuncId} {fi ca : List D} (hx : fD x = some (f,fi,ca)) (hf : mf P f = true) (he : Ev P Γ f (fi ++ args ++ ca) h d h') : Iv P Γ x args h d h':=VInv.of_call ok hx hf he
def mkT : Nat → Nat → List (Nat × D) → List D
 | 0,_,_=>[]
 | n + 1,i,[]=>.any :: mkT n (i + 1) []
 | n + 1,i,(k,d) :: ds=>match i == k with
  | true=>d :: mkT n (i + 1) ds
  | false=>.any :: mkT n (i + 1) ((k,d) :: ds)
theorem CW.post {h0 : List Blk} {rd : Bool} {c : Code} {s s' s'' : AS} {e : Exit} {as as' : List Ans} {φ : List Prop} (hq : Vi.pre h0 s' as = some (s'',as',φ)) (hp : AllP φ) (hw : CW P Γ h0 rd c s e s') : CW P Γ h0 rd c s e s'':=by
 intro X r hn hrd a w hs
 refine wpIn_mono (hw X r hn hrd a w hs) ?_
 rintro e' a' w' ⟨h2,s2,⟨rfl,rfl⟩,h4⟩
 subst hn
 exact ⟨h2,_,⟨rfl,rfl⟩,tW _ _ _ _ _ hq hp _ _ h4⟩
def outC (ks : List Nat) (r : Option Res) : Option (Exit × AS × List Prop):=match r with
 | some ((e,s,[]),φ)=>some (e,mg ks s,φ)
 | _=>none
theorem CW.mask {h0 : List Blk} {rd : Bool} {c : Code} {s s' : AS} {e : Exit} (ks : List Nat) (hw : CW P Γ h0 rd c s e s') : CW P Γ h0 rd c s e (mg ks s') :=
 CW.post (as:=[.st (.mask ks)]) (as':=[]) (φ:=[]) rfl trivial hw
theorem CW.sym (ok : POk P) {h0 : List Blk} {rd : Bool} {c : Code} {s s' : AS} {e : Exit} {φ : List Prop} (ks : List Nat) (as : List Ans) (hs : outC ks (symC P Γ h0 rd c s as) = some (e,s',φ)) (hp : AllP φ) : CW P Γ h0 rd c s e s':=by
 unfold outC at hs
 split at hs
 case h_2=>simp at hs
 rename_i e1 s1 φ1 hr
 simp only [Fq,Fw] at hs
 obtain ⟨rfl,rfl,rfl⟩:=hs
 exact CW.mask ks (ss ok c _ _ _ _ _ _ hr hp)
def outCT (ks : List Nat) (k : Nat) (r : Option Res) : Option (Exit × AS × List Prop):=match r with
 | some ((e,s,[]),φ)=>match CU k (mg ks s) with
  | some s=>some (e,s,φ)
  | none=>none
 | _=>none
theorem CW.symT (ok : POk P) {h0 : List Blk} {rd : Bool} {c : Code} {s s' : AS} {e : Exit} {φ : List Prop} (ks : List Nat) (k : Nat) (hk : h0.length ≤ k) (as : List Ans) (hs : outCT ks k (symC P Γ h0 rd c s as) = some (e,s',φ)) (hp : AllP φ) : CW P Γ h0 rd c s e s':=by
 unfold outCT at hs
 split at hs
 case h_2=>simp at hs
 rename_i e1 s1 φ1 hr
 split at hs
 case h_2=>simp at hs
 rename_i s2 ht
 simp only [Fq,Fw] at hs
 obtain ⟨rfl,rfl,rfl⟩:=hs
 obtain ⟨ht1,ht2⟩:=Ar ht
 refine CW.post (as:=[.st (.trim k)]) (as':=[]) (φ:=ia k ((mg ks s1).h.take k)) ?_ ht2 (CW.mask ks (ss ok c _ _ _ _ _ _ hr hp))
 simp only [Vi.pre,SOp.app,decide_eq_true hk,ht1,I5]
def AB (h0 : List Blk) (os : List Ans) (r : Option Res) : Option (Exit × AS × List Prop):=match r with
 | some ((e,s,[]),φ)=>match Vi.pre h0 s os with
  | some (s,[],φ')=>some (e,s,φ ++ φ')
  | _=>none
 | _=>none
theorem CW.symX (ok : POk P) {h0 : List Blk} {rd : Bool} {c : Code} {s s' : AS} {e : Exit} {φ : List Prop} (os as : List Ans) (hs : AB h0 os (symC P Γ h0 rd c s as) = some (e,s',φ)) (hp : AllP φ) : CW P Γ h0 rd c s e s':=by
 unfold AB at hs
 split at hs
 case h_2=>simp at hs
 rename_i e1 s1 φ1 hr
 split at hs
 case h_2=>simp at hs
 rename_i s2 φ2 ht
 simp only [Fq,Fw] at hs
 obtain ⟨rfl,rfl,rfl⟩:=hs
 obtain ⟨p1,p2⟩:=hp.append
 exact CW.post ht p2 (ss ok c _ _ _ _ _ _ hr p1)
theorem CW.loop {h0 : List Blk} {rd : Bool} {c : Code} {ι : Type} (st : ι → AS) (fin : ι → Exit × AS) (μ : ι → Nat)
  (round : ∀ i,(∃ j,μ j < μ i ∧ fin j = fin i ∧ CW P Γ h0 rd c (st i) .normal (st j)) ∨ ((fin i).1 ≠ .normal ∧ CW P Γ h0 rd c (st i) (fin i).1 (fin i).2)) (i0 : ι) : CW P Γ h0 rd (.loop c) (st i0) (fin i0).1 (fin i0).2:=by
 intro X r hn hrd
 refine VW.loop (fun i s=>s = st i ∧ fin i = fin i0) μ i0 ⟨rfl,rfl⟩ ?_
 rintro i s ⟨rfl,hi⟩
 rcases round i with ⟨j,h1,h2,h3⟩ | ⟨h1,h2⟩
 ·refine (h3 X r hn hrd).mono ?_
  rintro e s ⟨rfl,rfl⟩
  exact ⟨j,⟨rfl,h2.trans hi⟩,h1⟩
 ·refine (h2 X r hn hrd).mono ?_
  rintro e s ⟨rfl,rfl⟩
  rw [hi] at h1 ⊢
  generalize (fin i0).1 = e at h1
  cases e with
  | normal=>exact absurd rfl h1
  | _=>exact ⟨rfl,rfl⟩
theorem CW.loopN {h0 : List Blk} {rd : Bool} {c : Code} (n : Nat) (st : Nat → AS) {e : Exit} {s' : AS} (he : e ≠ .normal) (hs : ∀ i,i < n → CW P Γ h0 rd c (st i) .normal (st (i + 1))) (hl : CW P Γ h0 rd c (st n) e s') : CW P Γ h0 rd (.loop c) (st 0) e s':=by
 refine CW.loop (ι:={ i : Nat // i ≤ n }) (fun i=>st i.1) (fun _=>(e,s')) (fun i=>n - i.1) ?_ ⟨0,Nat.zero_le _⟩
 rintro ⟨i,hi⟩
 by_cases h : i < n
 ·exact .inl ⟨⟨i + 1,by omega⟩,by simp only; omega,rfl,hs i h⟩
 ·have : i = n:=by omega
  subst this
  exact .inr ⟨he,hl⟩
def Ac : Code → List Code
 | .seq a b=>Ac a ++ Ac b
 | .cond _ a b=>Ac a ++ Ac b
 | .block _ b=>Ac b
 | .scope b=>Ac b
 | .loop b=>b :: Ac b
 | .rangeFunc g ps a b=>.rangeFunc g ps a b :: (Ac a ++ Ac b)
 | _=>[]
def sub (fn : Func) (k : Nat) : Code:=match fn.body with
 | some c=>(Ac c).getD k .skip
 | none=>.skip
theorem wrap_i64 {n : Int} (h1 : -9223372036854775808 ≤ n) (h2 : n ≤ 9223372036854775807) : IntKind.i64.wrap n = n:=by
 rw [IntKind.wrap_i64]
 omega
end
theorem Ev.castH {P : Program} {Γ : ap} {f : FuncId} {args : List D} {h h' h2 : List Blk} {d d2 : D} (he : Ev P Γ f args h d h') (hd : d = d2) (hh : h' = h2) : Ev P Γ f args h d2 h2:=hd ▸ hh ▸ he
theorem CW.cast {P : Program} {Γ : ap} {h0 : List Blk} {rd : Bool} {c : Code} {s s' s2 : AS} {e e2 : Exit} (hw : CW P Γ h0 rd c s e s') (he : e = e2) (hs : s' = s2) : CW P Γ h0 rd c s e2 s2:=he ▸ hs ▸ hw
def forL {α σ ρ : Type} (f : α → σ → σ ⊕ ρ) : List α → σ → σ ⊕ ρ
 | [],s=>.inl s
 | a :: l,s=>match f a s with
  | .inl s'=>forL f l s'
  | .inr r=>.inr r
def aV {σ ρ : Type} (eE : Exit) (sE : σ → AS) (fin : ρ → Exit × AS) : σ ⊕ ρ → Exit × AS
 | .inl s=>(eE,sE s)
 | .inr r=>fin r
def ae {σ ρ : Type} (st : σ → AS) (fin : ρ → Exit × AS) : σ ⊕ ρ → Exit × AS
 | .inl s=>(.normal,st s)
 | .inr r=>fin r
theorem CW.each {P : Program} {Γ : ap} {h0 : List Blk} {rd : Bool} {c : Code} {α σ ρ : Type} (l : List α) (f : α → σ → σ ⊕ ρ) (st : Nat → σ → AS) (eE : Exit) (sE : σ → AS) (fin : ρ → Exit × AS)
  (inv : Nat → σ → Prop) (hE : eE ≠ .normal) (hF : ∀ r,(fin r).1 ≠ .normal)
  (body : ∀ i a s,l[i]? = some a → inv i s → (∀ s',f a s = .inl s' → inv (i + 1) s') ∧ CW P Γ h0 rd c (st i s) (ae (st (i + 1)) fin (f a s)).1 (ae (st (i + 1)) fin (f a s)).2)
  (last : ∀ s,inv l.length s → CW P Γ h0 rd c (st l.length s) eE (sE s)) (s : σ) (h : inv 0 s) :
  CW P Γ h0 rd (.loop c) (st 0 s) (aV eE sE fin (forL f l s)).1 (aV eE sE fin (forL f l s)).2:=by
 refine CW.loop (ι:={ p : Nat × σ // p.1 ≤ l.length ∧ inv p.1 p.2 }) (fun p=>st p.1.1 p.1.2) (fun p=>aV eE sE fin (forL f (l.drop p.1.1) p.1.2)) (fun p=>l.length - p.1.1) ?_ ⟨(0,s),Nat.zero_le _,h⟩
 rintro ⟨⟨i,s⟩,hi,hv⟩
 simp only at hi hv ⊢
 by_cases hlt : i < l.length
 ·have ha : l[i]? = some l[i]:=FK hlt
  have hd : l.drop i = l[i] :: l.drop (i + 1):=List.drop_eq_getElem_cons hlt
  obtain ⟨b1,b2⟩:=body i _ s ha hv
  rw [hd]
  simp only [forL]
  cases hf : f l[i] s with
  | inl s' =>
   rw [hf] at b2
   exact .inl ⟨⟨(i + 1,s'),hlt,b1 _ hf⟩,by simp only; omega,rfl,b2⟩
  | inr r =>
   rw [hf] at b2
   exact .inr ⟨hF r,b2⟩
 ·have : i = l.length:=by omega
  subst this
  rw [List.drop_length]
  exact .inr ⟨hE,last s hv⟩
def ax : Code → Code
 | .rangeFunc _ _ a _=>a
 | _=>.skip
def al : Code → Code
 | .rangeFunc _ _ _ b=>b
 | _=>.skip
theorem Iv.round {P : Program} {Γ : ap} {b : Nat} {args : List D} {h h1 h' : List Blk} {pend : Option Code} {f : FuncId} {ts : List D} {ps : Array Tmp} {asg body : Code} {t1 : List D} {p1 : Option Code} {f1 : FuncId} {ts1 : List D} {ps1 : Array Tmp}
  {a1 b1 : Code} {e2 : Exit} {s2 : AS} {d : D} (hb : h[b]? = some (.loop .ready pend f ts ps asg body)) (hlen : args.length = ps.size)
  (hasg : CW P Γ h true asg { t:=eD ts (ps.toList.zip args),h:=h,m:=[] } .normal { t:=t1,h:=h1,m:=[] })
  (hb1 : h1[b]? = some (.loop .ready p1 f1 ts1 ps1 a1 b1))
  (hbody : CW P Γ h true body { t:=t1,h:=h1.set b (.loop .busy p1 0 ts1 ps1 a1 b1),m:=[] } e2 s2)
  (hend : oj b e2 s2 = some (d,h')) : Iv P Γ (.ref (.yl b)) args h d h' :=
 sd hb hlen (fun X r hX=>hasg X r hX (fun h=>by cases h)) hb1 (fun X r hX=>hbody X r hX (fun h=>by cases h)) hend
theorem CW.rangeFunc {P : Program} {Γ : ap} (ok : POk P) {h0 : List Blk} {s s' : AS} {g : Operand} {ps : Array Tmp} {asg body : Code} {f : FuncId} {fi ca : List D} {d : D} {h2 : List Blk} {e : Exit} (hg : fD (evalD Γ s.t g) = some (f,fi,ca)) (hf : mf P f = true)
  (hc : Ev P Γ f (fi ++ [.ref (.yl (s.h.length + 1))] ++ ca) (s.h ++ [.defd] ++ [.loop .ready none 0 s.t ps asg body]) d h2)
  (he : sc s.h.length s.t s.m h2 = some (e,s')) : CW P Γ h0 false (.rangeFunc g ps asg body) s e s':=by
 intro X r _ hr
 obtain rfl:=hr rfl
 exact VW.rangeFunc ok hg hf (hc.mono fun _ _ hq=>hq.2) he
def Ref.to (n : Nat) : Ref → Ref
 | .ptr _ o=>.ptr n o
 | .vec _ e=>.vec n e
 | .vs _ e i k c=>.vs n e i k c
 | .av _ o k s=>.av n o k s
 | .vp _ e i j=>.vp n e i j
 | .mp _=>.mp n
 | .it _=>.it n
 | .yl _=>.yl n
def idx (x : Nat) : Nat → List Nat → Option Nat
 | _,[]=>none
 | k,y :: ys=>match x == y with
  | true=>some k
  | false=>idx x (k + 1) ys
theorem gi {x : Nat} : ∀ {ys : List Nat} {k i : Nat},idx x k ys = some i → k ≤ i ∧ ys[i - k]? = some x
 | [],k,i,h=>by simp [idx] at h
 | y :: ys,k,i,h=>by
  unfold idx at h
  split at h
  ·rename_i e
   simp only [Fq] at h
   subst h
   simp only [beq_iff_eq] at e
   subst e
   simp
  ·obtain ⟨h1,h2⟩:=gi h
   refine ⟨by omega,?_⟩
   rw [show i - k = (i - (k + 1)) + 1 by omega,Hd]
   exact h2
theorem oD {x : Nat} : ∀ {ys : List Nat} {k : Nat},idx x k ys = none → x ∉ ys
 | [],k,_=>by simp
 | y :: ys,k,h=>by
  unfold idx at h
  split at h
  ·simp at h
  ·rename_i e
   simp only [beq_eq_false_iff_ne,ne_eq] at e
   simp [e,oD h]
theorem tY {x : Nat} {ys : List Nat} {i : Nat} (hn : ys.Nodup) (h : ys[i]? = some x) : idx x 0 ys = some i:=by
 cases hi : idx x 0 ys with
 | none=>exact absurd (FV h) (oD hi)
 | some j =>
  obtain ⟨_,h2⟩:=gi hi
  simp only [II] at h2
  have hj:=(Fy.1 h2).1
  have hi':=(Fy.1 h).1
  rw [FK hj] at h2
  rw [FK hi'] at h
  have : ys[j] = ys[i]:=by simp only [Fq] at h h2; rw [h,h2]
  rw [(List.getElem_inj hn).1 this]
def inv (is : List Nat) (r : Ref) : D:=match idx r.blk 0 is with
 | some i=>.ref (r.to i)
 | none=>.any
def fwd (is : List Nat) (m : Nat) (r : Ref) : D:=match is[r.blk]? with
 | some i=>.ref (r.to i)
 | none=>.ref (r.to (m + (r.blk - is.length)))
def gJ : Blk → Bool
 | .mit ..=>true
 | _=>false
section
variable {w : World} {av av' : Nat → Prop} {l l' : Loc} {h h' : List Blk} {f : Ref → D}
mutual
theorem eI (ha : ∀ k,av' k → av k) (hf : ∀ r y,RefRel l h r y → Rel w av' l' h' (f r) y) : ∀ {d : D} {y : Value},Rel w av l h d y → Rel w av' l' h' (Gl f d) y
 | .p _,_,r=>by simp only [Rel,Gl] at r ⊢; exact eC ha r
 | .any,_,_=>by simp [Rel,Gl]
 | .ref r,y,rr=>by simp only [Gl]; exact hf r y (by simpa only [Rel] using rr)
 | .ep _,_,r=>by
  simp only [Rel,Gl] at r ⊢
  obtain ⟨blk,off,r1,r2⟩:=r
  exact ⟨blk,off,r1,aw ha r2⟩
 | .csl _,_,r=>by
  simp only [Rel,Gl] at r ⊢
  rcases r with r | ⟨blk,off,sz,r1,r2⟩
  ·exact .inl r
  ·exact .inr ⟨blk,off,sz,r1,b5 ha r2⟩
 | .fn _ _ _,_,r=>by
  simp only [Rel,Gl] at r ⊢
  obtain ⟨a,c,r1,r2,r3⟩:=r
  exact ⟨a,c,r1,bm ha hf r2,bm ha hf r3⟩
 | .agg _,_,r=>by
  simp only [Rel,Gl] at r ⊢
  obtain ⟨vs,r1,r2⟩:=r
  exact ⟨vs,r1,bm ha hf r2⟩
 | .tup _,_,r=>by
  simp only [Rel,Gl] at r ⊢
  obtain ⟨vs,r1,r2⟩:=r
  exact ⟨vs,r1,bm ha hf r2⟩
 | .grd _ _,_,r=>by
  simp only [Rel,Gl] at r ⊢
  exact ⟨fun hg=>eI ha hf (r.1 hg),r.2⟩
theorem bm (ha : ∀ k,av' k → av k) (hf : ∀ r y,RefRel l h r y → Rel w av' l' h' (f r) y) : ∀ {ds : List D} {ys : List Value},RelL w av l h ds ys → RelL w av' l' h' (GA f ds) ys
 | [],[],_=>by simp [RelL,GA]
 | [],_ :: _,r=>by simp [RelL] at r
 | _ :: _,[],r=>by simp [RelL] at r
 | _ :: _,_ :: _,r=>by
  simp only [RelL,GA] at r ⊢
  exact ⟨eI ha hf r.1,bm ha hf r.2⟩
end
theorem ld (ha : ∀ k,av' k → av k) (hf : ∀ r y,RefRel l h r y → Rel w av' l' h' (f r) y) : ∀ {kvs : List (D × D × Nat)} {es : List MapEntry},RelKV w av l h kvs es →
  RelKV w av' l' h' (kvs.map fun e=>(Gl f e.1,Gl f e.2.1,e.2.2)) es
 | [],[],_=>by simp [RelKV]
 | [],_ :: _,r=>by simp [RelKV] at r
 | _ :: _,[],r=>by simp [RelKV] at r
 | (k,d,m) :: kvs,e :: es,r=>by
  simp only [RelKV,GJ] at r ⊢
  exact ⟨eI ha hf r.1,eI ha hf r.2.1,r.2.2.1,ld ha hf r.2.2.2⟩
theorem e7 (ha : ∀ k,av' k → av k) (hf : ∀ r y,RefRel l h r y → Rel w av' l' h' (f r) y) {b b' : Nat} (hl : l' b' = l b) {x : Blk} (hm : gJ x = false) (r : BlkOk w av l h b x) : BlkOk w av' l' h' b' (x.mapR f):=by
 cases x with
 | var cs =>
  obtain ⟨blk,cp,c,T,r1,r2,r3⟩:=r
  exact ⟨blk,cp,c,T,hl.trans r1,r2,bm ha hf r3⟩
 | vec es e sz =>
  unfold BlkOk at r ⊢
  simp only [Hn,hl] at r ⊢
  split
  ·rename_i h0; rw [h0] at r; simp only at r; rw [r]; rfl
  ·rename_i blk cap h0
   rw [h0] at r
   obtain ⟨c,T,fr,ys,r1,r2,r3,r4,r5,r6,r7⟩:=r
   refine ⟨c,T,fr,ys,r1,r2,by simpa using r3,r4,?_,?_,r7⟩
   ·intro e he
    obtain ⟨e0,he0,rfl⟩:=FY.1 he
    rw [fJ]; exact r5 e0 he0
   ·rw [← eW]; exact bm ha hf r6
 | map kvs clock =>
  obtain ⟨blk,cp,es,r1,r2,r3⟩:=r
  exact ⟨blk,cp,es,hl.trans r1,r2,ld ha hf r3⟩
 | sit s pos =>
  obtain ⟨blk,cp,r1,r2⟩:=r
  exact ⟨blk,cp,hl.trans r1,r2⟩
 | mit m since seen st=>simp [gJ] at hm
 | loop st pend fn tmps params asg body =>
  obtain ⟨blk,cp,ts,dr,fn',r1,r2,r3⟩:=r
  exact ⟨blk,cp,ts,dr,fn',hl.trans r1,r2,bm ha hf r3⟩
 | defd =>
  obtain ⟨blk,cp,r1,r2⟩:=r
  exact ⟨blk,cp,hl.trans r1,r2⟩
 | gone=>trivial
end
theorem mU {f : Ref → D} (x : Blk) : gJ (x.mapR f) = gJ x:=by cases x <;> rfl
theorem tZ {f g : Ref → D} {x y : Blk} (h : (x.mapR f).le y) : x.le (y.mapR g) ∧ (x.stays (y.mapR g) → (x.mapR f).stays y):=by
 cases x <;> cases y <;> simp only [JI,Hn] at h <;> simp_all [JI,Hn,JG]
theorem AC {g : Ref → D} {x y : Blk} (h : x.le y) : x.le (y.mapR g) ∧ (x.stays (y.mapR g) → x.stays y):=by
 cases x <;> cases y <;> simp only [JI] at h <;> simp_all [JI,Hn,JG]
theorem lg {l l' : Loc} {h h' : List Blk} {f : Ref → D} {r : Ref} {n : Nat} {x : Blk} {y : Value} (hx : h[r.blk]? = some x) (hx' : h'[n]? = some (x.mapR f)) (hl : l' n = l r.blk) (rr : RefRel l h r y) : RefRel l' h' (r.to n) y:=by
 unfold RefRel at rr ⊢
 refine ⟨rr.1,?_⟩
 have rr:=rr.2
 cases r <;> simp only [JJ] at hx hl <;> simp only [hx] at rr <;> simp only [Ref.to,hx',hl] <;> cases x <;> simp [Hn] at rr ⊢ <;> exact rr
theorem e8 {l : Loc} {h : List Blk} {r : Ref} {y : Value} (rr : RefRel l h r y) : ∃ x,h[r.blk]? = some x:=by
 unfold RefRel at rr
 have rr:=rr.2
 cases hx : h[r.blk]? with
 | some x=>exact ⟨x,rfl⟩
 | none=>cases r <;> simp only [JJ] at hx <;> simp only [hx] at rr
def pick (is : List Nat) (H : List Blk) : List Blk:=is.map fun i=>(H.getD i .gone).mapR (inv is)
theorem kj {is : List Nat} {H : List Blk} {b : Nat} {x : Blk} (h : (pick is H)[b]? = some x) : ∃ i,is[b]? = some i ∧ x = (H.getD i .gone).mapR (inv is):=by
 unfold pick at h
 rw [GO] at h
 cases hi : is[b]? with
 | none=>rw [hi] at h; simp at h
 | some i=>rw [hi] at h; exact ⟨i,rfl,by simpa using h.symm⟩
section
variable {Γ : ap} {O : Nat → Prop} {w : World} {l : Loc} {H : List Blk} {is : List Nat}
def l5 (is : List Nat) (l : Loc) : Loc:=fun b=>match is[b]? with
 | some i=>l i
 | none=>none
theorem t6 {k : Nat} (ho : own (l5 is l) (pick is H) k) : ∃ (b i cp : Nat) (x : Blk),is[b]? = some i ∧ H[i]? = some x ∧ x ≠ .gone ∧ l i = some (k,cp):=by
 obtain ⟨b,x,cp,h1,h2,h3⟩:=ho
 obtain ⟨i,hi,rfl⟩:=kj h1
 unfold l5 at h3
 rw [hi] at h3
 have hg : H.getD i .gone ≠ .gone:=fun e=>h2 (by rw [e]; rfl)
 refine ⟨b,i,cp,H.getD i .gone,hi,?_,hg,h3⟩
 cases hx : H[i]? with
 | none=>simp [FG,hx] at hg
 | some x=>simp [FG,hx]
theorem bq {k : Nat} (ho : own (l5 is l) (pick is H) k) : own l H k:=by
 obtain ⟨b,i,cp,x,_,h2,h3,h4⟩:=t6 ho
 exact ⟨i,x,cp,h2,h3,h4⟩
theorem jh (hn : is.Nodup) {r : Ref} {y : Value} (rr : RefRel l H r y) {av : Nat → Prop} : Rel w av (l5 is l) (pick is H) (inv is r) y:=by
 unfold inv
 cases hi : idx r.blk 0 is with
 | none=>simp [Rel]
 | some i =>
  obtain ⟨_,h2⟩:=gi hi
  simp only [II] at h2
  obtain ⟨x,hx⟩:=e8 rr
  simp only [Rel]
  refine lg (f:=inv is) hx ?_ ?_ rr
  ·unfold pick
   rw [GO,h2]
   simp [FG,hx]
  ·unfold l5
   rw [h2]
theorem Rep.pick (R : Rep Γ O w l H) (hn : is.Nodup) (hm : (pick is H).all (fun x=>!gJ x) = true) {O' : Nat → Prop} (hO : ∀ k,avs O' (l5 is l) (Vi.pick is H) k → avs O l H k) (hO2 : ∀ k,O' k → avs O l H k ∧ ¬ own (l5 is l) (Vi.pick is H) k) :
  Rep Γ O' w (l5 is l) (Vi.pick is H) where
 inb k ho:=⟨(R.inb k (bq ho)).1,fun h'=>(hO2 k h').2 ho⟩
 obd k ho:=by
  rcases (hO2 k ho).1 with h' | h'
  ·exact R.obd k h'
  ·exact (R.inb k h').1
 inj b b' x x' k c c' h1 h2 h3 h4 h5 h6:=by
  obtain ⟨i,hi,rfl⟩:=kj h1
  obtain ⟨i',hi',rfl⟩:=kj h3
  unfold l5 at h5 h6
  rw [hi] at h5; rw [hi'] at h6
  have g1 : H.getD i .gone ≠ .gone:=fun e=>h2 (by rw [e]; rfl)
  have g2 : H.getD i' .gone ≠ .gone:=fun e=>h4 (by rw [e]; rfl)
  have e1 : H[i]? = some (H.getD i .gone):=by
   cases hx : H[i]? with
   | none=>simp [FG,hx] at g1
   | some x=>simp [FG,hx]
  have e2 : H[i']? = some (H.getD i' .gone):=by
   cases hx : H[i']? with
   | none=>simp [FG,hx] at g2
   | some x=>simp [FG,hx]
  have:=R.inj i i' _ _ k c c' e1 g1 e2 g2 h5 h6
  subst this
  have a1:=tY hn hi
  have a2:=tY hn hi'
  rw [a1] at a2
  exact KG a2
 blk b x h1:=by
  obtain ⟨i,hi,rfl⟩:=kj h1
  cases hx : H[i]? with
  | none=>simp [FG,hx,Hn,BlkOk]
  | some x =>
   have hg : H.getD i .gone = x:=by simp [FG,hx]
   rw [hg] at h1 ⊢
   refine e7 hO (fun r y rr=>jh hn rr) (b:=i) ?_ ?_ (R.blk i x hx)
   ·unfold l5; rw [hi]
   ·have:=FZ.1 hm _ (FV h1)
    rw [mU] at this
    simpa using this
 glo g cs hg:=aw hO (R.glo g cs hg)
end
def ft (is : List Nat) (m : Nat) (h' : List Blk) : Nat → List Blk → List Blk
 | _,[]=>[]
 | b,x :: xs=>(match idx b 0 is with
  | some i=>(h'.getD i .gone).mapR (fwd is m)
  | none=>x) :: ft is m h' (b + 1) xs
def mV (is : List Nat) (h' : List Blk) (H : List Blk) : List Blk:=ft is H.length h' 0 H ++ (h'.drop is.length).map (Hn (fwd is H.length))
theorem cj {is : List Nat} {m : Nat} {h' : List Blk} : ∀ (b : Nat) (xs : List Blk),(ft is m h' b xs).length = xs.length
 | _,[]=>rfl
 | b,x :: xs=>by simp [ft,cj (b + 1) xs]
theorem ji {is : List Nat} {m : Nat} {h' : List Blk} : ∀ (b : Nat) (xs : List Blk) (j : Nat),(ft is m h' b xs)[j]? = (xs[j]?).map fun x=>match idx (b + j) 0 is with | some i=>(h'.getD i .gone).mapR (fwd is m) | none=>x
 | b,[],j=>by simp [ft]
 | b,x :: xs,0=>by simp [ft]
 | b,x :: xs,j + 1=>by
  simp only [ft,Hd]
  rw [ji (b + 1) xs j,show b + 1 + j = b + (j + 1) by omega]
section
variable {is : List Nat} {h' H : List Blk}
theorem t7 {b : Nat} {x : Blk} (hx : H[b]? = some x) (hi : idx b 0 is = none) : (mV is h' H)[b]? = some x:=by
 have hlt:=(Fy.1 hx).1
 unfold mV
 rw [FQ (by rw [cj]; exact hlt),ji,hx]
 simp [hi]
theorem su {b i : Nat} {x : Blk} (hx : H[b]? = some x) (hi : idx b 0 is = some i) : (mV is h' H)[b]? = some ((h'.getD i .gone).mapR (fwd is H.length)):=by
 have hlt:=(Fy.1 hx).1
 unfold mV
 rw [FQ (by rw [cj]; exact hlt),ji,hx]
 simp [hi]
theorem t8 {j : Nat} : (mV is h' H)[H.length + j]? = (h'[is.length + j]?).map (Hn (fwd is H.length)):=by
 unfold mV
 rw [List.getElem?_append_right (by rw [cj]; omega),cj,GO,List.getElem?_drop]
 simp
theorem putB_cases {b : Nat} {x : Blk} (h : (mV is h' H)[b]? = some x) :
  (idx b 0 is = none ∧ H[b]? = some x) ∨ (∃ i,b < H.length ∧ idx b 0 is = some i ∧ x = (h'.getD i .gone).mapR (fwd is H.length)) ∨ ∃ j y,b = H.length + j ∧ h'[is.length + j]? = some y ∧ x = y.mapR (fwd is H.length):=by
 by_cases hb : b < H.length
 ·have hx : H[b]? = some H[b]:=FK hb
  cases hi : idx b 0 is with
  | none=>rw [t7 hx hi] at h; cases h; exact .inl ⟨rfl,hx⟩
  | some i=>rw [su hx hi] at h; cases h; exact .inr (.inl ⟨i,hb,rfl,rfl⟩)
 ·obtain ⟨j,rfl⟩ : ∃ j,b = H.length + j:=⟨b - H.length,by omega⟩
  rw [t8] at h
  cases hy : h'[is.length + j]? with
  | none=>rw [hy] at h; simp at h
  | some y=>rw [hy] at h; exact .inr (.inr ⟨j,y,rfl,hy,by simpa using h.symm⟩)
end
def ua (is : List Nat) (m : Nat) (l l0 : Loc) : Loc:=fun b=>match idx b 0 is with
 | some i=>l0 i
 | none=>match decide (b < m) with
  | true=>l b
  | false=>l0 (is.length + (b - m))
theorem Ev.frame {P : Program} {Γ : ap} {f : FuncId} {args0 args : List D} {h0 h0' H : List Blk} {d0 : D} (is : List Nat) (he : Ev P Γ f args0 h0 d0 h0') (hn : is.Nodup) (hb : ∀ i ∈ is,i < H.length)
  (ha : GA (inv is) args = args0) (hh : pick is H = h0) (hm : (h0.all (fun x=>!gJ x) && h0'.all (fun x=>!gJ x)) = true) :
  Ev P Γ f args H (d0.mapR (fwd is H.length)) (mV is h0' H):=by
 simp only [FB] at hm
 subst hh ha
 intro O w l vs R ra
 let O' : Nat → Prop:=fun k=>avs O l H k ∧ ¬ own (l5 is l) (pick is H) k
 have hO1 : ∀ k,avs O' (l5 is l) (pick is H) k → avs O l H k:=fun k ho=>ho.elim (·.1) (fun h=>.inr (bq h))
 have hO2 : ∀ k,avs O l H k → avs O' (l5 is l) (pick is H) k:=fun k ho=>by
  by_cases h : own (l5 is l) (pick is H) k
  ·exact .inr h
  ·exact .inl ⟨ho,h⟩
 have R0 : Rep Γ O' w (l5 is l) (pick is H):=R.pick hn hm.1 hO1 (fun k h=>h)
 have ra0 : RelL w (avs O' (l5 is l) (pick is H)) (l5 is l) (pick is H) (GA (inv is) args) vs:=bm hO1 (fun r y rr=>jh hn rr) ra
 refine HN (he O' w (l5 is l) vs R0 ra0) ?_
 rintro e w' ⟨v,d2,h2,l',rfl,⟨rfl,rfl⟩,R',E',rd⟩
 have hlen : is.length ≤ h2.length:=by
  rcases Nat.lt_or_ge h2.length is.length with hlt | hge
  ·exfalso
   have hp : (pick is H)[h2.length]? ≠ none:=by
    unfold pick; rw [GO]; simp [hlt]
   cases hx : (pick is H)[h2.length]? with
   | none=>exact hp hx
   | some x =>
    obtain ⟨x',h1,_⟩:=E'.keep _ x hx
    simp at h1
  ·exact hge
 have hisP : ∀ {b i : Nat},is[b]? = some i → ∃ x,H[i]? = some x ∧ (pick is H)[b]? = some (x.mapR (inv is)):=fun {b i} hi=>by
  have hlt:=hb i (FV hi)
  refine ⟨H[i],FK hlt,?_⟩
  unfold pick
  rw [GO,hi]
  simp [FG,FK hlt]
 have L1 : ∀ {i b : Nat},is[i]? = some b → ua is H.length l l' b = l' i:=fun {i b} hi=>by
  unfold ua; rw [tY hn hi]
 have L2 : ∀ {b : Nat},idx b 0 is = none → b < H.length → ua is H.length l l' b = l b:=fun {b} h1 h2=>by
  unfold ua; rw [h1]; simp [h2]
 have L3 : ∀ {j : Nat},ua is H.length l l' (H.length + j) = l' (is.length + j):=fun {j}=>by
  unfold ua
  have : idx (H.length + j) 0 is = none:=by
   cases hi : idx (H.length + j) 0 is with
   | none=>rfl
   | some i =>
    obtain ⟨_,h2⟩:=gi hi
    have:=hb _ (FV h2)
    omega
  rw [this]
  have : decide (H.length + j < H.length) = false:=by simp
  simp only [this,show is.length + (H.length + j - H.length) = is.length + j by omega]
 have back : ∀ {b : Nat} {x : Blk},(mV is h2 H)[b]? = some x → (idx b 0 is = none ∧ H[b]? = some x) ∨ ∃ i y,h2[i]? = some y ∧ x = y.mapR (fwd is H.length) ∧ ua is H.length l l' b = l' i ∧ (∀ b' x',(mV is h2 H)[b']? = some x' → (idx b' 0 is = none ∧ H[b']? = some x') ∨ ∃ i' y',h2[i']? = some y' ∧ x' = y'.mapR (fwd is H.length) ∧ ua is H.length l l' b' = l' i' ∧ (i = i' → b = b')):=by
  have one : ∀ {b : Nat} {x : Blk},(mV is h2 H)[b]? = some x → (idx b 0 is = none ∧ H[b]? = some x) ∨ ∃ i y,h2[i]? = some y ∧ x = y.mapR (fwd is H.length) ∧ ua is H.length l l' b = l' i ∧ ((i < is.length ∧ is[i]? = some b) ∨ (is.length ≤ i ∧ b = H.length + (i - is.length))):=by
   intro b x hx
   rcases putB_cases hx with h | ⟨i,h1,h3,rfl⟩ | ⟨j,y,rfl,h3,rfl⟩
   ·exact .inl h
   ·obtain ⟨_,h4⟩:=gi h3
    simp only [II] at h4
    have hi:=(Fy.1 h4).1
    have : h2[i]? = some (h2.getD i .gone):=by
     rw [FG,FK (by omega)]; rfl
    exact .inr ⟨i,_,this,rfl,L1 h4,.inl ⟨hi,h4⟩⟩
   ·exact .inr ⟨_,y,h3,rfl,L3,.inr ⟨by omega,by omega⟩⟩
  intro b x hx
  rcases one hx with h | ⟨i,y,h1,h3,h4,h5⟩
  ·exact .inl h
  ·refine .inr ⟨i,y,h1,h3,h4,fun b' x' hx'=>?_⟩
   rcases one hx' with h | ⟨i',y',g1,g3,g4,g5⟩
   ·exact .inl h
   ·refine .inr ⟨i',y',g1,g3,g4,fun e=>?_⟩
    subst e
    rcases h5 with ⟨a1,a2⟩ | ⟨a1,a2⟩ <;> rcases g5 with ⟨c1,c2⟩ | ⟨c1,c2⟩
    ·rw [a2] at c2; exact KG c2
    ·omega
    ·omega
    ·omega
 have hgone : ∀ {y : Blk},y.mapR (fwd is H.length) ≠ .gone → y ≠ .gone:=fun {y} h e=>h (by rw [e]; rfl)
 have oldO : ∀ {b : Nat} {x : Blk} {k c : Nat},idx b 0 is = none → H[b]? = some x → x ≠ .gone → l b = some (k,c) → O' k:=fun {b x k c} hi hx hg hl=>by
  refine ⟨.inr ⟨b,x,c,hx,hg,hl⟩,fun ho=>?_⟩
  obtain ⟨b',i,cp,x',q1,q2,q3,q4⟩:=t6 ho
  have:=R.inj b i x x' k c cp hx hg q2 q3 hl q4
  subst this
  exact oD hi (FV q1)
 have ownL : ∀ {k : Nat},own (ua is H.length l l') (mV is h2 H) k → own l' h2 k ∨ (own l H k ∧ O' k):=fun {k} ⟨b,x,cp,g1,g2,g3⟩=>by
  rcases back g1 with ⟨a1,a2⟩ | ⟨i,y,a1,a2,a3,_⟩
  ·have hlt:=(Fy.1 a2).1
   rw [L2 a1 hlt] at g3
   exact .inr ⟨⟨b,x,cp,a2,g2,g3⟩,oldO a1 a2 g2 g3⟩
  ·rw [a3] at g3
   exact .inl ⟨i,y,cp,a1,hgone (a2 ▸ g2),g3⟩
 have avL : ∀ k,avs O (ua is H.length l l') (mV is h2 H) k → avs O' l' h2 k:=fun k ho=>by
  rcases ho with ho | ho
  ·refine .inl ⟨.inl ho,fun h=>(R.inb k (bq h)).2 ho⟩
  ·rcases ownL ho with h | h
   ·exact .inr h
   ·exact .inl h.2
 have hf : ∀ (r : Ref) (y : Value),RefRel l' h2 r y → Rel w' (avs O (ua is H.length l l') (mV is h2 H)) (ua is H.length l l') (mV is h2 H) (fwd is H.length r) y:=fun r y rr=>by
  obtain ⟨x,hx⟩:=e8 rr
  unfold fwd
  cases hi : is[r.blk]? with
  | some b =>
   simp only [Rel]
   obtain ⟨x0,q1,_⟩:=hisP hi
   refine lg hx ?_ (L1 hi) rr (f:=fwd is H.length)
   rw [su q1 (tY hn hi)]
   simp [FG,hx]
  | none =>
   simp only [Rel]
   have hge : is.length ≤ r.blk:=by simpa using hi
   refine lg hx ?_ ?_ rr (f:=fwd is H.length)
   ·rw [t8,show is.length + (r.blk - is.length) = r.blk by omega,hx]; rfl
   ·rw [L3,show is.length + (r.blk - is.length) = r.blk by omega]
 have E : Ext w l H w' (ua is H.length l l') (mV is h2 H):=by
  refine ⟨E'.size,fun blk hlt hno=>E'.same blk hlt (fun ho=>hno (bq ho)),fun blk ho=>?_,fun b x hx=>?_,E'.tape⟩
  ·rcases ownL ho with h | h
   ·rcases E'.news blk h with h | h
    ·exact .inl (bq h)
    ·exact .inr h
   ·exact .inl h.1
  ·have hlt:=(Fy.1 hx).1
   cases hi : idx b 0 is with
   | none=>exact ⟨x,t7 hx hi,x.le_refl,fun _=>L2 hi hlt⟩
   | some i =>
    obtain ⟨_,h4⟩:=gi hi
    simp only [II] at h4
    obtain ⟨x0,q1,q2⟩:=hisP h4
    rw [hx] at q1; cases q1
    obtain ⟨x',k1,k2,k3⟩:=E'.keep i _ q2
    have hgd : h2.getD i .gone = x':=by simp [FG,k1]
    refine ⟨_,su hx hi,?_,fun hs=>?_⟩
    ·rw [hgd]; exact (tZ k2).1
    ·rw [hgd] at hs
     rw [L1 h4,k3 ((tZ k2).2 hs)]
     unfold l5; rw [h4]
 refine ⟨v,_,_,_,rfl,⟨rfl,rfl⟩,⟨fun k ho=>?_,fun k ho=>Hz (R.obd k ho) E'.size,?_,fun b x hx=>?_,fun g cs hg=>?_⟩,E,?_⟩
 ·rcases ownL ho with h | h
  ·obtain ⟨p1,p2⟩:=R'.inb k h
   refine ⟨p1,fun hk=>p2 ⟨.inl hk,fun ho'=>(R.inb k (bq ho')).2 hk⟩⟩
  ·obtain ⟨p1,p2⟩:=R.inb k h.1
   exact ⟨Hz p1 E'.size,p2⟩
 ·intro b b' x x' k c c' g1 g2 g3 g4 g5 g6
  rcases back g1 with ⟨a1,a2⟩ | ⟨i,y,a1,a2,a3,a4⟩
  ·have hlt:=(Fy.1 a2).1
   rw [L2 a1 hlt] at g5
   rcases back g3 with ⟨d1,d2⟩ | ⟨i',y',d1,d2,d3,_⟩
   ·have hlt':=(Fy.1 d2).1
    rw [L2 d1 hlt'] at g6
    exact R.inj b b' x x' k c c' a2 g2 d2 g4 g5 g6
   ·rw [d3] at g6
    exact absurd (oldO a1 a2 g2 g5) (R'.inb k ⟨i',y',c',d1,hgone (d2 ▸ g4),g6⟩).2
  ·rw [a3] at g5
   rcases a4 b' x' g3 with ⟨d1,d2⟩ | ⟨i',y',d1,d2,d3,d4⟩
   ·have hlt':=(Fy.1 d2).1
    rw [L2 d1 hlt'] at g6
    exact absurd (oldO d1 d2 g4 g6) (R'.inb k ⟨i,y,c,a1,hgone (a2 ▸ g2),g5⟩).2
   ·rw [d3] at g6
    exact d4 (R'.inj i i' y y' k c c' a1 (hgone (a2 ▸ g2)) d1 (hgone (d2 ▸ g4)) g5 g6)
 ·rcases back hx with ⟨a1,a2⟩ | ⟨i,y,a1,rfl,a3,_⟩
  ·have hlt:=(Fy.1 a2).1
   by_cases hg : x = .gone
   ·subst hg; trivial
   refine BlkOk.ext E (L2 a1 hlt) (fun blk cp hl=>?_) (R.blk b x a2)
   exact E'.same blk (R.inb blk ⟨b,x,cp,a2,hg,hl⟩).1 (oldO a1 a2 hg hl).2
  ·refine e7 avL hf a3 ?_ (R'.blk i y a1)
   have:=FZ.1 hm.2 y (FV a1)
   simpa using this
 ·exact Jc E.hc g 0 cs (R.glo g cs hg)
 ·exact eI avL hf rd
def qj : List Nat → Bool
 | []=>true
 | x :: xs=>!wX x xs && qj xs
theorem jj : ∀ {xs : List Nat},qj xs = true → xs.Nodup
 | [],_=>List.nodup_nil
 | x :: xs,h=>by
  simp only [qj,FB,Bool.not_eq_true'] at h
  refine List.nodup_cons.2 ⟨fun hm=>?_,jj h.2⟩
  rw [eY.2 hm] at h
  simp at h
def sv (is : List Nat) (H : List Blk) : List Nat → List Blk
 | []=>[]
 | i :: js=>keepX (inv is) (H.getD i .gone) :: sv is H js
def AD (is : List Nat) (H : List Blk) : List Nat → List Prop
 | []=>[]
 | i :: js=>kP (inv is) (H.getD i .gone) ++ AD is H js
theorem oE {is : List Nat} {H : List Blk} : ∀ {js : List Nat},AllP (AD is H js) → sv is H js = js.map fun i=>(H.getD i .gone).mapR (inv is)
 | [],_=>rfl
 | i :: js,h=>by
  obtain ⟨h1,h2⟩:=Jf (ps:=kP (inv is) (H.getD i .gone)) h
  simp only [sv,GJ,ib h1,oE h2]
def oG (is : List Nat) (m : Nat) (h' : List Blk) : Nat → List Blk → List Blk
 | _,[]=>[]
 | b,x :: xs=>(match idx b 0 is with
  | some i=>keepX (fwd is m) (h'.getD i .gone)
  | none=>x) :: oG is m h' (b + 1) xs
def mapX (f : Ref → D) : List Blk → List Blk
 | []=>[]
 | x :: xs=>keepX f x :: mapX f xs
def mapP (f : Ref → D) : List Blk → List Prop
 | []=>[]
 | x :: xs=>kP f x ++ mapP f xs
theorem xi {f : Ref → D} : ∀ {h : List Blk},AllP (mapP f h) → mapX f h = h.map (Hn f)
 | [],_=>rfl
 | x :: xs,h=>by
  obtain ⟨h1,h2⟩:=Jf (ps:=kP f x) h
  simp only [mapX,GJ,ib h1,xi h2]
theorem ub {f : Ref → D} : ∀ {h : List Blk} (i : Nat),AllP (mapP f h) → AllP (kP f (h.getD i .gone))
 | [],i,_=>by simp [kP,AllP]
 | x :: xs,i,h=>by
  obtain ⟨h1,h2⟩:=Jf (ps:=kP f x) h
  cases i with
  | zero=>exact h1
  | succ i=>simpa using ub i h2
theorem qk {f : Ref → D} : ∀ {h : List Blk} (i : Nat),AllP (mapP f h) → AllP (mapP f (h.drop i))
 | [],i,_=>by simp [mapP,AllP]
 | x :: xs,i,h=>by
  cases i with
  | zero=>exact h
  | succ i =>
   obtain ⟨h1,h2⟩:=Jf (ps:=kP f x) h
   exact qk i h2
theorem mW {is : List Nat} {m : Nat} {h' : List Blk} (hp : AllP (mapP (fwd is m) h')) : ∀ (b : Nat) (xs : List Blk),oG is m h' b xs = ft is m h' b xs
 | _,[]=>rfl
 | b,x :: xs=>by
  simp only [oG,ft,mW hp (b + 1) xs]
  cases idx b 0 is with
  | none=>rfl
  | some i=>simp only [ib (ub i hp)]
def putX (is : List Nat) (h' : List Blk) (H : List Blk) : List Blk:=oG is H.length h' 0 H ++ mapX (fwd is H.length) (h'.drop is.length)
theorem Da {is : List Nat} {h' H : List Blk} (hp : AllP (mapP (fwd is H.length) h')) : putX is h' H = mV is h' H:=by
 unfold putX mV
 rw [mW hp,xi (qk _ hp)]
def xj (is : List Nat) (h0 h0' H : List Blk) : Bool:=qj is && is.all (fun i=>decide (i < H.length)) && (h0.all (fun x=>!gJ x) && h0'.all (fun x=>!gJ x))
theorem Ev.frameX {P : Program} {Γ : ap} {f : FuncId} {args0 args : List D} {h0 h0' H : List Blk} {d0 : D} (is : List Nat) (he : Ev P Γ f args0 h0 d0 h0') (hk : xj is h0 h0' H = true)
  (ha : GA (inv is) args = args0) (hh : sv is H is = h0) (p1 : AllP (AD is H is)) (p2 : AllP (mapP (fwd is H.length) h0')) : Ev P Γ f args H (d0.mapR (fwd is H.length)) (putX is h0' H):=by
 simp only [xj,FB] at hk
 rw [Da p2]
 refine Ev.frame is he (jj hk.1.1) (fun i hi=>?_) ha ?_ (by rw [hk.2.1,hk.2.2]; rfl)
 ·have:=FZ.1 hk.1.2 i hi
  simpa using this
 ·rw [← hh,oE p1]; rfl
def fwd0 (m : Nat) (r : Ref) : D:=.ref (r.to (m + r.blk))
theorem xk (m : Nat) : fwd [] m = fwd0 m:=by
 funext r; simp [fwd,fwd0]
theorem Ev.frameN {P : Program} {Γ : ap} {f : FuncId} {args : List D} {h0' : List Blk} {d0 : D} (he : Ev P Γ f args [] d0 h0') (hm : h0'.all (fun x=>!gJ x) = true)
  (ha : F6 0 args = true) (h : List Blk) : Ev P Γ f args h (d0.mapR (fwd0 h.length)) (h ++ h0'.map (Hn (fwd0 h.length))):=by
 have hr : ∀ (f : Ref → D),(∀ d,Hg 0 d = true → Gl f d = d) ∧ ∀ ds,F6 0 ds = true → GA f ds = ds:=fun f=>by
  refine ⟨?_,?_⟩
  ·intro d
   refine D.rec (motive_1:=fun d=>Hg 0 d = true → Gl f d = d) (motive_2:=fun ds=>F6 0 ds = true → GA f ds = ds) ?_ ?_ ?_ ?_ ?_ ?_ ?_ ?_ ?_ ?_ ?_ d
   ·intros; rfl
   ·intros; rfl
   ·intro r h; cases r <;> simp [Hg] at h
   ·intros; rfl
   ·intros; rfl
   ·intro g a b ih1 ih2 h; simp only [Hg,FB] at h; simp only [Gl,ih1 h.1,ih2 h.2]
   ·intro cs ih h; simp only [Hg] at h; simp only [Gl,ih h]
   ·intro cs ih h; simp only [Hg] at h; simp only [Gl,ih h]
   ·intro g d ih h; simp only [Hg] at h; simp only [Gl,ih h]
   ·intros; rfl
   ·intro d ds ih1 ih2 h; simp only [F6,FB] at h; simp only [GA,ih1 h.1,ih2 h.2]
  ·intro ds
   refine D.rec_1 (motive_1:=fun d=>Hg 0 d = true → Gl f d = d) (motive_2:=fun ds=>F6 0 ds = true → GA f ds = ds) ?_ ?_ ?_ ?_ ?_ ?_ ?_ ?_ ?_ ?_ ?_ ds
   ·intros; rfl
   ·intros; rfl
   ·intro r h; cases r <;> simp [Hg] at h
   ·intros; rfl
   ·intros; rfl
   ·intro g a b ih1 ih2 h; simp only [Hg,FB] at h; simp only [Gl,ih1 h.1,ih2 h.2]
   ·intro cs ih h; simp only [Hg] at h; simp only [Gl,ih h]
   ·intro cs ih h; simp only [Hg] at h; simp only [Gl,ih h]
   ·intro g d ih h; simp only [Hg] at h; simp only [Gl,ih h]
   ·intros; rfl
   ·intro d ds ih1 ih2 h; simp only [F6,FB] at h; simp only [GA,ih1 h.1,ih2 h.2]
 have:=Ev.frame (H:=h) [] he List.nodup_nil (by simp) ((hr _).2 args ha) rfl (by simpa using hm)
 rw [xk] at this
 have e : mV [] h0' h = h ++ h0'.map (Hn (fwd0 h.length)):=by
  unfold mV
  have : ∀ (b : Nat) (xs : List Blk),ft [] h.length h0' b xs = xs:=by
   intro b xs
   induction xs generalizing b with
   | nil=>rfl
   | cons x xs ih=>simp [ft,idx,ih]
  rw [this,xk]
  simp
 rw [e] at this
 exact this
section
variable {Γ : ap} {P : Program}
theorem Ev.keepB {f : FuncId} {args : List D} {h h' : List Blk} {d : D} (he : Ev P Γ f args h d h') (ks : List Nat) (hk : (qj (Gy h.length ++ ks) && (sv (Gy h.length ++ ks) h' (Gy h.length ++ ks)).all (fun x=>!gJ x)) = true)
  (hp : AllP (AD (Gy h.length ++ ks) h' (Gy h.length ++ ks))) : Ev P Γ f args h (d.mapR (inv (Gy h.length ++ ks))) (sv (Gy h.length ++ ks) h' (Gy h.length ++ ks)):=by
 simp only [FB] at hk
 intro O w l vs R ra
 refine HN (he O w l vs R ra) ?_
 rintro e w' ⟨v,d2,h2,l',rfl,⟨rfl,rfl⟩,R',E',rd⟩
 have hn:=jj hk.1
 have hpk : sv (Gy h.length ++ ks) h2 (Gy h.length ++ ks) = pick (Gy h.length ++ ks) h2:=by rw [oE hp]; rfl
 rw [hpk] at hk ⊢
 have hat : ∀ {b : Nat},b < h.length → (Gy h.length ++ ks)[b]? = some b:=fun {b} hb=>by
  rw [FQ (by simpa using hb)]; simp [hb]
 generalize Gy h.length ++ ks = is at hn hk hat
 have hO : ∀ k,avs O (l5 is l') (pick is h2) k → avs O l' h2 k:=fun k ho=>ho.imp id bq
 refine ⟨v,_,_,l5 is l',rfl,⟨rfl,rfl⟩,R'.pick hn hk.2 hO (fun k ho=>⟨.inl ho,fun h=>(R'.inb k (bq h)).2 ho⟩),
  ⟨E'.size,E'.same,fun blk ho=>E'.news blk (bq ho),fun b x hx=>?_,E'.tape⟩,bm hO (fun r y rr=>jh hn rr) (ds:=[d2]) (ys:=[v]) ⟨rd,trivial⟩ |>.1⟩
 have hlt:=(Fy.1 hx).1
 obtain ⟨x',h1,h2',h3⟩:=E'.keep b x hx
 obtain ⟨g1,g2⟩:=AC (g:=inv is) h2'
 refine ⟨_,?_,g1,fun hs=>?_⟩
 ·unfold pick
  rw [GO,hat hlt]
  simp [FG,h1]
 ·unfold l5
  rw [hat hlt]
  exact h3 (g2 hs)
end
def GLe (Γ Γ' : ap) : Prop:=∀ g cs,Γ g = some cs → Γ' g = some cs
theorem GLe.none (Γ' : ap) : GLe (fun _=>Option.none) Γ':=fun _ _ h=>by simp at h
theorem Rep.less {Γ Γ' : ap} {O : Nat → Prop} {w : World} {l : Loc} {h : List Blk} (hg : GLe Γ Γ') (R : Rep Γ' O w l h) : Rep Γ O w l h :=
 ⟨R.inb,R.obd,R.inj,R.blk,fun g cs h=>R.glo g cs (hg g cs h)⟩
theorem Rep.more {Γ Γ' : ap} {O : Nat → Prop} {w w' : World} {l l' : Loc} {h h' : List Blk} (R : Rep Γ' O w l h) (E : Ext w l h w' l' h') (R' : Rep Γ O w' l' h') : Rep Γ' O w' l' h' :=
 ⟨R'.inb,R'.obd,R'.inj,R'.blk,fun g cs hg=>Jc E.hc g 0 cs (R.glo g cs hg)⟩
theorem Ev.glob {P : Program} {Γ Γ' : ap} (hg : GLe Γ Γ') {f : FuncId} {args : List D} {h h' : List Blk} {d : D} (he : Ev P Γ f args h d h') : Ev P Γ' f args h d h':=by
 intro O w l vs R ra
 refine HN (he O w l vs (R.less hg) ra) ?_
 rintro e w' ⟨v,d2,h2,l',rfl,hq,R',E',rd⟩
 exact ⟨v,d2,h2,l',rfl,hq,R.more E' R',E',rd⟩
theorem Ev.glob0 {P : Program} {Γ' : ap} {f : FuncId} {args : List D} {h h' : List Blk} {d : D} (he : Ev P (fun _=>none) f args h d h') : Ev P Γ' f args h d h':=he.glob (GLe.none Γ')
mutual
def D.nilW : D → D
 | .p (.v (.slice none 0 0))=>.p (.sl [])
 | .agg cs=>.agg (D.nilWL cs)
 | .tup cs=>.tup (D.nilWL cs)
 | d=>d
def D.nilWL : List D → List D
 | []=>[]
 | d :: ds=>D.nilW d :: D.nilWL ds
end
mutual
theorem uc {w : World} {av : Nat → Prop} {l : Loc} {h : List Blk} : ∀ (d : D) (y : Value),Rel w av l h d y → Rel w av l h (D.nilW d) y
 | .p x,y,r=>by
  unfold D.nilW
  split
  ·rename_i hx
   simp only [D.p.injEq] at hx
   subst hx
   simp only [Rel,RelP] at r ⊢
   exact .inl ⟨trivial,none,0,r,fun _=>rfl⟩
  ·rename_i hx; cases hx
  ·rename_i hx; cases hx
  ·exact r
 | .agg cs,y,r=>by
  simp only [D.nilW,Rel] at r ⊢
  obtain ⟨vs,r1,r2⟩:=r
  exact ⟨vs,r1,iq cs vs.toList r2⟩
 | .tup cs,y,r=>by
  simp only [D.nilW,Rel] at r ⊢
  obtain ⟨vs,r1,r2⟩:=r
  exact ⟨vs,r1,iq cs vs.toList r2⟩
 | .any,_,r=>r
 | .ref _,_,r=>r
 | .ep _,_,r=>r
 | .csl _,_,r=>r
 | .fn _ _ _,_,r=>r
 | .grd _ _,_,r=>r
theorem iq {w : World} {av : Nat → Prop} {l : Loc} {h : List Blk} : ∀ (ds : List D) (ys : List Value),RelL w av l h ds ys → RelL w av l h (D.nilWL ds) ys
 | [],[],_=>trivial
 | [],_ :: _,r=>by simp [RelL] at r
 | _ :: _,[],r=>by simp [RelL] at r
 | d :: ds,y :: ys,r=>by
  simp only [RelL,D.nilWL] at r ⊢
  exact ⟨uc d y r.1,iq ds ys r.2⟩
end
theorem Ev.nilW {P : Program} {Γ : ap} {f : FuncId} {args : List D} {h h' : List Blk} {d : D} (he : Ev P Γ f args h d h') : Ev P Γ f args h d.nilW h':=by
 intro O w l vs R ra
 refine HN (he O w l vs R ra) ?_
 rintro e w' ⟨v,d2,h2,l',rfl,⟨rfl,rfl⟩,R',E',rd⟩
 exact ⟨v,_,_,l',rfl,⟨rfl,rfl⟩,R',E',uc _ _ rd⟩
theorem li {sz : Nat} : ∀ (es : List (List D)) (n : Nat) (row : List D),(∀ r ∈ es,r.length = sz) → es[n]? = some row → ∃ rest,es.flatten.drop (n * sz) = row ++ rest
 | [],n,row,_,h=>by simp at h
 | e :: es,0,row,hs,h=>by
  simp at h; subst h
  exact ⟨es.flatten,by simp⟩
 | e :: es,n + 1,row,hs,h=>by
  simp only [Hd] at h
  obtain ⟨rest,hr⟩:=li es n row (fun r hr=>hs r (by simp [hr])) h
  refine ⟨rest,?_⟩
  have he : e.length = sz:=hs e (by simp)
  rw [Gs,List.drop_append_of_le_length' e es.flatten n sz he,hr]
where
 List.drop_append_of_le_length' (e t : List D) (n sz : Nat) (he : e.length = sz) : (e ++ t).drop ((n + 1) * sz) = t.drop (n * sz):=by
  rw [show (n + 1) * sz = e.length + n * sz by rw [he,H9]; omega,Kb]
  simp
theorem lj {sz : Nat} : ∀ (es : List (List D)) (n : Nat) (new : List D),(∀ r ∈ es,r.length = sz) → new.length = sz → n < es.length → bQ es.flatten (n * sz) new = (es.set n new).flatten
 | [],n,new,_,_,h=>by simp at h
 | e :: es,0,new,hs,hn,_=>by
  have he : e.length = sz:=hs e (by simp)
  simp [bQ,hn,← he]
 | e :: es,n + 1,new,hs,hn,h=>by
  have he : e.length = sz:=hs e (by simp)
  have ih:=lj es n new (fun r hr=>hs r (by simp [hr])) hn (by simpa using h)
  simp only [List.set_cons_succ,Gs,← ih]
  unfold bQ
  have e1 : (n + 1) * sz = e.length + n * sz:=by rw [he,H9]; omega
  rw [e1,List.take_append,Kb]
  have h1 : List.take (e.length + n * sz) e = e:=List.take_of_length_le (by omega)
  have h2 : List.drop (e.length + n * sz + new.length) e = []:=Jl (by omega)
  rw [h1,h2]
  have h3 : e.length + n * sz - e.length = n * sz:=by omega
  have h4 : e.length + n * sz + new.length - e.length = n * sz + new.length:=by omega
  rw [h3,h4]
  simp [List.append_assoc]
theorem e9 {sz : Nat} : ∀ (es : List (List D)),(∀ r ∈ es,r.length = sz) → es.flatten.length = es.length * sz
 | [],_=>by simp
 | e :: es,hs=>by
  rw [Gs,List.length_append,e9 es (fun r hr=>hs r (by simp [hr])),hs e (by simp),List.length_cons,H9]; omega
section
variable {P : Program} {h : List Blk} {b sz : Nat} {es : List (List D)}
theorem AE {ty : TypeId} (ha : B4 P ty = some true) (hz : szOf P ty = some sz) (hb : h[b]? = some (.var es.flatten)) (hs : ∀ r ∈ es,r.length = sz) {n : Nat} {row : List D} (hn : es[n]? = some row) : bD P h ty (.ref (.ptr b (n * sz))) = some (.agg row):=by
 obtain ⟨rest,hr⟩:=li es n row hs hn
 have hl : row.length = sz:=hs row (FV hn)
 unfold bD
 simp only [hb,hr,d8,ha,hz]
 rw [if_pos (by simp; omega),← hl]
 simp
theorem lk {ty : TypeId} (ha : B4 P ty = some false) (hz : szOf P ty = some 1) (hb : h[b]? = some (.var es.flatten)) (hs : ∀ r ∈ es,r.length = sz) {n j : Nat} {row : List D} {d : D} (hn : es[n]? = some row) (hj : row[j]? = some d) : bD P h ty (.ref (.ptr b (n * sz + j))) = some d:=by
 obtain ⟨rest,hr⟩:=li es n row hs hn
 unfold bD
 have : es.flatten.drop (n * sz + j) = (row ++ rest).drop j:=by rw [← hr,List.drop_drop]
 simp only [hb,this,d8,ha,hz]
 rw [List.head?_drop]
 have hlt:=(Fy.1 hj).1
 rw [FQ hlt,hj]
theorem AF {ty : TypeId} (ha : B4 P ty = some true) {cs : List D} (hz : szOf P ty = some cs.length) (hb : h[b]? = some (.var cs)) : bD P h ty (.ref (.ptr b 0)) = some (.agg cs):=by
 unfold bD
 simp only [hb,List.drop_zero,d8,ha,hz]
 simp
theorem lm {ty : TypeId} {x : D} {new : List D} (hx : x.cells = some new) (hz : szOf P ty = some sz) (hl : new.length = sz) (hb : h[b]? = some (.var es.flatten)) (hs : ∀ r ∈ es,r.length = sz) {n : Nat} (hn : n < es.length) : bH P h ty (.ref (.ptr b (n * sz))) x = some (h.set b (.var (es.set n new).flatten)):=by
 unfold bH
 simp only [hx,hz,hl,hb]
 have : (n + 1) * sz ≤ es.length * sz:=Nat.mul_le_mul_right _ hn
 rw [H9] at this
 rw [if_pos trivial,if_pos (by rw [e9 es hs]; omega),lj es n new hs hl hn]
theorem ql {ty : TypeId} {x : D} {new cs : List D} (hx : x.cells = some new) (hz : szOf P ty = some new.length) (hl : cs.length = new.length) (hb : h[b]? = some (.var cs)) : bH P h ty (.ref (.ptr b 0)) x = some (h.set b (.var new)):=by
 unfold bH
 simp only [hx,hz,hb]
 rw [if_pos trivial,if_pos (by omega)]
 have : List.drop new.length cs = []:=Jl (by omega)
 simp [bQ,this]
end
def Db (fn : Func) : Code:=match fn.body with
 | some c=>c
 | none=>.skip
theorem Ev.of_cw {P : Program} {Γ : ap} {f : FuncId} {args : List D} {h h' : List Blk} {fn : Func} {d : D} {e : Exit} {s : AS} (hf : P.funcs[f]? = some fn) (hb : fn.body.isSome = true)
  (hw : CW P Γ h false (Db fn) { t:=mG fn args,h:=h,m:=[] } e s) (hs : finF P h fn (some ((e,s,[]),[])) = some (d,h',[],[])) : Ev P Γ f args h d h':=by
 cases hc : fn.body with
 | none=>rw [hc] at hb; simp at hb
 | some c =>
  unfold Db at hw
  rw [hc] at hw
  refine xh (r:=some ((e,s,[]),[])) (φ:=[]) hf hc ?_ hs trivial
  intro e1 s1 as1 φ1 h1 _
  simp only [Fq,Fw] at h1
  obtain ⟨⟨rfl,rfl,_⟩,_⟩:=h1
  exact hw
def Ref.up (k : Nat) : Ref → Ref
 | .vec b e=>.vec b (e + k)
 | .vs b e i n c=>.vs b (e + k) i n c
 | .vp b e i j=>.vp b (e + k) i j
 | r=>r
def Ref.dn (k : Nat) : Ref → D
 | .vec b e=>match decide (k ≤ e) with
  | true=>.ref (.vec b (e - k))
  | false=>.any
 | .vs b e i n c=>match decide (k ≤ e) with
  | true=>.ref (.vs b (e - k) i n c)
  | false=>.any
 | .vp b e i j=>match decide (k ≤ e) with
  | true=>.ref (.vp b (e - k) i j)
  | false=>.any
 | r=>.ref r
def upR (ks : List Nat) (r : Ref) : D:=.ref (r.up (ks.getD r.blk 0))
def dnR (ks : List Nat) (r : Ref) : D:=r.dn (ks.getD r.blk 0)
theorem Ref.up_blk (k : Nat) (r : Ref) : (r.up k).blk = r.blk:=by cases r <;> rfl
theorem dn_up (ks : List Nat) (r : Ref) : Gl (dnR ks) (upR ks r) = .ref r:=by
 simp only [upR,Gl,dnR,Ref.up_blk]
 cases r <;> simp [Ref.up,Ref.dn]
def Blk.up (k : Nat) : Blk → Blk
 | .vec es e sz=>.vec es (e + k) sz
 | x=>x
def rM (ks : List Nat) : Nat → List Blk → List Blk
 | _,[]=>[]
 | i,x :: xs=>(x.mapR (upR ks)).up (ks.getD i 0) :: rM ks (i + 1) xs
theorem bO (ks : List Nat) : ∀ (i : Nat) (h : List Blk) (j : Nat),(rM ks i h)[j]? = (h[j]?).map fun x=>(x.mapR (upR ks)).up (ks.getD (i + j) 0)
 | i,[],j=>by simp [rM]
 | i,x :: xs,0=>by simp [rM]
 | i,x :: xs,j + 1=>by
  simp only [rM,Hd]
  rw [bO ks (i + 1) xs j,show i + 1 + j = i + (j + 1) by omega]
mutual
theorem oH {f g : Ref → D} (h : ∀ r,Gl g (f r) = .ref r) : ∀ d : D,Gl g (Gl f d) = d
 | .p _=>rfl
 | .any=>rfl
 | .ref r=>by simp only [Gl]; exact h r
 | .ep _=>rfl
 | .csl _=>rfl
 | .fn _ a b=>by simp only [Gl]; rw [ck h a,ck h b]
 | .agg cs=>by simp only [Gl]; rw [ck h cs]
 | .tup cs=>by simp only [Gl]; rw [ck h cs]
 | .grd _ d=>by simp only [Gl]; rw [oH h d]
theorem ck {f g : Ref → D} (h : ∀ r,Gl g (f r) = .ref r) : ∀ ds : List D,GA g (GA f ds) = ds
 | []=>rfl
 | d :: ds=>by simp only [GA]; rw [oH h d,ck h ds]
end
theorem Dc {f g : Ref → D} (h : ∀ r,Gl g (f r) = .ref r) (x : Blk) : (x.mapR f).mapR g = x:=by
 cases x <;> simp only [Hn]
 ·rw [ck h]
 ·rename_i es e sz
  congr 1
  rw [List.map_map]
  have : (GA g ∘ GA f) = id:=by funext ds; exact ck h ds
  rw [this,List.map_id]
 ·rename_i kvs clock
  congr 1
  rw [List.map_map]
  have : ((fun e : D × D × Nat=>(Gl g e.1,Gl g e.2.1,e.2.2)) ∘ fun e=>(Gl f e.1,Gl f e.2.1,e.2.2)) = id:=by
   funext e; simp only [Function.comp,oH h,id]
  rw [this,List.map_id]
 ·rw [ck h]
theorem jk {k : Nat} {f : Ref → D} {x : Blk} : (x.mapR f).up k = .gone ↔ x = .gone:=by cases x <;> simp [Hn,Blk.up]
theorem ue {w : World} {av : Nat → Prop} {l : Loc} {h : List Blk} {b k : Nat} {x : Blk} : BlkOk w av l h b (x.up k) ↔ BlkOk w av l h b x:=by cases x <;> rfl
section
variable {l : Loc} {h : List Blk} {ks : List Nat} {w : World} {av : Nat → Prop} {y : Value}
theorem mX {k : Nat} : own l (rM ks 0 h) k ↔ own l h k:=by
 constructor
 ·rintro ⟨b,x,cp,h1,h2,h3⟩
  rw [bO] at h1
  cases hx : h[b]? with
  | none=>rw [hx] at h1; simp at h1
  | some z =>
   rw [hx] at h1
   simp only [Gb,Fq] at h1
   subst h1
   exact ⟨b,z,cp,hx,fun e=>h2 (jk.2 e),h3⟩
 ·rintro ⟨b,x,cp,h1,h2,h3⟩
  exact ⟨b,(x.mapR (upR ks)).up (ks.getD (0 + b) 0),cp,by rw [bO,h1]; rfl,fun e=>h2 (jk.1 e),h3⟩
theorem ln {O : Nat → Prop} {k : Nat} : avs O l (rM ks 0 h) k ↔ avs O l h k:=or_congr Iff.rfl mX
theorem Cb {r : Ref} (rr : RefRel l (rM ks 0 h) r y) : Rel w av l h (dnR ks r) y:=by
 obtain ⟨x,hx⟩:=e8 rr
 rw [bO] at hx
 cases hz : h[r.blk]? with
 | none=>rw [hz] at hx; simp at hx
 | some z =>
  have key : (rM ks 0 h)[r.blk]? = some ((z.mapR (upR ks)).up (ks.getD r.blk 0)):=by rw [bO,hz]; simp
  unfold RefRel at rr
  obtain ⟨h1,rr⟩:=rr
  unfold dnR
  generalize ks.getD r.blk 0 = k at key ⊢
  cases r with
  | vec b e =>
   simp only [JJ] at hz key
   simp only [key] at rr
   simp only [Ref.dn]
   cases z <;> simp only [Hn,Blk.up] at rr
   ·split
    ·rename_i hk
     simp only [decide_eq_true_eq] at hk
     simp only [Rel]
     unfold RefRel
     simp only [hz]
     exact ⟨h1,by omega,fun e=>by simpa using rr.2 (by omega)⟩
    ·simp [Rel]
   ·split
    ·simp only [Rel]
     unfold RefRel
     simp only [hz]
     exact ⟨h1,trivial⟩
    ·simp [Rel]
  | vs b e i n c =>
   simp only [JJ] at hz key
   simp only [key] at rr
   simp only [Ref.dn]
   cases z <;> simp only [Hn,Blk.up] at rr
   ·split
    ·rename_i hk
     simp only [decide_eq_true_eq] at hk
     simp only [Rel]
     unfold RefRel
     simp only [hz]
     exact ⟨h1,by omega,fun e=>by simpa using rr.2 (by omega)⟩
    ·simp [Rel]
   ·split
    ·simp only [Rel]
     unfold RefRel
     simp only [hz]
     exact ⟨h1,trivial⟩
    ·simp [Rel]
  | vp b e i j =>
   simp only [JJ] at hz key
   simp only [key] at rr
   simp only [Ref.dn]
   cases z <;> simp only [Hn,Blk.up] at rr
   ·split
    ·rename_i hk
     simp only [decide_eq_true_eq] at hk
     simp only [Rel]
     unfold RefRel
     simp only [hz]
     exact ⟨h1,by omega,fun e=>by simpa using rr.2 (by omega)⟩
    ·simp [Rel]
   ·split
    ·simp only [Rel]
     unfold RefRel
     simp only [hz]
     exact ⟨h1,trivial⟩
    ·simp [Rel]
  | _ =>
   simp only [JJ] at hz key
   simp only [key] at rr
   simp only [Ref.dn,Rel]
   unfold RefRel
   simp only [hz]
   refine ⟨h1,?_⟩
   cases z <;> simp only [Hn,Blk.up] at rr <;> exact rr
theorem Cc {r : Ref} (rr : RefRel l h r y) : Rel w av l (rM ks 0 h) (upR ks r) y:=by
 obtain ⟨z,hz⟩:=e8 rr
 have key : (rM ks 0 h)[r.blk]? = some ((z.mapR (upR ks)).up (ks.getD r.blk 0)):=by rw [bO,hz]; simp
 unfold RefRel at rr
 obtain ⟨h1,rr⟩:=rr
 unfold upR
 simp only [Rel]
 generalize ks.getD r.blk 0 = k at key ⊢
 unfold RefRel
 refine ⟨h1,?_⟩
 cases r <;> simp only [JJ] at hz key <;> simp only [hz] at rr <;> simp only [Ref.up,key] <;> cases z <;> simp only [Hn,Blk.up] <;> simp only at rr <;>
  first
  | exact rr
  | exact ⟨by omega,fun e=>by simpa using rr.2 (by omega)⟩
end
theorem le_up {f g : Ref → D} {k : Nat} {x y : Blk} (h : x.le y) : ((x.mapR f).up k).le ((y.mapR g).up k) ∧ (((x.mapR f).up k).stays ((y.mapR g).up k) → x.stays y):=by
 cases x <;> cases y <;> simp only [JI] at h <;> simp_all [JI,Hn,JG,Blk.up]
theorem Ev.up {P : Program} {Γ : ap} {f : FuncId} {args : List D} {h h' : List Blk} {d : D} (ks : List Nat) (he : Ev P Γ f args h d h') (hm : (h.all (fun x=>!gJ x) && h'.all (fun x=>!gJ x)) = true) :
  Ev P Γ f (GA (upR ks) args) (rM ks 0 h) (d.mapR (upR ks)) (rM ks 0 h'):=by
 simp only [FB] at hm
 intro O w l vs R ra
 have hO : ∀ k,avs O l h k → avs O l (rM ks 0 h) k:=fun k=>ln.2
 have R0 : Rep Γ O w l h:=by
  refine ⟨fun k ho=>R.inb k (mX.2 ho),R.obd,fun b b' x x' k c c' h1 h2 h3 h4 h5 h6=>?_,fun b x hx=>?_,fun g cs hg=>aw (fun k hk=>ln.2 hk) (R.glo g cs hg)⟩
  ·exact R.inj b b' _ _ k c c' (by rw [bO,h1]; rfl) (fun e=>h2 (jk.1 e)) (by rw [bO,h3]; rfl) (fun e=>h4 (jk.1 e)) h5 h6
  ·have hb:=ue.1 (R.blk b ((x.mapR (upR ks)).up (ks.getD (0 + b) 0)) (by rw [bO,hx]; rfl))
   have:=e7 (l':=l) (h':=h) (b':=b) (f:=dnR ks) (fun k hk=>ln.2 hk) (fun r y rr=>Cb rr) rfl (by
    have:=FZ.1 hm.1 x (FV hx)
    rw [mU]; simpa using this) hb
   rw [Dc (dn_up ks)] at this
   exact this
 have ra0 : RelL w (avs O l h) l h args vs:=by
  have:=bm (av':=avs O l h) (l':=l) (h':=h) (f:=dnR ks) (fun k hk=>ln.2 hk) (fun r y rr=>Cb rr) ra
  rw [ck (dn_up ks)] at this
  exact this
 refine HN (he O w l vs R0 ra0) ?_
 rintro e w' ⟨v,d2,h2,l',rfl,⟨rfl,rfl⟩,R',E',rd⟩
 refine ⟨v,_,_,l',rfl,⟨rfl,rfl⟩,⟨fun k ho=>R'.inb k (mX.1 ho),R'.obd,fun b b' x x' k c c' h1 h2' h3 h4 h5 h6=>?_,fun b x hx=>?_,fun g cs hg=>aw (fun k hk=>ln.1 hk) (R'.glo g cs hg)⟩,
  ⟨E'.size,fun blk hlt hno=>E'.same blk hlt (fun ho=>hno (mX.2 ho)),fun blk ho=>(E'.news blk (mX.1 ho)).imp mX.2 id,fun b x hx=>?_,E'.tape⟩,?_⟩
 ·rw [bO] at h1 h3
  cases hx : h2[b]? with
  | none=>rw [hx] at h1; simp at h1
  | some z =>
   cases hx' : h2[b']? with
   | none=>rw [hx'] at h3; simp at h3
   | some z' =>
    rw [hx] at h1; rw [hx'] at h3
    simp only [Gb,Fq] at h1 h3
    subst h1; subst h3
    exact R'.inj b b' z z' k c c' hx (fun e=>h2' (jk.2 e)) hx' (fun e=>h4 (jk.2 e)) h5 h6
 ·rw [bO] at hx
  cases hz : h2[b]? with
  | none=>rw [hz] at hx; simp at hx
  | some z =>
   rw [hz] at hx
   simp only [Gb,Fq] at hx
   subst hx
   refine ue.2 (e7 (l':=l') (b':=b) (fun k hk=>ln.1 hk) (fun r y rr=>Cc rr) rfl ?_ (R'.blk b z hz))
   have:=FZ.1 hm.2 z (FV hz)
   simpa using this
 ·rw [bO] at hx
  cases hz : h[b]? with
  | none=>rw [hz] at hx; simp at hx
  | some z =>
   rw [hz] at hx
   simp only [Gb,Fq] at hx
   subst hx
   obtain ⟨x',k1,k2,k3⟩:=E'.keep b z hz
   obtain ⟨g1,g2⟩:=le_up (f:=upR ks) (g:=upR ks) (k:=ks.getD (0 + b) 0) k2
   exact ⟨_,by rw [bO,k1]; rfl,g1,fun hs=>k3 (g2 hs)⟩
 ·exact eI (fun k hk=>ln.1 hk) (fun r y rr=>Cc rr) rd
def upHX (ks : List Nat) : Nat → List Blk → List Blk
 | _,[]=>[]
 | i,x :: xs=>(keepX (upR ks) x).up (ks.getD i 0) :: upHX ks (i + 1) xs
theorem sw {ks : List Nat} : ∀ {i : Nat} {h : List Blk},AllP (mapP (upR ks) h) → upHX ks i h = rM ks i h
 | _,[],_=>rfl
 | i,x :: xs,hp=>by
  obtain ⟨h1,h2⟩:=Jf (ps:=kP (upR ks) x) hp
  simp only [upHX,rM,ib h1,sw h2]
theorem Ev.upX {P : Program} {Γ : ap} {f : FuncId} {args : List D} {h h' : List Blk} {d : D} (ks : List Nat) (he : Ev P Γ f args h d h') (hm : (h.all (fun x=>!gJ x) && h'.all (fun x=>!gJ x)) = true) (p1 : AllP (mapP (upR ks) h)) (p2 : AllP (mapP (upR ks) h')) :
  Ev P Γ f (GA (upR ks) args) (upHX ks 0 h) (d.mapR (upR ks)) (upHX ks 0 h'):=by
 rw [sw p1,sw p2]; exact Ev.up ks he hm
section
variable {P : Program} {Γ : ap} {O : Nat → Prop} {w : World} {l : Loc} {h : List Blk}
variable {X : Ctx} {r : Option Nat}
abbrev births (l : List (D × D × Nat)) : List Nat:=l.map fun e=>e.2.2
end
def cE : List D → Option (List Dp)
 | []=>some []
 | .p x :: ds=>match cE ds with
  | some xs=>some (x :: xs)
  | none=>none
 | _=>none
def fa : List (List D) → Option (List (List Dp))
 | []=>some []
 | r :: rs=>match cE r,fa rs with
  | some x,some xs=>some (x :: xs)
  | _,_=>none
def frzV (d : D) (e : Nat) : Option Blk → D
 | some (.vec es e' _)=>match Nat.beq e' e,fa es with
  | true,some rows=>.p (.sl rows)
  | _,_=>d
 | _=>d
mutual
def lp (h : List Blk) : D → D
 | .ref (.vec b e)=>frzV (.ref (.vec b e)) e h[b]?
 | .agg cs=>.agg (wp h cs)
 | d=>d
def wp (h : List Blk) : List D → List D
 | []=>[]
 | d :: ds=>lp h d :: wp h ds
end
mutual
def j5 : D → Bool
 | .p (.v _)=>true
 | .agg cs=>xl cs
 | .tup cs=>xl cs
 | _=>false
def xl : List D → Bool
 | []=>true
 | d :: ds=>j5 d && xl ds
end
theorem mY : ∀ {ds : List D} {xs : List Dp},cE ds = some xs → ds = xs.map .p
 | [],xs,h=>by simp only [cE,Fq] at h; subst h; rfl
 | .p x :: ds,xs,h=>by
  simp only [cE] at h
  split at h
  ·rename_i ys h1
   simp only [Fq] at h
   subst h
   rw [mY h1]; rfl
  ·simp at h
 | .any :: _,_,h=>by simp [cE] at h
 | .ref _ :: _,_,h=>by simp [cE] at h
 | .ep _ :: _,_,h=>by simp [cE] at h
 | .csl _ :: _,_,h=>by simp [cE] at h
 | .fn _ _ _ :: _,_,h=>by simp [cE] at h
 | .agg _ :: _,_,h=>by simp [cE] at h
 | .tup _ :: _,_,h=>by simp [cE] at h
 | .grd _ _ :: _,_,h=>by simp [cE] at h
theorem lq : ∀ {es : List (List D)} {xs : List (List Dp)},fa es = some xs → es = xs.map (·.map .p)
 | [],xs,h=>by simp only [fa,Fq] at h; subst h; rfl
 | e :: es,xs,h=>by
  simp only [fa] at h
  split at h
  ·rename_i y ys h1 h2
   simp only [Fq] at h
   subst h
   rw [mY h1,lq h2]; rfl
  ·simp at h
section
variable {P : Program} {Γ : ap} {O : Nat → Prop} {w : World} {l : Loc} {h : List Blk}
def sx (l : Loc) (h : List Blk) (k : Nat) : Prop:=∃ (b : Nat) (rows : List (List Dp)) (e sz cap : Nat),h[b]? = some (.vec (rows.map (·.map D.p)) e sz) ∧ l b = some (k,cap)
theorem AG (R : Rep Γ O w l h) {b e : Nat} {y : Value} {rows : List (List Dp)} {sz : Nat} (hb : h[b]? = some (.vec (rows.map (·.map .p)) e sz)) (rr : RefRel l h (.vec b e) y) {av' : Nat → Prop} (ha : ∀ k,av' k → avs O l h k ∧ ¬ sx l h k) :
  RelP w av' (.sl rows) y:=by
 have hk:=R.blk _ _ hb
 unfold RefRel at rr
 simp only [hb] at rr
 have hv:=rr.2.2 trivial
 unfold BlkOk at hk
 simp only at hk
 simp only [RelP]
 cases hl : l b with
 | none =>
  rw [hl] at hv hk
  simp only [l4] at hv hk
  exact .inl ⟨by simpa using hk,none,0,hv.2,fun _=>rfl⟩
 | some p =>
  obtain ⟨blk,cap⟩:=p
  rw [hl] at hv hk
  simp only [l4] at hv hk
  obtain ⟨c,T,fr,ys,q1,q2,q3,q4,q5,q6,rest,q7⟩:=hk
  refine .inr ⟨blk,0,cap,sz,by simpa using hv.1,by simpa using hv.2,?_⟩
  have hcell : ¬ av' blk:=fun ho=>(ha blk ho).2 ⟨b,rows,e,sz,cap,hb,hl⟩
  refine i7 rows 0 fun i e1 he1=>?_
  have hlen : e1.length = sz:=by
   have:=q5 (e1.map .p) (FY.2 ⟨e1,FV he1,rfl⟩)
   simpa using this
  refine ⟨hlen,gH (l:=l) (h:=h) (av:=avs O l h) (av':=av') (fun _ ho=>(ha _ ho).1) hcell e1 _ ?_⟩
  rw [Nat.zero_add]
  exact (CellsAt.of_rel (loc:=l) (h:=h) q1 q7 q6).row q5 (by rw [GO,he1]; rfl)
mutual
theorem AH (R : Rep Γ O w l h) {av' : Nat → Prop} (ha : ∀ k,av' k → avs O l h k ∧ ¬ sx l h k) : ∀ {d : D} {y : Value},Hg 0 (lp h d) = true → Rel w (avs O l h) l h d y → Rel w av' l [] (lp h d) y
 | .p _,_,_,r=>by simp only [lp,Rel] at r ⊢; exact eC (fun k hk=>(ha k hk).1) r
 | .any,_,_,_=>by simp [lp,Rel]
 | .ep _,_,_,r=>by
  simp only [lp,Rel] at r ⊢
  obtain ⟨blk,off,r1,r2⟩:=r
  exact ⟨blk,off,r1,aw (fun k hk=>(ha k hk).1) r2⟩
 | .csl _,_,_,r=>by
  simp only [lp,Rel] at r ⊢
  rcases r with r | ⟨blk,off,sz,r1,r2⟩
  ·exact .inl r
  ·exact .inr ⟨blk,off,sz,r1,b5 (fun k hk=>(ha k hk).1) r2⟩
 | .agg cs,_,hi,r=>by
  simp only [lp,Hg] at hi
  simp only [lp,Rel] at r ⊢
  obtain ⟨vs,r1,r2⟩:=r
  exact ⟨vs,r1,oI R ha hi r2⟩
 | .ref (.vec b e),y,hi,r=>by
  simp only [lp] at hi ⊢
  unfold frzV at hi ⊢
  split at hi
  ·rename_i es e' sz hb
   split at hi
   ·rename_i rows h1 h2
    have he:=Nat.eq_of_beq_eq_true h1
    subst he
    rw [lq h2] at hb
    simp only [Rel]
    exact AG R hb (by simpa only [Rel] using r) ha
   ·simp [Hg] at hi
  ·simp [Hg] at hi
 | .ref (.ptr _ _),_,hi,_=>by simp [lp,Hg] at hi
 | .ref (.vs _ _ _ _ _),_,hi,_=>by simp [lp,Hg] at hi
 | .ref (.av _ _ _ _),_,hi,_=>by simp [lp,Hg] at hi
 | .ref (.vp _ _ _ _),_,hi,_=>by simp [lp,Hg] at hi
 | .ref (.mp _),_,hi,_=>by simp [lp,Hg] at hi
 | .ref (.it _),_,hi,_=>by simp [lp,Hg] at hi
 | .ref (.yl _),_,hi,_=>by simp [lp,Hg] at hi
 | .fn f a b,_,hi,r=>by
  have:=dS (l:=l) (h:=h) (n:=0) (fun k hk=>(ha k hk).1) (by simpa [lp] using hi) r
  simpa [lp] using this
 | .tup a,_,hi,r=>by
  have:=dS (l:=l) (h:=h) (n:=0) (fun k hk=>(ha k hk).1) (by simpa [lp] using hi) r
  simpa [lp] using this
 | .grd g a,_,hi,r=>by
  have:=dS (l:=l) (h:=h) (n:=0) (fun k hk=>(ha k hk).1) (by simpa [lp] using hi) r
  simpa [lp] using this
theorem oI (R : Rep Γ O w l h) {av' : Nat → Prop} (ha : ∀ k,av' k → avs O l h k ∧ ¬ sx l h k) : ∀ {ds : List D} {ys : List Value},F6 0 (wp h ds) = true → RelL w (avs O l h) l h ds ys → RelL w av' l [] (wp h ds) ys
 | [],[],_,_=>by simp [wp,RelL]
 | [],_ :: _,_,r=>by simp [RelL] at r
 | _ :: _,[],_,r=>by simp [RelL] at r
 | _ :: _,_ :: _,hi,r=>by
  simp only [wp,F6,FB] at hi
  simp only [wp,RelL] at r ⊢
  exact ⟨AH R ha hi.1 r.1,oI R ha hi.2 r.2⟩
end
mutual
theorem uf {w' : World} {av av' : Nat → Prop} {l' : Loc} {h' : List Blk} : ∀ {d : D} {y : Value},j5 d = true → Rel w av l h d y → Rel w' av' l' h' d y
 | .p (.v _),_,_,r=>by simpa [Rel,RelP] using r
 | .agg cs,_,hf,r=>by
  simp only [j5] at hf
  simp only [Rel] at r ⊢
  obtain ⟨vs,r1,r2⟩:=r
  exact ⟨vs,r1,lr hf r2⟩
 | .tup cs,_,hf,r=>by
  simp only [j5] at hf
  simp only [Rel] at r ⊢
  obtain ⟨vs,r1,r2⟩:=r
  exact ⟨vs,r1,lr hf r2⟩
 | .p (.sl _),_,hf,_=>by simp [j5] at hf
 | .any,_,hf,_=>by simp [j5] at hf
 | .ref _,_,hf,_=>by simp [j5] at hf
 | .ep _,_,hf,_=>by simp [j5] at hf
 | .csl _,_,hf,_=>by simp [j5] at hf
 | .fn _ _ _,_,hf,_=>by simp [j5] at hf
 | .grd _ _,_,hf,_=>by simp [j5] at hf
theorem lr {w' : World} {av av' : Nat → Prop} {l' : Loc} {h' : List Blk} : ∀ {ds : List D} {ys : List Value},xl ds = true → RelL w av l h ds ys → RelL w' av' l' h' ds ys
 | [],[],_,_=>by simp [RelL]
 | [],_ :: _,_,r=>by simp [RelL] at r
 | _ :: _,[],_,r=>by simp [RelL] at r
 | _ :: _,_ :: _,hf,r=>by
  simp only [xl,FB] at hf
  simp only [RelL] at r ⊢
  exact ⟨uf hf.1 r.1,lr hf.2 r.2⟩
end
theorem Ev.frzArgs {f : FuncId} {args : List D} {d : D} (hi : F6 0 (wp h args) = true) (hd : j5 d = true) (he : Ev P Γ f (wp h args) [] d []) : Ev P Γ f args h d h:=by
 intro O w l vs R ra
 have hav : ∀ l' k,avs (fun k=>avs O l h k ∧ ¬ sx l h k) l' [] k → avs O l h k ∧ ¬ sx l h k:=fun l' k ho=>ho.elim id (fun h=>absurd h ci)
 have R0 : Rep Γ (fun k=>avs O l h k ∧ ¬ sx l h k) w l []:=by
  refine ⟨fun blk ho=>absurd ho ci,fun blk ho=>?_,fun b b' x x' k c c' hb=>by simp at hb,fun b x hb=>by simp at hb,fun g cs hg=>?_⟩
  ·rcases ho.1 with ho | ho
   ·exact R.obd blk ho
   ·exact (R.inb blk ho).1
  ·exact aw (fun k hk=>(hav l k hk).1) (R.glo g cs hg)
 have ra0:=oI (av':=avs (fun k=>avs O l h k ∧ ¬ sx l h k) l []) R (fun k hk=>hav l k hk) hi ra
 refine HN (he _ w l vs R0 ra0) ?_
 rintro e w' ⟨v,d2,h2,l',rfl,⟨rfl,rfl⟩,R',E',rd⟩
 have E : Ext w l h w' l h:=⟨E'.size,fun blk hb _=>E'.same blk hb ci,fun blk ho=>.inl ho,fun b x hx=>⟨x,hx,x.le_refl,fun _=>rfl⟩,E'.tape⟩
 refine ⟨v,d2,h,l,rfl,⟨rfl,rfl⟩,⟨fun blk ho=>⟨Hz (R.inb blk ho).1 E'.size,(R.inb blk ho).2⟩,fun blk ho=>Hz (R.obd blk ho) E'.size,R.inj,fun b x hx=>?_,fun g cs hg=>?_⟩,E,uf hd rd⟩
 ·by_cases hg : x = .gone
  ·subst hg; trivial
  exact BlkOk.ext E rfl (fun blk cp hl=>E'.same blk (R.inb blk ⟨b,x,cp,hx,hg,hl⟩).1 ci) (R.blk b x hx)
 ·exact Jc E.hc g 0 cs (R.glo g cs hg)
end
def Shp (P : Program) : Nat → TypeId → List Dp → Prop
 | 0,_,_=>False
 | n + 1,t,ds=>match P.underlying t with
  | some .bool=>∃ b,ds = [.v (.bool b)]
  | some (.int k)=>∃ x,ds = [.v (.int k x)] ∧ (Lit.int k x).wf = true
  | some .string=>∃ s,ds = [.v (.string s)] ∧ s.size ≤ reachBytes
  | some (.slice e)=>∃ es,ds = [.sl es] ∧ es.length * P.bytesOf e ≤ reachBytes ∧ ∀ r ∈ es,Shp P n e r
  | some (.struct fs)=>ds.length = P.cellsOf t ∧ ∀ f ∈ fs.toList,Shp P n f.type ((ds.drop f.offset).take (P.cellsOf f.type))
  | _=>False
def cF (P : Program) : List Field → Nat → Nat → Bool
 | [],acc,total=>acc == total
 | f :: fs,acc,total=>(f.offset == acc) && cF P fs (acc + P.cellsOf f.type) total
def xm (P : Program) (ts : List TypeId) : Bool:=ts.all fun t=>match P.underlying t with
 | some .bool | some (.int _) | some .string=>true
 | some (.slice e)=>ts.contains e && decide (0 < P.cellsOf e)
 | some (.struct fs)=>cF P fs.toList 0 (P.cellsOf t) && fs.toList.all fun f=>ts.contains f.type
 | _=>false
def RelPL (w : World) (av : Nat → Prop) : List Dp → List Value → Prop
 | [],[]=>True
 | d :: ds,y :: ys=>RelP w av d y ∧ RelPL w av ds ys
 | _,_=>False
section
variable {w : World} {av : Nat → Prop}
theorem RelPL.length : ∀ {ds : List Dp} {ys : List Value},RelPL w av ds ys → ds.length = ys.length
 | [],[],_=>rfl
 | _ :: _,_ :: _,h=>by simp [RelPL.length h.2]
 | [],_ :: _,h=>h.elim
 | _ :: _,[],h=>h.elim
theorem RelPL.append : ∀ {ds ds' : List Dp} {ys ys' : List Value},RelPL w av ds ys → RelPL w av ds' ys' → RelPL w av (ds ++ ds') (ys ++ ys')
 | [],_,[],_,_,h=>h
 | _ :: _,_,_ :: _,_,h,h'=>⟨h.1,RelPL.append h.2 h'⟩
 | [],_,_ :: _,_,h,_=>h.elim
 | _ :: _,_,[],_,h,_=>h.elim
theorem RelPL.relL {l : Loc} {h : List Blk} : ∀ {ds : List Dp} {ys : List Value},RelPL w av ds ys → RelL w av l h (ds.map .p) ys
 | [],[],_=>by simp [RelL]
 | _ :: _,_ :: _,r=>by simp only [GJ,RelL,Rel]; exact ⟨r.1,RelPL.relL r.2⟩
 | [],_ :: _,h=>h.elim
 | _ :: _,[],h=>h.elim
theorem qm {P : Program} : ∀ {fs : List Field} {acc total : Nat},cF P fs acc total = true → acc ≤ total ∧ ∀ f ∈ fs,acc ≤ f.offset
 | [],acc,total,h=>by simp only [cF,beq_iff_eq] at h; exact ⟨by omega,by simp⟩
 | f :: fs,acc,total,h=>by
  simp only [cF,FB,beq_iff_eq] at h
  obtain ⟨h1,h2⟩:=qm h.2
  refine ⟨by omega,fun g hg=>?_⟩
  rcases Gd.1 hg with rfl | hg
  ·omega
  ·have:=h2 g hg; omega
theorem mZ {blk c : Nat} : ∀ (es : List (List Dp)) (off : Nat),(∀ i e,es[i]? = some e → e.length = c ∧ RelCells w av blk (off + i * c) e) → RelRows w av blk c off es
 | [],_,_=>trivial
 | e :: es,off,h=>by
  obtain ⟨h1,h2⟩:=h 0 e rfl
  refine ⟨h1,by simpa using h2,mZ es (off + c) fun i e' he=>?_⟩
  obtain ⟨h3,h4⟩:=h (i + 1) e' (by simpa using he)
  refine ⟨h3,?_⟩
  rw [show off + c + i * c = off + (i + 1) * c by rw [H9]; omega]
  exact h4
theorem lu (hav : ∀ k,¬ av k) {blk : Nat} : ∀ (ds : List Dp) (ys : List Value) (off : Nat),RelPL w av ds ys → (∀ (j : Nat) (y : Value),ys[j]? = some y → w.cell? ⟨blk,off + j,none⟩ = some y) → RelCells w av blk off ds
 | [],_,_,_,_=>trivial
 | d :: ds,[],_,r,_=>r.elim
 | d :: ds,y :: ys,off,r,hc=>by
  refine ⟨⟨hav _,y,by simpa using hc 0 y rfl,r.1⟩,lu hav ds ys (off + 1) r.2 fun j z hz=>?_⟩
  have:=hc (j + 1) z (by simpa using hz)
  rwa [show off + (j + 1) = off + 1 + j by omega] at this
theorem ug {a : Addr} {n : Nat} {cs : List Value} (h : w.cells? 0 a n = some cs) : cs.length = n ∧ ∀ (j : Nat) (y : Value),cs[j]? = some y → w.cell? (a.add j) = some y:=by
 obtain ⟨h1,h2,h3⟩:=World.cells?_some h
 refine ⟨h2,fun j y hy=>?_⟩
 have hj : j < n:=by rw [← h2]; exact (Fy.1 hy).1
 rw [h3 j hj,hy]
theorem gz {H : Type} {P : Program} {e : TypeId} {q : Nat → Bool} : ∀ {l : List (DataW H)},(DataW.weightsAll P e l).all q = true → ∀ d ∈ l,(d.weights P e).all q = true
 | [],_,d,hd=>by simp at hd
 | x :: l,h,d,hd=>by
  simp only [DataW.weightsAll,JK,FB] at h
  rcases Gd.1 hd with rfl | hd
  ·exact h.1
  ·exact gz h.2 d hd
theorem ei {H : Type} {P : Program} {q : Nat → Bool} : ∀ {ts : List TypeId} {l : List (DataW H)},(Ly P ts l).all q = true → ∀ (i : Nat) (t : TypeId) (d : DataW H),ts[i]? = some t → l[i]? = some d → (d.weights P t).all q = true
 | [],_,_,i,t,d,ht,_=>by simp at ht
 | _ :: _,[],_,i,t,d,_,hd=>by simp at hd
 | t0 :: ts,x :: l,h,i,t,d,ht,hd=>by
  simp only [Ly,JK,FB] at h
  cases i with
  | zero=>simp at ht hd; subst ht; subst hd; exact h.1
  | succ i=>exact ei h.2 i t d (by simpa using ht) (by simpa using hd)
end
section
variable {w : World} {av : Nat → Prop} {P : Program}
theorem AI {ts : List TypeId} (hts : xm P ts = true) {t : TypeId} (ht : t ∈ ts) : (match P.underlying t with
 | some .bool | some (.int _) | some .string=>true
 | some (.slice e)=>ts.contains e && decide (0 < P.cellsOf e)
 | some (.struct fs)=>cF P fs.toList 0 (P.cellsOf t) && fs.toList.all fun f=>ts.contains f.type
 | _=>false) = true:=FZ.1 hts t ht
end
theorem uh (k : Nat) : ¬ avs (fun _=>False) (fun _=>none) [] k:=fun ho=>ho.elim id (fun h=>absurd h ci)
open Go Go.RowKit Go.ChangeShapes Go.WideShapes
section
variable {H : Type} {enc : TypeId × Value → H} {P : Program}
theorem ir (hl : laidOutB P = true) {W W' : World} (hb : Below W.heap.size W W') : ∀ {ts : List TypeId} {vs : List Value} {ds : List (DataW H)} {ps : List MemPlace},
  (ts.all fun t=>P.readableRec t && decide (t < P.types.size)) = true → DataW.TrodAll enc P W 0 (fun _=>true) true ts vs ds ps → (∀ x ∈ ps,x.block < W.heap.size) →
  DataW.TrodAll enc P W' 0 (fun b=>decide (b < W.heap.size)) true ts vs ds ps
 | [],vs,ds,ps,_,h,_=>by
  obtain ⟨rfl,rfl,rfl⟩:=trodAll_nil h
  rfl
 | t :: ts,vs,ds,ps,ht,h,hps=>by
  obtain ⟨v,vs',d,ds',p,q,rfl,rfl,rfl,h1,h2⟩:=trodAll_cons h
  simp only [List.all_cons,FB,decide_eq_true_eq] at ht
  refine ⟨p,q,Below.trod hl ht.1.1 ht.1.2 h1 hb (fun x hx=>hps x (List.mem_append_left _ hx)),ir hl hb (by simpa using ht.2) h2 (fun x hx=>hps x (List.mem_append_right _ hx)),rfl⟩
theorem xn {f : Func} {s : ChangeSpec} {apart : Bool} {W W' : World} {args : Array Value} {ds gs : List (DataW H)} {before : List MemPlace} {b : TypeId}
  (hl : laidOutB P = true) (hp : (f.params.toList.all fun t=>P.readableRec t && decide (t < P.types.size)) = true) (hv : s.vars = []) (hr : f.resultTypes = #[b]) (hbt : P.underlying b = some .bool)
  (hW : DataW.Whole enc P f.params.toList s.vars apart W args.toList ds gs before) (hs : s.fn H ds = { results:=[.lit (.bool true)],args:=ds }) (hb : Below W.heap.size W W') :
  s.post enc P f apart true false false W args (.bool true) W':=by
 have hW':=hW
 have hlt:=hW.lt
 obtain ⟨p,q,hA,hV,rfl,_,_⟩:=hW
 rw [hv] at hV
 obtain ⟨rfl,rfl⟩:=trodVars_none hV
 refine ⟨ds,[],p ++ [],[],p,[],hW',?_,?_,?_,hb.frame _,fun h=>by cases h⟩
 ·simp only [I5,hs,hr,Value.resultList]
  exact ⟨[],[],⟨1,by simp [DataW.trod,Value.cells,hbt]⟩,rfl,rfl⟩
 ·simp only [I5,hs]
  exact ir hl hb hp hA (fun x hx=>hlt x (by simpa using hx))
 ·simp only [I5,hs,hv]
  rfl
end
end Go.Vi
namespace Go.Vi
open Go Go.RowKit
theorem vr {Γ : ap} {w : World} (hg : ∀ g cs,Γ g = some cs → RelCells w (avs (fun _=>False) (fun _=>none) []) g 0 cs) : Rep Γ (fun _=>False) w (fun _=>none) [] :=
 ⟨fun blk ho=>absurd ho ci,fun blk ho=>ho.elim,fun b b' x x' k c c' hb=>by simp at hb,fun b x hb=>by simp at hb,hg⟩
theorem xp {P : Program} {Γ : ap} {f : FuncId} {args : List D} {d : D} {W : World} {vs : List Value} (hg : ∀ g cs,Γ g = some cs → RelCells W (avs (fun _=>False) (fun _=>none) []) g 0 cs) (he : Ev P Γ f args [] d []) (hr : RelL W (avs (fun _=>False) (fun _=>none) []) (fun _=>none) [] args vs) :
  Calls P f vs.toArray W fun e W'=>∃ v,e = .returned v ∧ Rel W' (fun _=>False) (fun _=>none) [] d v ∧ Go.RowKit.Below W.heap.size W W':=by
 have h1:=he (fun _=>False) W (fun _=>none) vs (vr hg) hr
 refine (callsIn_wide (n:=0)).1 (HN (h1 : CallsIn (FW none) 0 P f _ W _) ?_)
 rintro e W' ⟨v,d2,h2,l',rfl,⟨rfl,rfl⟩,R',E',rd⟩
 refine ⟨v,rfl,Rel.mono (fun blk off y hn hc=>⟨hc,fun h=>h.elim⟩) (fun b x hb=>by simp at hb) d2 v rd,?_⟩
 exact ⟨E'.tape.2.1,E'.tape.1,E'.tape.2.2.1,E'.size,fun k hk=>E'.same k hk ci⟩
end Go.Vi
