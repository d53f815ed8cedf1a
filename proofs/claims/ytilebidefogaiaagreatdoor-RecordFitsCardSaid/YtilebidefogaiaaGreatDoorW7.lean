/- RecordFits: part of the proof: contracts of the functions that the law reaches, and the law. No conditions beyond the given statement's own. -/
import Derived.Test.YtilebidefogaiaaGreatDoorW6
import Derived.Test.YtilebidefogaiaaGreatDoorCards
import Derived.Test.YtilebidefogaiaaGreatDoorTie
import Derived.WalkKit
import Derived.ProofKit
import Derived.OpenShut
import Derived.Deep.DeepHandedRow
import Derived.Lib.LaidTab
import Derived.LaidHandle
open Bool renaming or_eq_true → FL, and_eq_true → Dl
open List renaming pairwise_mergeSort → GI, mergeSort_perm → FE, map_cons → En, mem_cons → D2, mem_cons_of_mem → Eg, mem_cons_self → Ed, mem_map → DL, foldl_cons → Ex, length → Dh, length_map → EW, length_cons → DZ, map → De, length_nil → Fp, foldl → DJ, range → Ef, getD → DS, replicate → DQ, length_append → E7, forall_mem_cons → Er, mapM_cons → H7, drop_drop → Hd, take_append_drop → Ii
open Go.Proofs.Tryz renaming prog → Dg, underlying111 → IU, underlying30 → Hl
open Go.Vi.AttT renaming row → Dk
open Go.Vi.SeenT renaming row → Ez
open Go.Vi.CourseT renaming row → Dt
open Go.Vi.SysT renaming row → Dw
open Go.Vi.FactT renaming row → Ds
open Go.Vi.Ev renaming castH → Dv, sym0 → DR, glob0 → DW, frameX → FD
open Go.Vi.D renaming tup → Em, agg → EB, mapRL → D6, mapR → DC
open Go.Vi.WorldT renaming l → DY
open Go.Exit renaming exit → Ea, ret → EY
open Go.IntKind renaming i64 → Dj, wrap → Dr
open Option.some renaming injEq → Df
open Go.Vi.Memo renaming okW_of → Gv
open Go.Proofs.YtilebidefogaiaaGreatDoor.Rows renaming laid_sizar_rules_kinds → FF
open Go.Value renaming okWide → Hh
open Option renaming bind_eq_bind → Ih, bind_eq_some_iff → FO, map_eq_some_iff → Dq
open Go.DataW renaming trod → Gu
open Prod.mk renaming injEq → Di
open Go.DataW.agg renaming injEq → Iw
open Go Go.Proofs
namespace Go.Vi
set_option maxRecDepth 100000
set_option maxHeartbeats 4000000
theorem lr (a b : SeenT) : leS a b = true ↔ a.course ≤ b.course := by
 unfold leS
 rw [Bool.not_eq_true', ol]; omega
theorem lu (a b c : SeenT) (h1 : leS a b = true) (h2 : leS b c = true) : leS a c = true := by rw [lr] at *; omega
theorem lv (a b : SeenT) : (leS a b || leS b a) = true := by
 rw [FL, lr, lr]; omega
def Cp (l : List SeenT) : Prop := ∀ x ∈ l, ∀ y ∈ l, x.course = y.course → x = y
theorem uB {l l' : List SeenT} (hp : l.Perm l') (hd : Cp l') : l.mergeSort leS = l'.mergeSort leS := by
 refine List.Perm.eq_of_pairwise (le := fun a b => leS a b = true) ?_ (GI lu lv _) (GI lu lv _) ((FE _ _).trans (hp.trans (FE _ _).symm))
 intro a b ha hb h1 h2
 have ha' : a ∈ l' := hp.mem_iff.1 (by simpa using ha)
 have hb' : b ∈ l' := by simpa using hb
 rw [lr] at h1 h2
 exact hd a ha' b hb' (by omega)
def SmOk (m : SM) : Prop := (m.map (·.1)).Nodup ∧ ∀ e ∈ m, e.2.course = e.1
theorem jd (m : SM) (k : Int) (v : SeenT) : (b7 m k v).map (·.1) = if k ∈ m.map (·.1) then m.map (·.1) else m.map (·.1) ++ [k] := by
 induction m with
 | nil => simp [b7]
 | cons e m ih =>
  obtain ⟨a, x⟩ := e
  unfold b7
  by_cases h : a = k
  ·subst h; simp
  ·have h' : ¬ k = a := fun e => h e.symm
   simp only [h, if_false, En, ih, D2, h', false_or]
   split <;> simp
theorem smPut_mem {m : SM} {k : Int} {v : SeenT} {e : Int × SeenT} (h : e ∈ b7 m k v) : e = (k, v) ∨ e ∈ m := by
 induction m with
 | nil => simp [b7] at h; exact .inl h
 | cons a m ih =>
  obtain ⟨a, x⟩ := a
  unfold b7 at h
  split at h
  ·rcases D2.1 h with h | h
   ·exact .inl h
   ·exact .inr (Eg _ h)
  ·rcases D2.1 h with h | h
   ·exact .inr (h ▸ Ed ..)
   ·exact (ih h).imp id (Eg _)
theorem SmOk.put {m : SM} (h : SmOk m) {k : Int} {v : SeenT} (hv : v.course = k) : SmOk (b7 m k v) := by
 refine ⟨?_, fun e he => ?_⟩
 ·rw [jd]
  split
  ·exact h.1
  ·rename_i hk
   rw [List.nodup_append]
   refine ⟨h.1, by simp, fun a ha b hb => ?_⟩
   simp at hb; subst hb
   exact fun e => hk (e ▸ ha)
 ·rcases smPut_mem he with rfl | he
  ·exact hv
  ·exact h.2 e he
theorem SmOk.dist {m : SM} (h : SmOk m) : Cp (smV m) := by
 intro x hx y hy hxy
 obtain ⟨⟨k, s⟩, he, rfl⟩ := DL.1 hx
 obtain ⟨⟨k', s'⟩, he', rfl⟩ := DL.1 hy
 have h1 := h.2 _ he
 have h2 := h.2 _ he'
 simp only at h1 h2 hxy
 have hk : k = k' := by rw [← h1, ← h2, hxy]
 subst hk
 have key : ∀ (m : SM), (m.map (·.1)).Nodup → (k, s) ∈ m → (k, s') ∈ m → s = s' := by
  intro m
  induction m with
  | nil => intro _ h; simp at h
  | cons a m ih =>
   intro hn ha hb
   simp only [En, List.nodup_cons] at hn
   rcases D2.1 ha with rfl | ha2
   ·rcases D2.1 hb with hb | hb
    ·cases hb; rfl
    ·exact absurd (show k ∈ m.map (·.1) from DL.2 ⟨(k, s'), hb, rfl⟩) hn.1
   ·rcases D2.1 hb with rfl | hb2
    ·exact absurd (show k ∈ m.map (·.1) from DL.2 ⟨(k, s), ha2, rfl⟩) hn.1
    ·exact ih hn.2 ha2 hb2
 exact key m h.1 he he'
theorem qz {m1 m2 : IM} : ∀ (l : List Int) (x : SeenT), (l.foldl (xF m1 m2) x).course = x.course
 | [], _ => rfl
 | c :: l, x => by
  rw [Ex, qz l]
  unfold xF
  cases decide (gI m1 c > 0) <;> rfl
theorem w8 {w : WorldT} {known term : Int} {m1 m2 : IM} : ∀ (ns : List Int) (s : RSM), SmOk s.2 → SmOk (ns.foldl (nbF w known term m1 m2) s).2 ∧ (ns.foldl (nbF w known term m1 m2) s).2.length ≤ s.2.length + ns.length
 | [], s, h => ⟨h, by simp⟩
 | n :: ns, s, h => by
  have h1 : SmOk (nbF w known term m1 m2 s n).2 := by
   unfold nbF
   cases decide ((seenOf w known term m1 m2 s.2 n).tries > 0)
   ·exact h
   ·exact h.put (qz _ _)
  have h2 : (nbF w known term m1 m2 s n).2.length ≤ s.2.length + 1 := by
   unfold nbF
   cases decide ((seenOf w known term m1 m2 s.2 n).tries > 0)
   ·simp
   ·have := congrArg Dh (jd s.2 n (seenOf w known term m1 m2 s.2 n))
    simp only [EW] at this
    simp only [cond_true]
    rw [this]
    split <;> simp
  have h3 := w8 (w := w) (known := known) (term := term) (m1 := m1) (m2 := m2) ns _ h1
  refine ⟨h3.1, ?_⟩
  have := h3.2
  simp only [Ex, DZ]
  omega
theorem tA : ∀ (now : List Int) (s : Int × SM) {s' : Int × SM}, SmOk s.2 → forL snF now s = .inl s' → SmOk s'.2 ∧ s'.2.length ≤ s.2.length + now.length
 | [], s, s', h, he => by simp only [forL, Sum.inl.injEq] at he; subst he; exact ⟨h, by simp⟩
 | c :: now, s, s', h, he => by
  simp only [forL, snF] at he
  cases hk : Ab s.1 c <;> rw [hk] at he
  ·simp at he
  ·simp only [cond_true] at he
   have h3 := tA now _ (h.put (k := c) (v := ⟨c, 0, -1, true⟩) rfl) he
   have := congrArg Dh (jd s.2 c ⟨c, 0, -1, true⟩)
   simp only [EW] at this
   refine ⟨h3.1, ?_⟩
   have h4 := h3.2
   simp only [DZ] at h4 ⊢
   have h5 : (b7 s.2 c ⟨c, 0, -1, true⟩).length ≤ s.2.length + 1 := by rw [this]; split <;> simp
   omega
def sitX (la : List AttT) : Unit ⊕ Int := if (bG la).2 != 0 then .inr (bG la).2 else if (bR la).2.2 != 0 then .inr (bR la).2.2 else .inl ()
def uC (w : WorldT) (rs : List ReadT) (la : List AttT) (l : List SeenT) : Exit × AS := cG .ret (fun _ : Unit => pwE w rs la l) (fun e : Int => (.ret, pwX w e)) (sitX la)
theorem w9 (w : WorldT) (rs : List ReadT) (la : List AttT) (l : List SeenT) : (uC w rs la l).1 = .ret := by
 unfold uC; cases sitX la <;> rfl
theorem Cq {w : WorldT} {known st : Int} {sm : SM} {rs : List ReadT} {la : List AttT} {as_ : List (List Dp)} {m1 m2 : IM} (hla : al la) (hok : SmOk sm) (hsm : sm.length ≤ 1000000) :
  CW Dg Γk [] false (rq (iW Tryz.f19) 4) (nbE w known st sm rs (la.map Dk) as_ m1 m2) (uC w rs la (smV sm)).1 (uC w rs la (smV sm)).2 := by
 rw [w9]
 refine Cn hsm fun l bs hp => ?_
 have hd : Cp l := fun x hx y hy => hok.dist x (hp.mem_iff.1 hx) y (hp.mem_iff.1 hy)
 have hl : l.length < 4611686018427387904 := by
  have := hp.length_eq
  simp only [smV, EW] at this
  omega
 have hs := uB hp hok.dist
 unfold uC sitX
 cases h1 : ((bG la).2 != 0)
 ·cases h2 : ((bR la).2.2 != 0)
  ·have := pw_c (w := w) (known := known) (st := st) (sm := sm) (rs := rs) hla (as_ := as_) (m1 := m1) (m2 := m2) (bs := bs) hl hd h1 h2
   rw [pwE, hs] at this
   exact this
  ·exact pw_b (w := w) (known := known) (st := st) (sm := sm) (rs := rs) hla (as_ := as_) (m1 := m1) (m2 := m2) (bs := bs) hl hd h1 h2
 ·exact pw_a (w := w) (known := known) (st := st) (sm := sm) (rs := rs) hla (as_ := as_) (m1 := m1) (m2 := m2) (bs := bs) hl hd h1
def m9 (e : Int) : D := .tup [.agg [dt, int 0, int 0, int 0], dt, int e]
def sitOk (seen : List SeenT) (earned n d : Int) (rs : List ReadT) : D := .tup [.agg [ab (seen.map Ez), int earned, int n, int d], ab (rdR rs), int 0]
noncomputable abbrev na (w : WorldT) : List Blk := [.var [ab (De Dt w.c), ab w.p, ab (De Dw w.s), ab (De Ds w.f)], .var [nq, int 0, int 0, int 0]]
theorem Cr {w : WorldT} {st term known : Int} {now : List Int} (hb : (!(decide (st ≥ 0) && decide (st ≤ 19999)) || !(decide (term ≥ 0) && decide (term ≤ 1023))) = true) (h : List Blk) : (Ev Dg Γk 19 [.agg w.l, int st, int term, int known, ab (now.map fun n => [vi n])] h (m9 150) h) := by
 exact Dv (DR (d := Em [EB [nq, int 0, int 0, int 0], nq, int 150]) pok [.val (bool (decide (st ≥ 0) && decide (st ≤ 19999))), .val (bool (decide (term ≥ 0) && decide (term ≤ 1023))), .b true] (by kernel_rfl) (.c (DW (Γ' := Γk) (@aO st 0 19999 (na w))) (.c (gd (!!(decide (st ≥ 0) && decide (st ≤ 19999))) (DW (Γ' := Γk) (@aO term 0 1023 (na w)))) (.c hb .n))) rfl rfl h) (by rfl) (by rfl)
def ox (w : WorldT) (known term : Int) (aa : List AttT) (rs : List ReadT) (sm : SM) : RSM := (ah w.f known).foldl (nbF w known term (aH aa).1 (aH aa).2) (rs, sm)
def tB (w : WorldT) (known term : Int) (now : List Int) (rr qq : List ReadT) (aa la : List AttT) (ee : Int) : D := match snR now with
 | .inr _ => m9 150
 | .inl s => match (ee != 0) with
  | true => m9 ee
  | false => match sitX la with
   | .inr e => m9 e
   | .inl _ => sitOk ((smV (ox w known term aa (rr ++ qq ++ [rdN]) s.2).2).mergeSort leS) (mnI (bG la).1 10000) (bR la).1 (bR la).2.1 (ox w known term aa (rr ++ qq ++ [rdN]) s.2).1
theorem bE {w : WorldT} {known term : Int} {m1 m2 : IM} {ns : List Int} {rs : List ReadT} {now : List Int} {s : Int × SM} (h : snR now = .inl s) : SmOk (ns.foldl (nbF w known term m1 m2) (rs, s.2)).2 :=
 (w8 ns (rs, s.2) (tA now (-1, []) ⟨by simp, by simp⟩ h).1).1
theorem bF {w : WorldT} {known term : Int} {m1 m2 : IM} {ns : List Int} {rs : List ReadT} {now : List Int} {s : Int × SM} (hn : now.length ≤ 1000) (hs : ns.length ≤ 1000) (h : snR now = .inl s) : (ns.foldl (nbF w known term m1 m2) (rs, s.2)).2.length ≤ 1000000 := by
 have h1 := (w8 (w := w) (known := known) (term := term) (m1 := m1) (m2 := m2) ns (rs, s.2) (tA now (-1, []) ⟨by simp, by simp⟩ h).1).2
 have h2 := (tA now (-1, []) ⟨by simp, by simp⟩ h).2
 simp only [Fp, Nat.zero_add] at h1 h2
 omega
noncomputable abbrev c9 (w : WorldT) : List Blk := [.var [ab (De Dt w.c), ab w.p, ab (De Dw w.s), ab (De Ds w.f)], .var [nq, int 0, int 0, int 0]]
theorem sit_a {w : WorldT} (hw : w.ok) {st term known : Int} {now : List Int} (hn : now.length ≤ 1000) (hl : al now) (hN : (ah w.f known).length ≤ 100) (hN2 : (ah w.f known).length ≤ 1000) {rr qq : List ReadT} {aa la : List AttT} {ee : Int} (haa : al aa) (hla : al la) (hrs : (rr ++ qq ++ [rdN]).length ≤ 800000000) (hrq : (rr ++ qq).length ≤ 999999000)
  (hof : Ev Dg Γk 60 [.ref (.ptr 0 0), int st, int term] (lkH w known [] 0) (.agg [int st, ab (aa.map Dk)]) (lkH w known rr 1)) (hcnt : Ev Dg Γk 61 [.ref (.ptr 0 0), ab (aa.map Dk), int term] (lkH w known rr 0) (.tup [ab (la.map Dk), int ee]) (lkH w known (rr ++ qq) 1))
  (hb : (!(decide (st ≥ 0) && decide (st ≤ 19999)) || !(decide (term ≥ 0) && decide (term ≤ 1023))) = false) (h : List Blk) : (Ev Dg Γk 19 [.agg w.l, int st, int term, int known, ab (now.map fun n => [vi n])] h (tB w known term now rr qq aa la ee) h) := by
 have hl0 := (@sn_cw (w) (st) (term) (known) (now) (hl))
 unfold BZ at hl0
 revert hl0
 cases ho1 : snR now with
 | inl o1_0_0 =>
  intro hl0
  cases hc2 : ee != 0
  ·have hl3 := (@st_cw (w) (known) (st) (term) (o1_0_0.snd) (rr ++ qq) (De Dk la) (aa) (haa))
   have hl4 := (@nb_cw (w) (hw) (known) (st) (term) (hN) (o1_0_0.snd) (rr ++ qq ++ [rdN]) (hrs) (De Dk la) (De Dk aa) ((aH aa).fst) ((aH aa).snd))
   have hl5 := (@Cq (w) (known) (st) ((DJ (nbF w known term (aH aa).fst (aH aa).snd) (rr ++ qq ++ [rdN], o1_0_0.snd) (ah w.f known)).snd) ((DJ (nbF w known term (aH aa).fst (aH aa).snd) (rr ++ qq ++ [rdN], o1_0_0.snd) (ah w.f known)).fst) (la) (De Dk aa) ((aH aa).fst) ((aH aa).snd) (hla) (by first | assumption | rfl | omega | exact bE (by assumption) | exact bF hn hN2 (by assumption) | exact ae _ _ | exact aG _ _ _ | exact aF _ _ _ | exact aU | exact bB | exact af) (by first | assumption | rfl | omega | exact bE (by assumption) | exact bF hn hN2 (by assumption) | exact ae _ _ | exact aG _ _ _ | exact aF _ _ _ | exact aU | exact bB | exact af))
   unfold uC at hl5
   revert hl5
   cases ho6 : sitX la with
   | inl o6_0_0 =>
    intro hl5
    let v0 : List D := [.ref (.vec 4 0), ab (De Dt w.c), ab w.p, ab (De Dw w.s), ab (De Ds w.f), int known]
    let v1 := DJ (nbF w known term (aH aa).fst (aH aa).snd) (rr ++ qq ++ [rdN], o1_0_0.snd) (ah w.f known)
    let v2 : List D := [.ref (.vec 4 1), ab (De Dt w.c), ab w.p, ab (De Dw w.s), ab (De Ds w.f), int known]
    let v4 : List D := [int st, ab (De Dk aa)]
    let v3 : List Blk := [.var (DY w), .var [nq, int 0, int 0, int 0], .map (aQ 0 o1_0_0.snd) (Dh o1_0_0.snd), .var v0, .vec (ai (rdR (rr ++ qq))) 0 5, .var v4, .map (aq 0 (aH aa).fst) (Dh (aH aa).fst), .map (aq 0 (aH aa).snd) (Dh (aH aa).snd)]
    let v5 : List Blk := [.var (DY w), .var [nq, int 0, int 0, int 0], .map (aQ 0 o1_0_0.snd) (Dh o1_0_0.snd), .var v2, .vec (ai (rdR (rr ++ qq ++ [rdN]))) 1 5, .var v4, .map (aq 0 (aH aa).fst) (Dh (aH aa).fst), .map (aq 0 (aH aa).snd) (Dh (aH aa).snd)]
    let v6 : List Blk := [.var (DY w), .var [nq, int 0, int 0, int 0], .map (aQ 0 o1_0_0.snd) (Dh o1_0_0.snd), .var v2, .vec (ai (rdR (rr ++ qq))) 1 5, .var v4]
    let v7 : List Blk := [.var (DY w), .var [nq, int 0, int 0, int 0], .map (aQ 0 o1_0_0.snd) (Dh o1_0_0.snd), .var v0, .vec (ai (rdR rr)) 0 5, .var v4]
    let v8 : List D := [ab (De Ez (List.mergeSort (smV v1.snd) leS)), int (mnI (bG la).fst 10000), int (bR la).fst, int (bR la).snd.fst]
    let v9 : List Blk := [.var (DY w), .var [nq, int 0, int 0, int 0], .map (aQ 0 o1_0_0.snd) (Dh o1_0_0.snd), .var v2, .vec (ai (rdR rr)) 1 5]
    let v10 : List Blk := [.var (DY w), .var [nq, int 0, int 0, int 0], .map (aQ 0 o1_0_0.snd) (Dh o1_0_0.snd), .var v0, .vec [] 0 5]
    refine Dv (DR (d := Em [EB v8, ab (rdR v1.fst), int 0]) pok [.val (bool (decide (st ≥ 0) && decide (st ≤ 19999))), .val (bool (decide (term ≥ 0) && decide (term ≤ 1023))), .b false, .sum [1, 2, 3, 5, 10, 11, 12, 13, 14, 42, 43, 44] (Ea 0) { t := mkT 190 0 [(1, int st), (2, int term), (3, int known), (5, .ref (.ptr 0 0)), (10, .ref (.ptr 1 0)), (11, nq), (12, int 0), (13, .ref (.mp 2))], h := [.var (DY w), .var [nq, int 0, int 0, int 0], .map (aQ 0 o1_0_0.snd) (Dh o1_0_0.snd)], m := [] }, .nx 1, .st (.nilC 3 0 5), .call (EB v4) v9, .st (.ren 4 0), .call (Em [ab (De Dk la), int ee]) v6, .b false, .st (.ren 4 0), .sum [2, 10, 11, 13, 17, 19, 20, 21, 80, 81, 82] (Ea 2) { t := mkT 190 0 [(2, int term), (10, .ref (.ptr 1 0)), (11, nq), (13, .ref (.mp 2)), (17, .ref (.ptr 3 0)), (19, ab (De Dk la)), (20, .ref (.mp 6)), (21, .ref (.mp 7))], h := v3, m := [] }, .call (ab (De (fun n => [vi n]) (ah w.f known))) v5, .st (.ren 4 0), .sum [2, 10, 11, 13, 17, 19, 20, 21, 102, 103, 104] (Ea 4) { t := mkT 190 0 [(10, .ref (.ptr 1 0)), (11, nq), (13, .ref (.mp 2)), (17, .ref (.ptr 3 0)), (19, ab (De Dk la))], h := [.var (DY w), .var [nq, int 0, int 0, int 0], .map (aQ 0 v1.snd) (Dh v1.snd), .var v0, .vec (ai (rdR v1.fst)) 0 5, .var v4, .map (aq 0 (aH aa).fst) (Dh (aH aa).fst), .map (aq 0 (aH aa).snd) (Dh (aH aa).snd)], m := [] }, .ssum [10, 11, 13, 17, 19] EY { t := mkT 190 0 [(10, .ref (.ptr 1 0)), (11, ab (rdR v1.fst)), (12, int 0)], h := [.var (DY w), .var v8] }] (by kernel_rfl) (.c (DW (Γ' := Γk) (@aO st 0 19999 (c9 w))) (.c (gd (!!(decide (st ≥ 0) && decide (st ≤ 19999))) (DW (Γ' := Γk) (@aO term 0 1023 (c9 w)))) (.c hb (.c hl0 (.c (show Ev Dg Γk 60 [.ref (.ptr 3 0), int st, int term] v10 (EB v4) v9 from (Dv (FD (args := [.ref (.ptr 3 0), int st, int term]) (H := v10) [3, 4] (@hof) (by kernel_rfl) (by kernel_rfl) (by kernel_rfl) ⟨(by subst v0 v1 v2 v4 v3 v5 v6 v7 v8 v9 v10; first | rfl | exact ak _ _ | first | assumption | rfl | omega | exact bE (by subst v0 v1 v2 v4 v3 v5 v6 v7 v8 v9 v10; assumption) | exact bF hn hN2 (by subst v0 v1 v2 v4 v3 v5 v6 v7 v8 v9 v10; assumption) | exact ae _ _ | exact aG _ _ _ | exact aF _ _ _ | exact aU | exact bB | exact af), trivial⟩ ⟨(by subst v0 v1 v2 v4 v3 v5 v6 v7 v8 v9 v10; first | rfl | exact ak _ _ | first | assumption | rfl | omega | exact bE (by subst v0 v1 v2 v4 v3 v5 v6 v7 v8 v9 v10; assumption) | exact bF hn hN2 (by subst v0 v1 v2 v4 v3 v5 v6 v7 v8 v9 v10; assumption) | exact ae _ _ | exact aG _ _ _ | exact aF _ _ _ | exact aU | exact bB | exact af), trivial⟩) (by kernel_rfl) (by kernel_rfl))) (.c (show De (D6 (au 4 1 0)) (ai (rdR rr)) = ai (rdR rr) from ?_) (.c (show De (fun e => (DC (au 4 1 0) e.fst, DC (au 4 1 0) e.snd.fst, e.snd.snd)) (aQ 0 o1_0_0.snd) = aQ 0 o1_0_0.snd from ?_) (.c (show Ev Dg Γk 61 [.ref (.ptr 3 0), ab (De Dk aa), int term] v7 (Em [ab (De Dk la), int ee]) v6 from (Dv (FD (args := [.ref (.ptr 3 0), ab (De Dk aa), int term]) (H := v7) [3, 4] (@hcnt) (by kernel_rfl) (by kernel_rfl) (by kernel_rfl) ⟨(by subst v0 v1 v2 v4 v3 v5 v6 v7 v8 v9 v10; first | rfl | exact ak _ _ | first | assumption | rfl | omega | exact bE (by subst v0 v1 v2 v4 v3 v5 v6 v7 v8 v9 v10; assumption) | exact bF hn hN2 (by subst v0 v1 v2 v4 v3 v5 v6 v7 v8 v9 v10; assumption) | exact ae _ _ | exact aG _ _ _ | exact aF _ _ _ | exact aU | exact bB | exact af), trivial⟩ ⟨(by subst v0 v1 v2 v4 v3 v5 v6 v7 v8 v9 v10; first | rfl | exact ak _ _ | first | assumption | rfl | omega | exact bE (by subst v0 v1 v2 v4 v3 v5 v6 v7 v8 v9 v10; assumption) | exact bF hn hN2 (by subst v0 v1 v2 v4 v3 v5 v6 v7 v8 v9 v10; assumption) | exact ae _ _ | exact aG _ _ _ | exact aF _ _ _ | exact aU | exact bB | exact af), trivial⟩) (by kernel_rfl) (by kernel_rfl))) (.c hc2 (.c (show De (D6 (au 4 1 0)) (ai (rdR (rr ++ qq))) = ai (rdR (rr ++ qq)) from ?_) (.c (show De (fun e => (DC (au 4 1 0) e.fst, DC (au 4 1 0) e.snd.fst, e.snd.snd)) (aQ 0 o1_0_0.snd) = aQ 0 o1_0_0.snd from ?_) (.c hl3 (.c (show Ev Dg Γk 62 [.ref (.ptr 3 0)] v3 (ab (De (fun n => [vi n]) (ah w.f known))) v5 from (Dv (FD (args := [.ref (.ptr 3 0)]) (H := v3) [3, 4] (@og w hw known (rr ++ qq) hrq) (by kernel_rfl) (by kernel_rfl) (by kernel_rfl) ⟨(by subst v0 v1 v2 v4 v3 v5 v6 v7 v8 v9 v10; first | rfl | exact ak _ _ | first | assumption | rfl | omega | exact bE (by subst v0 v1 v2 v4 v3 v5 v6 v7 v8 v9 v10; assumption) | exact bF hn hN2 (by subst v0 v1 v2 v4 v3 v5 v6 v7 v8 v9 v10; assumption) | exact ae _ _ | exact aG _ _ _ | exact aF _ _ _ | exact aU | exact bB | exact af), trivial⟩ ⟨(by subst v0 v1 v2 v4 v3 v5 v6 v7 v8 v9 v10; first | rfl | exact ak _ _ | first | assumption | rfl | omega | exact bE (by subst v0 v1 v2 v4 v3 v5 v6 v7 v8 v9 v10; assumption) | exact bF hn hN2 (by subst v0 v1 v2 v4 v3 v5 v6 v7 v8 v9 v10; assumption) | exact ae _ _ | exact aG _ _ _ | exact aF _ _ _ | exact aU | exact bB | exact af), trivial⟩) (by kernel_rfl) (by kernel_rfl))) (.c (show De (D6 (au 4 1 0)) (ai (rdR (rr ++ qq ++ [rdN]))) = ai (rdR (rr ++ qq ++ [rdN])) from ?_) (.c (show De (fun e => (DC (au 4 1 0) e.fst, DC (au 4 1 0) e.snd.fst, e.snd.snd)) (aQ 0 o1_0_0.snd) = aQ 0 o1_0_0.snd from ?_) (.c (show De (fun e => (DC (au 4 1 0) e.fst, DC (au 4 1 0) e.snd.fst, e.snd.snd)) (aq 0 (aH aa).fst) = aq 0 (aH aa).fst from ?_) (.c (show De (fun e => (DC (au 4 1 0) e.fst, DC (au 4 1 0) e.snd.fst, e.snd.snd)) (aq 0 (aH aa).snd) = aq 0 (aH aa).snd from ?_) (.c hl4 (.c hl5 .n))))))))))))))))))) rfl rfl h) (by subst v0 v1 v2 v4 v3 v5 v6 v7 v8 v9 v10; first | (simp only [tB, ho1, hc2, ho6]; first | done | rfl) | (simp_all [tB]; done)) (by rfl) <;> subst v0 v1 v2 v4 v3 v5 v6 v7 v8 v9 v10 <;> (first | assumption | rfl | omega | exact bE (by assumption) | exact bF hn hN2 (by assumption) | exact ae _ _ | exact aG _ _ _ | exact aF _ _ _ | exact aU | exact bB | exact af)
   | inr o6_1_0 =>
    intro hl5
    let v0 : List D := [.ref (.vec 4 0), ab (De Dt w.c), ab w.p, ab (De Dw w.s), ab (De Ds w.f), int known]
    let v1 : List D := [.ref (.vec 4 1), ab (De Dt w.c), ab w.p, ab (De Dw w.s), ab (De Ds w.f), int known]
    let v3 : List D := [int st, ab (De Dk aa)]
    let v2 : List Blk := [.var (DY w), .var [nq, int 0, int 0, int 0], .map (aQ 0 o1_0_0.snd) (Dh o1_0_0.snd), .var v0, .vec (ai (rdR (rr ++ qq))) 0 5, .var v3, .map (aq 0 (aH aa).fst) (Dh (aH aa).fst), .map (aq 0 (aH aa).snd) (Dh (aH aa).snd)]
    let v4 : List Blk := [.var (DY w), .var [nq, int 0, int 0, int 0], .map (aQ 0 o1_0_0.snd) (Dh o1_0_0.snd), .var v1, .vec (ai (rdR (rr ++ qq ++ [rdN]))) 1 5, .var v3, .map (aq 0 (aH aa).fst) (Dh (aH aa).fst), .map (aq 0 (aH aa).snd) (Dh (aH aa).snd)]
    let v5 := DJ (nbF w known term (aH aa).fst (aH aa).snd) (rr ++ qq ++ [rdN], o1_0_0.snd) (ah w.f known)
    let v6 : List Blk := [.var (DY w), .var [nq, int 0, int 0, int 0], .map (aQ 0 o1_0_0.snd) (Dh o1_0_0.snd), .var v1, .vec (ai (rdR (rr ++ qq))) 1 5, .var v3]
    let v7 : List Blk := [.var (DY w), .var [nq, int 0, int 0, int 0], .map (aQ 0 o1_0_0.snd) (Dh o1_0_0.snd), .var v0, .vec (ai (rdR rr)) 0 5, .var v3]
    let v8 : List Blk := [.var (DY w), .var [nq, int 0, int 0, int 0], .map (aQ 0 o1_0_0.snd) (Dh o1_0_0.snd), .var v1, .vec (ai (rdR rr)) 1 5]
    let v9 : List Blk := [.var (DY w), .var [nq, int 0, int 0, int 0], .map (aQ 0 o1_0_0.snd) (Dh o1_0_0.snd), .var v0, .vec [] 0 5]
    refine Dv (DR (d := Em [EB [nq, int 0, int 0, int 0], nq, int o6_1_0]) pok [.val (bool (decide (st ≥ 0) && decide (st ≤ 19999))), .val (bool (decide (term ≥ 0) && decide (term ≤ 1023))), .b false, .sum [1, 2, 3, 5, 10, 11, 12, 13, 14, 42, 43, 44] (Ea 0) { t := mkT 190 0 [(1, int st), (2, int term), (3, int known), (5, .ref (.ptr 0 0)), (10, .ref (.ptr 1 0)), (11, nq), (12, int 0), (13, .ref (.mp 2))], h := [.var (DY w), .var [nq, int 0, int 0, int 0], .map (aQ 0 o1_0_0.snd) (Dh o1_0_0.snd)], m := [] }, .nx 1, .st (.nilC 3 0 5), .call (EB v3) v8, .st (.ren 4 0), .call (Em [ab (De Dk la), int ee]) v6, .b false, .st (.ren 4 0), .sum [2, 10, 11, 13, 17, 19, 20, 21, 80, 81, 82] (Ea 2) { t := mkT 190 0 [(2, int term), (10, .ref (.ptr 1 0)), (11, nq), (13, .ref (.mp 2)), (17, .ref (.ptr 3 0)), (19, ab (De Dk la)), (20, .ref (.mp 6)), (21, .ref (.mp 7))], h := v2, m := [] }, .call (ab (De (fun n => [vi n]) (ah w.f known))) v4, .st (.ren 4 0), .sum [2, 10, 11, 13, 17, 19, 20, 21, 102, 103, 104] (Ea 4) { t := mkT 190 0 [(10, .ref (.ptr 1 0)), (11, nq), (13, .ref (.mp 2)), (17, .ref (.ptr 3 0)), (19, ab (De Dk la))], h := [.var (DY w), .var [nq, int 0, int 0, int 0], .map (aQ 0 v5.snd) (Dh v5.snd), .var v0, .vec (ai (rdR v5.fst)) 0 5, .var v3, .map (aq 0 (aH aa).fst) (Dh (aH aa).fst), .map (aq 0 (aH aa).snd) (Dh (aH aa).snd)], m := [] }, .ssum [10, 11, 13, 17, 19] EY { t := mkT 190 0 [(10, .ref (.ptr 1 0)), (11, nq), (12, int o6_1_0)], h := (c9 w) }] (by kernel_rfl) (.c (DW (Γ' := Γk) (@aO st 0 19999 (c9 w))) (.c (gd (!!(decide (st ≥ 0) && decide (st ≤ 19999))) (DW (Γ' := Γk) (@aO term 0 1023 (c9 w)))) (.c hb (.c hl0 (.c (show Ev Dg Γk 60 [.ref (.ptr 3 0), int st, int term] v9 (EB v3) v8 from (Dv (FD (args := [.ref (.ptr 3 0), int st, int term]) (H := v9) [3, 4] (@hof) (by kernel_rfl) (by kernel_rfl) (by kernel_rfl) ⟨(by subst v0 v1 v3 v2 v4 v5 v6 v7 v8 v9; first | rfl | exact ak _ _ | first | assumption | rfl | omega | exact bE (by subst v0 v1 v3 v2 v4 v5 v6 v7 v8 v9; assumption) | exact bF hn hN2 (by subst v0 v1 v3 v2 v4 v5 v6 v7 v8 v9; assumption) | exact ae _ _ | exact aG _ _ _ | exact aF _ _ _ | exact aU | exact bB | exact af), trivial⟩ ⟨(by subst v0 v1 v3 v2 v4 v5 v6 v7 v8 v9; first | rfl | exact ak _ _ | first | assumption | rfl | omega | exact bE (by subst v0 v1 v3 v2 v4 v5 v6 v7 v8 v9; assumption) | exact bF hn hN2 (by subst v0 v1 v3 v2 v4 v5 v6 v7 v8 v9; assumption) | exact ae _ _ | exact aG _ _ _ | exact aF _ _ _ | exact aU | exact bB | exact af), trivial⟩) (by kernel_rfl) (by kernel_rfl))) (.c (show De (D6 (au 4 1 0)) (ai (rdR rr)) = ai (rdR rr) from ?_) (.c (show De (fun e => (DC (au 4 1 0) e.fst, DC (au 4 1 0) e.snd.fst, e.snd.snd)) (aQ 0 o1_0_0.snd) = aQ 0 o1_0_0.snd from ?_) (.c (show Ev Dg Γk 61 [.ref (.ptr 3 0), ab (De Dk aa), int term] v7 (Em [ab (De Dk la), int ee]) v6 from (Dv (FD (args := [.ref (.ptr 3 0), ab (De Dk aa), int term]) (H := v7) [3, 4] (@hcnt) (by kernel_rfl) (by kernel_rfl) (by kernel_rfl) ⟨(by subst v0 v1 v3 v2 v4 v5 v6 v7 v8 v9; first | rfl | exact ak _ _ | first | assumption | rfl | omega | exact bE (by subst v0 v1 v3 v2 v4 v5 v6 v7 v8 v9; assumption) | exact bF hn hN2 (by subst v0 v1 v3 v2 v4 v5 v6 v7 v8 v9; assumption) | exact ae _ _ | exact aG _ _ _ | exact aF _ _ _ | exact aU | exact bB | exact af), trivial⟩ ⟨(by subst v0 v1 v3 v2 v4 v5 v6 v7 v8 v9; first | rfl | exact ak _ _ | first | assumption | rfl | omega | exact bE (by subst v0 v1 v3 v2 v4 v5 v6 v7 v8 v9; assumption) | exact bF hn hN2 (by subst v0 v1 v3 v2 v4 v5 v6 v7 v8 v9; assumption) | exact ae _ _ | exact aG _ _ _ | exact aF _ _ _ | exact aU | exact bB | exact af), trivial⟩) (by kernel_rfl) (by kernel_rfl))) (.c hc2 (.c (show De (D6 (au 4 1 0)) (ai (rdR (rr ++ qq))) = ai (rdR (rr ++ qq)) from ?_) (.c (show De (fun e => (DC (au 4 1 0) e.fst, DC (au 4 1 0) e.snd.fst, e.snd.snd)) (aQ 0 o1_0_0.snd) = aQ 0 o1_0_0.snd from ?_) (.c hl3 (.c (show Ev Dg Γk 62 [.ref (.ptr 3 0)] v2 (ab (De (fun n => [vi n]) (ah w.f known))) v4 from (Dv (FD (args := [.ref (.ptr 3 0)]) (H := v2) [3, 4] (@og w hw known (rr ++ qq) hrq) (by kernel_rfl) (by kernel_rfl) (by kernel_rfl) ⟨(by subst v0 v1 v3 v2 v4 v5 v6 v7 v8 v9; first | rfl | exact ak _ _ | first | assumption | rfl | omega | exact bE (by subst v0 v1 v3 v2 v4 v5 v6 v7 v8 v9; assumption) | exact bF hn hN2 (by subst v0 v1 v3 v2 v4 v5 v6 v7 v8 v9; assumption) | exact ae _ _ | exact aG _ _ _ | exact aF _ _ _ | exact aU | exact bB | exact af), trivial⟩ ⟨(by subst v0 v1 v3 v2 v4 v5 v6 v7 v8 v9; first | rfl | exact ak _ _ | first | assumption | rfl | omega | exact bE (by subst v0 v1 v3 v2 v4 v5 v6 v7 v8 v9; assumption) | exact bF hn hN2 (by subst v0 v1 v3 v2 v4 v5 v6 v7 v8 v9; assumption) | exact ae _ _ | exact aG _ _ _ | exact aF _ _ _ | exact aU | exact bB | exact af), trivial⟩) (by kernel_rfl) (by kernel_rfl))) (.c (show De (D6 (au 4 1 0)) (ai (rdR (rr ++ qq ++ [rdN]))) = ai (rdR (rr ++ qq ++ [rdN])) from ?_) (.c (show De (fun e => (DC (au 4 1 0) e.fst, DC (au 4 1 0) e.snd.fst, e.snd.snd)) (aQ 0 o1_0_0.snd) = aQ 0 o1_0_0.snd from ?_) (.c (show De (fun e => (DC (au 4 1 0) e.fst, DC (au 4 1 0) e.snd.fst, e.snd.snd)) (aq 0 (aH aa).fst) = aq 0 (aH aa).fst from ?_) (.c (show De (fun e => (DC (au 4 1 0) e.fst, DC (au 4 1 0) e.snd.fst, e.snd.snd)) (aq 0 (aH aa).snd) = aq 0 (aH aa).snd from ?_) (.c hl4 (.c hl5 .n))))))))))))))))))) rfl rfl h) (by subst v0 v1 v3 v2 v4 v5 v6 v7 v8 v9; first | (simp only [tB, ho1, hc2, ho6]; first | done | rfl) | (simp_all [tB]; done)) (by rfl) <;> subst v0 v1 v3 v2 v4 v5 v6 v7 v8 v9 <;> (first | assumption | rfl | omega | exact bE (by assumption) | exact bF hn hN2 (by assumption) | exact ae _ _ | exact aG _ _ _ | exact aF _ _ _ | exact aU | exact bB | exact af)
  ·let v0 : List D := [.ref (.vec 4 1), ab (De Dt w.c), ab w.p, ab (De Dw w.s), ab (De Ds w.f), int known]
   let v1 : List D := [.ref (.vec 4 0), ab (De Dt w.c), ab w.p, ab (De Dw w.s), ab (De Ds w.f), int known]
   let v4 : List Blk := [.var (DY w), .var [nq, int 0, int 0, int 0], .map (aQ 0 o1_0_0.snd) (Dh o1_0_0.snd), .var v0, .vec (ai (rdR rr)) 1 5]
   let v5 : List Blk := [.var (DY w), .var [nq, int 0, int 0, int 0], .map (aQ 0 o1_0_0.snd) (Dh o1_0_0.snd), .var v1, .vec [] 0 5]
   let v6 : List D := [int st, ab (De Dk aa)]
   let v2 : List Blk := [.var (DY w), .var [nq, int 0, int 0, int 0], .map (aQ 0 o1_0_0.snd) (Dh o1_0_0.snd), .var v0, .vec (ai (rdR (rr ++ qq))) 1 5, .var v6]
   let v3 : List Blk := [.var (DY w), .var [nq, int 0, int 0, int 0], .map (aQ 0 o1_0_0.snd) (Dh o1_0_0.snd), .var v1, .vec (ai (rdR rr)) 0 5, .var v6]
   refine Dv (DR (d := Em [EB [nq, int 0, int 0, int 0], nq, int ee]) pok [.val (bool (decide (st ≥ 0) && decide (st ≤ 19999))), .val (bool (decide (term ≥ 0) && decide (term ≤ 1023))), .b false, .sum [1, 2, 3, 5, 10, 11, 12, 13, 14, 42, 43, 44] (Ea 0) { t := mkT 190 0 [(1, int st), (2, int term), (3, int known), (5, .ref (.ptr 0 0)), (10, .ref (.ptr 1 0)), (11, nq), (12, int 0), (13, .ref (.mp 2))], h := [.var (DY w), .var [nq, int 0, int 0, int 0], .map (aQ 0 o1_0_0.snd) (Dh o1_0_0.snd)], m := [] }, .nx 1, .st (.nilC 3 0 5), .call (EB v6) v4, .st (.ren 4 0), .call (Em [ab (De Dk la), int ee]) v2, .b true] (by kernel_rfl) (.c (DW (Γ' := Γk) (@aO st 0 19999 (c9 w))) (.c (gd (!!(decide (st ≥ 0) && decide (st ≤ 19999))) (DW (Γ' := Γk) (@aO term 0 1023 (c9 w)))) (.c hb (.c hl0 (.c (show Ev Dg Γk 60 [.ref (.ptr 3 0), int st, int term] v5 (EB v6) v4 from (Dv (FD (args := [.ref (.ptr 3 0), int st, int term]) (H := v5) [3, 4] (@hof) (by kernel_rfl) (by kernel_rfl) (by kernel_rfl) ⟨?_, trivial⟩ ⟨?_, trivial⟩) (by kernel_rfl) (by kernel_rfl))) (.c (show De (D6 (au 4 1 0)) (ai (rdR rr)) = ai (rdR rr) from (by subst v0 v1 v4 v5 v6 v2 v3; first | assumption | rfl | omega | exact bE (by subst v0 v1 v4 v5 v6 v2 v3; assumption) | exact bF hn hN2 (by subst v0 v1 v4 v5 v6 v2 v3; assumption) | exact ae _ _ | exact aG _ _ _ | exact aF _ _ _ | exact aU | exact bB | exact af)) (.c (show De (fun e => (DC (au 4 1 0) e.fst, DC (au 4 1 0) e.snd.fst, e.snd.snd)) (aQ 0 o1_0_0.snd) = aQ 0 o1_0_0.snd from (by subst v0 v1 v4 v5 v6 v2 v3; first | assumption | rfl | omega | exact bE (by subst v0 v1 v4 v5 v6 v2 v3; assumption) | exact bF hn hN2 (by subst v0 v1 v4 v5 v6 v2 v3; assumption) | exact ae _ _ | exact aG _ _ _ | exact aF _ _ _ | exact aU | exact bB | exact af)) (.c (show Ev Dg Γk 61 [.ref (.ptr 3 0), ab (De Dk aa), int term] v3 (Em [ab (De Dk la), int ee]) v2 from (Dv (FD (args := [.ref (.ptr 3 0), ab (De Dk aa), int term]) (H := v3) [3, 4] (@hcnt) (by kernel_rfl) (by kernel_rfl) (by kernel_rfl) ⟨?_, trivial⟩ ⟨?_, trivial⟩) (by kernel_rfl) (by kernel_rfl))) (.c hc2 .n))))))))) rfl rfl h) (by subst v0 v1 v4 v5 v6 v2 v3; first | (simp only [tB, ho1, hc2]; first | done | rfl) | (simp_all [tB]; done)) (by rfl) <;> subst v0 v1 v4 v5 v6 v2 v3 <;> (first | rfl | exact ak _ _ | first | assumption | rfl | omega | exact bE (by assumption) | exact bF hn hN2 (by assumption) | exact ae _ _ | exact aG _ _ _ | exact aF _ _ _ | exact aU | exact bB | exact af)
 | inr o1_1_0 =>
  intro hl0
  exact Dv (DR (d := Em [EB [nq, int 0, int 0, int 0], nq, int 150]) pok [.val (bool (decide (st ≥ 0) && decide (st ≤ 19999))), .val (bool (decide (term ≥ 0) && decide (term ≤ 1023))), .b false, .sum [1, 2, 3, 5, 10, 11, 12, 13, 14, 42, 43, 44] (EY) { t := mkT 190 0 [(10, .ref (.ptr 1 0)), (11, nq), (12, int 150)], h := (c9 w), m := [] }] (by kernel_rfl) (.c (DW (Γ' := Γk) (@aO st 0 19999 (c9 w))) (.c (gd (!!(decide (st ≥ 0) && decide (st ≤ 19999))) (DW (Γ' := Γk) (@aO term 0 1023 (c9 w)))) (.c hb (.c hl0 .n)))) rfl rfl h) (by first | (simp only [tB, ho1]; first | done | rfl) | (simp_all [tB]; done)) (by rfl)
end Go.Vi
open Go Go.Proofs
namespace Go.Vi
set_option maxRecDepth 100000
set_option maxHeartbeats 4000000
def jC (w : WorldT) : Bool := decide ((w.f.map Ds).length ≤ (30 : Int)) && decide ((w.c.map Dt).length ≤ (20 : Int)) && decide (w.p.length ≤ (8 : Int)) && decide ((w.s.map Dw).length ≤ (6 : Int))
theorem oy {w : WorldT} (h : List Blk) : (Ev Dg Γ0 18 [.agg w.l] h (bool (jC w)) h) := by
 exact Dv (DR (d := bool (decide ((↑(Dh (De Ds w.f)) : Int) ≤ 30) && decide ((↑(Dh (De Dt w.c)) : Int) ≤ 20) && decide ((↑(Dh w.p) : Int) ≤ 8) && decide ((↑(Dh (De Dw w.s)) : Int) ≤ 6))) pok [] (by kernel_rfl) .n rfl rfl h) (by rfl) (by rfl)
end Go.Vi
open Go Go.Proofs
namespace Go.Vi
set_option maxRecDepth 100000
set_option maxHeartbeats 4000000
end Go.Vi
open Go Go.Proofs
namespace Go.Vi
set_option maxRecDepth 100000
set_option maxHeartbeats 40000
def few (s : Vi.Sys) : Bool := decide (Dj.wrap (Dj.wrap (Dj.wrap (((s.classes.map Cls.row).length : Int) + ((s.fees.map FeeT.row).length : Int)) + ((s.honours.map Cls.row).length : Int)) + (s.clauses.length : Int)) ≤ 40)
end Go.Vi
open Go Go.Proofs
namespace Go.Vi
set_option maxRecDepth 100000
set_option maxHeartbeats 0
end Go.Vi
open Go Go.Proofs
namespace Go.Vi
set_option maxRecDepth 100000
set_option maxHeartbeats 4000000
attribute [local irreducible] few
end Go.Vi
open Go Go.Proofs
namespace Go.Vi
set_option maxRecDepth 100000
end Go.Vi
open Go Go.Proofs
namespace Go.Vi
set_option maxRecDepth 100000
structure WorldT.ok0 (w : WorldT) : Prop where
 c : ∀ x ∈ w.c, x.ok
 s : ∀ x ∈ w.s, x.ok
 lc : al w.c
 ls : al w.s
 i : ∀ f ∈ w.f, f.ok
end Go.Vi
open Go Go.Proofs
namespace Go.Vi
set_option maxRecDepth 100000
set_option maxHeartbeats 4000000
def ptEq (a b : PtT) : Bool := a.term == b.term && (a.value == b.value && true)
def epF (p : PtT × PtT) (_ : Unit) : Unit ⊕ Unit := if (!ptEq p.1 p.2) = true then .inr () else .inl ()
def epR (xs ys : List PtT) : Unit ⊕ Unit := forL epF (xs.zip ys) ()
def eqPts (xs ys : List PtT) : Bool := if (((xs.map PtT.row).length : Int) != ((ys.map PtT.row).length : Int)) = true then false else match epR xs ys with | .inl _ => true | .inr _ => false
def ptsAt (l : List FactT) (r : ReadT) (known : Int) : List PtT := cg r.kind r.sub r.obj r.frm r.til known l
attribute [local irreducible] ptsAt eqPts
end Go.Vi
open Go Go.Proofs
namespace Go.Vi
set_option maxRecDepth 100000
set_option maxHeartbeats 4000000
end Go.Vi
open Go Go.Proofs
namespace Go.Vi
set_option maxRecDepth 100000
def xa : List Dp → Option FactT
 | [.v (.int .i64 a), .v (.int .i64 b), .v (.int .i64 c), .v (.int .i64 d), .v (.int .i64 e), .v (.int .i64 f), .v (.int .i64 g), .v (.int .i64 i)] => some ⟨a, b, c, d, e, f, g, i⟩
 | _ => none
def lw : List (List Dp) → Option (List FactT)
 | [] => some []
 | r :: rs => match xa r, lw rs with
  | some x, some xs => some (x :: xs)
  | _, _ => none
theorem xd {r : List Dp} {f : FactT} (h : xa r = some f) : r = f.row := by
 unfold xa at h
 split at h
 ·cases h; rfl
 ·simp at h
theorem nb : ∀ {rs : List (List Dp)} {fs : List FactT}, lw rs = some fs → rs = fs.map Ds
 | [], fs, h => by simp only [lw, Df] at h; subst h; rfl
 | r :: rs, fs, h => by
  simp only [lw] at h
  split at h
  ·rename_i x xs h1 h2
   simp only [Df] at h
   subst h
   rw [xd h1, nb h2]; rfl
  ·simp at h
def Dd (s : VS) (n : Nat) : Int := bif s.2.getD n false then C7 (s.1.getD n default).value else -1
def oz (kk ks ko known : Int) (l : List FactT) : List Int := (Ef 1024).map (Dd (l.foldl (fe kk ks ko known) vZ))
theorem uD (s : VS) (rs : List Int) (h : rs.length = 1024) (n i : Nat) : (vlStep s rs n).getD i 0 = if i = n ∧ n < 1024 then Dd s n else rs.getD i 0 := by
 unfold Dd vlStep
 by_cases hn : n < 1024
 ·by_cases hi : i = n
  ·subst hi
   cases s.2.getD i false <;> simp [DS, h, hn]
  ·have hi' : n ≠ i := fun e => hi e.symm
   cases s.2.getD n false <;> simp [DS, hi, hi']
 ·cases s.2.getD n false <;> simp [DS, hn, List.set_eq_of_length_le (show rs.length ≤ n by omega)]
theorem uE (s : VS) (rs : List Int) (n : Nat) : (vlStep s rs n).length = rs.length := by
 unfold vlStep; cases s.2.getD n false <;> simp
theorem nc (kk ks ko known : Int) (l : List FactT) : b6 kk ks ko known l = oz kk ks ko known l := by
 unfold b6 oz qi
 generalize l.foldl (fe kk ks ko known) vZ = s
 have hz : (DQ 1024 (0 : Int)).length = 1024 := List.length_replicate ..
 have hz2 : ∀ i, (DQ 1024 (0 : Int)).getD i 0 = 0 := fun i => by
  rw [DS, List.getElem?_replicate]; split <;> rfl
 revert hz hz2
 generalize DQ 1024 (0 : Int) = z
 intro hz hz2
 have key : ∀ m, m ≤ 1024 → ((Ef m).foldl (vlStep s) z).length = 1024 ∧ ∀ i, ((Ef m).foldl (vlStep s) z).getD i 0 = if i < m then Dd s i else 0 := by
  intro m
  induction m with
  | zero => intro _; exact ⟨hz, fun i => by rw [if_neg (Nat.not_lt_zero i)]; exact hz2 i⟩
  | succ m ih =>
   intro hm
   obtain ⟨h1, h2⟩ := ih (by omega)
   rw [List.range_succ, List.foldl_append]
   simp only [Ex, List.foldl_nil]
   refine ⟨by rw [uE]; exact h1, fun i => ?_⟩
   rw [uD s _ h1, h2]
   by_cases hi : i = m
   ·subst hi
    rw [if_pos ⟨rfl, by omega⟩, if_pos (by omega)]
   ·rw [if_neg (fun h => hi h.1)]
    by_cases hlt : i < m
    ·rw [if_pos hlt, if_pos (by omega)]
    ·rw [if_neg hlt, if_neg (by omega)]
 obtain ⟨h1, h2⟩ := key 1024 (Nat.le_refl _)
 refine List.ext_getElem (by rw [h1]; simp) fun i hi1 hi2 => ?_
 have := h2 i
 rw [DS, List.getElem?_eq_getElem hi1] at this
 rw [h1] at hi1
 rw [if_pos hi1] at this
 simpa using this
def Ad (n : Nat) : Bool := Nat.blt n 1000000
def wvGo (args : List D) (h : List Blk) : List D → Option CR
 | [.p (.sl rows), .agg [.p (.v (.int .i64 kk)), .p (.v (.int .i64 ks)), .p (.v (.int .i64 ko))], .p (.v (.int .i64 known))] => match lw rows with
  | some l => match Ad l.length with
   | true => some (.ret (.agg ((oz kk ks ko known l).map int)) h)
   | false => none
  | none => none
 | _ => none
def wv : FnF := fun f args h => match Nat.beq f 159 with
 | true => wvGo args h (xM h args)
 | false => none
theorem qA : ∀ l : List Int, rA (l.map int) = true
 | [] => rfl
 | _ :: l => by simp [rA, iY, qA l]
theorem xe (l : List Int) : (bd l).flatten = l.map int := by
 unfold bd
 induction l with
 | nil => rfl
 | cons a l ih => simp only [En, List.flatten_cons, ih]; rfl
theorem uF {Γ : am} : xL Dg Γ wv := by
 intro f args h r hw
 unfold wv at hw
 split at hw
 ·rename_i hf
  have hf := Nat.eq_of_beq_eq_true hf
  subst hf
  refine ⟨by kernel_rfl, ?_⟩
  unfold wvGo at hw
  split at hw
  ·rename_i rows kk ks ko known hfr
   split at hw
   ·rename_i l hl
    split at hw
    ·rename_i hs
     cases hw
     refine VRes.of_ev (Ev.frzArgs (by rw [hfr]; rfl) (qA _) ?_)
     rw [hfr, nb hl]
     have hsh : al l := by
      unfold Ad at hs
      have : l.length < 1000000 := by simpa [Nat.blt_eq] using hs
      unfold al; omega
     have := qk (kk := kk) (ks := ks) (ko := ko) (known := known) hsh []
     rw [xe, nc] at this
     exact DW this
    ·simp at hw
   ·simp at hw
  ·simp at hw
 ·simp at hw
end Go.Vi
open Go Go.Proofs
namespace Go.Vi
theorem oA {α : Type} {l : List α} {n t : Nat} {x z : α} (hn : n < l.length) : (l.set n x).getD t z = if t = n then x else l.getD t z := by
 by_cases h : t = n
 ·subst h; simp [DS, hn]
 ·have : n ≠ t := fun e => h e.symm
  simp [DS, h, this]
theorem xf {f : FactT} {s : VS} (hs : s.ok) {n t : Nat} (hn : n < 1024) : ((e9 f s n).1.getD t default, (e9 f s n).2.getD t false) = if t = n ∧ vaHit f (s.1.getD t default) (s.2.getD t false) = true then (f, true) else (s.1.getD t default, s.2.getD t false) := by
 unfold e9
 by_cases ht : t = n
 ·subst ht
  cases h : vaHit f (s.1.getD t default) (s.2.getD t false)
  ·simp
  ·simp only [cond_true, and_self, if_true]
   rw [oA (by rw [hs.1]; exact hn), oA (by rw [hs.2]; exact hn)]
   simp
 ·cases h : vaHit f (s.1.getD n default) (s.2.getD n false)
  ·simp [ht]
  ·simp only [cond_true, ht, false_and, if_false]
   rw [oA (by rw [hs.1]; exact hn), oA (by rw [hs.2]; exact hn)]
   simp [ht]
theorem nd {f : FactT} {t : Nat} : ∀ (ns : List Nat) (s : VS), s.ok → ns.Nodup → (∀ n ∈ ns, n < 1024) → ((ns.foldl (e9 f) s).1.getD t default, (ns.foldl (e9 f) s).2.getD t false) = if t ∈ ns ∧ vaHit f (s.1.getD t default) (s.2.getD t false) = true then (f, true) else (s.1.getD t default, s.2.getD t false)
 | [], s, _, _, _ => by simp
 | n :: ns, s, hs, hd, hb => by
  rw [List.nodup_cons] at hd
  have hn := hb n (by simp)
  have h1 := xf (f := f) hs (t := t) hn
  have h2 := nd (f := f) (t := t) ns (e9 f s n) (vaStep_ok n hs) hd.2 (fun m hm => hb m (by simp [hm]))
  rw [Ex, h2]
  have e1 := congrArg Prod.fst h1
  have e2 := congrArg Prod.snd h1
  simp only at e1 e2
  by_cases ht : t = n
  ·subst ht
   rw [if_neg (fun h => hd.1 h.1), h1]
   simp
  ·simp only [ht, false_and, if_false] at e1 e2
   rw [e1, e2]
   simp [ht]
theorem Cs {kk ks ko known : Int} {t : Nat} (ht : t < 1024) (f : FactT) {s : VS} (hs : s.ok) : ((fe kk ks ko known s f).1.getD t default, (fe kk ks ko known s f).2.getD t false) = ofGo kk ks ko (t : Int) known (s.1.getD t default, s.2.getD t false) f := by
 unfold fe ofGo
 cases ofIs kk ks ko known f
 ·rfl
 ·simp only [cond_true]
  unfold vaF wo
  have hlo : 0 ≤ Bk f ∧ (Bk f = f.frm ∨ (Bk f = 0 ∧ f.frm ≤ 0)) := by unfold Bk; simp; split <;> omega
  have hhi : uq f ≤ 1024 ∧ (uq f = f.til ∨ (uq f = 1024 ∧ 1024 ≤ f.til)) := by unfold uq; split <;> omega
  rw [nd _ _ hs (List.nodup_range' ..) (by intro n hn; rw [List.mem_range'_1] at hn; omega)]
  unfold b4 atHit
  have hm : (t ∈ List.range' (Bk f).toNat (uq f - Bk f).toNat) ↔ f.frm ≤ (t : Int) ∧ (t : Int) < f.til := by
   rw [List.mem_range'_1]; omega
  have hv : (!s.2.getD t false || decide (orI (aR f.known (s.1.getD t default).known) (aR f.no (s.1.getD t default).no) ≥ 0)) = vaHit f (s.1.getD t default) (s.2.getD t false) := rfl
  rw [hv]
  by_cases h1 : f.frm ≤ (t : Int) ∧ (t : Int) < f.til
  ·cases h2 : vaHit f (s.1.getD t default) (s.2.getD t false)
   ·simp
   ·simp [hm.2 h1, h1.1, h1.2]
  ·rw [if_neg (fun h => h1 (hm.1 h.1))]
   have : (decide (f.frm ≤ (t : Int)) && decide ((t : Int) < f.til)) = false := by
    cases hq : (decide (f.frm ≤ (t : Int)) && decide ((t : Int) < f.til))
    ·rfl
    ·simp at hq; exact absurd hq h1
   simp [this]
theorem xg {kk ks ko known : Int} {t : Nat} (ht : t < 1024) : ∀ (l : List FactT) (s : VS), s.ok → ((l.foldl (fe kk ks ko known) s).1.getD t default, (l.foldl (fe kk ks ko known) s).2.getD t false) = l.foldl (ofGo kk ks ko (t : Int) known) (s.1.getD t default, s.2.getD t false)
 | [], _, _ => rfl
 | f :: l, s, hs => by
  rw [Ex, Ex, xg ht l _ (vaGo_ok f hs), Cs ht f hs]
theorem rX {kk ks ko known : Int} {l : List FactT} {t : Nat} (ht : t < 1024) : (b6 kk ks ko known l).getD t 0 = Dd (l.foldl (fe kk ks ko known) vZ) t := by
 rw [nc]
 unfold oz
 simp [DS, ht]
theorem xh {α : Type} {n t : Nat} {x z : α} (h : t < n) : (DQ n x).getD t z = x := by simp [DS, h]
end Go.Vi
open Go Go.Proofs
namespace Go.Vi
set_option maxRecDepth 100000
set_option maxHeartbeats 4000000
end Go.Vi
open Go Go.Proofs
namespace Go.Vi
theorem oB (a b : AttT) : leA a b = true ↔ (a.term < b.term ∨ (a.term = b.term ∧ a.course ≤ b.course)) := by
 have h1 : leA a b = true ↔ (ltOf uL) b a = false := by unfold leA; simp
 rw [h1, oe]
 omega
theorem xi (a b c : AttT) (h1 : leA a b = true) (h2 : leA b c = true) : leA a c = true := by
 rw [oB] at *; omega
theorem xj (a b : AttT) : (leA a b || leA b a) = true := by
 rw [FL, oB, oB]; omega
theorem rY {w : WorldT} {known st term : Int} : (ek w known st term).Pairwise fun a b => leA a b = true := GI xi xj _
theorem recA_perm {w : WorldT} {known st term : Int} : (ek w known st term).Perm (fF w known st term) := FE _ _
end Go.Vi
open Go Go.Proofs
namespace Go.Vi
set_option maxRecDepth 100000
set_option maxHeartbeats 4000000
end Go.Vi
open Go Go.Proofs
namespace Go.Vi
set_option maxRecDepth 1000000
set_option maxHeartbeats 0
def s16w0 : Memo := ⟨60, [.ref (.ptr 76 0), int 3, int 3], [.gone, .gone, .gone, .gone, .gone, .gone, .gone, .gone, .vec [[int 12, int 0, int 0, int 0, int 1]] 0 5, .var [int 3, nq], .var [int 0, nq], .var [nq, int 0, int 0, int 0], .vec [[int 7], [int 7]] 0 1, .var [nq, int 0, int 0, int 0], .gone, .gone, .gone, .gone, .gone, .gone, .gone, .gone, .gone, .vec [[int 12, int 0, int 0, int 0, int 1], [int 12, int 0, int 0, int 0, int 1]] 1 5, .gone, .gone, .gone, .gone, .var [nq, int 0, int 0, int 1], .var [int 5, int 3, int 7, int (-1), int 5, int 6, int 8, int 0], .var [int 5, int 3, int 7, int 25, int 2, int 3, int 9, int 0], .vec [[aA ⟨#[65]⟩, int 7, int 4, int 0, int 1, int 0, aA ⟨#[]⟩, int 0, int 0, nq, int 2, int 0, aA ⟨#[]⟩, int 0, int 0, nq]] 0 16, .var [.ref (.vec 31 0), nq, nq, .ref (.vec 34 0)], .var [int 0, int 1024], .vec [[int 1, int 7, int 0, int 0, int 0, int 1024, int 8, int 0], [int 12, int 0, int 0, int 1, int 0, int 1024, int 8, int 1], [int 5, int 3, int 7, int 25, int 2, int 3, int 9, int 0]] 0 8, .gone, .gone, .gone, .gone, .gone, .gone, .gone, .gone, .gone, .gone, .gone, .gone, .vec [[int 12, int 0, int 0, int 0, int 1], [int 5, int 3, int 7, int 0, int 3], [int 1, int 7, int 0, int 2, int 3]] 2 5, .gone, .gone, .gone, .gone, .gone, .gone, .gone, .gone, .vec [[int 7, int 2, int 9, int 1, int 4]] 0 5, .var [int 3, .ref (.vec 56 0)], .gone, .gone, .gone, .gone, .gone, .gone, .gone, .gone, .gone, .gone, .gone, .gone, .vec [[int 12, int 0, int 0, int 0, int 1], [int 5, int 3, int 7, int 0, int 2]] 1 5, .var [int 3, nq], .vec [[int 7]] 0 1, .var [.ref (.vec 31 0), nq, nq, .ref (.vec 34 0)], .var [nq, int 0, int 0, int 0], .map [(int 7, .agg [int 7, int 0, int (-1), bool true], 0)] 1, .var [nq, .ref (.vec 31 0), nq, nq, .ref (.vec 34 0), int 9]], .ret (.agg [int 3, .ref (.vec 95 0)]) [.gone, .gone, .gone, .gone, .gone, .gone, .gone, .gone, .vec [[int 12, int 0, int 0, int 0, int 1]] 0 5, .var [int 3, nq], .var [int 0, nq], .var [nq, int 0, int 0, int 0], .vec [[int 7], [int 7]] 0 1, .var [nq, int 0, int 0, int 0], .gone, .gone, .gone, .gone, .gone, .gone, .gone, .gone, .gone, .vec [[int 12, int 0, int 0, int 0, int 1], [int 12, int 0, int 0, int 0, int 1]] 1 5, .gone, .gone, .gone, .gone, .var [nq, int 0, int 0, int 1], .var [int 5, int 3, int 7, int (-1), int 5, int 6, int 8, int 0], .var [int 5, int 3, int 7, int 25, int 2, int 3, int 9, int 0], .vec [[aA ⟨#[65]⟩, int 7, int 4, int 0, int 1, int 0, aA ⟨#[]⟩, int 0, int 0, nq, int 2, int 0, aA ⟨#[]⟩, int 0, int 0, nq]] 0 16, .var [.ref (.vec 31 0), nq, nq, .ref (.vec 34 0)], .var [int 0, int 1024], .vec [[int 1, int 7, int 0, int 0, int 0, int 1024, int 8, int 0], [int 12, int 0, int 0, int 1, int 0, int 1024, int 8, int 1], [int 5, int 3, int 7, int 25, int 2, int 3, int 9, int 0]] 0 8, .gone, .gone, .gone, .gone, .gone, .gone, .gone, .gone, .gone, .gone, .gone, .gone, .vec [[int 12, int 0, int 0, int 0, int 1], [int 5, int 3, int 7, int 0, int 3], [int 1, int 7, int 0, int 2, int 3]] 2 5, .gone, .gone, .gone, .gone, .gone, .gone, .gone, .gone, .vec [[int 7, int 2, int 9, int 1, int 4]] 0 5, .var [int 3, .ref (.vec 56 0)], .gone, .gone, .gone, .gone, .gone, .gone, .gone, .gone, .gone, .gone, .gone, .gone, .vec [[int 12, int 0, int 0, int 0, int 1], [int 5, int 3, int 7, int 0, int 2]] 1 5, .var [int 3, nq], .vec [[int 7]] 0 1, .var [.ref (.vec 31 0), nq, nq, .ref (.vec 34 0)], .var [nq, int 0, int 0, int 0], .map [(int 7, .agg [int 7, int 0, int (-1), bool true], 0)] 1, .var [.ref (.vec 86 2), .ref (.vec 31 0), nq, nq, .ref (.vec 34 0), int 9], .gone, .gone, .gone, .gone, .gone, .gone, .gone, .gone, .gone, .vec [[int 12, int 0, int 0, int 0, int 1], [int 5, int 3, int 7, int 0, int 3], [int 1, int 7, int 0, int 2, int 3]] 2 5, .gone, .gone, .gone, .gone, .gone, .gone, .gone, .gone, .vec [[int 7, int 2, int 9, int 1, int 4]] 0 5]⟩
theorem y8 : s16w0.Ok Dg Γk := Gv pok uF (ms := []) (by kernel_rfl) trivial
def s16w1 : Memo := ⟨61, [.ref (.ptr 76 0), .ref (.vec 95 0), int 3], [.gone, .gone, .gone, .gone, .gone, .gone, .gone, .gone, .vec [[int 12, int 0, int 0, int 0, int 1]] 0 5, .var [int 3, nq], .var [int 0, nq], .var [nq, int 0, int 0, int 0], .vec [[int 7], [int 7]] 0 1, .var [nq, int 0, int 0, int 0], .gone, .gone, .gone, .gone, .gone, .gone, .gone, .gone, .gone, .vec [[int 12, int 0, int 0, int 0, int 1], [int 12, int 0, int 0, int 0, int 1]] 1 5, .gone, .gone, .gone, .gone, .var [nq, int 0, int 0, int 1], .var [int 5, int 3, int 7, int (-1), int 5, int 6, int 8, int 0], .var [int 5, int 3, int 7, int 25, int 2, int 3, int 9, int 0], .vec [[aA ⟨#[65]⟩, int 7, int 4, int 0, int 1, int 0, aA ⟨#[]⟩, int 0, int 0, nq, int 2, int 0, aA ⟨#[]⟩, int 0, int 0, nq]] 0 16, .var [.ref (.vec 31 0), nq, nq, .ref (.vec 34 0)], .var [int 0, int 1024], .vec [[int 1, int 7, int 0, int 0, int 0, int 1024, int 8, int 0], [int 12, int 0, int 0, int 1, int 0, int 1024, int 8, int 1], [int 5, int 3, int 7, int 25, int 2, int 3, int 9, int 0]] 0 8, .gone, .gone, .gone, .gone, .gone, .gone, .gone, .gone, .gone, .gone, .gone, .gone, .vec [[int 12, int 0, int 0, int 0, int 1], [int 5, int 3, int 7, int 0, int 3], [int 1, int 7, int 0, int 2, int 3]] 2 5, .gone, .gone, .gone, .gone, .gone, .gone, .gone, .gone, .vec [[int 7, int 2, int 9, int 1, int 4]] 0 5, .var [int 3, .ref (.vec 56 0)], .gone, .gone, .gone, .gone, .gone, .gone, .gone, .gone, .gone, .gone, .gone, .gone, .vec [[int 12, int 0, int 0, int 0, int 1], [int 5, int 3, int 7, int 0, int 2]] 1 5, .var [int 3, nq], .vec [[int 7]] 0 1, .var [.ref (.vec 31 0), nq, nq, .ref (.vec 34 0)], .var [nq, int 0, int 0, int 0], .map [(int 7, .agg [int 7, int 0, int (-1), bool true], 0)] 1, .var [.ref (.vec 86 2), .ref (.vec 31 0), nq, nq, .ref (.vec 34 0), int 9], .gone, .gone, .gone, .gone, .gone, .gone, .gone, .gone, .gone, .vec [[int 12, int 0, int 0, int 0, int 1], [int 5, int 3, int 7, int 0, int 3], [int 1, int 7, int 0, int 2, int 3]] 2 5, .gone, .gone, .gone, .gone, .gone, .gone, .gone, .gone, .vec [[int 7, int 2, int 9, int 1, int 4]] 0 5, .var [int 3, .ref (.vec 95 0)]], .ret (.tup [.ref (.vec 105 0), int 0]) [.gone, .gone, .gone, .gone, .gone, .gone, .gone, .gone, .vec [[int 12, int 0, int 0, int 0, int 1]] 0 5, .var [int 3, nq], .var [int 0, nq], .var [nq, int 0, int 0, int 0], .vec [[int 7], [int 7]] 0 1, .var [nq, int 0, int 0, int 0], .gone, .gone, .gone, .gone, .gone, .gone, .gone, .gone, .gone, .vec [[int 12, int 0, int 0, int 0, int 1], [int 12, int 0, int 0, int 0, int 1]] 1 5, .gone, .gone, .gone, .gone, .var [nq, int 0, int 0, int 1], .var [int 5, int 3, int 7, int (-1), int 5, int 6, int 8, int 0], .var [int 5, int 3, int 7, int 25, int 2, int 3, int 9, int 0], .vec [[aA ⟨#[65]⟩, int 7, int 4, int 0, int 1, int 0, aA ⟨#[]⟩, int 0, int 0, nq, int 2, int 0, aA ⟨#[]⟩, int 0, int 0, nq]] 0 16, .var [.ref (.vec 31 0), nq, nq, .ref (.vec 34 0)], .var [int 0, int 1024], .vec [[int 1, int 7, int 0, int 0, int 0, int 1024, int 8, int 0], [int 12, int 0, int 0, int 1, int 0, int 1024, int 8, int 1], [int 5, int 3, int 7, int 25, int 2, int 3, int 9, int 0]] 0 8, .gone, .gone, .gone, .gone, .gone, .gone, .gone, .gone, .gone, .gone, .gone, .gone, .vec [[int 12, int 0, int 0, int 0, int 1], [int 5, int 3, int 7, int 0, int 3], [int 1, int 7, int 0, int 2, int 3]] 2 5, .gone, .gone, .gone, .gone, .gone, .gone, .gone, .gone, .vec [[int 7, int 2, int 9, int 1, int 4]] 0 5, .var [int 3, .ref (.vec 56 0)], .gone, .gone, .gone, .gone, .gone, .gone, .gone, .gone, .gone, .gone, .gone, .gone, .vec [[int 12, int 0, int 0, int 0, int 1], [int 5, int 3, int 7, int 0, int 2]] 1 5, .var [int 3, nq], .vec [[int 7]] 0 1, .var [.ref (.vec 31 0), nq, nq, .ref (.vec 34 0)], .var [nq, int 0, int 0, int 0], .map [(int 7, .agg [int 7, int 0, int (-1), bool true], 0)] 1, .var [.ref (.vec 86 3), .ref (.vec 31 0), nq, nq, .ref (.vec 34 0), int 9], .gone, .gone, .gone, .gone, .gone, .gone, .gone, .gone, .gone, .vec [[int 12, int 0, int 0, int 0, int 1], [int 5, int 3, int 7, int 0, int 3], [int 1, int 7, int 0, int 2, int 3], [int 1, int 7, int 0, int 3, int 4]] 3 5, .gone, .gone, .gone, .gone, .gone, .gone, .gone, .gone, .vec [[int 7, int 2, int 9, int 1, int 4]] 0 5, .var [int 3, .ref (.vec 95 0)], .gone, .gone, .gone, .gone, .gone, .gone, .gone, .gone, .vec [[int 7, int 2, int 9, int 1, int 4]] 0 5]⟩
theorem y9 : s16w1.Ok Dg Γk := Gv pok uF (ms := []) (by kernel_rfl) trivial
def s16w2 : Memo := ⟨23, [.agg [.ref (.vec 31 0), nq, nq, .ref (.vec 34 0)], int 3, int 3, int 9], [.gone, .gone, .gone, .gone, .gone, .gone, .gone, .gone, .vec [[int 12, int 0, int 0, int 0, int 1]] 0 5, .var [int 3, nq], .var [int 0, nq], .var [nq, int 0, int 0, int 0], .vec [[int 7], [int 7]] 0 1, .var [nq, int 0, int 0, int 0], .gone, .gone, .gone, .gone, .gone, .gone, .gone, .gone, .gone, .vec [[int 12, int 0, int 0, int 0, int 1], [int 12, int 0, int 0, int 0, int 1]] 1 5, .gone, .gone, .gone, .gone, .var [nq, int 0, int 0, int 1], .var [int 5, int 3, int 7, int (-1), int 5, int 6, int 8, int 0], .var [int 5, int 3, int 7, int 25, int 2, int 3, int 9, int 0], .vec [[aA ⟨#[65]⟩, int 7, int 4, int 0, int 1, int 0, aA ⟨#[]⟩, int 0, int 0, nq, int 2, int 0, aA ⟨#[]⟩, int 0, int 0, nq]] 0 16, .var [.ref (.vec 31 0), nq, nq, .ref (.vec 34 0)], .var [int 0, int 1024], .vec [[int 1, int 7, int 0, int 0, int 0, int 1024, int 8, int 0], [int 12, int 0, int 0, int 1, int 0, int 1024, int 8, int 1], [int 5, int 3, int 7, int 25, int 2, int 3, int 9, int 0]] 0 8], .ret (.tup [.agg [int 3, .ref (.vec 56 0)], .ref (.vec 47 2), int 0]) [.gone, .gone, .gone, .gone, .gone, .gone, .gone, .gone, .vec [[int 12, int 0, int 0, int 0, int 1]] 0 5, .var [int 3, nq], .var [int 0, nq], .var [nq, int 0, int 0, int 0], .vec [[int 7], [int 7]] 0 1, .var [nq, int 0, int 0, int 0], .gone, .gone, .gone, .gone, .gone, .gone, .gone, .gone, .gone, .vec [[int 12, int 0, int 0, int 0, int 1], [int 12, int 0, int 0, int 0, int 1]] 1 5, .gone, .gone, .gone, .gone, .var [nq, int 0, int 0, int 1], .var [int 5, int 3, int 7, int (-1), int 5, int 6, int 8, int 0], .var [int 5, int 3, int 7, int 25, int 2, int 3, int 9, int 0], .vec [[aA ⟨#[65]⟩, int 7, int 4, int 0, int 1, int 0, aA ⟨#[]⟩, int 0, int 0, nq, int 2, int 0, aA ⟨#[]⟩, int 0, int 0, nq]] 0 16, .var [.ref (.vec 31 0), nq, nq, .ref (.vec 34 0)], .var [int 0, int 1024], .vec [[int 1, int 7, int 0, int 0, int 0, int 1024, int 8, int 0], [int 12, int 0, int 0, int 1, int 0, int 1024, int 8, int 1], [int 5, int 3, int 7, int 25, int 2, int 3, int 9, int 0]] 0 8, .gone, .gone, .gone, .gone, .gone, .gone, .gone, .gone, .gone, .gone, .gone, .gone, .vec [[int 12, int 0, int 0, int 0, int 1], [int 5, int 3, int 7, int 0, int 3], [int 1, int 7, int 0, int 2, int 3]] 2 5, .gone, .gone, .gone, .gone, .gone, .gone, .gone, .gone, .vec [[int 7, int 2, int 9, int 1, int 4]] 0 5]⟩
theorem za : s16w2.Ok Dg Γk := Gv pok uF (ms := []) (by kernel_rfl) trivial
def s16w3 : Memo := ⟨19, [.agg [.ref (.vec 31 0), nq, nq, .ref (.vec 34 0)], int 3, int 3, int 9, .ref (.vec 72 0)], [.gone, .gone, .gone, .gone, .gone, .gone, .gone, .gone, .vec [[int 12, int 0, int 0, int 0, int 1]] 0 5, .var [int 3, nq], .var [int 0, nq], .var [nq, int 0, int 0, int 0], .vec [[int 7], [int 7]] 0 1, .var [nq, int 0, int 0, int 0], .gone, .gone, .gone, .gone, .gone, .gone, .gone, .gone, .gone, .vec [[int 12, int 0, int 0, int 0, int 1], [int 12, int 0, int 0, int 0, int 1]] 1 5, .gone, .gone, .gone, .gone, .var [nq, int 0, int 0, int 1], .var [int 5, int 3, int 7, int (-1), int 5, int 6, int 8, int 0], .var [int 5, int 3, int 7, int 25, int 2, int 3, int 9, int 0], .vec [[aA ⟨#[65]⟩, int 7, int 4, int 0, int 1, int 0, aA ⟨#[]⟩, int 0, int 0, nq, int 2, int 0, aA ⟨#[]⟩, int 0, int 0, nq]] 0 16, .var [.ref (.vec 31 0), nq, nq, .ref (.vec 34 0)], .var [int 0, int 1024], .vec [[int 1, int 7, int 0, int 0, int 0, int 1024, int 8, int 0], [int 12, int 0, int 0, int 1, int 0, int 1024, int 8, int 1], [int 5, int 3, int 7, int 25, int 2, int 3, int 9, int 0]] 0 8, .gone, .gone, .gone, .gone, .gone, .gone, .gone, .gone, .gone, .gone, .gone, .gone, .vec [[int 12, int 0, int 0, int 0, int 1], [int 5, int 3, int 7, int 0, int 3], [int 1, int 7, int 0, int 2, int 3]] 2 5, .gone, .gone, .gone, .gone, .gone, .gone, .gone, .gone, .vec [[int 7, int 2, int 9, int 1, int 4]] 0 5, .var [int 3, .ref (.vec 56 0)], .gone, .gone, .gone, .gone, .gone, .gone, .gone, .gone, .gone, .gone, .gone, .gone, .vec [[int 12, int 0, int 0, int 0, int 1], [int 5, int 3, int 7, int 0, int 2]] 1 5, .var [int 3, nq], .vec [[int 7]] 0 1], .ret (.tup [.agg [.ref (.vec 132 0), int 4, int 9, int 1], .ref (.vec 86 5), int 0]) [.gone, .gone, .gone, .gone, .gone, .gone, .gone, .gone, .vec [[int 12, int 0, int 0, int 0, int 1]] 0 5, .var [int 3, nq], .var [int 0, nq], .var [nq, int 0, int 0, int 0], .vec [[int 7], [int 7]] 0 1, .var [nq, int 0, int 0, int 0], .gone, .gone, .gone, .gone, .gone, .gone, .gone, .gone, .gone, .vec [[int 12, int 0, int 0, int 0, int 1], [int 12, int 0, int 0, int 0, int 1]] 1 5, .gone, .gone, .gone, .gone, .var [nq, int 0, int 0, int 1], .var [int 5, int 3, int 7, int (-1), int 5, int 6, int 8, int 0], .var [int 5, int 3, int 7, int 25, int 2, int 3, int 9, int 0], .vec [[aA ⟨#[65]⟩, int 7, int 4, int 0, int 1, int 0, aA ⟨#[]⟩, int 0, int 0, nq, int 2, int 0, aA ⟨#[]⟩, int 0, int 0, nq]] 0 16, .var [.ref (.vec 31 0), nq, nq, .ref (.vec 34 0)], .var [int 0, int 1024], .vec [[int 1, int 7, int 0, int 0, int 0, int 1024, int 8, int 0], [int 12, int 0, int 0, int 1, int 0, int 1024, int 8, int 1], [int 5, int 3, int 7, int 25, int 2, int 3, int 9, int 0]] 0 8, .gone, .gone, .gone, .gone, .gone, .gone, .gone, .gone, .gone, .gone, .gone, .gone, .vec [[int 12, int 0, int 0, int 0, int 1], [int 5, int 3, int 7, int 0, int 3], [int 1, int 7, int 0, int 2, int 3]] 2 5, .gone, .gone, .gone, .gone, .gone, .gone, .gone, .gone, .vec [[int 7, int 2, int 9, int 1, int 4]] 0 5, .var [int 3, .ref (.vec 56 0)], .gone, .gone, .gone, .gone, .gone, .gone, .gone, .gone, .gone, .gone, .gone, .gone, .vec [[int 12, int 0, int 0, int 0, int 1], [int 5, int 3, int 7, int 0, int 2]] 1 5, .var [int 3, nq], .vec [[int 7]] 0 1, .gone, .gone, .gone, .gone, .gone, .gone, .gone, .gone, .gone, .gone, .gone, .gone, .gone, .vec [[int 12, int 0, int 0, int 0, int 1], [int 5, int 3, int 7, int 0, int 3], [int 1, int 7, int 0, int 2, int 3], [int 1, int 7, int 0, int 3, int 4], [int 12, int 0, int 0, int 0, int 1], [int 12, int 0, int 0, int 0, int 1]] 5 5, .gone, .gone, .gone, .gone, .gone, .gone, .gone, .gone, .gone, .gone, .gone, .gone, .gone, .gone, .gone, .gone, .gone, .gone, .gone, .gone, .gone, .gone, .gone, .gone, .gone, .gone, .gone, .gone, .gone, .gone, .gone, .gone, .gone, .gone, .gone, .gone, .gone, .gone, .gone, .gone, .gone, .gone, .gone, .gone, .gone, .vec [[int 7, int 1, int 9, bool true]] 0 4]⟩
theorem zb : s16w3.Ok Dg Γk := Gv pok uF (ms := [s16w0, s16w1]) (by kernel_rfl) ⟨y8, y9, trivial⟩
def s16w4 : Memo := ⟨23, [.agg [.ref (.vec 31 0), nq, nq, .ref (.vec 34 0)], int 3, int 2, int 9], [.gone, .gone, .gone, .gone, .gone, .gone, .gone, .gone, .vec [[int 12, int 0, int 0, int 0, int 1]] 0 5, .var [int 3, nq], .var [int 0, nq], .var [nq, int 0, int 0, int 0], .vec [[int 7], [int 7]] 0 1, .var [nq, int 0, int 0, int 0], .gone, .gone, .gone, .gone, .gone, .gone, .gone, .gone, .gone, .vec [[int 12, int 0, int 0, int 0, int 1], [int 12, int 0, int 0, int 0, int 1]] 1 5, .gone, .gone, .gone, .gone, .var [nq, int 0, int 0, int 1], .var [int 5, int 3, int 7, int (-1), int 5, int 6, int 8, int 0], .var [int 5, int 3, int 7, int 25, int 2, int 3, int 9, int 0], .vec [[aA ⟨#[65]⟩, int 7, int 4, int 0, int 1, int 0, aA ⟨#[]⟩, int 0, int 0, nq, int 2, int 0, aA ⟨#[]⟩, int 0, int 0, nq]] 0 16, .var [.ref (.vec 31 0), nq, nq, .ref (.vec 34 0)], .var [int 0, int 1024], .vec [[int 1, int 7, int 0, int 0, int 0, int 1024, int 8, int 0], [int 12, int 0, int 0, int 1, int 0, int 1024, int 8, int 1], [int 5, int 3, int 7, int 25, int 2, int 3, int 9, int 0]] 0 8, .gone, .gone, .gone, .gone, .gone, .gone, .gone, .gone, .gone, .gone, .gone, .gone, .vec [[int 12, int 0, int 0, int 0, int 1], [int 5, int 3, int 7, int 0, int 3], [int 1, int 7, int 0, int 2, int 3]] 2 5, .gone, .gone, .gone, .gone, .gone, .gone, .gone, .gone, .vec [[int 7, int 2, int 9, int 1, int 4]] 0 5, .var [int 3, .ref (.vec 56 0)]], .ret (.tup [.agg [int 3, nq], .ref (.vec 70 1), int 0]) [.gone, .gone, .gone, .gone, .gone, .gone, .gone, .gone, .vec [[int 12, int 0, int 0, int 0, int 1]] 0 5, .var [int 3, nq], .var [int 0, nq], .var [nq, int 0, int 0, int 0], .vec [[int 7], [int 7]] 0 1, .var [nq, int 0, int 0, int 0], .gone, .gone, .gone, .gone, .gone, .gone, .gone, .gone, .gone, .vec [[int 12, int 0, int 0, int 0, int 1], [int 12, int 0, int 0, int 0, int 1]] 1 5, .gone, .gone, .gone, .gone, .var [nq, int 0, int 0, int 1], .var [int 5, int 3, int 7, int (-1), int 5, int 6, int 8, int 0], .var [int 5, int 3, int 7, int 25, int 2, int 3, int 9, int 0], .vec [[aA ⟨#[65]⟩, int 7, int 4, int 0, int 1, int 0, aA ⟨#[]⟩, int 0, int 0, nq, int 2, int 0, aA ⟨#[]⟩, int 0, int 0, nq]] 0 16, .var [.ref (.vec 31 0), nq, nq, .ref (.vec 34 0)], .var [int 0, int 1024], .vec [[int 1, int 7, int 0, int 0, int 0, int 1024, int 8, int 0], [int 12, int 0, int 0, int 1, int 0, int 1024, int 8, int 1], [int 5, int 3, int 7, int 25, int 2, int 3, int 9, int 0]] 0 8, .gone, .gone, .gone, .gone, .gone, .gone, .gone, .gone, .gone, .gone, .gone, .gone, .vec [[int 12, int 0, int 0, int 0, int 1], [int 5, int 3, int 7, int 0, int 3], [int 1, int 7, int 0, int 2, int 3]] 2 5, .gone, .gone, .gone, .gone, .gone, .gone, .gone, .gone, .vec [[int 7, int 2, int 9, int 1, int 4]] 0 5, .var [int 3, .ref (.vec 56 0)], .gone, .gone, .gone, .gone, .gone, .gone, .gone, .gone, .gone, .gone, .gone, .gone, .vec [[int 12, int 0, int 0, int 0, int 1], [int 5, int 3, int 7, int 0, int 2]] 1 5]⟩
theorem zc : s16w4.Ok Dg Γk := Gv pok uF (ms := []) (by kernel_rfl) trivial
def s16wR : Memo := ⟨17, [], [], .ret (bool true) []⟩
theorem zd : s16wR.Ok Dg Γk := Gv pok uF (ms := [s16w2, s16w3, s16w4]) (by kernel_rfl) ⟨za, zb, zc, trivial⟩
theorem lx (h : List Blk) : Ev Dg Γk 17 [] h (bool true) h := Ev.frame0 rfl (Memo.call zd rfl) h
end Go.Vi
open Go Go.Proofs
namespace Go.Vi
set_option maxRecDepth 100000
theorem qB {w : WorldT} (h : jC w = true) : w.f.length ≤ 30 := by
 simp only [jC, Dl, decide_eq_true_eq, EW] at h
 omega
theorem WorldT.ok0.few {w : WorldT} (hw : w.ok0) (h : jC w = true) : w.ok := by
 have := qB h
 exact ⟨hw.c, hw.s, by omega, hw.lc, hw.ls, hw.i⟩
end Go.Vi
open Go Go.Proofs
namespace Go.Vi
set_option maxRecDepth 100000
end Go.Vi
open Go Go.Proofs
namespace Go.Vi
set_option maxRecDepth 100000
set_option maxHeartbeats 1000000
abbrev cnA (w : WorldT) (known st term : Int) : List AttT × Int := lV (ek w known st term) (lG w known term (ek w known st term))
def ze (w : WorldT) (st term known : Int) (now : List Int) : D := match (!(decide (st ≥ 0) && decide (st ≤ 19999)) || !(decide (term ≥ 0) && decide (term ≤ 1023))) with
 | true => m9 150
 | false => tB w known term now (cq w known st term) (jb term (ek w known st term)) (ek w known st term) (cnA w known st term).1 (cnA w known st term).2
theorem uG {w : WorldT} (hw : w.ok) {st term known : Int} {now : List Int} (hn : now.length ≤ 1000) (hN : (ah w.f known).length ≤ 100) (h : List Blk) : Ev Dg Γk 19 [.agg w.l, int st, int term, int known, ab (now.map fun n => [vi n])] h (ze w st term known now) h := by
 unfold ze
 cases hb : (!(decide (st ≥ 0) && decide (st ≤ 19999)) || !(decide (term ≥ 0) && decide (term ≤ 1023)))
 ·have h1 := ow hw (known := known) (st := st) (term := term)
  have h2 := qo hw (known := known) (st := st) (term := term)
  have h3 := oo term (ek w known st term)
  have h4 := w7 (ek w known st term) (lG w known term (ek w known st term))
  exact sit_a hw hn (by unfold al; omega) hN (by omega) (by unfold al; omega) (by unfold al; omega) (by simp only [E7, DZ, Fp]; omega) (by simp only [E7]; omega) (z8 hw) (tz hw (by omega) (by omega)) hb h
 ·exact Cr hb h
theorem zf {la : List AttT} {e : Int} (h : sitX la = .inr e) : (e != 0) = true := by
 unfold sitX at h
 split at h
 ·rename_i h1; cases h; exact h1
 ·split at h
  ·rename_i h2; cases h; exact h2
  ·simp at h
theorem oC {w : WorldT} (h : jC w = true) (known : Int) : (ah w.f known).length ≤ 30 := Nat.le_trans d7 (qB h)
end Go.Vi
open Go Go.Proofs
namespace Go.Vi
set_option maxRecDepth 100000
end Go.Vi
open Go Go.Proofs
namespace Go.Vi
set_option maxRecDepth 100000
set_option maxHeartbeats 400000
end Go.Vi
open Go Go.Proofs
namespace Go.Vi
open Go.ChangeShapes Go.WideShapes Go.ChangeAt Go.RowKit Go.Proofs.YtilebidefogaiaaGreatDoor
set_option maxRecDepth 100000
theorem ik : Dg.cellsOf 3 = 1 := by kernel_rfl
theorem tC : Dg.cellsOf 9 = 1 := by kernel_rfl
theorem xk : Dg.cellsOf 35 = 2 := by kernel_rfl
theorem Ct : Dg.cellsOf 72 = 1 := by kernel_rfl
theorem Cu : Dg.cellsOf 73 = 1 := by kernel_rfl
theorem Cv : Dg.cellsOf 74 = 1 := by kernel_rfl
theorem Cw : Dg.cellsOf 76 = 4 := by kernel_rfl
theorem Cx : Dg.cellsOf 87 = 2 := by kernel_rfl
theorem Cy : Dg.cellsOf 91 = 4 := by kernel_rfl
theorem Cz : Dg.bytesOf 91 = 40 := by kernel_rfl
theorem CA : Dg.bytesOf 87 = 24 := by kernel_rfl
theorem zg : Dg.bytesOf 102 = 32 := by kernel_rfl
theorem be {n : Nat} {ds : List Dp} (h : Shp Dg n 3 ds) : ∃ x, ds = [vi x] ∧ I64 x := by
 cases n with
 | zero => exact h.elim
 | succ n =>
  simp only [Shp, Tryz.underlying3] at h
  obtain ⟨x, rfl, hw⟩ := h
  refine ⟨x, rfl, ?_⟩
  have := bounds_i64 hw
  exact this
theorem oD {n : Nat} {ds : List Dp} (h : Shp Dg n 9 ds) : ∃ s, ds = [vs s] := by
 cases n with
 | zero => exact h.elim
 | succ n =>
  simp only [Shp, Tryz.underlying9] at h
  obtain ⟨s, rfl, _⟩ := h
  exact ⟨s, rfl⟩
theorem xl {n : Nat} {ds : List Dp} (h : Shp Dg n 35 ds) : ∃ a b, ds = [vi a, vi b] ∧ I64 a ∧ I64 b := by
 cases n with
 | zero => exact h.elim
 | succ n =>
  simp only [Shp, Tryz.underlying35, Er, ik, xk] at h
  obtain ⟨hl, h1, h2, _⟩ := h
  obtain ⟨a, e1, ha⟩ := be h1
  obtain ⟨b, e2, hb⟩ := be h2
  match ds, hl with
  | [x, y], _ =>
   simp at e1 e2
   subst e1; subst e2
   exact ⟨a, b, rfl, ha, hb⟩
theorem xm {n : Nat} {ds : List Dp} (h : Shp Dg n 91 ds) : ∃ c : Cls, ds = c.row ∧ c.ok := by
 cases n with
 | zero => exact h.elim
 | succ n =>
  simp only [Shp, Tryz.underlying91, Er, ik, tC, xk, Cy] at h
  obtain ⟨hl, h1, h2, h3, _⟩ := h
  obtain ⟨s, e1⟩ := oD h1
  obtain ⟨x, e2, hx⟩ := be h2
  obtain ⟨a, b, e3, ha, hb⟩ := xl h3
  match ds, hl with
  | [p, q, r, t], _ =>
   simp at e1 e2 e3
   obtain ⟨rfl, rfl⟩ := e3
   subst e1; subst e2
   exact ⟨⟨s, x, a, b⟩, rfl, hx, ha, hb⟩
theorem CB {n : Nat} {ds : List Dp} (h : Shp Dg n 87 ds) : ∃ c : FeeT, ds = c.row ∧ I64 c.credits := by
 cases n with
 | zero => exact h.elim
 | succ n =>
  simp only [Shp, Tryz.underlying87, Er, ik, tC, Cx] at h
  obtain ⟨hl, h1, h2, _⟩ := h
  obtain ⟨s, e1⟩ := oD h1
  obtain ⟨x, e2, hx⟩ := be h2
  match ds, hl with
  | [p, q], _ =>
   simp at e1 e2
   subst e1; subst e2
   exact ⟨⟨s, x⟩, rfl, hx⟩
theorem il {α : Type} {row : α → List Dp} {ok : α → Prop} : ∀ {es : List (List Dp)}, (∀ r ∈ es, ∃ a, r = row a ∧ ok a) → ∃ l : List α, es = l.map row ∧ ∀ a ∈ l, ok a
 | [], _ => ⟨[], rfl, by simp⟩
 | r :: es, h => by
  obtain ⟨a, rfl, ha⟩ := h r (Ed ..)
  obtain ⟨l, rfl, hl⟩ := il (fun r hr => h r (Eg _ hr))
  exact ⟨a :: l, rfl, fun b hb => (D2.1 hb).elim (fun e => e ▸ ha) (hl b)⟩
theorem fU {n k : Nat} (h : n * k ≤ reachBytes) (hk : 1 ≤ k) : n ≤ 140737488355328 := by
 have : n ≤ n * k := Nat.le_mul_of_pos_right n hk
 unfold reachBytes at h
 omega
theorem ly {n : Nat} {ds : List Dp} (h : Shp Dg n 72 ds) : ∃ l : List Cls, ds = [.sl (l.map Cls.row)] ∧ (∀ c ∈ l, c.ok) ∧ al l := by
 cases n with
 | zero => exact h.elim
 | succ n =>
  simp only [Shp, Tryz.underlying72, Cz] at h
  obtain ⟨es, rfl, hb, he⟩ := h
  obtain ⟨l, rfl, hl⟩ := il (row := Cls.row) (ok := Cls.ok) (fun r hr => xm (he r hr))
  exact ⟨l, rfl, hl, by have := fU hb (by omega); simpa [al] using this⟩
theorem zh {n : Nat} {ds : List Dp} (h : Shp Dg n 73 ds) : ∃ l : List FeeT, ds = [.sl (l.map FeeT.row)] ∧ (∀ c ∈ l, I64 c.credits) ∧ al l := by
 cases n with
 | zero => exact h.elim
 | succ n =>
  simp only [Shp, Tryz.underlying73, CA] at h
  obtain ⟨es, rfl, hb, he⟩ := h
  obtain ⟨l, rfl, hl⟩ := il (row := FeeT.row) (ok := fun c => I64 c.credits) (fun r hr => CB (he r hr))
  exact ⟨l, rfl, hl, by have := fU hb (by omega); simpa [al] using this⟩
end Go.Vi
open Go Go.Proofs
namespace Go.Vi
open Go.ChangeShapes Go.WideShapes Go.ChangeAt Go.RowKit Go.Proofs.YtilebidefogaiaaGreatDoor
set_option maxRecDepth 100000
theorem ownK : ownKnob Dg.godebug = none := by kernel_rfl
theorem CC : laidOutB Dg = true := by kernel_rfl
def kd (a b c d : Bool) (f g : Value) : List Value := [.bool a, .bool b, .bool c, .bool d, f, g]
def kf (k : Nat) : Value := .func (.func k) #[] #[]
def kindsCells : List Value :=
 kd false false false false .nilFunc .nilFunc ++ kd false false false true (kf 257) (kf 258) ++ kd false false false true (kf 259) (kf 260) ++ kd false true false true (kf 261) (kf 262) ++
 kd false false false true (kf 263) (kf 264) ++ kd true true false false (kf 265) (kf 267) ++ kd true true false false (kf 269) (kf 270) ++ kd false true false false (kf 271) (kf 272) ++
 kd false true true false (kf 273) (kf 274) ++ kd true false false false (kf 266) (kf 275)
noncomputable def lz (os : Os) : World :=
 { World.holding Dg os ⟨#[], #[], []⟩ with heap := (World.holding Dg os ⟨#[], #[], []⟩).heap.modify 0 fun
   | .cells _ t frozen => .cells kindsCells.toArray t frozen
   | o => o }
theorem laid_met (os : Os) (args : Array Value) : laidMetH Dg [("sizar/rules.kinds", FF)] ((lz os).forCall (fun _ _ => 0) ⟨#[], args, []⟩).memory :=
 laidMetH_of_parts3 (fuel := 8) (laidMet_nil _ _) (by kernel_rfl) (by kernel_rfl)
end Go.Vi
open Go Go.Proofs
namespace Go.Vi
open Go.ChangeShapes Go.WideShapes Go.ChangeAt Go.RowKit Go.Proofs.YtilebidefogaiaaGreatDoor
set_option maxRecDepth 100000
theorem CD : Dg.cellsOf 22 = 1 := by kernel_rfl
theorem CE : Dg.cellsOf 23 = 1 := by kernel_rfl
theorem CF : Dg.cellsOf 24 = 1 := by kernel_rfl
theorem xn : Dg.cellsOf 26 = 3 := by kernel_rfl
theorem CG : Dg.cellsOf 27 = 1 := by kernel_rfl
theorem CH : Dg.cellsOf 29 = 4 := by kernel_rfl
theorem xp : Dg.cellsOf 56 = 3 := by kernel_rfl
theorem xq : Dg.cellsOf 58 = 2 := by kernel_rfl
theorem CI : Dg.cellsOf 60 = 8 := by kernel_rfl
theorem xr : Dg.cellsOf 102 = 4 := by kernel_rfl
theorem zi : Dg.cellsOf 109 = 1 := by kernel_rfl
theorem tD : Dg.cellsOf 111 = 6 := by kernel_rfl
theorem zj : Dg.cellsOf 113 = 16 := by kernel_rfl
theorem CJ : Dg.bytesOf 76 = 96 := by kernel_rfl
theorem zk : Dg.bytesOf 111 = 72 := by kernel_rfl
theorem zl : Dg.bytesOf 113 = 184 := by kernel_rfl
theorem CK {n : Nat} {ds : List Dp} (h : Shp Dg n 56 ds) : ∃ a b c, ds = [vi a, vi b, vi c] ∧ I64 a ∧ I64 b ∧ I64 c := by
 cases n with
 | zero => exact h.elim
 | succ n =>
  simp only [Shp, Tryz.underlying56, Er, ik, xp] at h
  obtain ⟨hl, h1, h2, h3, _⟩ := h
  obtain ⟨a, e1, ha⟩ := be h1
  obtain ⟨b, e2, hb⟩ := be h2
  obtain ⟨c, e3, hc⟩ := be h3
  match ds, hl with
  | [p, q, r], _ =>
   simp at e1 e2 e3
   subst e1; subst e2; subst e3
   exact ⟨a, b, c, rfl, ha, hb, hc⟩
theorem zm {n : Nat} {ds : List Dp} (h : Shp Dg n 58 ds) : ∃ a b, ds = [vi a, vi b] ∧ I64 a ∧ I64 b := by
 cases n with
 | zero => exact h.elim
 | succ n =>
  simp only [Shp, Tryz.underlying58, Er, ik, xq] at h
  obtain ⟨hl, h1, h2, _⟩ := h
  obtain ⟨a, e1, ha⟩ := be h1
  obtain ⟨b, e2, hb⟩ := be h2
  match ds, hl with
  | [p, q], _ =>
   simp at e1 e2
   subst e1; subst e2
   exact ⟨a, b, rfl, ha, hb⟩
theorem zn {n : Nat} {ds : List Dp} (h : Shp Dg n 60 ds) : ∃ f : FactT, ds = f.row ∧ f.ok := by
 cases n with
 | zero => exact h.elim
 | succ n =>
  simp only [Shp, Tryz.underlying60, Er, ik, xp, xq, CI] at h
  obtain ⟨hl, h1, h2, h3, h4, h5, _⟩ := h
  obtain ⟨a, b, c, e1, ha, hb, hc⟩ := CK h1
  obtain ⟨d, e2, hd⟩ := be h2
  obtain ⟨x, y, e3, hx, hy⟩ := zm h3
  obtain ⟨k, e4, hk⟩ := be h4
  obtain ⟨m, e5, hm⟩ := be h5
  match ds, hl with
  | [p1, p2, p3, p4, p5, p6, p7, p8], _ =>
   simp at e1 e2 e3 e4 e5
   obtain ⟨rfl, rfl, rfl⟩ := e1
   obtain ⟨rfl, rfl⟩ := e3
   subst e2; subst e4; subst e5
   exact ⟨⟨a, b, c, d, x, y, k, m⟩, rfl, ha, hb, hc, hd, hx, hy, hk, hm⟩
theorem xt {n : Nat} {ds : List Dp} (h : Shp Dg n 27 ds) : ∃ l : List FactT, ds = [.sl (l.map Ds)] ∧ (∀ c ∈ l, c.ok) := by
 cases n with
 | zero => exact h.elim
 | succ n =>
  simp only [Shp, Tryz.underlying27] at h
  obtain ⟨es, rfl, _, he⟩ := h
  obtain ⟨l, rfl, hl⟩ := il (row := Ds) (ok := FactT.ok) (fun r hr => zn (he r hr))
  exact ⟨l, rfl, hl⟩
theorem ne : ∀ {ks : List RuleT}, (∀ k ∈ ks, k.ok) → kQ ks
 | [], _ => trivial
 | k :: ks, h => ⟨h k (Ed ..), ne fun x hx => h x (Eg _ hx)⟩
theorem oE : ∀ {n : Nat} {ds : List Dp}, Shp Dg n 111 ds → ∃ r : RuleT, ds = r.row ∧ r.ok
 | 0, _, h => h.elim
 | 1, _, h => by
  simp only [Shp, IU, Er] at h
  exact h.2.1.elim
 | n + 2, ds, h => by
  rw [Shp, IU] at h
  simp only [Er, ik, tC, zi, tD] at h
  obtain ⟨hl, h1, h2, h3, h4, h5, h6, _⟩ := h
  obtain ⟨a, e1, ha⟩ := be h1
  obtain ⟨b, e2, hb⟩ := be h2
  obtain ⟨s, e3⟩ := oD h3
  obtain ⟨c, e4, hc⟩ := be h4
  obtain ⟨d, e5, hd⟩ := be h5
  rw [Shp, Tryz.underlying109] at h6
  simp only [zk] at h6
  obtain ⟨es, e6, hb6, he⟩ := h6
  obtain ⟨l, rfl, hk⟩ := il (row := RuleT.row) (ok := RuleT.ok) (fun r hr => oE (he r hr))
  have hs : al l := by have := fU hb6 (by omega); simpa [al] using this
  match ds, hl with
  | [p1, p2, p3, p4, p5, p6], _ =>
   simp at e1 e2 e3 e4 e5 e6
   subst e1; subst e2; subst e3; subst e4; subst e5; subst e6
   refine ⟨.mk a b s c d l, ?_, ?_⟩
   ·rw [RuleT.row, eT]
   ·rw [RuleT.ok]; exact ⟨⟨ha, hb, hc, hd, hs⟩, ne hk⟩
theorem uH {n : Nat} {ds : List Dp} (h : Shp Dg n 113 ds) : ∃ c : CourseT, ds = c.row ∧ c.ok := by
 cases n with
 | zero => exact h.elim
 | succ n =>
  rw [Shp, Tryz.underlying113] at h
  simp only [Er, ik, tC, tD, zj] at h
  obtain ⟨hl, h1, h2, h3, h4, h5, h6, _⟩ := h
  obtain ⟨s, e1⟩ := oD h1
  obtain ⟨a, e2, _⟩ := be h2
  obtain ⟨b, e3, _⟩ := be h3
  obtain ⟨c, e4, _⟩ := be h4
  obtain ⟨r, e5, hr⟩ := oE h5
  obtain ⟨t, e6, ht⟩ := oE h6
  rw [← RuleT.fl_row] at e5 e6
  match ds, hl with
  | [p1, p2, p3, p4, p5, p6, p7, p8, p9, p10, p11, p12, p13, p14, p15, p16], _ =>
   simp [RuF.row] at e1 e2 e3 e4 e5 e6
   obtain ⟨rfl, rfl, rfl, rfl, rfl, rfl⟩ := e5
   obtain ⟨rfl, rfl, rfl, rfl, rfl, rfl⟩ := e6
   subst e1; subst e2; subst e3; subst e4
   exact ⟨⟨s, a, b, c, r, t⟩, rfl, hr, ht⟩
theorem rZ {n : Nat} {ds : List Dp} (h : Shp Dg n 22 ds) : ∃ l : List CourseT, ds = [.sl (l.map Dt)] ∧ (∀ c ∈ l, c.ok) ∧ al l := by
 cases n with
 | zero => exact h.elim
 | succ n =>
  simp only [Shp, Tryz.underlying22, zl] at h
  obtain ⟨es, rfl, hb, he⟩ := h
  obtain ⟨l, rfl, hl⟩ := il (row := Dt) (ok := CourseT.ok) (fun r hr => uH (he r hr))
  exact ⟨l, rfl, hl, by have := fU hb (by omega); simpa [al] using this⟩
theorem r8 {n : Nat} {ds : List Dp} (h : Shp Dg n 102 ds) : ∃ c : ClauseT, ds = c.row ∧ True := by
 cases n with
 | zero => exact h.elim
 | succ n =>
  simp only [Shp, Tryz.underlying102, Er, ik, xr] at h
  obtain ⟨hl, h1, h2, h3, h4, _⟩ := h
  obtain ⟨a, e1, _⟩ := be h1
  obtain ⟨b, e2, _⟩ := be h2
  obtain ⟨c, e3, _⟩ := be h3
  obtain ⟨d, e4, _⟩ := be h4
  match ds, hl with
  | [p, q, r, t], _ =>
   simp at e1 e2 e3 e4
   subst e1; subst e2; subst e3; subst e4
   exact ⟨⟨a, b, c, d⟩, rfl, trivial⟩
theorem zo {n : Nat} {ds : List Dp} (h : Shp Dg n 76 ds) : ∃ s : SysT, ds = s.row ∧ s.ok := by
 cases n with
 | zero => exact h.elim
 | succ n =>
  simp only [Shp, Tryz.underlying76, Er, Ct, Cu, Cv, Cw] at h
  obtain ⟨hl, h1, h2, h3, h4, _⟩ := h
  obtain ⟨a, e1, a1, a2⟩ := ly h1
  obtain ⟨b, e2, b1, b2⟩ := zh h2
  obtain ⟨c, e3, c1, c2⟩ := ly h3
  have h5 : ∃ l : List ClauseT, (List.take 1 (List.drop 3 ds)) = [.sl (l.map ClauseT.row)] ∧ al l := by
   cases n with
   | zero => exact h4.elim
   | succ n =>
    simp only [Shp, Tryz.underlying74, zg] at h4
    obtain ⟨es, e, hb, he⟩ := h4
    obtain ⟨l, rfl, _⟩ := il (row := ClauseT.row) (ok := fun _ => True) (fun r hr => r8 (he r hr))
    exact ⟨l, e, by have := fU hb (by omega); simpa [al] using this⟩
  obtain ⟨d, e4, d1⟩ := h5
  match ds, hl with
  | [p, q, r, t], _ =>
   simp at e1 e2 e3 e4
   subst e1; subst e2; subst e3; subst e4
   exact ⟨⟨a, b, c, d⟩, rfl, ⟨a1, c1, b1, a2, c2, b2, by simpa [al, SysT.sys] using d1⟩⟩
theorem r9 {n : Nat} {ds : List Dp} (h : Shp Dg n 24 ds) : ∃ l : List SysT, ds = [.sl (l.map Dw)] ∧ (∀ c ∈ l, c.ok) ∧ al l := by
 cases n with
 | zero => exact h.elim
 | succ n =>
  simp only [Shp, Tryz.underlying24, CJ] at h
  obtain ⟨es, rfl, hb, he⟩ := h
  obtain ⟨l, rfl, hl⟩ := il (row := Dw) (ok := SysT.ok) (fun r hr => zo (he r hr))
  exact ⟨l, rfl, hl, by have := fU hb (by omega); simpa [al] using this⟩
theorem xu {n : Nat} {ds : List Dp} (h : Shp Dg n 23 ds) : ∃ l, ds = [.sl l] := by
 cases n with
 | zero => exact h.elim
 | succ n =>
  simp only [Shp, Tryz.underlying23] at h
  obtain ⟨es, rfl, _⟩ := h
  exact ⟨es, rfl⟩
theorem xv {n : Nat} {ds : List Dp} (h : Shp Dg n 29 ds) : ∃ w : WorldT, ds.map .p = w.l ∧ w.ok0 := by
 cases n with
 | zero => exact h.elim
 | succ n =>
  rw [Shp, Tryz.underlying29] at h
  simp only [Er, xn, CG, CH] at h
  obtain ⟨hl, h1, h2, _⟩ := h
  obtain ⟨f, e4, hf⟩ := xt h2
  cases n with
  | zero => exact h1.elim
  | succ n =>
   rw [Shp, Tryz.underlying26] at h1
   simp only [Er, CD, CE, CF, xn] at h1
   obtain ⟨_, g1, g2, g3, _⟩ := h1
   obtain ⟨c, e1, c1, c2⟩ := rZ g1
   obtain ⟨p, e2⟩ := xu g2
   obtain ⟨s, e3, s1, s2⟩ := r9 g3
   match ds, hl with
   | [x, y, z, t], _ =>
    simp at e1 e2 e3 e4
    subst e1; subst e2; subst e3; subst e4
    exact ⟨⟨c, p, s, f⟩, rfl, ⟨c1, s1, c2, s2, hf⟩⟩
end Go.Vi
open Go Go.Proofs
namespace Go.Vi
open Go.ChangeShapes Go.WideShapes Go.ChangeAt Go.RowKit Go.Proofs.YtilebidefogaiaaGreatDoor
set_option maxRecDepth 100000
def plainW : List TypeId := [3, 4, 9, 22, 23, 24, 26, 27, 29, 30, 35, 56, 58, 60, 72, 73, 74, 76, 87, 91, 102, 109, 111, 113, 294, 296, 298, 300]
theorem CL : s5 Dg plainW = true := by kernel_rfl
theorem xw {H : Type} {enc : TypeId × Value → H} {W : World} {base : Nat} {v : Value} {d : DataW H} {p : List MemPlace}
  (hok : Hh Dg W .any base 29 v) (h : DataW.Trod enc Dg W 0 (fun _ => true) true 29 v d p) (hw : (d.weights Dg 29).all (· ≤ reachBytes) = true) :
  ∃ w : WorldT, w.ok0 ∧ Rel W (avs (fun _ => False) (fun _ => none) []) (fun _ => none) [] (.agg w.l) v := by
 unfold Hh at hok
 rw [Tryz.underlying29] at hok
 obtain ⟨cs, rfl, _, _⟩ := hok
 obtain ⟨fuel, hf⟩ := h
 obtain ⟨ds, h1, h2⟩ := mH CL n7 fuel 29 _ d p (by decide) hf hw
 obtain ⟨w, e, hw0⟩ := xv h1
 refine ⟨w, hw0, ?_⟩
 rw [← e]
 simp only [Rel]
 exact ⟨cs, rfl, h2.relL⟩
end Go.Vi
open Go Go.Proofs
namespace Go.Vi
open Go.ChangeShapes Go.WideShapes Go.ChangeAt Go.RowKit Go.Proofs.YtilebidefogaiaaGreatDoor
set_option maxRecDepth 100000
def lookF (P : Program) (ks : List Nat) (bs : List UInt8) : Option Nat := ks.find? fun k => match P.funcs[k]? with
 | some fn => (fn.name.toUTF8.data.toList == bs) && (P.funcNamed fn.name == some k)
 | none => false
theorem zp {s t : String} (h : s.toUTF8.data.toList = t.toUTF8.data.toList) : s = t := by
 have h1 : s.toUTF8 = t.toUTF8 := by
  cases hs : s.toUTF8; cases ht : t.toUTF8
  rw [hs, ht] at h
  congr 1
  exact Array.toList_inj.1 h
 exact String.toByteArray_inj.1 h1
theorem sa {P : Program} {ks : List Nat} {t : TypeId} {v : Value} {b : UInt8} {r : List UInt8} {k : Nat} (hv : funcToken P (t, v) = b :: r) (hk : lookF P ks (b :: r) = some k) : v = .func (.func k) #[] #[] := by
 obtain ⟨f, fn, rfl, h1, h2, h3⟩ := funcToken_tells hv
 have h4 := List.find?_some hk
 split at h4
 ·rename_i fn' hfn
  simp only [Dl, beq_iff_eq] at h4
  have : fn.name = fn'.name := zp (h3.trans h4.1.symm)
  rw [this, h4.2] at h2
  cases h2
  rfl
 ·simp at h4
def expect (P : Program) (ks : List Nat) : Nat → TypeId → DataW (List UInt8) → Option (List Value)
 | 0, _, _ => none
 | n + 1, t, d => match P.underlying t with
  | some .bool => match d with
   | .lit (.bool b) => some [.bool b]
   | _ => none
  | some (.func ..) => match d with
   | .nil => some [.nilFunc]
   | .held (b :: r) => (lookF P ks (b :: r)).map fun k => [.func (.func k) #[] #[]]
   | _ => none
  | some (.struct fs) => match d with
   | .agg ds => if cW P fs.toList 0 (P.cellsOf t) then (zipE (fun f d => expect P ks n f d) (fs.toList.map (·.type)) ds) else none
   | _ => none
  | some (.array m e) => match d with
   | .agg ds => if decide (P.cellsOf t = m * P.cellsOf e) = true then zipE (fun f d => expect P ks n f d) (DQ m e) ds else none
   | _ => none
  | _ => none
where
 zipE (g : TypeId → DataW (List UInt8) → Option (List Value)) : List TypeId → List (DataW (List UInt8)) → Option (List Value)
  | [], [] => some []
  | t :: ts, d :: ds => (g t d).bind fun a => (zipE g ts ds).map fun b => a ++ b
  | _, _ => none
theorem qC {P : Program} {g : TypeId → DataW (List UInt8) → Option (List Value)} {tr : TypeId → List Value → Option (DataW (List UInt8) × List MemPlace)} {cs : List Value}
  (hg : ∀ t d ys, g t d = some ys → ∀ c p, tr t c = some (d, p) → c = ys) : ∀ (fs : List Field) (acc : Nat) (xs : List (DataW (List UInt8) × List MemPlace)) (ys : List Value),
  (fs.mapM fun f => tr f.type ((cs.drop f.offset).take (P.cellsOf f.type))) = some xs → cW P fs acc cs.length = true → expect.zipE g (fs.map (·.type)) (xs.map (·.1)) = some ys → cs.drop acc = ys
 | [], acc, xs, ys, hm, hc, hz => by
  simp at hm
  subst hm
  simp [expect.zipE] at hz
  subst hz
  simp [cW] at hc
  simp [hc]
 | f :: fs, acc, xs, ys, hm, hc, hz => by
  simp only [H7, Ih, FO, Option.pure_def, Df] at hm
  obtain ⟨x, hx, xs', hxs, rfl⟩ := hm
  simp only [cW, Dl, beq_iff_eq] at hc
  simp only [En, expect.zipE, FO, Dq] at hz
  obtain ⟨a, ha, b, hb, rfl⟩ := hz
  have h1 := hg _ _ _ ha _ x.2 (by rw [hx])
  have h2 := qC hg fs _ xs' b hxs hc.2 hb
  rw [← h1, ← h2, hc.1, ← Hd, Ii]
theorem tE {e : TypeId} {c : Nat} {g : TypeId → DataW (List UInt8) → Option (List Value)} {tr : TypeId → List Value → Option (DataW (List UInt8) × List MemPlace)} {cs : List Value}
  (hg : ∀ t d ys, g t d = some ys → ∀ c p, tr t c = some (d, p) → c = ys) : ∀ (n k : Nat) (xs : List (DataW (List UInt8) × List MemPlace)) (ys : List Value),
  ((List.range' k n).mapM fun i => tr e ((cs.drop (i * c)).take c)) = some xs → cs.length = (k + n) * c → expect.zipE g (DQ n e) (xs.map (·.1)) = some ys → cs.drop (k * c) = ys
 | 0, k, xs, ys, hm, hc, hz => by
  simp at hm
  subst hm
  simp [expect.zipE] at hz
  subst hz
  exact List.drop_eq_nil_of_le (by rw [hc]; simp)
 | n + 1, k, xs, ys, hm, hc, hz => by
  rw [List.range'_succ] at hm
  simp only [H7, Ih, FO, Option.pure_def, Df] at hm
  obtain ⟨x, hx, xs', hxs, rfl⟩ := hm
  rw [List.replicate_succ] at hz
  simp only [En, expect.zipE, FO, Dq] at hz
  obtain ⟨a, ha, b, hb, rfl⟩ := hz
  have h1 := hg _ _ _ ha _ x.2 (by rw [hx])
  have h2 := tE hg n (k + 1) xs' b hxs (by rw [hc]; congr 1; omega) hb
  rw [← h1, ← h2, Nat.add_mul, Nat.one_mul, ← Hd, Ii]
theorem lA {P : Program} {ks : List Nat} {w : World} {sp : Nat → Bool} : ∀ (n : Nat) (t : TypeId) (d : DataW (List UInt8)) (ys : List Value), expect P ks n t d = some ys → ∀ (fuel : Nat) (cs : List Value) (p : List MemPlace), Gu (funcToken P) P w 0 sp true fuel t cs = some (d, p) → cs = ys
 | 0, _, _, _, h => by simp [expect] at h
 | n + 1, t, d, ys, h => by
  intro fuel cs p ht
  cases fuel with
  | zero => simp [Gu] at ht
  | succ fuel =>
   unfold expect at h
   unfold Gu at ht
   cases hu : P.underlying t with
   | none => rw [hu] at h; simp at h
   | some td =>
    rw [hu] at h ht
    cases td with
    | bool =>
     simp only at h ht
     split at h
     ·split at ht <;> simp_all
     ·simp at h
    | func a b c =>
     simp only at h ht
     split at h
     ·split at ht <;> simp_all
     ·rename_i b r
      obtain ⟨k, hk, rfl⟩ := Dq.1 h
      split at ht
      all_goals (try (simp_all; done))
      ·rename_i fn first captured _ _
       simp only [if_true, Df, Di, DataW.held.injEq] at ht
       rw [sa ht.1 hk]
     ·simp at h
    | struct fs =>
     simp only at h ht
     split at h
     ·split at h
      ·rename_i hc
       split at ht
       ·rename_i hl
        obtain ⟨xs, hxs, he⟩ := Dq.1 ht
        simp only [Di, Iw] at he
        obtain ⟨rfl, _⟩ := he
        have := qC (tr := fun t c => Gu (funcToken P) P w 0 sp true fuel t c) (fun t d ys hg c p hp => lA n t d ys hg fuel c p hp) fs.toList 0 xs ys hxs (by rw [hl]; exact hc) h
        simpa using this
       ·simp at ht
      ·simp at h
     ·simp at h
    | array m e =>
     simp only at h ht
     split at h
     ·split at ht
      ·rename_i hl
       obtain ⟨xs, hxs, he⟩ := Dq.1 ht
       simp only [Di, Iw] at he
       obtain ⟨rfl, _⟩ := he
       split at h
       ·rename_i hc
        rw [List.range_eq_range'] at hxs
        have := tE (tr := fun t c => Gu (funcToken P) P w 0 sp true fuel t c) (fun t d ys hg c p hp => lA n t d ys hg fuel c p hp) m 0 xs ys hxs (by rw [hl, Nat.zero_add]; exact of_decide_eq_true hc) h
        simpa using this
       ·simp at h
      ·simp at ht
     ·simp at h
    | _ => simp at h
end Go.Vi
open Go Go.Proofs
namespace Go.Vi
open Go.ChangeShapes Go.WideShapes Go.ChangeAt Go.RowKit Go.Proofs.YtilebidefogaiaaGreatDoor
set_option maxRecDepth 100000
def CM : List Nat := [257, 258, 259, 260, 261, 262, 263, 264, 265, 267, 269, 270, 271, 272, 273, 274, 266, 275]
def kindsW : DataW Unit := match (FF : DataW Unit) with
 | .iface _ d => d
 | d => d
theorem lB : Dg.globalNamed "sizar/rules.kinds" = some 0 := by kernel_rfl
noncomputable def Ae : TypeId := ((Dg.globals[0]?).map (·.type)).getD 0
theorem uI : (Dg.globals[0]?).map (·.type) = some Ae := by kernel_rfl
theorem qD : expect Dg CM 4 Ae kindsW.funcsOut = some kindsCells := by kernel_rfl
theorem sb {W : World} (h : laidMetH Dg [("sizar/rules.kinds", FF)] W) : ∃ cs : Array Value, W.var? Dg "sizar/rules.kinds" = some cs ∧ cs.toList = kindsCells := by
 obtain ⟨g, t, cs, fuel, p, h1, h2, h3, h4⟩ := laidMetH.funcs h (n := "sizar/rules.kinds") (d := kindsW) (List.mem_singleton.2 rfl)
 rw [lB] at h1
 cases h1
 rw [uI] at h2
 cases h2
 exact ⟨cs, h3, lA 4 _ _ _ qD fuel _ _ h4⟩
theorem nf {w : World} {av : Nat → Prop} {blk : Nat} {cs : Array Value} (hb : ∀ off, w.cell? ⟨blk, off, none⟩ = cs[off]?) (hav : ∀ k, ¬ av k) : ∀ (ys : List Value) (off : Nat), cs.toList.drop off = ys → RelCells w av blk off (ys.map .v)
 | [], _, _ => by simp [RelCells]
 | y :: ys, off, h => by
  have h1 : cs[off]? = some y := by
   have := congrArg List.head? h
   rw [List.head?_drop] at this
   simpa using this
  have h2 : cs.toList.drop (off + 1) = ys := by
   rw [← Hd, h]; rfl
  simp only [En, RelCells]
  exact ⟨⟨hav blk, y, by rw [hb, h1], by simp [RelP]⟩, nf hb hav ys (off + 1) h2⟩
theorem xx : vU = kindsCells.map .v := rfl
theorem xy {W : World} (h : laidMetH Dg [("sizar/rules.kinds", FF)] W) : ∀ g cs, Γk g = some cs → RelCells W (avs (fun _ => False) (fun _ => none) []) g 0 cs := by
 intro g cs hg
 obtain ⟨xs, h1, h2⟩ := sb h
 have h0 : g = 0 ∧ cs = vU := by
  unfold Γk at hg
  split at hg
  ·exact ⟨rfl, (Option.some.inj hg).symm⟩
  ·simp at hg
 obtain ⟨rfl, rfl⟩ := h0
 rw [xx]
 refine nf (cs := xs) (fun off => ?_) n7 _ 0 (by rw [List.drop_zero, h2])
 rw [World.var?, lB] at h1
 simp only [Option.bind_some] at h1
 unfold World.cell?
 split at h1
 ·rename_i c a b hh
  cases h1
  simp only [hh]
  rfl
 ·simp at h1
end Go.Vi
open Go Go.Proofs
namespace Go.Vi
open Go.ChangeShapes Go.WideShapes Go.ChangeAt Go.RowKit Go.Proofs.YtilebidefogaiaaGreatDoor
set_option maxRecDepth 100000
theorem CN : s5 Dg [3, 30] = true := by kernel_rfl
theorem CO : Dg.bytesOf 3 = 8 := by kernel_rfl
theorem zq {n : Nat} {ds : List Dp} (h : Shp Dg n 30 ds) : ∃ l : List Int, ds = [.sl (l.map fun n : Int => [vi n])] := by
 cases n with
 | zero => exact h.elim
 | succ n =>
  simp only [Shp, Hl, CO] at h
  obtain ⟨es, rfl, hb, he⟩ := h
  obtain ⟨l, rfl, _⟩ := il (row := fun n : Int => [vi n]) (ok := fun _ => True) (fun r hr => by obtain ⟨x, e, _⟩ := be (he r hr); exact ⟨x, e, trivial⟩)
  exact ⟨l, rfl⟩
theorem zr {H : Type} {enc : TypeId × Value → H} {W : World} {base : Nat} {v : Value} {d : DataW H} {p : List MemPlace}
  (hok : Hh Dg W .any base 30 v) (h : DataW.Trod enc Dg W 0 (fun _ => true) true 30 v d p) (hw : (d.weights Dg 30).all (· ≤ reachBytes) = true) :
  ∃ now : List Int, Rel W (avs (fun _ => False) (fun _ => none) []) (fun _ => none) [] (ab (now.map fun n => [vi n])) v := by
 obtain ⟨fuel, hf⟩ := h
 unfold Hh at hok
 rw [Hl] at hok
 have hc : v.cells.toList = [v] := by
  cases v <;> first | rfl | skip
  unfold Cell.okWide at hok
  rw [Hl] at hok
  exact hok.elim
 rw [hc] at hf
 obtain ⟨ds, h1, h2⟩ := mH CN n7 fuel 30 _ d p (by decide) hf hw
 obtain ⟨l, rfl⟩ := zq h1
 refine ⟨l, ?_⟩
 simp only [RelPL, and_true] at h2
 simpa [ab, Rel] using h2
end Go.Vi
open Go Go.Proofs
namespace Go.Vi
set_option maxRecDepth 100000
set_option maxHeartbeats 4000000
def oG (last : Int) (x : SeenT) : Bool := !(decide (x.course ≥ last + 1) && decide (x.course ≤ 4095)) || !(decide (x.tries ≥ 0) && decide (x.tries ≤ 100)) || !(decide (x.best ≥ -1) && decide (x.best ≤ 12)) || (decide (x.best ≥ 0) != decide (x.tries ≥ 1))
def ftF (x : SeenT) (last : Int) : Int ⊕ Unit := bif oG last x then .inr () else .inl x.course
abbrev ftS (l : List (List Dp)) (e n d : Int) (last i : Int) : AS := { t := mkT 53 0 [(1, .ref (.ptr 0 0)), (2, int 0), (3, int last), (7, ab l), (8, int l.length), (9, int i)], h := [.var [ab l, int e, int n, int d]], m := [] }
abbrev ftE (l : List (List Dp)) (e n d : Int) : AS := { t := mkT 53 0 [(1, .ref (.ptr 0 0))], h := [.var [ab l, int e, int n, int d]], m := [] }
abbrev ftX : Unit → Exit × AS := fun _ => (.ret, { t := mkT 53 0 [(2, int 120)], h := [], m := [] })
noncomputable abbrev dC (l : List (List Dp)) (e : Int) (n : Int) (d : Int) (x : SeenT) : List Blk := [.var [ab l, int e, int n, int d], .var [int x.course, int x.tries, int x.best, bool x.now]]
theorem CP {l : List (List Dp)} {e n d last : Int} {x : SeenT} {i : Nat} (hr : aM (i : Int) l x.row 4) (hlw : Dj.wrap (last + 1) = last + 1) (hlt : decide ((i : Int) < (l.length : Int)) = true) (hw : Dj.wrap ((i : Int) + 1) = ((i + 1 : Nat) : Int)) : (CW Dg Γ0 [] false (sub Tryz.f58 0) (ftS l e n d last i) (ad (fun s => ftS l e n d s ((i + 1 : Nat) : Int)) ftX (ftF x last)).1 (ad (fun s => ftS l e n d s ((i + 1 : Nat) : Int)) ftX (ftF x last)).2) := by
 cases hc0 : !(decide (x.course ≥ Dr Dj (last + 1)) && decide (x.course ≤ 4095)) || !(decide (x.tries ≥ 0) && decide (x.tries ≤ 100)) || !(decide (x.best ≥ -1) && decide (x.best ≤ 12)) || !decide (x.best ≥ 0) == decide (x.tries ≥ 1)
 ·refine CW.cast (CW.symX (s' := { t := mkT 53 0 [(1, .ref (.ptr 0 0)), (2, int 0), (3, int x.course), (7, ab l), (8, int (↑(Dh l) : Int)), (9, int (Dr Dj ((↑i : Int) + 1)))], h := [.var [ab l, int e, int n, int d]], m := [] }) (e := Exit.normal) pok [.st (.mask [1, 2, 3, 7, 8, 9]), .st (.trim 1)] [.b true, .row [vi x.course, vi x.tries, vi x.best, Dp.v (Value.bool x.now)], .val (bool (decide (x.course ≥ Dr Dj (last + 1)) && decide (x.course ≤ 4095))), .val (bool (decide (x.tries ≥ 0) && decide (x.tries ≤ 100))), .val (bool (decide (x.best ≥ -1) && decide (x.best ≤ 12))), .b false] (by kernel_rfl) (.c hlt (.c hr (.c (@aN (x.course) (Dr Dj (last + 1)) 4095 (dC l e n d x)) (.c (gd (!!(decide (x.course ≥ Dr Dj (last + 1)) && decide (x.course ≤ 4095))) (@aN (x.tries) 0 100 (dC l e n d x))) (.c (gd (!(!(decide (x.course ≥ Dr Dj (last + 1)) && decide (x.course ≤ 4095)) || !(decide (x.tries ≥ 0) && decide (x.tries ≤ 100)))) (@aN (x.best) (-1) 12 (dC l e n d x))) (.c hc0 .n))))))) ?_ ?_ <;> (first | (have hh : oG last x = true := (by have := hc0; rw [hlw] at this; exact this); simp only [ftF, hh, cond_true]; first | done | rfl) | (have hh : oG last x = false := (by have := hc0; rw [hlw] at this; exact this); simp only [ftF, hh, cond_false]; first | done | rfl | (rw [hw]; rfl)))
 ·refine CW.cast (CW.symX (s' := { t := mkT 53 0 [(2, int 120)], h := [], m := [] }) (e := EY) pok [.st (.mask [2]), .st (.trim 0)] [.b true, .row [vi x.course, vi x.tries, vi x.best, Dp.v (Value.bool x.now)], .val (bool (decide (x.course ≥ Dr Dj (last + 1)) && decide (x.course ≤ 4095))), .val (bool (decide (x.tries ≥ 0) && decide (x.tries ≤ 100))), .val (bool (decide (x.best ≥ -1) && decide (x.best ≤ 12))), .b true] (by kernel_rfl) (.c hlt (.c hr (.c (@aN (x.course) (Dr Dj (last + 1)) 4095 (dC l e n d x)) (.c (gd (!!(decide (x.course ≥ Dr Dj (last + 1)) && decide (x.course ≤ 4095))) (@aN (x.tries) 0 100 (dC l e n d x))) (.c (gd (!(!(decide (x.course ≥ Dr Dj (last + 1)) && decide (x.course ≤ 4095)) || !(decide (x.tries ≥ 0) && decide (x.tries ≤ 100)))) (@aN (x.best) (-1) 12 (dC l e n d x))) (.c hc0 .n))))))) ?_ ?_ <;> (first | (have hh : oG last x = true := (by have := hc0; rw [hlw] at this; exact this); simp only [ftF, hh, cond_true]; first | done | rfl) | (have hh : oG last x = false := (by have := hc0; rw [hlw] at this; exact this); simp only [ftF, hh, cond_false]; first | done | rfl | (rw [hw]; rfl)))
theorem CQ {l : List (List Dp)} {e n d last : Int} {i : Nat} (hlt : decide ((i : Int) < (l.length : Int)) = false) : (CW Dg Γ0 [] false (sub Tryz.f58 0) (ftS l e n d last i) (.exit 0) (ftE l e n d)) := by
 exact CW.cast (CW.symX (s' := { t := mkT 53 0 [(1, .ref (.ptr 0 0))], h := [.var [ab l, int e, int n, int d]], m := [] }) (e := Ea 0) pok [.st (.mask [1])] [.b false] (by kernel_rfl) (.c hlt .n)) (by rfl) (by rfl)
def CS (l : List SeenT) (e n d : Int) : Exit × AS := cG (.exit 0) (fun _ : Int => ftE (l.map Ez) e n d) ftX (forL ftF l (-1))
theorem ft_bd {last : Int} {x : SeenT} {s : Int} (hl : -1 ≤ last) (h : ftF x last = .inl s) : -1 ≤ s ∧ s ≤ 4095 := by
 unfold ftF at h
 cases hb : oG last x <;> rw [hb] at h <;> simp at h
 subst h
 simp [oG] at hb
 omega
theorem ft_cw {l : List SeenT} {e n d : Int} (hl : al l) :
  CW Dg Γ0 [] false (.loop (sub Tryz.f58 0)) (ftS (l.map Ez) e n d (-1) 0) (CS l e n d).1 (CS l e n d).2 := by
 refine CW.each l ftF (fun i s => ftS (l.map Ez) e n d s (i : Int)) (.exit 0) (fun _ => ftE (l.map Ez) e n d) ftX (fun _ s => -1 ≤ s ∧ s ≤ 4095) (by simp) (fun _ => by simp []) ?_ ?_ (-1) (by omega)
 ·intro i x s hx hs
  have hi := (List.getElem?_eq_some_iff.1 hx).1
  exact ⟨fun s' h => ft_bd hs.1 h, CP (rowAt hx rfl) (wrap_i64 (by omega) (by omega)) (lt_len Ez hi) (wrap_succ hi hl)⟩
 ·intro s _
  exact CQ (cw Ez l)
def lX (l : List SeenT) (e n d : Int) : Int := match forL ftF l (-1) with
 | .inr _ => 120
 | .inl _ => bif (!(decide (e ≥ 0) && decide (e ≤ 10000)) || !(iZ n d)) then 120 else 0
theorem zt {l : List SeenT} {e n d : Int} (hl : al l) (hn : I64 n) (hd : I64 d) (h : List Blk) : (Ev Dg Γ0 58 [.agg [ab (l.map Ez), int e, int n, int d]] h (int (lX l e n d)) h) := by
 have hl0 := (@ft_cw (l) (e) (n) (d) (hl))
 unfold CS at hl0
 revert hl0
 cases ho1 : forL ftF l (-1) with
 | inl o1_0_0 =>
  intro hl0
  cases hc2 : !(decide (e ≥ 0) && decide (e ≤ 10000)) || !(uh n d == 0 && decide (n ≥ 0) && decide (n ≤ Dr Dj (12 * d)))
  ·let v0 : List Blk := [.var [ab (De Ez l), int e, int n, int d]]
   exact Dv (DR (d := int 0) pok [.sum [1, 2, 3, 7, 8, 9] (Ea 0) { t := mkT 53 0 [(1, .ref (.ptr 0 0))], h := v0, m := [] }, .val (bool (decide (e ≥ 0) && decide (e ≤ 10000))), .val (bool (uh n d == 0 && decide (n ≥ 0) && decide (n ≤ Dr Dj (12 * d)))), .b false] (by kernel_rfl) (.c hl0 (.c (@aN e 0 10000 (v0)) (.c (gd (!!(decide (e ≥ 0) && decide (e ≤ 10000))) (@rC n d hn hd (v0))) (.c hc2 .n)))) rfl rfl h) (by subst v0; first | (simp only [lX, ho1]; done) | (simp only [lX, iZ, ho1, hc2, cond_false]; first | done | rfl)) (by rfl)
  ·let v0 : List Blk := [.var [ab (De Ez l), int e, int n, int d]]
   exact Dv (DR (d := int 120) pok [.sum [1, 2, 3, 7, 8, 9] (Ea 0) { t := mkT 53 0 [(1, .ref (.ptr 0 0))], h := v0, m := [] }, .val (bool (decide (e ≥ 0) && decide (e ≤ 10000))), .val (bool (uh n d == 0 && decide (n ≥ 0) && decide (n ≤ Dr Dj (12 * d)))), .b true] (by kernel_rfl) (.c hl0 (.c (@aN e 0 10000 (v0)) (.c (gd (!!(decide (e ≥ 0) && decide (e ≤ 10000))) (@rC n d hn hd (v0))) (.c hc2 .n)))) rfl rfl h) (by subst v0; first | (simp only [lX, ho1]; done) | (simp only [lX, iZ, ho1, hc2, cond_true]; first | done | rfl)) (by rfl)
 | inr o1_1_0 =>
  intro hl0
  exact Dv (DR (d := int 120) pok [.sum [1, 2, 3, 7, 8, 9] (EY) { t := mkT 53 0 [(2, int 120)], h := [], m := [] }] (by kernel_rfl) (.c hl0 .n) rfl rfl h) (by first | (simp only [lX, ho1]; done) | (simp only [lX, iZ, ho1, cond_true, cond_false]; first | done | rfl)) (by rfl)
end Go.Vi
